/- Calls that are known, part 1: each run by the kernel. -/
import Derived.Test.YtnjdhcfonobpkacGreatDoorAbs
import Derived.Test.YtnjdhcfonobpkacGreatDoorPaleBook
import Derived.KernelRfl
import Derived.Test.YtnjdhcfonobpkacGreatDoorBook0
set_option maxRecDepth 100000
set_option linter.unusedVariables false
namespace Go.Proofs.YtnjdhcfonobpkacGreatDoor
open Go Go.Proofs.YtnjdhcfonobpkacGreatDoor.Pale
noncomputable def book1 : Tr (List Page) := (.node none (.node none (.node none (.node none (.node none (.node none .nil (.node (some [pg0, pg3, pg20, pg30, pg35, pg40, pg53]) .nil .nil)) .nil) .nil) .nil) (.node none (.node none (.node none (.node none (.node (some [pg6, pg8, pg10, pg12, pg13, pg15, pg17, pg23, pg25, pg27, pg28, pg29, pg33, pg38, pg43, pg45, pg49, pg51, pg57]) .nil .nil) .nil) .nil) .nil) .nil)) (.node none (.node none (.node none (.node (some [pg55]) .nil .nil) (.node none (.node none .nil (.node (some [pg9, pg11, pg14, pg18, pg26, pg34]) .nil .nil)) .nil)) .nil) .nil))
noncomputable def list1 : List (Nat × Page) := [(95, pg0), (95, pg3), (65, pg6), (65, pg8), (104, pg9), (65, pg10), (104, pg11), (65, pg12), (65, pg13), (104, pg14), (65, pg15), (65, pg17), (104, pg18), (95, pg20), (65, pg23), (65, pg25), (104, pg26), (65, pg27), (65, pg28), (65, pg29), (95, pg30), (65, pg33), (104, pg34), (95, pg35), (65, pg38), (95, pg40), (65, pg43), (65, pg45), (65, pg49), (65, pg51), (95, pg53), (16, pg55), (65, pg57)]
theorem book1_eq : book1 = bookOf list1 := by kernel_rfl
theorem list1_ok : BookOk Tryz.prog absProg.glob list1 :=
  (.cons ok0 (.cons ok3 (.cons ok6 (.cons ok8 (.cons ok9 (.cons ok10 (.cons ok11 (.cons ok12 (.cons ok13 (.cons ok14 (.cons ok15 (.cons ok17 (.cons ok18 (.cons ok20 (.cons ok23 (.cons ok25 (.cons ok26 (.cons ok27 (.cons ok28 (.cons ok29 (.cons ok30 (.cons ok33 (.cons ok34 (.cons ok35 (.cons ok38 (.cons ok40 (.cons ok43 (.cons ok45 (.cons ok49 (.cons ok51 (.cons ok53 (.cons ok55 (.cons ok57 BookOk.nil)))))))))))))))))))))))))))))))))
noncomputable def prog1 : AProg := absProg.withBook valB book1
theorem ok_prog1 : AOk Tryz.prog prog1 := absOk.withBook valB book1 (by rw [book1_eq]; exact bookOf_ok list1 list1_ok)
def pg1 : Page := ([.agg [.vs .nil [], .int .u8 3, .str [], .vs .nil []], .vs .some [.agg [.int .u8 0, .int .i64 0, .vs .nil [], .vs .nil []]]], .tuple [.agg [.vs .nil [], .int .u8 3, .str [], .vs .nil []], .int .i64 0], true)
theorem ran1 : ranB prog1 1000 63 pg1 = true := by kernel_rfl
theorem ok1 : PageOk Tryz.prog absProg.glob 63 pg1 := PageOk.of_ran ok_prog1 ran1
def pg4 : Page := ([.agg [.vs .nil [], .int .u8 3, .str [], .vs .nil []], .vs .some [.agg [.int .u8 5, .int .i64 0, .vs .some [.int .i64 1, .int .i64 2], .vs .nil []]]], .tuple [.agg [.vs .nil [], .int .u8 3, .str [], .vs .nil []], .int .i64 0], true)
theorem ran4 : ranB prog1 1000 63 pg4 = true := by kernel_rfl
theorem ok4 : PageOk Tryz.prog absProg.glob 63 pg4 := PageOk.of_ran ok_prog1 ran4
def pg5 : Page := ([.agg [.vs .nil [], .int .u8 3, .str [], .vs .nil []], .vs .some [.agg [.int .u8 0, .int .i64 0, .vs .nil [], .vs .nil []], .agg [.int .u8 5, .int .i64 0, .vs .some [.int .i64 1, .int .i64 2], .vs .nil []]]], .tuple [.agg [.vs .nil [], .int .u8 3, .str [], .vs .nil []], .int .i64 0], true)
theorem ran5 : ranB prog1 1000 63 pg5 = true := by kernel_rfl
theorem ok5 : PageOk Tryz.prog absProg.glob 63 pg5 := PageOk.of_ran ok_prog1 ran5
def pg7 : Page := ([.agg [.vs .nil [], .int .u8 3, .str [], .vs .nil []], .vs .some [.agg [.int .u8 5, .int .i64 0, .vs .some [.int .i64 1, .int .i64 2], .vs .nil []], .agg [.int .u8 0, .int .i64 0, .vs .nil [], .vs .nil []]]], .tuple [.agg [.vs .nil [], .int .u8 3, .str [], .vs .nil []], .int .i64 0], true)
theorem ran7 : ranB prog1 1000 63 pg7 = true := by kernel_rfl
theorem ok7 : PageOk Tryz.prog absProg.glob 63 pg7 := PageOk.of_ran ok_prog1 ran7
def pg16 : Page := ([.agg [.vs .nil [], .int .u8 3, .str [], .vs .nil []], .vs .some [.agg [.int .u8 5, .int .i64 0, .vs .some [.int .i64 1, .int .i64 2], .vs .nil []], .agg [.int .u8 5, .int .i64 0, .vs .some [.int .i64 1, .int .i64 2], .vs .nil []]]], .tuple [.agg [.vs .nil [], .int .u8 3, .str [], .vs .nil []], .int .i64 0], true)
theorem ran16 : ranB prog1 1000 63 pg16 = true := by kernel_rfl
theorem ok16 : PageOk Tryz.prog absProg.glob 63 pg16 := PageOk.of_ran ok_prog1 ran16
def pg21 : Page := ([.agg [.vs .nil [], .int .u8 3, .str [], .vs .nil []], .vs .some [.agg [.int .u8 5, .int .i64 0, .vs .some [.int .i64 2, .int .i64 3], .vs .nil []]]], .tuple [.agg [.vs .nil [], .int .u8 3, .str [], .vs .nil []], .int .i64 0], true)
theorem ran21 : ranB prog1 1000 63 pg21 = true := by kernel_rfl
theorem ok21 : PageOk Tryz.prog absProg.glob 63 pg21 := PageOk.of_ran ok_prog1 ran21
def pg22 : Page := ([.agg [.vs .nil [], .int .u8 3, .str [], .vs .nil []], .vs .some [.agg [.int .u8 5, .int .i64 0, .vs .some [.int .i64 1, .int .i64 2], .vs .nil []], .agg [.int .u8 5, .int .i64 0, .vs .some [.int .i64 2, .int .i64 3], .vs .nil []]]], .tuple [.agg [.vs .nil [], .int .u8 3, .str [], .vs .nil []], .int .i64 0], true)
theorem ran22 : ranB prog1 1000 63 pg22 = true := by kernel_rfl
theorem ok22 : PageOk Tryz.prog absProg.glob 63 pg22 := PageOk.of_ran ok_prog1 ran22
def pg24 : Page := ([.agg [.vs .nil [], .int .u8 3, .str [], .vs .nil []], .vs .some [.agg [.int .u8 5, .int .i64 0, .vs .some [.int .i64 2, .int .i64 3], .vs .nil []], .agg [.int .u8 5, .int .i64 0, .vs .some [.int .i64 1, .int .i64 2], .vs .nil []]]], .tuple [.agg [.vs .nil [], .int .u8 3, .str [], .vs .nil []], .int .i64 0], true)
theorem ran24 : ranB prog1 1000 63 pg24 = true := by kernel_rfl
theorem ok24 : PageOk Tryz.prog absProg.glob 63 pg24 := PageOk.of_ran ok_prog1 ran24
def pg31 : Page := ([.agg [.vs .nil [], .int .u8 3, .str [], .vs .nil []], .vs .some [.agg [.int .u8 5, .int .i64 0, .vs .some [.int .i64 1, .int .i64 2, .int .i64 3], .vs .nil []]]], .tuple [.agg [.vs .nil [], .int .u8 3, .str [], .vs .nil []], .int .i64 0], true)
theorem ran31 : ranB prog1 1000 63 pg31 = true := by kernel_rfl
theorem ok31 : PageOk Tryz.prog absProg.glob 63 pg31 := PageOk.of_ran ok_prog1 ran31
def pg32 : Page := ([.agg [.vs .nil [], .int .u8 3, .str [], .vs .nil []], .vs .some [.agg [.int .u8 5, .int .i64 0, .vs .some [.int .i64 1, .int .i64 2], .vs .nil []], .agg [.int .u8 5, .int .i64 0, .vs .some [.int .i64 1, .int .i64 2, .int .i64 3], .vs .nil []]]], .tuple [.agg [.vs .nil [], .int .u8 3, .str [], .vs .nil []], .int .i64 0], true)
theorem ran32 : ranB prog1 1000 63 pg32 = true := by kernel_rfl
theorem ok32 : PageOk Tryz.prog absProg.glob 63 pg32 := PageOk.of_ran ok_prog1 ran32
def pg36 : Page := ([.agg [.vs .nil [], .int .u8 3, .str [], .vs .nil []], .vs .some [.agg [.int .u8 5, .int .i64 0, .vs .some [.int .i64 3], .vs .nil []]]], .tuple [.agg [.vs .nil [], .int .u8 3, .str [], .vs .nil []], .int .i64 0], true)
theorem ran36 : ranB prog1 1000 63 pg36 = true := by kernel_rfl
theorem ok36 : PageOk Tryz.prog absProg.glob 63 pg36 := PageOk.of_ran ok_prog1 ran36
def pg37 : Page := ([.agg [.vs .nil [], .int .u8 3, .str [], .vs .nil []], .vs .some [.agg [.int .u8 5, .int .i64 0, .vs .some [.int .i64 3], .vs .nil []], .agg [.int .u8 5, .int .i64 0, .vs .some [.int .i64 1, .int .i64 2, .int .i64 3], .vs .nil []]]], .tuple [.agg [.vs .nil [], .int .u8 3, .str [], .vs .nil []], .int .i64 0], true)
theorem ran37 : ranB prog1 1000 63 pg37 = true := by kernel_rfl
theorem ok37 : PageOk Tryz.prog absProg.glob 63 pg37 := PageOk.of_ran ok_prog1 ran37
def pg41 : Page := ([.agg [.vs .nil [], .int .u8 3, .str [], .vs .nil []], .vs .some [.agg [.int .u8 5, .int .i64 0, .vs .some [.int .i64 1], .vs .nil []]]], .tuple [.agg [.vs .nil [], .int .u8 3, .str [], .vs .nil []], .int .i64 0], true)
theorem ran41 : ranB prog1 1000 63 pg41 = true := by kernel_rfl
theorem ok41 : PageOk Tryz.prog absProg.glob 63 pg41 := PageOk.of_ran ok_prog1 ran41
def pg42 : Page := ([.agg [.vs .nil [], .int .u8 3, .str [], .vs .nil []], .vs .some [.agg [.int .u8 5, .int .i64 0, .vs .some [.int .i64 1, .int .i64 2, .int .i64 3], .vs .nil []], .agg [.int .u8 5, .int .i64 0, .vs .some [.int .i64 1], .vs .nil []]]], .tuple [.agg [.vs .nil [], .int .u8 3, .str [], .vs .nil []], .int .i64 0], true)
theorem ran42 : ranB prog1 1000 63 pg42 = true := by kernel_rfl
theorem ok42 : PageOk Tryz.prog absProg.glob 63 pg42 := PageOk.of_ran ok_prog1 ran42
def pg44 : Page := ([.agg [.vs .nil [], .int .u8 3, .str [], .vs .nil []], .vs .some [.agg [.int .u8 5, .int .i64 0, .vs .some [.int .i64 1], .vs .nil []], .agg [.int .u8 5, .int .i64 0, .vs .some [.int .i64 1, .int .i64 2, .int .i64 3], .vs .nil []]]], .tuple [.agg [.vs .nil [], .int .u8 3, .str [], .vs .nil []], .int .i64 0], true)
theorem ran44 : ranB prog1 1000 63 pg44 = true := by kernel_rfl
theorem ok44 : PageOk Tryz.prog absProg.glob 63 pg44 := PageOk.of_ran ok_prog1 ran44
def pg48 : Page := ([.agg [.vs .nil [], .int .u8 3, .str [], .vs .nil []], .vs .some [.agg [.int .u8 5, .int .i64 0, .vs .some [.int .i64 1, .int .i64 2], .vs .nil []], .agg [.int .u8 5, .int .i64 0, .vs .some [.int .i64 3], .vs .nil []]]], .tuple [.agg [.vs .nil [], .int .u8 3, .str [], .vs .nil []], .int .i64 0], true)
theorem ran48 : ranB prog1 1000 63 pg48 = true := by kernel_rfl
theorem ok48 : PageOk Tryz.prog absProg.glob 63 pg48 := PageOk.of_ran ok_prog1 ran48
def pg50 : Page := ([.agg [.vs .nil [], .int .u8 3, .str [], .vs .nil []], .vs .some [.agg [.int .u8 5, .int .i64 0, .vs .some [.int .i64 1, .int .i64 2, .int .i64 3], .vs .nil []], .agg [.int .u8 5, .int .i64 0, .vs .some [.int .i64 1, .int .i64 2, .int .i64 3], .vs .nil []]]], .tuple [.agg [.vs .nil [], .int .u8 3, .str [], .vs .nil []], .int .i64 0], true)
theorem ran50 : ranB prog1 1000 63 pg50 = true := by kernel_rfl
theorem ok50 : PageOk Tryz.prog absProg.glob 63 pg50 := PageOk.of_ran ok_prog1 ran50
def pg54 : Page := ([.agg [.vs .nil [], .int .u8 3, .str [], .vs .nil []], .vs .some [.agg [.int .u8 1, .int .i64 0, .vs .nil [], .vs .nil []]]], .tuple [.agg [.vs .nil [], .int .u8 3, .str [], .vs .nil []], .int .i64 2], true)
theorem ran54 : ranB prog1 1000 63 pg54 = true := by kernel_rfl
theorem ok54 : PageOk Tryz.prog absProg.glob 63 pg54 := PageOk.of_ran ok_prog1 ran54
def pg56 : Page := ([.agg [.vs .nil [], .int .u8 3, .str [], .vs .nil []], .vs .some [.agg [.int .u8 5, .int .i64 0, .vs .some [.int .i64 1, .int .i64 2, .int .i64 3], .vs .nil []], .agg [.int .u8 0, .int .i64 0, .vs .nil [], .vs .nil []]]], .tuple [.agg [.vs .nil [], .int .u8 3, .str [], .vs .nil []], .int .i64 0], true)
theorem ran56 : ranB prog1 1000 63 pg56 = true := by kernel_rfl
theorem ok56 : PageOk Tryz.prog absProg.glob 63 pg56 := PageOk.of_ran ok_prog1 ran56
end Go.Proofs.YtnjdhcfonobpkacGreatDoor
