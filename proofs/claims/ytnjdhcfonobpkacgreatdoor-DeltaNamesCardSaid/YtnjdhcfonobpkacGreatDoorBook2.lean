/- Calls that are known, part 2: each run by the kernel. -/
import Derived.Test.YtnjdhcfonobpkacGreatDoorAbs
import Derived.Test.YtnjdhcfonobpkacGreatDoorPaleBook
import Derived.KernelRfl
import Derived.Test.YtnjdhcfonobpkacGreatDoorBook1
set_option maxRecDepth 100000
set_option linter.unusedVariables false
namespace Go.Proofs.YtnjdhcfonobpkacGreatDoor
open Go Go.Proofs.YtnjdhcfonobpkacGreatDoor.Pale
noncomputable def book2 : Tr (List Page) := (.node none (.node none (.node none (.node none (.node none (.node none (.node (some [pg1, pg4, pg5, pg7, pg16, pg21, pg22, pg24, pg31, pg32, pg36, pg37, pg41, pg42, pg44, pg48, pg50, pg54, pg56]) .nil .nil) (.node (some [pg0, pg3, pg20, pg30, pg35, pg40, pg53]) .nil .nil)) .nil) .nil) .nil) (.node none (.node none (.node none (.node none (.node (some [pg6, pg8, pg10, pg12, pg13, pg15, pg17, pg23, pg25, pg27, pg28, pg29, pg33, pg38, pg43, pg45, pg49, pg51, pg57]) .nil .nil) .nil) .nil) .nil) .nil)) (.node none (.node none (.node none (.node (some [pg55]) .nil .nil) (.node none (.node none .nil (.node (some [pg9, pg11, pg14, pg18, pg26, pg34]) .nil .nil)) .nil)) .nil) .nil))
noncomputable def list2 : List (Nat × Page) := [(95, pg0), (63, pg1), (95, pg3), (63, pg4), (63, pg5), (65, pg6), (63, pg7), (65, pg8), (104, pg9), (65, pg10), (104, pg11), (65, pg12), (65, pg13), (104, pg14), (65, pg15), (63, pg16), (65, pg17), (104, pg18), (95, pg20), (63, pg21), (63, pg22), (65, pg23), (63, pg24), (65, pg25), (104, pg26), (65, pg27), (65, pg28), (65, pg29), (95, pg30), (63, pg31), (63, pg32), (65, pg33), (104, pg34), (95, pg35), (63, pg36), (63, pg37), (65, pg38), (95, pg40), (63, pg41), (63, pg42), (65, pg43), (63, pg44), (65, pg45), (63, pg48), (65, pg49), (63, pg50), (65, pg51), (95, pg53), (63, pg54), (16, pg55), (63, pg56), (65, pg57)]
theorem book2_eq : book2 = bookOf list2 := by kernel_rfl
theorem list2_ok : BookOk Tryz.prog absProg.glob list2 :=
  (.cons ok0 (.cons ok1 (.cons ok3 (.cons ok4 (.cons ok5 (.cons ok6 (.cons ok7 (.cons ok8 (.cons ok9 (.cons ok10 (.cons ok11 (.cons ok12 (.cons ok13 (.cons ok14 (.cons ok15 (.cons ok16 (.cons ok17 (.cons ok18 (.cons ok20 (.cons ok21 (.cons ok22 (.cons ok23 (.cons ok24 (.cons ok25 (.cons ok26 (.cons ok27 (.cons ok28 (.cons ok29 (.cons ok30 (.cons ok31 (.cons ok32 (.cons ok33 (.cons ok34 (.cons ok35 (.cons ok36 (.cons ok37 (.cons ok38 (.cons ok40 (.cons ok41 (.cons ok42 (.cons ok43 (.cons ok44 (.cons ok45 (.cons ok48 (.cons ok49 (.cons ok50 (.cons ok51 (.cons ok53 (.cons ok54 (.cons ok55 (.cons ok56 (.cons ok57 BookOk.nil))))))))))))))))))))))))))))))))))))))))))))))))))))
noncomputable def prog2 : AProg := absProg.withBook valB book2
theorem ok_prog2 : AOk Tryz.prog prog2 := absOk.withBook valB book2 (by rw [book2_eq]; exact bookOf_ok list2 list2_ok)
def pg2 : Page := ([.agg [.vs .nil [], .int .u8 3, .str [], .vs .nil []], .agg [.int .i64 0, .int .u8 0, .int .i64 0, .vs .nil [], .vs .nil [], .int .i64 0, .vs .nil [], .vs .some [.vs .nil [], .vs .nil []], .vs .some [.vs .nil [], .vs .nil []]]], .int .i64 0, true)
theorem ran2 : ranB prog2 1000 16 pg2 = true := by kernel_rfl
theorem ok2 : PageOk Tryz.prog absProg.glob 16 pg2 := PageOk.of_ran ok_prog2 ran2
def pg19 : Page := ([.agg [.vs .nil [], .int .u8 3, .str [], .vs .nil []], .agg [.int .i64 0, .int .u8 5, .int .i64 0, .vs .some [.int .i64 1, .int .i64 2], .vs .nil [], .int .i64 1, .vs .some [.agg [.int .i64 1, .int .i64 1, .int .u8 5, .int .i64 0, .vs .some [.int .i64 1, .int .i64 2], .vs .nil []]], .vs .some [.vs .some [.agg [.int .i64 1, .int .i64 1]], .vs .nil []], .vs .some [.vs .nil [], .vs .nil []]]], .int .i64 0, true)
theorem ran19 : ranB prog2 1000 16 pg19 = true := by kernel_rfl
theorem ok19 : PageOk Tryz.prog absProg.glob 16 pg19 := PageOk.of_ran ok_prog2 ran19
def pg39 : Page := ([.agg [.vs .nil [], .int .u8 3, .str [], .vs .nil []], .agg [.int .i64 0, .int .u8 5, .int .i64 0, .vs .some [.int .i64 1, .int .i64 2, .int .i64 3], .vs .nil [], .int .i64 2, .vs .some [.agg [.int .i64 1, .int .i64 1, .int .u8 5, .int .i64 0, .vs .some [.int .i64 1, .int .i64 2], .vs .nil []], .agg [.int .i64 2, .int .i64 2, .int .u8 5, .int .i64 0, .vs .some [.int .i64 3], .vs .nil []]], .vs .some [.vs .some [.agg [.int .i64 1, .int .i64 2]], .vs .nil []], .vs .some [.vs .nil [], .vs .nil []]]], .int .i64 0, true)
theorem ran39 : ranB prog2 1000 16 pg39 = true := by kernel_rfl
theorem ok39 : PageOk Tryz.prog absProg.glob 16 pg39 := PageOk.of_ran ok_prog2 ran39
def pg47 : Page := ([.agg [.vs .nil [], .int .u8 3, .str [], .vs .nil []], .agg [.int .i64 0, .int .u8 5, .int .i64 0, .vs .some [.int .i64 1, .int .i64 2, .int .i64 3], .vs .nil [], .int .i64 2, .vs .some [.agg [.int .i64 1, .int .i64 1, .int .u8 5, .int .i64 0, .vs .some [.int .i64 1, .int .i64 2], .vs .nil []], .agg [.int .i64 2, .int .i64 2, .int .u8 5, .int .i64 0, .vs .some [.int .i64 3], .vs .nil []]], .vs .some [.vs .some [.agg [.int .i64 1, .int .i64 2]], .vs .some []], .vs .some [.vs .some [], .vs .some []]]], .int .i64 0, true)
theorem ran47 : ranB prog2 1000 16 pg47 = true := by kernel_rfl
theorem ok47 : PageOk Tryz.prog absProg.glob 16 pg47 := PageOk.of_ran ok_prog2 ran47
def pg52 : Page := ([.agg [.vs .nil [], .int .u8 3, .str [], .vs .nil []], .agg [.int .i64 0, .int .u8 5, .int .i64 0, .vs .some [.int .i64 1, .int .i64 2, .int .i64 3], .vs .nil [], .int .i64 2, .vs .some [.agg [.int .i64 1, .int .i64 2, .int .u8 5, .int .i64 0, .vs .some [.int .i64 1, .int .i64 2, .int .i64 3], .vs .nil []]], .vs .some [.vs .some [.agg [.int .i64 1, .int .i64 2]], .vs .some []], .vs .some [.vs .some [], .vs .some []]]], .int .i64 0, true)
theorem ran52 : ranB prog2 1000 16 pg52 = true := by kernel_rfl
theorem ok52 : PageOk Tryz.prog absProg.glob 16 pg52 := PageOk.of_ran ok_prog2 ran52
def pg58 : Page := ([.agg [.vs .nil [], .int .u8 3, .str [], .vs .nil []], .agg [.int .i64 0, .int .u8 5, .int .i64 0, .vs .some [.int .i64 1, .int .i64 2, .int .i64 3], .vs .nil [], .int .i64 2, .vs .some [.agg [.int .i64 1, .int .i64 1, .int .u8 5, .int .i64 0, .vs .some [.int .i64 1, .int .i64 2], .vs .nil []], .agg [.int .i64 2, .int .i64 2, .int .u8 5, .int .i64 0, .vs .some [.int .i64 3], .vs .nil []]], .vs .some [.vs .some [.agg [.int .i64 1, .int .i64 2]], .vs .some []], .vs .some [.vs .some [], .vs .some [.agg [.int .i64 1, .int .i64 1]]]]], .int .i64 0, true)
theorem ran58 : ranB prog2 1000 16 pg58 = true := by kernel_rfl
theorem ok58 : PageOk Tryz.prog absProg.glob 16 pg58 := PageOk.of_ran ok_prog2 ran58
end Go.Proofs.YtnjdhcfonobpkacGreatDoor
