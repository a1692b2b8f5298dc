/- Calls that are known, part 0: each run by the kernel. -/
import Derived.Test.YtnjdhcfonobpkacGreatDoorAbs
import Derived.Test.YtnjdhcfonobpkacGreatDoorPaleBook
import Derived.KernelRfl
set_option maxRecDepth 100000
set_option linter.unusedVariables false
namespace Go.Proofs.YtnjdhcfonobpkacGreatDoor
open Go Go.Proofs.YtnjdhcfonobpkacGreatDoor.Pale
noncomputable def valT : Tr Unit := (.node none (.node none (.node none (.node none (.node none (.node none (.node (some ()) .nil .nil) (.node (some ()) .nil .nil)) .nil) .nil) .nil) (.node none (.node none (.node none (.node none (.node (some ()) .nil .nil) .nil) .nil) .nil) .nil)) (.node none (.node (some ()) (.node none (.node (some ()) .nil .nil) (.node none (.node none .nil (.node (some ()) .nil .nil)) .nil)) .nil) .nil))
noncomputable def valB (_ g : Nat) : Bool := match valT.get g with
  | some _ => true
  | none => false
noncomputable def book0 : Tr (List Page) := .nil
noncomputable def list0 : List (Nat × Page) := []
theorem book0_eq : book0 = bookOf list0 := by kernel_rfl
theorem list0_ok : BookOk Tryz.prog absProg.glob list0 :=
  BookOk.nil
noncomputable def prog0 : AProg := absProg.withBook valB book0
theorem ok_prog0 : AOk Tryz.prog prog0 := absOk.withBook valB book0 (by rw [book0_eq]; exact bookOf_ok list0 list0_ok)
def pg0 : Page := ([.agg [.vs .nil [], .int .u8 3, .str [], .vs .nil []], .agg [.int .u8 3, .str [], .vs .nil []], .agg [.int .u8 0, .int .i64 0, .vs .nil [], .vs .nil []]], .bool true, true)
theorem ran0 : ranB prog0 1000 95 pg0 = true := by kernel_rfl
theorem ok0 : PageOk Tryz.prog absProg.glob 95 pg0 := PageOk.of_ran ok_prog0 ran0
def pg3 : Page := ([.agg [.vs .nil [], .int .u8 3, .str [], .vs .nil []], .agg [.int .u8 3, .str [], .vs .nil []], .agg [.int .u8 5, .int .i64 0, .vs .some [.int .i64 1, .int .i64 2], .vs .nil []]], .bool true, true)
theorem ran3 : ranB prog0 1000 95 pg3 = true := by kernel_rfl
theorem ok3 : PageOk Tryz.prog absProg.glob 95 pg3 := PageOk.of_ran ok_prog0 ran3
def pg6 : Page := ([.agg [.vs .nil [], .int .u8 3, .str [], .vs .nil []], .agg [.int .u8 3, .str [], .vs .nil []], .agg [.int .u8 0, .int .i64 0, .vs .nil [], .vs .nil []], .agg [.int .u8 5, .int .i64 0, .vs .some [.int .i64 1, .int .i64 2], .vs .nil []]], .agg [.int .u8 5, .int .i64 0, .vs .some [.int .i64 1, .int .i64 2], .vs .nil []], true)
theorem ran6 : ranB prog0 1000 65 pg6 = true := by kernel_rfl
theorem ok6 : PageOk Tryz.prog absProg.glob 65 pg6 := PageOk.of_ran ok_prog0 ran6
def pg8 : Page := ([.agg [.vs .nil [], .int .u8 3, .str [], .vs .nil []], .agg [.int .u8 3, .str [], .vs .nil []], .agg [.int .u8 5, .int .i64 0, .vs .some [.int .i64 1, .int .i64 2], .vs .nil []], .agg [.int .u8 0, .int .i64 0, .vs .nil [], .vs .nil []]], .agg [.int .u8 5, .int .i64 0, .vs .some [.int .i64 1, .int .i64 2], .vs .nil []], true)
theorem ran8 : ranB prog0 1000 65 pg8 = true := by kernel_rfl
theorem ok8 : PageOk Tryz.prog absProg.glob 65 pg8 := PageOk.of_ran ok_prog0 ran8
def pg9 : Page := ([.agg [.int .u8 5, .int .i64 0, .vs .some [.int .i64 1, .int .i64 2], .vs .nil []], .agg [.int .u8 0, .int .i64 0, .vs .nil [], .vs .nil []]], .int .i64 1, true)
theorem ran9 : ranB prog0 1000 104 pg9 = true := by kernel_rfl
theorem ok9 : PageOk Tryz.prog absProg.glob 104 pg9 := PageOk.of_ran ok_prog0 ran9
def pg10 : Page := ([.agg [.vs .nil [], .int .u8 3, .str [], .vs .nil []], .agg [.int .u8 3, .str [], .vs .nil []], .agg [.int .u8 5, .int .i64 0, .vs .some [.int .i64 1], .vs .nil []], .agg [.int .u8 0, .int .i64 0, .vs .nil [], .vs .nil []]], .agg [.int .u8 5, .int .i64 0, .vs .some [.int .i64 1], .vs .nil []], true)
theorem ran10 : ranB prog0 1000 65 pg10 = true := by kernel_rfl
theorem ok10 : PageOk Tryz.prog absProg.glob 65 pg10 := PageOk.of_ran ok_prog0 ran10
def pg11 : Page := ([.agg [.int .u8 5, .int .i64 0, .vs .some [.int .i64 1], .vs .nil []], .agg [.int .u8 0, .int .i64 0, .vs .nil [], .vs .nil []]], .int .i64 1, true)
theorem ran11 : ranB prog0 1000 104 pg11 = true := by kernel_rfl
theorem ok11 : PageOk Tryz.prog absProg.glob 104 pg11 := PageOk.of_ran ok_prog0 ran11
def pg12 : Page := ([.agg [.vs .nil [], .int .u8 3, .str [], .vs .nil []], .agg [.int .u8 3, .str [], .vs .nil []], .agg [.int .u8 0, .int .i64 0, .vs .nil [], .vs .nil []], .agg [.int .u8 5, .int .i64 0, .vs .some [.int .i64 1], .vs .nil []]], .agg [.int .u8 5, .int .i64 0, .vs .some [.int .i64 1], .vs .nil []], true)
theorem ran12 : ranB prog0 1000 65 pg12 = true := by kernel_rfl
theorem ok12 : PageOk Tryz.prog absProg.glob 65 pg12 := PageOk.of_ran ok_prog0 ran12
def pg13 : Page := ([.agg [.vs .nil [], .int .u8 3, .str [], .vs .nil []], .agg [.int .u8 3, .str [], .vs .nil []], .agg [.int .u8 5, .int .i64 0, .vs .some [.int .i64 2], .vs .nil []], .agg [.int .u8 0, .int .i64 0, .vs .nil [], .vs .nil []]], .agg [.int .u8 5, .int .i64 0, .vs .some [.int .i64 2], .vs .nil []], true)
theorem ran13 : ranB prog0 1000 65 pg13 = true := by kernel_rfl
theorem ok13 : PageOk Tryz.prog absProg.glob 65 pg13 := PageOk.of_ran ok_prog0 ran13
def pg14 : Page := ([.agg [.int .u8 5, .int .i64 0, .vs .some [.int .i64 2], .vs .nil []], .agg [.int .u8 0, .int .i64 0, .vs .nil [], .vs .nil []]], .int .i64 1, true)
theorem ran14 : ranB prog0 1000 104 pg14 = true := by kernel_rfl
theorem ok14 : PageOk Tryz.prog absProg.glob 104 pg14 := PageOk.of_ran ok_prog0 ran14
def pg15 : Page := ([.agg [.vs .nil [], .int .u8 3, .str [], .vs .nil []], .agg [.int .u8 3, .str [], .vs .nil []], .agg [.int .u8 5, .int .i64 0, .vs .some [.int .i64 1], .vs .nil []], .agg [.int .u8 5, .int .i64 0, .vs .some [.int .i64 2], .vs .nil []]], .agg [.int .u8 5, .int .i64 0, .vs .some [.int .i64 1, .int .i64 2], .vs .nil []], true)
theorem ran15 : ranB prog0 1000 65 pg15 = true := by kernel_rfl
theorem ok15 : PageOk Tryz.prog absProg.glob 65 pg15 := PageOk.of_ran ok_prog0 ran15
def pg17 : Page := ([.agg [.vs .nil [], .int .u8 3, .str [], .vs .nil []], .agg [.int .u8 3, .str [], .vs .nil []], .agg [.int .u8 5, .int .i64 0, .vs .some [.int .i64 1, .int .i64 2], .vs .nil []], .agg [.int .u8 5, .int .i64 0, .vs .some [.int .i64 1, .int .i64 2], .vs .nil []]], .agg [.int .u8 5, .int .i64 0, .vs .some [.int .i64 1, .int .i64 2], .vs .nil []], true)
theorem ran17 : ranB prog0 1000 65 pg17 = true := by kernel_rfl
theorem ok17 : PageOk Tryz.prog absProg.glob 65 pg17 := PageOk.of_ran ok_prog0 ran17
def pg18 : Page := ([.agg [.int .u8 5, .int .i64 0, .vs .some [.int .i64 1, .int .i64 2], .vs .nil []], .agg [.int .u8 5, .int .i64 0, .vs .some [.int .i64 1, .int .i64 2], .vs .nil []]], .int .i64 0, true)
theorem ran18 : ranB prog0 1000 104 pg18 = true := by kernel_rfl
theorem ok18 : PageOk Tryz.prog absProg.glob 104 pg18 := PageOk.of_ran ok_prog0 ran18
def pg20 : Page := ([.agg [.vs .nil [], .int .u8 3, .str [], .vs .nil []], .agg [.int .u8 3, .str [], .vs .nil []], .agg [.int .u8 5, .int .i64 0, .vs .some [.int .i64 2, .int .i64 3], .vs .nil []]], .bool true, true)
theorem ran20 : ranB prog0 1000 95 pg20 = true := by kernel_rfl
theorem ok20 : PageOk Tryz.prog absProg.glob 95 pg20 := PageOk.of_ran ok_prog0 ran20
def pg23 : Page := ([.agg [.vs .nil [], .int .u8 3, .str [], .vs .nil []], .agg [.int .u8 3, .str [], .vs .nil []], .agg [.int .u8 5, .int .i64 0, .vs .some [.int .i64 1, .int .i64 2], .vs .nil []], .agg [.int .u8 5, .int .i64 0, .vs .some [.int .i64 2, .int .i64 3], .vs .nil []]], .agg [.int .u8 5, .int .i64 0, .vs .some [.int .i64 1, .int .i64 2, .int .i64 3], .vs .nil []], true)
theorem ran23 : ranB prog0 1000 65 pg23 = true := by kernel_rfl
theorem ok23 : PageOk Tryz.prog absProg.glob 65 pg23 := PageOk.of_ran ok_prog0 ran23
def pg25 : Page := ([.agg [.vs .nil [], .int .u8 3, .str [], .vs .nil []], .agg [.int .u8 3, .str [], .vs .nil []], .agg [.int .u8 5, .int .i64 0, .vs .some [.int .i64 2, .int .i64 3], .vs .nil []], .agg [.int .u8 5, .int .i64 0, .vs .some [.int .i64 1, .int .i64 2], .vs .nil []]], .agg [.int .u8 5, .int .i64 0, .vs .some [.int .i64 1, .int .i64 2, .int .i64 3], .vs .nil []], true)
theorem ran25 : ranB prog0 1000 65 pg25 = true := by kernel_rfl
theorem ok25 : PageOk Tryz.prog absProg.glob 65 pg25 := PageOk.of_ran ok_prog0 ran25
def pg26 : Page := ([.agg [.int .u8 5, .int .i64 0, .vs .some [.int .i64 1, .int .i64 2, .int .i64 3], .vs .nil []], .agg [.int .u8 5, .int .i64 0, .vs .some [.int .i64 1, .int .i64 2], .vs .nil []]], .int .i64 1, true)
theorem ran26 : ranB prog0 1000 104 pg26 = true := by kernel_rfl
theorem ok26 : PageOk Tryz.prog absProg.glob 104 pg26 := PageOk.of_ran ok_prog0 ran26
def pg27 : Page := ([.agg [.vs .nil [], .int .u8 3, .str [], .vs .nil []], .agg [.int .u8 3, .str [], .vs .nil []], .agg [.int .u8 5, .int .i64 0, .vs .some [.int .i64 2], .vs .nil []], .agg [.int .u8 5, .int .i64 0, .vs .some [.int .i64 1, .int .i64 2], .vs .nil []]], .agg [.int .u8 5, .int .i64 0, .vs .some [.int .i64 1, .int .i64 2], .vs .nil []], true)
theorem ran27 : ranB prog0 1000 65 pg27 = true := by kernel_rfl
theorem ok27 : PageOk Tryz.prog absProg.glob 65 pg27 := PageOk.of_ran ok_prog0 ran27
def pg28 : Page := ([.agg [.vs .nil [], .int .u8 3, .str [], .vs .nil []], .agg [.int .u8 3, .str [], .vs .nil []], .agg [.int .u8 5, .int .i64 0, .vs .some [.int .i64 3], .vs .nil []], .agg [.int .u8 5, .int .i64 0, .vs .some [.int .i64 1, .int .i64 2], .vs .nil []]], .agg [.int .u8 5, .int .i64 0, .vs .some [.int .i64 1, .int .i64 2, .int .i64 3], .vs .nil []], true)
theorem ran28 : ranB prog0 1000 65 pg28 = true := by kernel_rfl
theorem ok28 : PageOk Tryz.prog absProg.glob 65 pg28 := PageOk.of_ran ok_prog0 ran28
def pg29 : Page := ([.agg [.vs .nil [], .int .u8 3, .str [], .vs .nil []], .agg [.int .u8 3, .str [], .vs .nil []], .agg [.int .u8 0, .int .i64 0, .vs .nil [], .vs .nil []], .agg [.int .u8 5, .int .i64 0, .vs .some [.int .i64 3], .vs .nil []]], .agg [.int .u8 5, .int .i64 0, .vs .some [.int .i64 3], .vs .nil []], true)
theorem ran29 : ranB prog0 1000 65 pg29 = true := by kernel_rfl
theorem ok29 : PageOk Tryz.prog absProg.glob 65 pg29 := PageOk.of_ran ok_prog0 ran29
def pg30 : Page := ([.agg [.vs .nil [], .int .u8 3, .str [], .vs .nil []], .agg [.int .u8 3, .str [], .vs .nil []], .agg [.int .u8 5, .int .i64 0, .vs .some [.int .i64 1, .int .i64 2, .int .i64 3], .vs .nil []]], .bool true, true)
theorem ran30 : ranB prog0 1000 95 pg30 = true := by kernel_rfl
theorem ok30 : PageOk Tryz.prog absProg.glob 95 pg30 := PageOk.of_ran ok_prog0 ran30
def pg33 : Page := ([.agg [.vs .nil [], .int .u8 3, .str [], .vs .nil []], .agg [.int .u8 3, .str [], .vs .nil []], .agg [.int .u8 5, .int .i64 0, .vs .some [.int .i64 1, .int .i64 2], .vs .nil []], .agg [.int .u8 5, .int .i64 0, .vs .some [.int .i64 1, .int .i64 2, .int .i64 3], .vs .nil []]], .agg [.int .u8 5, .int .i64 0, .vs .some [.int .i64 1, .int .i64 2, .int .i64 3], .vs .nil []], true)
theorem ran33 : ranB prog0 1000 65 pg33 = true := by kernel_rfl
theorem ok33 : PageOk Tryz.prog absProg.glob 65 pg33 := PageOk.of_ran ok_prog0 ran33
def pg34 : Page := ([.agg [.int .u8 5, .int .i64 0, .vs .some [.int .i64 1, .int .i64 2, .int .i64 3], .vs .nil []], .agg [.int .u8 5, .int .i64 0, .vs .some [.int .i64 1, .int .i64 2, .int .i64 3], .vs .nil []]], .int .i64 0, true)
theorem ran34 : ranB prog0 1000 104 pg34 = true := by kernel_rfl
theorem ok34 : PageOk Tryz.prog absProg.glob 104 pg34 := PageOk.of_ran ok_prog0 ran34
def pg35 : Page := ([.agg [.vs .nil [], .int .u8 3, .str [], .vs .nil []], .agg [.int .u8 3, .str [], .vs .nil []], .agg [.int .u8 5, .int .i64 0, .vs .some [.int .i64 3], .vs .nil []]], .bool true, true)
theorem ran35 : ranB prog0 1000 95 pg35 = true := by kernel_rfl
theorem ok35 : PageOk Tryz.prog absProg.glob 95 pg35 := PageOk.of_ran ok_prog0 ran35
def pg38 : Page := ([.agg [.vs .nil [], .int .u8 3, .str [], .vs .nil []], .agg [.int .u8 3, .str [], .vs .nil []], .agg [.int .u8 5, .int .i64 0, .vs .some [.int .i64 3], .vs .nil []], .agg [.int .u8 5, .int .i64 0, .vs .some [.int .i64 1, .int .i64 2, .int .i64 3], .vs .nil []]], .agg [.int .u8 5, .int .i64 0, .vs .some [.int .i64 1, .int .i64 2, .int .i64 3], .vs .nil []], true)
theorem ran38 : ranB prog0 1000 65 pg38 = true := by kernel_rfl
theorem ok38 : PageOk Tryz.prog absProg.glob 65 pg38 := PageOk.of_ran ok_prog0 ran38
def pg40 : Page := ([.agg [.vs .nil [], .int .u8 3, .str [], .vs .nil []], .agg [.int .u8 3, .str [], .vs .nil []], .agg [.int .u8 5, .int .i64 0, .vs .some [.int .i64 1], .vs .nil []]], .bool true, true)
theorem ran40 : ranB prog0 1000 95 pg40 = true := by kernel_rfl
theorem ok40 : PageOk Tryz.prog absProg.glob 95 pg40 := PageOk.of_ran ok_prog0 ran40
def pg43 : Page := ([.agg [.vs .nil [], .int .u8 3, .str [], .vs .nil []], .agg [.int .u8 3, .str [], .vs .nil []], .agg [.int .u8 5, .int .i64 0, .vs .some [.int .i64 1, .int .i64 2, .int .i64 3], .vs .nil []], .agg [.int .u8 5, .int .i64 0, .vs .some [.int .i64 1], .vs .nil []]], .agg [.int .u8 5, .int .i64 0, .vs .some [.int .i64 1, .int .i64 2, .int .i64 3], .vs .nil []], true)
theorem ran43 : ranB prog0 1000 65 pg43 = true := by kernel_rfl
theorem ok43 : PageOk Tryz.prog absProg.glob 65 pg43 := PageOk.of_ran ok_prog0 ran43
def pg45 : Page := ([.agg [.vs .nil [], .int .u8 3, .str [], .vs .nil []], .agg [.int .u8 3, .str [], .vs .nil []], .agg [.int .u8 5, .int .i64 0, .vs .some [.int .i64 1], .vs .nil []], .agg [.int .u8 5, .int .i64 0, .vs .some [.int .i64 1, .int .i64 2, .int .i64 3], .vs .nil []]], .agg [.int .u8 5, .int .i64 0, .vs .some [.int .i64 1, .int .i64 2, .int .i64 3], .vs .nil []], true)
theorem ran45 : ranB prog0 1000 65 pg45 = true := by kernel_rfl
theorem ok45 : PageOk Tryz.prog absProg.glob 65 pg45 := PageOk.of_ran ok_prog0 ran45
def pg49 : Page := ([.agg [.vs .nil [], .int .u8 3, .str [], .vs .nil []], .agg [.int .u8 3, .str [], .vs .nil []], .agg [.int .u8 5, .int .i64 0, .vs .some [.int .i64 1, .int .i64 2], .vs .nil []], .agg [.int .u8 5, .int .i64 0, .vs .some [.int .i64 3], .vs .nil []]], .agg [.int .u8 5, .int .i64 0, .vs .some [.int .i64 1, .int .i64 2, .int .i64 3], .vs .nil []], true)
theorem ran49 : ranB prog0 1000 65 pg49 = true := by kernel_rfl
theorem ok49 : PageOk Tryz.prog absProg.glob 65 pg49 := PageOk.of_ran ok_prog0 ran49
def pg51 : Page := ([.agg [.vs .nil [], .int .u8 3, .str [], .vs .nil []], .agg [.int .u8 3, .str [], .vs .nil []], .agg [.int .u8 5, .int .i64 0, .vs .some [.int .i64 1, .int .i64 2, .int .i64 3], .vs .nil []], .agg [.int .u8 5, .int .i64 0, .vs .some [.int .i64 1, .int .i64 2, .int .i64 3], .vs .nil []]], .agg [.int .u8 5, .int .i64 0, .vs .some [.int .i64 1, .int .i64 2, .int .i64 3], .vs .nil []], true)
theorem ran51 : ranB prog0 1000 65 pg51 = true := by kernel_rfl
theorem ok51 : PageOk Tryz.prog absProg.glob 65 pg51 := PageOk.of_ran ok_prog0 ran51
def pg53 : Page := ([.agg [.vs .nil [], .int .u8 3, .str [], .vs .nil []], .agg [.int .u8 3, .str [], .vs .nil []], .agg [.int .u8 1, .int .i64 0, .vs .nil [], .vs .nil []]], .bool false, true)
theorem ran53 : ranB prog0 1000 95 pg53 = true := by kernel_rfl
theorem ok53 : PageOk Tryz.prog absProg.glob 95 pg53 := PageOk.of_ran ok_prog0 ran53
def pg55 : Page := ([.agg [.vs .nil [], .int .u8 3, .str [], .vs .nil []], .agg [.int .i64 0, .int .u8 0, .int .i64 0, .vs .nil [], .vs .nil [], .int .i64 0, .vs .nil [], .vs .nil [], .vs .nil []]], .int .i64 4, true)
theorem ran55 : ranB prog0 1000 16 pg55 = true := by kernel_rfl
theorem ok55 : PageOk Tryz.prog absProg.glob 16 pg55 := PageOk.of_ran ok_prog0 ran55
def pg57 : Page := ([.agg [.vs .nil [], .int .u8 3, .str [], .vs .nil []], .agg [.int .u8 3, .str [], .vs .nil []], .agg [.int .u8 5, .int .i64 0, .vs .some [.int .i64 1, .int .i64 2, .int .i64 3], .vs .nil []], .agg [.int .u8 0, .int .i64 0, .vs .nil [], .vs .nil []]], .agg [.int .u8 5, .int .i64 0, .vs .some [.int .i64 1, .int .i64 2, .int .i64 3], .vs .nil []], true)
theorem ran57 : ranB prog0 1000 65 pg57 = true := by kernel_rfl
theorem ok57 : PageOk Tryz.prog absProg.glob 65 pg57 := PageOk.of_ran ok_prog0 ran57
end Go.Proofs.YtnjdhcfonobpkacGreatDoor
