/- Calls that are known, part 0: each run by the kernel. -/
import Derived.Test.YtnjdhcfonobpkadGreatDoorAbs
import Derived.Test.YtnjdhcfonobpkadGreatDoorPaleBook
import Derived.KernelRfl
set_option maxRecDepth 100000
set_option linter.unusedVariables false
namespace Go.Proofs.YtnjdhcfonobpkadGreatDoor
open Go Go.Proofs.YtnjdhcfonobpkadGreatDoor.Pale
noncomputable def valT : Tr Unit := (.node none (.node none (.node none (.node (some ()) (.node none (.node none .nil (.node none (.node (some ()) .nil .nil) .nil)) .nil) .nil) (.node none (.node none (.node none .nil (.node (some ()) .nil .nil)) (.node none (.node none (.node none (.node (some ()) .nil .nil) .nil) .nil) .nil)) (.node none .nil (.node none (.node none .nil (.node (some ()) .nil .nil)) .nil)))) (.node none (.node none (.node none (.node none (.node none (.node none (.node (some ()) .nil .nil) .nil) .nil) .nil) (.node none .nil (.node none (.node (some ()) .nil .nil) .nil))) .nil) (.node none (.node none (.node none .nil (.node (some ()) .nil .nil)) (.node none (.node none (.node (some ()) .nil .nil) .nil) .nil)) (.node none (.node none (.node (some ()) .nil .nil) .nil) .nil)))) (.node none (.node (some ()) (.node (some ()) (.node none (.node (some ()) .nil (.node none .nil (.node (some ()) .nil .nil))) (.node none (.node (some ()) .nil .nil) (.node none (.node (some ()) .nil .nil) .nil))) (.node none (.node none (.node none .nil (.node (some ()) .nil .nil)) .nil) (.node (some ()) (.node none (.node (some ()) .nil .nil) .nil) .nil))) (.node (some ()) .nil (.node none (.node none (.node (some ()) .nil .nil) .nil) .nil))) (.node none (.node none (.node (some ()) (.node none (.node none (.node none (.node (some ()) .nil .nil) .nil) (.node (some ()) .nil .nil)) (.node none (.node (some ()) .nil .nil) .nil)) .nil) (.node none .nil (.node none (.node none .nil (.node (some ()) .nil .nil)) .nil))) (.node none (.node (some ()) (.node (some ()) .nil (.node (some ()) .nil .nil)) .nil) .nil))))
noncomputable def valB (_ g : Nat) : Bool := match valT.get g with
  | some _ => true
  | none => false
noncomputable def book0 : Tr (List Page) := .nil
noncomputable def list0 : List (Nat × Page) := []
theorem book0_eq : book0 = bookOf list0 := by kernel_rfl
theorem list0_ok : BookOk Tryz.prog absProg.glob list0 :=
  BookOk.nil
noncomputable def prog0 : AProg := absProg.withBook valB book0
theorem ok_prog0 : AOk Tryz.prog prog0 := absOk.withBook valB book0 (by rw [book0_eq]; exact bookOf_ok list0 list0_ok)
def pg0 : Page := ([.vs .nil [], .agg [.int .u8 3, .str [], .vs .nil []]], .int .i64 0, true)
theorem ran0 : ranB prog0 1000 32 pg0 = true := by kernel_rfl
theorem ok0 : PageOk Tryz.prog absProg.glob 32 pg0 := PageOk.of_ran ok_prog0 ran0
def pg1 : Page := ([.agg [.int .i64 2, .vs .nil []]], .int .i64 0, true)
theorem ran1 : ranB prog0 1000 76 pg1 = true := by kernel_rfl
theorem ok1 : PageOk Tryz.prog absProg.glob 76 pg1 := PageOk.of_ran ok_prog0 ran1
def pg2 : Page := ([.agg [.vs .nil [], .int .u8 3, .str [], .vs .nil []], .agg [.int .u8 3, .str [], .vs .nil []], .agg [.int .u8 0, .int .i64 0, .vs .nil [], .vs .nil []]], .bool true, true)
theorem ran2 : ranB prog0 1000 200 pg2 = true := by kernel_rfl
theorem ok2 : PageOk Tryz.prog absProg.glob 200 pg2 := PageOk.of_ran ok_prog0 ran2
def pg5 : Page := ([.vs .some [.vs .nil [], .vs .nil []]], .bool true, true)
theorem ran5 : ranB prog0 1000 194 pg5 = true := by kernel_rfl
theorem ok5 : PageOk Tryz.prog absProg.glob 194 pg5 := PageOk.of_ran ok_prog0 ran5
def pg9 : Page := ([.agg [.bool false, .int .i64 0, .int .u8 0, .int .i64 0, .vs .nil [], .vs .nil [], .int .i64 0, .vs .nil [], .vs .some [.vs .nil [], .vs .nil []], .vs .some [.vs .nil [], .vs .nil []], .vs .nil [], .int .i64 0]], .agg [.bool false, .int .i64 0, .int .u8 0, .int .i64 0, .vs .nil [], .vs .nil [], .int .i64 0, .vs .nil [], .vs .some [.vs .nil [], .vs .nil []], .vs .some [.vs .nil [], .vs .nil []], .vs .nil [], .int .i64 0], true)
theorem ran9 : ranB prog0 1000 38 pg9 = true := by kernel_rfl
theorem ok9 : PageOk Tryz.prog absProg.glob 38 pg9 := PageOk.of_ran ok_prog0 ran9
def pg10 : Page := ([.agg [.bool false, .int .i64 1, .int .u8 0, .int .i64 0, .vs .nil [], .vs .nil [], .int .i64 0, .vs .nil [], .vs .some [.vs .nil [], .vs .nil []], .vs .some [.vs .nil [], .vs .nil []], .vs .nil [], .int .i64 0]], .agg [.bool false, .int .i64 1, .int .u8 0, .int .i64 0, .vs .nil [], .vs .nil [], .int .i64 0, .vs .nil [], .vs .some [.vs .nil [], .vs .nil []], .vs .some [.vs .nil [], .vs .nil []], .vs .nil [], .int .i64 0], true)
theorem ran10 : ranB prog0 1000 38 pg10 = true := by kernel_rfl
theorem ok10 : PageOk Tryz.prog absProg.glob 38 pg10 := PageOk.of_ran ok_prog0 ran10
def pg11 : Page := ([.agg [.vs .nil [], .int .u8 3, .str [], .vs .nil []], .agg [.int .u8 3, .str [], .vs .nil []], .agg [.int .u8 5, .int .i64 0, .vs .some [.int .i64 1], .vs .nil []]], .bool true, true)
theorem ran11 : ranB prog0 1000 200 pg11 = true := by kernel_rfl
theorem ok11 : PageOk Tryz.prog absProg.glob 200 pg11 := PageOk.of_ran ok_prog0 ran11
def pg15 : Page := ([.agg [.vs .nil [], .int .u8 3, .str [], .vs .nil []], .agg [.int .u8 3, .str [], .vs .nil []], .agg [.int .u8 0, .int .i64 0, .vs .nil [], .vs .nil []], .agg [.int .u8 5, .int .i64 0, .vs .some [.int .i64 1], .vs .nil []]], .agg [.int .u8 5, .int .i64 0, .vs .some [.int .i64 1], .vs .nil []], true)
theorem ran15 : ranB prog0 1000 159 pg15 = true := by kernel_rfl
theorem ok15 : PageOk Tryz.prog absProg.glob 159 pg15 := PageOk.of_ran ok_prog0 ran15
def pg18 : Page := ([.agg [.vs .nil [], .int .u8 3, .str [], .vs .nil []], .agg [.int .u8 3, .str [], .vs .nil []], .agg [.int .u8 5, .int .i64 0, .vs .some [.int .i64 1], .vs .nil []], .agg [.int .u8 0, .int .i64 0, .vs .nil [], .vs .nil []]], .agg [.int .u8 5, .int .i64 0, .vs .some [.int .i64 1], .vs .nil []], true)
theorem ran18 : ranB prog0 1000 159 pg18 = true := by kernel_rfl
theorem ok18 : PageOk Tryz.prog absProg.glob 159 pg18 := PageOk.of_ran ok_prog0 ran18
def pg21 : Page := ([.vs .some [.int .u64 2]], .vs .some [.agg [.int .i64 1, .int .i64 1]], true)
theorem ran21 : ranB prog0 1000 56 pg21 = true := by kernel_rfl
theorem ok21 : PageOk Tryz.prog absProg.glob 56 pg21 := PageOk.of_ran ok_prog0 ran21
def pg23 : Page := ([.vs .some [.vs .some [.agg [.int .i64 1, .int .i64 1]], .vs .nil []]], .bool true, true)
theorem ran23 : ranB prog0 1000 194 pg23 = true := by kernel_rfl
theorem ok23 : PageOk Tryz.prog absProg.glob 194 pg23 := PageOk.of_ran ok_prog0 ran23
def pg25 : Page := ([.agg [.vs .nil [], .int .u8 3, .str [], .vs .nil []], .agg [.int .u8 3, .str [], .vs .nil []], .agg [.int .u8 5, .int .i64 0, .vs .some [.int .i64 1], .vs .nil []], .agg [.int .u8 5, .int .i64 0, .vs .some [.int .i64 1], .vs .nil []]], .agg [.int .u8 5, .int .i64 0, .vs .some [.int .i64 1], .vs .nil []], true)
theorem ran25 : ranB prog0 1000 159 pg25 = true := by kernel_rfl
theorem ok25 : PageOk Tryz.prog absProg.glob 159 pg25 := PageOk.of_ran ok_prog0 ran25
def pg30 : Page := ([.agg [.bool false, .int .i64 0, .int .u8 5, .int .i64 0, .vs .some [.int .i64 1], .vs .nil [], .int .i64 1, .vs .some [.agg [.int .i64 1, .int .i64 1, .int .u8 5, .int .i64 0, .vs .some [.int .i64 1], .vs .nil []]], .vs .some [.vs .some [.agg [.int .i64 1, .int .i64 1]], .vs .nil []], .vs .some [.vs .nil [], .vs .nil []], .vs .nil [], .int .i64 0]], .agg [.bool false, .int .i64 0, .int .u8 5, .int .i64 0, .vs .some [.int .i64 1], .vs .nil [], .int .i64 1, .vs .some [.agg [.int .i64 1, .int .i64 1, .int .u8 5, .int .i64 0, .vs .some [.int .i64 1], .vs .nil []]], .vs .some [.vs .some [.agg [.int .i64 1, .int .i64 1]], .vs .nil []], .vs .some [.vs .nil [], .vs .nil []], .vs .nil [], .int .i64 0], true)
theorem ran30 : ranB prog0 1000 38 pg30 = true := by kernel_rfl
theorem ok30 : PageOk Tryz.prog absProg.glob 38 pg30 := PageOk.of_ran ok_prog0 ran30
def pg31 : Page := ([.agg [.vs .nil [], .int .u8 3, .str [], .vs .nil []], .agg [.int .u8 3, .str [], .vs .nil []], .agg [.int .u8 5, .int .i64 0, .vs .some [.int .i64 2], .vs .nil []]], .bool true, true)
theorem ran31 : ranB prog0 1000 200 pg31 = true := by kernel_rfl
theorem ok31 : PageOk Tryz.prog absProg.glob 200 pg31 := PageOk.of_ran ok_prog0 ran31
def pg35 : Page := ([.agg [.vs .nil [], .int .u8 3, .str [], .vs .nil []], .agg [.int .u8 3, .str [], .vs .nil []], .agg [.int .u8 0, .int .i64 0, .vs .nil [], .vs .nil []], .agg [.int .u8 5, .int .i64 0, .vs .some [.int .i64 2], .vs .nil []]], .agg [.int .u8 5, .int .i64 0, .vs .some [.int .i64 2], .vs .nil []], true)
theorem ran35 : ranB prog0 1000 159 pg35 = true := by kernel_rfl
theorem ok35 : PageOk Tryz.prog absProg.glob 159 pg35 := PageOk.of_ran ok_prog0 ran35
def pg38 : Page := ([.agg [.vs .nil [], .int .u8 3, .str [], .vs .nil []], .agg [.int .u8 3, .str [], .vs .nil []], .agg [.int .u8 5, .int .i64 0, .vs .some [.int .i64 2], .vs .nil []], .agg [.int .u8 0, .int .i64 0, .vs .nil [], .vs .nil []]], .agg [.int .u8 5, .int .i64 0, .vs .some [.int .i64 2], .vs .nil []], true)
theorem ran38 : ranB prog0 1000 159 pg38 = true := by kernel_rfl
theorem ok38 : PageOk Tryz.prog absProg.glob 159 pg38 := PageOk.of_ran ok_prog0 ran38
def pg43 : Page := ([.agg [.int .i64 0, .int .u8 5, .int .i64 0, .vs .some [.int .i64 1], .vs .nil [], .int .i64 1, .vs .some [.agg [.int .i64 1, .int .i64 1, .int .u8 5, .int .i64 0, .vs .some [.int .i64 1], .vs .nil []]], .vs .some [.vs .some [.agg [.int .i64 1, .int .i64 1]], .vs .nil []], .vs .some [.vs .nil [], .vs .nil []]]], .agg [.int .i64 0, .int .u8 5, .int .i64 0, .vs .some [.int .i64 1], .vs .nil [], .int .i64 1, .vs .some [.agg [.int .i64 1, .int .i64 1, .int .u8 5, .int .i64 0, .vs .some [.int .i64 1], .vs .nil []]], .vs .some [.vs .some [.agg [.int .i64 1, .int .i64 1]], .vs .some []], .vs .some [.vs .some [], .vs .some []]], true)
theorem ran43 : ranB prog0 1000 22 pg43 = true := by kernel_rfl
theorem ok43 : PageOk Tryz.prog absProg.glob 22 pg43 := PageOk.of_ran ok_prog0 ran43
def pg44 : Page := ([.agg [.int .i64 1, .int .u8 5, .int .i64 0, .vs .some [.int .i64 2], .vs .nil [], .int .i64 1, .vs .some [.agg [.int .i64 1, .int .i64 1, .int .u8 5, .int .i64 0, .vs .some [.int .i64 2], .vs .nil []]], .vs .some [.vs .nil [], .vs .some [.agg [.int .i64 1, .int .i64 1]]], .vs .some [.vs .nil [], .vs .nil []]]], .agg [.int .i64 1, .int .u8 5, .int .i64 0, .vs .some [.int .i64 2], .vs .nil [], .int .i64 1, .vs .some [.agg [.int .i64 1, .int .i64 1, .int .u8 5, .int .i64 0, .vs .some [.int .i64 2], .vs .nil []]], .vs .some [.vs .some [], .vs .some [.agg [.int .i64 1, .int .i64 1]]], .vs .some [.vs .some [], .vs .some []]], true)
theorem ran44 : ranB prog0 1000 22 pg44 = true := by kernel_rfl
theorem ok44 : PageOk Tryz.prog absProg.glob 22 pg44 := PageOk.of_ran ok_prog0 ran44
def pg46 : Page := ([.vs .some [.vs .some [.agg [.int .i64 1, .int .i64 1]], .vs .some []]], .bool true, true)
theorem ran46 : ranB prog0 1000 194 pg46 = true := by kernel_rfl
theorem ok46 : PageOk Tryz.prog absProg.glob 194 pg46 := PageOk.of_ran ok_prog0 ran46
def pg47 : Page := ([.vs .some [.vs .some [], .vs .some []]], .bool true, true)
theorem ran47 : ranB prog0 1000 194 pg47 = true := by kernel_rfl
theorem ok47 : PageOk Tryz.prog absProg.glob 194 pg47 := PageOk.of_ran ok_prog0 ran47
def pg49 : Page := ([.vs .some [.vs .some [], .vs .some [.agg [.int .i64 1, .int .i64 1]]]], .bool true, true)
theorem ran49 : ranB prog0 1000 194 pg49 = true := by kernel_rfl
theorem ok49 : PageOk Tryz.prog absProg.glob 194 pg49 := PageOk.of_ran ok_prog0 ran49
def pg51 : Page := ([.agg [.vs .nil [], .int .u8 3, .str [], .vs .nil []], .agg [.int .u8 3, .str [], .vs .nil []], .agg [.int .u8 5, .int .i64 0, .vs .some [.int .i64 2], .vs .nil []], .agg [.int .u8 5, .int .i64 0, .vs .some [.int .i64 2], .vs .nil []]], .agg [.int .u8 5, .int .i64 0, .vs .some [.int .i64 2], .vs .nil []], true)
theorem ran51 : ranB prog0 1000 159 pg51 = true := by kernel_rfl
theorem ok51 : PageOk Tryz.prog absProg.glob 159 pg51 := PageOk.of_ran ok_prog0 ran51
def pg56 : Page := ([.agg [.bool false, .int .i64 0, .int .u8 5, .int .i64 0, .vs .some [.int .i64 1], .vs .nil [], .int .i64 1, .vs .some [.agg [.int .i64 1, .int .i64 1, .int .u8 5, .int .i64 0, .vs .some [.int .i64 1], .vs .nil []]], .vs .some [.vs .some [.agg [.int .i64 1, .int .i64 1]], .vs .some []], .vs .some [.vs .some [], .vs .some []], .vs .nil [], .int .i64 0]], .agg [.bool false, .int .i64 0, .int .u8 5, .int .i64 0, .vs .some [.int .i64 1], .vs .nil [], .int .i64 1, .vs .some [.agg [.int .i64 1, .int .i64 1, .int .u8 5, .int .i64 0, .vs .some [.int .i64 1], .vs .nil []]], .vs .some [.vs .some [.agg [.int .i64 1, .int .i64 1]], .vs .some []], .vs .some [.vs .some [], .vs .some []], .vs .nil [], .int .i64 0], true)
theorem ran56 : ranB prog0 1000 38 pg56 = true := by kernel_rfl
theorem ok56 : PageOk Tryz.prog absProg.glob 38 pg56 := PageOk.of_ran ok_prog0 ran56
def pg57 : Page := ([.agg [.bool false, .int .i64 1, .int .u8 5, .int .i64 0, .vs .some [.int .i64 2], .vs .nil [], .int .i64 1, .vs .some [.agg [.int .i64 1, .int .i64 1, .int .u8 5, .int .i64 0, .vs .some [.int .i64 2], .vs .nil []]], .vs .some [.vs .some [], .vs .some [.agg [.int .i64 1, .int .i64 1]]], .vs .some [.vs .some [], .vs .some []], .vs .nil [], .int .i64 0]], .agg [.bool false, .int .i64 1, .int .u8 5, .int .i64 0, .vs .some [.int .i64 2], .vs .nil [], .int .i64 1, .vs .some [.agg [.int .i64 1, .int .i64 1, .int .u8 5, .int .i64 0, .vs .some [.int .i64 2], .vs .nil []]], .vs .some [.vs .some [], .vs .some [.agg [.int .i64 1, .int .i64 1]]], .vs .some [.vs .some [], .vs .some []], .vs .nil [], .int .i64 0], true)
theorem ran57 : ranB prog0 1000 38 pg57 = true := by kernel_rfl
theorem ok57 : PageOk Tryz.prog absProg.glob 38 pg57 := PageOk.of_ran ok_prog0 ran57
def pg58 : Page := ([.vs .some [.int .u64 2, .int .u64 0]], .vs .some [.agg [.int .i64 1, .int .i64 1]], true)
theorem ran58 : ranB prog0 1000 56 pg58 = true := by kernel_rfl
theorem ok58 : PageOk Tryz.prog absProg.glob 56 pg58 := PageOk.of_ran ok_prog0 ran58
def pg59 : Page := ([.vs .some [.int .u64 0, .int .u64 0]], .vs .nil [], true)
theorem ran59 : ranB prog0 1000 56 pg59 = true := by kernel_rfl
theorem ok59 : PageOk Tryz.prog absProg.glob 56 pg59 := PageOk.of_ran ok_prog0 ran59
def pg60 : Page := ([.vs .some [.int .u8 80, .int .u8 0, .int .u8 1, .int .u8 0, .int .u8 3, .int .u8 5, .int .u8 1, .int .u8 2, .int .u8 2, .int .u8 1, .int .u8 1, .int .u8 1, .int .u8 0, .int .u8 0]], .int .i64 44631, true)
theorem ran60 : ranB prog0 1000 224 pg60 = true := by kernel_rfl
theorem ok60 : PageOk Tryz.prog absProg.glob 224 pg60 := PageOk.of_ran ok_prog0 ran60
def pg62 : Page := ([.vs .some [.int .u8 81, .int .u8 0, .int .u8 0, .int .u8 0, .int .u8 1, .int .u8 16, .int .u8 80, .int .u8 0, .int .u8 1, .int .u8 0, .int .u8 3, .int .u8 5, .int .u8 1, .int .u8 2, .int .u8 2, .int .u8 1, .int .u8 1, .int .u8 1, .int .u8 0, .int .u8 0, .int .u8 174, .int .u8 87]], .int .i64 12693, true)
theorem ran62 : ranB prog0 1000 224 pg62 = true := by kernel_rfl
theorem ok62 : PageOk Tryz.prog absProg.glob 224 pg62 := PageOk.of_ran ok_prog0 ran62
def pg66 : Page := ([.agg [.int .i64 2, .vs .some [.agg [.int .i64 0, .int .i64 1, .vs .some [.int .u8 81, .int .u8 0, .int .u8 0, .int .u8 0, .int .u8 1, .int .u8 16, .int .u8 80, .int .u8 0, .int .u8 1, .int .u8 0, .int .u8 3, .int .u8 5, .int .u8 1, .int .u8 2, .int .u8 2, .int .u8 1, .int .u8 1, .int .u8 1, .int .u8 0, .int .u8 0, .int .u8 174, .int .u8 87, .int .u8 49, .int .u8 149]]]]], .int .i64 0, true)
theorem ran66 : ranB prog0 1000 76 pg66 = true := by kernel_rfl
theorem ok66 : PageOk Tryz.prog absProg.glob 76 pg66 := PageOk.of_ran ok_prog0 ran66
def pg68 : Page := ([.agg [.bool false, .int .i64 0, .int .u8 5, .int .i64 0, .vs .some [.int .i64 1], .vs .nil [], .int .i64 1, .vs .some [.agg [.int .i64 1, .int .i64 1, .int .u8 5, .int .i64 0, .vs .some [.int .i64 1], .vs .nil []]], .vs .some [.vs .some [.agg [.int .i64 1, .int .i64 1]], .vs .some []], .vs .some [.vs .some [], .vs .some []], .vs .nil [], .int .i64 1]], .agg [.bool false, .int .i64 0, .int .u8 5, .int .i64 0, .vs .some [.int .i64 1], .vs .nil [], .int .i64 1, .vs .some [.agg [.int .i64 1, .int .i64 1, .int .u8 5, .int .i64 0, .vs .some [.int .i64 1], .vs .nil []]], .vs .some [.vs .some [.agg [.int .i64 1, .int .i64 1]], .vs .some []], .vs .some [.vs .some [], .vs .some []], .vs .nil [], .int .i64 1], true)
theorem ran68 : ranB prog0 1000 38 pg68 = true := by kernel_rfl
theorem ok68 : PageOk Tryz.prog absProg.glob 38 pg68 := PageOk.of_ran ok_prog0 ran68
def pg71 : Page := ([.agg [.int .i64 0, .int .u8 5, .int .i64 0, .vs .some [.int .i64 1], .vs .nil [], .int .i64 1, .vs .some [.agg [.int .i64 1, .int .i64 1, .int .u8 5, .int .i64 0, .vs .some [.int .i64 1], .vs .nil []]], .vs .some [.vs .some [.agg [.int .i64 1, .int .i64 1]], .vs .some []], .vs .some [.vs .some [], .vs .some []]]], .agg [.int .i64 0, .int .u8 5, .int .i64 0, .vs .some [.int .i64 1], .vs .nil [], .int .i64 1, .vs .some [.agg [.int .i64 1, .int .i64 1, .int .u8 5, .int .i64 0, .vs .some [.int .i64 1], .vs .nil []]], .vs .some [.vs .some [.agg [.int .i64 1, .int .i64 1]], .vs .some []], .vs .some [.vs .some [], .vs .some []]], true)
theorem ran71 : ranB prog0 1000 22 pg71 = true := by kernel_rfl
theorem ok71 : PageOk Tryz.prog absProg.glob 22 pg71 := PageOk.of_ran ok_prog0 ran71
def pg72 : Page := ([.agg [.int .i64 1, .int .u8 5, .int .i64 0, .vs .some [.int .i64 2], .vs .nil [], .int .i64 1, .vs .some [.agg [.int .i64 1, .int .i64 1, .int .u8 5, .int .i64 0, .vs .some [.int .i64 2], .vs .nil []]], .vs .some [.vs .some [], .vs .some [.agg [.int .i64 1, .int .i64 1]]], .vs .some [.vs .some [], .vs .some []]]], .agg [.int .i64 1, .int .u8 5, .int .i64 0, .vs .some [.int .i64 2], .vs .nil [], .int .i64 1, .vs .some [.agg [.int .i64 1, .int .i64 1, .int .u8 5, .int .i64 0, .vs .some [.int .i64 2], .vs .nil []]], .vs .some [.vs .some [], .vs .some [.agg [.int .i64 1, .int .i64 1]]], .vs .some [.vs .some [], .vs .some []]], true)
theorem ran72 : ranB prog0 1000 22 pg72 = true := by kernel_rfl
theorem ok72 : PageOk Tryz.prog absProg.glob 22 pg72 := PageOk.of_ran ok_prog0 ran72
def pg75 : Page := ([.vs .some [.int .u8 81, .int .u8 0, .int .u8 1, .int .u8 0, .int .u8 1, .int .u8 16, .int .u8 80, .int .u8 0, .int .u8 1, .int .u8 0, .int .u8 3, .int .u8 5, .int .u8 1, .int .u8 2, .int .u8 2, .int .u8 1, .int .u8 1, .int .u8 1, .int .u8 0, .int .u8 0, .int .u8 174, .int .u8 87]], .int .i64 21, true)
theorem ran75 : ranB prog0 1000 224 pg75 = true := by kernel_rfl
theorem ok75 : PageOk Tryz.prog absProg.glob 224 pg75 := PageOk.of_ran ok_prog0 ran75
def pg78 : Page := ([.agg [.int .i64 2, .vs .some [.agg [.int .i64 0, .int .i64 1, .vs .some [.int .u8 81, .int .u8 0, .int .u8 1, .int .u8 0, .int .u8 1, .int .u8 16, .int .u8 80, .int .u8 0, .int .u8 1, .int .u8 0, .int .u8 3, .int .u8 5, .int .u8 1, .int .u8 2, .int .u8 2, .int .u8 1, .int .u8 1, .int .u8 1, .int .u8 0, .int .u8 0, .int .u8 174, .int .u8 87, .int .u8 0, .int .u8 21]]]]], .int .i64 0, true)
theorem ran78 : ranB prog0 1000 76 pg78 = true := by kernel_rfl
theorem ok78 : PageOk Tryz.prog absProg.glob 76 pg78 := PageOk.of_ran ok_prog0 ran78
def pg81 : Page := ([.agg [.vs .nil []], .agg [.int .i64 1, .int .i64 0, .int .i64 1, .vs .some [.int .u8 80, .int .u8 0, .int .u8 1, .int .u8 0, .int .u8 3, .int .u8 5, .int .u8 1, .int .u8 2, .int .u8 2, .int .u8 1, .int .u8 1, .int .u8 1, .int .u8 0, .int .u8 0, .int .u8 174, .int .u8 87]]], .tuple [.agg [.vs .some []], .vs .some [.int .u8 80, .int .u8 0, .int .u8 1, .int .u8 0, .int .u8 3, .int .u8 5, .int .u8 1, .int .u8 2, .int .u8 2, .int .u8 1, .int .u8 1, .int .u8 1, .int .u8 0, .int .u8 0, .int .u8 174, .int .u8 87], .int .i64 0], true)
theorem ran81 : ranB prog0 1000 219 pg81 = true := by kernel_rfl
theorem ok81 : PageOk Tryz.prog absProg.glob 219 pg81 := PageOk.of_ran ok_prog0 ran81
def pg87 : Page := ([.agg [.vs .nil [], .int .u8 3, .str [], .vs .nil []], .agg [.int .u8 3, .str [], .vs .nil []], .agg [.int .u8 5, .int .i64 0, .vs .some [.int .i64 2], .vs .nil []], .agg [.int .u8 5, .int .i64 0, .vs .some [.int .i64 1], .vs .nil []]], .agg [.int .u8 5, .int .i64 0, .vs .some [.int .i64 1, .int .i64 2], .vs .nil []], true)
theorem ran87 : ranB prog0 1000 159 pg87 = true := by kernel_rfl
theorem ok87 : PageOk Tryz.prog absProg.glob 159 pg87 := PageOk.of_ran ok_prog0 ran87
def pg89 : Page := ([.vs .some [.int .u64 0, .int .u64 2]], .vs .some [.agg [.int .i64 1, .int .i64 1]], true)
theorem ran89 : ranB prog0 1000 56 pg89 = true := by kernel_rfl
theorem ok89 : PageOk Tryz.prog absProg.glob 56 pg89 := PageOk.of_ran ok_prog0 ran89
def pg90 : Page := ([.vs .some [.int .u64 0]], .vs .nil [], true)
theorem ran90 : ranB prog0 1000 56 pg90 = true := by kernel_rfl
theorem ok90 : PageOk Tryz.prog absProg.glob 56 pg90 := PageOk.of_ran ok_prog0 ran90
def pg92 : Page := ([.agg [.vs .nil [], .int .u8 3, .str [], .vs .nil []], .agg [.int .u8 3, .str [], .vs .nil []], .agg [.int .u8 5, .int .i64 0, .vs .some [.int .i64 1, .int .i64 2], .vs .nil []]], .bool true, true)
theorem ran92 : ranB prog0 1000 200 pg92 = true := by kernel_rfl
theorem ok92 : PageOk Tryz.prog absProg.glob 200 pg92 := PageOk.of_ran ok_prog0 ran92
def pg95 : Page := ([.vs .some [.vs .some [.agg [.int .i64 1, .int .i64 1]], .vs .some [.agg [.int .i64 1, .int .i64 1]]]], .bool true, true)
theorem ran95 : ranB prog0 1000 194 pg95 = true := by kernel_rfl
theorem ok95 : PageOk Tryz.prog absProg.glob 194 pg95 := PageOk.of_ran ok_prog0 ran95
def pg96 : Page := ([.vs .some [.vs .nil [], .vs .some []]], .bool true, true)
theorem ran96 : ranB prog0 1000 194 pg96 = true := by kernel_rfl
theorem ok96 : PageOk Tryz.prog absProg.glob 194 pg96 := PageOk.of_ran ok_prog0 ran96
def pg98 : Page := ([.agg [.vs .nil [], .int .u8 3, .str [], .vs .nil []], .agg [.int .u8 3, .str [], .vs .nil []], .agg [.int .u8 5, .int .i64 0, .vs .some [.int .i64 2], .vs .nil []], .agg [.int .u8 5, .int .i64 0, .vs .some [.int .i64 1, .int .i64 2], .vs .nil []]], .agg [.int .u8 5, .int .i64 0, .vs .some [.int .i64 1, .int .i64 2], .vs .nil []], true)
theorem ran98 : ranB prog0 1000 159 pg98 = true := by kernel_rfl
theorem ok98 : PageOk Tryz.prog absProg.glob 159 pg98 := PageOk.of_ran ok_prog0 ran98
def pg102 : Page := ([.vs .some [.int .u8 80, .int .u8 1, .int .u8 0, .int .u8 0, .int .u8 3, .int .u8 5, .int .u8 1, .int .u8 4, .int .u8 2, .int .u8 0, .int .u8 1, .int .u8 1, .int .u8 1, .int .u8 1, .int .u8 1, .int .u8 1]], .int .i64 34320, true)
theorem ran102 : ranB prog0 1000 224 pg102 = true := by kernel_rfl
theorem ok102 : PageOk Tryz.prog absProg.glob 224 pg102 := PageOk.of_ran ok_prog0 ran102
def pg104 : Page := ([.vs .some [.int .u8 81, .int .u8 32, .int .u8 0, .int .u8 0, .int .u8 1, .int .u8 18, .int .u8 80, .int .u8 1, .int .u8 0, .int .u8 0, .int .u8 3, .int .u8 5, .int .u8 1, .int .u8 4, .int .u8 2, .int .u8 0, .int .u8 1, .int .u8 1, .int .u8 1, .int .u8 1, .int .u8 1, .int .u8 1, .int .u8 134, .int .u8 16]], .int .i64 32107, true)
theorem ran104 : ranB prog0 1000 224 pg104 = true := by kernel_rfl
theorem ok104 : PageOk Tryz.prog absProg.glob 224 pg104 := PageOk.of_ran ok_prog0 ran104
def pg106 : Page := ([.agg [.int .i64 2, .vs .some []]], .int .i64 0, true)
theorem ran106 : ranB prog0 1000 76 pg106 = true := by kernel_rfl
theorem ok106 : PageOk Tryz.prog absProg.glob 76 pg106 := PageOk.of_ran ok_prog0 ran106
def pg108 : Page := ([.agg [.int .i64 2, .vs .some [.agg [.int .i64 1, .int .i64 0, .vs .some [.int .u8 81, .int .u8 32, .int .u8 0, .int .u8 0, .int .u8 1, .int .u8 18, .int .u8 80, .int .u8 1, .int .u8 0, .int .u8 0, .int .u8 3, .int .u8 5, .int .u8 1, .int .u8 4, .int .u8 2, .int .u8 0, .int .u8 1, .int .u8 1, .int .u8 1, .int .u8 1, .int .u8 1, .int .u8 1, .int .u8 134, .int .u8 16, .int .u8 125, .int .u8 107]]]]], .int .i64 0, true)
theorem ran108 : ranB prog0 1000 76 pg108 = true := by kernel_rfl
theorem ok108 : PageOk Tryz.prog absProg.glob 76 pg108 := PageOk.of_ran ok_prog0 ran108
def pg111 : Page := ([.agg [.vs .nil []], .agg [.int .i64 8192, .int .i64 0, .int .i64 1, .vs .some [.int .u8 80, .int .u8 1, .int .u8 0, .int .u8 0, .int .u8 3, .int .u8 5, .int .u8 1, .int .u8 4, .int .u8 2, .int .u8 0, .int .u8 1, .int .u8 1, .int .u8 1, .int .u8 1, .int .u8 1, .int .u8 1, .int .u8 134, .int .u8 16]]], .tuple [.agg [.vs .some []], .vs .some [.int .u8 80, .int .u8 1, .int .u8 0, .int .u8 0, .int .u8 3, .int .u8 5, .int .u8 1, .int .u8 4, .int .u8 2, .int .u8 0, .int .u8 1, .int .u8 1, .int .u8 1, .int .u8 1, .int .u8 1, .int .u8 1, .int .u8 134, .int .u8 16], .int .i64 0], true)
theorem ran111 : ranB prog0 1000 219 pg111 = true := by kernel_rfl
theorem ok111 : PageOk Tryz.prog absProg.glob 219 pg111 := PageOk.of_ran ok_prog0 ran111
def pg114 : Page := ([.vs .some [.vs .nil [], .vs .some [.agg [.int .i64 1, .int .i64 1]]]], .bool true, true)
theorem ran114 : ranB prog0 1000 194 pg114 = true := by kernel_rfl
theorem ok114 : PageOk Tryz.prog absProg.glob 194 pg114 := PageOk.of_ran ok_prog0 ran114
def pg116 : Page := ([.agg [.vs .nil [], .int .u8 3, .str [], .vs .nil []], .agg [.int .u8 3, .str [], .vs .nil []], .agg [.int .u8 5, .int .i64 0, .vs .some [.int .i64 1], .vs .nil []], .agg [.int .u8 5, .int .i64 0, .vs .some [.int .i64 2], .vs .nil []]], .agg [.int .u8 5, .int .i64 0, .vs .some [.int .i64 1, .int .i64 2], .vs .nil []], true)
theorem ran116 : ranB prog0 1000 159 pg116 = true := by kernel_rfl
theorem ok116 : PageOk Tryz.prog absProg.glob 159 pg116 := PageOk.of_ran ok_prog0 ran116
def pg121 : Page := ([.agg [.int .i64 2, .int .u8 0, .int .i64 0, .vs .nil [], .vs .nil [], .int .i64 0, .vs .nil [], .vs .some [.vs .nil [], .vs .nil [], .vs .nil []], .vs .some [.vs .nil [], .vs .nil [], .vs .nil []]]], .agg [.int .i64 2, .int .u8 0, .int .i64 0, .vs .some [], .vs .nil [], .int .i64 0, .vs .nil [], .vs .some [.vs .some [], .vs .some [], .vs .some []], .vs .some [.vs .some [], .vs .some [], .vs .some []]], true)
theorem ran121 : ranB prog0 1000 22 pg121 = true := by kernel_rfl
theorem ok121 : PageOk Tryz.prog absProg.glob 22 pg121 := PageOk.of_ran ok_prog0 ran121
def pg123 : Page := ([.agg [.int .i64 3, .vs .nil []]], .int .i64 0, true)
theorem ran123 : ranB prog0 1000 76 pg123 = true := by kernel_rfl
theorem ok123 : PageOk Tryz.prog absProg.glob 76 pg123 := PageOk.of_ran ok_prog0 ran123
def pg124 : Page := ([.agg [.vs .nil [], .int .u8 3, .str [], .vs .nil []], .agg [.int .u8 3, .str [], .vs .nil []], .agg [.int .u8 0, .int .i64 0, .vs .some [], .vs .nil []]], .bool true, true)
theorem ran124 : ranB prog0 1000 200 pg124 = true := by kernel_rfl
theorem ok124 : PageOk Tryz.prog absProg.glob 200 pg124 := PageOk.of_ran ok_prog0 ran124
def pg127 : Page := ([.vs .some [.vs .some [], .vs .some [], .vs .some []]], .bool true, true)
theorem ran127 : ranB prog0 1000 194 pg127 = true := by kernel_rfl
theorem ok127 : PageOk Tryz.prog absProg.glob 194 pg127 := PageOk.of_ran ok_prog0 ran127
def pg130 : Page := ([.agg [.bool false, .int .i64 2, .int .u8 0, .int .i64 0, .vs .some [], .vs .nil [], .int .i64 0, .vs .nil [], .vs .some [.vs .some [], .vs .some [], .vs .some []], .vs .some [.vs .some [], .vs .some [], .vs .some []], .vs .nil [], .int .i64 0]], .agg [.bool false, .int .i64 2, .int .u8 0, .int .i64 0, .vs .some [], .vs .nil [], .int .i64 0, .vs .nil [], .vs .some [.vs .some [], .vs .some [], .vs .some []], .vs .some [.vs .some [], .vs .some [], .vs .some []], .vs .nil [], .int .i64 0], true)
theorem ran130 : ranB prog0 1000 38 pg130 = true := by kernel_rfl
theorem ok130 : PageOk Tryz.prog absProg.glob 38 pg130 := PageOk.of_ran ok_prog0 ran130
def pg131 : Page := ([.vs .some [.int .u8 80, .int .u8 0, .int .u8 1, .int .u8 1, .int .u8 3, .int .u8 5, .int .u8 1, .int .u8 2, .int .u8 2, .int .u8 1, .int .u8 1, .int .u8 1, .int .u8 0, .int .u8 0]], .int .i64 28317, true)
theorem ran131 : ranB prog0 1000 224 pg131 = true := by kernel_rfl
theorem ok131 : PageOk Tryz.prog absProg.glob 224 pg131 := PageOk.of_ran ok_prog0 ran131
def pg133 : Page := ([.vs .some [.int .u8 81, .int .u8 0, .int .u8 1, .int .u8 0, .int .u8 1, .int .u8 16, .int .u8 80, .int .u8 0, .int .u8 1, .int .u8 1, .int .u8 3, .int .u8 5, .int .u8 1, .int .u8 2, .int .u8 2, .int .u8 1, .int .u8 1, .int .u8 1, .int .u8 0, .int .u8 0, .int .u8 110, .int .u8 157]], .int .i64 45393, true)
theorem ran133 : ranB prog0 1000 224 pg133 = true := by kernel_rfl
theorem ok133 : PageOk Tryz.prog absProg.glob 224 pg133 := PageOk.of_ran ok_prog0 ran133
def pg136 : Page := ([.agg [.int .i64 3, .vs .some [.agg [.int .i64 0, .int .i64 1, .vs .some [.int .u8 81, .int .u8 0, .int .u8 1, .int .u8 0, .int .u8 1, .int .u8 16, .int .u8 80, .int .u8 0, .int .u8 1, .int .u8 1, .int .u8 3, .int .u8 5, .int .u8 1, .int .u8 2, .int .u8 2, .int .u8 1, .int .u8 1, .int .u8 1, .int .u8 0, .int .u8 0, .int .u8 110, .int .u8 157, .int .u8 177, .int .u8 81]]]]], .int .i64 0, true)
theorem ran136 : ranB prog0 1000 76 pg136 = true := by kernel_rfl
theorem ok136 : PageOk Tryz.prog absProg.glob 76 pg136 := PageOk.of_ran ok_prog0 ran136
def pg139 : Page := ([.agg [.vs .nil []], .agg [.int .i64 1, .int .i64 0, .int .i64 1, .vs .some [.int .u8 80, .int .u8 0, .int .u8 1, .int .u8 1, .int .u8 3, .int .u8 5, .int .u8 1, .int .u8 2, .int .u8 2, .int .u8 1, .int .u8 1, .int .u8 1, .int .u8 0, .int .u8 0, .int .u8 110, .int .u8 157]]], .tuple [.agg [.vs .some []], .vs .some [.int .u8 80, .int .u8 0, .int .u8 1, .int .u8 1, .int .u8 3, .int .u8 5, .int .u8 1, .int .u8 2, .int .u8 2, .int .u8 1, .int .u8 1, .int .u8 1, .int .u8 0, .int .u8 0, .int .u8 110, .int .u8 157], .int .i64 0], true)
theorem ran139 : ranB prog0 1000 219 pg139 = true := by kernel_rfl
theorem ok139 : PageOk Tryz.prog absProg.glob 219 pg139 := PageOk.of_ran ok_prog0 ran139
def pg143 : Page := ([.vs .some [.vs .some [.agg [.int .i64 1, .int .i64 1]], .vs .some [], .vs .nil []]], .bool true, true)
theorem ran143 : ranB prog0 1000 194 pg143 = true := by kernel_rfl
theorem ok143 : PageOk Tryz.prog absProg.glob 194 pg143 := PageOk.of_ran ok_prog0 ran143
def pg144 : Page := ([.vs .some [.vs .some [], .vs .some [], .vs .nil []]], .bool true, true)
theorem ran144 : ranB prog0 1000 194 pg144 = true := by kernel_rfl
theorem ok144 : PageOk Tryz.prog absProg.glob 194 pg144 := PageOk.of_ran ok_prog0 ran144
def pg146 : Page := ([.vs .some [.int .u8 80, .int .u8 0, .int .u8 2, .int .u8 1, .int .u8 3, .int .u8 5, .int .u8 1, .int .u8 2, .int .u8 3, .int .u8 1, .int .u8 1, .int .u8 1, .int .u8 0, .int .u8 0, .int .u8 0]], .int .i64 29556, true)
theorem ran146 : ranB prog0 1000 224 pg146 = true := by kernel_rfl
theorem ok146 : PageOk Tryz.prog absProg.glob 224 pg146 := PageOk.of_ran ok_prog0 ran146
def pg148 : Page := ([.vs .some [.int .u8 81, .int .u8 0, .int .u8 2, .int .u8 0, .int .u8 1, .int .u8 17, .int .u8 80, .int .u8 0, .int .u8 2, .int .u8 1, .int .u8 3, .int .u8 5, .int .u8 1, .int .u8 2, .int .u8 3, .int .u8 1, .int .u8 1, .int .u8 1, .int .u8 0, .int .u8 0, .int .u8 0, .int .u8 115, .int .u8 116]], .int .i64 33561, true)
theorem ran148 : ranB prog0 1000 224 pg148 = true := by kernel_rfl
theorem ok148 : PageOk Tryz.prog absProg.glob 224 pg148 := PageOk.of_ran ok_prog0 ran148
def pg150 : Page := ([.agg [.int .i64 3, .vs .some []]], .int .i64 0, true)
theorem ran150 : ranB prog0 1000 76 pg150 = true := by kernel_rfl
theorem ok150 : PageOk Tryz.prog absProg.glob 76 pg150 := PageOk.of_ran ok_prog0 ran150
def pg152 : Page := ([.agg [.int .i64 3, .vs .some [.agg [.int .i64 0, .int .i64 2, .vs .some [.int .u8 81, .int .u8 0, .int .u8 2, .int .u8 0, .int .u8 1, .int .u8 17, .int .u8 80, .int .u8 0, .int .u8 2, .int .u8 1, .int .u8 3, .int .u8 5, .int .u8 1, .int .u8 2, .int .u8 3, .int .u8 1, .int .u8 1, .int .u8 1, .int .u8 0, .int .u8 0, .int .u8 0, .int .u8 115, .int .u8 116, .int .u8 131, .int .u8 25]]]]], .int .i64 0, true)
theorem ran152 : ranB prog0 1000 76 pg152 = true := by kernel_rfl
theorem ok152 : PageOk Tryz.prog absProg.glob 76 pg152 := PageOk.of_ran ok_prog0 ran152
def pg155 : Page := ([.agg [.vs .nil []], .agg [.int .i64 2, .int .i64 0, .int .i64 1, .vs .some [.int .u8 80, .int .u8 0, .int .u8 2, .int .u8 1, .int .u8 3, .int .u8 5, .int .u8 1, .int .u8 2, .int .u8 3, .int .u8 1, .int .u8 1, .int .u8 1, .int .u8 0, .int .u8 0, .int .u8 0, .int .u8 115, .int .u8 116]]], .tuple [.agg [.vs .some []], .vs .some [.int .u8 80, .int .u8 0, .int .u8 2, .int .u8 1, .int .u8 3, .int .u8 5, .int .u8 1, .int .u8 2, .int .u8 3, .int .u8 1, .int .u8 1, .int .u8 1, .int .u8 0, .int .u8 0, .int .u8 0, .int .u8 115, .int .u8 116], .int .i64 0], true)
theorem ran155 : ranB prog0 1000 219 pg155 = true := by kernel_rfl
theorem ok155 : PageOk Tryz.prog absProg.glob 219 pg155 := PageOk.of_ran ok_prog0 ran155
def pg158 : Page := ([.vs .some [.vs .some [.agg [.int .i64 1, .int .i64 1]], .vs .nil [], .vs .nil []]], .bool true, true)
theorem ran158 : ranB prog0 1000 194 pg158 = true := by kernel_rfl
theorem ok158 : PageOk Tryz.prog absProg.glob 194 pg158 := PageOk.of_ran ok_prog0 ran158
def pg160 : Page := ([.agg [.vs .nil [], .int .u8 3, .str [], .vs .nil []], .agg [.int .u8 3, .str [], .vs .nil []], .agg [.int .u8 0, .int .i64 0, .vs .some [], .vs .nil []], .agg [.int .u8 5, .int .i64 0, .vs .some [.int .i64 1], .vs .nil []]], .agg [.int .u8 5, .int .i64 0, .vs .some [.int .i64 1], .vs .nil []], true)
theorem ran160 : ranB prog0 1000 159 pg160 = true := by kernel_rfl
theorem ok160 : PageOk Tryz.prog absProg.glob 159 pg160 := PageOk.of_ran ok_prog0 ran160
def pg163 : Page := ([.vs .some [.int .u8 80, .int .u8 1, .int .u8 0, .int .u8 1, .int .u8 4, .int .u8 5, .int .u8 2, .int .u8 2, .int .u8 4, .int .u8 2, .int .u8 1, .int .u8 1, .int .u8 1, .int .u8 1, .int .u8 1, .int .u8 1, .int .u8 1, .int .u8 1, .int .u8 1]], .int .i64 34997, true)
theorem ran163 : ranB prog0 1000 224 pg163 = true := by kernel_rfl
theorem ok163 : PageOk Tryz.prog absProg.glob 224 pg163 := PageOk.of_ran ok_prog0 ran163
def pg165 : Page := ([.vs .some [.int .u8 81, .int .u8 32, .int .u8 0, .int .u8 0, .int .u8 1, .int .u8 21, .int .u8 80, .int .u8 1, .int .u8 0, .int .u8 1, .int .u8 4, .int .u8 5, .int .u8 2, .int .u8 2, .int .u8 4, .int .u8 2, .int .u8 1, .int .u8 1, .int .u8 1, .int .u8 1, .int .u8 1, .int .u8 1, .int .u8 1, .int .u8 1, .int .u8 1, .int .u8 136, .int .u8 181]], .int .i64 34055, true)
theorem ran165 : ranB prog0 1000 224 pg165 = true := by kernel_rfl
theorem ok165 : PageOk Tryz.prog absProg.glob 224 pg165 := PageOk.of_ran ok_prog0 ran165
def pg168 : Page := ([.agg [.int .i64 3, .vs .some [.agg [.int .i64 1, .int .i64 0, .vs .some [.int .u8 81, .int .u8 32, .int .u8 0, .int .u8 0, .int .u8 1, .int .u8 21, .int .u8 80, .int .u8 1, .int .u8 0, .int .u8 1, .int .u8 4, .int .u8 5, .int .u8 2, .int .u8 2, .int .u8 4, .int .u8 2, .int .u8 1, .int .u8 1, .int .u8 1, .int .u8 1, .int .u8 1, .int .u8 1, .int .u8 1, .int .u8 1, .int .u8 1, .int .u8 136, .int .u8 181, .int .u8 133, .int .u8 7]]]]], .int .i64 0, true)
theorem ran168 : ranB prog0 1000 76 pg168 = true := by kernel_rfl
theorem ok168 : PageOk Tryz.prog absProg.glob 76 pg168 := PageOk.of_ran ok_prog0 ran168
def pg171 : Page := ([.agg [.vs .nil []], .agg [.int .i64 8192, .int .i64 0, .int .i64 1, .vs .some [.int .u8 80, .int .u8 1, .int .u8 0, .int .u8 1, .int .u8 4, .int .u8 5, .int .u8 2, .int .u8 2, .int .u8 4, .int .u8 2, .int .u8 1, .int .u8 1, .int .u8 1, .int .u8 1, .int .u8 1, .int .u8 1, .int .u8 1, .int .u8 1, .int .u8 1, .int .u8 136, .int .u8 181]]], .tuple [.agg [.vs .some []], .vs .some [.int .u8 80, .int .u8 1, .int .u8 0, .int .u8 1, .int .u8 4, .int .u8 5, .int .u8 2, .int .u8 2, .int .u8 4, .int .u8 2, .int .u8 1, .int .u8 1, .int .u8 1, .int .u8 1, .int .u8 1, .int .u8 1, .int .u8 1, .int .u8 1, .int .u8 1, .int .u8 136, .int .u8 181], .int .i64 0], true)
theorem ran171 : ranB prog0 1000 219 pg171 = true := by kernel_rfl
theorem ok171 : PageOk Tryz.prog absProg.glob 219 pg171 := PageOk.of_ran ok_prog0 ran171
def pg175 : Page := ([.agg [.vs .nil [], .int .u8 3, .str [], .vs .nil []], .agg [.int .u8 3, .str [], .vs .nil []], .agg [.int .u8 5, .int .i64 0, .vs .some [.int .i64 1], .vs .nil []], .agg [.int .u8 5, .int .i64 0, .vs .some [.int .i64 1, .int .i64 2], .vs .nil []]], .agg [.int .u8 5, .int .i64 0, .vs .some [.int .i64 1, .int .i64 2], .vs .nil []], true)
theorem ran175 : ranB prog0 1000 159 pg175 = true := by kernel_rfl
theorem ok175 : PageOk Tryz.prog absProg.glob 159 pg175 := PageOk.of_ran ok_prog0 ran175
def pg178 : Page := ([.vs .some [.vs .some [.agg [.int .i64 1, .int .i64 1]], .vs .some [.agg [.int .i64 1, .int .i64 1]], .vs .nil []]], .bool true, true)
theorem ran178 : ranB prog0 1000 194 pg178 = true := by kernel_rfl
theorem ok178 : PageOk Tryz.prog absProg.glob 194 pg178 := PageOk.of_ran ok_prog0 ran178
def pg179 : Page := ([.vs .some [.vs .nil [], .vs .some [], .vs .nil []]], .bool true, true)
theorem ran179 : ranB prog0 1000 194 pg179 = true := by kernel_rfl
theorem ok179 : PageOk Tryz.prog absProg.glob 194 pg179 := PageOk.of_ran ok_prog0 ran179
def pg181 : Page := ([.vs .some [.int .u8 80, .int .u8 1, .int .u8 2, .int .u8 1, .int .u8 4, .int .u8 5, .int .u8 2, .int .u8 2, .int .u8 4, .int .u8 3, .int .u8 1, .int .u8 1, .int .u8 1, .int .u8 1, .int .u8 1, .int .u8 1, .int .u8 0, .int .u8 0]], .int .i64 9236, true)
theorem ran181 : ranB prog0 1000 224 pg181 = true := by kernel_rfl
theorem ok181 : PageOk Tryz.prog absProg.glob 224 pg181 := PageOk.of_ran ok_prog0 ran181
def pg183 : Page := ([.vs .some [.int .u8 81, .int .u8 32, .int .u8 1, .int .u8 0, .int .u8 1, .int .u8 20, .int .u8 80, .int .u8 1, .int .u8 2, .int .u8 1, .int .u8 4, .int .u8 5, .int .u8 2, .int .u8 2, .int .u8 4, .int .u8 3, .int .u8 1, .int .u8 1, .int .u8 1, .int .u8 1, .int .u8 1, .int .u8 1, .int .u8 0, .int .u8 0, .int .u8 36, .int .u8 20]], .int .i64 48435, true)
theorem ran183 : ranB prog0 1000 224 pg183 = true := by kernel_rfl
theorem ok183 : PageOk Tryz.prog absProg.glob 224 pg183 := PageOk.of_ran ok_prog0 ran183
def pg186 : Page := ([.agg [.int .i64 3, .vs .some [.agg [.int .i64 1, .int .i64 2, .vs .some [.int .u8 81, .int .u8 32, .int .u8 1, .int .u8 0, .int .u8 1, .int .u8 20, .int .u8 80, .int .u8 1, .int .u8 2, .int .u8 1, .int .u8 4, .int .u8 5, .int .u8 2, .int .u8 2, .int .u8 4, .int .u8 3, .int .u8 1, .int .u8 1, .int .u8 1, .int .u8 1, .int .u8 1, .int .u8 1, .int .u8 0, .int .u8 0, .int .u8 36, .int .u8 20, .int .u8 189, .int .u8 51]]]]], .int .i64 0, true)
theorem ran186 : ranB prog0 1000 76 pg186 = true := by kernel_rfl
theorem ok186 : PageOk Tryz.prog absProg.glob 76 pg186 := PageOk.of_ran ok_prog0 ran186
def pg189 : Page := ([.agg [.vs .some []], .agg [.int .i64 8193, .int .i64 0, .int .i64 1, .vs .some [.int .u8 80, .int .u8 1, .int .u8 2, .int .u8 1, .int .u8 4, .int .u8 5, .int .u8 2, .int .u8 2, .int .u8 4, .int .u8 3, .int .u8 1, .int .u8 1, .int .u8 1, .int .u8 1, .int .u8 1, .int .u8 1, .int .u8 0, .int .u8 0, .int .u8 36, .int .u8 20]]], .tuple [.agg [.vs .some []], .vs .some [.int .u8 80, .int .u8 1, .int .u8 2, .int .u8 1, .int .u8 4, .int .u8 5, .int .u8 2, .int .u8 2, .int .u8 4, .int .u8 3, .int .u8 1, .int .u8 1, .int .u8 1, .int .u8 1, .int .u8 1, .int .u8 1, .int .u8 0, .int .u8 0, .int .u8 36, .int .u8 20], .int .i64 0], true)
theorem ran189 : ranB prog0 1000 219 pg189 = true := by kernel_rfl
theorem ok189 : PageOk Tryz.prog absProg.glob 219 pg189 := PageOk.of_ran ok_prog0 ran189
def pg191 : Page := ([.vs .some [.vs .some [.agg [.int .i64 1, .int .i64 1]], .vs .nil [], .vs .some []]], .bool true, true)
theorem ran191 : ranB prog0 1000 194 pg191 = true := by kernel_rfl
theorem ok191 : PageOk Tryz.prog absProg.glob 194 pg191 := PageOk.of_ran ok_prog0 ran191
def pg192 : Page := ([.vs .some [.vs .nil [], .vs .some [], .vs .some []]], .bool true, true)
theorem ran192 : ranB prog0 1000 194 pg192 = true := by kernel_rfl
theorem ok192 : PageOk Tryz.prog absProg.glob 194 pg192 := PageOk.of_ran ok_prog0 ran192
def pg194 : Page := ([.vs .some [.int .u64 2, .int .u64 2]], .vs .some [.agg [.int .i64 1, .int .i64 1]], true)
theorem ran194 : ranB prog0 1000 56 pg194 = true := by kernel_rfl
theorem ok194 : PageOk Tryz.prog absProg.glob 56 pg194 := PageOk.of_ran ok_prog0 ran194
def pg196 : Page := ([.vs .some [.vs .some [.agg [.int .i64 1, .int .i64 1]], .vs .some [.agg [.int .i64 1, .int .i64 1]], .vs .some []]], .bool true, true)
theorem ran196 : ranB prog0 1000 194 pg196 = true := by kernel_rfl
theorem ok196 : PageOk Tryz.prog absProg.glob 194 pg196 := PageOk.of_ran ok_prog0 ran196
def pg197 : Page := ([.vs .some [.vs .nil [], .vs .nil [], .vs .some []]], .bool true, true)
theorem ran197 : ranB prog0 1000 194 pg197 = true := by kernel_rfl
theorem ok197 : PageOk Tryz.prog absProg.glob 194 pg197 := PageOk.of_ran ok_prog0 ran197
def pg199 : Page := ([.vs .some [.int .u8 80, .int .u8 2, .int .u8 0, .int .u8 1, .int .u8 4, .int .u8 5, .int .u8 2, .int .u8 2, .int .u8 4, .int .u8 3, .int .u8 1, .int .u8 1, .int .u8 1, .int .u8 1, .int .u8 1, .int .u8 1, .int .u8 0, .int .u8 1, .int .u8 1, .int .u8 1]], .int .i64 36558, true)
theorem ran199 : ranB prog0 1000 224 pg199 = true := by kernel_rfl
theorem ok199 : PageOk Tryz.prog absProg.glob 224 pg199 := PageOk.of_ran ok_prog0 ran199
def pg201 : Page := ([.vs .some [.int .u8 81, .int .u8 64, .int .u8 0, .int .u8 0, .int .u8 1, .int .u8 22, .int .u8 80, .int .u8 2, .int .u8 0, .int .u8 1, .int .u8 4, .int .u8 5, .int .u8 2, .int .u8 2, .int .u8 4, .int .u8 3, .int .u8 1, .int .u8 1, .int .u8 1, .int .u8 1, .int .u8 1, .int .u8 1, .int .u8 0, .int .u8 1, .int .u8 1, .int .u8 1, .int .u8 142, .int .u8 206]], .int .i64 14956, true)
theorem ran201 : ranB prog0 1000 224 pg201 = true := by kernel_rfl
theorem ok201 : PageOk Tryz.prog absProg.glob 224 pg201 := PageOk.of_ran ok_prog0 ran201
def pg204 : Page := ([.agg [.int .i64 3, .vs .some [.agg [.int .i64 2, .int .i64 0, .vs .some [.int .u8 81, .int .u8 64, .int .u8 0, .int .u8 0, .int .u8 1, .int .u8 22, .int .u8 80, .int .u8 2, .int .u8 0, .int .u8 1, .int .u8 4, .int .u8 5, .int .u8 2, .int .u8 2, .int .u8 4, .int .u8 3, .int .u8 1, .int .u8 1, .int .u8 1, .int .u8 1, .int .u8 1, .int .u8 1, .int .u8 0, .int .u8 1, .int .u8 1, .int .u8 1, .int .u8 142, .int .u8 206, .int .u8 58, .int .u8 108]]]]], .int .i64 0, true)
theorem ran204 : ranB prog0 1000 76 pg204 = true := by kernel_rfl
theorem ok204 : PageOk Tryz.prog absProg.glob 76 pg204 := PageOk.of_ran ok_prog0 ran204
def pg207 : Page := ([.agg [.vs .some []], .agg [.int .i64 16384, .int .i64 0, .int .i64 1, .vs .some [.int .u8 80, .int .u8 2, .int .u8 0, .int .u8 1, .int .u8 4, .int .u8 5, .int .u8 2, .int .u8 2, .int .u8 4, .int .u8 3, .int .u8 1, .int .u8 1, .int .u8 1, .int .u8 1, .int .u8 1, .int .u8 1, .int .u8 0, .int .u8 1, .int .u8 1, .int .u8 1, .int .u8 142, .int .u8 206]]], .tuple [.agg [.vs .some []], .vs .some [.int .u8 80, .int .u8 2, .int .u8 0, .int .u8 1, .int .u8 4, .int .u8 5, .int .u8 2, .int .u8 2, .int .u8 4, .int .u8 3, .int .u8 1, .int .u8 1, .int .u8 1, .int .u8 1, .int .u8 1, .int .u8 1, .int .u8 0, .int .u8 1, .int .u8 1, .int .u8 1, .int .u8 142, .int .u8 206], .int .i64 0], true)
theorem ran207 : ranB prog0 1000 219 pg207 = true := by kernel_rfl
theorem ok207 : PageOk Tryz.prog absProg.glob 219 pg207 := PageOk.of_ran ok_prog0 ran207
def pg210 : Page := ([.vs .some [.vs .some [], .vs .some [.agg [.int .i64 1, .int .i64 1]], .vs .nil []]], .bool true, true)
theorem ran210 : ranB prog0 1000 194 pg210 = true := by kernel_rfl
theorem ok210 : PageOk Tryz.prog absProg.glob 194 pg210 := PageOk.of_ran ok_prog0 ran210
def pg215 : Page := ([.agg [.vs .nil [], .int .u8 3, .str [], .vs .nil []], .agg [.int .u8 3, .str [], .vs .nil []], .agg [.int .u8 5, .int .i64 0, .vs .some [.int .i64 1, .int .i64 2], .vs .nil []], .agg [.int .u8 5, .int .i64 0, .vs .some [.int .i64 1, .int .i64 2], .vs .nil []]], .agg [.int .u8 5, .int .i64 0, .vs .some [.int .i64 1, .int .i64 2], .vs .nil []], true)
theorem ran215 : ranB prog0 1000 159 pg215 = true := by kernel_rfl
theorem ok215 : PageOk Tryz.prog absProg.glob 159 pg215 := PageOk.of_ran ok_prog0 ran215
def pg218 : Page := ([.vs .some [.int .u8 80, .int .u8 2, .int .u8 1, .int .u8 1, .int .u8 4, .int .u8 5, .int .u8 2, .int .u8 2, .int .u8 4, .int .u8 3, .int .u8 1, .int .u8 1, .int .u8 1, .int .u8 1, .int .u8 1, .int .u8 1, .int .u8 0, .int .u8 1, .int .u8 1, .int .u8 1]], .int .i64 57067, true)
theorem ran218 : ranB prog0 1000 224 pg218 = true := by kernel_rfl
theorem ok218 : PageOk Tryz.prog absProg.glob 224 pg218 := PageOk.of_ran ok_prog0 ran218
def pg220 : Page := ([.vs .some [.int .u8 81, .int .u8 64, .int .u8 1, .int .u8 0, .int .u8 1, .int .u8 22, .int .u8 80, .int .u8 2, .int .u8 1, .int .u8 1, .int .u8 4, .int .u8 5, .int .u8 2, .int .u8 2, .int .u8 4, .int .u8 3, .int .u8 1, .int .u8 1, .int .u8 1, .int .u8 1, .int .u8 1, .int .u8 1, .int .u8 0, .int .u8 1, .int .u8 1, .int .u8 1, .int .u8 222, .int .u8 235]], .int .i64 16485, true)
theorem ran220 : ranB prog0 1000 224 pg220 = true := by kernel_rfl
theorem ok220 : PageOk Tryz.prog absProg.glob 224 pg220 := PageOk.of_ran ok_prog0 ran220
def pg223 : Page := ([.agg [.int .i64 3, .vs .some [.agg [.int .i64 2, .int .i64 1, .vs .some [.int .u8 81, .int .u8 64, .int .u8 1, .int .u8 0, .int .u8 1, .int .u8 22, .int .u8 80, .int .u8 2, .int .u8 1, .int .u8 1, .int .u8 4, .int .u8 5, .int .u8 2, .int .u8 2, .int .u8 4, .int .u8 3, .int .u8 1, .int .u8 1, .int .u8 1, .int .u8 1, .int .u8 1, .int .u8 1, .int .u8 0, .int .u8 1, .int .u8 1, .int .u8 1, .int .u8 222, .int .u8 235, .int .u8 64, .int .u8 101]]]]], .int .i64 0, true)
theorem ran223 : ranB prog0 1000 76 pg223 = true := by kernel_rfl
theorem ok223 : PageOk Tryz.prog absProg.glob 76 pg223 := PageOk.of_ran ok_prog0 ran223
def pg226 : Page := ([.agg [.vs .some []], .agg [.int .i64 16385, .int .i64 0, .int .i64 1, .vs .some [.int .u8 80, .int .u8 2, .int .u8 1, .int .u8 1, .int .u8 4, .int .u8 5, .int .u8 2, .int .u8 2, .int .u8 4, .int .u8 3, .int .u8 1, .int .u8 1, .int .u8 1, .int .u8 1, .int .u8 1, .int .u8 1, .int .u8 0, .int .u8 1, .int .u8 1, .int .u8 1, .int .u8 222, .int .u8 235]]], .tuple [.agg [.vs .some []], .vs .some [.int .u8 80, .int .u8 2, .int .u8 1, .int .u8 1, .int .u8 4, .int .u8 5, .int .u8 2, .int .u8 2, .int .u8 4, .int .u8 3, .int .u8 1, .int .u8 1, .int .u8 1, .int .u8 1, .int .u8 1, .int .u8 1, .int .u8 0, .int .u8 1, .int .u8 1, .int .u8 1, .int .u8 222, .int .u8 235], .int .i64 0], true)
theorem ran226 : ranB prog0 1000 219 pg226 = true := by kernel_rfl
theorem ok226 : PageOk Tryz.prog absProg.glob 219 pg226 := PageOk.of_ran ok_prog0 ran226
def pg233 : Page := ([.agg [.bool true, .int .i64 1, .int .u8 5, .int .i64 0, .vs .some [.int .i64 2], .vs .nil [], .int .i64 1, .vs .some [.agg [.int .i64 1, .int .i64 1, .int .u8 5, .int .i64 0, .vs .some [.int .i64 2], .vs .nil []]], .vs .some [.vs .some [], .vs .some [.agg [.int .i64 1, .int .i64 1]]], .vs .some [.vs .some [], .vs .some []], .vs .nil [], .int .i64 0]], .agg [.bool true, .int .i64 1, .int .u8 5, .int .i64 0, .vs .some [.int .i64 2], .vs .nil [], .int .i64 1, .vs .some [.agg [.int .i64 1, .int .i64 1, .int .u8 5, .int .i64 0, .vs .some [.int .i64 2], .vs .nil []]], .vs .some [.vs .some [], .vs .some [.agg [.int .i64 1, .int .i64 1]]], .vs .some [.vs .some [], .vs .some []], .vs .nil [], .int .i64 0], true)
theorem ran233 : ranB prog0 1000 38 pg233 = true := by kernel_rfl
theorem ok233 : PageOk Tryz.prog absProg.glob 38 pg233 := PageOk.of_ran ok_prog0 ran233
def pg239 : Page := ([.agg [.vs .nil [], .int .u8 3, .str [], .vs .nil []], .agg [.int .u8 3, .str [], .vs .nil []], .agg [.int .u8 1, .int .i64 0, .vs .nil [], .vs .nil []]], .bool false, true)
theorem ran239 : ranB prog0 1000 200 pg239 = true := by kernel_rfl
theorem ok239 : PageOk Tryz.prog absProg.glob 200 pg239 := PageOk.of_ran ok_prog0 ran239
def pg248 : Page := ([.agg [.vs .nil []], .agg [.int .i64 0, .int .i64 0, .int .i64 1, .vs .some [.int .u8 80, .int .u8 0, .int .u8 1, .int .u8 0, .int .u8 3, .int .u8 5, .int .u8 1, .int .u8 2, .int .u8 2, .int .u8 1, .int .u8 1, .int .u8 1, .int .u8 0, .int .u8 0, .int .u8 174, .int .u8 87]]], .tuple [.agg [.vs .some []], .vs .some [.int .u8 80, .int .u8 0, .int .u8 1, .int .u8 0, .int .u8 3, .int .u8 5, .int .u8 1, .int .u8 2, .int .u8 2, .int .u8 1, .int .u8 1, .int .u8 1, .int .u8 0, .int .u8 0, .int .u8 174, .int .u8 87], .int .i64 0], true)
theorem ran248 : ranB prog0 1000 219 pg248 = true := by kernel_rfl
theorem ok248 : PageOk Tryz.prog absProg.glob 219 pg248 := PageOk.of_ran ok_prog0 ran248
def pg250 : Page := ([.agg [.int .i64 1, .int .u8 5, .int .i64 0, .vs .some [.int .i64 1, .int .i64 2], .vs .nil [], .int .i64 1, .vs .some [.agg [.int .i64 1, .int .i64 1, .int .u8 5, .int .i64 0, .vs .some [.int .i64 2], .vs .nil []]], .vs .some [.vs .some [.agg [.int .i64 1, .int .i64 1]], .vs .some [.agg [.int .i64 1, .int .i64 1]]], .vs .some [.vs .nil [], .vs .some []]]], .agg [.int .i64 1, .int .u8 5, .int .i64 0, .vs .some [.int .i64 1, .int .i64 2], .vs .nil [], .int .i64 1, .vs .some [.agg [.int .i64 1, .int .i64 1, .int .u8 5, .int .i64 0, .vs .some [.int .i64 2], .vs .nil []]], .vs .some [.vs .some [.agg [.int .i64 1, .int .i64 1]], .vs .some [.agg [.int .i64 1, .int .i64 1]]], .vs .some [.vs .some [], .vs .some []]], true)
theorem ran250 : ranB prog0 1000 22 pg250 = true := by kernel_rfl
theorem ok250 : PageOk Tryz.prog absProg.glob 22 pg250 := PageOk.of_ran ok_prog0 ran250
def pg255 : Page := ([.agg [.int .i64 0, .int .u8 5, .int .i64 0, .vs .some [.int .i64 1, .int .i64 2], .vs .nil [], .int .i64 1, .vs .some [.agg [.int .i64 1, .int .i64 1, .int .u8 5, .int .i64 0, .vs .some [.int .i64 1], .vs .nil []]], .vs .some [.vs .some [.agg [.int .i64 1, .int .i64 1]], .vs .some [.agg [.int .i64 1, .int .i64 1]]], .vs .some [.vs .some [], .vs .some [.agg [.int .i64 1, .int .i64 1]]]]], .agg [.int .i64 0, .int .u8 5, .int .i64 0, .vs .some [.int .i64 1, .int .i64 2], .vs .nil [], .int .i64 1, .vs .some [.agg [.int .i64 1, .int .i64 1, .int .u8 5, .int .i64 0, .vs .some [.int .i64 1], .vs .nil []]], .vs .some [.vs .some [.agg [.int .i64 1, .int .i64 1]], .vs .some [.agg [.int .i64 1, .int .i64 1]]], .vs .some [.vs .some [], .vs .some [.agg [.int .i64 1, .int .i64 1]]]], true)
theorem ran255 : ranB prog0 1000 22 pg255 = true := by kernel_rfl
theorem ok255 : PageOk Tryz.prog absProg.glob 22 pg255 := PageOk.of_ran ok_prog0 ran255
end Go.Proofs.YtnjdhcfonobpkadGreatDoor
