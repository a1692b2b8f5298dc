/- 'dripstonelaw18.HeapPlays' returns true for every heap and list of acts, and each argument reads as it did. -/
import Derived.Test.YtjkfdiglokkceaaRows
import Derived.Test.YtjkfdiglokkceaaHU
import Derived.Test.YtjkfdiglokkceaaPaleArgs
import Derived.WalkKit
import Derived.ProofKit
import Derived.OpenShut
namespace Go.Proofs.Ytjkfdiglokkceaa.heapPlays
open Go Go.Proofs.Ytjkfdiglokkceaa.Pale Go.ChangeShapes Go.WideShapes Go.ChangeAt Go.RowKit
set_option linter.unusedVariables false

theorem own : ownKnob Try.prog.godebug = none := by kernel_rfl

def typesL : List Nat := [25, 22, 23, 79, 3, 5, 77, 4, 70, 72, 5, 3, 23]
theorem sup : supB Try.prog typesL = true := by kernel_rfl
theorem kH : rkOf Try.prog 25 = .agg [(22, 0), (23, 1)] := by kernel_rfl
theorem kPs : rkOf Try.prog 22 = .slice 79 := by kernel_rfl
theorem kWs : rkOf Try.prog 23 = .slice 3 := by kernel_rfl
theorem kP : rkOf Try.prog 79 = .agg [(5, 0), (3, 1), (77, 2)] := by kernel_rfl
theorem kK : rkOf Try.prog 5 = .int .u8 := by kernel_rfl
theorem kI : rkOf Try.prog 3 = .int .i64 := by kernel_rfl
theorem kL : rkOf Try.prog 77 = .slice 4 := by kernel_rfl
theorem kB : rkOf Try.prog 4 = .bool := by kernel_rfl
theorem cH : Try.prog.cellsOf 25 = 2 := by kernel_rfl
theorem cPs : Try.prog.cellsOf 22 = 1 := by kernel_rfl
theorem cWs : Try.prog.cellsOf 23 = 1 := by kernel_rfl
theorem cP : Try.prog.cellsOf 79 = 3 := by kernel_rfl
theorem cK : Try.prog.cellsOf 5 = 1 := by kernel_rfl
theorem cI : Try.prog.cellsOf 3 = 1 := by kernel_rfl
theorem cL : Try.prog.cellsOf 77 = 1 := by kernel_rfl
theorem kAs : rkOf Try.prog 70 = .slice 72 := by kernel_rfl
theorem kA : rkOf Try.prog 72 = .agg [(5, 0), (3, 1), (3, 2), (23, 3)] := by kernel_rfl
theorem kAk : rkOf Try.prog 5 = .int .u8 := by kernel_rfl
theorem kAi : rkOf Try.prog 3 = .int .i64 := by kernel_rfl
theorem kAw : rkOf Try.prog 23 = .slice 3 := by kernel_rfl
theorem cA : Try.prog.cellsOf 72 = 4 := by kernel_rfl
theorem cAk : Try.prog.cellsOf 5 = 1 := by kernel_rfl
theorem cAi : Try.prog.cellsOf 3 = 1 := by kernel_rfl
theorem cAw : Try.prog.cellsOf 23 = 1 := by kernel_rfl
theorem laidOut : laidOutB Try.prog = true := by kernel_rfl

set_option maxRecDepth 100000 in
theorem lifted (os : Os) (started : os.Started) (H : Type) (enc : TypeId × Value → H) :
    ReturnsInHanded {} Try.checked os 10 .any (Rows.heapPlaysSpec.pre6 enc Try.prog Try.f10 Rows.heapPlaysRow.domain false) (Rows.heapPlaysSpec.post enc Try.prog Try.f10 false true false false) := by
  refine returnsInHanded_of_change (C := Try.checked) own started (by kernel_rfl) Try.func10
    (ChangeSpec.witness6 (enc := enc) (C := Try.checked) false ⟨#[], #[.agg #[.slice none 0 0, .slice none 0 0], .slice none 0 0], []⟩ 8 (by kernel_rfl) (by kernel_rfl) (by kernel_rfl) (by kernel_rfl)) ?_
  intro W base args ds gs before hval0 hW hcnd _
  have hval : ∀ (j : Nat) t v, Try.f10.params[j]? = some t → args[j]? = some v → Value.okWide Try.prog W .any base t v := hval0
  have hW' := hW
  obtain ⟨p, q, hA0, hV, rfl, hfz, hnd⟩ := hW
  have hA : DataW.TrodAll enc Try.prog W 0 (fun _ => true) true Try.f10.params.toList args.toList ds p := hA0
  have hA1 := hA
  rw [Try.params10] at hA hval
  obtain ⟨v0, v1, d0, d1, p0, p1, rfl, rfl, rfl, h0, h1⟩ := trodAll_two hA
  obtain ⟨rfl, rfl⟩ := trodVars_none hV
  obtain ⟨n0, x0, hr0, hf0⟩ := read_arg sup (by decide : (25 : Nat) ∈ typesL) (hval 0 25 v0 rfl rfl) h0
  obtain ⟨ps, ws, hvh⟩ := elem_heap kH cH cPs cWs kPs kWs kP cP cK cI cL kK kI kL kB hf0
  obtain ⟨n1, x1, hr1, hf1⟩ := read_arg sup (by decide : (70 : Nat) ∈ typesL) (hval 1 70 v1 rfl rfl) h1
  obtain ⟨vk, l, rfl⟩ := elem_acts kAs kA cA cAk cAi cAw kAk kAi kAw hf1
  clear hA0 hval0
  simp only [List.append_nil] at hW' hA1
  obtain ⟨σ', hrun⟩ := plays_run (k := 20000) vk l hvh (by omega)
  refine (args_true lawOk hrun W (fun b => b < W.heap.size) (fun _ h => h) (fun k cs h => by have h' : (none : Option (List AVal)) = some cs := h; cases h') (xs := #[v0, v1]) ?_).mono fun e W' ⟨he, hg⟩ => ?_
  · exact ⟨v0, _, rfl, hr0, v1, _, rfl, hr1, rfl⟩
  subst he
  exact ⟨_, rfl, post_of_below (pv := []) hW' (fun _ _ _ => (trodAll_cons_mk (shut_bool Try.underlying4 _) trodAll_mk0)) (fun sp hsp => trodAll_below laidOut hg sp (by kernel_rfl) hA1 hW'.lt hsp) (fun _ _ => rfl) (by simp)
    hg (ok_one (by kernel_rfl) rfl (okWide_bool_mk Try.underlying4 _))⟩

theorem over : Rows.heapPlaysRow.holds Try.pinned (OpenSpec.ofChange Rows.heapPlaysSpec) :=
  OpenClaim.holds_of_wide 10 Try.f10 rfl rfl rfl rfl rfl rfl rfl ⟨rfl, rfl, rfl, rfl, rfl⟩ rfl rfl rfl rfl rfl (by kernel_rfl) Try.func10 (by kernel_rfl)
    (of_decide_eq_true (by kernel_rfl)) (by unfold Func.isWrapper; first | (rw [if_pos (by decide +kernel)]; kernel_rfl) | (rw [if_neg (by decide +kernel)]; exact ⟨rfl, rfl⟩))
    (fun os started H enc _ => lifted os started H enc)

/-- ████ THE STATEMENT ████ -/
theorem proved : Rows.HeapPlaysSaid :=
  over
#print axioms proved
end Go.Proofs.Ytjkfdiglokkceaa.heapPlays
