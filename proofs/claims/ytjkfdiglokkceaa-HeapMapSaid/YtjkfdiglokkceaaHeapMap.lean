/- 'dripstonelaw18.HeapMap' returns true for every story, and each argument reads as it did. -/
import Derived.Test.YtjkfdiglokkceaaRows
import Derived.Test.YtjkfdiglokkceaaHU
import Derived.Test.YtjkfdiglokkceaaPaleArgs
import Derived.WalkKit
import Derived.ProofKit
import Derived.OpenShut
namespace Go.Proofs.Ytjkfdiglokkceaa.heapMap
open Go Go.Proofs.Ytjkfdiglokkceaa.Pale Go.ChangeShapes Go.WideShapes Go.ChangeAt Go.RowKit
set_option linter.unusedVariables false

theorem own : ownKnob Try.prog.godebug = none := by kernel_rfl

def typesL : List Nat := [62, 5, 60, 64]
theorem sup : supB Try.prog typesL = true := by kernel_rfl
theorem kS : rkOf Try.prog 62 = .agg [(5, 0), (60, 1)] := by kernel_rfl
theorem kB : rkOf Try.prog 5 = .int .u8 := by kernel_rfl
theorem kL : rkOf Try.prog 60 = .slice 64 := by kernel_rfl
theorem kA : rkOf Try.prog 64 = .agg [(5, 0), (5, 1), (5, 2)] := by kernel_rfl
theorem cS : Try.prog.cellsOf 62 = 2 := by kernel_rfl
theorem cB : Try.prog.cellsOf 5 = 1 := by kernel_rfl
theorem cL : Try.prog.cellsOf 60 = 1 := by kernel_rfl
theorem cA : Try.prog.cellsOf 64 = 3 := by kernel_rfl
theorem laidOut : laidOutB Try.prog = true := by kernel_rfl

set_option maxRecDepth 100000 in
theorem lifted (os : Os) (started : os.Started) (H : Type) (enc : TypeId × Value → H) :
    ReturnsInHanded {} Try.checked os 9 .any (Rows.heapMapSpec.pre6 enc Try.prog Try.f9 Rows.heapMapRow.domain false) (Rows.heapMapSpec.post enc Try.prog Try.f9 false true false false) := by
  refine returnsInHanded_of_change (C := Try.checked) own started (by kernel_rfl) Try.func9
    (ChangeSpec.witness6 (enc := enc) (C := Try.checked) false ⟨#[], #[.agg #[.int .u8 0, .slice none 0 0]], []⟩ 8 (by kernel_rfl) (by kernel_rfl) (by kernel_rfl) (by kernel_rfl)) ?_
  intro W base args ds gs before hval0 hW hcnd _
  have hval : ∀ (j : Nat) t v, Try.f9.params[j]? = some t → args[j]? = some v → Value.okWide Try.prog W .any base t v := hval0
  have hW' := hW
  obtain ⟨p, q, hA0, hV, rfl, hfz, hnd⟩ := hW
  have hA : DataW.TrodAll enc Try.prog W 0 (fun _ => true) true Try.f9.params.toList args.toList ds p := hA0
  have hA1 := hA
  rw [Try.params9] at hA hval
  obtain ⟨v0, d0, rfl, rfl, h0⟩ := trodAll_one hA
  obtain ⟨rfl, rfl⟩ := trodVars_none hV
  obtain ⟨n0, x0, hr0, hf0⟩ := read_arg sup (by decide : (62 : Nat) ∈ typesL) (hval 0 62 v0 rfl rfl) h0
  obtain ⟨z, Ks, st, rfl, hz, hst⟩ := elem_story kS cS cB cL kB kL kA cA hf0
  clear hA0 hval0
  simp only [List.append_nil] at hW' hA1
  obtain ⟨σ', hrun⟩ := map_run (k := 20000) z Ks st hz hst (by omega)
  refine (args_true lawOk hrun W (fun b => b < W.heap.size) (fun _ h => h) (fun k cs h => by have h' : (none : Option (List AVal)) = some cs := h; cases h') (xs := #[v0]) ?_).mono fun e W' ⟨he, hg⟩ => ?_
  · exact ⟨v0, _, rfl, hr0, rfl⟩
  subst he
  exact ⟨_, rfl, post_of_below (pa := p) (pv := []) hW' (fun _ _ _ => (trodAll_cons_mk (shut_bool Try.underlying4 _) trodAll_mk0)) (fun sp hsp => trodAll_below laidOut hg sp (by kernel_rfl) hA1 hW'.lt hsp) (fun _ _ => rfl) (by simp)
    hg (ok_one (by kernel_rfl) rfl (okWide_bool_mk Try.underlying4 _))⟩

theorem over : Rows.heapMapRow.holds Try.pinned (OpenSpec.ofChange Rows.heapMapSpec) :=
  OpenClaim.holds_of_wide 9 Try.f9 rfl rfl rfl rfl rfl rfl rfl ⟨rfl, rfl, rfl, rfl, rfl⟩ rfl rfl rfl rfl rfl (by kernel_rfl) Try.func9 (by kernel_rfl)
    (of_decide_eq_true (by kernel_rfl)) (by unfold Func.isWrapper; first | (rw [if_pos (by decide +kernel)]; kernel_rfl) | (rw [if_neg (by decide +kernel)]; exact ⟨rfl, rfl⟩))
    (fun os started H enc _ => lifted os started H enc)

/-- ████ THE STATEMENT ████ -/
theorem proved : Rows.HeapMapSaid :=
  over
#print axioms proved
end Go.Proofs.Ytjkfdiglokkceaa.heapMap
