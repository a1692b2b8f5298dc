/- 'dripstonelaw21.PackAdds' returns true for every sorter and every chunk, and each argument reads as it did; what is asked is that the package variable that the row lists is laid as the program's text lays it, which the card ties to that text. -/
import Derived.Test.YtjckhhkhgjbpaaaGreatDoorRows
import Derived.Test.YtjckhhkhgjbpaaaGreatDoorMD
import Derived.Test.YtjckhhkhgjbpaaaGreatDoorPaleArgs
import Derived.Test.YtjckhhkhgjbpaaaGreatDoorPaleRead
import Derived.Test.YtjckhhkhgjbpaaaGreatDoorCards
import Derived.Test.YtjckhhkhgjbpaaaGreatDoorTie
import Derived.LaidMore
import Derived.Stop.Joined
import Derived.SevenTiedAt
import Derived.WalkKit
import Derived.ProofKit
import Derived.OpenShut
namespace Go.Proofs.YtjckhhkhgjbpaaaGreatDoor.packAdds
open Go Go.Proofs.YtjckhhkhgjbpaaaGreatDoor.Pale Go.ChangeShapes Go.WideShapes Go.ChangeAt Go.RowKit
set_option linter.unusedVariables false

theorem own : ownKnob Tryz.prog.godebug = none := by kernel_rfl

def laidL : List (String × DataW Unit) := [("math/bits.deBruijn64tab", Rows.laid_math_bits_deBruijn64tab)]
def tabL : List Int := [0, 1, 56, 2, 57, 49, 28, 3, 61, 58, 42, 50, 38, 29, 17, 4, 62, 47, 59, 36, 45, 43, 51, 22, 53, 39, 33, 30, 24, 18, 12, 5, 63, 55, 48, 27, 60, 41, 37, 16, 46, 35, 44, 21, 52, 32, 23, 11, 54, 26, 40, 15, 34, 20, 31, 10, 25, 14, 19, 9, 13, 8, 7, 6]

theorem glob0 : absProg.glob 0 = some (tabL.map fun i => AVal.int .u8 i) := by kernel_rfl
theorem globs : ∀ k cs, absProg.glob k = some cs → k = 0 := by
  intro k cs h
  cases k with
  | zero => rfl
  | succ k =>
    exfalso
    have : absProg.glob (k + 1) = none := by
      show absGlobs.get (k + 1) = none
      unfold absGlobs
      rw [Tr.get_succ]
      split <;> rfl
    rw [this] at h
    cases h

theorem gName : Tryz.prog.globalNamed "math/bits.deBruijn64tab" = some 0 := by kernel_rfl
theorem gType : (Tryz.prog.globals[0]?).map (·.type) = some 248 := by kernel_rfl
theorem gUnder : Tryz.prog.underlying 248 = some (.array 64 5) := by kernel_rfl
theorem gCells : Tryz.prog.cellsOf 5 = 1 := by kernel_rfl
theorem gElem : Tryz.prog.underlying 5 = some (.int .u8) := by kernel_rfl

theorem of_laid {W : World} (h : laidMetH Tryz.prog laidL W) : ∀ k cs, lawProg.glob k = some cs → PAtL W (fun b => b < W.heap.size) k 0 cs := by
  intro k cs hk
  have hk' : absProg.glob k = some cs := hk
  obtain rfl := globs k cs hk'
  rw [glob0] at hk'
  cases hk'
  rw [MakeChecks.laidMetH_plain _ _ _ (by kernel_rfl)] at h
  obtain ⟨ps, ⟨g0, t0, cs0, f0, p0, q0, hg0, ht0, hv0, hd0, _, _⟩, _, _⟩ := h
  exact laid_ints gName gType gUnder gCells gElem (by decide) hg0 ht0 hv0 hd0

/-- The door's own heap meets the condition. -/
theorem door_met (os : Os) (args : Array Value) : laidMetH Tryz.prog laidL ((World.doorLaid Tryz.prog 400 os).forCall (fun _ _ => 0) ⟨#[], args, []⟩).memory :=
  laidMetH_of_parts3 (fuel := 8) (laidMet_of_run' 8 (by kernel_rfl) (by kernel_rfl)) (by kernel_rfl) (by kernel_rfl)

def typesL : List Nat := [52, 50, 120, 3, 118, 39, 5, 54]
theorem sup : supB Tryz.prog typesL = true := by kernel_rfl
theorem k_tx : rkOf Tryz.prog 52 = .agg [(50, 0)] := by kernel_rfl
theorem k_tl : rkOf Tryz.prog 50 = .slice 120 := by kernel_rfl
theorem k_ts : rkOf Tryz.prog 120 = .agg [(3, 0), (118, 1)] := by kernel_rfl
theorem k_ti : rkOf Tryz.prog 3 = .int .i64 := by kernel_rfl
theorem k_td : rkOf Tryz.prog 118 = .slice 39 := by kernel_rfl
theorem k_tb : rkOf Tryz.prog 39 = .slice 5 := by kernel_rfl
theorem k_tu : rkOf Tryz.prog 5 = .int .u8 := by kernel_rfl
theorem k_tc : rkOf Tryz.prog 54 = .agg [(3, 0), (3, 1), (3, 2), (39, 3)] := by kernel_rfl
theorem c_tx : Tryz.prog.cellsOf 52 = 1 := by kernel_rfl
theorem c_tl : Tryz.prog.cellsOf 50 = 1 := by kernel_rfl
theorem c_ts : Tryz.prog.cellsOf 120 = 2 := by kernel_rfl
theorem c_ti : Tryz.prog.cellsOf 3 = 1 := by kernel_rfl
theorem c_td : Tryz.prog.cellsOf 118 = 1 := by kernel_rfl
theorem c_tb : Tryz.prog.cellsOf 39 = 1 := by kernel_rfl
theorem c_tc : Tryz.prog.cellsOf 54 = 4 := by kernel_rfl
theorem laidOut : laidOutB Tryz.prog = true := by kernel_rfl

set_option maxRecDepth 100000 in
theorem lifted (os : Os) (started : os.Started) (H : Type) (enc : TypeId × Value → H) :
    ReturnsInHanded {} Tryz.checked os 5 .any (fun w args => (Rows.packAddsSpec.pre enc Tryz.prog Tryz.f5 [] false w args ∧ laidMetH Tryz.prog laidL w) ∧ sizedMet enc Tryz.prog Tryz.f5 (OpenSpec.ofChange Rows.packAddsSpec) false w args) (Rows.packAddsSpec.post enc Tryz.prog Tryz.f5 false true false false) := by
  refine returnsInHanded_of_change_and (C := Tryz.checked) (X := fun w _ => laidMetH Tryz.prog laidL w) (fun _ _ _ hh h => h.of_heap hh) own started (by kernel_rfl) Tryz.func5
    (ChangeSpec.witness_shaped (enc := enc) (C := Tryz.checked) (os := os) (X := fun w _ => laidMetH Tryz.prog laidL w) false (World.doorLaid Tryz.prog 400 os) #[.agg #[.slice none 0 0], .agg #[.int .i64 0, .int .i64 0, .int .i64 0, .slice none 0 0]] 8 rfl (World.shaped_of_RefB (by kernel_rfl) (by kernel_rfl)) (by kernel_rfl) (by kernel_rfl) (by kernel_rfl) (door_met os _)) ?_
  intro W base args ds gs before hval0 hW _ _ hL _
  have hval : ∀ (j : Nat) t v, Tryz.f5.params[j]? = some t → args[j]? = some v → Value.okWide Tryz.prog W .any base t v := hval0
  have hW' := hW
  obtain ⟨p, q, hA0, hV, rfl, hfz, hnd⟩ := hW
  have hA : DataW.TrodAll enc Tryz.prog W 0 (fun _ => true) true Tryz.f5.params.toList args.toList ds p := hA0
  have hA1 := hA
  rw [Tryz.params5] at hA hval
  obtain ⟨v0, v1, d0, d1, p0, p1, rfl, rfl, rfl, h0, h1⟩ := trodAll_two hA
  obtain ⟨rfl, rfl⟩ := trodVars_none hV
  obtain ⟨n0, x0, hr0, hf0⟩ := read_arg sup (by decide : (52 : Nat) ∈ typesL) (hval 0 52 v0 rfl rfl) h0
  obtain ⟨n1, x1, hr1, hf1⟩ := read_arg sup (by decide : (54 : Nat) ∈ typesL) (hval 1 54 v1 rfl rfl) h1
  obtain ⟨vk, shs, rfl⟩ := elem_sorter k_tx c_tx k_tl c_tl k_ts c_ts c_ti c_td k_ti k_td k_tb k_tu hf0
  obtain ⟨c, rfl, _⟩ := elem_chunk k_tc c_tc c_ti c_tb k_ti k_tb k_tu hf1
  clear hA0 hval0
  simp only [List.append_nil] at hW' hA1
  obtain ⟨σ', hrun⟩ := adds_run (k := 20000) vk c.vk shs c.name c.at_ c.of c.d (by omega)
  refine (args_true lawOk hrun W (fun b => b < W.heap.size) (fun _ h => h) (of_laid hL) (xs := #[v0, v1]) ?_).mono fun e W' ⟨he, hg⟩ => ?_
  · exact ⟨v0, _, rfl, hr0, v1, _, rfl, hr1, rfl⟩
  subst he
  exact ⟨_, rfl, post_of_below (pa := p0 ++ p1) (pv := []) hW' (fun _ _ _ => (trodAll_cons_mk (shut_bool Tryz.underlying4 _) trodAll_mk0)) (fun sp hsp => trodAll_below laidOut hg sp (by kernel_rfl) hA1 hW'.lt hsp) (fun _ _ => rfl) (by simp)
    hg (ok_one (by kernel_rfl) rfl (okWide_bool_mk Tryz.underlying4 _))⟩

theorem over : Rows.packAddsRow.holds Tryz.pinned (OpenSpec.ofChange Rows.packAddsSpec) :=
  OpenClaim.holds_of_wide 5 Tryz.f5 rfl rfl rfl rfl rfl rfl rfl ⟨rfl, rfl, rfl, rfl, rfl⟩ rfl rfl rfl rfl rfl (by kernel_rfl) Tryz.func5 (by kernel_rfl)
    (of_decide_eq_true (by kernel_rfl)) (by unfold Func.isWrapper; first | (rw [if_pos (by decide +kernel)]; kernel_rfl) | (rw [if_neg (by decide +kernel)]; exact ⟨rfl, rfl⟩))
    (fun os started H enc _ => lifted os started H enc)

/-- ████ THE STATEMENT ████ -/
theorem proved : Rows.PackAddsCardSaid :=
  Claim7.holds_tied_plain_at .later [] [.data] true (true, "3d6e434c1baf5b2c28d7bab781fdb1b1b6300002ea644331ae8ba4514208fe0f") false
    over (fun _ h => by cases h) (by kernel_rfl) (fun _ h => by cases h) packAdds_row_tie rfl ⟨rfl, rfl⟩ (by kernel_rfl) rfl
    (fun f fn hf hfn => by
      obtain rfl : f = 5 := Option.some.inj ((show Tryz.prog.funcNamed "dripstone/dripstonelaw21.PackAdds" = some 5 by kernel_rfl).symm.trans hf) |>.symm
      obtain rfl : fn = Tryz.f5 := (Option.some.inj (Tryz.func5.symm.trans hfn)).symm
      exact ⟨by kernel_rfl, fun j t ht => by
        rw [Tryz.params5] at ht
        have hm : t ∈ [52, 54] := by simpa using Array.mem_of_getElem? ht
        have hall : ([52, 54].all fun u => !Tryz.prog.wantsStandIn u) = true := by kernel_rfl
        exact (show Tryz.prog.wantsStandIn t = false by simpa using List.all_eq_true.1 hall t hm)⟩)
    (by kernel_rfl)
#print axioms proved
end Go.Proofs.YtjckhhkhgjbpaaaGreatDoor.packAdds
