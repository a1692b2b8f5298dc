/- 'dripstonelaw21.PackDoes' returns true for every net and every move, and each argument reads as it did; what is asked is that the package variable that the row lists is laid as the program's text lays it, which the card ties to that text. -/
import Derived.Test.YtikhidpcaefjiaaGreatDoorRows
import Derived.Test.YtikhidpcaefjiaaGreatDoorD9
import Derived.Test.YtikhidpcaefjiaaGreatDoorPaleArgs
import Derived.Test.YtikhidpcaefjiaaGreatDoorPaleRead
import Derived.Test.YtikhidpcaefjiaaGreatDoorCards
import Derived.Test.YtikhidpcaefjiaaGreatDoorTie
import Derived.LaidMore
import Derived.Stop.Joined
import Derived.SevenTiedAt
import Derived.WalkKit
import Derived.ProofKit
import Derived.OpenShut
namespace Go.Proofs.YtikhidpcaefjiaaGreatDoor.packDoes
open Go Go.Proofs.YtikhidpcaefjiaaGreatDoor.Pale Go.ChangeShapes Go.WideShapes Go.ChangeAt Go.RowKit
set_option linter.unusedVariables false

theorem own : ownKnob Tryz.prog.godebug = none := by kernel_rfl

def laidL : List (String × DataW Unit) := [("math/bits.deBruijn64tab", Rows.laid_math_bits_deBruijn64tab)]
def tabL : List Int := [0, 1, 56, 2, 57, 49, 28, 3, 61, 58, 42, 50, 38, 29, 17, 4, 62, 47, 59, 36, 45, 43, 51, 22, 53, 39, 33, 30, 24, 18, 12, 5, 63, 55, 48, 27, 60, 41, 37, 16, 46, 35, 44, 21, 52, 32, 23, 11, 54, 26, 40, 15, 34, 20, 31, 10, 25, 14, 19, 9, 13, 8, 7, 6]

theorem glob0 : absProg.glob 0 = some (tabL.map fun i => AVal.int .u8 i) := by kernel_rfl
theorem globs : ∀ k cs, absProg.glob k = some cs → k = 0 := by
  intro k cs h
  cases k with
  | zero => rfl
  | succ k =>
    exfalso
    have : absProg.glob (k + 1) = none := by
      show absGlobs.get (k + 1) = none
      unfold absGlobs
      rw [Tr.get_succ]
      split <;> rfl
    rw [this] at h
    cases h

theorem gName : Tryz.prog.globalNamed "math/bits.deBruijn64tab" = some 0 := by kernel_rfl
theorem gType : (Tryz.prog.globals[0]?).map (·.type) = some 250 := by kernel_rfl
theorem gUnder : Tryz.prog.underlying 250 = some (.array 64 5) := by kernel_rfl
theorem gCells : Tryz.prog.cellsOf 5 = 1 := by kernel_rfl
theorem gElem : Tryz.prog.underlying 5 = some (.int .u8) := by kernel_rfl

theorem of_laid {W : World} (h : laidMetH Tryz.prog laidL W) : ∀ k cs, lawProg.glob k = some cs → PAtL W (fun b => b < W.heap.size) k 0 cs := by
  intro k cs hk
  have hk' : absProg.glob k = some cs := hk
  obtain rfl := globs k cs hk'
  rw [glob0] at hk'
  cases hk'
  rw [MakeChecks.laidMetH_plain _ _ _ (by kernel_rfl)] at h
  obtain ⟨ps, ⟨g0, t0, cs0, f0, p0, q0, hg0, ht0, hv0, hd0, _, _⟩, _, _⟩ := h
  exact laid_ints gName gType gUnder gCells gElem (by decide) hg0 ht0 hv0 hd0

/-- The door's own heap meets the condition. -/
theorem door_met (os : Os) (args : Array Value) : laidMetH Tryz.prog laidL ((World.doorLaid Tryz.prog 400 os).forCall (fun _ _ => 0) ⟨#[], args, []⟩).memory :=
  laidMetH_of_parts3 (fuel := 8) (laidMet_of_run' 8 (by kernel_rfl) (by kernel_rfl)) (by kernel_rfl) (by kernel_rfl)

def typesL : List Nat := [42, 40, 44, 3, 22, 5, 58]
theorem sup : supB Tryz.prog typesL = true := by kernel_rfl
theorem k42 : rkOf Tryz.prog 42 = .agg [(3, 0), (40, 1)] := by kernel_rfl
theorem k40 : rkOf Tryz.prog 40 = .slice 44 := by kernel_rfl
theorem k44 : rkOf Tryz.prog 44 = .agg [(3, 0), (3, 1), (22, 2)] := by kernel_rfl
theorem k3 : rkOf Tryz.prog 3 = .int .i64 := by kernel_rfl
theorem k22 : rkOf Tryz.prog 22 = .slice 5 := by kernel_rfl
theorem k5 : rkOf Tryz.prog 5 = .int .u8 := by kernel_rfl
theorem k58 : rkOf Tryz.prog 58 = .agg [(5, 0), (3, 1), (3, 2), (3, 3)] := by kernel_rfl
theorem c58 : Tryz.prog.cellsOf 58 = 4 := by kernel_rfl
theorem c5 : Tryz.prog.cellsOf 5 = 1 := by kernel_rfl
theorem c42 : Tryz.prog.cellsOf 42 = 2 := by kernel_rfl
theorem c40 : Tryz.prog.cellsOf 40 = 1 := by kernel_rfl
theorem c44 : Tryz.prog.cellsOf 44 = 3 := by kernel_rfl
theorem c3 : Tryz.prog.cellsOf 3 = 1 := by kernel_rfl
theorem c22 : Tryz.prog.cellsOf 22 = 1 := by kernel_rfl
theorem laidOut : laidOutB Tryz.prog = true := by kernel_rfl

set_option maxRecDepth 100000 in
theorem lifted (os : Os) (started : os.Started) (H : Type) (enc : TypeId × Value → H) :
    ReturnsInHanded {} Tryz.checked os 6 .any (fun w args => (Rows.packDoesSpec.pre enc Tryz.prog Tryz.f6 [] false w args ∧ laidMetH Tryz.prog laidL w) ∧ sizedMet enc Tryz.prog Tryz.f6 (OpenSpec.ofChange Rows.packDoesSpec) false w args) (Rows.packDoesSpec.post enc Tryz.prog Tryz.f6 false true false false) := by
  refine returnsInHanded_of_change_and (C := Tryz.checked) (X := fun w _ => laidMetH Tryz.prog laidL w) (fun _ _ _ hh h => h.of_heap hh) own started (by kernel_rfl) Tryz.func6
    (ChangeSpec.witness_shaped (enc := enc) (C := Tryz.checked) (os := os) (X := fun w _ => laidMetH Tryz.prog laidL w) false (World.doorLaid Tryz.prog 400 os) #[.agg #[.int .i64 0, .slice none 0 0], .agg #[.int .u8 0, .int .i64 0, .int .i64 0, .int .i64 0]] 8 rfl (World.shaped_of_RefB (by kernel_rfl) (by kernel_rfl)) (by kernel_rfl) (by kernel_rfl) (by kernel_rfl) (door_met os _)) ?_
  intro W base args ds gs before hval0 hW _ _ hL _
  have hval : ∀ (j : Nat) t v, Tryz.f6.params[j]? = some t → args[j]? = some v → Value.okWide Tryz.prog W .any base t v := hval0
  have hW' := hW
  obtain ⟨p, q, hA0, hV, rfl, hfz, hnd⟩ := hW
  have hA : DataW.TrodAll enc Tryz.prog W 0 (fun _ => true) true Tryz.f6.params.toList args.toList ds p := hA0
  have hA1 := hA
  rw [Tryz.params6] at hA hval
  obtain ⟨v0, v1, d0, d1, p0, p1, rfl, rfl, rfl, h0, h1⟩ := trodAll_two hA
  obtain ⟨rfl, rfl⟩ := trodVars_none hV
  obtain ⟨n0, x0, hr0, hf0⟩ := read_arg sup (by decide : (42 : Nat) ∈ typesL) (hval 0 42 v0 rfl rfl) h0
  obtain ⟨n1, x1, hr1, hf1⟩ := read_arg sup (by decide : (58 : Nat) ∈ typesL) (hval 1 58 v1 rfl rfl) h1
  obtain ⟨h, vk, ps, rfl, _⟩ := elem_net k42 c42 c40 k40 k44 c44 c3 c22 k3 k22 k5 hf0
  obtain ⟨m, rfl, hm8⟩ := elem_move k58 c58 c5 c3 k5 k3 hf1
  clear hA0 hval0
  simp only [List.append_nil] at hW' hA1
  obtain ⟨σ', hrun⟩ := does_run (k := 20000) h vk ps m hm8 (by omega)
  refine (args_true lawOk hrun W (fun b => b < W.heap.size) (fun _ h => h) (of_laid hL) (xs := #[v0, v1]) ?_).mono fun e W' ⟨he, hg⟩ => ?_
  · exact ⟨v0, _, rfl, hr0, v1, _, rfl, hr1, rfl⟩
  subst he
  exact ⟨_, rfl, post_of_below (pa := p0 ++ p1) (pv := []) hW' (fun _ _ _ => (trodAll_cons_mk (shut_bool Tryz.underlying4 _) trodAll_mk0)) (fun sp hsp => trodAll_below laidOut hg sp (by kernel_rfl) hA1 hW'.lt hsp) (fun _ _ => rfl) (by simp)
    hg (ok_one (by kernel_rfl) rfl (okWide_bool_mk Tryz.underlying4 _))⟩

theorem over : Rows.packDoesRow.holds Tryz.pinned (OpenSpec.ofChange Rows.packDoesSpec) :=
  OpenClaim.holds_of_wide 6 Tryz.f6 rfl rfl rfl rfl rfl rfl rfl ⟨rfl, rfl, rfl, rfl, rfl⟩ rfl rfl rfl rfl rfl (by kernel_rfl) Tryz.func6 (by kernel_rfl)
    (of_decide_eq_true (by kernel_rfl)) (by unfold Func.isWrapper; first | (rw [if_pos (by decide +kernel)]; kernel_rfl) | (rw [if_neg (by decide +kernel)]; exact ⟨rfl, rfl⟩))
    (fun os started H enc _ => lifted os started H enc)

/-- ████ THE STATEMENT ████ -/
theorem proved : Rows.PackDoesCardSaid :=
  Claim7.holds_tied_plain_at .later [] [.data] true (true, "df1e28726c2824466d346cc4ad546de4a2a5d3d4c6da1ba7386b3c6b75edeba2") false
    over (fun _ h => by cases h) (by kernel_rfl) (fun _ h => by cases h) packDoes_row_tie rfl ⟨rfl, rfl⟩ (by kernel_rfl) rfl
    (fun f fn hf hfn => by
      obtain rfl : f = 6 := Option.some.inj ((show Tryz.prog.funcNamed "dripstone/dripstonelaw21.PackDoes" = some 6 by kernel_rfl).symm.trans hf) |>.symm
      obtain rfl : fn = Tryz.f6 := (Option.some.inj (Tryz.func6.symm.trans hfn)).symm
      exact ⟨by kernel_rfl, fun j t ht => by
        rw [Tryz.params6] at ht
        have hm : t ∈ [42, 58] := by simpa using Array.mem_of_getElem? ht
        have hall : ([42, 58].all fun u => !Tryz.prog.wantsStandIn u) = true := by kernel_rfl
        exact (show Tryz.prog.wantsStandIn t = false by simpa using List.all_eq_true.1 hall t hm)⟩)
    (by kernel_rfl)
#print axioms proved
end Go.Proofs.YtikhidpcaefjiaaGreatDoor.packDoes
