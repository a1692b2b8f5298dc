/- 'dripstonelaw22.MeshNames' returns true; it takes nothing, and what is asked is that the package variable that the row lists is laid as the program's text lays it, which the card ties to that text. The walk: the abstract machine of the Pale texts, sound for every call that comes back, run by the kernel. -/
import Derived.Test.YtnjdhcfonobpkadGreatDoorRows
import Derived.Test.YtnjdhcfonobpkadGreatDoorRan
import Derived.Test.YtnjdhcfonobpkadGreatDoorPaleLaid
import Derived.Test.YtnjdhcfonobpkadGreatDoorCards
import Derived.Test.YtnjdhcfonobpkadGreatDoorTie
import Derived.LaidMore
import Derived.Stop.Joined
import Derived.SevenTiedAt
import Derived.WalkKit
import Derived.ProofKit
import Derived.OpenShut
namespace Go.Proofs.YtnjdhcfonobpkadGreatDoor.meshNames
open Go Go.Proofs.YtnjdhcfonobpkadGreatDoor.Pale Go.ChangeShapes Go.WideShapes Go.ChangeAt Go.RowKit
set_option linter.unusedVariables false      -- a walk need not use every 'w<i>' (that an integer argument fits its kind)

theorem own : ownKnob Tryz.prog.godebug = none := by kernel_rfl

def laidL : List (String × DataW Unit) := [("math/bits.deBruijn64tab", Rows.laid_math_bits_deBruijn64tab)]
def tabL : List Int := [0, 1, 56, 2, 57, 49, 28, 3, 61, 58, 42, 50, 38, 29, 17, 4, 62, 47, 59, 36, 45, 43, 51, 22, 53, 39, 33, 30, 24, 18, 12, 5, 63, 55, 48, 27, 60, 41, 37, 16, 46, 35, 44, 21, 52, 32, 23, 11, 54, 26, 40, 15, 34, 20, 31, 10, 25, 14, 19, 9, 13, 8, 7, 6]

theorem glob0 : absProg.glob 0 = some (tabL.map fun i => AVal.int .u8 i) := by kernel_rfl
theorem globs : ∀ k cs, absProg.glob k = some cs → k = 0 := by
  intro k cs h
  cases k with
  | zero => rfl
  | succ k =>
    exfalso
    have : absProg.glob (k + 1) = none := by
      show absGlobs.get (k + 1) = none
      unfold absGlobs
      rw [Tr.get_succ]
      split <;> rfl
    rw [this] at h
    cases h

theorem gName : Tryz.prog.globalNamed "math/bits.deBruijn64tab" = some 0 := by kernel_rfl
theorem gType : (Tryz.prog.globals[0]?).map (·.type) = some 292 := by kernel_rfl
theorem gUnder : Tryz.prog.underlying 292 = some (.array 64 5) := by kernel_rfl
theorem gCells : Tryz.prog.cellsOf 5 = 1 := by kernel_rfl
theorem gElem : Tryz.prog.underlying 5 = some (.int .u8) := by kernel_rfl

theorem of_laid {W : World} (h : laidMetH Tryz.prog laidL W) : ∀ k cs, absProg.glob k = some cs → PAtL W (fun b => b < W.heap.size) k 0 cs := by
  intro k cs hk
  obtain rfl := globs k cs hk
  rw [glob0] at hk
  cases hk
  rw [MakeChecks.laidMetH_plain _ _ _ (by kernel_rfl)] at h
  obtain ⟨ps, ⟨g0, t0, cs0, f0, p0, q0, hg0, ht0, hv0, hd0, _, _⟩, _, _⟩ := h
  exact laid_ints gName gType gUnder gCells gElem (by decide) hg0 ht0 hv0 hd0

theorem walk (w : World) (hL : laidMetH Tryz.prog laidL w) : Calls Tryz.prog 3 #[] w fun e w' => e = .returned (.bool true) ∧ Below w.heap.size w w' :=
  closed_true topOk (by rw [← callF_eq]; exact topRan) w (fun b => b < w.heap.size) (fun _ h => h) (of_laid hL)

/-- The door's own heap meets the condition. -/
theorem door_met (os : Os) (args : Array Value) : laidMetH Tryz.prog laidL ((World.doorLaid Tryz.prog 400 os).forCall (fun _ _ => 0) ⟨#[], args, []⟩).memory :=
  laidMetH_of_parts3 (fuel := 8) (laidMet_of_run' 8 (by kernel_rfl) (by kernel_rfl)) (by kernel_rfl) (by kernel_rfl)

/-! ### THE ROW's STEP: WRITTEN OUT: LEAVE IT -/
set_option maxRecDepth 100000 in
theorem lifted (os : Os) (started : os.Started) (H : Type) (enc : TypeId × Value → H) :
    ReturnsInHanded {} Tryz.checked os 3 .any (fun w args => (Rows.meshNamesSpec.pre enc Tryz.prog Tryz.f3 [] false w args ∧ laidMetH Tryz.prog laidL w) ∧ sizedMet enc Tryz.prog Tryz.f3 (OpenSpec.ofChange Rows.meshNamesSpec) false w args) (Rows.meshNamesSpec.post enc Tryz.prog Tryz.f3 false true false false) := by
  refine returnsInHanded_of_change_and (C := Tryz.checked) (X := fun w _ => laidMetH Tryz.prog laidL w) (fun _ _ _ hh h => h.of_heap hh) own started (by kernel_rfl) Tryz.func3
    (ChangeSpec.witness_shaped (enc := enc) (C := Tryz.checked) (os := os) (X := fun w _ => laidMetH Tryz.prog laidL w) false (World.doorLaid Tryz.prog 400 os) #[] 8 rfl (World.shaped_of_RefB (by kernel_rfl) (by kernel_rfl)) (by kernel_rfl) (by kernel_rfl) (by kernel_rfl) (door_met os _)) ?_
  intro W base args ds gs before hval0 hW _ _ hL _
  have hval : ∀ (j : Nat) t v, Tryz.f3.params[j]? = some t → args[j]? = some v → Value.okWide Tryz.prog W .any base t v := hval0
  have hW' := hW
  obtain ⟨p, q, hA0, hV, rfl, hfz, hnd⟩ := hW
  have hA : DataW.TrodAll enc Tryz.prog W 0 (fun _ => true) true Tryz.f3.params.toList args.toList ds p := hA0
  rw [Tryz.params3] at hA hval
  obtain ⟨rfl, rfl, rfl⟩ := trodAll_none hA
  obtain ⟨rfl, rfl⟩ := trodVars_none hV
  clear hA0 hval0
  simp only [List.append_nil] at hW'
  refine (walk W hL).mono fun e W' ⟨he, hg⟩ => ?_
  subst he
  exact ⟨_, rfl, post_of_below (pa := []) (pv := []) hW' (fun _ _ _ => (trodAll_cons_mk (shut_bool Tryz.underlying4 _) trodAll_mk0)) (fun sp _ => rfl) (fun _ _ => rfl) rfl
    hg (ok_one (by kernel_rfl) rfl (okWide_bool_mk Tryz.underlying4 _))⟩

theorem over : Rows.meshNamesRow.holds Tryz.pinned (OpenSpec.ofChange Rows.meshNamesSpec) :=
  OpenClaim.holds_of_wide 3 Tryz.f3 rfl rfl rfl rfl rfl rfl rfl ⟨rfl, rfl, rfl, rfl, rfl⟩ rfl rfl rfl rfl rfl (by kernel_rfl) Tryz.func3 (by kernel_rfl)
    (of_decide_eq_true (by kernel_rfl)) (by unfold Func.isWrapper; first | (rw [if_pos (by decide +kernel)]; kernel_rfl) | (rw [if_neg (by decide +kernel)]; exact ⟨rfl, rfl⟩))
    (fun os started H enc _ => lifted os started H enc)

/-- ████ THE STATEMENT ████ -/
theorem proved : Rows.MeshNamesCardSaid :=
  Claim7.holds_tied_plain_at .later [] [.data] true (true, "55333601184679d224ab1e96401518c0b9925a6f139769e86411c066d82ff8ac") false
    over (fun _ h => by cases h) (by kernel_rfl) (fun _ h => by cases h) meshNames_row_tie rfl ⟨rfl, rfl⟩ (by kernel_rfl) rfl
    (fun f fn hf hfn => by
      obtain rfl : f = 3 := Option.some.inj ((show Tryz.prog.funcNamed "dripstone/dripstonelaw22.MeshNames" = some 3 by kernel_rfl).symm.trans hf) |>.symm
      obtain rfl : fn = Tryz.f3 := (Option.some.inj (Tryz.func3.symm.trans hfn)).symm
      exact ⟨by kernel_rfl, fun j t ht => by
        rw [Tryz.params3] at ht
        simp at ht⟩)
    (by kernel_rfl)
#print axioms proved
end Go.Proofs.YtnjdhcfonobpkadGreatDoor.meshNames
