/- 'dripstonelaw21.PackSpoilt' returns true for every parcel, every chunk and every three numbers, and each argument reads as it did; what is asked is that the package variable that the row lists is laid as the program's text lays it, which the card ties to that text. -/
import Derived.Test.YtjckhhkhgjbpaaaGreatDoorRows
import Derived.Test.YtjckhhkhgjbpaaaGreatDoorME
import Derived.Test.YtjckhhkhgjbpaaaGreatDoorPaleArgs
import Derived.Test.YtjckhhkhgjbpaaaGreatDoorPaleRead
import Derived.Test.YtjckhhkhgjbpaaaGreatDoorCards
import Derived.Test.YtjckhhkhgjbpaaaGreatDoorTie
import Derived.LaidMore
import Derived.Stop.Joined
import Derived.SevenTiedAt
import Derived.WalkKit
import Derived.ProofKit
import Derived.OpenShut
namespace Go.Proofs.YtjckhhkhgjbpaaaGreatDoor.packSpoilt
open Go Go.Proofs.YtjckhhkhgjbpaaaGreatDoor.Pale Go.ChangeShapes Go.WideShapes Go.ChangeAt Go.RowKit
set_option linter.unusedVariables false

theorem own : ownKnob Tryz.prog.godebug = none := by kernel_rfl

def laidL : List (String × DataW Unit) := [("math/bits.deBruijn64tab", Rows.laid_math_bits_deBruijn64tab)]
def tabL : List Int := [0, 1, 56, 2, 57, 49, 28, 3, 61, 58, 42, 50, 38, 29, 17, 4, 62, 47, 59, 36, 45, 43, 51, 22, 53, 39, 33, 30, 24, 18, 12, 5, 63, 55, 48, 27, 60, 41, 37, 16, 46, 35, 44, 21, 52, 32, 23, 11, 54, 26, 40, 15, 34, 20, 31, 10, 25, 14, 19, 9, 13, 8, 7, 6]

theorem glob0 : absProg.glob 0 = some (tabL.map fun i => AVal.int .u8 i) := by kernel_rfl
theorem globs : ∀ k cs, absProg.glob k = some cs → k = 0 := by
  intro k cs h
  cases k with
  | zero => rfl
  | succ k =>
    exfalso
    have : absProg.glob (k + 1) = none := by
      show absGlobs.get (k + 1) = none
      unfold absGlobs
      rw [Tr.get_succ]
      split <;> rfl
    rw [this] at h
    cases h

theorem gName : Tryz.prog.globalNamed "math/bits.deBruijn64tab" = some 0 := by kernel_rfl
theorem gType : (Tryz.prog.globals[0]?).map (·.type) = some 248 := by kernel_rfl
theorem gUnder : Tryz.prog.underlying 248 = some (.array 64 5) := by kernel_rfl
theorem gCells : Tryz.prog.cellsOf 5 = 1 := by kernel_rfl
theorem gElem : Tryz.prog.underlying 5 = some (.int .u8) := by kernel_rfl

theorem of_laid {W : World} (h : laidMetH Tryz.prog laidL W) : ∀ k cs, lawProg.glob k = some cs → PAtL W (fun b => b < W.heap.size) k 0 cs := by
  intro k cs hk
  have hk' : absProg.glob k = some cs := hk
  obtain rfl := globs k cs hk'
  rw [glob0] at hk'
  cases hk'
  rw [MakeChecks.laidMetH_plain _ _ _ (by kernel_rfl)] at h
  obtain ⟨ps, ⟨g0, t0, cs0, f0, p0, q0, hg0, ht0, hv0, hd0, _, _⟩, _, _⟩ := h
  exact laid_ints gName gType gUnder gCells gElem (by decide) hg0 ht0 hv0 hd0

/-- The door's own heap meets the condition. -/
theorem door_met (os : Os) (args : Array Value) : laidMetH Tryz.prog laidL ((World.doorLaid Tryz.prog 400 os).forCall (fun _ _ => 0) ⟨#[], args, []⟩).memory :=
  laidMetH_of_parts3 (fuel := 8) (laidMet_of_run' 8 (by kernel_rfl) (by kernel_rfl)) (by kernel_rfl) (by kernel_rfl)

def typesL : List Nat := [35, 3, 4, 31, 5, 28, 29, 32, 33, 146, 54, 39, 5, 73, 72]
theorem sup : supB Tryz.prog typesL = true := by kernel_rfl
theorem k_tP : rkOf Tryz.prog 35 = .agg [(3, 0), (3, 1), (4, 2), (31, 3), (32, 7), (33, 8)] := by kernel_rfl
theorem k_ti : rkOf Tryz.prog 3 = .int .i64 := by kernel_rfl
theorem k_tw : rkOf Tryz.prog 4 = .bool := by kernel_rfl
theorem k_tE : rkOf Tryz.prog 31 = .agg [(5, 0), (3, 1), (28, 2), (29, 3)] := by kernel_rfl
theorem k_tk : rkOf Tryz.prog 5 = .int .u8 := by kernel_rfl
theorem k_tkl : rkOf Tryz.prog 28 = .slice 3 := by kernel_rfl
theorem k_tdl : rkOf Tryz.prog 29 = .slice 31 := by kernel_rfl
theorem k_tls : rkOf Tryz.prog 32 = .slice 33 := by kernel_rfl
theorem k_tsp : rkOf Tryz.prog 33 = .slice 146 := by kernel_rfl
theorem k_tS : rkOf Tryz.prog 146 = .agg [(3, 0), (3, 1)] := by kernel_rfl
theorem k_tC : rkOf Tryz.prog 54 = .agg [(3, 0), (3, 1), (3, 2), (39, 3)] := by kernel_rfl
theorem k_tb : rkOf Tryz.prog 39 = .slice 5 := by kernel_rfl
theorem k_tu : rkOf Tryz.prog 5 = .int .u8 := by kernel_rfl
theorem k_tA : rkOf Tryz.prog 73 = .agg [(72, 0), (72, 1), (72, 2)] := by kernel_rfl
theorem k_t16 : rkOf Tryz.prog 72 = .int .u16 := by kernel_rfl
theorem c_tP : Tryz.prog.cellsOf 35 = 9 := by kernel_rfl
theorem c_ti : Tryz.prog.cellsOf 3 = 1 := by kernel_rfl
theorem c_tw : Tryz.prog.cellsOf 4 = 1 := by kernel_rfl
theorem c_tE : Tryz.prog.cellsOf 31 = 4 := by kernel_rfl
theorem c_tk : Tryz.prog.cellsOf 5 = 1 := by kernel_rfl
theorem c_tkl : Tryz.prog.cellsOf 28 = 1 := by kernel_rfl
theorem c_tdl : Tryz.prog.cellsOf 29 = 1 := by kernel_rfl
theorem c_tls : Tryz.prog.cellsOf 32 = 1 := by kernel_rfl
theorem c_tsp : Tryz.prog.cellsOf 33 = 1 := by kernel_rfl
theorem c_tS : Tryz.prog.cellsOf 146 = 2 := by kernel_rfl
theorem c_tC : Tryz.prog.cellsOf 54 = 4 := by kernel_rfl
theorem c_tb : Tryz.prog.cellsOf 39 = 1 := by kernel_rfl
theorem c_tA : Tryz.prog.cellsOf 73 = 3 := by kernel_rfl
theorem c_t16 : Tryz.prog.cellsOf 72 = 1 := by kernel_rfl
theorem laidOut : laidOutB Tryz.prog = true := by kernel_rfl

set_option maxRecDepth 100000 in
theorem lifted (os : Os) (started : os.Started) (H : Type) (enc : TypeId × Value → H) :
    ReturnsInHanded {} Tryz.checked os 7 .any (fun w args => (Rows.packSpoiltSpec.pre enc Tryz.prog Tryz.f7 [] false w args ∧ laidMetH Tryz.prog laidL w) ∧ sizedMet enc Tryz.prog Tryz.f7 (OpenSpec.ofChange Rows.packSpoiltSpec) false w args) (Rows.packSpoiltSpec.post enc Tryz.prog Tryz.f7 false true false false) := by
  refine returnsInHanded_of_change_and (C := Tryz.checked) (X := fun w _ => laidMetH Tryz.prog laidL w) (fun _ _ _ hh h => h.of_heap hh) own started (by kernel_rfl) Tryz.func7
    (ChangeSpec.witness_shaped (enc := enc) (C := Tryz.checked) (os := os) (X := fun w _ => laidMetH Tryz.prog laidL w) false (World.doorLaid Tryz.prog 400 os) #[.agg #[.int .i64 0, .int .i64 0, .bool false, .int .u8 0, .int .i64 0, .slice none 0 0, .slice none 0 0, .slice none 0 0, .slice none 0 0], .agg #[.int .i64 0, .int .i64 0, .int .i64 0, .slice none 0 0], .agg #[.int .u16 0, .int .u16 0, .int .u16 0]] 8 rfl (World.shaped_of_RefB (by kernel_rfl) (by kernel_rfl)) (by kernel_rfl) (by kernel_rfl) (by kernel_rfl) (door_met os _)) ?_
  intro W base args ds gs before hval0 hW _ _ hL _
  have hval : ∀ (j : Nat) t v, Tryz.f7.params[j]? = some t → args[j]? = some v → Value.okWide Tryz.prog W .any base t v := hval0
  have hW' := hW
  obtain ⟨p, q, hA0, hV, rfl, hfz, hnd⟩ := hW
  have hA : DataW.TrodAll enc Tryz.prog W 0 (fun _ => true) true Tryz.f7.params.toList args.toList ds p := hA0
  have hA1 := hA
  rw [Tryz.params7] at hA hval
  obtain ⟨v0, v1, v2, d0, d1, d2, p0, p1, p2, rfl, rfl, rfl, h0, h1, h2⟩ := trodAll_three hA
  obtain ⟨rfl, rfl⟩ := trodVars_none hV
  obtain ⟨n0, x0, hr0, hf0⟩ := read_arg sup (by decide : (35 : Nat) ∈ typesL) (hval 0 35 v0 rfl rfl) h0
  obtain ⟨n1, x1, hr1, hf1⟩ := read_arg sup (by decide : (54 : Nat) ∈ typesL) (hval 1 54 v1 rfl rfl) h1
  obtain ⟨n2, x2, hr2, hf2⟩ := read_arg sup (by decide : (73 : Nat) ∈ typesL) (hval 2 73 v2 rfl rfl) h2
  obtain ⟨q, m, rfl, hfq⟩ := elem_parcel k_tP c_tP c_tw c_tls c_tsp k_tw k_tls k_tsp k_tS c_tS k_tE c_tE c_tk c_ti c_tkl c_tdl k_tk k_ti k_tkl k_tdl hf0
  obtain ⟨name, i, of, vk, d, rfl, hd⟩ := elem_chunkU k_tC c_tC c_ti c_tb k_ti k_tb k_tu hf1
  obtain ⟨a, b, c, rfl, ha, hb, hc⟩ := elem_arr k_tA c_tA c_t16 k_t16 hf2
  clear hA0 hval0
  simp only [List.append_nil] at hW' hA1
  obtain ⟨σ', hrun⟩ := spoilt_run (k := 300000) q hfq name i of vk d hd a b c ha hb hc (by omega)
  refine (args_true lawOk hrun W (fun b => b < W.heap.size) (fun _ h => h) (of_laid hL) (xs := #[v0, v1, v2]) ?_).mono fun e W' ⟨he, hg⟩ => ?_
  · exact ⟨v0, _, rfl, hr0, v1, _, rfl, hr1, v2, _, rfl, hr2, rfl⟩
  subst he
  exact ⟨_, rfl, post_of_below (pa := p0 ++ p1 ++ p2) (pv := []) hW' (fun _ _ _ => (trodAll_cons_mk (shut_bool Tryz.underlying4 _) trodAll_mk0)) (fun sp hsp => trodAll_below laidOut hg sp (by kernel_rfl) hA1 hW'.lt hsp) (fun _ _ => rfl) (by simp)
    hg (ok_one (by kernel_rfl) rfl (okWide_bool_mk Tryz.underlying4 _))⟩

theorem over : Rows.packSpoiltRow.holds Tryz.pinned (OpenSpec.ofChange Rows.packSpoiltSpec) :=
  OpenClaim.holds_of_wide 7 Tryz.f7 rfl rfl rfl rfl rfl rfl rfl ⟨rfl, rfl, rfl, rfl, rfl⟩ rfl rfl rfl rfl rfl (by kernel_rfl) Tryz.func7 (by kernel_rfl)
    (of_decide_eq_true (by kernel_rfl)) (by unfold Func.isWrapper; first | (rw [if_pos (by decide +kernel)]; kernel_rfl) | (rw [if_neg (by decide +kernel)]; exact ⟨rfl, rfl⟩))
    (fun os started H enc _ => lifted os started H enc)

/-- ████ THE STATEMENT ████ -/
theorem proved : Rows.PackSpoiltCardSaid :=
  Claim7.holds_tied_plain_at .later [] [.data] true (true, "3d6e434c1baf5b2c28d7bab781fdb1b1b6300002ea644331ae8ba4514208fe0f") false
    over (fun _ h => by cases h) (by kernel_rfl) (fun _ h => by cases h) packSpoilt_row_tie rfl ⟨rfl, rfl⟩ (by kernel_rfl) rfl
    (fun f fn hf hfn => by
      obtain rfl : f = 7 := Option.some.inj ((show Tryz.prog.funcNamed "dripstone/dripstonelaw21.PackSpoilt" = some 7 by kernel_rfl).symm.trans hf) |>.symm
      obtain rfl : fn = Tryz.f7 := (Option.some.inj (Tryz.func7.symm.trans hfn)).symm
      exact ⟨by kernel_rfl, fun j t ht => by
        rw [Tryz.params7] at ht
        have hm : t ∈ [35, 54, 73] := by simpa using Array.mem_of_getElem? ht
        have hall : ([35, 54, 73].all fun u => !Tryz.prog.wantsStandIn u) = true := by kernel_rfl
        exact (show Tryz.prog.wantsStandIn t = false by simpa using List.all_eq_true.1 hall t hm)⟩)
    (by kernel_rfl)
#print axioms proved
end Go.Proofs.YtjckhhkhgjbpaaaGreatDoor.packSpoilt
