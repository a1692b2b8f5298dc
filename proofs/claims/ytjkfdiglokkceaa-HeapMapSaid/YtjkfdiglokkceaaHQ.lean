import Derived.Test.YtjkfdiglokkceaaHP
import Derived.Test.YtjkfdiglokkceaaFacts
import Derived.Test.YtjkfdiglokkceaaPaleRuns
open Nat renaming reduceLT → zLt, reduceLeDiff → zLe, reduceEqDiff → zEq, reduceAdd → zAd, reduceMul → zMu, reduceSub → zSu, reduceBEq → zBe
open Int renaming reduceEq → yEq, reduceLT → yLt, reduceLE → yLe, reduceToNat → yTn
/- Heaps: the reference's pages: In, isSize, many, isPage. -/
set_option maxRecDepth 100000
set_option linter.unusedSimpArgs false
set_option linter.unusedVariables false
namespace Go.Proofs.Ytjkfdiglokkceaa
open Go Go.Proofs.Ytjkfdiglokkceaa.Pale
variable {k : Nat} {σ : AMem}

/-- A page as a value: its list of what is used may be nil. -/
abbrev PV := Pg × VK
def boolV (l : List Bool) : List AVal := l.map AVal.bool
def intV (l : List Int) : List AVal := l.map fun i => AVal.int .i64 i
def pv (x : PV) : AVal := .agg [.int .u8 x.1.kind, .int .i64 x.1.n, .vs x.2 (boolV x.1.used)]
def pgsOf (l : List PV) : List Pg := l.map (·.1)
def hpV (kp kw : VK) (l : List PV) (ws : List Int) : AVal := .agg [.vs kp (l.map pv), .vs kw (intV ws)]
theorem boolV_length (l : List Bool) : (boolV l).length = l.length := by simp [boolV]
theorem intV_length (l : List Int) : (intV l).length = l.length := by simp [intV]
theorem boolV_get {l : List Bool} {i : Nat} (hi : i < l.length) : (boolV l)[i]? = some (.bool l[i]) := by
  unfold boolV
  rw [List.getElem?_map, List.getElem?_eq_getElem hi]
  rfl
theorem intV_get {l : List Int} {i : Nat} (hi : i < l.length) : (intV l)[i]? = some (.int .i64 l[i]) := by
  unfold intV
  rw [List.getElem?_map, List.getElem?_eq_getElem hi]
  rfl
theorem awake_call (call : CallA) : pureCall lawProg call (.func 12 [] []) [] σ = some (.bool true, σ) := pureCall_memo (args := []) rfl memo12
end Go.Proofs.Ytjkfdiglokkceaa

/- Heaps: the reference's isPage. -/
set_option maxRecDepth 100000
set_option linter.unusedSimpArgs false
set_option linter.unusedVariables false
namespace Go.Proofs.Ytjkfdiglokkceaa
open Go Go.Proofs.Ytjkfdiglokkceaa.Pale
variable {k : Nat} {σ : AMem}

end Go.Proofs.Ytjkfdiglokkceaa

/- Heaps: the reference's Blocks. -/
set_option maxRecDepth 100000
set_option linter.unusedSimpArgs false
set_option linter.unusedVariables false
namespace Go.Proofs.Ytjkfdiglokkceaa
open Go Go.Proofs.Ytjkfdiglokkceaa.Pale
variable {k : Nat} {σ : AMem}

def prC (b : Blk) : List AVal := [.int .i64 b.at_, .int .i64 b.size]
def prV (b : Blk) : AVal := .agg (prC b)
def prsV (l : List Blk) : List AVal := l.map prV
def prsC (l : List Blk) : List AVal := (l.map prC).flatten
theorem prsC_snoc (l : List Blk) (b : Blk) : prsC (l ++ [b]) = prsC l ++ prC b := by simp [prsC]
/-- A list of blocks that grew from nothing, and whose row is not another one. -/
def GrewB (low q : Nat) (σ : AMem) (out : AVal) (l : List Blk) : Prop := Grew low σ 2 true out l.length (prsC l) ∧ (l = [] → out = .vs .nil []) ∧ (∀ r j c z, out = .slice r 0 j c z → r ≠ q)
theorem snapL_prs (fr : Bool) (σ : AMem) (d : Nat) (l : List Blk) : snapL (snapF fr σ (d + 1)) (prsC l) = some (prsC l, []) := by
  induction l with
  | nil => rfl
  | cons s l ih =>
    have : prsC (s :: l) = prC s ++ prsC l := rfl
    rw [this]
    exact snapL_append (a := prC s) rfl ih
theorem snap_prs {fr : Bool} {σ : AMem} {low q d : Nat} {out : AVal} {l : List Blk} (h : GrewB low q σ out l) : ∃ S, snapF fr σ (d + 2) out = some (.vs (lkOf l.length) (prsV l), S) := by
  by_cases h0 : l = []
  · obtain rfl := h.2.1 h0
    subst h0
    exact ⟨[], by cases fr <;> rfl⟩
  · rcases h.1.2 with ⟨h1, rfl⟩ | ⟨r, _, _, rfl, hg⟩
    · exact absurd (List.eq_nil_of_length_eq_zero h1) h0
    · refine ⟨r :: [], ?_⟩
      have := snap_structs (fr := fr) (σ := σ) (d := d) (r := r) (n := l.length) (cap := none) (sz := 2) (ls := l.map prC) (ps := l.map prC) (S := []) (by omega) (by simp) rfl (fun x hx => by obtain ⟨s, _, rfl⟩ := List.mem_map.1 hx; rfl) (fun x hx => by obtain ⟨s, _, rfl⟩ := List.mem_map.1 hx; rfl) hg (snapL_prs fr σ d l)
      rw [this, lkOf, if_neg (fun h => h0 (List.eq_nil_of_length_eq_zero h)), prsV, List.map_map]
      rfl
theorem GrewB.same {low q q' : Nat} {σ σ' : AMem} {out : AVal} {l : List Blk} (h : GrewB low q σ out l) (hn : σ.next ≤ σ'.next) (hs : ∀ r, low ≤ r → r < σ.next → σ'.get r = σ.get r) (hq : q' = q ∨ σ.next ≤ q') : GrewB low q' σ' out l := by
  refine ⟨⟨h.1.1, ?_⟩, h.2.1, fun r j c z hr => ?_⟩
  · rcases h.1.2 with h | ⟨r, h6, h7, h8, h9⟩
    · exact .inl h
    · exact .inr ⟨r, h6, by omega, h8, by rw [hs r h6 h7]; exact h9⟩
  · rcases hq with rfl | hq
    · exact h.2.2 r j c z hr
    · rcases h.1.2 with ⟨_, h⟩ | ⟨r', h6, h7, h8, h9⟩
      · rw [h] at hr; cases hr
      · rw [h8] at hr
        simp only [AVal.slice.injEq] at hr
        omega
theorem blocks_len {ps : List Pg} (h : Shape ps) : ∀ i, i ≤ ps.length → (blocksTo ps i).length ≤ 64 * i ∧ ∀ m, i < ps.length → (smallTo i (pgAt ps i) m).length ≤ m := by
  have hs : ∀ i p m, (smallTo i p m).length ≤ m := fun i p m => by
    unfold smallTo
    have := List.length_filterMap_le (fun s => if p.used[s]?.getD false then some (slotB i p s) else none) (List.range m)
    rw [List.length_range] at this
    exact this
  intro i
  induction i with
  | zero => intro _; exact ⟨by simp [blocksTo], fun m _ => hs _ _ _⟩
  | succ i ih =>
    intro hi
    refine ⟨?_, fun m _ => hs _ _ _⟩
    have h1 := (ih (by omega)).1
    rw [blocksTo_succ, List.length_append]
    have : (pgB i (pgAt ps i)).length ≤ 64 := by
      unfold pgB
      split
      · simp
      · split
        · rename_i e1 e
          have h2 := hs i (pgAt ps i) (pgAt ps i).used.length
          rcases small_cases (h i (by omega)) e with ⟨_, b⟩ | ⟨_, b⟩ | ⟨_, b⟩ | ⟨_, b⟩ | ⟨_, b⟩ <;> omega
        · simp
    omega
theorem pgAt_pgs {l : List PV} {i : Nat} (hi : i < l.length) : pgAt (pgsOf l) i = (l[i]).1 := by
  rw [pgAt_lt (by simpa [pgsOf] using hi)]
  simp [pgsOf]
theorem pv_get {l : List PV} {i : Nat} (hi : i < l.length) : (l.map pv)[i]? = some (.agg [.int .u8 (l[i]).1.kind, .int .i64 (l[i]).1.n, .vs (l[i]).2 (boolV (l[i]).1.used)]) := by
  rw [List.getElem?_map, List.getElem?_eq_getElem hi]
  rfl
end Go.Proofs.Ytjkfdiglokkceaa

/- Heaps: the reference's IsRight. -/
set_option maxRecDepth 100000
set_option linter.unusedSimpArgs false
set_option linter.unusedVariables false
namespace Go.Proofs.Ytjkfdiglokkceaa
open Go Go.Proofs.Ytjkfdiglokkceaa.Pale
variable {k : Nat} {σ : AMem}

noncomputable def rightB (ps : List Pg) (ws : List Int) : Bool := @decide (RightH ps ws) (Classical.propDecidable _)
theorem rightB_iff {ps : List Pg} {ws : List Int} : rightB ps ws = true ↔ RightH ps ws := by unfold rightB; simp
theorem rightB_true {ps : List Pg} {ws : List Int} (h : RightH ps ws) : rightB ps ws = true := rightB_iff.2 h
theorem rightB_false {ps : List Pg} {ws : List Int} (h : ¬ RightH ps ws) : rightB ps ws = false := by rw [Bool.eq_false_iff]; exact fun e => h (rightB_iff.1 e)
end Go.Proofs.Ytjkfdiglokkceaa

/- Heaps: the reference's IsRight, its words, and whole. -/
set_option maxRecDepth 100000
set_option linter.unusedSimpArgs false
set_option linter.unusedVariables false
namespace Go.Proofs.Ytjkfdiglokkceaa
open Go Go.Proofs.Ytjkfdiglokkceaa.Pale
variable {k : Nat} {σ : AMem}

end Go.Proofs.Ytjkfdiglokkceaa

/- Heaps: the reference's IsRight and Check. -/
set_option maxRecDepth 100000
set_option linter.unusedSimpArgs false
set_option linter.unusedVariables false
namespace Go.Proofs.Ytjkfdiglokkceaa
open Go Go.Proofs.Ytjkfdiglokkceaa.Pale
variable {k : Nat} {σ : AMem}

end Go.Proofs.Ytjkfdiglokkceaa


