import Derived.Test.YtjkfdiglokkceaaPaleList
open Nat renaming reduceLT → zLt, reduceLeDiff → zLe, reduceEqDiff → zEq, reduceAdd → zAd, reduceMul → zMu, reduceSub → zSu, reduceBEq → zBe
open Int renaming reduceEq → yEq, reduceLT → yLt, reduceLE → yLe, reduceToNat → yTn
/- Heaps as lists of pages and words: what is right. No program in sight. -/
set_option maxRecDepth 100000
set_option linter.unusedSimpArgs false
set_option linter.unusedVariables false
namespace Go.Proofs.Ytjkfdiglokkceaa
open Go Go.Proofs.Ytjkfdiglokkceaa.Pale

structure Pg where
  kind : Int
  n : Int
  used : List Bool
deriving DecidableEq
def noPg : Pg := ⟨0, 0, []⟩
def pgAt (ps : List Pg) (i : Nat) : Pg := ps[i]?.getD noPg
def isSz (n : Int) : Bool := n == 2 || n == 4 || n == 8 || n == 16 || n == 32
/-- The shape of one page: how many pages are left from it on, and how many more a block before it wants. -/
def pgShape (left more : Int) (p : Pg) : Bool :=
  (decide (p.kind = 3) == decide (more > 0)) &&
  (if p.kind = 0 then p.n == 0 && p.used.isEmpty
   else if p.kind = 1 then isSz p.n && (p.used.length : Int) == (64 : Int).tdiv p.n && p.used.any id
   else if p.kind = 2 then decide (1 ≤ p.n) && decide (p.n ≤ left) && p.used.isEmpty
   else if p.kind = 3 then p.n == 0 && p.used.isEmpty
   else false)
def nextMore (more : Int) (p : Pg) : Int := if p.kind = 2 then p.n - 1 else if p.kind = 3 then more - 1 else more
def moreAt (ps : List Pg) (i : Nat) : Int := (ps.take i).foldl nextMore 0
theorem pgAt_lt {ps : List Pg} {i : Nat} (h : i < ps.length) : pgAt ps i = ps[i] := by
  unfold pgAt
  rw [List.getElem?_eq_getElem h]
  rfl
theorem moreAt_succ {ps : List Pg} {i : Nat} (h : i < ps.length) : moreAt ps (i + 1) = nextMore (moreAt ps i) (pgAt ps i) := by
  unfold moreAt
  rw [List.take_succ_eq_append_getElem h, List.foldl_append, pgAt_lt h]
  rfl
theorem moreAt_zero (ps : List Pg) : moreAt ps 0 = 0 := by simp [moreAt]
def Shape (ps : List Pg) : Prop := ∀ i, i < ps.length → pgShape ((ps.length : Int) - i) (moreAt ps i) (pgAt ps i) = true

theorem shape_kind {left more : Int} {p : Pg} (h : pgShape left more p = true) : (p.kind = 3 ↔ more > 0) ∧ ((p.kind = 0 ∧ p.n = 0 ∧ p.used = []) ∨ (p.kind = 1 ∧ isSz p.n = true ∧ (p.used.length : Int) = (64 : Int).tdiv p.n ∧ p.used.any id = true) ∨ (p.kind = 2 ∧ 1 ≤ p.n ∧ p.n ≤ left ∧ p.used = []) ∨ (p.kind = 3 ∧ p.n = 0 ∧ p.used = [])) := by
  unfold pgShape at h
  rw [Bool.and_eq_true] at h
  obtain ⟨h1, h2⟩ := h
  rw [beq_iff_eq, decide_eq_decide] at h1
  refine ⟨h1, ?_⟩
  split at h2
  · rename_i e
    simp only [Bool.and_eq_true, beq_iff_eq, List.isEmpty_iff] at h2
    exact .inl ⟨e, h2.1, h2.2⟩
  · split at h2
    · rename_i e
      simp only [Bool.and_eq_true, beq_iff_eq] at h2
      exact .inr (.inl ⟨e, h2.1.1, h2.1.2, h2.2⟩)
    · split at h2
      · rename_i e
        simp only [Bool.and_eq_true, decide_eq_true_eq, List.isEmpty_iff] at h2
        exact .inr (.inr (.inl ⟨e, h2.1.1, h2.1.2, h2.2⟩))
      · split at h2
        · rename_i e
          simp only [Bool.and_eq_true, beq_iff_eq, List.isEmpty_iff] at h2
          exact .inr (.inr (.inr ⟨e, h2.1, h2.2⟩))
        · cases h2
theorem isSz_iff {n : Int} : isSz n = true ↔ n = 2 ∨ n = 4 ∨ n = 8 ∨ n = 16 ∨ n = 32 := by
  unfold isSz
  simp only [Bool.or_eq_true, beq_iff_eq]
  omega
/-- How many more pages are wanted, and by which block. -/
theorem more_head {ps : List Pg} (h : Shape ps) : ∀ i, i ≤ ps.length → 0 ≤ moreAt ps i ∧ (i : Int) + moreAt ps i ≤ ps.length ∧ (moreAt ps i > 0 → ∃ j, j < i ∧ (pgAt ps j).kind = 2 ∧ (j : Int) + (pgAt ps j).n = i + moreAt ps i) := by
  intro i
  induction i with
  | zero => intro _; rw [moreAt_zero]; exact ⟨Int.le_refl _, by omega, fun h => by omega⟩
  | succ i ih =>
    intro hi
    obtain ⟨h1, h2, h3⟩ := ih (by omega)
    obtain ⟨k1, k2⟩ := shape_kind (h i (by omega))
    rw [moreAt_succ (by omega)]
    unfold nextMore
    split
    · rename_i e
      rcases k2 with ⟨e0, _⟩ | ⟨e0, _⟩ | ⟨_, n1, n2, _⟩ | ⟨e0, _⟩
      · omega
      · omega
      · exact ⟨by omega, by omega, fun _ => ⟨i, by omega, e, by omega⟩⟩
      · omega
    · split
      · rename_i e
        have hm := k1.1 e
        refine ⟨by omega, by omega, fun _ => ?_⟩
        obtain ⟨j, j1, j2, j3⟩ := h3 hm
        exact ⟨j, by omega, j2, by omega⟩
      · rename_i e2 e3
        have hm : ¬ moreAt ps i > 0 := fun hm => e3 (k1.2 hm)
        exact ⟨by omega, by omega, fun h => absurd h hm⟩
/-- The pages of a large block. -/
theorem head_more {ps : List Pg} (h : Shape ps) {j : Nat} (hj : j < ps.length) (hk : (pgAt ps j).kind = 2) : (j : Int) + (pgAt ps j).n ≤ ps.length ∧ 1 ≤ (pgAt ps j).n ∧ ∀ m : Nat, j < m → (m : Int) < j + (pgAt ps j).n → (pgAt ps m).kind = 3 ∧ moreAt ps m = j + (pgAt ps j).n - m := by
  obtain ⟨k1, k2⟩ := shape_kind (h j hj)
  obtain ⟨n1, n2⟩ : 1 ≤ (pgAt ps j).n ∧ (pgAt ps j).n ≤ (ps.length : Int) - j := by
    rcases k2 with ⟨e0, _⟩ | ⟨e0, _⟩ | ⟨_, n1, n2, _⟩ | ⟨e0, _⟩
    · omega
    · omega
    · exact ⟨n1, n2⟩
    · omega
  refine ⟨by omega, n1, fun m => ?_⟩
  induction m with
  | zero => intro h; omega
  | succ m ih =>
    intro h1 h2
    have key : moreAt ps (m + 1) = j + (pgAt ps j).n - (m + 1 : Nat) := by
      rw [moreAt_succ (by omega)]
      unfold nextMore
      by_cases e : m = j
      · subst e
        rw [if_pos hk]
        omega
      · obtain ⟨q1, q2⟩ := ih (by omega) (by omega)
        rw [q1, if_neg (by omega), if_pos rfl, q2]
        omega
    exact ⟨(shape_kind (h (m + 1) (by omega))).1.2 (by omega), key⟩

/-! ### blocks -/
structure Blk where
  page : Nat
  slot : Nat
  at_ : Int
  size : Int
deriving DecidableEq
/-- The small blocks of a page, up to a slot. -/
def slotB (i : Nat) (p : Pg) (s : Nat) : Blk := ⟨i, s, 64 * i + s * p.n, p.n⟩
def smallTo (i : Nat) (p : Pg) (k : Nat) : List Blk := (List.range k).filterMap fun s => if p.used[s]?.getD false then some (slotB i p s) else none
def headB (i : Nat) (p : Pg) : Blk := ⟨i, 0, 64 * i, 64 * p.n⟩
def pgB (i : Nat) (p : Pg) : List Blk := if p.kind = 2 then [headB i p] else if p.kind = 1 then smallTo i p p.used.length else []
def blocksTo (ps : List Pg) (i : Nat) : List Blk := (List.range i).flatMap fun j => pgB j (pgAt ps j)
def blocksL (ps : List Pg) : List Blk := blocksTo ps ps.length
theorem smallTo_succ (i : Nat) (p : Pg) (k : Nat) : smallTo i p (k + 1) = smallTo i p k ++ if p.used[k]?.getD false then [slotB i p k] else [] := by
  unfold smallTo
  rw [List.range_succ, List.filterMap_append]
  congr 1
  simp only [List.filterMap_cons, List.filterMap_nil]
  split <;> rename_i h
  · split at h
    · cases h
    · rename_i h2; rw [if_neg h2]
  · split at h
    · rename_i h2; rw [if_pos h2]; cases h; rfl
    · cases h
theorem blocksTo_succ (ps : List Pg) (i : Nat) : blocksTo ps (i + 1) = blocksTo ps i ++ pgB i (pgAt ps i) := by
  unfold blocksTo
  rw [List.range_succ, List.flatMap_append]
  simp
theorem mem_blocks {ps : List Pg} {b : Blk} : b ∈ blocksL ps ↔ ∃ i, i < ps.length ∧ b ∈ pgB i (pgAt ps i) := by
  unfold blocksL blocksTo
  rw [List.mem_flatMap]
  simp only [List.mem_range]
theorem mem_pgB {i : Nat} {p : Pg} {b : Blk} : b ∈ pgB i p ↔ (p.kind = 2 ∧ b = headB i p) ∨ (p.kind = 1 ∧ ∃ s, s < p.used.length ∧ p.used[s]?.getD false = true ∧ b = slotB i p s) := by
  unfold pgB
  split
  · rename_i e
    simp only [List.mem_singleton]
    constructor
    · intro h; exact .inl ⟨e, h⟩
    · rintro (⟨_, h⟩ | ⟨h, _⟩)
      · exact h
      · omega
  · split
    · rename_i e1 e
      unfold smallTo
      rw [List.mem_filterMap]
      constructor
      · rintro ⟨s, hs, h⟩
        rw [List.mem_range] at hs
        split at h
        · rename_i hu
          cases h
          exact .inr ⟨e, s, hs, hu, rfl⟩
        · cases h
      · rintro (⟨h, _⟩ | ⟨_, s, hs, hu, rfl⟩)
        · omega
        · exact ⟨s, List.mem_range.2 hs, by rw [if_pos hu]⟩
    · rename_i e1 e2
      constructor
      · intro h; cases h
      · rintro (⟨h, _⟩ | ⟨h, _⟩)
        · exact absurd h e1
        · exact absurd h e2

/-! ### words -/
def CovK (bs : List Blk) (k : Nat) : Prop := ∃ b, b ∈ bs ∧ b.at_ ≤ (k : Int) ∧ (k : Int) < b.at_ + b.size
def wdAt (ws : List Int) (k : Nat) : Int := ws[k]?.getD 0
def ZerosR (ps : List Pg) (ws : List Int) : Prop := ∀ k, k < ws.length → CovK (blocksL ps) k ∨ wdAt ws k = 0
def FreeOk (i : Nat) (ws : List Int) : Prop := ∀ k, 64 * i ≤ k → k < 64 * i + 64 → wdAt ws k = 0
def SlotsOk (i : Nat) (p : Pg) (ws : List Int) : Prop := ∀ s, s < p.used.length → p.used[s]?.getD false = false → ∀ k : Nat, 64 * (i : Int) + s * p.n ≤ k → (k : Int) < 64 * i + s * p.n + p.n → wdAt ws k = 0
def ZerosP (ps : List Pg) (ws : List Int) : Prop := ∀ i, i < ps.length → ((pgAt ps i).kind = 0 → FreeOk i ws) ∧ ((pgAt ps i).kind = 1 → SlotsOk i (pgAt ps i) ws)
/-- A small page: its size and how many slots it has. -/
theorem small_cases {left more : Int} {p : Pg} (h : pgShape left more p = true) (hk : p.kind = 1) : (p.n = 2 ∧ p.used.length = 32) ∨ (p.n = 4 ∧ p.used.length = 16) ∨ (p.n = 8 ∧ p.used.length = 8) ∨ (p.n = 16 ∧ p.used.length = 4) ∨ (p.n = 32 ∧ p.used.length = 2) := by
  obtain ⟨_, k2⟩ := shape_kind h
  rcases k2 with ⟨e0, _⟩ | ⟨_, n1, n2, _⟩ | ⟨e0, _⟩ | ⟨e0, _⟩
  · omega
  · rcases isSz_iff.1 n1 with e | e | e | e | e <;> rw [e] at n2 ⊢ <;> simp at n2 <;> omega
  · omega
  · omega
theorem zeros_iff {ps : List Pg} {ws : List Int} (h : Shape ps) (hl : ws.length = 64 * ps.length) : ZerosP ps ws ↔ ZerosR ps ws := by
  constructor
  · intro hz k hk
    obtain ⟨i, hi⟩ : ∃ i, i = k / 64 := ⟨_, rfl⟩
    have hip : i < ps.length := by omega
    obtain ⟨z0, z1⟩ := hz i hip
    have hs := h i hip
    obtain ⟨k1, k2⟩ := shape_kind hs
    rcases k2 with ⟨e, _⟩ | ⟨e, _⟩ | ⟨e, n1, _⟩ | ⟨e, _⟩
    · exact .inr (z0 e k (by omega) (by omega))
    · have hc := small_cases hs e
      obtain ⟨s, hs1, hs2, hs3⟩ : ∃ s : Nat, s < (pgAt ps i).used.length ∧ 64 * (i : Int) + s * (pgAt ps i).n ≤ k ∧ (k : Int) < 64 * i + s * (pgAt ps i).n + (pgAt ps i).n := by
        rcases hc with ⟨a, b⟩ | ⟨a, b⟩ | ⟨a, b⟩ | ⟨a, b⟩ | ⟨a, b⟩ <;> rw [a, b]
        · exact ⟨(k - 64 * i) / 2, by omega, by omega, by omega⟩
        · exact ⟨(k - 64 * i) / 4, by omega, by omega, by omega⟩
        · exact ⟨(k - 64 * i) / 8, by omega, by omega, by omega⟩
        · exact ⟨(k - 64 * i) / 16, by omega, by omega, by omega⟩
        · exact ⟨(k - 64 * i) / 32, by omega, by omega, by omega⟩
      cases hu : (pgAt ps i).used[s]?.getD false with
      | true => exact .inl ⟨slotB i (pgAt ps i) s, mem_blocks.2 ⟨i, hip, mem_pgB.2 (.inr ⟨e, s, hs1, hu, rfl⟩)⟩, hs2, hs3⟩
      | false => exact .inr (z1 e s hs1 hu k hs2 hs3)
    · exact .inl ⟨headB i (pgAt ps i), mem_blocks.2 ⟨i, hip, mem_pgB.2 (.inl ⟨e, rfl⟩)⟩, by simp only [headB]; omega, by simp only [headB]; omega⟩
    · obtain ⟨_, _, h3⟩ := more_head h i (by omega)
      obtain ⟨j, j1, j2, j3⟩ := h3 (k1.1 e)
      have := k1.1 e
      exact .inl ⟨headB j (pgAt ps j), mem_blocks.2 ⟨j, by omega, mem_pgB.2 (.inl ⟨j2, rfl⟩)⟩, by simp only [headB]; omega, by simp only [headB]; omega⟩
  · intro hz i hip
    have hs := h i hip
    have key : ∀ k, 64 * i ≤ k → k < 64 * i + 64 → CovK (blocksL ps) k → ((pgAt ps i).kind = 2 ∨ (pgAt ps i).kind = 3) ∨ ((pgAt ps i).kind = 1 ∧ ∃ s, s < (pgAt ps i).used.length ∧ (pgAt ps i).used[s]?.getD false = true ∧ 64 * (i : Int) + s * (pgAt ps i).n ≤ k ∧ (k : Int) < 64 * i + s * (pgAt ps i).n + (pgAt ps i).n) := by
      rintro k hk1 hk2 ⟨b, hb, b1, b2⟩
      obtain ⟨j, hj, hb⟩ := mem_blocks.1 hb
      rcases mem_pgB.1 hb with ⟨e, rfl⟩ | ⟨e, s, s1, s2, rfl⟩
      · simp only [headB] at b1 b2
        obtain ⟨_, _, hm⟩ := head_more h hj e
        left
        by_cases eij : j = i
        · subst eij; exact .inl e
        · exact .inr (hm i (by omega) (by omega)).1
      · simp only [slotB] at b1 b2
        have hc := small_cases (h j hj) e
        have eij : j = i := by
          rcases hc with ⟨a, b⟩ | ⟨a, b⟩ | ⟨a, b⟩ | ⟨a, b⟩ | ⟨a, b⟩ <;> rw [a] at b1 b2 <;> rw [b] at s1 <;> omega
        subst eij
        exact .inr ⟨e, s, s1, s2, b1, b2⟩
    refine ⟨fun e k hk1 hk2 => ?_, fun e s hs1 hu k hk1 hk2 => ?_⟩
    · rcases hz k (by omega) with hc | h0
      · rcases key k hk1 hk2 hc with (h2 | h2) | ⟨h2, _⟩ <;> omega
      · exact h0
    · have hc := small_cases hs e
      have hr : 64 * i ≤ k ∧ k < 64 * i + 64 := by
        rcases hc with ⟨a, b⟩ | ⟨a, b⟩ | ⟨a, b⟩ | ⟨a, b⟩ | ⟨a, b⟩ <;> rw [a] at hk1 hk2 <;> rw [b] at hs1 <;> omega
      rcases hz k (by omega) with hcov | h0
      · rcases key k hr.1 hr.2 hcov with (h2 | h2) | ⟨_, s', t1, t2, t3, t4⟩
        · omega
        · omega
        · have : s = s' := by
            rcases hc with ⟨a, b⟩ | ⟨a, b⟩ | ⟨a, b⟩ | ⟨a, b⟩ | ⟨a, b⟩ <;> rw [a] at hk1 hk2 t3 t4 <;> omega
          subst this
          rw [hu] at t2
          cases t2
      · exact h0
end Go.Proofs.Ytjkfdiglokkceaa

/- Heaps: what is handed out, and what is given back. No program in sight. -/
set_option maxRecDepth 100000
set_option linter.unusedSimpArgs false
set_option linter.unusedVariables false
namespace Go.Proofs.Ytjkfdiglokkceaa
open Go Go.Proofs.Ytjkfdiglokkceaa.Pale

/-! ### a run of free pages -/
def cntTo (ps : List Pg) : Nat → Nat
  | 0 => 0
  | i + 1 => if (pgAt ps i).kind = 0 then cntTo ps i + 1 else 0
theorem cntTo_le (ps : List Pg) : ∀ i, cntTo ps i ≤ i ∧ ∀ m, i - cntTo ps i ≤ m → m < i → (pgAt ps m).kind = 0 := by
  intro i
  induction i with
  | zero => exact ⟨Nat.le_refl _, fun m _ h => by omega⟩
  | succ i ih =>
    rw [cntTo]
    split
    · rename_i e
      refine ⟨by omega, fun m h1 h2 => ?_⟩
      by_cases em : m = i
      · subst em; exact e
      · exact ih.2 m (by omega) (by omega)
    · exact ⟨by omega, fun m h1 h2 => by omega⟩
def runTo (ps : List Pg) (many : Nat) : Nat → Option Nat
  | 0 => none
  | i + 1 => match runTo ps many i with
    | some x => some x
    | none => if cntTo ps (i + 1) = many then some (i + 1 - many) else none
def runL (ps : List Pg) (many : Nat) : Option Nat := runTo ps many ps.length
theorem runTo_some {ps : List Pg} {many f : Nat} : ∀ {i}, runTo ps many i = some f → f + many ≤ i ∧ ∀ m, f ≤ m → m < f + many → (pgAt ps m).kind = 0 := by
  intro i
  induction i with
  | zero => intro h; cases h
  | succ i ih =>
    intro h
    rw [runTo] at h
    split at h
    · rename_i x hx
      cases h
      have := ih hx
      exact ⟨by omega, this.2⟩
    · split at h
      · rename_i hc
        cases h
        have := cntTo_le ps (i + 1)
        rw [hc] at this
        exact ⟨by omega, fun m h1 h2 => this.2 m h1 (by omega)⟩
      · cases h
theorem runL_some {ps : List Pg} {many f : Nat} (h : runL ps many = some f) : f + many ≤ ps.length ∧ ∀ m, f ≤ m → m < f + many → (pgAt ps m).kind = 0 := runTo_some h

/-! ### a place for a small block -/
def firstFree (p : Pg) : Option Nat := p.used.findIdx? fun u => !u
def placeTo (ps : List Pg) (size : Int) : Nat → Option (Nat × Nat)
  | 0 => none
  | i + 1 => match placeTo ps size i with
    | some x => some x
    | none => if (pgAt ps i).kind = 1 ∧ (pgAt ps i).n = size then (firstFree (pgAt ps i)).map fun s => (i, s) else none
def placeL (ps : List Pg) (size : Int) : Option (Nat × Nat) := placeTo ps size ps.length
theorem placeTo_some {ps : List Pg} {size : Int} {j s : Nat} : ∀ {i}, placeTo ps size i = some (j, s) → j < i ∧ (pgAt ps j).kind = 1 ∧ (pgAt ps j).n = size ∧ firstFree (pgAt ps j) = some s := by
  intro i
  induction i with
  | zero => intro h; cases h
  | succ i ih =>
    intro h
    rw [placeTo] at h
    split at h
    · rename_i x hx
      cases h
      have := ih hx
      exact ⟨by omega, this.2⟩
    · split at h
      · rename_i hc
        cases hf : firstFree (pgAt ps i) with
        | none => rw [hf] at h; cases h
        | some t =>
          rw [hf] at h
          cases h
          exact ⟨by omega, hc.1, hc.2, hf⟩
      · cases h
theorem firstFree_some {p : Pg} {s : Nat} (h : firstFree p = some s) : s < p.used.length ∧ p.used[s]?.getD false = false ∧ ∀ t, t < s → p.used[t]?.getD false = true := by
  unfold firstFree at h
  rw [List.findIdx?_eq_some_iff_getElem] at h
  obtain ⟨h1, h2, h3⟩ := h
  refine ⟨h1, ?_, fun t ht => ?_⟩
  · rw [List.getElem?_eq_getElem h1]
    simpa using h2
  · rw [List.getElem?_eq_getElem (by omega)]
    simpa using h3 t ht

/-! ### handing out -/
def sizeF (n : Int) : Int := if n ≤ 2 then 2 else if n ≤ 4 then 4 else if n ≤ 8 then 8 else if n ≤ 16 then 16 else 32
def setRun (ps : List Pg) (f many : Nat) (g : Nat → Pg) : List Pg := ps.take f ++ (List.range many).map g ++ ps.drop (f + many)
def bigG (many : Nat) (k : Nat) : Pg := if k = 0 then ⟨2, (many : Nat), []⟩ else ⟨3, 0, []⟩
def smallG (size : Int) : Pg := ⟨1, size, (List.replicate ((64 : Int).tdiv size).toNat false).set 0 true⟩
def useAt (p : Pg) (s : Nat) (b : Bool) : Pg := { p with used := p.used.set s b }
/-- The pages after a block was handed out, its page and its slot, and its address. -/
def allocL (ps : List Pg) (n : Int) : Option (List Pg × Blk) :=
  if n > 32 then match runL ps ((n + 63) / 64).toNat with
    | some f => some (setRun ps f ((n + 63) / 64).toNat (bigG ((n + 63) / 64).toNat), ⟨f, 0, 64 * f, 64 * ((n + 63) / 64)⟩)
    | none => none
  else match placeL ps (sizeF n) with
    | some (j, s) => some (ps.set j (useAt (pgAt ps j) s true), slotB j (pgAt ps j) s)
    | none => match runL ps 1 with
      | some f => some (ps.set f (smallG (sizeF n)), ⟨f, 0, 64 * f, sizeF n⟩)
      | none => none
/-- The pages after a block was given back. -/
def freeL (ps : List Pg) (b : Blk) : List Pg :=
  if (pgAt ps b.page).kind = 2 then setRun ps b.page (pgAt ps b.page).n.toNat fun _ => noPg
  else if ((useAt (pgAt ps b.page) b.slot false).used.any id) = true then ps.set b.page (useAt (pgAt ps b.page) b.slot false) else ps.set b.page noPg
theorem setRun_length {ps : List Pg} {f many : Nat} {g : Nat → Pg} (h : f + many ≤ ps.length) : (setRun ps f many g).length = ps.length := by
  unfold setRun
  simp
  omega
theorem pgAt_setRun {ps : List Pg} {f many : Nat} {g : Nat → Pg} (h : f + many ≤ ps.length) (i : Nat) : pgAt (setRun ps f many g) i = if f ≤ i ∧ i < f + many then g (i - f) else pgAt ps i := by
  unfold pgAt setRun
  have h1 : (ps.take f).length = f := by simp; omega
  by_cases e1 : i < f
  · rw [if_neg (by omega), List.append_assoc, List.getElem?_append_left (by omega), List.getElem?_take_of_lt e1]
  · by_cases e2 : i < f + many
    · rw [if_pos (by omega), List.append_assoc, List.getElem?_append_right (by omega), List.getElem?_append_left (by simp; omega), h1, List.getElem?_map, List.getElem?_range (by omega)]
      rfl
    · rw [if_neg (by omega), List.getElem?_append_right (by simp; omega), List.getElem?_drop]
      congr 2
      simp
      omega
theorem pgAt_set {ps : List Pg} {j : Nat} {p : Pg} (h : j < ps.length) (i : Nat) : pgAt (ps.set j p) i = if i = j then p else pgAt ps i := by
  unfold pgAt
  rw [List.getElem?_set]
  by_cases e : i = j
  · subst e
    rw [if_pos rfl, if_pos rfl, if_pos h]
    rfl
  · rw [if_neg (fun h => e h.symm), if_neg e]
theorem pages_ext {ps qs : List Pg} (hl : ps.length = qs.length) (h : ∀ i, i < ps.length → pgAt ps i = pgAt qs i) : ps = qs := by
  apply List.ext_getElem hl
  intro i h1 h2
  have := h i h1
  rwa [pgAt_lt h1, pgAt_lt h2] at this

/-! ### what is right stays right -/
theorem moreAt_by {qs : List Pg} (E : Nat → Int) (h0 : E 0 = 0) (hs : ∀ i, i < qs.length → nextMore (E i) (pgAt qs i) = E (i + 1)) : ∀ i, i ≤ qs.length → moreAt qs i = E i := by
  intro i
  induction i with
  | zero => intro _; rw [moreAt_zero, h0]
  | succ i ih => intro h; rw [moreAt_succ (by omega), ih (by omega), hs i (by omega)]
theorem more_step {ps : List Pg} {i : Nat} (h : i < ps.length) : nextMore (moreAt ps i) (pgAt ps i) = moreAt ps (i + 1) := (moreAt_succ h).symm
theorem more_none {ps : List Pg} (h : Shape ps) {i : Nat} (hi : i < ps.length) (hk : (pgAt ps i).kind ≠ 3) : moreAt ps i = 0 := by
  have h1 := (more_head h i (by omega)).1
  have h2 := (shape_kind (h i hi)).1
  rcases Int.lt_or_le 0 (moreAt ps i) with h3 | h3
  · exact absurd (h2.2 h3) hk
  · omega
theorem more_run {ps : List Pg} (h : Shape ps) {j : Nat} (hj : j < ps.length) (hk : (pgAt ps j).kind = 2) : ∀ m : Nat, j < m → (m : Int) ≤ j + (pgAt ps j).n → moreAt ps m = j + (pgAt ps j).n - m := by
  obtain ⟨n1, n2, n3⟩ := head_more h hj hk
  intro m h1 h2
  obtain ⟨m, rfl⟩ : ∃ q, m = q + 1 := ⟨m - 1, by omega⟩
  rw [moreAt_succ (by omega)]
  unfold nextMore
  by_cases e : m = j
  · subst e
    rw [if_pos hk]
    omega
  · obtain ⟨q1, q2⟩ := n3 m (by omega) (by omega)
    rw [q1, if_neg (by omega), if_pos rfl, q2]
    omega
theorem free_zero {ps : List Pg} (h : Shape ps) {f many : Nat} (hl : f + many ≤ ps.length) (h1 : 1 ≤ many) (hz : ∀ m, f ≤ m → m < f + many → (pgAt ps m).kind = 0) : ∀ d, d ≤ many → moreAt ps (f + d) = 0 := by
  intro d
  induction d with
  | zero => intro _; exact more_none h (by omega) (by have := hz f (Nat.le_refl _) (by omega); simp only [Nat.add_zero]; omega)
  | succ d ih =>
    intro hd
    have e := hz (f + d) (by omega) (by omega)
    rw [show f + (d + 1) = f + d + 1 by omega, moreAt_succ (by omega), ih (by omega)]
    unfold nextMore
    rw [if_neg (by omega), if_neg (by omega)]
theorem shape_big {ps : List Pg} (h : Shape ps) {f many : Nat} (hl : f + many ≤ ps.length) (h1 : 1 ≤ many) (hz : ∀ m, f ≤ m → m < f + many → (pgAt ps m).kind = 0) : Shape (setRun ps f many (bigG many)) := by
  have z := free_zero h hl h1 hz
  have hlen := setRun_length (g := bigG many) hl
  have hE : ∀ i, i ≤ ps.length → moreAt (setRun ps f many (bigG many)) i = if f < i ∧ i < f + many then ((f + many : Nat) : Int) - i else moreAt ps i := by
    intro i hi
    refine moreAt_by (qs := setRun ps f many (bigG many)) (fun i => if f < i ∧ i < f + many then ((f + many : Nat) : Int) - i else moreAt ps i) (by rw [if_neg (by omega), moreAt_zero]) (fun i hi => ?_) i (by omega)
    rw [hlen] at hi
    rw [pgAt_setRun hl]
    by_cases c1 : f ≤ i ∧ i < f + many
    · rw [if_pos c1]
      by_cases c2 : i = f
      · subst c2
        have e : nextMore (if i < i ∧ i < i + many then ((i + many : Nat) : Int) - i else moreAt ps i) (bigG many (i - i)) = (many : Int) - 1 := by
          simp [bigG, nextMore]
        rw [e]
        by_cases c3 : i < i + 1 ∧ i + 1 < i + many
        · rw [if_pos c3]; omega
        · rw [if_neg c3]
          have := z many (Nat.le_refl _)
          have hm : many = 1 := by omega
          subst hm
          rw [this]
          omega
      · rw [if_pos (by omega)]
        have eg : bigG many (i - f) = ⟨3, 0, []⟩ := by unfold bigG; rw [if_neg (by omega)]
        have e : ∀ x : Int, nextMore x (bigG many (i - f)) = x - 1 := fun x => by rw [eg]; rfl
        rw [e]
        by_cases c3 : f < i + 1 ∧ i + 1 < f + many
        · rw [if_pos c3]; omega
        · rw [if_neg c3]
          have := z many (Nat.le_refl _)
          have hm : i + 1 = f + many := by omega
          rw [hm, this]
          omega
    · rw [if_neg c1, if_neg (by omega), if_neg (by omega)]
      exact more_step hi
  intro i hi
  rw [hlen] at hi
  rw [hE i (by omega), pgAt_setRun hl, hlen]
  by_cases c1 : f ≤ i ∧ i < f + many
  · rw [if_pos c1]
    by_cases c2 : i = f
    · subst c2
      rw [if_neg (by omega)]
      have h0 := z 0 (by omega)
      simp only [Nat.add_zero] at h0
      rw [h0]
      simp [pgShape, bigG]
      omega
    · rw [if_pos (by omega)]
      have e : bigG many (i - f) = ⟨3, 0, []⟩ := by unfold bigG; rw [if_neg (by omega)]
      rw [e]
      simp [pgShape]
      omega
  · rw [if_neg c1, if_neg (by omega)]
    exact h i hi
theorem shape_free {ps : List Pg} (h : Shape ps) {f : Nat} (hf : f < ps.length) (hk : (pgAt ps f).kind = 2) : Shape (setRun ps f (pgAt ps f).n.toNat fun _ => noPg) := by
  obtain ⟨n1, n2, n3⟩ := head_more h hf hk
  obtain ⟨many, hm⟩ : ∃ m : Nat, m = (pgAt ps f).n.toNat := ⟨_, rfl⟩
  have hmn : (pgAt ps f).n = (many : Int) := by omega
  have hrun := more_run h hf hk
  have h0 : moreAt ps f = 0 := more_none h hf (by omega)
  rw [hmn] at n1 n2 n3 hrun
  rw [← hm]
  have hl : f + many ≤ ps.length := by omega
  have hlen := setRun_length (g := fun _ => noPg) hl
  have hE : ∀ i, i ≤ ps.length → moreAt (setRun ps f many fun _ => noPg) i = if f < i ∧ i < f + many then 0 else moreAt ps i := by
    intro i hi
    refine moreAt_by (qs := setRun ps f many fun _ => noPg) (fun i => if f < i ∧ i < f + many then 0 else moreAt ps i) (by rw [if_neg (by omega), moreAt_zero]) (fun i hi => ?_) i (by omega)
    rw [hlen] at hi
    rw [pgAt_setRun hl]
    have e : ∀ x : Int, nextMore x noPg = x := fun x => rfl
    by_cases c1 : f ≤ i ∧ i < f + many
    · rw [if_pos c1, e]
      have z1 : (if f < i ∧ i < f + many then 0 else moreAt ps i) = 0 := by
        split
        · rfl
        · rw [show i = f by omega]; exact h0
      have z2 : (if f < i + 1 ∧ i + 1 < f + many then 0 else moreAt ps (i + 1)) = 0 := by
        split
        · rfl
        · rw [hrun (i + 1) (by omega) (by omega)]; omega
      rw [z1, z2]
    · rw [if_neg c1, if_neg (by omega), if_neg (by omega)]
      exact more_step hi
  intro i hi
  rw [hlen] at hi
  rw [hE i (by omega), pgAt_setRun hl, hlen]
  by_cases c1 : f ≤ i ∧ i < f + many
  · rw [if_pos c1]
    have z1 : (if f < i ∧ i < f + many then 0 else moreAt ps i) = 0 := by
      split
      · rfl
      · rw [show i = f by omega]; exact h0
    rw [z1]
    rfl
  · rw [if_neg c1, if_neg (by omega)]
    exact h i hi
/-- One page is another one, and wants no more than it did. -/
theorem shape_set {ps : List Pg} (h : Shape ps) {j : Nat} {p : Pg} (hj : j < ps.length) (hn : ∀ x, nextMore x p = nextMore x (pgAt ps j)) (hp : ∀ left more : Int, pgShape left more (pgAt ps j) = true → pgShape left more p = true) : Shape (ps.set j p) := by
  have hE : ∀ i, i ≤ ps.length → moreAt (ps.set j p) i = moreAt ps i := by
    intro i hi
    refine moreAt_by (qs := ps.set j p) (fun i => moreAt ps i) (moreAt_zero _) (fun i hi => ?_) i (by simpa using hi)
    rw [List.length_set] at hi
    rw [pgAt_set hj]
    by_cases e : i = j
    · subst e
      rw [if_pos rfl, hn]
      exact more_step hi
    · rw [if_neg e]
      exact more_step hi
  intro i hi
  rw [List.length_set] at hi ⊢
  rw [hE i (by omega), pgAt_set hj]
  by_cases e : i = j
  · subst e
    rw [if_pos rfl]
    exact hp _ _ (h i hi)
  · rw [if_neg e]
    exact h i hi

/-! ### a block that is handed out -/
theorem free_page {left more : Int} {p : Pg} (h : pgShape left more p = true) (hk : p.kind = 0) : p = noPg := by
  obtain ⟨_, k2⟩ := shape_kind h
  rcases k2 with ⟨_, e1, e2⟩ | ⟨e0, _⟩ | ⟨e0, _⟩ | ⟨e0, _⟩
  · cases p
    simp only at hk e1 e2
    subst hk; subst e1; subst e2
    rfl
  · omega
  · omega
  · omega
theorem useAt_shape {left more : Int} {p : Pg} {s : Nat} (hs : s < p.used.length) (hk : p.kind = 1) (h : pgShape left more p = true) : pgShape left more (useAt p s true) = true := by
  obtain ⟨k1, k2⟩ := shape_kind h
  have hany : (p.used.set s true).any id = true := by
    rw [List.any_eq_true]
    exact ⟨true, List.mem_iff_getElem.2 ⟨s, by simpa using hs, by simp⟩, rfl⟩
  rcases k2 with ⟨e0, _⟩ | ⟨_, e1, e2, e3⟩ | ⟨e0, _⟩ | ⟨e0, _⟩
  · omega
  · unfold pgShape
    simp only [useAt, List.length_set, hany, Bool.and_true]
    rw [if_neg (by omega), if_pos hk, e1, e2]
    simp only [Bool.true_and, beq_self_eq_true, Bool.and_true, beq_iff_eq]
    exact decide_eq_decide.2 k1
  · omega
  · omega
theorem sizeF_isSz (n : Int) : isSz (sizeF n) = true := by
  unfold sizeF
  rw [isSz_iff]
  split
  · omega
  · split
    · omega
    · split
      · omega
      · split <;> omega
theorem smallG_shape {left : Int} {size : Int} (h : isSz size = true) : pgShape left 0 (smallG size) = true := by
  rcases isSz_iff.1 h with rfl | rfl | rfl | rfl | rfl <;> rfl
theorem smallG_len {size : Int} (h : isSz size = true) : 0 < (smallG size).used.length := by
  rcases isSz_iff.1 h with rfl | rfl | rfl | rfl | rfl <;> decide
theorem smallG_back {size : Int} (h : isSz size = true) : (useAt (smallG size) 0 false).used.any id = false := by
  rcases isSz_iff.1 h with rfl | rfl | rfl | rfl | rfl <;> rfl
theorem set_back (l : List Bool) (s : Nat) (h : l[s]?.getD false = false) : (l.set s true).set s false = l := by
  rw [List.set_set]
  apply List.ext_getElem (by simp)
  intro i h1 h2
  rw [List.getElem_set]
  split
  · rename_i e
    subst e
    rw [List.getElem?_eq_getElem h2] at h
    simpa using h.symm
  · rfl
theorem freeL_at {ps : List Pg} {b : Blk} {p : Pg} {j s : Nat} (hj : b.page = j) (hs : b.slot = s) (h : pgAt ps j = p) : freeL ps b = if p.kind = 2 then setRun ps j p.n.toNat (fun _ => noPg) else if ((useAt p s false).used.any id) = true then ps.set j (useAt p s false) else ps.set j noPg := by
  subst hj
  subst hs
  subst h
  rfl
/-- What a block that is handed out is, and that it is given back without a trace. -/
theorem alloc_right {ps qs : List Pg} {n : Int} {b : Blk} (h : Shape ps) (hn : 1 ≤ n) (ha : allocL ps n = some (qs, b)) :
    Shape qs ∧ qs.length = ps.length ∧ b ∈ blocksL qs ∧ b.page < ps.length ∧ freeL qs b = ps ∧ (∀ c, c ∈ blocksL ps → c ∈ blocksL qs) ∧ (∀ c, c ∈ blocksL qs → c = b ∨ c ∈ blocksL ps) ∧
    (((pgAt qs b.page).kind = 2 ∧ b = headB b.page (pgAt qs b.page) ∧ b.size = 64 * ((n + 63) / 64) ∧ n > 32 ∧ ∀ m : Nat, b.page ≤ m → (m : Int) < b.page + (n + 63) / 64 → (pgAt ps m).kind = 0) ∨
     ((pgAt qs b.page).kind = 1 ∧ b = slotB b.page (pgAt qs b.page) b.slot ∧ b.size = sizeF n ∧ n ≤ 32 ∧ b.slot < (pgAt qs b.page).used.length ∧ ((pgAt ps b.page).kind = 0 ∨ ((pgAt ps b.page).kind = 1 ∧ (pgAt ps b.page).n = sizeF n ∧ b.slot < (pgAt ps b.page).used.length ∧ (pgAt ps b.page).used[b.slot]?.getD false = false)))) := by
  unfold allocL at ha
  split at ha
  · rename_i hbig
    obtain ⟨many, hm⟩ : ∃ m : Nat, m = ((n + 63) / 64).toNat := ⟨_, rfl⟩
    have hmn : (n + 63) / 64 = (many : Int) := by omega
    have hm1 : 1 ≤ many := by omega
    rw [← hm] at ha
    split at ha
    · rename_i f hf
      rw [hmn] at ha
      simp only [Option.some.injEq, Prod.mk.injEq] at ha
      obtain ⟨rfl, rfl⟩ := ha
      obtain ⟨hl, hz⟩ := runL_some hf
      have hlen := setRun_length (g := bigG many) hl
      have hsh := shape_big h hl hm1 hz
      have hpf : pgAt (setRun ps f many (bigG many)) f = ⟨2, (many : Nat), []⟩ := by
        rw [pgAt_setRun hl, if_pos (by omega), Nat.sub_self]
        rfl
      have hb0 : (⟨f, 0, 64 * f, 64 * (many : Int)⟩ : Blk) = headB f (pgAt (setRun ps f many (bigG many)) f) := by rw [hpf]; rfl
      have hout : ∀ i, ¬ (f ≤ i ∧ i < f + many) → pgAt (setRun ps f many (bigG many)) i = pgAt ps i := fun i hi => by rw [pgAt_setRun hl, if_neg hi]
      refine ⟨hsh, hlen, mem_blocks.2 ⟨f, by omega, mem_pgB.2 (.inl ⟨by rw [hpf], hb0⟩)⟩, by simp only; omega, ?_, fun c hc => ?_, fun c hc => ?_, .inl ⟨by simp only; rw [hpf], hb0, by simp only; rw [hmn], hbig, fun m h1 h2 => hz m h1 (by simp only at h2; omega)⟩⟩
      · rw [freeL_at (j := f) (s := 0) (p := ⟨2, (many : Nat), []⟩) rfl rfl hpf]
        simp only [if_true, Int.toNat_natCast]
        apply pages_ext
        · rw [setRun_length (by omega)]; exact hlen
        · intro i hi
          rw [pgAt_setRun (by omega)]
          by_cases c1 : f ≤ i ∧ i < f + many
          · rw [if_pos c1]
            exact (free_page (h i (by omega)) (hz i c1.1 c1.2)).symm
          · rw [if_neg c1, hout i c1]
      · obtain ⟨i, hi, hc⟩ := mem_blocks.1 hc
        refine mem_blocks.2 ⟨i, by omega, ?_⟩
        by_cases c1 : f ≤ i ∧ i < f + many
        · have := hz i c1.1 c1.2
          rcases mem_pgB.1 hc with ⟨e, _⟩ | ⟨e, _⟩ <;> omega
        · rw [hout i c1]; exact hc
      · obtain ⟨i, hi, hc⟩ := mem_blocks.1 hc
        by_cases c1 : f ≤ i ∧ i < f + many
        · rw [pgAt_setRun hl, if_pos c1] at hc
          by_cases c2 : i = f
          · subst c2
            rw [Nat.sub_self] at hc
            rcases mem_pgB.1 hc with ⟨e, rfl⟩ | ⟨e, _⟩
            · exact .inl rfl
            · simp [bigG] at e
          · have e : bigG many (i - f) = ⟨3, 0, []⟩ := by unfold bigG; rw [if_neg (by omega)]
            rw [e] at hc
            rcases mem_pgB.1 hc with ⟨e, _⟩ | ⟨e, _⟩ <;> simp at e
        · rw [hout i c1] at hc
          exact .inr (mem_blocks.2 ⟨i, by omega, hc⟩)
    · cases ha
  · rename_i hsmall
    split at ha
    · rename_i j s hp
      simp only [Option.some.injEq, Prod.mk.injEq] at ha
      obtain ⟨rfl, rfl⟩ := ha
      obtain ⟨hj, hk, hsz, hff⟩ := placeTo_some hp
      obtain ⟨hs1, hs2, _⟩ := firstFree_some hff
      have hshape := h j hj
      have hpj : pgAt (ps.set j (useAt (pgAt ps j) s true)) j = useAt (pgAt ps j) s true := by rw [pgAt_set hj, if_pos rfl]
      have hout : ∀ i, i ≠ j → pgAt (ps.set j (useAt (pgAt ps j) s true)) i = pgAt ps i := fun i hi => by rw [pgAt_set hj, if_neg hi]
      have hb0 : slotB j (pgAt ps j) s = slotB j (useAt (pgAt ps j) s true) s := rfl
      have hget : ∀ t, (useAt (pgAt ps j) s true).used[t]?.getD false = true ↔ t = s ∨ (pgAt ps j).used[t]?.getD false = true := by
        intro t
        simp only [useAt, List.getElem?_set]
        by_cases e : t = s
        · subst e
          rw [if_pos rfl, if_pos hs1]
          simp
        · rw [if_neg (fun h => e h.symm)]
          simp [e]
      refine ⟨shape_set h hj (fun x => rfl) fun l m => useAt_shape hs1 hk, by simp, ?_, hj, ?_, fun c hc => ?_, fun c hc => ?_, .inr ⟨by show (pgAt _ j).kind = 1; rw [hpj]; exact hk, by show _ = slotB j (pgAt _ j) s; rw [hpj]; rfl, hsz, by omega, by show s < (pgAt _ j).used.length; rw [hpj]; simpa [useAt] using hs1, .inr ⟨hk, hsz, hs1, hs2⟩⟩⟩
      · refine mem_blocks.2 ⟨j, by simpa using hj, ?_⟩
        rw [hpj]
        exact mem_pgB.2 (.inr ⟨hk, s, by simpa [useAt] using hs1, (hget s).2 (.inl rfl), rfl⟩)
      · rw [freeL_at (j := j) (s := s) (p := useAt (pgAt ps j) s true) rfl rfl hpj]
        have e1 : (useAt (pgAt ps j) s true).kind = 1 := hk
        rw [if_neg (by omega)]
        have e2 : useAt (useAt (pgAt ps j) s true) s false = pgAt ps j := by
          unfold useAt
          simp only [set_back _ _ hs2]
        have e3 : (pgAt ps j).used.any id = true := by
          obtain ⟨_, k2⟩ := shape_kind hshape
          rcases k2 with ⟨e0, _⟩ | ⟨_, _, _, e3⟩ | ⟨e0, _⟩ | ⟨e0, _⟩
          · omega
          · exact e3
          · omega
          · omega
        have e4 : (useAt (useAt (pgAt ps j) s true) s false).used.any id = true := by rw [e2]; exact e3
        rw [if_pos e4, e2, List.set_set]
        apply pages_ext (by simp)
        intro i hi
        rw [pgAt_set hj]
        split
        · rename_i e; rw [e]
        · rfl
      · obtain ⟨i, hi, hc⟩ := mem_blocks.1 hc
        refine mem_blocks.2 ⟨i, by simpa using hi, ?_⟩
        by_cases e : i = j
        · subst e
          rw [hpj]
          rcases mem_pgB.1 hc with ⟨e0, _⟩ | ⟨_, t, t1, t2, rfl⟩
          · omega
          · exact mem_pgB.2 (.inr ⟨hk, t, by simpa [useAt] using t1, (hget t).2 (.inr t2), rfl⟩)
        · rw [hout i e]; exact hc
      · obtain ⟨i, hi, hc⟩ := mem_blocks.1 hc
        rw [List.length_set] at hi
        by_cases e : i = j
        · subst e
          rw [hpj] at hc
          rcases mem_pgB.1 hc with ⟨e0, _⟩ | ⟨_, t, t1, t2, rfl⟩
          · have : (useAt (pgAt ps i) s true).kind = 1 := hk
            omega
          · rcases (hget t).1 t2 with rfl | t3
            · exact .inl rfl
            · exact .inr (mem_blocks.2 ⟨i, hi, mem_pgB.2 (.inr ⟨hk, t, by simpa [useAt] using t1, t3, rfl⟩)⟩)
        · rw [hout i e] at hc
          exact .inr (mem_blocks.2 ⟨i, hi, hc⟩)
    · split at ha
      · rename_i f hf
        simp only [Option.some.injEq, Prod.mk.injEq] at ha
        obtain ⟨rfl, rfl⟩ := ha
        obtain ⟨hl, hz⟩ := runL_some hf
        have hfl : f < ps.length := by omega
        have hk0 := hz f (Nat.le_refl _) (by omega)
        have hsz := sizeF_isSz n
        have hpg := free_page (h f hfl) hk0
        have hpf : pgAt (ps.set f (smallG (sizeF n))) f = smallG (sizeF n) := by rw [pgAt_set hfl, if_pos rfl]
        have hout : ∀ i, i ≠ f → pgAt (ps.set f (smallG (sizeF n))) i = pgAt ps i := fun i hi => by rw [pgAt_set hfl, if_neg hi]
        have hk1 : (smallG (sizeF n)).kind = 1 := rfl
        have hu0 : ∀ t, t < (smallG (sizeF n)).used.length → (smallG (sizeF n)).used[t]?.getD false = true → t = 0 := by
          intro t ht hu
          simp only [smallG, List.getElem?_set] at hu
          by_cases e : 0 = t
          · exact e.symm
          · rw [if_neg e, List.getElem?_replicate] at hu
            split at hu <;> cases hu
        refine ⟨?_, by simp, ?_, hfl, ?_, fun c hc => ?_, fun c hc => ?_, .inr ⟨by show (pgAt _ f).kind = 1; rw [hpf]; rfl, by show _ = slotB f (pgAt _ f) 0; rw [hpf]; simp [slotB, smallG], rfl, by omega, by show 0 < (pgAt _ f).used.length; rw [hpf]; exact smallG_len hsz, .inl hk0⟩⟩
        · refine shape_set h hfl (fun x => ?_) fun l m hs => ?_
          · rw [hpg]; rfl
          · rw [hpg] at hs
            have h1 := (shape_kind hs).1
            have hm : ¬ m > 0 := fun hm => by have := h1.2 hm; simp [noPg] at this
            have h2 := smallG_shape (left := l) hsz
            unfold pgShape at h2 ⊢
            rw [show decide (m > 0) = decide ((0 : Int) > 0) from decide_eq_decide.2 (by omega)]
            exact h2
        · refine mem_blocks.2 ⟨f, by simpa using hfl, ?_⟩
          rw [hpf]
          exact mem_pgB.2 (.inr ⟨rfl, 0, smallG_len hsz, by rcases isSz_iff.1 hsz with e | e | e | e | e <;> rw [e] <;> rfl, by simp [slotB, smallG]⟩)
        · rw [freeL_at (j := f) (s := 0) (p := smallG (sizeF n)) rfl rfl hpf, if_neg (by rw [hk1]; omega), smallG_back hsz]
          simp only [Bool.false_eq_true, if_false, List.set_set]
          apply pages_ext (by simp)
          intro i hi
          rw [pgAt_set hfl]
          split
          · rename_i e; rw [e, hpg]
          · rfl
        · obtain ⟨i, hi, hc⟩ := mem_blocks.1 hc
          refine mem_blocks.2 ⟨i, by simpa using hi, ?_⟩
          by_cases e : i = f
          · subst e
            rw [hpg] at hc
            rcases mem_pgB.1 hc with ⟨e0, _⟩ | ⟨e0, _⟩ <;> simp [noPg] at e0
          · rw [hout i e]; exact hc
        · obtain ⟨i, hi, hc⟩ := mem_blocks.1 hc
          rw [List.length_set] at hi
          by_cases e : i = f
          · subst e
            rw [hpf] at hc
            rcases mem_pgB.1 hc with ⟨e0, _⟩ | ⟨_, t, t1, t2, rfl⟩
            · rw [hk1] at e0; omega
            · obtain rfl := hu0 t t1 t2
              exact .inl (by simp [slotB, smallG])
          · rw [hout i e] at hc
            exact .inr (mem_blocks.2 ⟨i, hi, hc⟩)
      · cases ha

/-! ### a block by its address -/
theorem slot_bound {left more : Int} {p : Pg} (h : pgShape left more p = true) (hk : p.kind = 1) {s : Nat} (hs : s < p.used.length) : 0 ≤ (s : Int) * p.n ∧ (s : Int) * p.n + p.n ≤ 64 ∧ 2 ≤ p.n := by
  rcases small_cases h hk with ⟨a, b⟩ | ⟨a, b⟩ | ⟨a, b⟩ | ⟨a, b⟩ | ⟨a, b⟩ <;> rw [a] <;> rw [b] at hs <;> omega
theorem blk_page {ps : List Pg} (h : Shape ps) {b : Blk} (hb : b ∈ blocksL ps) : b.page < ps.length ∧ b ∈ pgB b.page (pgAt ps b.page) ∧ 64 * (b.page : Int) ≤ b.at_ ∧ b.at_ < 64 * b.page + 64 ∧ 1 ≤ b.size ∧ b.at_ + b.size ≤ 64 * ps.length := by
  obtain ⟨i, hi, hb⟩ := mem_blocks.1 hb
  rcases mem_pgB.1 hb with ⟨e, rfl⟩ | ⟨e, s, s1, s2, rfl⟩
  · obtain ⟨n1, n2, _⟩ := head_more h hi e
    exact ⟨hi, hb, by simp only [headB]; omega, by simp only [headB]; omega, by simp only [headB]; omega, by simp only [headB]; omega⟩
  · obtain ⟨b1, b2, b3⟩ := slot_bound (h i hi) e s1
    exact ⟨hi, hb, by simp only [slotB]; omega, by simp only [slotB]; omega, by simp only [slotB]; omega, by simp only [slotB]; omega⟩
theorem blk_unique {ps : List Pg} (h : Shape ps) {b c : Blk} (hb : b ∈ blocksL ps) (hc : c ∈ blocksL ps) (he : b.at_ = c.at_) : b = c := by
  obtain ⟨b1, b2, b3, b4, _⟩ := blk_page h hb
  obtain ⟨c1, c2, c3, c4, _⟩ := blk_page h hc
  have hp : b.page = c.page := by omega
  rw [← hp] at c2
  rcases mem_pgB.1 b2 with ⟨e, hb'⟩ | ⟨e, s, s1, s2, hb'⟩
  · rcases mem_pgB.1 c2 with ⟨_, hc'⟩ | ⟨e2, _⟩
    · rw [hb', hc']
    · omega
  · rcases mem_pgB.1 c2 with ⟨e2, _⟩ | ⟨_, t, t1, t2, hc'⟩
    · omega
    · have : s = t := by
        rw [hb', hc'] at he
        simp only [slotB] at he
        rcases small_cases (h _ b1) e with ⟨a, b⟩ | ⟨a, b⟩ | ⟨a, b⟩ | ⟨a, b⟩ | ⟨a, b⟩ <;> rw [a] at he <;> omega
      rw [hb', hc', this]
/-- Two blocks have no word in common. -/
theorem blk_apart {ps : List Pg} (h : Shape ps) {b c : Blk} (hb : b ∈ blocksL ps) (hc : c ∈ blocksL ps) (hne : b ≠ c) : b.at_ + b.size ≤ c.at_ ∨ c.at_ + c.size ≤ b.at_ := by
  obtain ⟨b1, b2, b3, b4, _⟩ := blk_page h hb
  obtain ⟨c1, c2, c3, c4, _⟩ := blk_page h hc
  have big : ∀ (x y : Blk), x.page < ps.length → x = headB x.page (pgAt ps x.page) → (pgAt ps x.page).kind = 2 → y.page < ps.length → y ∈ pgB y.page (pgAt ps y.page) → x.page < y.page → 64 * (y.page : Int) ≤ y.at_ → x.at_ + x.size ≤ y.at_ := by
    intro x y hx hxe hxk hy hyb hlt hya
    obtain ⟨n1, n2, n3⟩ := head_more h hx hxk
    have e1 : x.at_ = 64 * (x.page : Int) := by rw [hxe]; rfl
    have e2 : x.size = 64 * (pgAt ps x.page).n := by rw [hxe]; rfl
    by_cases hc : (y.page : Int) < x.page + (pgAt ps x.page).n
    · have := (n3 y.page hlt hc).1
      rcases mem_pgB.1 hyb with ⟨e, _⟩ | ⟨e, _⟩ <;> omega
    · omega
  have small : ∀ (x y : Blk), x.page < ps.length → (∃ s, s < (pgAt ps x.page).used.length ∧ x = slotB x.page (pgAt ps x.page) s) → (pgAt ps x.page).kind = 1 → x.page < y.page → 64 * (y.page : Int) ≤ y.at_ → x.at_ + x.size ≤ y.at_ := by
    rintro x y hx ⟨s, hs, hxe⟩ hxk hlt hya
    obtain ⟨q1, q2, q3⟩ := slot_bound (h _ hx) hxk hs
    have e1 : x.at_ = 64 * (x.page : Int) + s * (pgAt ps x.page).n := by rw [hxe]; rfl
    have e2 : x.size = (pgAt ps x.page).n := by rw [hxe]; rfl
    omega
  rcases Nat.lt_trichotomy b.page c.page with hlt | heq | hgt
  · rcases mem_pgB.1 b2 with ⟨e, hb'⟩ | ⟨e, s, s1, s2, hb'⟩
    · exact .inl (big b c b1 hb' e c1 c2 hlt c3)
    · exact .inl (small b c b1 ⟨s, s1, hb'⟩ e hlt c3)
  · rw [← heq] at c2
    rcases mem_pgB.1 b2 with ⟨e, hb'⟩ | ⟨e, s, s1, s2, hb'⟩
    · rcases mem_pgB.1 c2 with ⟨_, hc'⟩ | ⟨e2, _⟩
      · exact absurd (hb'.trans hc'.symm) hne
      · omega
    · rcases mem_pgB.1 c2 with ⟨e2, _⟩ | ⟨_, t, t1, t2, hc'⟩
      · omega
      · have hst : s ≠ t := fun e => hne (by rw [hb', hc', e])
        rw [hb', hc']
        simp only [slotB]
        rcases small_cases (h _ b1) e with ⟨a, b⟩ | ⟨a, b⟩ | ⟨a, b⟩ | ⟨a, b⟩ | ⟨a, b⟩ <;> rw [a] <;> omega
  · rcases mem_pgB.1 c2 with ⟨e, hc'⟩ | ⟨e, s, s1, s2, hc'⟩
    · exact .inr (big c b c1 hc' e b1 b2 hgt b3)
    · exact .inr (small c b c1 ⟨s, s1, hc'⟩ e hgt b3)
/-- The block with an address. -/
def findL (ps : List Pg) (a : Int) : Option Blk := (blocksL ps).find? fun b => b.at_ == a
theorem findL_some {ps : List Pg} {a : Int} {b : Blk} (h : findL ps a = some b) : b ∈ blocksL ps ∧ b.at_ = a := by
  unfold findL at h
  exact ⟨List.mem_of_find?_eq_some h, by simpa using List.find?_some h⟩
theorem findL_of {ps : List Pg} (h : Shape ps) {b : Blk} (hb : b ∈ blocksL ps) : findL ps b.at_ = some b := by
  cases hf : findL ps b.at_ with
  | none =>
    unfold findL at hf
    rw [List.find?_eq_none] at hf
    have := hf b hb
    simp at this
  | some c =>
    obtain ⟨h1, h2⟩ := findL_some hf
    rw [blk_unique h h1 hb h2]
end Go.Proofs.Ytjkfdiglokkceaa

/- Heaps that are right: after a block was handed out. No program in sight. -/
set_option maxRecDepth 100000
set_option linter.unusedSimpArgs false
set_option linter.unusedVariables false
namespace Go.Proofs.Ytjkfdiglokkceaa
open Go Go.Proofs.Ytjkfdiglokkceaa.Pale

/-! ### heaps that are right -/
def maxWord : Int := 4294967295
structure RightH (ps : List Pg) (ws : List Int) : Prop where
  many : 1 ≤ ps.length ∧ ps.length ≤ 40
  len : ws.length = 64 * ps.length
  words : ∀ w, w ∈ ws → 0 ≤ w ∧ w ≤ maxWord
  shape : Shape ps
  zeros : ZerosP ps ws
theorem wdAt_lt {ws : List Int} {k : Nat} (h : k < ws.length) : wdAt ws k = ws[k] := by
  unfold wdAt
  rw [List.getElem?_eq_getElem h]
  rfl
theorem words_ext {a b : List Int} (hl : a.length = b.length) (h : ∀ k, k < a.length → wdAt a k = wdAt b k) : a = b := by
  apply List.ext_getElem hl
  intro i h1 h2
  have := h i h1
  rwa [wdAt_lt h1, wdAt_lt h2] at this
/-- The words of a block that was handed out are 0. -/
theorem alloc_zero {ps qs : List Pg} {ws : List Int} {n : Int} {b : Blk} (h : RightH ps ws) (hn : 1 ≤ n) (ha : allocL ps n = some (qs, b)) : ∀ k : Nat, b.at_ ≤ k → (k : Int) < b.at_ + b.size → wdAt ws k = 0 := by
  obtain ⟨a1, a2, a3, a4, a5, a6, a7, a8⟩ := alloc_right h.shape hn ha
  intro k k1 k2
  rcases a8 with ⟨e, hb, hs, hn32, hz⟩ | ⟨e, hb, hs, hn32, hsl, hold⟩
  · have e1 : b.at_ = 64 * (b.page : Int) := by rw [hb]; rfl
    have hi : (k / 64 : Nat) < ps.length := by
      obtain ⟨_, _, _, _, _, c⟩ := blk_page a1 a3
      rw [a2] at c
      omega
    exact (h.zeros (k / 64) hi).1 (hz (k / 64) (by omega) (by omega)) k (by omega) (by omega)
  · have e1 : b.at_ = 64 * (b.page : Int) + b.slot * (pgAt qs b.page).n := by rw [hb]; rfl
    have e2 : b.size = (pgAt qs b.page).n := by rw [hb]; rfl
    have hq : b.page < qs.length := by omega
    obtain ⟨q1, q2, q3⟩ := slot_bound (a1 b.page hq) e hsl
    rcases hold with h0 | ⟨h1, h2, h3, h4⟩
    · exact (h.zeros b.page a4).1 h0 k (by omega) (by omega)
    · have e3 : (pgAt ps b.page).n = (pgAt qs b.page).n := by rw [h2, ← hs, e2]
      exact (h.zeros b.page a4).2 h1 b.slot h3 h4 k (by rw [e3]; omega) (by rw [e3]; omega)
theorem alloc_keeps {ps qs : List Pg} {ws : List Int} {n : Int} {b : Blk} (h : RightH ps ws) (hn : 1 ≤ n) (ha : allocL ps n = some (qs, b)) : RightH qs ws := by
  obtain ⟨a1, a2, a3, a4, a5, a6, a7, a8⟩ := alloc_right h.shape hn ha
  refine ⟨by rw [a2]; exact h.many, by rw [a2]; exact h.len, h.words, a1, (zeros_iff a1 (by rw [a2]; exact h.len)).2 fun k hk => ?_⟩
  rcases (zeros_iff h.shape h.len).1 h.zeros k hk with ⟨c, c1, c2, c3⟩ | h0
  · exact .inl ⟨c, a6 c c1, c2, c3⟩
  · exact .inr h0
/-- Words in which a block is 0. -/
def clearW (ws : List Int) (b : Blk) : List Int := (List.range ws.length).map fun (k : Nat) => if b.at_ ≤ (k : Int) ∧ (k : Int) < b.at_ + b.size then 0 else wdAt ws k
theorem clearW_length (ws : List Int) (b : Blk) : (clearW ws b).length = ws.length := by simp [clearW]
theorem wdAt_clear {ws : List Int} {b : Blk} {k : Nat} (hk : k < ws.length) : wdAt (clearW ws b) k = if b.at_ ≤ (k : Int) ∧ (k : Int) < b.at_ + b.size then 0 else wdAt ws k := by
  unfold wdAt clearW
  rw [List.getElem?_map, List.getElem?_range hk]
  rfl
theorem clear_same {ws : List Int} {b : Blk} (h : ∀ k : Nat, b.at_ ≤ k → (k : Int) < b.at_ + b.size → wdAt ws k = 0) : clearW ws b = ws := by
  apply words_ext (clearW_length _ _)
  intro k hk
  rw [clearW_length] at hk
  rw [wdAt_clear hk]
  split
  · rename_i e; exact (h k e.1 e.2).symm
  · rfl
end Go.Proofs.Ytjkfdiglokkceaa

/- Heaps: what is right when a block was given back. No program in sight. -/
set_option maxRecDepth 100000
set_option linter.unusedSimpArgs false
set_option linter.unusedVariables false
namespace Go.Proofs.Ytjkfdiglokkceaa
open Go Go.Proofs.Ytjkfdiglokkceaa.Pale

theorem pgB_page {i : Nat} {p : Pg} {c : Blk} (h : c ∈ pgB i p) : c.page = i := by
  rcases mem_pgB.1 h with ⟨_, rfl⟩ | ⟨_, s, _, _, rfl⟩ <;> rfl
theorem free_blocks {ps : List Pg} {b : Blk} (h : Shape ps) (hb : b ∈ blocksL ps) : Shape (freeL ps b) ∧ (freeL ps b).length = ps.length ∧ ∀ c, c ∈ blocksL (freeL ps b) ↔ (c ∈ blocksL ps ∧ c ≠ b) := by
  obtain ⟨hp, hbp, _⟩ := blk_page h hb
  by_cases k2 : (pgAt ps b.page).kind = 2
  · have hh : b = headB b.page (pgAt ps b.page) := by
      rcases mem_pgB.1 hbp with ⟨_, e⟩ | ⟨e, _⟩
      · exact e
      · omega
    obtain ⟨h1, h2, h3⟩ := head_more h hp k2
    obtain ⟨m, hm⟩ : ∃ m : Nat, (pgAt ps b.page).n = (m : Nat) := ⟨(pgAt ps b.page).n.toNat, by omega⟩
    have hs := shape_free h hp k2
    have hf : freeL ps b = setRun ps b.page m fun _ => noPg := by
      unfold freeL
      rw [if_pos k2, hm, Int.toNat_natCast]
    rw [hm, Int.toNat_natCast] at hs
    rw [hf]
    have hl : b.page + m ≤ ps.length := by omega
    refine ⟨hs, setRun_length hl, fun c => ?_⟩
    rw [mem_blocks, mem_blocks, setRun_length hl]
    constructor
    · rintro ⟨i, hi, hc⟩
      rw [pgAt_setRun hl] at hc
      by_cases e : b.page ≤ i ∧ i < b.page + m
      · rw [if_pos e] at hc
        simp [pgB, noPg] at hc
      · rw [if_neg e] at hc
        refine ⟨⟨i, hi, hc⟩, ?_⟩
        rintro rfl
        have := pgB_page hc
        omega
    · rintro ⟨⟨i, hi, hc⟩, hne⟩
      refine ⟨i, hi, ?_⟩
      rw [pgAt_setRun hl]
      by_cases e : b.page ≤ i ∧ i < b.page + m
      · exfalso
        by_cases e2 : i = b.page
        · subst e2
          rcases mem_pgB.1 hc with ⟨_, e3⟩ | ⟨e3, _⟩
          · exact hne (e3.trans hh.symm)
          · omega
        · have := (h3 i (by omega) (by omega)).1
          rcases mem_pgB.1 hc with ⟨e3, _⟩ | ⟨e3, _⟩ <;> omega
      · rw [if_neg e]; exact hc
  · rcases mem_pgB.1 hbp with ⟨e, _⟩ | ⟨k1, s, hs, hu, hbs⟩
    · exact absurd e k2
    have hslot : b.slot = s := by rw [hbs]; rfl
    have hsc := small_cases (h b.page hp) k1
    have hnx : ∀ x, nextMore x (pgAt ps b.page) = x := fun x => by unfold nextMore; rw [if_neg k2, if_neg (by omega)]
    have hother : ∀ {q : Pg} {c : Blk} {i : Nat}, i ≠ b.page → (c ∈ pgB i (pgAt (ps.set b.page q) i) ↔ c ∈ pgB i (pgAt ps i)) := fun {q c i} hi => by
      rw [pgAt_set hp, if_neg hi]
    by_cases hany : (useAt (pgAt ps b.page) s false).used.any id = true
    · have hf : freeL ps b = ps.set b.page (useAt (pgAt ps b.page) s false) := by
        unfold freeL
        rw [if_neg k2, hslot, if_pos hany]
      rw [hf]
      refine ⟨shape_set h hp (fun x => rfl) fun left more hq => ?_, by simp, fun c => ?_⟩
      · obtain ⟨q1, q2⟩ := shape_kind hq
        rcases q2 with ⟨e0, _⟩ | ⟨_, e1, e2, e3⟩ | ⟨e0, _⟩ | ⟨e0, _⟩
        · omega
        · unfold pgShape
          have hany' : ((pgAt ps b.page).used.set s false).any id = true := hany
          simp only [useAt, List.length_set, hany', Bool.and_true]
          rw [if_neg (by omega), if_pos k1, e1, e2]
          simp only [Bool.true_and, beq_self_eq_true, Bool.and_true, beq_iff_eq]
          exact decide_eq_decide.2 q1
        · omega
        · omega
      · rw [mem_blocks, mem_blocks, List.length_set]
        have key : ∀ t, ((pgAt ps b.page).used.set s false)[t]?.getD false = true ↔ ((pgAt ps b.page).used[t]?.getD false = true ∧ t ≠ s) := fun t => by
          rw [List.getElem?_set]
          by_cases e : s = t
          · rw [if_pos e, if_pos hs]
            simp [e]
          · rw [if_neg e]
            constructor
            · exact fun h => ⟨h, fun h2 => e h2.symm⟩
            · exact fun h => h.1
        constructor
        · rintro ⟨i, hi, hc⟩
          by_cases e : i = b.page
          · subst e
            rw [pgAt_set hp, if_pos rfl] at hc
            rcases mem_pgB.1 hc with ⟨e, _⟩ | ⟨_, t, ht, hut, rfl⟩
            · exact absurd (show (pgAt ps b.page).kind = 2 from e) k2
            · obtain ⟨hut, hts⟩ := (key t).1 hut
              refine ⟨⟨b.page, hp, mem_pgB.2 (.inr ⟨k1, t, by simpa [useAt] using ht, hut, rfl⟩)⟩, fun e => hts ?_⟩
              have : t = b.slot := congrArg Blk.slot e
              rw [this, hslot]
          · rw [hother e] at hc
            refine ⟨⟨i, hi, hc⟩, ?_⟩
            rintro rfl
            exact e (pgB_page hc).symm
        · rintro ⟨⟨i, hi, hc⟩, hne⟩
          refine ⟨i, hi, ?_⟩
          by_cases e : i = b.page
          · subst e
            rw [pgAt_set hp, if_pos rfl]
            rcases mem_pgB.1 hc with ⟨e, _⟩ | ⟨_, t, ht, hut, rfl⟩
            · exact absurd e k2
            · refine mem_pgB.2 (.inr ⟨k1, t, by simpa [useAt] using ht, (key t).2 ⟨hut, ?_⟩, rfl⟩)
              rintro rfl
              exact hne hbs.symm
          · rw [hother e]; exact hc
    · have hf : freeL ps b = ps.set b.page noPg := by
        unfold freeL
        rw [if_neg k2, hslot, if_neg hany]
      rw [hf]
      refine ⟨shape_set h hp (fun x => by rw [hnx]; rfl) fun left more hq => ?_, by simp, fun c => ?_⟩
      · obtain ⟨q1, _⟩ := shape_kind hq
        have hm : ¬ more > 0 := fun h => by have := q1.2 h; omega
        unfold pgShape noPg
        simp only [decide_eq_false hm]
        rfl
      · rw [mem_blocks, mem_blocks, List.length_set]
        constructor
        · rintro ⟨i, hi, hc⟩
          by_cases e : i = b.page
          · subst e
            rw [pgAt_set hp, if_pos rfl] at hc
            simp [pgB, noPg] at hc
          · rw [hother e] at hc
            refine ⟨⟨i, hi, hc⟩, ?_⟩
            rintro rfl
            exact e (pgB_page hc).symm
        · rintro ⟨⟨i, hi, hc⟩, hne⟩
          refine ⟨i, hi, ?_⟩
          by_cases e : i = b.page
          · exfalso
            subst e
            rcases mem_pgB.1 hc with ⟨e, _⟩ | ⟨_, t, ht, hut, rfl⟩
            · exact absurd e k2
            · apply hany
              rw [List.any_eq_true]
              have hts : s ≠ t := by
                rintro rfl
                exact hne hbs.symm
              refine ⟨true, List.mem_iff_getElem?.2 ⟨t, ?_⟩, rfl⟩
              show ((pgAt ps b.page).used.set s false)[t]? = some true
              rw [List.getElem?_set, if_neg hts]
              rw [List.getElem?_eq_getElem ht] at hut ⊢
              simpa using hut
          · rw [hother e]; exact hc
theorem free_right {ps : List Pg} {ws : List Int} {b : Blk} (h : RightH ps ws) (hb : b ∈ blocksL ps) : RightH (freeL ps b) (clearW ws b) := by
  obtain ⟨g1, g2, g3⟩ := free_blocks h.shape hb
  have hl := h.len
  refine ⟨by rw [g2]; exact h.many, by rw [clearW_length, g2]; exact hl, fun w hw => ?_, g1, (zeros_iff g1 (by rw [clearW_length, g2]; exact hl)).2 fun k hk => ?_⟩
  · obtain ⟨k, hk, rfl⟩ := List.mem_iff_getElem.1 hw
    have hk' : k < ws.length := by rw [clearW_length] at hk; exact hk
    rw [← wdAt_lt hk, wdAt_clear hk']
    split
    · unfold maxWord; omega
    · rw [wdAt_lt hk']; exact h.words _ (List.getElem_mem hk')
  · have hk' : k < ws.length := by rw [clearW_length] at hk; exact hk
    rw [wdAt_clear hk']
    by_cases e : b.at_ ≤ (k : Int) ∧ (k : Int) < b.at_ + b.size
    · rw [if_pos e]; exact .inr rfl
    · rw [if_neg e]
      rcases (zeros_iff h.shape hl).1 h.zeros k hk' with ⟨c, c1, c2, c3⟩ | h0
      · refine .inl ⟨c, (g3 c).2 ⟨c1, ?_⟩, c2, c3⟩
        rintro rfl
        exact e ⟨c2, c3⟩
      · exact .inr h0
end Go.Proofs.Ytjkfdiglokkceaa


