import Derived.Test.YtjckhhkhgjbpaaaGreatDoorFacts
import Derived.Test.YtjckhhkhgjbpaaaGreatDoorPaleItems
import Derived.Test.YtjckhhkhgjbpaaaGreatDoorPaleList
import Derived.Test.YtjckhhkhgjbpaaaGreatDoorPaleRuns
import Derived.Test.YtjckhhkhgjbpaaaGreatDoorPaleRead
open Nat renaming reduceLT → zLt, reduceLeDiff → zLe, reduceEqDiff → zEq, reduceAdd → zAd, reduceMul → zMu, reduceSub → zSu, reduceBEq → zBe
open Int renaming reduceEq → yEq, reduceLT → yLt, reduceLE → yLe, reduceToNat → yTn
/- Small functions on integers and bytes: what they give on every input. -/
set_option maxRecDepth 100000
set_option linter.unusedSimpArgs false
set_option linter.unusedVariables false
namespace Go.Proofs.YtjckhhkhgjbpaaaGreatDoor
open Go Go.Proofs.YtjckhhkhgjbpaaaGreatDoor.Pale
variable {k : Nat} {σ : AMem}

/-! ### between two numbers -/
theorem within_run (a b n : Int) : pureRun (callN lawProg (k + 1)) (.func 86 [] []) [.int .i64 a, .int .i64 b, .int .i64 n] = some (.bool (decide (a ≤ n ∧ n ≤ b)), true) := by
  have run : ∃ T1, execC lawProg (callN lawProg k) k 86 15 (bodyOf Tryz.f86) (initT 0 [.int .i64 a, .int .i64 b, .int .i64 n] .nil) AMem.empty = some (.ret, T1, AMem.empty) ∧ T1.get 6 = some (.bool (decide (a ≤ n ∧ n ≤ b))) := by
    by_cases h1 : a ≤ n
    · by_cases h2 : n ≤ b
      · simp only [bodyOf, Tryz.f86, Option.getD_some, initT, dx, reduceIte, zLt, zLe, zEq, zAd, zMu, zSu, zBe, yEq, yLt, yLe, yTn, reduceCtorEq, sx, fx86, ge_iff_le, h1, h2]
        exact ⟨_, rfl, by simp only [Tr.get_set, zEq, reduceIte]⟩
      · simp only [bodyOf, Tryz.f86, Option.getD_some, initT, dx, reduceIte, zLt, zLe, zEq, zAd, zMu, zSu, zBe, yEq, yLt, yLe, yTn, reduceCtorEq, sx, fx86, ge_iff_le, h1, h2]
        exact ⟨_, rfl, by simp only [Tr.get_set, zEq, reduceIte]⟩
    · simp only [bodyOf, Tryz.f86, Option.getD_some, initT, dx, reduceIte, zLt, zLe, zEq, zAd, zMu, zSu, zBe, yEq, yLt, yLe, yTn, reduceCtorEq, sx, fx86, ge_iff_le, h1]
      exact ⟨_, rfl, by simp only [Tr.get_set, zEq, reduceIte]⟩
  obtain ⟨T1, h1, h2⟩ := run
  exact pureRun_of fn86 rfl (by simp [Tryz.f86]) h1 (by simp) (res_one h2) rfl
theorem within_call (a b n : Int) (hk : 1 ≤ k) : pureCall lawProg (callN lawProg k) (.func 86 [] []) [.int .i64 a, .int .i64 b, .int .i64 n] σ = some (.bool (decide (a ≤ n ∧ n ≤ b)), σ) := by
  obtain ⟨k, rfl⟩ : ∃ m, k = m + 1 := ⟨k - 1, by omega⟩
  exact pureCall_of rfl (memo86 _) (within_run a b n)

/-! ### sums -/
def sumL (s : Int) : List Nat → Int
  | [] => s
  | c :: bs => sumL ((31 * s + c + 1) % 65521) bs
theorem sumL_snoc (s : Int) (bs : List Nat) (c : Nat) : sumL s (bs ++ [c]) = (31 * sumL s bs + c + 1) % 65521 := by
  induction bs generalizing s with
  | nil => rfl
  | cons b bs ih => exact ih _
theorem sumL_bounds (s : Int) (bs : List Nat) (h : 0 ≤ s ∧ s < 65521) : 0 ≤ sumL s bs ∧ sumL s bs < 65521 := by
  induction bs generalizing s with
  | nil => exact h
  | cons b bs ih => exact ih _ ⟨by omega, by omega⟩

theorem sum_run (bs : List Nat) (hb : ∀ b, b ∈ bs → b < 256) (vk : VK) (hn : bs.length < k) (hn2 : bs.length < 1000000) : pureRun (callN lawProg (k + 1)) (.func 38 [] []) [.vs vk (bytesV bs)] = some (.int .i64 (sumL 1 bs), true) := by
  have run : ∃ T1, execC lawProg (callN lawProg k) k 38 21 (bodyOf Tryz.f38) (initT 0 [.vs vk (bytesV bs)] .nil) AMem.empty = some (.ret, T1, AMem.empty) ∧ T1.get 2 = some (.int .i64 (sumL 1 bs)) := by
    simp only [bodyOf, Tryz.f38, Option.getD_some, initT, dx, reduceIte, zLt, zLe, zEq, zAd, zMu, zSu, zBe, yEq, yLt, yLe, yTn, reduceCtorEq, sx, fx38, bytesV_length]
    generalize hL : execC _ _ _ _ _ (Code.loop _) _ _ = r
    obtain ⟨e, T', σ', rfl, _, rfl, rfl, h3⟩ : ∃ e T' σ', r = some (e, T', σ') ∧ e ≠ .normal ∧ (e = .exit 0 ∧ σ' = AMem.empty ∧ T'.get 3 = some (.int .i64 (sumL 1 bs))) := by
      rw [← hL]
      refine exec_loop (fun i T σ => σ = AMem.empty ∧ i ≤ bs.length ∧ T.get 6 = some (.vs vk (bytesV bs)) ∧ T.get 7 = some (.int .i64 bs.length) ∧ T.get 8 = some (.int .i64 i) ∧ T.get 3 = some (.int .i64 (sumL 1 (bs.take i)))) bs.length hn ?_ ?_ ?_
      · rintro i hi T σ ⟨rfl, _, h6, h7, h8, h3⟩
        have hlt : (i : Int) < bs.length := by omega
        have hbi : bs[i] < 256 := hb _ (List.getElem_mem hi)
        obtain ⟨s1, s2⟩ := sumL_bounds 1 (bs.take i) (by decide)
        refine ⟨_, _, by
          simp only [dx, reduceIte, zLt, zLe, zEq, zAd, zMu, zSu, zBe, yEq, yLt, yLe, yTn, reduceCtorEq, sx, fx38, h6, h7, h8, h3, hlt, Int.natCast_nonneg, Int.toNat_natCast, bytesV_get hi]
          rfl, rfl, hi, ?_, ?_, ?_, ?_⟩
        all_goals simp only [Tr.get_set, zEq, reduceIte, h6, h7, h8, h3]
        · rw [i64_id (by omega) (by omega)]; simp
        · rw [List.take_succ_eq_append_getElem hi, sumL_snoc]
          simp (disch := omega) only [i64_id]
          rw [Int.tmod_eq_emod_of_nonneg (by omega)]
      · rintro T σ ⟨rfl, _, h6, h7, h8, h3⟩
        refine ⟨_, _, _, by
          simp only [dx, reduceIte, zLt, zLe, zEq, zAd, zMu, zSu, zBe, yEq, yLt, yLe, yTn, reduceCtorEq, sx, fx38, h6, h7, h8, h3, Int.lt_irrefl]
          rfl, by simp, rfl, rfl, ?_⟩
        simp only [Tr.get_set, zEq, reduceIte, h3, List.take_length]
      · refine ⟨rfl, Nat.zero_le _, ?_, ?_, ?_, ?_⟩
        all_goals simp only [Tr.get_set, zEq, reduceIte, List.take_zero, sumL]
        all_goals rfl
    simp only [dx, reduceIte, zLt, zLe, zEq, zAd, zMu, zSu, zBe, yEq, yLt, yLe, yTn, reduceCtorEq, sx, fx38, h3]
    exact ⟨_, rfl, by simp only [Tr.get_set, zEq, reduceIte]⟩
  obtain ⟨T1, h1, h2⟩ := run
  exact pureRun_of fn38 rfl (by simp [Tryz.f38]) h1 (by simp) (res_one h2) rfl

/-! ### copies of bytes -/
theorem clone_run (bs : List Nat) (vk : VK) (hk : vk ≠ .nil) (hn : bs.length ≤ 1000000) : pureRun (callN lawProg (k + 1)) (.func 72 [] []) [.vs vk (bytesV bs)] = some (.vs .some (bytesV bs), true) := by
  have hnil : eqNilS (.vs vk (bytesV bs)) (.vs .nil []) = some false := by cases vk <;> first | exact absurd rfl hk | rfl
  by_cases h0 : bs = []
  · subst h0
    have run : ∃ T1 σ1, execC lawProg (callN lawProg k) k 72 8 (bodyOf Tryz.f72) (initT 0 [.vs vk (bytesV [])] .nil) AMem.empty = some (.ret, T1, σ1) ∧ T1.get 2 = some (.slice 0 0 0 (some 0) 1) ∧ σ1.get 0 = some (.row 1 false (bytesV ([] ++ []))) := by
      simp only [bodyOf, Tryz.f72, Option.getD_some, initT, dx, reduceIte, zLt, zLe, zEq, zAd, zMu, zSu, zBe, yEq, yLt, yLe, yTn, reduceCtorEq, sx, fx72, aeq, hnil, eqTy, repZ, appendA, source_bytes]
      exact ⟨_, _, rfl, by simp only [Tr.get_set, zEq, reduceIte], rfl⟩
    obtain ⟨T1, σ1, h1, h2, h3⟩ := run
    exact pureRun_of fn72 rfl (by simp [Tryz.f72]) h1 (by simp) (res_one h2) (snap_bytes (bs := []) rfl h3)
  · have hpos : ¬ bs.length = 0 := fun e => h0 (List.eq_nil_of_length_eq_zero e)
    have hfit : ¬ bs.length ≤ 0 := by omega
    have hby : 0 + bs.length ≤ mostBytes := by unfold mostBytes; omega
    have run : ∃ T1 σ1, execC lawProg (callN lawProg k) k 72 8 (bodyOf Tryz.f72) (initT 0 [.vs vk (bytesV bs)] .nil) AMem.empty = some (.ret, T1, σ1) ∧ T1.get 2 = some (.slice 1 0 bs.length none 1) ∧ σ1.get 1 = some (.row 1 false (bytesV (bs ++ []))) := by
      simp only [bodyOf, Tryz.f72, Option.getD_some, initT, dx, reduceIte, zLt, zLe, zEq, zAd, zMu, zSu, zBe, yEq, yLt, yLe, yTn, reduceCtorEq, sx, fx72, aeq, hnil, eqTy, repZ, appendA, source_bytes, hpos, hfit, Nat.zero_add, show bs.length ≤ mostBytes from by omega]
      exact ⟨_, _, rfl, by simp only [Tr.get_set, zEq, reduceIte], by simp only [AMem.get_push, reduceIte, AMem.next_push, next_empty, List.append_nil]⟩
    obtain ⟨T1, σ1, h1, h2, h3⟩ := run
    exact pureRun_of fn72 rfl (by simp [Tryz.f72]) h1 (by simp) (res_one h2) (snap_bytes (more := []) rfl h3)
theorem clone_call (bs : List Nat) (vk : VK) (hv : vk ≠ .nil) (hn : bs.length ≤ 1000000) (hk : 1 ≤ k) : pureCall lawProg (callN lawProg k) (.func 72 [] []) [.vs vk (bytesV bs)] σ = some (.vs .some (bytesV bs), σ) := by
  obtain ⟨k, rfl⟩ : ∃ m, k = m + 1 := ⟨k - 1, by omega⟩
  exact pureCall_of rfl (memo72 _) (clone_run bs vk hv hn)
theorem awake_call (call : CallA) : pureCall lawProg call (.func 10 [] []) [] σ = some (.bool true, σ) := pureCall_memo (args := []) rfl memo10
end Go.Proofs.YtjckhhkhgjbpaaaGreatDoor

/- slices.IndexFunc and ContainsFunc over sheaves and parts. -/
set_option maxRecDepth 100000
set_option linter.unusedSimpArgs false
set_option linter.unusedVariables false
namespace Go.Proofs.YtjckhhkhgjbpaaaGreatDoor
open Go Go.Proofs.YtjckhhkhgjbpaaaGreatDoor.Pale
variable {k : Nat} {σ : AMem}

/-- The place of the first one of which something is so; -1 if there is none. -/
def idxI (p : AVal → Bool) : List AVal → Int
  | [] => -1
  | e :: es => if p e then 0 else if idxI p es < 0 then -1 else idxI p es + 1
theorem idxI_none {p : AVal → Bool} : ∀ {es : List AVal}, (∀ x, x ∈ es → p x = false) → idxI p es = -1 := by
  intro es
  induction es with
  | nil => intro _; rfl
  | cons e es ih =>
    intro h
    simp only [idxI, h e (by simp), Bool.false_eq_true, if_false, ih (fun x hx => h x (by simp [hx]))]
    rfl
theorem idxI_at {p : AVal → Bool} : ∀ {es : List AVal} {i : Nat} (hi : i < es.length), (∀ x, x ∈ es.take i → p x = false) → p es[i] = true → idxI p es = (i : Int) := by
  intro es
  induction es with
  | nil => intro i hi; simp at hi
  | cons e es ih =>
    intro i hi h hp
    cases i with
    | zero => simp only [List.getElem_cons_zero] at hp; simp only [idxI, hp, if_true]; rfl
    | succ i =>
      have he := h e (by simp)
      have := ih (i := i) (by simpa using hi) (fun x hx => h x (by simp [hx])) (by simpa using hp)
      simp only [idxI, he, Bool.false_eq_true, if_false, this]
      rw [if_neg (by omega)]
      omega
theorem idxI_any (p : AVal → Bool) : ∀ (es : List AVal), decide (idxI p es ≥ 0) = es.any p := by
  intro es
  induction es with
  | nil => rfl
  | cons e es ih =>
    simp only [idxI, List.any_cons]
    by_cases hp : p e = true
    · simp [hp]
    · have hp : p e = false := by simpa using hp
      simp only [hp, Bool.false_eq_true, if_false, Bool.false_or, ← ih]
      split
      · rename_i h; rw [decide_eq_false (by omega), decide_eq_false (by omega)]
      · rename_i h; rw [decide_eq_true (by omega), decide_eq_true (by omega)]

end Go.Proofs.YtjckhhkhgjbpaaaGreatDoor

/- Chunks: when one is right; copies. -/
set_option maxRecDepth 100000
set_option linter.unusedSimpArgs false
set_option linter.unusedVariables false
namespace Go.Proofs.YtjckhhkhgjbpaaaGreatDoor
open Go Go.Proofs.YtjckhhkhgjbpaaaGreatDoor.Pale
variable {k : Nat} {σ : AMem}

/-- A chunk as a value. -/
def chunkV (name i of : Int) (vk : VK) (d : List Nat) : AVal := .agg [.int .i64 name, .int .i64 i, .int .i64 of, .vs vk (bytesV d)]
def OkC (name i of : Int) (d : List Nat) : Prop := (1 ≤ of ∧ of ≤ 200) ∧ (0 ≤ i ∧ i ≤ of - 1) ∧ (0 ≤ name ∧ name ≤ 65535) ∧ (1 ≤ (d.length : Int) ∧ (d.length : Int) ≤ 100)
instance (name i of : Int) (d : List Nat) : Decidable (OkC name i of d) := by unfold OkC; infer_instance

theorem isChunk_run (name i of : Int) (vk : VK) (d : List Nat) (hk : 1 ≤ k) : pureRun (callN lawProg (k + 1)) (.func 68 [] []) [chunkV name i of vk d] = some (.bool (decide (OkC name i of d)), true) := by
  have run : ∃ T1 σ1, execC lawProg (callN lawProg k) k 68 25 (bodyOf Tryz.f68) (initT 0 [.agg [.int .i64 name, .int .i64 i, .int .i64 of, .vs vk (bytesV d)]] .nil) AMem.empty = some (.ret, T1, σ1) ∧ T1.get 2 = some (.bool (decide (OkC name i of d))) := by
    by_cases h1 : 1 ≤ of ∧ of ≤ 200
    · have hw : IntKind.i64.wrap (of - 1) = of - 1 := i64_id (by omega) (by omega)
      by_cases h2 : 0 ≤ i ∧ i ≤ of - 1
      · by_cases h3 : 0 ≤ name ∧ name ≤ 65535
        · by_cases h4 : 1 ≤ (d.length : Int) ∧ (d.length : Int) ≤ 100
          · have hd : decide (OkC name i of d) = true := decide_eq_true ⟨h1, h2, h3, h4⟩
            rw [hd]
            simp only [bodyOf, Tryz.f68, Option.getD_some, initT, dx, reduceIte, zLt, zLe, zEq, zAd, zMu, zSu, zBe, yEq, yLt, yLe, yTn, reduceCtorEq, sx, fx68, within_call _ _ _ hk, h1, h2, h3, h4, hw, bytesV_length]
            exact ⟨_, _, rfl, by simp only [Tr.get_set, zEq, reduceIte]⟩
          · have hd : decide (OkC name i of d) = false := decide_eq_false (fun h => h4 h.2.2.2)
            rw [hd]
            simp only [bodyOf, Tryz.f68, Option.getD_some, initT, dx, reduceIte, zLt, zLe, zEq, zAd, zMu, zSu, zBe, yEq, yLt, yLe, yTn, reduceCtorEq, sx, fx68, within_call _ _ _ hk, h1, h2, h3, h4, hw, bytesV_length]
            exact ⟨_, _, rfl, by simp only [Tr.get_set, zEq, reduceIte]⟩
        · have hd : decide (OkC name i of d) = false := decide_eq_false (fun h => h3 h.2.2.1)
          rw [hd]
          simp only [bodyOf, Tryz.f68, Option.getD_some, initT, dx, reduceIte, zLt, zLe, zEq, zAd, zMu, zSu, zBe, yEq, yLt, yLe, yTn, reduceCtorEq, sx, fx68, within_call _ _ _ hk, h1, h2, h3, hw, bytesV_length]
          exact ⟨_, _, rfl, by simp only [Tr.get_set, zEq, reduceIte]⟩
      · have hd : decide (OkC name i of d) = false := decide_eq_false (fun h => h2 h.2.1)
        rw [hd]
        simp only [bodyOf, Tryz.f68, Option.getD_some, initT, dx, reduceIte, zLt, zLe, zEq, zAd, zMu, zSu, zBe, yEq, yLt, yLe, yTn, reduceCtorEq, sx, fx68, within_call _ _ _ hk, h1, h2, hw, bytesV_length]
        exact ⟨_, _, rfl, by simp only [Tr.get_set, zEq, reduceIte]⟩
    · have hd : decide (OkC name i of d) = false := decide_eq_false (fun h => h1 h.1)
      rw [hd]
      simp only [bodyOf, Tryz.f68, Option.getD_some, initT, dx, reduceIte, zLt, zLe, zEq, zAd, zMu, zSu, zBe, yEq, yLt, yLe, yTn, reduceCtorEq, sx, fx68, within_call _ _ _ hk, h1, bytesV_length]
      exact ⟨_, _, rfl, by simp only [Tr.get_set, zEq, reduceIte]⟩
  obtain ⟨T1, σ1, h1, h2⟩ := run
  exact pureRun_of fn68 rfl (by simp [Tryz.f68]) h1 (by simp) (res_one h2) rfl
theorem isChunk_call {x : AVal} {seen : List Nat} {name i of : Int} {vk : VK} {d : List Nat} (hx : snapF false σ snapDepth x = some (chunkV name i of vk d, seen)) (hk : 2 ≤ k) : pureCall lawProg (callN lawProg k) (.func 68 [] []) [x] σ = some (.bool (decide (OkC name i of d)), σ) := by
  obtain ⟨k, rfl⟩ : ∃ m, k = m + 1 := ⟨k - 1, by omega⟩
  have hs : snapL (snapF false σ snapDepth) [x] = some ([chunkV name i of vk d], seen ++ []) := by simp only [snapL, hx]
  exact pureCall_of hs (memo68 _) (isChunk_run name i of vk d (by omega))

theorem copyChunk_run (name i of : Int) (vk : VK) (d : List Nat) (hd : d.length ≤ 1000) : ∃ b, pureRun (callN lawProg (k + 1)) (.func 21 [] []) [chunkV name i of vk d] = some (chunkV name i of .some d, b) := by
  let base : AMem := ((AMem.empty.push (.row 4 true [.int .i64 name, .int .i64 i, .int .i64 of, .vs vk (bytesV d)])).push (.row 4 true [.int .i64 0, .int .i64 0, .int .i64 0, .vs .nil []])).push (.row 1 false [])
  have happ := append_bytes (σ := base) (e := ⟨.int .u8, 1, 1, [.int .u8 0]⟩) (r := 2) (x := .vs vk (bytesV d)) (bs := d) rfl rfl rfl (source_bytes _ _ _) (by simp only [base, AMem.get_push, AMem.next_push, next_empty, zAd, zEq, reduceIte]) (by omega)
  have run : ∃ T1 σ1 x seen, execC lawProg (callN lawProg k) k 21 9 (bodyOf Tryz.f21) (initT 0 [.agg [.int .i64 name, .int .i64 i, .int .i64 of, .vs vk (bytesV d)]] .nil) AMem.empty = some (.ret, T1, σ1) ∧ resultsA lawProg T1 σ1 Tryz.f21.results.toList = some [x] ∧ snapF false σ1 12 x = some (chunkV name i of .some d, seen) := by
    by_cases h0 : d.length = 0
    · have hb : d = [] := List.eq_nil_of_length_eq_zero h0
      subst hb
      rw [if_pos h0, if_pos h0] at happ
      simp only [base] at happ
      have e : ∃ T1 σ1, execC lawProg (callN lawProg k) k 21 9 (bodyOf Tryz.f21) (initT 0 [.agg [.int .i64 name, .int .i64 i, .int .i64 of, .vs vk (bytesV [])]] .nil) AMem.empty = some (.ret, T1, σ1) ∧ resultsA lawProg T1 σ1 Tryz.f21.results.toList = some [.agg [.int .i64 name, .int .i64 i, .int .i64 of, .slice 2 0 0 (some 0) 1]] ∧ σ1.get 2 = some (.row 1 false (bytesV ([] ++ []))) := by
        simp only [bodyOf, Tryz.f21, Option.getD_some, initT, dx, reduceIte, zLt, zLe, zEq, zAd, zMu, zSu, zBe, yEq, yLt, yLe, yTn, reduceCtorEq, sx, fx21, happ]
        exact ⟨_, _, rfl, by simp only [Tryz.f21, resultsA, resultA, dx, reduceIte, zLt, zLe, zEq, zAd, zMu, zSu, zBe, yEq, yLt, yLe, yTn, reduceCtorEq, sx, fx21], by simp only [AMem.get_put, AMem.get_push, AMem.next_put, AMem.next_push, next_empty, zAd, zEq, reduceIte]; rfl⟩
      obtain ⟨T1, σ1, e1, e2, e3⟩ := e
      have hx : snapF false σ1 11 (.slice 2 0 0 (some 0) 1) = some (.vs .some [], [2]) := snap_bytes (d := 9) (bs := []) (more := []) rfl e3
      refine ⟨T1, σ1, _, [] ++ ([] ++ ([] ++ ([2] ++ []))), e1, e2, ?_⟩
      show (snapL (snapF false σ1 11) _).map (fun (l, a) => (AVal.agg l, a)) = _
      simp only [snapL, snap_int, hx, Option.map_some]
      rfl
    · rw [if_neg h0, if_neg h0] at happ
      simp only [base] at happ
      have e : ∃ T1 σ1, execC lawProg (callN lawProg k) k 21 9 (bodyOf Tryz.f21) (initT 0 [.agg [.int .i64 name, .int .i64 i, .int .i64 of, .vs vk (bytesV d)]] .nil) AMem.empty = some (.ret, T1, σ1) ∧ resultsA lawProg T1 σ1 Tryz.f21.results.toList = some [.agg [.int .i64 name, .int .i64 i, .int .i64 of, .slice 3 0 d.length none 1]] ∧ σ1.get 3 = some (.row 1 false (bytesV (d ++ []))) := by
        simp only [AMem.next_push, next_empty, zAd] at happ
        simp only [bodyOf, Tryz.f21, Option.getD_some, initT, dx, reduceIte, zLt, zLe, zEq, zAd, zMu, zSu, zBe, yEq, yLt, yLe, yTn, reduceCtorEq, sx, fx21, happ]
        exact ⟨_, _, rfl, by simp only [Tryz.f21, resultsA, resultA, dx, reduceIte, zLt, zLe, zEq, zAd, zMu, zSu, zBe, yEq, yLt, yLe, yTn, reduceCtorEq, sx, fx21], by simp only [AMem.get_put, AMem.get_push, AMem.next_put, AMem.next_push, next_empty, zAd, zEq, reduceIte, List.append_nil]⟩
      obtain ⟨T1, σ1, e1, e2, e3⟩ := e
      have hx : snapF false σ1 11 (.slice 3 0 d.length none 1) = some (.vs .some (bytesV d), [3]) := snap_bytes (d := 9) (bs := d) (more := []) rfl e3
      refine ⟨T1, σ1, _, [] ++ ([] ++ ([] ++ ([3] ++ []))), e1, e2, ?_⟩
      show (snapL (snapF false σ1 11) _).map (fun (l, a) => (AVal.agg l, a)) = _
      simp only [snapL, snap_int, hx, Option.map_some]
      rfl
  obtain ⟨T1, σ1, x, seen, h1, h2, h3⟩ := run
  exact pureRun_any fn21 rfl (by simp [Tryz.f21]) h1 (by simp) h2 h3
theorem copyChunk_call (name i of : Int) (vk : VK) (d : List Nat) (hd : d.length ≤ 1000) (hk : 1 ≤ k) : pureCall lawProg (callN lawProg k) (.func 21 [] []) [.agg [.int .i64 name, .int .i64 i, .int .i64 of, .vs vk (bytesV d)]] σ = some (.agg [.int .i64 name, .int .i64 i, .int .i64 of, .vs .some (bytesV d)], σ) := by
  obtain ⟨k, rfl⟩ : ∃ m, k = m + 1 := ⟨k - 1, by omega⟩
  obtain ⟨b, h⟩ := copyChunk_run (k := k) name i of vk d hd
  exact pureCall_of0 (args' := [chunkV name i of vk d]) rfl (memo21 _) h

end Go.Proofs.YtjckhhkhgjbpaaaGreatDoor

/- Reading bytes one after the other. -/
set_option maxRecDepth 100000
set_option linter.unusedSimpArgs false
set_option linter.unusedVariables false
namespace Go.Proofs.YtjckhhkhgjbpaaaGreatDoor
open Go Go.Proofs.YtjckhhkhgjbpaaaGreatDoor.Pale
variable {k : Nat} {σ : AMem}

/-! ### a reader: what is left lies in one row -/
def Reads (r : Nat) (bs : List Nat) (σ σ' : AMem) : Prop := σ'.get r = some (.row 1 true [.vs .some (bytesV bs)]) ∧ (∀ s, s ≠ r → σ'.get s = σ.get s) ∧ σ'.next = σ.next
theorem Reads.trans {r : Nat} {a b : List Nat} {σ1 σ2 σ3 : AMem} (h : Reads r a σ1 σ2) (h2 : Reads r b σ2 σ3) : Reads r b σ1 σ3 := ⟨h2.1, fun s hs => (h2.2.1 s hs).trans (h.2.1 s hs), h2.2.2.trans h.2.2⟩

theorem take_call {r : Nat} {bs : List Nat} (n w : Nat) (hr : σ.get r = some (.row 1 true [.vs .some (bytesV bs)])) (hw : w = min n bs.length) (hk : 1 ≤ k) : ∃ σ', callN lawProg k (.func 56 [] []) [.ptr r 0, .int .i64 n] σ = some (.vs .some (bytesV (bs.take w)), σ') ∧ Reads r (bs.drop w) σ σ' := by
  obtain ⟨k, rfl⟩ : ∃ m, k = m + 1 := ⟨k - 1, by omega⟩
  have e1 : (if (bs.length : Int) < (n : Int) then (bs.length : Int) else (n : Int)) = (w : Int) := by rw [hw]; split <;> omega
  have e2 : (if (w : Int) > 0 then (w : Int) else 0) = (w : Int) := by split <;> omega
  have e3 : (0 : Int) ≤ (w : Int) ∧ (w : Int) ≤ (bs.length : Int) := by omega
  have e4 : (0 : Int) ≤ (w : Int) ∧ (w : Int) ≤ (w : Int) := by omega
  have run : ∃ T1 σ1, execC lawProg (callN lawProg k) k 56 30 (bodyOf Tryz.f56) (initT 0 [.ptr r 0, .int .i64 n] .nil) σ = some (.ret, T1, σ1) ∧ T1.get 4 = some (.vs .some (bytesV (bs.take w))) ∧ Reads r (bs.drop w) σ σ1 := by
    simp only [bodyOf, Tryz.f56, Option.getD_some, initT, dx, reduceIte, zLt, zLe, zEq, zAd, zMu, zSu, zBe, yEq, yLt, yLe, yTn, reduceCtorEq, sx, fx56, hr, bytesV_length, e1, e2, bytesV_cells, e3, e4, Int.toNat_natCast, bytesV_take, bytesV_drop, List.take_length]
    exact ⟨_, _, rfl, by simp only [Tr.get_set, zEq, reduceIte], by rw [AMem.get_put, if_pos rfl], fun s hs => by rw [AMem.get_put, if_neg (Ne.symm hs)], rfl⟩
  obtain ⟨T1, σ1, h1, h2, h3⟩ := run
  exact ⟨σ1, q_call (first := []) (caps := []) fn56 rfl (by simp [Tryz.f56]) h1 (by simp) (res_one h2), h3⟩

theorem one_call {r : Nat} {bs : List Nat} (hr : σ.get r = some (.row 1 true [.vs .some (bytesV bs)])) (hb : ∀ b, b ∈ bs → b < 256) (hk : 5 ≤ k) : ∃ σ', callN lawProg k (.func 54 [] []) [.ptr r 0] σ = some (.int .i64 (bs.headD 0 : Nat), σ') ∧ Reads r (bs.drop 1) σ σ' := by
  obtain ⟨k, rfl⟩ : ∃ m, k = m + 2 := ⟨k - 2, by omega⟩
  cases bs with
  | nil =>
    obtain ⟨σ', ht0, hR⟩ := take_call (k := k + 1) 1 0 hr rfl (by omega)
    have ht : callN lawProg (k + 1) (.func 56 [] []) [.ptr r 0, .int .i64 1] σ = some (.vs .some (bytesV []), σ') := ht0
    have run : ∃ T1, execC lawProg (callN lawProg (k + 1)) (k + 1) 54 15 (bodyOf Tryz.f54) (initT 0 [.ptr r 0] .nil) σ = some (.ret, T1, σ') ∧ T1.get 2 = some (.int .i64 0) := by
      simp only [bodyOf, Tryz.f54, Option.getD_some, initT, dx, reduceIte, zLt, zLe, zEq, zAd, zMu, zSu, zBe, yEq, yLt, yLe, yTn, reduceCtorEq, sx, fx54, ht, bytesV_nil]
      generalize hL : execC _ _ _ _ _ (Code.loop _) _ _ = q
      obtain ⟨e, T', σ2, rfl, _, rfl, rfl⟩ : ∃ e T' σ2, q = some (e, T', σ2) ∧ e ≠ .normal ∧ (e = .exit 0 ∧ σ2 = σ') := by
        rw [← hL]
        refine exec_loop (fun _ T σ => σ = σ' ∧ T.get 7 = some (.int .i64 0) ∧ T.get 8 = some (.int .i64 0)) 0 (by omega) (by omega) ?_ ?_
        · rintro T σ ⟨rfl, t7, t8⟩
          exact ⟨_, _, _, by
            simp only [dx, reduceIte, zLt, zLe, zEq, zAd, zMu, zSu, zBe, yEq, yLt, yLe, yTn, reduceCtorEq, sx, fx54, t7, t8]
            rfl, by simp, rfl, rfl⟩
        · exact ⟨rfl, by simp only [Tr.get_set, zEq, reduceIte]; rfl, by simp only [Tr.get_set, zEq, reduceIte]⟩
      simp only [dx, reduceIte, zLt, zLe, zEq, zAd, zMu, zSu, zBe, yEq, yLt, yLe, yTn, reduceCtorEq, sx, fx54]
      exact ⟨_, rfl, by simp only [Tr.get_set, zEq, reduceIte]⟩
    obtain ⟨T1, h1, h2⟩ := run
    exact ⟨σ', q_call (first := []) (caps := []) fn54 rfl (by simp [Tryz.f54]) h1 (by simp) (res_one h2), hR⟩
  | cons b bs =>
    obtain ⟨σ', ht0, hR⟩ := take_call (k := k + 1) 1 1 hr (by simp) (by omega)
    have ht : callN lawProg (k + 1) (.func 56 [] []) [.ptr r 0, .int .i64 1] σ = some (.vs .some [.int .u8 (b : Int)], σ') := ht0
    have hbb : b < 256 := hb b List.mem_cons_self
    have hw : IntKind.i64.wrap (b : Int) = (b : Int) := i64_id (by omega) (by omega)
    have run : ∃ T1, execC lawProg (callN lawProg (k + 1)) (k + 1) 54 15 (bodyOf Tryz.f54) (initT 0 [.ptr r 0] .nil) σ = some (.ret, T1, σ') ∧ T1.get 2 = some (.int .i64 b) := by
      simp only [bodyOf, Tryz.f54, Option.getD_some, initT, dx, reduceIte, zLt, zLe, zEq, zAd, zMu, zSu, zBe, yEq, yLt, yLe, yTn, reduceCtorEq, sx, fx54, ht]
      generalize hL : execC _ _ _ _ _ (Code.loop _) _ _ = q
      obtain ⟨e, T', σ2, rfl, _, rfl, rfl, h2⟩ : ∃ e T' σ2, q = some (e, T', σ2) ∧ e ≠ .normal ∧ (e = .ret ∧ σ2 = σ' ∧ T'.get 2 = some (.int .i64 b)) := by
        rw [← hL]
        refine exec_loop (fun _ T σ => σ = σ' ∧ T.get 6 = some (.vs .some [.int .u8 (b : Int)]) ∧ T.get 7 = some (.int .i64 1) ∧ T.get 8 = some (.int .i64 0)) 0 (by omega) (by omega) ?_ ?_
        · rintro T σ ⟨rfl, t6, t7, t8⟩
          refine ⟨_, _, _, by
            simp only [dx, reduceIte, zLt, zLe, zEq, zAd, zMu, zSu, zBe, yEq, yLt, yLe, yTn, reduceCtorEq, sx, fx54, t6, t7, t8, hw, Int.toNat_zero, Int.le_refl]
            rfl, by simp, rfl, rfl, by simp only [Tr.get_set, zEq, reduceIte]⟩
        · exact ⟨rfl, by simp only [Tr.get_set, zEq, reduceIte], by simp only [Tr.get_set, zEq, reduceIte]; rfl, by simp only [Tr.get_set, zEq, reduceIte]⟩
      simp only [dx, reduceIte, zLt, zLe, zEq, zAd, zMu, zSu, zBe, yEq, yLt, yLe, yTn, reduceCtorEq, sx, fx54]
      exact ⟨_, rfl, h2⟩
    obtain ⟨T1, h1, h2⟩ := run
    exact ⟨σ', q_call (first := []) (caps := []) fn54 rfl (by simp [Tryz.f54]) h1 (by simp) (res_one h2), hR⟩

theorem pair_call {r : Nat} {bs : List Nat} (hr : σ.get r = some (.row 1 true [.vs .some (bytesV bs)])) (hb : ∀ b, b ∈ bs → b < 256) (hk : 6 ≤ k) : ∃ σ', callN lawProg k (.func 89 [] []) [.ptr r 0] σ = some (.int .i64 ((bs.headD 0 * 256 + (bs.drop 1).headD 0 : Nat) : Int), σ') ∧ Reads r (bs.drop 2) σ σ' := by
  obtain ⟨k, rfl⟩ : ∃ m, k = m + 1 := ⟨k - 1, by omega⟩
  have hd : ∀ (l : List Nat), (∀ b, b ∈ l → b < 256) → l.headD 0 < 256 := by
    intro l hl
    cases l with
    | nil => decide
    | cons x l => exact hl x List.mem_cons_self
  have hb1 : ∀ b, b ∈ bs.drop 1 → b < 256 := fun b h => hb b (List.mem_of_mem_drop h)
  obtain ⟨σ1, c1, R1⟩ := one_call (k := k) hr hb (by omega)
  obtain ⟨σ2, c2, R2⟩ := one_call (k := k) R1.1 hb1 (by omega)
  have g1 := hd bs hb
  have g2 := hd _ hb1
  have e1 : IntKind.i64.wrap (((bs.headD 0 : Nat) : Int) * 256) = ((bs.headD 0 * 256 : Nat) : Int) := by rw [i64_id (by omega) (by omega)]; simp
  have e2 : IntKind.i64.wrap (((bs.headD 0 * 256 : Nat) : Int) + (((bs.drop 1).headD 0 : Nat) : Int)) = ((bs.headD 0 * 256 + (bs.drop 1).headD 0 : Nat) : Int) := by rw [i64_id (by omega) (by omega)]; simp
  have run : ∃ T1, execC lawProg (callN lawProg k) k 89 9 (bodyOf Tryz.f89) (initT 0 [.ptr r 0] .nil) σ = some (.ret, T1, σ2) ∧ T1.get 2 = some (.int .i64 ((bs.headD 0 * 256 + (bs.drop 1).headD 0 : Nat) : Int)) := by
    simp only [bodyOf, Tryz.f89, Option.getD_some, initT, dx, reduceIte, zLt, zLe, zEq, zAd, zMu, zSu, zBe, yEq, yLt, yLe, yTn, reduceCtorEq, sx, fx89, c1, c2, e1, e2]
    exact ⟨_, rfl, by simp only [Tr.get_set, zEq, reduceIte]⟩
  obtain ⟨T1, h1, h2⟩ := run
  refine ⟨σ2, q_call (first := []) (caps := []) fn89 rfl (by simp [Tryz.f89]) h1 (by simp) (res_one h2), ?_⟩
  have := R1.trans R2
  rwa [List.drop_drop] at this
end Go.Proofs.YtjckhhkhgjbpaaaGreatDoor

/- The writer of bytes. -/
set_option maxRecDepth 100000
set_option linter.unusedSimpArgs false
set_option linter.unusedVariables false
namespace Go.Proofs.YtjckhhkhgjbpaaaGreatDoor
open Go Go.Proofs.YtjckhhkhgjbpaaaGreatDoor.Pale
variable {k : Nat} {σ : AMem}


theorem u8_id {n : Nat} (h : n < 256) : IntKind.u8.wrap (n : Int) = (n : Int) := by rw [u8_nat, Nat.mod_eq_of_lt h]

/-- A writer: its row holds what it wrote so far; rows below are kept. -/
def Writes (low r : Nat) (bs : List Nat) (σ : AMem) : Prop := ∃ out, σ.get r = some (.row 1 true [out]) ∧ Grew low σ 1 false out bs.length (bytesV bs) ∧ low ≤ σ.next
def Keeps (low r : Nat) (σ σ' : AMem) : Prop := ∀ s, s < low → s ≠ r → σ'.get s = σ.get s
theorem Writes.push {low r : Nat} {bs : List Nat} {o : AObj} (h : Writes low r bs σ) (hr : r < low) : Writes low r bs (σ.push o) := by
  obtain ⟨out, h1, ⟨h2, h3⟩, h4⟩ := h
  refine ⟨out, by rw [AMem.get_push, if_neg (by omega)]; exact h1, ⟨h2, ?_⟩, by simp; omega⟩
  rcases h3 with h | ⟨q, h5, h6, h7, h8⟩
  · exact .inl h
  · exact .inr ⟨q, h5, by simp; omega, h7, by rw [AMem.get_push, if_neg (by omega)]; exact h8⟩

theorem put_call {low r : Nat} {bs more : List Nat} {x : AVal} (h : Writes low r bs σ) (hr : r < low) (hsrc : sourceA 1 σ x = some (bytesV more, more.length)) (hm : more.length ≠ 0) (hb : bs.length + more.length ≤ 100000) (hk : 1 ≤ k) :
    ∃ σ', callN lawProg k (.func 42 [] []) [.ptr r 0, x] σ = some (.tuple [], σ') ∧ Writes low r (bs ++ more) σ' ∧ Keeps low r σ σ' := by
  obtain ⟨k, rfl⟩ : ∃ m, k = m + 1 := ⟨k - 1, by omega⟩
  obtain ⟨out, h1, hg, h4⟩ := h
  obtain ⟨out', σ1, happ, hgrew, hnext, hlow, hone⟩ := Grew.append (e := ⟨.int .u8, 1, 1, [.int .u8 0]⟩) (n := more.length) (x := x) (xs := bytesV more) hg h4 hsrc (by rw [bytesV_length]; simp) hm (by simp) (by simp) (by simp) (by show (bs.length + more.length) * 1 ≤ 1099511627776; omega) (bytesV_all _)
  have g1 : σ1.get r = some (.row 1 true [out]) := by rw [hlow r hr]; exact h1
  have hcells := cells_one hone
  have run : ∃ T1, execC lawProg (callN lawProg k) k 42 13 (bodyOf Tryz.f42) (initT 0 [.ptr r 0, x] .nil) σ = some (.normal, T1, σ1.put r (.row 1 true [out'])) := by
    simp only [bodyOf, Tryz.f42, Option.getD_some, initT, dx, reduceIte, zLt, zLe, zEq, zAd, zMu, zSu, zBe, yEq, yLt, yLe, yTn, reduceCtorEq, sx, fx42, h1, happ, g1, hcells, hone]
    exact ⟨_, rfl⟩
  obtain ⟨T1, h2⟩ := run
  refine ⟨_, q_call (first := []) (caps := []) (vs := []) fn42 rfl (by simp [Tryz.f42]) h2 (by simp) rfl, ⟨out', by rw [AMem.get_put, if_pos rfl], ?_, by simp; omega⟩, fun s hs hne => by rw [AMem.get_put, if_neg (Ne.symm hne)]; exact hlow s hs⟩
  obtain ⟨c1, c2⟩ := hgrew
  rw [List.length_append, ← bytesV_append]
  refine ⟨c1, ?_⟩
  rcases c2 with ⟨h, _⟩ | ⟨q, h5, h6, h7, h8⟩
  · omega
  · exact .inr ⟨q, h5, h6, h7, by rw [AMem.get_put, if_neg (by omega)]; exact h8⟩

theorem wpair_call {low r : Nat} {bs : List Nat} {n : Nat} (h : Writes low r bs σ) (hr : r < low) (hn : n < 65536) (hb : bs.length ≤ 60000) (hk : 2 ≤ k) :
    ∃ σ', callN lawProg k (.func 88 [] []) [.ptr r 0, .int .i64 n] σ = some (.tuple [], σ') ∧ Writes low r (bs ++ [n / 256, n % 256]) σ' ∧ Keeps low r σ σ' := by
  obtain ⟨k, rfl⟩ : ∃ m, k = m + 1 := ⟨k - 1, by omega⟩
  obtain ⟨out, o1, o2, o3⟩ := id h
  obtain ⟨σ', hp, hw, hkeep⟩ := put_call (k := k) (σ := σ.push (.row 1 false [.int .u8 ((n / 256 : Nat) : Int), .int .u8 ((n % 256 : Nat) : Int)])) (more := [n / 256, n % 256]) (x := .slice σ.next 0 2 (some 2) 1) (h.push hr) hr (by
      simp only [sourceA, AMem.get_push, reduceIte, List.length_cons, List.length_nil, zAd, zMu, zLe, List.drop_zero, List.take_succ_cons, List.take_zero]; rfl) (by simp) (by simp; omega) (by omega)
  have e1 : ((n : Nat) : Int).tdiv 256 = ((n / 256 : Nat) : Int) := rfl
  have e2 : ((n : Nat) : Int).tmod 256 = ((n % 256 : Nat) : Int) := rfl
  have e3 : IntKind.i64.wrap ((n / 256 : Nat) : Int) = ((n / 256 : Nat) : Int) := i64_id (by omega) (by omega)
  have e4 : IntKind.u8.wrap ((n / 256 : Nat) : Int) = ((n / 256 : Nat) : Int) := u8_id (by omega)
  have e5 : IntKind.u8.wrap ((n % 256 : Nat) : Int) = ((n % 256 : Nat) : Int) := u8_id (by omega)
  have run : ∃ T1, execC lawProg (callN lawProg k) k 88 13 (bodyOf Tryz.f88) (initT 0 [.ptr r 0, .int .i64 n] .nil) σ = some (.normal, T1, σ') := by
    simp only [bodyOf, Tryz.f88, Option.getD_some, initT, dx, reduceIte, zLt, zLe, zEq, zAd, zMu, zSu, zBe, yEq, yLt, yLe, yTn, reduceCtorEq, sx, fx88, e1, e2, e3, e4, e5, hp]
    exact ⟨_, rfl⟩
  obtain ⟨T1, h2⟩ := run
  exact ⟨_, q_call (first := []) (caps := []) (vs := []) fn88 rfl (by simp [Tryz.f88]) h2 (by simp) rfl, hw, fun s hs hne => by rw [hkeep s hs hne, AMem.get_push, if_neg (by omega)]⟩

theorem sum_call {x : AVal} {seen : List Nat} (bs : List Nat) (hb : ∀ b, b ∈ bs → b < 256) (hx : snapF false σ snapDepth x = some (.vs .some (bytesV bs), seen)) (hn : bs.length ≤ 50000) (hk : 60000 ≤ k) : pureCall lawProg (callN lawProg k) (.func 38 [] []) [x] σ = some (.int .i64 (sumL 1 bs), σ) := by
  obtain ⟨k, rfl⟩ : ∃ m, k = m + 1 := ⟨k - 1, by omega⟩
  have hs : snapL (snapF false σ snapDepth) [x] = some ([.vs .some (bytesV bs)], seen ++ []) := by simp only [snapL, hx]
  exact pureCall_of hs (memo38 _) (sum_run bs hb .some (by omega) (by omega))
/-- Bytes with their sum behind them. -/
def sealB (bs : List Nat) : List Nat := bs ++ [(sumL 1 bs).toNat / 256, (sumL 1 bs).toNat % 256]
theorem sealed_call {low r : Nat} {bs : List Nat} (h : Writes low r bs σ) (hr : r < low) (hne : bs.length ≠ 0) (hb : bs.length ≤ 50000) (hbb : ∀ b, b ∈ bs → b < 256) (hk : 70000 ≤ k) :
    ∃ σ' q, callN lawProg k (.func 45 [] []) [.ptr r 0] σ = some (.slice q 0 (sealB bs).length none 1, σ') ∧ σ'.get q = some (.row 1 false (bytesV (sealB bs))) ∧ Keeps low r σ σ' := by
  obtain ⟨k, rfl⟩ : ∃ m, k = m + 1 := ⟨k - 1, by omega⟩
  obtain ⟨s1, s2⟩ := sumL_bounds 1 bs (by decide)
  obtain ⟨n, hn⟩ : ∃ n : Nat, sumL 1 bs = (n : Int) := ⟨(sumL 1 bs).toNat, by omega⟩
  obtain ⟨σ', hp, hw, hkeep⟩ := wpair_call (k := k) (n := n) h hr (by omega) (by omega) (by omega)
  obtain ⟨out, o1, ⟨o2, o3⟩, o4⟩ := h
  rcases o3 with ⟨h0, _⟩ | ⟨q, q1, q2, rfl, q4⟩
  · exact absurd h0 hne
  have hsum := sum_call (k := k) (σ := σ) (x := .slice q 0 bs.length none 1) bs hbb (snap_bytes (d := 10) (bs := bs) (more := []) rfl (by rw [List.append_nil]; exact q4)) (by omega) (by omega)
  rw [hn] at hsum
  obtain ⟨out', p1, ⟨p2, p3⟩, p4⟩ := hw
  rcases p3 with ⟨h0, _⟩ | ⟨q', q1', q2', rfl, q4'⟩
  · simp at h0
  have hs : sealB bs = bs ++ [n / 256, n % 256] := by unfold sealB; rw [hn]; rfl
  have run : ∃ T1, execC lawProg (callN lawProg k) k 45 14 (bodyOf Tryz.f45) (initT 0 [.ptr r 0] .nil) σ = some (.ret, T1, σ') ∧ T1.get 2 = some (.slice q' 0 (bs ++ [n / 256, n % 256]).length none 1) := by
    simp only [bodyOf, Tryz.f45, Option.getD_some, initT, dx, reduceIte, zLt, zLe, zEq, zAd, zMu, zSu, zBe, yEq, yLt, yLe, yTn, reduceCtorEq, sx, fx45, o1, hsum, hp, p1]
    exact ⟨_, rfl, by simp only [Tr.get_set, zEq, reduceIte]⟩
  obtain ⟨T1, h1, h2⟩ := run
  exact ⟨σ', q', by rw [hs]; exact q_call (first := []) (caps := []) fn45 rfl (by simp [Tryz.f45]) h1 (by simp) (res_one h2), by rw [hs]; exact q4', hkeep⟩
end Go.Proofs.YtjckhhkhgjbpaaaGreatDoor

/- The bytes of a chunk, and a chunk's reading; comparing bytes. -/
set_option maxRecDepth 100000
set_option linter.unusedSimpArgs false
set_option linter.unusedVariables false
namespace Go.Proofs.YtjckhhkhgjbpaaaGreatDoor
open Go Go.Proofs.YtjckhhkhgjbpaaaGreatDoor.Pale
variable {k : Nat} {σ : AMem}


def headB (name i of : Nat) (d : List Nat) : List Nat := [81] ++ [name / 256, name % 256] ++ [i, of, d.length] ++ d
/-- The bytes of a right chunk. -/
def encC (name i of : Nat) (d : List Nat) : List Nat := sealB (headB name i of d)

theorem chunkBytes_bad (name i of : Int) (vk : VK) (d : List Nat) (hbad : ¬ OkC name i of d) (hk : 5 ≤ k) : pureRun (callN lawProg (k + 1)) (.func 27 [] []) [chunkV name i of vk d] = some (.tuple [.vs .nil [], .int .i64 4], true) := by
  have hc : ∀ σ : AMem, pureCall lawProg (callN lawProg k) (.func 68 [] []) [.agg [.int .i64 name, .int .i64 i, .int .i64 of, .vs vk (bytesV d)]] σ = some (.bool false, σ) := fun σ => by
    have := isChunk_call (k := k) (σ := σ) (x := .agg [.int .i64 name, .int .i64 i, .int .i64 of, .vs vk (bytesV d)]) (name := name) (i := i) (of := of) (vk := vk) (d := d) rfl (by omega)
    rwa [decide_eq_false hbad] at this
  have run : ∃ T1 σ1, execC lawProg (callN lawProg k) k 27 36 (bodyOf Tryz.f27) (initT 0 [.agg [.int .i64 name, .int .i64 i, .int .i64 of, .vs vk (bytesV d)]] .nil) AMem.empty = some (.ret, T1, σ1) ∧ T1.get 2 = some (.vs .nil []) ∧ T1.get 3 = some (.int .i64 4) := by
    simp only [bodyOf, Tryz.f27, Option.getD_some, initT, dx, reduceIte, zLt, zLe, zEq, zAd, zMu, zSu, zBe, yEq, yLt, yLe, yTn, reduceCtorEq, sx, fx27, hc]
    exact ⟨_, _, rfl, by simp only [Tr.get_set, zEq, reduceIte], by simp only [Tr.get_set, zEq, reduceIte]⟩
  obtain ⟨T1, σ1, h1, h2, h3⟩ := run
  exact pureRun_of fn27 rfl (by simp [Tryz.f27]) h1 (by simp) (res_two h2 h3) rfl

theorem chunkBytes_ok (name i of : Nat) (vk : VK) (d : List Nat) (hok : OkC name i of d) (hd : ∀ b, b ∈ d → b < 256) (hk : 70000 ≤ k) : ∃ b, pureRun (callN lawProg (k + 1)) (.func 27 [] []) [chunkV name i of vk d] = some (.tuple [.vs .some (bytesV (encC name i of d)), .int .i64 0], b) := by
  obtain ⟨⟨o1, o2⟩, ⟨o3, o4⟩, ⟨o5, o6⟩, o7, o8⟩ := id hok
  have hc : ∀ σ : AMem, pureCall lawProg (callN lawProg k) (.func 68 [] []) [.agg [.int .i64 name, .int .i64 i, .int .i64 of, .vs vk (bytesV d)]] σ = some (.bool true, σ) := fun σ => by
    have := isChunk_call (k := k) (σ := σ) (x := .agg [.int .i64 name, .int .i64 i, .int .i64 of, .vs vk (bytesV d)]) (name := name) (i := i) (of := of) (vk := vk) (d := d) rfl (by omega)
    rwa [decide_eq_true hok] at this
  let σ1 : AMem := (AMem.empty.push (.row 4 true [.int .i64 name, .int .i64 i, .int .i64 of, .vs vk (bytesV d)])).push (.row 1 true [.vs .nil []])
  have w1 : Writes 2 1 [] (σ1.push (.row 1 false [.int .u8 81])) := ⟨.vs .nil [], by simp only [σ1, AMem.get_push, AMem.next_push, next_empty, zAd, zEq, reduceIte], ⟨rfl, .inl ⟨rfl, rfl⟩⟩, by simp [σ1, next_empty]⟩
  obtain ⟨σa, pa, wa, ka⟩ := put_call (k := k) (more := [81]) (x := .slice 2 0 1 (some 1) 1) w1 (by omega) (by simp only [σ1, sourceA, AMem.get_push, AMem.next_push, next_empty, zAd, reduceIte, List.length_cons, List.length_nil, zMu, zLe, List.drop_zero, List.take_succ_cons, List.take_zero]; rfl) (by simp) (by simp) (by omega)
  have ra : σa.get 0 = some (.row 4 true [.int .i64 name, .int .i64 i, .int .i64 of, .vs vk (bytesV d)]) := by
    rw [ka 0 (by omega) (by omega)]; simp only [σ1, AMem.get_push, AMem.next_push, next_empty, zAd, zEq, reduceIte]
  obtain ⟨σb, pb, wb, kb⟩ := wpair_call (k := k) (n := name) wa (by omega) (by omega) (by simp) (by omega)
  have rb : σb.get 0 = some (.row 4 true [.int .i64 name, .int .i64 i, .int .i64 of, .vs vk (bytesV d)]) := by rw [kb 0 (by omega) (by omega)]; exact ra
  obtain ⟨σc, pc, wc, kc⟩ := put_call (k := k) (σ := σb.push (.row 1 false [.int .u8 (i : Int), .int .u8 (of : Int), .int .u8 (d.length : Int)])) (more := [i, of, d.length]) (x := .slice σb.next 0 3 (some 3) 1) (wb.push (by omega)) (by omega) (by simp only [sourceA, AMem.get_push, reduceIte, List.length_cons, List.length_nil, zAd, zMu, zLe, List.drop_zero, List.take_succ_cons, List.take_zero]; rfl) (by simp) (by simp) (by omega)
  have wlow : 2 ≤ σb.next := by obtain ⟨_, _, _, h⟩ := wb; exact h
  have rc : σc.get 0 = some (.row 4 true [.int .i64 name, .int .i64 i, .int .i64 of, .vs vk (bytesV d)]) := by rw [kc 0 (by omega) (by omega), AMem.get_push, if_neg (by omega)]; exact rb
  obtain ⟨σd, pd, wd, kd⟩ := put_call (k := k) (more := d) (x := .vs vk (bytesV d)) wc (by omega) (source_bytes _ _ _) (by omega) (by simp; omega) (by omega)
  have hall : ∀ b, b ∈ headB name i of d → b < 256 := by
    intro b hb
    simp only [headB, List.cons_append, List.nil_append, List.append_assoc, List.mem_cons] at hb
    rcases hb with rfl | rfl | rfl | rfl | rfl | rfl | h
    all_goals first | omega | exact hd b h
  obtain ⟨σe, q, pe, qe, ke⟩ := sealed_call (k := k) (bs := headB name i of d) wd (by omega) (by simp [headB]) (by simp [headB]; omega) hall (by omega)
  have c1 : IntKind.u8.wrap (i : Int) = (i : Int) := u8_id (by omega)
  have c2 : IntKind.u8.wrap (of : Int) = (of : Int) := u8_id (by omega)
  have c3 : IntKind.u8.wrap (d.length : Int) = (d.length : Int) := u8_id (by omega)
  have run : ∃ T1, execC lawProg (callN lawProg k) k 27 36 (bodyOf Tryz.f27) (initT 0 [.agg [.int .i64 name, .int .i64 i, .int .i64 of, .vs vk (bytesV d)]] .nil) AMem.empty = some (.ret, T1, σe) ∧ T1.get 2 = some (.slice q 0 (sealB (headB name i of d)).length none 1) ∧ T1.get 3 = some (.int .i64 0) := by
    simp only [σ1] at pa
    simp only [bodyOf, Tryz.f27, Option.getD_some, initT, dx, reduceIte, zLt, zLe, zEq, zAd, zMu, zSu, zBe, yEq, yLt, yLe, yTn, reduceCtorEq, sx, fx27, hc, pa, ra, pb, rb, c1, c2, c3, bytesV_length, pc, rc, pd, pe]
    exact ⟨_, rfl, by simp only [Tr.get_set, zEq, reduceIte], by simp only [Tr.get_set, zEq, reduceIte]⟩
  obtain ⟨T1, h1, h2, h3⟩ := run
  exact pureRun_any (seen := [q] ++ ([] ++ [])) fn27 rfl (by simp [Tryz.f27]) h1 (by simp) (res_two h2 h3) (by
    show (snapL (snapF false σe 11) [.slice q 0 (sealB (headB name i of d)).length none 1, .int .i64 0]).map (fun (l, a) => (AVal.tuple l, a)) = _
    simp only [snapL, snap_bytes (d := 9) (bs := sealB (headB name i of d)) (more := []) (cap := none) rfl (by rw [List.append_nil]; exact qe), snap_int, Option.map_some]
    rfl)

theorem first_diff : ∀ (a b : List Nat), a.length = b.length → a ≠ b → ∃ p, ∃ h1 : p < a.length, ∃ h2 : p < b.length, a[p] ≠ b[p] ∧ ∀ i, ∀ h3 : i < a.length, ∀ h4 : i < b.length, i < p → a[i] = b[i] := by
  intro a
  induction a with
  | nil => intro b hl hne; cases b with
    | nil => exact absurd rfl hne
    | cons => simp at hl
  | cons x a ih =>
    intro b hl hne
    cases b with
    | nil => simp at hl
    | cons y b =>
      by_cases h : x = y
      · subst h
        obtain ⟨p, h1, h2, h3, h4⟩ := ih b (by simpa using hl) (fun e => hne (by rw [e]))
        refine ⟨p + 1, by simp; omega, by simp; omega, by simpa using h3, ?_⟩
        intro i h5 h6 h7
        cases i with
        | zero => rfl
        | succ i => simpa using h4 i (by simpa using h5) (by simpa using h6) (by omega)
      · exact ⟨0, by simp, by simp, by simpa using h, fun i _ _ h => by omega⟩

theorem equal_run (v1 v2 : VK) (a b : List Nat) (ha : a.length ≤ 50000) (hk : 60000 ≤ k) : pureRun (callN lawProg (k + 1)) (.func 59 [] []) [.vs v1 (bytesV a), .vs v2 (bytesV b)] = some (.bool (decide (a = b)), true) := by
  have run : ∃ T1 σ1, execC lawProg (callN lawProg k) k 59 26 (bodyOf Tryz.f59) (initT 0 [.vs v1 (bytesV a), .vs v2 (bytesV b)] .nil) AMem.empty = some (.ret, T1, σ1) ∧ T1.get 4 = some (.bool (decide (a = b))) := by
    by_cases hl : a.length = b.length
    · have hbne : ((a.length : Int) != (b.length : Int)) = false := by rw [hl]; simp
      simp only [bodyOf, Tryz.f59, Option.getD_some, initT, dx, reduceIte, zLt, zLe, zEq, zAd, zMu, zSu, zBe, yEq, yLt, yLe, yTn, reduceCtorEq, sx, fx59, bytesV_length, hbne]
      generalize hL : execC _ _ _ _ _ (Code.loop _) _ _ = q
      by_cases hab : a = b
      · subst hab
        obtain ⟨e, T', σ2, rfl, _, rfl⟩ : ∃ e T' σ2, q = some (e, T', σ2) ∧ e ≠ .normal ∧ e = .exit 0 := by
          rw [← hL]
          refine exec_loop (fun i T σ => i ≤ a.length ∧ T.get 0 = some (.vs v1 (bytesV a)) ∧ T.get 1 = some (.vs v2 (bytesV a)) ∧ T.get 12 = some (.int .i64 a.length) ∧ T.get 13 = some (.int .i64 i)) a.length (by omega) ?_ ?_ ?_
          · rintro i hi T σ ⟨_, t0, t1, t12, t13⟩
            have hlt : (i : Int) < a.length := by omega
            have hw : IntKind.i64.wrap ((i : Int) + 1) = ((i + 1 : Nat) : Int) := by rw [i64_id (by omega) (by omega)]; omega
            refine ⟨_, _, by
              simp only [dx, reduceIte, zLt, zLe, zEq, zAd, zMu, zSu, zBe, yEq, yLt, yLe, yTn, reduceCtorEq, sx, fx59, t0, t1, t12, t13, hlt, Int.natCast_nonneg, Int.toNat_natCast, bytesV_get hi, bne_self_eq_false, hw]
              rfl, hi, ?_, ?_, ?_, ?_⟩
            all_goals simp only [Tr.get_set, zEq, reduceIte, t0, t1, t12]
          · rintro T σ ⟨_, t0, t1, t12, t13⟩
            exact ⟨_, _, _, by
              simp only [dx, reduceIte, zLt, zLe, zEq, zAd, zMu, zSu, zBe, yEq, yLt, yLe, yTn, reduceCtorEq, sx, fx59, t12, t13, Int.lt_irrefl]
              rfl, by simp, rfl⟩
          · refine ⟨Nat.zero_le _, ?_, ?_, ?_, ?_⟩
            all_goals simp only [Tr.get_set, zEq, reduceIte]
            all_goals rfl
        simp only [dx, reduceIte, zLt, zLe, zEq, zAd, zMu, zSu, zBe, yEq, yLt, yLe, yTn, reduceCtorEq, sx, fx59]
        exact ⟨_, _, rfl, by simp only [Tr.get_set, zEq, reduceIte, decide_true]⟩
      · obtain ⟨p, hp1, hp2, hpn, hpe⟩ := first_diff a b hl hab
        have hdec : decide (a = b) = false := decide_eq_false hab
        rw [hdec]
        obtain ⟨e, T', σ2, rfl, _, rfl, h4⟩ : ∃ e T' σ2, q = some (e, T', σ2) ∧ e ≠ .normal ∧ (e = .ret ∧ T'.get 4 = some (.bool false)) := by
          rw [← hL]
          refine exec_loop (fun i T σ => i ≤ p ∧ T.get 0 = some (.vs v1 (bytesV a)) ∧ T.get 1 = some (.vs v2 (bytesV b)) ∧ T.get 12 = some (.int .i64 a.length) ∧ T.get 13 = some (.int .i64 i)) p (by omega) ?_ ?_ ?_
          · rintro i hi T σ ⟨_, t0, t1, t12, t13⟩
            have hlt : (i : Int) < a.length := by omega
            have hltb : (i : Int) < b.length := by omega
            have hw : IntKind.i64.wrap ((i : Int) + 1) = ((i + 1 : Nat) : Int) := by rw [i64_id (by omega) (by omega)]; omega
            have he := hpe i (by omega) (by omega) hi
            refine ⟨_, _, by
              simp only [dx, reduceIte, zLt, zLe, zEq, zAd, zMu, zSu, zBe, yEq, yLt, yLe, yTn, reduceCtorEq, sx, fx59, t0, t1, t12, t13, hlt, hltb, Int.natCast_nonneg, Int.toNat_natCast, bytesV_get (show i < a.length by omega), bytesV_get (show i < b.length by omega), he, bne_self_eq_false, hw]
              rfl, hi, ?_, ?_, ?_, ?_⟩
            all_goals simp only [Tr.get_set, zEq, reduceIte, t0, t1, t12]
          · rintro T σ ⟨_, t0, t1, t12, t13⟩
            have hlt : (p : Int) < a.length := by omega
            have hne : ((a[p] : Int) != (b[p] : Int)) = true := by simp; omega
            refine ⟨_, _, _, by
              simp only [dx, reduceIte, zLt, zLe, zEq, zAd, zMu, zSu, zBe, yEq, yLt, yLe, yTn, reduceCtorEq, sx, fx59, t0, t1, t12, t13, hlt, Int.natCast_nonneg, Int.toNat_natCast, bytesV_get hp1, bytesV_get hp2, hne]
              rfl, by simp, rfl, by simp only [Tr.get_set, zEq, reduceIte]⟩
          · refine ⟨Nat.zero_le _, ?_, ?_, ?_, ?_⟩
            all_goals simp only [Tr.get_set, zEq, reduceIte]
            all_goals rfl
        simp only [dx, reduceIte, zLt, zLe, zEq, zAd, zMu, zSu, zBe, yEq, yLt, yLe, yTn, reduceCtorEq, sx, fx59]
        exact ⟨_, _, rfl, h4⟩
    · have hbne : ((a.length : Int) != (b.length : Int)) = true := by simp; omega
      have hdec : decide (a = b) = false := decide_eq_false (fun e => hl (by rw [e]))
      rw [hdec]
      simp only [bodyOf, Tryz.f59, Option.getD_some, initT, dx, reduceIte, zLt, zLe, zEq, zAd, zMu, zSu, zBe, yEq, yLt, yLe, yTn, reduceCtorEq, sx, fx59, bytesV_length, hbne]
      exact ⟨_, _, rfl, by simp only [Tr.get_set, zEq, reduceIte]⟩
  obtain ⟨T1, σ1, h1, h2⟩ := run
  exact pureRun_of fn59 rfl (by simp [Tryz.f59]) h1 (by simp) (res_one h2) rfl
theorem equal_call (v1 v2 : VK) (a b : List Nat) (ha : a.length ≤ 50000) (hk : 60001 ≤ k) : pureCall lawProg (callN lawProg k) (.func 59 [] []) [.vs v1 (bytesV a), .vs v2 (bytesV b)] σ = some (.bool (decide (a = b)), σ) := by
  obtain ⟨k, rfl⟩ : ∃ m, k = m + 1 := ⟨k - 1, by omega⟩
  exact pureCall_of rfl (memo59 _) (equal_run v1 v2 a b ha (by omega))

/-! ### calls of ChunkBytes -/
def encR (name i of : Nat) (d : List Nat) : AVal × Int := if OkC name i of d then (.vs .some (bytesV (encC name i of d)), 0) else (.vs .nil [], 4)
theorem chunkBytes_call {x : AVal} (name i of : Nat) (vk : VK) (d : List Nat) (hx : snapF false σ snapDepth x = some (chunkV name i of vk d, [])) (hd : ∀ b, b ∈ d → b < 256) (hk : 80000 ≤ k) : pureCall lawProg (callN lawProg k) (.func 27 [] []) [x] σ = some (.tuple [(encR name i of d).1, .int .i64 (encR name i of d).2], σ) := by
  obtain ⟨k, rfl⟩ : ∃ m, k = m + 1 := ⟨k - 1, by omega⟩
  have hs : snapL (snapF false σ snapDepth) [x] = some ([chunkV name i of vk d], []) := by simp only [snapL, hx, List.append_nil]
  unfold encR
  by_cases hok : OkC name i of d
  · rw [if_pos hok]
    obtain ⟨b, h⟩ := chunkBytes_ok (k := k) name i of vk d hok hd (by omega)
    exact pureCall_of0 hs (memo27 _) h
  · rw [if_neg hok]
    exact pureCall_of0 hs (memo27 _) (chunkBytes_bad (k := k) name i of vk d hok (by omega))

/-! ### reading a chunk -/
/-- What the program takes for the chunk's parts. -/
def pName (bs : List Nat) : Nat := (bs.drop 1).headD 0 * 256 + ((bs.drop 1).drop 1).headD 0
def pAt (bs : List Nat) : Nat := (bs.drop 3).headD 0
def pOf (bs : List Nat) : Nat := (bs.drop 4).headD 0
def pLen (bs : List Nat) : Nat := (bs.drop 5).headD 0
def pData (bs : List Nat) : List Nat := (bs.drop 6).take (min (pLen bs) (bs.drop 6).length)
/-- The chunk with some bytes, or the error. -/
def readP (bs : List Nat) : AVal × Int :=
  if OkC (pName bs) (pAt bs) (pOf bs) (pData bs) ∧ encC (pName bs) (pAt bs) (pOf bs) (pData bs) = bs then (chunkV (pName bs) (pAt bs) (pOf bs) .some (pData bs), 0) else (chunkV 0 0 0 .nil [], 4)

theorem readChunk_run (bs : List Nat) (hb : ∀ b, b ∈ bs → b < 256) (hn : bs.length ≤ 1000) (hk : 90000 ≤ k) : ∃ b, pureRun (callN lawProg (k + 1)) (.func 28 [] []) [.vs .some (bytesV bs)] = some (.tuple [(readP bs).1, .int .i64 (readP bs).2], b) := by
  have hbd : ∀ n b, b ∈ bs.drop n → b < 256 := fun n b h => hb b (List.mem_of_mem_drop h)
  let σ0 : AMem := (AMem.empty.push (.row 4 true [.int .i64 0, .int .i64 0, .int .i64 0, .vs .nil []])).push (.row 1 true [.vs .some (bytesV bs)])
  have h0 : σ0.get 1 = some (.row 1 true [.vs .some (bytesV bs)]) := by simp only [σ0, AMem.get_push, AMem.next_push, next_empty, zAd, zEq, reduceIte]
  obtain ⟨σ1, c1, R1⟩ := one_call (k := k) h0 hb (by omega)
  obtain ⟨σ2, c2, R2⟩ := pair_call (k := k) R1.1 (hbd 1) (by omega)
  simp only [List.drop_drop, zAd] at R2
  obtain ⟨σ3, c3, R3⟩ := one_call (k := k) R2.1 (hbd 3) (by omega)
  simp only [List.drop_drop, zAd] at R3
  obtain ⟨σ4, c4, R4⟩ := one_call (k := k) R3.1 (hbd 4) (by omega)
  simp only [List.drop_drop, zAd] at R4
  have Rall := ((R1.trans R2).trans R3).trans R4
  have hnext4 : σ4.next = 2 := by rw [Rall.2.2]; rfl
  have g04 : σ4.get 0 = some (.row 4 true [.int .i64 0, .int .i64 0, .int .i64 0, .vs .nil []]) := by
    rw [Rall.2.1 0 (by omega)]; simp only [σ0, AMem.get_push, AMem.next_push, next_empty, zAd, zEq, reduceIte]
  let cand : List AVal := [.int .i64 (pName bs), .int .i64 (pAt bs), .int .i64 (pOf bs), .vs .nil []]
  let σ5 : AMem := (σ4.push (.row 4 true [.int .i64 0, .int .i64 0, .int .i64 0, .vs .nil []])).put 2 (.row 4 true cand)
  have h5 : σ5.get 1 = some (.row 1 true [.vs .some (bytesV (bs.drop 5))]) := by
    simp only [σ5]
    rw [AMem.get_put, if_neg (by omega), AMem.get_push, if_neg (by omega)]; exact R4.1
  obtain ⟨σ6, c6, R6⟩ := one_call (k := k) h5 (hbd 5) (by omega)
  simp only [List.drop_drop, zAd] at R6
  obtain ⟨σ7, c7, R7⟩ := take_call (k := k) (pLen bs) _ R6.1 rfl (by omega)
  have R67 := R6.trans R7
  have g27 : σ7.get 2 = some (.row 4 true cand) := by
    rw [R67.2.1 2 (by omega)]; simp only [σ5]; rw [AMem.get_put, if_pos rfl]
  have g07 : σ7.get 0 = some (.row 4 true [.int .i64 0, .int .i64 0, .int .i64 0, .vs .nil []]) := by
    rw [R67.2.1 0 (by omega)]; simp only [σ5]; rw [AMem.get_put, if_neg (by omega), AMem.get_push, if_neg (by omega)]; exact g04
  have hdl : (pData bs).length ≤ 1000 := by simp [pData]; omega
  have hdb : ∀ b, b ∈ pData bs → b < 256 := fun b h => hbd 6 b (List.mem_of_mem_take h)
  have c8 : pureCall lawProg (callN lawProg k) (.func 72 [] []) [.vs .some (bytesV (pData bs))] σ7 = some (.vs .some (bytesV (pData bs)), σ7) := clone_call _ _ (by decide) (by omega) (by omega)
  have c9 : ∀ σ : AMem, pureCall lawProg (callN lawProg k) (.func 27 [] []) [.agg [.int .i64 (pName bs), .int .i64 (pAt bs), .int .i64 (pOf bs), .vs .some (bytesV (pData bs))]] σ = some (.tuple [(encR (pName bs) (pAt bs) (pOf bs) (pData bs)).1, .int .i64 (encR (pName bs) (pAt bs) (pOf bs) (pData bs)).2], σ) :=
    fun σ => chunkBytes_call _ _ _ .some _ rfl hdb (by omega)
  simp only [σ0] at c1
  simp only [σ5, cand] at c6
  simp only [cand] at g27
  have c7' : callN lawProg k (.func 56 [] []) [.ptr 1 0, .int .i64 ((bs.drop 5).headD 0 : Nat)] σ6 = some (.vs .some (bytesV (pData bs)), σ7) := c7
  have c6' : callN lawProg k (.func 54 [] []) [.ptr 1 0] ((σ4.push (.row 4 true [.int .i64 0, .int .i64 0, .int .i64 0, .vs .nil []])).put 2 (.row 4 true [.int .i64 (pName bs), .int .i64 (pAt bs), .int .i64 (pOf bs), .vs .nil []])) = some (.int .i64 ((bs.drop 5).headD 0 : Nat), σ6) := c6
  have c2' : callN lawProg k (.func 89 [] []) [.ptr 1 0] σ1 = some (.int .i64 (pName bs : Nat), σ2) := c2
  have c3' : callN lawProg k (.func 54 [] []) [.ptr 1 0] σ2 = some (.int .i64 (pAt bs : Nat), σ3) := c3
  have c4' : callN lawProg k (.func 54 [] []) [.ptr 1 0] σ3 = some (.int .i64 (pOf bs : Nat), σ4) := c4
  have run : ∃ T1 σ9 x, execC lawProg (callN lawProg k) k 28 41 (bodyOf Tryz.f28) (initT 0 [.vs .some (bytesV bs)] .nil) AMem.empty = some (.ret, T1, σ9) ∧ resultsA lawProg T1 σ9 Tryz.f28.results.toList = some [x, .int .i64 (readP bs).2] ∧ snapF false σ9 11 x = some ((readP bs).1, []) := by
    by_cases hok : OkC (pName bs) (pAt bs) (pOf bs) (pData bs)
    · have he : encR (pName bs) (pAt bs) (pOf bs) (pData bs) = (.vs .some (bytesV (encC (pName bs) (pAt bs) (pOf bs) (pData bs))), 0) := by unfold encR; rw [if_pos hok]
      simp only [he] at c9
      have hel : (encC (pName bs) (pAt bs) (pOf bs) (pData bs)).length ≤ 50000 := by simp [encC, sealB, headB]; omega
      have heq := fun σ => equal_call (k := k) (σ := σ) .some .some (encC (pName bs) (pAt bs) (pOf bs) (pData bs)) bs hel (by omega)
      by_cases hen : encC (pName bs) (pAt bs) (pOf bs) (pData bs) = bs
      · have hres : readP bs = (chunkV (pName bs) (pAt bs) (pOf bs) .some (pData bs), 0) := by unfold readP; rw [if_pos ⟨hok, hen⟩]
        rw [hres]
        simp only [hen, decide_true] at heq c9
        have e : ∃ T1 σ9, execC lawProg (callN lawProg k) k 28 41 (bodyOf Tryz.f28) (initT 0 [.vs .some (bytesV bs)] .nil) AMem.empty = some (.ret, T1, σ9) ∧ resultsA lawProg T1 σ9 Tryz.f28.results.toList = some [.agg [.int .i64 (pName bs), .int .i64 (pAt bs), .int .i64 (pOf bs), .vs .some (bytesV (pData bs))], .int .i64 0] := by
          simp only [bodyOf, Tryz.f28, Option.getD_some, initT, dx, reduceIte, zLt, zLe, zEq, zAd, zMu, zSu, zBe, yEq, yLt, yLe, yTn, reduceCtorEq, sx, fx28, c1, c2', c3', c4', hnext4, c6', c7', c8, g27, c9, heq, bne_self_eq_false, g07]
          exact ⟨_, _, rfl, by simp only [Tryz.f28, resultsA, resultA, dx, reduceIte, zLt, zLe, zEq, zAd, zMu, zSu, zBe, yEq, yLt, yLe, yTn, reduceCtorEq, sx, fx28, g07]⟩
        obtain ⟨T1, σ9, e1, e2⟩ := e
        exact ⟨T1, σ9, _, e1, e2, rfl⟩
      · have hres : readP bs = (chunkV 0 0 0 .nil [], 4) := by unfold readP; rw [if_neg (fun h => hen h.2)]
        rw [hres]
        simp only [decide_eq_false hen] at heq
        have e : ∃ T1 σ9, execC lawProg (callN lawProg k) k 28 41 (bodyOf Tryz.f28) (initT 0 [.vs .some (bytesV bs)] .nil) AMem.empty = some (.ret, T1, σ9) ∧ resultsA lawProg T1 σ9 Tryz.f28.results.toList = some [.agg [.int .i64 0, .int .i64 0, .int .i64 0, .vs .nil []], .int .i64 4] := by
          simp only [bodyOf, Tryz.f28, Option.getD_some, initT, dx, reduceIte, zLt, zLe, zEq, zAd, zMu, zSu, zBe, yEq, yLt, yLe, yTn, reduceCtorEq, sx, fx28, c1, c2', c3', c4', hnext4, c6', c7', c8, g27, c9, heq, bne_self_eq_false, g07]
          exact ⟨_, _, rfl, by simp only [Tryz.f28, resultsA, resultA, dx, reduceIte, zLt, zLe, zEq, zAd, zMu, zSu, zBe, yEq, yLt, yLe, yTn, reduceCtorEq, sx, fx28, g07]⟩
        obtain ⟨T1, σ9, e1, e2⟩ := e
        exact ⟨T1, σ9, _, e1, e2, rfl⟩
    · have he : encR (pName bs) (pAt bs) (pOf bs) (pData bs) = (.vs .nil [], 4) := by unfold encR; rw [if_neg hok]
      simp only [he] at c9
      have hres : readP bs = (chunkV 0 0 0 .nil [], 4) := by unfold readP; rw [if_neg (fun h => hok h.1)]
      rw [hres]
      have h40 : ((4 : Int) != 0) = true := rfl
      have e : ∃ T1 σ9, execC lawProg (callN lawProg k) k 28 41 (bodyOf Tryz.f28) (initT 0 [.vs .some (bytesV bs)] .nil) AMem.empty = some (.ret, T1, σ9) ∧ resultsA lawProg T1 σ9 Tryz.f28.results.toList = some [.agg [.int .i64 0, .int .i64 0, .int .i64 0, .vs .nil []], .int .i64 4] := by
        simp only [bodyOf, Tryz.f28, Option.getD_some, initT, dx, reduceIte, zLt, zLe, zEq, zAd, zMu, zSu, zBe, yEq, yLt, yLe, yTn, reduceCtorEq, sx, fx28, c1, c2', c3', c4', hnext4, c6', c7', c8, g27, c9, h40, g07]
        exact ⟨_, _, rfl, by simp only [Tryz.f28, resultsA, resultA, dx, reduceIte, zLt, zLe, zEq, zAd, zMu, zSu, zBe, yEq, yLt, yLe, yTn, reduceCtorEq, sx, fx28, g07]⟩
      obtain ⟨T1, σ9, e1, e2⟩ := e
      exact ⟨T1, σ9, _, e1, e2, rfl⟩
  obtain ⟨T1, σ9, x, h1, h2, h3⟩ := run
  exact pureRun_any (seen := [] ++ ([] ++ [])) fn28 rfl (by simp [Tryz.f28]) h1 (by simp) h2 (by
    show (snapL (snapF false σ9 11) [x, .int .i64 _]).map (fun (l, a) => (AVal.tuple l, a)) = _
    simp only [snapL, h3, snap_int, Option.map_some])
end Go.Proofs.YtjckhhkhgjbpaaaGreatDoor

/- Lists of spans as sets of numbers, and words of 64 bits: no program in sight. -/
set_option maxRecDepth 100000
set_option linter.unusedSimpArgs false
set_option linter.unusedVariables false
namespace Go.Proofs.YtjckhhkhgjbpaaaGreatDoor
open Go Go.Proofs.YtjckhhkhgjbpaaaGreatDoor.Pale

abbrev Sp := Int × Int
def inSp (l : List Sp) (m : Int) : Bool := l.any fun s => decide (s.1 ≤ m) && decide (m ≤ s.2)
def okS (s : Sp) : Prop := 1 ≤ s.1 ∧ s.1 ≤ s.2 ∧ s.2 ≤ 60
def OkSp (l : List Sp) : Prop := (∀ s, s ∈ l → okS s) ∧ l.Pairwise fun a b => a.2 + 2 ≤ b.1
/-- How far a list goes. -/
def lastTo (l : List Sp) : Int := ((l.getLast?).map (·.2)).getD (-1)

theorem nil_or_snoc {α : Type} (l : List α) : l = [] ∨ ∃ m s, l = m ++ [s] := by
  rcases List.eq_nil_or_concat l with h | ⟨m, s, h⟩
  · exact .inl h
  · exact .inr ⟨m, s, by rw [h, List.concat_eq_append]⟩
theorem OkSp.nil : OkSp [] := ⟨by simp, by simp⟩
theorem lastTo_snoc (l : List Sp) (s : Sp) : lastTo (l ++ [s]) = s.2 := by simp [lastTo]
theorem lastTo_bound {l : List Sp} (h : OkSp l) : (∀ a, a ∈ l → a.2 ≤ lastTo l) ∧ -1 ≤ lastTo l ∧ lastTo l ≤ 60 := by
  rcases nil_or_snoc l with rfl | ⟨l, s, rfl⟩
  · simp [lastTo]
  · rw [lastTo_snoc]
    obtain ⟨h1, h2⟩ := h
    rw [List.pairwise_append] at h2
    have hs := h1 s (by simp)
    unfold okS at hs
    refine ⟨fun a ha => ?_, by omega, by omega⟩
    rcases List.mem_append.1 ha with ha | ha
    · have := h2.2.2 a ha s (by simp)
      omega
    · simp only [List.mem_singleton] at ha
      subst ha
      omega
theorem ok_snoc (l : List Sp) (s : Sp) : OkSp (l ++ [s]) ↔ OkSp l ∧ okS s ∧ (∀ a, a ∈ l → a.2 + 2 ≤ s.1) := by
  unfold OkSp
  constructor
  · rintro ⟨h1, h2⟩
    rw [List.pairwise_append] at h2
    exact ⟨⟨fun x hx => h1 x (by simp [hx]), h2.1⟩, h1 s (by simp), fun a ha => h2.2.2 a ha s (by simp)⟩
  · rintro ⟨⟨h1, h2⟩, h3, h4⟩
    refine ⟨fun x hx => ?_, ?_⟩
    · rcases List.mem_append.1 hx with hx | hx
      · exact h1 x hx
      · simp only [List.mem_singleton] at hx
        subst hx
        exact h3
    · rw [List.pairwise_append]
      refine ⟨h2, by simp, fun a ha b hb => ?_⟩
      simp only [List.mem_singleton] at hb
      subst hb
      exact h4 a ha
theorem ok_last {l : List Sp} (h : OkSp l) (s : Sp) : OkSp (l ++ [s]) ↔ okS s ∧ lastTo l + 2 ≤ s.1 := by
  rw [ok_snoc]
  have hb := lastTo_bound h
  constructor
  · rintro ⟨_, h1, h2⟩
    refine ⟨h1, ?_⟩
    rcases nil_or_snoc l with rfl | ⟨l, t, rfl⟩
    · have := h1.1
      simp [lastTo]
      omega
    · rw [lastTo_snoc]
      exact h2 t (by simp)
  · rintro ⟨h1, h2⟩
    exact ⟨h, h1, fun a ha => by have := hb.1 a ha; omega⟩
theorem ok_take {l : List Sp} (h : OkSp l) (n : Nat) : OkSp (l.take n) :=
  ⟨fun s hs => h.1 s (List.mem_of_mem_take hs), List.Pairwise.sublist (List.take_sublist n l) h.2⟩
theorem ok_app {l m : List Sp} (h : OkSp (l ++ m)) : OkSp l := ⟨fun s hs => h.1 s (by simp [hs]), (List.pairwise_append.1 h.2).1⟩
theorem inSp_iff {l : List Sp} {m : Int} : inSp l m = true ↔ ∃ s, s ∈ l ∧ s.1 ≤ m ∧ m ≤ s.2 := by
  unfold inSp
  rw [List.any_eq_true]
  constructor
  · rintro ⟨s, hs, h⟩
    simp only [Bool.and_eq_true, decide_eq_true_eq] at h
    exact ⟨s, hs, h⟩
  · rintro ⟨s, hs, h⟩
    exact ⟨s, hs, by simp only [Bool.and_eq_true, decide_eq_true_eq]; exact h⟩
theorem inSp_range {l : List Sp} (h : OkSp l) {m : Int} (hm : inSp l m = true) : 1 ≤ m ∧ m ≤ 60 := by
  obtain ⟨s, hs, h1⟩ := inSp_iff.1 hm
  have := h.1 s hs
  unfold okS at this
  omega
/-- Two lists that are right and have the same numbers are the same. -/
theorem ok_ext : ∀ {a b : List Sp}, OkSp a → OkSp b → (∀ m, inSp a m = inSp b m) → a = b := by
  intro a
  induction a with
  | nil =>
    intro b _ hb h
    cases b with
    | nil => rfl
    | cons s b =>
      exfalso
      have hs := hb.1 s (by simp)
      have := h s.1
      rw [show inSp (s :: b) s.1 = true from inSp_iff.2 ⟨s, by simp, Int.le_refl _, hs.2.1⟩] at this
      cases this
  | cons x a ih =>
    intro b ha hb h
    cases b with
    | nil =>
      exfalso
      have hs := ha.1 x (by simp)
      have := h x.1
      rw [show inSp (x :: a) x.1 = true from inSp_iff.2 ⟨x, by simp, Int.le_refl _, hs.2.1⟩] at this
      cases this
    | cons y b =>
      obtain ⟨ha1, ha2⟩ := ha
      obtain ⟨hb1, hb2⟩ := hb
      rw [List.pairwise_cons] at ha2 hb2
      have hx := ha1 x (by simp)
      have hy := hb1 y (by simp)
      unfold okS at hx hy
      have low : ∀ (z : Sp) (c : List Sp), (∀ w, w ∈ c → z.2 + 2 ≤ w.1) → ∀ m, inSp (z :: c) m = true → z.1 ≤ m ∨ z.2 + 2 ≤ m := by
        intro z c hc m hm
        obtain ⟨w, hw, h1⟩ := inSp_iff.1 hm
        rcases List.mem_cons.1 hw with rfl | hw
        · exact .inl h1.1
        · have := hc w hw
          exact .inr (by omega)
      have gap : ∀ (z : Sp) (c : List Sp), (∀ w, w ∈ c → z.2 + 2 ≤ w.1) → inSp (z :: c) (z.2 + 1) = false := by
        intro z c hc
        rw [Bool.eq_false_iff]
        intro hm
        obtain ⟨w, hw, h1⟩ := inSp_iff.1 hm
        rcases List.mem_cons.1 hw with rfl | hw
        · omega
        · have := hc w hw
          omega
      have inx : ∀ m, x.1 ≤ m → m ≤ x.2 → inSp (x :: a) m = true := fun m h1 h2 => inSp_iff.2 ⟨x, by simp, h1, h2⟩
      have iny : ∀ m, y.1 ≤ m → m ≤ y.2 → inSp (y :: b) m = true := fun m h1 h2 => inSp_iff.2 ⟨y, by simp, h1, h2⟩
      have e1 : x.1 = y.1 := by
        have h1 := low y b hb2.1 x.1 (by rw [← h]; exact inx _ (Int.le_refl _) hx.2.1)
        have h2 := low x a ha2.1 y.1 (by rw [h]; exact iny _ (Int.le_refl _) hy.2.1)
        omega
      have e2 : x.2 = y.2 := by
        rcases Int.lt_trichotomy x.2 y.2 with hlt | heq | hgt
        · exfalso
          have h1 := iny (x.2 + 1) (by omega) (by omega)
          rw [← h, gap x a ha2.1] at h1
          cases h1
        · exact heq
        · exfalso
          have h1 := inx (y.2 + 1) (by omega) (by omega)
          rw [h, gap y b hb2.1] at h1
          cases h1
      have exy : x = y := Prod.ext e1 e2
      subst exy
      rw [ih ⟨fun s hs => ha1 s (by simp [hs]), ha2.2⟩ ⟨fun s hs => hb1 s (by simp [hs]), hb2.2⟩ fun m => ?_]
      have hm := h m
      have split : ∀ (c : List Sp), inSp (x :: c) m = (decide (x.1 ≤ m) && decide (m ≤ x.2) || inSp c m) := fun c => by simp [inSp]
      rw [split, split] at hm
      by_cases hin : x.1 ≤ m ∧ m ≤ x.2
      · have no : ∀ (c : List Sp), (∀ w, w ∈ c → x.2 + 2 ≤ w.1) → inSp c m = false := by
          intro c hc
          rw [Bool.eq_false_iff]
          intro hm
          obtain ⟨w, hw, h1⟩ := inSp_iff.1 hm
          have := hc w hw
          omega
        rw [no a ha2.1, no b hb2.1]
      · have : (decide (x.1 ≤ m) && decide (m ≤ x.2)) = false := by
          rw [Bool.eq_false_iff]
          simp only [ne_eq, Bool.and_eq_true, decide_eq_true_eq]
          exact hin
        rw [this, Bool.false_or, Bool.false_or] at hm
        exact hm

/-! ### the list of a set -/
/-- One number more: what the list is then. -/
def addN (l : List Sp) (n : Int) : List Sp := match l.getLast? with
  | some s => if s.2 = n - 1 then l.dropLast ++ [(s.1, n)] else l ++ [(n, n)]
  | none => [(n, n)]
def listN (p : Nat → Bool) : Nat → List Sp
  | 0 => []
  | n + 1 => if n ≠ 0 ∧ p n = true then addN (listN p n) n else listN p n
theorem inSp_snoc (l : List Sp) (s : Sp) (m : Int) : inSp (l ++ [s]) m = (inSp l m || (decide (s.1 ≤ m) && decide (m ≤ s.2))) := by simp [inSp]
theorem listN_ok (p : Nat → Bool) : ∀ n, n ≤ 61 → OkSp (listN p n) ∧ (lastTo (listN p n) < n) ∧ ∀ m : Nat, inSp (listN p n) m = (decide (1 ≤ m) && decide (m < n) && p m) := by
  intro n
  induction n with
  | zero => intro _; exact ⟨OkSp.nil, by simp [listN, lastTo], fun m => by simp [listN, inSp]⟩
  | succ n ih =>
    intro hn
    obtain ⟨h1, h2, h3⟩ := ih (by omega)
    rw [listN]
    split
    · rename_i hc
      obtain ⟨hn0, hp⟩ := hc
      have fin : ∀ (m : Nat) (b : Bool), (b = (inSp (listN p n) m || decide (m = n))) → b = (decide (1 ≤ m) && decide (m < n + 1) && p m) := by
        intro m b hb
        rw [hb, h3]
        by_cases e : m = n
        · subst e
          rw [hp]
          simp
          omega
        · by_cases e2 : m < n
          · simp [e, e2, show m < n + 1 by omega]
          · simp [e, e2, show ¬ m < n + 1 by omega]
      unfold addN
      rcases nil_or_snoc (listN p n) with hl | ⟨l, s, hl⟩
      · rw [hl] at fin ⊢
        simp only [List.getLast?_nil]
        refine ⟨⟨by simp [okS]; omega, by simp⟩, by simp [lastTo]; omega, fun m => fin m _ ?_⟩
        simp only [inSp, List.any_cons, List.any_nil, Bool.or_false, Bool.false_or]
        rw [Bool.eq_iff_iff]
        simp only [Bool.and_eq_true, decide_eq_true_eq]
        omega
      · rw [hl] at h1 h2 fin ⊢
        rw [lastTo_snoc] at h2
        have hs := h1.1 s (by simp)
        unfold okS at hs
        have hx := (ok_snoc l s).1 h1
        simp only [List.getLast?_concat, List.dropLast_concat]
        split
        · rename_i he
          refine ⟨(ok_snoc _ _).2 ⟨hx.1, ⟨hs.1, by simp only; omega, by simp only; omega⟩, hx.2.2⟩, by rw [lastTo_snoc]; simp only; omega, fun m => fin m _ ?_⟩
          rw [inSp_snoc, inSp_snoc, Bool.or_assoc]
          congr 1
          rw [Bool.eq_iff_iff]
          simp only [Bool.and_eq_true, Bool.or_eq_true, decide_eq_true_eq]
          omega
        · rename_i he
          refine ⟨(ok_last h1 _).2 ⟨⟨by simp only; omega, Int.le_refl _, by simp only; omega⟩, by rw [lastTo_snoc]; simp only; omega⟩, by rw [lastTo_snoc]; simp only; omega, fun m => fin m _ ?_⟩
          rw [inSp_snoc (l ++ [s])]
          congr 1
          rw [Bool.eq_iff_iff]
          simp only [Bool.and_eq_true, decide_eq_true_eq]
          omega
    · rename_i hc
      refine ⟨h1, by omega, fun m => ?_⟩
      rw [h3]
      by_cases e : m = n
      · subst e
        by_cases e2 : m = 0
        · subst e2; simp
        · have : p m = false := by
            rw [Bool.eq_false_iff]
            exact fun h => hc ⟨e2, h⟩
          simp [this]
      · by_cases e2 : m < n
        · simp [e2, show m < n + 1 by omega]
        · simp [e2, show ¬ m < n + 1 by omega]
/-- The list of a set of numbers from 1 to 60. -/
def spansOf (p : Nat → Bool) : List Sp := listN p 61
theorem spansOf_ok (p : Nat → Bool) : OkSp (spansOf p) ∧ ∀ m : Nat, inSp (spansOf p) m = (decide (1 ≤ m) && decide (m ≤ 60) && p m) := by
  obtain ⟨h1, _, h3⟩ := listN_ok p 61 (by omega)
  exact ⟨h1, fun m => by rw [spansOf, h3]; congr 2; exact decide_eq_decide.2 (by omega)⟩
theorem spansOf_eq {p : Nat → Bool} {l : List Sp} (h : OkSp l) (hm : ∀ m : Nat, 1 ≤ m → m ≤ 60 → inSp l m = p m) : l = spansOf p := by
  refine ok_ext h (spansOf_ok p).1 fun m => ?_
  by_cases hr : 1 ≤ m ∧ m ≤ 60
  · obtain ⟨n, rfl⟩ : ∃ n : Nat, m = (n : Int) := ⟨m.toNat, by omega⟩
    rw [(spansOf_ok p).2, hm n (by omega) (by omega)]
    simp [show 1 ≤ n by omega, show n ≤ 60 by omega]
  · have f : ∀ l : List Sp, OkSp l → inSp l m = false := fun l hl => by
      rw [Bool.eq_false_iff]
      exact fun h => hr (inSp_range hl h)
    rw [f l h, f _ (spansOf_ok p).1]

/-! ### words as sets -/

def upW (n : Nat) : BitVec 64 := BitVec.ofNat 64 (2 ^ (n + 1) - 2)
def betW (f t : Nat) : BitVec 64 := upW t &&& ~~~(upW (f - 1))
theorem upW_all : ∀ n, n < 61 → ∀ i, i < 64 → (upW n).getLsbD i = (decide (1 ≤ i) && decide (i ≤ n)) := by decide +kernel
theorem upW_bit {n : Nat} (hn : n ≤ 60) (i : Nat) : (upW n).getLsbD i = (decide (1 ≤ i) && decide (i ≤ n)) := by
  by_cases hi : i < 64
  · exact upW_all n (by omega) i hi
  · rw [BitVec.getLsbD_of_ge _ _ (by omega)]
    simp [show ¬ i ≤ n by omega]
theorem betW_bit {f t : Nat} (hf : 1 ≤ f) (hft : f ≤ t) (ht : t ≤ 60) (i : Nat) : (betW f t).getLsbD i = (decide (f ≤ i) && decide (i ≤ t)) := by
  unfold betW
  rw [BitVec.getLsbD_and, BitVec.getLsbD_not, upW_bit ht, upW_bit (by omega)]
  by_cases hi : i < 64
  · rw [Bool.eq_iff_iff]
    simp only [Bool.and_eq_true, Bool.not_eq_true', Bool.and_eq_false_iff, decide_eq_true_eq, decide_eq_false_iff_not]
    omega
  · simp [show ¬ i ≤ t by omega]
/-- The lowest bit. -/
def Low (x : BitVec 64) (i : Nat) : Prop := i < 64 ∧ x.getLsbD i = true ∧ ∀ j, j < i → x.getLsbD j = false
theorem low_get {x : BitVec 64} (h : x ≠ 0#64) : ∃ i, Low x i := by
  have h1 : ∃ i, i < 64 ∧ x.getLsbD i = true := by
    apply Classical.byContradiction
    intro hn
    apply h
    apply BitVec.eq_of_getLsbD_eq
    intro i hi
    rw [BitVec.getLsbD_zero, Bool.eq_false_iff]
    exact fun hx => hn ⟨i, hi, hx⟩
  have key : ∀ n, (∃ i, i < n ∧ i < 64 ∧ x.getLsbD i = true) → ∃ i, Low x i := by
    intro n
    induction n with
    | zero => rintro ⟨i, h, _⟩; omega
    | succ n ih =>
      rintro ⟨i, h2, h3, h4⟩
      by_cases hx : ∃ j, j < i ∧ x.getLsbD j = true
      · obtain ⟨j, hj, hj2⟩ := hx
        exact ih ⟨j, by omega, by omega, hj2⟩
      · exact ⟨i, h3, h4, fun j hj => by rw [Bool.eq_false_iff]; exact fun h => hx ⟨j, hj, h⟩⟩
  obtain ⟨i, hi, hx⟩ := h1
  exact key 64 ⟨i, hi, hi, hx⟩
theorem low_bit {x : BitVec 64} {i : Nat} (h : Low x i) : x &&& -x = BitVec.twoPow 64 i := by
  obtain ⟨hi, h1, h2⟩ := h
  apply BitVec.eq_of_getLsbD_eq
  intro j hj
  rw [BitVec.getLsbD_and, BitVec.getLsbD_neg, BitVec.getLsbD_twoPow]
  by_cases e : j < i
  · rw [h2 j e]
    simp
    omega
  · by_cases e2 : j = i
    · subst e2
      have : ¬ ∃ k, k < j ∧ x.getLsbD k = true := by
        rintro ⟨k, hk, hx⟩
        rw [h2 k hk] at hx
        cases hx
      simp [h1, hj, this]
    · have : ∃ k, k < j ∧ x.getLsbD k = true := ⟨i, by omega, h1⟩
      simp only [hj, decide_true, Bool.true_and, this]
      cases x.getLsbD j <;> simp
      all_goals omega
theorem low_ne {x : BitVec 64} {i : Nat} (h : Low x i) : x ≠ 0#64 := by
  rintro rfl
  have := h.2.1
  simp at this

/-! ### what the operations give -/

theorem u64_of (x : BitVec 64) : BitVec.ofInt 64 (x.toNat : Int) = x := by
  rw [BitVec.ofInt_natCast]
  exact BitVec.eq_of_toNat_eq (by rw [BitVec.toNat_ofNat]; exact Nat.mod_eq_of_lt x.isLt)
theorem u64_id {n : Int} (h1 : 0 ≤ n) (h2 : n < 18446744073709551616) : IntKind.u64.wrap n = n := by
  show n % 18446744073709551616 = n
  exact Int.emod_eq_of_lt h1 h2
theorem u64_wrap (x : BitVec 64) : IntKind.u64.wrap (x.toNat : Int) = (x.toNat : Int) := u64_id (by omega) (by have := x.isLt; omega)
theorem u64_and (x y : BitVec 64) : IntKind.u64.wrap ((BitVec.ofInt IntKind.u64.bits (x.toNat : Int) &&& BitVec.ofInt IntKind.u64.bits (y.toNat : Int)).toNat : Int) = ((x &&& y).toNat : Int) := by
  show IntKind.u64.wrap ((BitVec.ofInt 64 (x.toNat : Int) &&& BitVec.ofInt 64 (y.toNat : Int)).toNat : Int) = _
  rw [u64_of, u64_of, u64_wrap]
theorem u64_or (x y : BitVec 64) : IntKind.u64.wrap ((BitVec.ofInt IntKind.u64.bits (x.toNat : Int) ||| BitVec.ofInt IntKind.u64.bits (y.toNat : Int)).toNat : Int) = ((x ||| y).toNat : Int) := by
  show IntKind.u64.wrap ((BitVec.ofInt 64 (x.toNat : Int) ||| BitVec.ofInt 64 (y.toNat : Int)).toNat : Int) = _
  rw [u64_of, u64_of, u64_wrap]
theorem u64_andNot (x y : BitVec 64) : IntKind.u64.wrap ((BitVec.ofInt IntKind.u64.bits (x.toNat : Int) &&& ~~~(BitVec.ofInt IntKind.u64.bits (y.toNat : Int))).toNat : Int) = ((x &&& ~~~y).toNat : Int) := by
  show IntKind.u64.wrap ((BitVec.ofInt 64 (x.toNat : Int) &&& ~~~(BitVec.ofInt 64 (y.toNat : Int))).toNat : Int) = _
  rw [u64_of, u64_of, u64_wrap]
theorem u64_not (x : BitVec 64) : IntKind.u64.wrap ((BitVec.ofInt IntKind.u64.bits (if IntKind.u64.signed = true then -1 else IntKind.u64.max) ^^^ BitVec.ofInt IntKind.u64.bits (x.toNat : Int)).toNat : Int) = ((~~~x).toNat : Int) := by
  show IntKind.u64.wrap ((BitVec.ofInt 64 18446744073709551615 ^^^ BitVec.ofInt 64 (x.toNat : Int)).toNat : Int) = _
  rw [u64_of, u64_wrap]
  congr 2
theorem u64_neg (x : BitVec 64) : IntKind.u64.wrap (0 - (x.toNat : Int)) = ((-x).toNat : Int) := by
  show (0 - (x.toNat : Int)) % 18446744073709551616 = _
  rw [BitVec.toNat_neg]
  have := x.isLt
  omega
theorem u64_mul (x y : BitVec 64) : IntKind.u64.wrap ((x.toNat : Int) * (y.toNat : Int)) = ((x * y).toNat : Int) := by
  show ((x.toNat : Int) * (y.toNat : Int)) % 18446744073709551616 = _
  rw [BitVec.toNat_mul]
  omega
theorem u64_shr (x : BitVec 64) (n : Nat) (hn : n ≤ 64) : (x.toNat : Int).fdiv (2 ^ (min ((n : Nat) : Int).toNat IntKind.u64.bits)) = ((x >>> n).toNat : Int) := by
  show (x.toNat : Int).fdiv (2 ^ (min ((n : Nat) : Int).toNat 64)) = _
  rw [Int.toNat_natCast, Nat.min_eq_left hn, BitVec.toNat_ushiftRight, Nat.shiftRight_eq_div_pow]
  rw [show ((2 : Int) ^ n) = ((2 ^ n : Nat) : Int) by simp, Int.fdiv_eq_ediv_of_nonneg _ (Int.natCast_nonneg _)]
  rfl
theorem upW_run : ∀ n, n < 61 → IntKind.u64.wrap (IntKind.u64.wrap (1 * 2 ^ (min ((n + 1 : Nat) : Int).toNat IntKind.u64.bits)) - 2) = ((upW n).toNat : Int) := by decide +kernel

/-! ### how they stand in memory -/
def spanC (s : Sp) : List AVal := [.int .i64 s.1, .int .i64 s.2]
def spanV (s : Sp) : AVal := .agg (spanC s)
def spansV (l : List Sp) : List AVal := l.map spanV
def spansC (l : List Sp) : List AVal := (l.map spanC).flatten
theorem spansV_length (l : List Sp) : (spansV l).length = l.length := by simp [spansV]
theorem spansV_get {l : List Sp} {i : Nat} (hi : i < l.length) : (spansV l)[i]? = some (.agg [.int .i64 (l[i]).1, .int .i64 (l[i]).2]) := by
  unfold spansV
  rw [List.getElem?_map, List.getElem?_eq_getElem hi]
  rfl
theorem spansC_snoc (l : List Sp) (s : Sp) : spansC (l ++ [s]) = spansC l ++ spanC s := by simp [spansC]
end Go.Proofs.YtjckhhkhgjbpaaaGreatDoor

/- Sets of numbers as words: what upTo, between, TrailingZeros64 and In give. -/
set_option maxRecDepth 100000
set_option linter.unusedSimpArgs false
set_option linter.unusedVariables false
namespace Go.Proofs.YtjckhhkhgjbpaaaGreatDoor
open Go Go.Proofs.YtjckhhkhgjbpaaaGreatDoor.Pale
variable {k : Nat} {σ : AMem}

theorem upTo_run {n : Nat} (hn : n ≤ 60) : pureRun (callN lawProg (k + 1)) (.func 209 [] []) [.int .i64 (n : Nat)] = some (.int .u64 ((upW n).toNat : Nat), true) := by
  have run : ∃ T1, execC lawProg (callN lawProg k) k 209 7 (bodyOf Tryz.f209) (initT 0 [.int .i64 (n : Nat)] .nil) AMem.empty = some (.ret, T1, AMem.empty) ∧ T1.get 2 = some (.int .u64 ((upW n).toNat : Nat)) := by
    have hw := i64_succ (i := n) (by omega)
    have h0 : ¬ ((n + 1 : Nat) : Int) < 0 := by omega
    have hu := upW_run n (by omega)
    simp only [bodyOf, Tryz.f209, Option.getD_some, initT, dx, reduceIte, zLt, zLe, zEq, zAd, zMu, zSu, zBe, yEq, yLt, yLe, yTn, reduceCtorEq, sx, fx209, hw, h0, hu]
    exact ⟨_, rfl, by simp only [Tr.get_set, zEq, reduceIte]⟩
  obtain ⟨T1, h1, h2⟩ := run
  exact pureRun_of fn209 rfl (by simp [Tryz.f209]) h1 (by simp) (res_one h2) rfl
theorem upTo_call {n : Nat} (hn : n ≤ 60) (hk : 1 ≤ k) : pureCall lawProg (callN lawProg k) (.func 209 [] []) [.int .i64 (n : Nat)] σ = some (.int .u64 ((upW n).toNat : Nat), σ) := by
  obtain ⟨k, rfl⟩ : ∃ m, k = m + 1 := ⟨k - 1, by omega⟩
  exact pureCall_of rfl (memo209 _) (upTo_run hn)

theorem between_run {f t : Nat} (hf : 1 ≤ f) (hf2 : f ≤ 60) (ht : t ≤ 60) : pureRun (callN lawProg (k + 2)) (.func 206 [] []) [.int .i64 (f : Nat), .int .i64 (t : Nat)] = some (.int .u64 ((betW f t).toNat : Nat), true) := by
  have run : ∃ T1, execC lawProg (callN lawProg (k + 1)) (k + 1) 206 11 (bodyOf Tryz.f206) (initT 0 [.int .i64 (f : Nat), .int .i64 (t : Nat)] .nil) AMem.empty = some (.ret, T1, AMem.empty) ∧ T1.get 4 = some (.int .u64 ((betW f t).toNat : Nat)) := by
    have hw : IntKind.i64.wrap (((f : Nat) : Int) - 1) = ((f - 1 : Nat) : Int) := by rw [i64_id (by omega) (by omega)]; omega
    have h1 := fun (σ : AMem) => upTo_call (k := k + 1) (σ := σ) ht (by omega)
    have h2 := fun (σ : AMem) => upTo_call (k := k + 1) (σ := σ) (n := f - 1) (by omega) (by omega)
    simp only [bodyOf, Tryz.f206, Option.getD_some, initT, dx, reduceIte, zLt, zLe, zEq, zAd, zMu, zSu, zBe, yEq, yLt, yLe, yTn, reduceCtorEq, sx, fx206, hw, h1, h2, u64_andNot]
    exact ⟨_, rfl, by simp only [Tr.get_set, zEq, reduceIte, betW]⟩
  obtain ⟨T1, h1, h2⟩ := run
  exact pureRun_of fn206 rfl (by simp [Tryz.f206]) h1 (by simp) (res_one h2) rfl
theorem between_call {f t : Nat} (hf : 1 ≤ f) (hf2 : f ≤ 60) (ht : t ≤ 60) (hk : 2 ≤ k) : pureCall lawProg (callN lawProg k) (.func 206 [] []) [.int .i64 (f : Nat), .int .i64 (t : Nat)] σ = some (.int .u64 ((betW f t).toNat : Nat), σ) := by
  obtain ⟨k, rfl⟩ : ∃ m, k = m + 2 := ⟨k - 2, by omega⟩
  exact pureCall_of rfl (memo206 _) (between_run hf hf2 ht)

/-! ### the lowest bit -/
def tabB : List Int := [0, 1, 56, 2, 57, 49, 28, 3, 61, 58, 42, 50, 38, 29, 17, 4, 62, 47, 59, 36, 45, 43, 51, 22, 53, 39, 33, 30, 24, 18, 12, 5, 63, 55, 48, 27, 60, 41, 37, 16, 46, 35, 44, 21, 52, 32, 23, 11, 54, 26, 40, 15, 34, 20, 31, 10, 25, 14, 19, 9, 13, 8, 7, 6]
theorem globB : lawProg.glob 0 = some (tabB.map fun i => AVal.int .u8 i) := by kernel_rfl
theorem tab_all : ∀ i, i < 64 → tabB[((BitVec.twoPow 64 i * 285870213051353865#64) >>> 58).toNat]? = some (i : Int) ∧ ((BitVec.twoPow 64 i * 285870213051353865#64) >>> 58).toNat < 64 := by decide +kernel
noncomputable def tzB : Code := bodyOf Tryz.f211
theorem tz_form : bodyOf Tryz.f211 = .seq (stmtC tzB 0) (.seq (.seq (stmtC tzB 1) (stmtC tzB 2)) (.seq (stmtC tzB 3) .ret)) := rfl
theorem tz_a {x0 : Int} {T : Tr AVal} (t0 : T.get 0 = some (.int .u64 x0)) : ∃ T1, execC lawProg (callN lawProg k) k 211 14 (stmtC tzB 0) T σ = some (.normal, T1, σ) ∧ T1.get 0 = some (.int .u64 x0) := by
  simp only [tzB, bodyOf, Tryz.f211, Option.getD_some, flatC, stmtC, List.append_assoc, dx, reduceIte, zLt, zLe, zEq, zAd, zMu, zSu, zBe, yEq, yLt, yLe, yTn, reduceCtorEq, sx, fx211]
  exact ⟨_, rfl, by simp only [Tr.get_set, zEq, reduceIte, t0]⟩
theorem tz_b {x0 : Int} {T : Tr AVal} (t0 : T.get 0 = some (.int .u64 x0)) (h0 : (x0 == 0) = false) : ∃ T1, execC lawProg (callN lawProg k) k 211 14 (.seq (stmtC tzB 1) (stmtC tzB 2)) T σ = some (.normal, T1, σ) ∧ T1.get 0 = some (.int .u64 x0) := by
  simp only [tzB, bodyOf, Tryz.f211, Option.getD_some, flatC, stmtC, List.append_assoc, dx, reduceIte, zLt, zLe, zEq, zAd, zMu, zSu, zBe, yEq, yLt, yLe, yTn, reduceCtorEq, sx, fx211, t0, h0]
  exact ⟨_, rfl, by simp only [Tr.get_set, zEq, reduceIte, t0]⟩
theorem tz_c {x0 xn xa xm : Int} {i j : Nat} {tab : List AVal} {T : Tr AVal} (t0 : T.get 0 = some (.int .u64 x0)) (hg : lawProg.glob 0 = some tab) (hn : IntKind.u64.wrap (0 - x0) = xn) (ha : IntKind.u64.wrap ((BitVec.ofInt IntKind.u64.bits x0 &&& BitVec.ofInt IntKind.u64.bits xn).toNat : Int) = xa) (hm : IntKind.u64.wrap (xa * 285870213051353865) = xm) (hs : xm.fdiv (2 ^ (min (58 : Int).toNat IntKind.u64.bits)) = (j : Nat)) (hj : ((j : Nat) : Int) < ((64 : Nat) : Int)) (hget : tab[j]? = some (.int .u8 (i : Nat))) (hw : IntKind.i64.wrap ((i : Nat) : Int) = ((i : Nat) : Int)) :
    ∃ T1, execC lawProg (callN lawProg k) k 211 14 (stmtC tzB 3) T σ = some (.normal, T1, σ) ∧ T1.get 2 = some (.int .i64 (i : Nat)) := by
  have h58 : ¬ (58 : Int) < 0 := by decide
  simp only [tzB, bodyOf, Tryz.f211, Option.getD_some, flatC, stmtC, List.append_assoc]
  simp only [List.getElem?_cons_zero, List.getElem?_cons_succ, List.cons_append, List.nil_append, Option.getD_some]
  generalize (285870213051353865 : Int) = C at hm ⊢
  generalize (58 : Int) = S at hs h58 ⊢
  simp only [dx, reduceIte, zLt, zLe, zEq, zAd, zMu, zSu, zBe, yEq, yLt, yLe, yTn, reduceCtorEq, sx, fx211, t0, hn, ha, hm, hs, h58, hg, hj, Int.natCast_nonneg, Int.toNat_natCast, hget, hw]
  exact ⟨_, rfl, by simp only [Tr.get_set, zEq, reduceIte]⟩
theorem tz_exec {x0 xn xa xm : Int} {i j : Nat} {tab : List AVal} (hg : lawProg.glob 0 = some tab) (h0 : (x0 == 0) = false) (hn : IntKind.u64.wrap (0 - x0) = xn) (ha : IntKind.u64.wrap ((BitVec.ofInt IntKind.u64.bits x0 &&& BitVec.ofInt IntKind.u64.bits xn).toNat : Int) = xa) (hm : IntKind.u64.wrap (xa * 285870213051353865) = xm) (hs : xm.fdiv (2 ^ (min (58 : Int).toNat IntKind.u64.bits)) = (j : Nat)) (hj : ((j : Nat) : Int) < ((64 : Nat) : Int)) (hget : tab[j]? = some (.int .u8 (i : Nat))) (hw : IntKind.i64.wrap ((i : Nat) : Int) = ((i : Nat) : Int)) :
    ∃ T1, execC lawProg (callN lawProg k) k 211 14 (bodyOf Tryz.f211) (initT 0 [.int .u64 x0] .nil) AMem.empty = some (.ret, T1, AMem.empty) ∧ T1.get 2 = some (.int .i64 (i : Nat)) := by
  obtain ⟨T1, a1, a0⟩ := tz_a (k := k) (σ := AMem.empty) (T := initT 0 [.int .u64 x0] .nil) (x0 := x0) rfl
  obtain ⟨T2, b1, b0⟩ := tz_b (k := k) (σ := AMem.empty) a0 h0
  obtain ⟨T3, c1, c0⟩ := tz_c (k := k) (σ := AMem.empty) b0 hg hn ha hm hs hj hget hw
  refine ⟨T3, ?_, c0⟩
  rw [tz_form, exec_seq a1, exec_seq b1, exec_seq c1, q_ret]
theorem tz_run {x : BitVec 64} {i : Nat} (h : Low x i) : pureRun (callN lawProg (k + 1)) (.func 211 [] []) [.int .u64 (x.toNat : Nat)] = some (.int .i64 (i : Nat), true) := by
  have h0 : (((x.toNat : Nat) : Int) == 0) = false := by
    rw [beq_eq_false_iff_ne]
    intro e
    apply low_ne h
    apply BitVec.eq_of_toNat_eq
    simp only [BitVec.toNat_ofNat]
    omega
  obtain ⟨htab, hlt⟩ := tab_all i h.1
  have hb : x &&& -x = BitVec.twoPow 64 i := low_bit h
  obtain ⟨y, hy⟩ : ∃ y, y = BitVec.twoPow 64 i := ⟨_, rfl⟩
  rw [← hy] at htab hlt hb
  have ha := u64_and x (-x)
  rw [hb] at ha
  obtain ⟨T1, h1, h2⟩ := tz_exec (k := k) globB h0 (u64_neg x) ha (u64_mul y 285870213051353865#64) (u64_shr (y * 285870213051353865#64) 58 (by omega)) (by omega) (by rw [List.getElem?_map, htab]; rfl) (i64_id (by omega) (by have := h.1; omega))
  exact pureRun_of fn211 rfl (by simp [Tryz.f211]) h1 (by simp) (res_one h2) rfl
theorem tz_call {x : BitVec 64} {i : Nat} (h : Low x i) (hk : 1 ≤ k) : pureCall lawProg (callN lawProg k) (.func 211 [] []) [.int .u64 (x.toNat : Nat)] σ = some (.int .i64 (i : Nat), σ) := by
  obtain ⟨k, rfl⟩ : ∃ m, k = m + 1 := ⟨k - 1, by omega⟩
  exact pureCall_of rfl (memo211 _) (tz_run h)
end Go.Proofs.YtjckhhkhgjbpaaaGreatDoor

/- Lists of spans: IsList, SameSpans and of. -/
set_option maxRecDepth 100000
set_option linter.unusedSimpArgs false
set_option linter.unusedVariables false
namespace Go.Proofs.YtjckhhkhgjbpaaaGreatDoor
open Go Go.Proofs.YtjckhhkhgjbpaaaGreatDoor.Pale
variable {k : Nat} {σ : AMem}

noncomputable def okB (l : List Sp) : Bool := @decide (OkSp l) (Classical.propDecidable _)
theorem okB_iff {l : List Sp} : okB l = true ↔ OkSp l := by unfold okB; simp
theorem okB_true {l : List Sp} (h : OkSp l) : okB l = true := okB_iff.2 h
theorem okB_false {l : List Sp} (h : ¬ OkSp l) : okB l = false := by rw [Bool.eq_false_iff]; exact fun e => h (okB_iff.1 e)
theorem ok_bad {l : List Sp} {i : Nat} (hi : i < l.length) (ok : OkSp (l.take i)) (h : ¬ (okS l[i] ∧ lastTo (l.take i) + 2 ≤ (l[i]).1)) : ¬ OkSp l := by
  intro hok
  have := ok_take hok (i + 1)
  rw [List.take_succ_eq_append_getElem hi] at this
  exact h ((ok_last ok _).1 this)

/-! ### lists that are the same -/
/-! ### of -/
def setW (l : List Sp) : BitVec 64 := l.foldl (fun x s => x ||| betW s.1.toNat s.2.toNat) 0#64
theorem setW_snoc (l : List Sp) (s : Sp) : setW (l ++ [s]) = setW l ||| betW s.1.toNat s.2.toNat := by simp [setW]
theorem setW_bit : ∀ n (l : List Sp), l.length = n → OkSp l → ∀ m : Nat, (setW l).getLsbD m = inSp l m := by
  intro n
  induction n with
  | zero =>
    intro l hl _ m
    obtain rfl := List.eq_nil_of_length_eq_zero hl
    simp [setW, inSp]
  | succ n ih =>
    intro l hl ok m
    rcases nil_or_snoc l with rfl | ⟨l, s, rfl⟩
    · simp at hl
    · have hs := ok.1 s (by simp)
      unfold okS at hs
      rw [setW_snoc, inSp_snoc, BitVec.getLsbD_or, ih l (by simpa using hl) (ok_app ok), betW_bit (by omega) (by omega) (by omega)]
      congr 1
      rw [Bool.eq_iff_iff]
      simp only [Bool.and_eq_true, decide_eq_true_eq]
      omega
noncomputable def ofW (l : List Sp) : Nat := if okB l then (setW l).toNat else 0
theorem of_call {x : AVal} {S : List Nat} {vk : VK} {l : List Sp} (hx : snapF false σ snapDepth x = some (.vs vk (spansV l), S)) (hn : l.length ≤ 1000) (hk : 2000 ≤ k) : pureCall lawProg (callN lawProg k) (.func 191 [] []) [x] σ = some (.tuple [.int .u64 (ofW l : Nat), .bool (okB l)], σ) := by
  obtain ⟨k, rfl⟩ : ∃ m, k = m + 1 := ⟨k - 1, by omega⟩
  have run : ∃ T1 σ1, execC lawProg (callN lawProg k) k 191 46 (bodyOf Tryz.f191) (initT 0 [.vs vk (spansV l)] .nil) AMem.empty = some (.ret, T1, σ1) ∧ T1.get 2 = some (.int .u64 (ofW l : Nat)) ∧ T1.get 3 = some (.bool (okB l)) := by
    simp only [bodyOf, Tryz.f191, Option.getD_some, initT, dx, reduceIte, zLt, zLe, zEq, zAd, zMu, zSu, zBe, yEq, yLt, yLe, yTn, reduceCtorEq, sx, fx191, spansV_length]
    generalize hL : execC _ _ _ _ _ (Code.loop _) _ _ = q
    obtain ⟨e, T', σ', rfl, _, hc⟩ : ∃ e T' σ', q = some (e, T', σ') ∧ e ≠ .normal ∧ ((e = .ret ∧ T'.get 2 = some (.int .u64 0) ∧ T'.get 3 = some (.bool false) ∧ ¬ OkSp l) ∨ (e = .exit 0 ∧ OkSp l ∧ T'.get 2 = some (.int .u64 ((setW l).toNat : Nat)))) := by
      rw [← hL]
      refine exec_loop2 (fun i T σ => i ≤ l.length ∧ T.get 7 = some (.vs vk (spansV l)) ∧ T.get 8 = some (.int .i64 (l.length : Nat)) ∧ T.get 4 = some (.int .i64 (lastTo (l.take i))) ∧ T.get 9 = some (.int .i64 (i : Nat)) ∧ T.get 2 = some (.int .u64 ((setW (l.take i)).toNat : Nat)) ∧ OkSp (l.take i)) l.length (by omega) ?_ ?_ ?_
      · rintro i hi T σ ⟨_, t7, t8, t4, t9, t2, ok⟩
        have hlt : (i : Int) < l.length := by omega
        have hw := i64_succ (i := i) (by omega)
        have hb := lastTo_bound ok
        have hbad := ok_bad hi ok
        have hgood := (ok_last ok l[i]).2
        have hlast := lastTo_snoc (l.take i) l[i]
        have hset := setW_snoc (l.take i) l[i]
        have hget := spansV_get hi
        rw [← List.take_succ_eq_append_getElem hi] at hgood hlast hset
        obtain ⟨at_, hat⟩ : ∃ a, a = lastTo (l.take i) := ⟨_, rfl⟩
        rw [← hat] at t4 hb hbad hgood
        unfold okS at hbad hgood
        generalize hs : l[i] = s at hbad hgood hlast hget hset
        obtain ⟨f, t⟩ := s
        simp only at hbad hgood hlast hget hset
        by_cases c1 : f < 1
        · refine .inr ⟨_, _, _, by
            simp only [dx, reduceIte, zLt, zLe, zEq, zAd, zMu, zSu, zBe, yEq, yLt, yLe, yTn, reduceCtorEq, sx, fx191, t7, t8, t4, t9, t2, hlt, spansV_length, Int.natCast_nonneg, Int.toNat_natCast, hget, c1]
            rfl, by simp, .inl ⟨rfl, ?_, ?_, hbad (by omega)⟩⟩
          · simp only [Tr.get_set, zEq, reduceIte]
          · simp only [Tr.get_set, zEq, reduceIte]
        · by_cases c2 : t < f
          · refine .inr ⟨_, _, _, by
              simp only [dx, reduceIte, zLt, zLe, zEq, zAd, zMu, zSu, zBe, yEq, yLt, yLe, yTn, reduceCtorEq, sx, fx191, t7, t8, t4, t9, t2, hlt, spansV_length, Int.natCast_nonneg, Int.toNat_natCast, hget, c1, c2]
              rfl, by simp, .inl ⟨rfl, ?_, ?_, hbad (by omega)⟩⟩
            · simp only [Tr.get_set, zEq, reduceIte]
            · simp only [Tr.get_set, zEq, reduceIte]
          · by_cases c3 : t > 60
            · refine .inr ⟨_, _, _, by
                simp only [dx, reduceIte, zLt, zLe, zEq, zAd, zMu, zSu, zBe, yEq, yLt, yLe, yTn, reduceCtorEq, sx, fx191, t7, t8, t4, t9, t2, hlt, spansV_length, Int.natCast_nonneg, Int.toNat_natCast, hget, c1, c2, c3]
                rfl, by simp, .inl ⟨rfl, ?_, ?_, hbad (by omega)⟩⟩
              · simp only [Tr.get_set, zEq, reduceIte]
              · simp only [Tr.get_set, zEq, reduceIte]
            · have hwa : IntKind.i64.wrap (f - at_) = f - at_ := i64_id (by omega) (by omega)
              by_cases c4 : f - at_ < 2
              · refine .inr ⟨_, _, _, by
                  simp only [dx, reduceIte, zLt, zLe, zEq, zAd, zMu, zSu, zBe, yEq, yLt, yLe, yTn, reduceCtorEq, sx, fx191, t7, t8, t4, t9, t2, hlt, spansV_length, Int.natCast_nonneg, Int.toNat_natCast, hget, c1, c2, c3, hwa, c4]
                  rfl, by simp, .inl ⟨rfl, ?_, ?_, hbad (by omega)⟩⟩
                · simp only [Tr.get_set, zEq, reduceIte]
                · simp only [Tr.get_set, zEq, reduceIte]
              · have hbt := fun (σ : AMem) => between_call (k := k) (σ := σ) (f := f.toNat) (t := t.toNat) (by omega) (by omega) (by omega) (by omega)
                rw [show ((f.toNat : Nat) : Int) = f by omega, show ((t.toNat : Nat) : Int) = t by omega] at hbt
                refine .inl ⟨_, _, by
                  simp only [dx, reduceIte, zLt, zLe, zEq, zAd, zMu, zSu, zBe, yEq, yLt, yLe, yTn, reduceCtorEq, sx, fx191, t7, t8, t4, t9, t2, hlt, spansV_length, Int.natCast_nonneg, Int.toNat_natCast, hget, c1, c2, c3, hwa, c4, hbt, u64_or, hw]
                  rfl, by omega, ?_, ?_, ?_, ?_, ?_, hgood (by omega)⟩
                · simp only [Tr.get_set, zEq, reduceIte, t7]
                · simp only [Tr.get_set, zEq, reduceIte, t8]
                · simp only [Tr.get_set, zEq, reduceIte, hlast]
                · simp only [Tr.get_set, zEq, reduceIte]
                · simp only [Tr.get_set, zEq, reduceIte, hset]
      · rintro T σ ⟨_, t7, t8, t4, t9, t2, ok⟩
        have hge : ¬ (((l.length : Nat) : Int) < ((l.length : Nat) : Int)) := by omega
        rw [List.take_length] at ok t2
        refine ⟨_, _, _, by
          simp only [dx, reduceIte, zLt, zLe, zEq, zAd, zMu, zSu, zBe, yEq, yLt, yLe, yTn, reduceCtorEq, sx, fx191, t8, t9, spansV_length, hge]
          rfl, by simp, .inr ⟨rfl, ok, ?_⟩⟩
        simp only [Tr.get_set, zEq, reduceIte, t2]
      · refine ⟨Nat.zero_le _, ?_, ?_, ?_, ?_, ?_, OkSp.nil⟩
        · simp only [Tr.get_set, zEq, reduceIte]
        · simp only [Tr.get_set, zEq, reduceIte]
        · simp only [Tr.get_set, zEq, reduceIte]; rfl
        · simp only [Tr.get_set, zEq, reduceIte]; rfl
        · simp only [Tr.get_set, zEq, reduceIte]; rfl
    rcases hc with ⟨rfl, h2, h3, hbad⟩ | ⟨rfl, ok, h2⟩
    · simp only [dx, reduceIte, zLt, zLe, zEq, zAd, zMu, zSu, zBe, yEq, yLt, yLe, yTn, reduceCtorEq, sx, fx191]
      exact ⟨_, _, rfl, by rw [h2, ofW, okB_false hbad]; rfl, by rw [h3, okB_false hbad]⟩
    · simp only [dx, reduceIte, zLt, zLe, zEq, zAd, zMu, zSu, zBe, yEq, yLt, yLe, yTn, reduceCtorEq, sx, fx191, h2]
      exact ⟨_, _, rfl, by rw [ofW, okB_true ok]; simp only [Tr.get_set, zEq, reduceIte], by rw [okB_true ok]; simp only [Tr.get_set, zEq, reduceIte]⟩
  obtain ⟨T1, σ1, h1, h2, h3⟩ := run
  have hs : snapL (snapF false σ snapDepth) [x] = some ([.vs vk (spansV l)], S ++ []) := by
    simp only [snapL, hx]
  exact pureCall_of hs (memo191 _) (pureRun_of fn191 rfl (by simp [Tryz.f191]) h1 (by simp) (res_two h2 h3) rfl)
end Go.Proofs.YtjckhhkhgjbpaaaGreatDoor

/- Lists of spans and their sets: Set and List. -/
set_option maxRecDepth 100000
set_option linter.unusedSimpArgs false
set_option linter.unusedVariables false
namespace Go.Proofs.YtjckhhkhgjbpaaaGreatDoor
open Go Go.Proofs.YtjckhhkhgjbpaaaGreatDoor.Pale
variable {k : Nat} {σ : AMem}

/-! ### the list of a set -/
theorem snapL_spans (fr : Bool) (σ : AMem) (d : Nat) (l : List Sp) : snapL (snapF fr σ (d + 1)) (spansC l) = some (spansC l, []) := by
  induction l with
  | nil => rfl
  | cons s l ih =>
    have : spansC (s :: l) = spanC s ++ spansC l := rfl
    rw [this]
    exact snapL_append (a := spanC s) rfl ih
/-- A list of spans that grew from nothing. -/
def GrewS (low : Nat) (σ : AMem) (out : AVal) (l : List Sp) : Prop := Grew low σ 2 true out l.length (spansC l) ∧ (l = [] → out = .vs .nil [])
theorem snap_spans {fr : Bool} {σ : AMem} {low d : Nat} {out : AVal} {l : List Sp} (h : GrewS low σ out l) : ∃ S, snapF fr σ (d + 2) out = some (.vs (lkOf l.length) (spansV l), S) := by
  by_cases h0 : l = []
  · obtain rfl := h.2 h0
    subst h0
    exact ⟨[], by cases fr <;> rfl⟩
  · rcases h.1.2 with ⟨h1, rfl⟩ | ⟨r, _, _, rfl, hg⟩
    · exact absurd (List.eq_nil_of_length_eq_zero h1) h0
    · refine ⟨r :: [], ?_⟩
      have := snap_structs (fr := fr) (σ := σ) (d := d) (r := r) (n := l.length) (cap := none) (sz := 2) (ls := l.map spanC) (ps := l.map spanC) (S := []) (by omega) (by simp) rfl (fun x hx => by obtain ⟨s, _, rfl⟩ := List.mem_map.1 hx; rfl) (fun x hx => by obtain ⟨s, _, rfl⟩ := List.mem_map.1 hx; rfl) hg (snapL_spans fr σ d l)
      rw [this, lkOf, if_neg (fun h => h0 (List.eq_nil_of_length_eq_zero h)), spansV, List.map_map]
      rfl
theorem grew_span {low j : Nat} {out : AVal} {cells : List AVal} (f t : Int) (h : Grew low σ 2 true out j cells) (hlow : low ≤ σ.next) (hj : j ≤ 1000) : ∃ σ', appendA (⟨.struct [(0, 3), (1, 3)], 2, 16, [.int .i64 0, .int .i64 0]⟩ : TyI) (σ.push (.row 2 true [.int .i64 f, .int .i64 t])) out (.slice σ.next 0 1 (some 1) 2) = some (.slice (σ.next + 1) 0 (j + 1) none 2, σ') ∧ Grew low σ' 2 true (.slice (σ.next + 1) 0 (j + 1) none 2) (j + 1) (cells ++ [.int .i64 f, .int .i64 t]) ∧ σ'.next = σ.next + 2 ∧ (∀ s, s < low → σ'.get s = σ.get s) := by
  obtain ⟨σ', a1, a2, a3, a4, _⟩ := Grew.one (e := (⟨.struct [(0, 3), (1, 3)], 2, 16, [.int .i64 0, .int .i64 0]⟩ : TyI)) (xs := [.int .i64 f, .int .i64 t]) h hlow rfl (by decide) (by decide) (by decide) (by simp only [mostBytes]; omega) rfl
  exact ⟨σ', a1, a2, a3, a4⟩
end Go.Proofs.YtjckhhkhgjbpaaaGreatDoor

/- The list of a word: union, by its loop over each. -/
set_option maxRecDepth 100000
set_option linter.unusedSimpArgs false
set_option linter.unusedVariables false
namespace Go.Proofs.YtjckhhkhgjbpaaaGreatDoor
open Go Go.Proofs.YtjckhhkhgjbpaaaGreatDoor.Pale
variable {k : Nat} {σ : AMem}

theorem round_of2 {A : AProg} {call : CallA} {l : Nat} {r : ALoop} {args : List AVal} {T1 T2 : Tr AVal} {σ1 σ2 : AMem} (hl : σ.get l = some (.loop r)) (hst : r.state = .ready) (hn : args.length = r.params.length) (hN : r.params.all (· < r.N) = true)
    (ha : execC A call k r.fn r.N r.assign (setParams r.T r.params args) σ = some (.normal, T1, σ1)) (hl1 : σ1.get l = some (.loop r)) (hb : execC A call k r.fn r.N r.body T1 (σ1.put l (.loop (busyOf r))) = some (.normal, T2, σ2)) {r2 : ALoop} (h2 : σ2.get l = some (.loop r2)) :
    roundA A call k l args σ = some (.bool true, σ2.put l (.loop { r2 with state := .ready, pending := none })) := by
  unfold busyOf at hb
  simp only [roundA, hl, hn, hN, decide_true, Bool.and_self, if_true, ha, hl1, hst, hb, h2]
noncomputable def loopU (T0 : Tr AVal) : ALoop := rfLoop Tryz.f192 192 T0
/-- What stands in memory while union runs. -/
def UMem (T0 : Tr AVal) (y : BitVec 64) (l : List Sp) (σ : AMem) : Prop := (∃ out, σ.get 1 = some (.row 1 false [out]) ∧ GrewS 4 σ out l) ∧ σ.get 2 = some (.row 1 false [.int .u64 (y.toNat : Nat)]) ∧ σ.get 3 = some (.loop (loopU T0)) ∧ 4 ≤ σ.next
theorem GrewS.same {low : Nat} {σ σ' : AMem} {out : AVal} {l : List Sp} (h : GrewS low σ out l) (hn : σ.next ≤ σ'.next) (hs : ∀ r, low ≤ r → r < σ.next → σ'.get r = σ.get r) : GrewS low σ' out l := by
  refine ⟨⟨h.1.1, ?_⟩, h.2⟩
  rcases h.1.2 with h | ⟨r, h6, h7, h8, h9⟩
  · exact .inl h
  · exact .inr ⟨r, h6, by omega, h8, by rw [hs r h6 h7]; exact h9⟩
theorem GrewS.one {low : Nat} {σ : AMem} {out : AVal} {l : List Sp} (h : GrewS low σ out l) : out.oneCell = true := by
  rcases h.1.2 with ⟨_, rfl⟩ | ⟨r, _, _, rfl, _⟩ <;> rfl
theorem union_round {T0 : Tr AVal} {y : BitVec 64} {l : List Sp} {f t : Int} (hT2 : T0.get 2 = some (.ptr 1 0)) (h : UMem T0 y l σ) (hl : l.length ≤ 1000) : ∃ σ', roundA lawProg (callN lawProg k) k 3 [.agg [.int .i64 f, .int .i64 t]] σ = some (.bool true, σ') ∧ UMem T0 y (l ++ [(f, t)]) σ' := by
  obtain ⟨⟨out, m1, mg⟩, m2, m3, m4⟩ := h
  obtain ⟨c, hc⟩ : ∃ c, c = σ.next := ⟨_, rfl⟩
  obtain ⟨B, hB⟩ : ∃ B, B = busyOf (loopU T0) := ⟨_, rfl⟩
  obtain ⟨σ1, hσ1⟩ : ∃ s, s = (σ.push (.row 2 true [.int .i64 0, .int .i64 0])).put σ.next (.row 2 true [.int .i64 f, .int .i64 t]) := ⟨_, rfl⟩
  have g1 : ∀ r, r < c → σ1.get r = σ.get r := fun r hr => by rw [hσ1, AMem.get_put, if_neg (by omega), AMem.get_push, if_neg (by omega)]
  have gc : σ1.get c = some (.row 2 true [.int .i64 f, .int .i64 t]) := by rw [hσ1, hc, AMem.get_put, if_pos rfl]
  have hn1 : σ1.next = c + 1 := by rw [hσ1, hc]; simp
  have ha : ∃ T1, execC lawProg (callN lawProg k) k 192 25 (loopU T0).assign (setParams T0 (loopU T0).params [.agg [.int .i64 f, .int .i64 t]]) σ = some (.normal, T1, σ1) ∧ T1.get 2 = some (.ptr 1 0) ∧ T1.get 6 = some (.ptr c 0) := by
    rw [hσ1, hc]
    simp only [loopU, rfLoop, bodyOf, Tryz.f192, Option.getD_some, rfOf]
    simp only [dx, reduceIte, zLt, zLe, zEq, zAd, zMu, zSu, zBe, yEq, yLt, yLe, yTn, reduceCtorEq, sx, fx192]
    exact ⟨_, rfl, by simp only [Tr.get_set, zEq, reduceIte, hT2], by simp only [Tr.get_set, zEq, reduceIte]⟩
  obtain ⟨T1, ha, u2, u6⟩ := ha
  obtain ⟨σb, hσb⟩ : ∃ s, s = σ1.put 3 (.loop B) := ⟨_, rfl⟩
  have b1 : σb.get 1 = some (.row 1 false [out]) := by rw [hσb, AMem.get_put, if_neg (by omega), g1 1 (by omega)]; exact m1
  have bc : σb.get c = some (.row 2 true [.int .i64 f, .int .i64 t]) := by rw [hσb, AMem.get_put, if_neg (by omega)]; exact gc
  have bn : σb.next = c + 1 := by rw [hσb]; simpa using hn1
  have bg : GrewS 4 σb out l := mg.same (by omega) fun r h1 h2 => by rw [hσb, AMem.get_put, if_neg (by omega), g1 r (by omega)]
  obtain ⟨σ2, a1, a2, a3, a4⟩ := grew_span f t bg.1 (by omega) hl
  have b1' : σ2.get 1 = some (.row 1 false [out]) := by rw [a4 1 (by omega)]; exact b1
  have b2' : σ2.get 2 = some (.row 1 false [.int .u64 (y.toNat : Nat)]) := by rw [a4 2 (by omega), hσb, AMem.get_put, if_neg (by omega), g1 2 (by omega)]; exact m2
  have b3' : σ2.get 3 = some (.loop B) := by rw [a4 3 (by omega), hσb, AMem.get_put, if_pos rfl]
  have hone := cells_one bg.one
  have hb : ∃ T2, execC lawProg (callN lawProg k) k 192 25 (loopU T0).body T1 σb = some (.normal, T2, σ2.put 1 (.row 1 false [.slice (σb.next + 1) 0 (l.length + 1) none 2])) := by
    simp only [loopU, rfLoop, bodyOf, Tryz.f192, Option.getD_some, rfOf]
    simp only [dx, reduceIte, zLt, zLe, zEq, zAd, zMu, zSu, zBe, yEq, yLt, yLe, yTn, reduceCtorEq, sx, fx192, u2, u6, b1, bc, bg.one, hone, a1, b1']
    exact ⟨_, rfl⟩
  obtain ⟨T2, hb⟩ := hb
  have key := round_of2 (A := lawProg) (call := callN lawProg k) (k := k) (σ := σ) (l := 3) (r := loopU T0) (args := [.agg [.int .i64 f, .int .i64 t]]) (T1 := T1) (T2 := T2) (σ1 := σ1) m3 rfl rfl rfl ha (by rw [g1 3 (by omega)]; exact m3) (by rw [← hB, ← hσb]; exact hb) (r2 := B) (by rw [AMem.get_put, if_neg (by omega)]; exact b3')
  rw [hB] at key
  refine ⟨_, key, ⟨.slice (σb.next + 1) 0 (l.length + 1) none 2, by rw [AMem.get_put, if_neg (by omega), AMem.get_put, if_pos rfl], ⟨?_, fun h => by simp at h⟩⟩, by rw [AMem.get_put, if_neg (by omega), AMem.get_put, if_neg (by omega)]; exact b2', by rw [AMem.get_put, if_pos rfl]; rfl, by simp only [AMem.next_put]; omega⟩
  have e : (l ++ [(f, t)]).length = l.length + 1 := by simp
  rw [spansC_snoc, e]
  rcases a2.2 with ⟨h, _⟩ | ⟨r, h6, h7, h8, h9⟩
  · omega
  · exact ⟨a2.1, .inr ⟨r, h6, by simpa using h7, h8, by rw [AMem.get_put, if_neg (by omega), AMem.get_put, if_neg (by omega)]; exact h9⟩⟩
theorem ok_len : ∀ n (l : List Sp), l.length = n → OkSp l → 2 * (l.length : Int) ≤ lastTo l + 1 := by
  intro n
  induction n with
  | zero =>
    intro l hl _
    obtain rfl := List.eq_nil_of_length_eq_zero hl
    simp [lastTo]
  | succ n ih =>
    intro l hl ok
    rcases nil_or_snoc l with rfl | ⟨l, s, rfl⟩
    · simp at hl
    · have h0 := ok_app ok
      have h1 := (ok_last h0 s).1 ok
      have h2 := ih l (by simpa using hl) h0
      have h3 := h1.1
      unfold okS at h3
      rw [lastTo_snoc]
      simp only [List.length_append, List.length_singleton]
      omega
/-- The next span of a word. -/
theorem next_span {y : BitVec 64} {f : Nat} (h : Low y f) (hb : ∀ m, y.getLsbD m = true → m ≤ 60) : ∃ g, Low (~~~(y >>> f)) g ∧ 1 ≤ g ∧ f + g ≤ 61 ∧ (∀ m, f ≤ m → m < f + g → y.getLsbD m = true) ∧ y.getLsbD (f + g) = false := by
  have hf := hb f h.2.1
  have h61 : y.getLsbD 61 = false := by
    rw [Bool.eq_false_iff]
    intro e
    have := hb 61 e
    omega
  have bit : ∀ j, j < 64 → (~~~(y >>> f)).getLsbD j = !(y.getLsbD (f + j)) := fun j hj => by
    rw [BitVec.getLsbD_not, BitVec.getLsbD_ushiftRight]
    simp [hj]
  obtain ⟨g, hg⟩ := low_get (x := ~~~(y >>> f)) (fun e => by
    have := bit (61 - f) (by omega)
    rw [e, show f + (61 - f) = 61 by omega, h61] at this
    simp at this)
  have h1 : y.getLsbD (f + g) = false := by
    have := bit g hg.1
    rw [hg.2.1] at this
    simpa using this.symm
  have h2 : ∀ m, f ≤ m → m < f + g → y.getLsbD m = true := fun m h3 h4 => by
    have := bit (m - f) (by have := hg.1; omega)
    rw [hg.2.2 (m - f) (by omega), show f + (m - f) = m by omega] at this
    simpa using this.symm
  refine ⟨g, hg, ?_, ?_, h2, h1⟩
  · rcases Nat.eq_zero_or_pos g with e | e
    · subst e
      rw [Nat.add_zero, h.2.1] at h1
      cases h1
    · exact e
  · apply Classical.byContradiction
    intro hc
    have := h2 61 (by omega) (by omega)
    rw [h61] at this
    cases this
theorem each_call {T0 : Tr AVal} {x : BitVec 64} (hT2 : T0.get 2 = some (.ptr 1 0)) (h : UMem T0 x [] σ) (hb : ∀ m, x.getLsbD m = true → 1 ≤ m ∧ m ≤ 60) (hk : 1000 ≤ k) :
    ∃ σ', callN lawProg k (.func 210 [] [.ptr 2 0]) [.yield 3] σ = some (.tuple [], σ') ∧ UMem T0 0#64 (spansOf x.getLsbD) σ' := by
  obtain ⟨k, rfl⟩ : ∃ m, k = m + 2 := ⟨k - 2, by omega⟩
  have run : ∃ T1 σ1, execC lawProg (callN lawProg (k + 1)) (k + 1) 210 28 (bodyOf Tryz.f210) (initT 0 [.yield 3, .ptr 2 0] .nil) σ = some (.normal, T1, σ1) ∧ UMem T0 0#64 (spansOf x.getLsbD) σ1 := by
    simp only [bodyOf, Tryz.f210, Option.getD_some, initT, dx, reduceIte, zLt, zLe, zEq, zAd, zMu, zSu, zBe, yEq, yLt, yLe, yTn, reduceCtorEq, sx, fx210]
    generalize hL : execC _ _ _ _ _ (Code.loop _) _ _ = q
    obtain ⟨e, T', σ', rfl, _, rfl, hR⟩ : ∃ e T' σ', q = some (e, T', σ') ∧ e ≠ .normal ∧ (e = .exit 0 ∧ UMem T0 0#64 (spansOf x.getLsbD) σ') := by
      rw [← hL]
      have stop : ∀ (T : Tr AVal) (σ : AMem) (l : List Sp), T.get 1 = some (.ptr 2 0) → UMem T0 0#64 l σ → OkSp l → (∀ m : Nat, x.getLsbD m = (inSp l m || (0#64).getLsbD m)) → ∃ e T' σ', execC lawProg (callN lawProg (k + 1)) (k + 1) 210 28 (innerC (innerC (bodyOf Tryz.f210))) T σ = some (e, T', σ') ∧ e ≠ .normal ∧ (e = .exit 0 ∧ UMem T0 0#64 (spansOf x.getLsbD) σ') := by
        intro T σ l t1 hm ok hbit
        have e0 : l = spansOf x.getLsbD := spansOf_eq ok fun m _ _ => by rw [hbit]; simp
        subst e0
        have m2 := hm.2.1
        refine ⟨_, _, _, by
          simp only [bodyOf, Tryz.f210, Option.getD_some, innerC, dx, reduceIte, zLt, zLe, zEq, zAd, zMu, zSu, zBe, yEq, yLt, yLe, yTn, reduceCtorEq, sx, fx210, t1, m2, show (((0#64).toNat : Int) != 0) = false from rfl]
          rfl, by simp, rfl, hm⟩
      refine exec_loop2 (fun i T σ => T.get 0 = some (.yield 3) ∧ T.get 1 = some (.ptr 2 0) ∧ ∃ y l, l.length = i ∧ UMem T0 y l σ ∧ OkSp l ∧ (∀ m : Nat, x.getLsbD m = (inSp l m || y.getLsbD m)) ∧ ∀ m : Nat, y.getLsbD m = true → lastTo l + 2 ≤ m ∧ 1 ≤ m ∧ m ≤ 60) 40 (by omega) ?_ ?_ ?_
      · rintro i hi T σ1 ⟨t0, t1, y, l, hlen, hm, ok, hbit, hy⟩
        by_cases h0 : y = 0#64
        · subst h0
          exact .inr (stop T σ1 l t1 hm ok hbit)
        · obtain ⟨f, hf⟩ := low_get h0
          have hfb := hy f hf.2.1
          obtain ⟨g, hg, g1, g2, g3, g4⟩ := next_span hf fun m hm => (hy m hm).2.2
          have m2 := hm.2.1
          have hne : (((y.toNat : Nat) : Int) != 0) = true := by
            rw [bne_iff_ne]
            intro e
            apply h0
            apply BitVec.eq_of_toNat_eq
            simp only [BitVec.toNat_ofNat]
            omega
          have z1 := fun (σ : AMem) => tz_call (k := k + 1) (σ := σ) hf (by omega)
          have z2 := fun (σ : AMem) => tz_call (k := k + 1) (σ := σ) hg (by omega)
          have hshr : ((y.toNat : Nat) : Int).fdiv (2 ^ (min f IntKind.u64.bits)) = ((y >>> f).toNat : Int) := u64_shr y f (by have := hf.1; omega)
          have hf0 : ¬ ((f : Nat) : Int) < 0 := by omega
          have hw1 : IntKind.i64.wrap (((f : Nat) : Int) + ((g : Nat) : Int)) = ((f + g : Nat) : Int) := by rw [i64_id (by omega) (by omega)]; omega
          have hw2 : IntKind.i64.wrap (((f + g : Nat) : Int) - 1) = ((f + g - 1 : Nat) : Int) := by rw [i64_id (by omega) (by omega)]; omega
          obtain ⟨σ2, hround, hm2⟩ := union_round (k := k) (f := ((f : Nat) : Int)) (t := ((f + g - 1 : Nat) : Int)) hT2 hm (by omega)
          have hyield : callN lawProg (k + 1) (.yield 3) [.agg [.int .i64 ((f : Nat) : Int), .int .i64 ((f + g - 1 : Nat) : Int)]] σ1 = some (.bool true, σ2) := by simp only [callN]; exact hround
          have n2 := hm2.2.1
          have hbt := fun (σ : AMem) => between_call (k := k + 1) (σ := σ) (f := f) (t := f + g - 1) (by omega) (by omega) (by omega) (by omega)
          refine .inl ⟨_, _, by
            simp only [dx, reduceIte, zLt, zLe, zEq, zAd, zMu, zSu, zBe, yEq, yLt, yLe, yTn, reduceCtorEq, sx, fx210, t0, t1, m2, hne, z1, hshr, hf0, u64_not, z2, hw1, hw2, Int.toNat_natCast]
            simp only [hyield, dx, reduceIte, zLt, zLe, zEq, zAd, zMu, zSu, zBe, yEq, yLt, yLe, yTn, reduceCtorEq, sx, fx210, t1, n2, hbt, u64_andNot]
            rfl, ?_, ?_, y &&& ~~~(betW f (f + g - 1)), l ++ [(((f : Nat) : Int), ((f + g - 1 : Nat) : Int))], by simp [hlen], ?_, ?_, ?_, ?_⟩
          · simp only [Tr.get_set, zEq, reduceIte, t0]
          · simp only [Tr.get_set, zEq, reduceIte, t1]
          · obtain ⟨⟨out, a1, a2⟩, _, a3, a4⟩ := hm2
            exact ⟨⟨out, by rw [AMem.get_put, if_neg (by omega)]; exact a1, a2.same (by simp) fun r h1 h2 => by rw [AMem.get_put, if_neg (by omega)]⟩, by rw [AMem.get_put, if_pos rfl], by rw [AMem.get_put, if_neg (by omega)]; exact a3, by simpa using a4⟩
          · exact (ok_last ok _).2 ⟨⟨by simp only; omega, by simp only; omega, by simp only; omega⟩, by simp only; omega⟩
          · intro m
            rw [inSp_snoc, hbit, Bool.or_assoc]
            congr 1
            rw [BitVec.getLsbD_and, BitVec.getLsbD_not, betW_bit (by omega) (by omega) (by omega)]
            by_cases hin : f ≤ m ∧ m ≤ f + g - 1
            · rw [g3 m hin.1 (by omega)]
              simp only [Bool.true_eq, Bool.or_eq_true, Bool.and_eq_true, decide_eq_true_eq]
              left
              omega
            · have e1 : (decide (((f : Nat) : Int) ≤ ((m : Nat) : Int)) && decide (((m : Nat) : Int) ≤ ((f + g - 1 : Nat) : Int))) = false := by
                rw [Bool.eq_false_iff]
                simp only [ne_eq, Bool.and_eq_true, decide_eq_true_eq]
                omega
              have e2 : (decide (f ≤ m) && decide (m ≤ f + g - 1)) = false := by
                rw [Bool.eq_false_iff]
                simp only [ne_eq, Bool.and_eq_true, decide_eq_true_eq]
                omega
              rw [e1, e2]
              cases hym : y.getLsbD m with
              | false => simp
              | true =>
                have := hy m hym
                simp
                omega
          · intro m hm3
            rw [BitVec.getLsbD_and, BitVec.getLsbD_not, betW_bit (by omega) (by omega) (by omega)] at hm3
            simp only [Bool.and_eq_true, Bool.not_eq_true', decide_eq_true_eq, Bool.and_eq_false_iff, decide_eq_false_iff_not] at hm3
            obtain ⟨hym, _, hout⟩ := hm3
            have hb2 := hy m hym
            have hfm : f ≤ m := by
              apply Classical.byContradiction
              intro hc
              rw [hf.2.2 m (by omega)] at hym
              cases hym
            have hne2 : m ≠ f + g := by
              rintro rfl
              rw [g4] at hym
              cases hym
            rw [lastTo_snoc]
            simp only
            omega
      · rintro T σ1 ⟨t0, t1, y, l, hlen, hm, ok, hbit, hy⟩
        exfalso
        have h1 := ok_len 40 l hlen ok
        have h2 := (lastTo_bound ok).2.2
        omega
      · refine ⟨?_, ?_, x, [], rfl, h, OkSp.nil, fun m => by simp [inSp], fun m hm => ?_⟩
        · simp only [Tr.get_set, zEq, reduceIte]
        · simp only [Tr.get_set, zEq, reduceIte]
        · have := hb m hm
          simp only [lastTo, List.getLast?_nil, Option.map_none, Option.getD_none]
          omega
    simp only [dx, reduceIte, zLt, zLe, zEq, zAd, zMu, zSu, zBe, yEq, yLt, yLe, yTn, reduceCtorEq, sx, fx210]
    exact ⟨_, _, rfl, hR⟩
  obtain ⟨T1, σ1, h2, h3⟩ := run
  exact ⟨σ1, q_call (first := []) (vs := []) fn210 rfl (by simp [Tryz.f210]) h2 (by simp) rfl, h3⟩
end Go.Proofs.YtjckhhkhgjbpaaaGreatDoor

/- The unions and what is lacking: the program's and the reference's. -/
set_option maxRecDepth 100000
set_option linter.unusedSimpArgs false
set_option linter.unusedVariables false
namespace Go.Proofs.YtjckhhkhgjbpaaaGreatDoor
open Go Go.Proofs.YtjckhhkhgjbpaaaGreatDoor.Pale
variable {k : Nat} {σ : AMem}

def wV (w : BitVec 64) : AVal := .int .u64 (w.toNat : Nat)
def orW (ws : List (BitVec 64)) : BitVec 64 := ws.foldl (· ||| ·) 0#64
theorem orW_snoc (ws : List (BitVec 64)) (w : BitVec 64) : orW (ws ++ [w]) = orW ws ||| w := by simp [orW]
theorem wV_get {ws : List (BitVec 64)} {i : Nat} (hi : i < ws.length) : (ws.map wV)[i]? = some (.int .u64 ((ws[i]).toNat : Nat)) := by
  rw [List.getElem?_map, List.getElem?_eq_getElem hi]
  rfl
theorem each_make (x : BitVec 64) (hk : 1 ≤ k) : callN lawProg k (.func 207 [] []) [.int .u64 (x.toNat : Nat)] σ = some (.func 210 [] [.ptr σ.next 0], σ.push (.row 1 false [.int .u64 (x.toNat : Nat)])) := by
  obtain ⟨k, rfl⟩ : ∃ m, k = m + 1 := ⟨k - 1, by omega⟩
  have run : ∃ T1, execC lawProg (callN lawProg k) k 207 4 (bodyOf Tryz.f207) (initT 0 [.int .u64 (x.toNat : Nat)] .nil) σ = some (.ret, T1, σ.push (.row 1 false [.int .u64 (x.toNat : Nat)])) ∧ T1.get 2 = some (.func 210 [] [.ptr σ.next 0]) := by
    simp only [bodyOf, Tryz.f207, Option.getD_some, initT, dx, reduceIte, zLt, zLe, zEq, zAd, zMu, zSu, zBe, yEq, yLt, yLe, yTn, reduceCtorEq, sx, fx207]
    exact ⟨_, rfl, by simp only [Tr.get_set, zEq, reduceIte]⟩
  obtain ⟨T1, h2, h3⟩ := run
  exact q_call (first := []) (caps := []) fn207 rfl (by simp [Tryz.f207]) h2 (by simp) (res_one h3)
theorem union_exec {ws : List (BitVec 64)} (h0 : σ.get 0 = some (.row 1 false (ws.map wV))) (hn : σ.next = 1) (hlen : ws.length ≤ 10) (hb : ∀ m, (orW ws).getLsbD m = true → 1 ≤ m ∧ m ≤ 60) (hk : 2000 ≤ k) : ∃ out σ', callN lawProg (k + 1) (.func 192 [] []) [.slice 0 0 ws.length (some ws.length) 1] σ = some (out, σ') ∧ GrewS 4 σ' out (spansOf (orW ws).getLsbD) := by
  have run : ∃ T1 σ1 out, execC lawProg (callN lawProg k) k 192 25 (bodyOf Tryz.f192) (initT 0 [.slice 0 0 ws.length (some ws.length) 1] .nil) σ = some (.ret, T1, σ1) ∧ resultsA lawProg T1 σ1 Tryz.f192.results.toList = some [out] ∧ GrewS 4 σ1 out (spansOf (orW ws).getLsbD) := by
    simp only [bodyOf, Tryz.f192, Option.getD_some, initT, dx, reduceIte, zLt, zLe, zEq, zAd, zMu, zSu, zBe, yEq, yLt, yLe, yTn, reduceCtorEq, sx, fx192, hn]
    generalize hL : execC _ _ _ _ _ (Code.loop _) _ _ = q
    obtain ⟨e, T', σ', rfl, _, rfl, rfl, u2, u3⟩ : ∃ e T' σ', q = some (e, T', σ') ∧ e ≠ .normal ∧ (e = .exit 0 ∧ σ' = σ.push (.row 1 false [.vs .nil []]) ∧ T'.get 2 = some (.ptr 1 0) ∧ T'.get 3 = some (.int .u64 ((orW ws).toNat : Nat))) := by
      rw [← hL]
      refine exec_loop (fun i T σ' => i ≤ ws.length ∧ σ' = σ.push (.row 1 false [.vs .nil []]) ∧ T.get 2 = some (.ptr 1 0) ∧ T.get 3 = some (.int .u64 ((orW (ws.take i)).toNat : Nat)) ∧ T.get 7 = some (.slice 0 0 ws.length (some ws.length) 1) ∧ T.get 8 = some (.int .i64 (ws.length : Nat)) ∧ T.get 9 = some (.int .i64 (i : Nat))) ws.length (by omega) ?_ ?_ ?_
      · rintro i hi T σ' ⟨_, rfl, t2, t3, t7, t8, t9⟩
        have hlt : ((i : Nat) : Int) < ((ws.length : Nat) : Int) := by omega
        have hw := i64_succ (i := i) (by omega)
        have hget := wV_get hi
        have hs := orW_snoc (ws.take i) ws[i]
        rw [← List.take_succ_eq_append_getElem hi] at hs
        have hl2 : (ws.map wV).length = ws.length := List.length_map _
        refine ⟨_, _, by
          simp only [dx, reduceIte, zLt, zLe, zEq, zAd, zMu, zSu, zBe, yEq, yLt, yLe, yTn, reduceCtorEq, sx, fx192, t2, t3, t7, t8, t9, hlt, hn, h0, hget, hl2, Int.natCast_nonneg, Int.toNat_natCast, u64_or, hw, hi]
          rfl, by omega, rfl, ?_, ?_, ?_, ?_, ?_⟩
        · simp only [Tr.get_set, zEq, reduceIte, t2]
        · simp only [Tr.get_set, zEq, reduceIte, hs]
        · simp only [Tr.get_set, zEq, reduceIte, t7]
        · simp only [Tr.get_set, zEq, reduceIte, t8]
        · simp only [Tr.get_set, zEq, reduceIte]
      · rintro T σ' ⟨_, rfl, t2, t3, t7, t8, t9⟩
        have hge : ¬ (((ws.length : Nat) : Int) < ((ws.length : Nat) : Int)) := by omega
        rw [List.take_length] at t3
        refine ⟨_, _, _, by
          simp only [dx, reduceIte, zLt, zLe, zEq, zAd, zMu, zSu, zBe, yEq, yLt, yLe, yTn, reduceCtorEq, sx, fx192, t8, t9, hge]
          rfl, by simp, rfl, rfl, ?_, ?_⟩
        · simp only [Tr.get_set, zEq, reduceIte, t2]
        · simp only [Tr.get_set, zEq, reduceIte, t3]
      · refine ⟨Nat.zero_le _, rfl, ?_, ?_, ?_, ?_, ?_⟩
        · simp only [Tr.get_set, zEq, reduceIte]
        · simp only [Tr.get_set, zEq, reduceIte]; rfl
        · simp only [Tr.get_set, zEq, reduceIte]
        · simp only [Tr.get_set, zEq, reduceIte]
        · simp only [Tr.get_set, zEq, reduceIte]; rfl
    simp only [dx, reduceIte, zLt, zLe, zEq, zAd, zMu, zSu, zBe, yEq, yLt, yLe, yTn, reduceCtorEq, sx, fx192, u3, each_make _ (show 1 ≤ k by omega), hn]
    generalize hR : execC _ _ _ _ _ (Code.rangeFunc _ _ _ _) _ _ = r
    obtain ⟨T2, σ2, rfl, v2, out, m1, mg⟩ : ∃ T2 σ2, r = some (.normal, T2, σ2) ∧ T2.get 2 = some (.ptr 1 0) ∧ ∃ out, σ2.get 1 = some (.row 1 false [out]) ∧ GrewS 4 σ2 out (spansOf (orW ws).getLsbD) := by
      rw [← hR]
      obtain ⟨T0, hT0⟩ : ∃ T0, T0 = (T'.set 17 (.int .u64 ((orW ws).toNat : Nat))).set 18 (.func 210 [] [.ptr 2 0]) := ⟨_, rfl⟩
      have w2 : T0.get 2 = some (.ptr 1 0) := by rw [hT0]; simp only [Tr.get_set, zEq, reduceIte, u2]
      have w18 : T0.get 18 = some (.func 210 [] [.ptr 2 0]) := by rw [hT0]; simp only [Tr.get_set, zEq, reduceIte]
      have hm : UMem T0 (orW ws) [] (((σ.push (.row 1 false [.vs .nil []])).push (.row 1 false [.int .u64 ((orW ws).toNat : Nat)])).push (.loop (loopU T0))) := by
        refine ⟨⟨.vs .nil [], ?_, ⟨rfl, .inl ⟨rfl, rfl⟩⟩, fun _ => rfl⟩, ?_, ?_, by simp [hn]⟩
        all_goals simp only [AMem.get_push, AMem.next_push, hn, zAd, zEq, reduceIte]
      obtain ⟨σ', hc, ⟨out, m1, mg⟩, m2, m3, m4⟩ := each_call (k := k) w2 hm hb (by omega)
      have hq := q_range (A := lawProg) (call := callN lawProg k) (k := k) (f := 192) (N := 25) (T := T0) (σ := (σ.push (.row 1 false [.vs .nil []])).push (.row 1 false [.int .u64 ((orW ws).toNat : Nat)])) (g := .tmp 18) (ps := #[19]) (a := (loopU T0).assign) (b := (loopU T0).body) (r := loopU T0) (v := .tuple []) (σ2 := σ') (show evalO lawProg T0 (.tmp 18) = _ from w18) (by
        simp only [AMem.next_push, hn, zAd]
        exact hc) (by simp only [AMem.next_push, hn, zAd]; exact m3) (by intro h; cases h) rfl
      simp only [AMem.next_push, hn, zAd] at hq
      refine ⟨T0, σ'.put 3 (.loop { loopU T0 with state := .exhausted }), ?_, w2, out, ?_, ?_⟩
      · subst hT0
        exact hq
      · rw [AMem.get_put, if_neg (by omega)]; exact m1
      · exact mg.same (by simp) fun r h1 h2 => by rw [AMem.get_put, if_neg (by omega)]
    have hone := cells_one mg.one
    simp only [dx, reduceIte, zLt, zLe, zEq, zAd, zMu, zSu, zBe, yEq, yLt, yLe, yTn, reduceCtorEq, sx, fx192, v2, m1, mg.one, hone]
    refine ⟨_, _, out, rfl, ?_, mg.same (by simp) fun r h1 h2 => by rw [AMem.get_put, if_neg (by omega)]⟩
    simp only [Tryz.f192, resultsA, resultA, dx, reduceIte, zLt, zLe, zEq, zAd, zMu, zSu, zBe, yEq, yLt, yLe, yTn, reduceCtorEq, sx, fx192, v2, mg.one]
  obtain ⟨T1, σ1, out, h2, h3, h4⟩ := run
  exact ⟨out, σ1, q_call (first := []) (caps := []) fn192 rfl (by simp [Tryz.f192]) h2 (by simp) h3, h4⟩
end Go.Proofs.YtjckhhkhgjbpaaaGreatDoor

/- Union and Lacks, of the program and of the reference; the law DeltaLists. -/
set_option maxRecDepth 100000
set_option linter.unusedSimpArgs false
set_option linter.unusedVariables false
namespace Go.Proofs.YtjckhhkhgjbpaaaGreatDoor
open Go Go.Proofs.YtjckhhkhgjbpaaaGreatDoor.Pale
variable {k : Nat} {σ : AMem}

theorem spansOf_congr {p q : Nat → Bool} (h : ∀ m, 1 ≤ m → m ≤ 60 → p m = q m) : spansOf p = spansOf q :=
  spansOf_eq (spansOf_ok p).1 fun m h1 h2 => by rw [(spansOf_ok p).2, ← h m h1 h2]; simp [h1, h2]
def unionL (a b : List Sp) : List Sp := spansOf fun m => inSp a m || inSp b m
def listA (l : List Sp) : AVal := .vs (lkOf l.length) (spansV l)
noncomputable def unionR (a b : List Sp) : AVal × Int := if okB a && okB b then (listA (unionL a b), 0) else (.vs .nil [], 4)
theorem ofW_ok {l : List Sp} (h : okB l = true) : ofW l = (setW l).toNat := by unfold ofW; rw [if_pos h]
theorem snapT_tuple {σ : AMem} {out v : AVal} {S : List Nat} {n : Int} (h : snapF true σ 11 out = some (v, S)) : snapF true σ snapDepth (.tuple [out, .int .i64 n]) = some (.tuple [v, .int .i64 n], S ++ ([] ++ [])) := by
  show (snapL (snapF true σ 11) [out, .int .i64 n]).map (fun (l, a) => (AVal.tuple l, a)) = _
  simp only [snapL, h]
  rfl
theorem set_range {l : List Sp} (ok : OkSp l) {m : Nat} (h : (setW l).getLsbD m = true) : 1 ≤ m ∧ m ≤ 60 := by
  rw [setW_bit _ l rfl ok] at h
  have := inSp_range ok h
  omega

theorem dunion_call {x y : AVal} {S S2 : List Nat} {ka kb : VK} {a b : List Sp} (hx : snapF false σ snapDepth x = some (.vs ka (spansV a), S)) (hy : snapF false σ snapDepth y = some (.vs kb (spansV b), S2)) (ha : a.length ≤ 1000) (hb : b.length ≤ 1000) (hk : 3000 ≤ k) : pureCall lawProg (callN lawProg k) (.func 159 [] []) [x, y] σ = some (.tuple [(unionR a b).1, .int .i64 (unionR a b).2], σ) := by
  obtain ⟨k, rfl⟩ : ∃ m, k = m + 2 := ⟨k - 2, by omega⟩
  have run : ∃ T1 σ1 out S, execC lawProg (callN lawProg (k + 1)) (k + 1) 159 30 (bodyOf Tryz.f159) (initT 0 [.vs ka (spansV a), .vs kb (spansV b)] .nil) AMem.empty = some (.ret, T1, σ1) ∧ T1.get 4 = some out ∧ T1.get 5 = some (.int .i64 (unionR a b).2) ∧ snapF true σ1 11 out = some ((unionR a b).1, S) := by
    have h1 := fun (σ : AMem) => of_call (k := k + 1) (σ := σ) (x := .vs ka (spansV a)) (vk := ka) (l := a) (S := []) rfl ha (by omega)
    have h2 := fun (σ : AMem) => of_call (k := k + 1) (σ := σ) (x := .vs kb (spansV b)) (vk := kb) (l := b) (S := []) rfl hb (by omega)
    cases ea : okB a with
    | false =>
      rw [ea] at h1
      have hr : unionR a b = (.vs .nil [], 4) := by unfold unionR; rw [ea]; rfl
      rw [hr]
      simp only [bodyOf, Tryz.f159, Option.getD_some, initT, dx, reduceIte, zLt, zLe, zEq, zAd, zMu, zSu, zBe, yEq, yLt, yLe, yTn, reduceCtorEq, sx, fx159, h1, h2]
      exact ⟨_, _, _, [], rfl, by simp only [Tr.get_set, zEq, reduceIte]; rfl, by simp only [Tr.get_set, zEq, reduceIte], rfl⟩
    | true =>
      cases eb : okB b with
      | false =>
        rw [ea] at h1
        rw [eb] at h2
        have hr : unionR a b = (.vs .nil [], 4) := by unfold unionR; rw [ea, eb]; rfl
        rw [hr]
        simp only [bodyOf, Tryz.f159, Option.getD_some, initT, dx, reduceIte, zLt, zLe, zEq, zAd, zMu, zSu, zBe, yEq, yLt, yLe, yTn, reduceCtorEq, sx, fx159, h1, h2]
        exact ⟨_, _, _, [], rfl, by simp only [Tr.get_set, zEq, reduceIte]; rfl, by simp only [Tr.get_set, zEq, reduceIte], rfl⟩
      | true =>
        rw [ea, ofW_ok ea] at h1
        rw [eb, ofW_ok eb] at h2
        have hr : unionR a b = (listA (unionL a b), 0) := by unfold unionR; rw [ea, eb]; rfl
        rw [hr]
        have oka := okB_iff.1 ea
        have okb := okB_iff.1 eb
        have hor : orW [setW a, setW b] = setW a ||| setW b := by simp [orW]
        obtain ⟨out, σ', hu, hg⟩ := union_exec (k := k) (σ := AMem.empty.push (.row 1 false [.int .u64 ((setW a).toNat : Nat), .int .u64 ((setW b).toNat : Nat)])) (ws := [setW a, setW b]) (by rw [AMem.get_push, if_pos (by simp [next_empty])]; rfl) (by simp [next_empty]) (by simp) (fun m hm => by
          rw [hor, BitVec.getLsbD_or, Bool.or_eq_true] at hm
          rcases hm with hm | hm
          · exact set_range oka hm
          · exact set_range okb hm) (by omega)
        have hu2 : callN lawProg (k + 1) (.func 192 [] []) [.slice 0 0 2 (some 2) 1] (AMem.empty.push (.row 1 false [.int .u64 ((setW a).toNat : Nat), .int .u64 ((setW b).toNat : Nat)])) = some (out, σ') := hu
        have hl : spansOf (orW [setW a, setW b]).getLsbD = unionL a b := spansOf_congr fun m _ _ => by rw [hor, BitVec.getLsbD_or, setW_bit _ a rfl oka, setW_bit _ b rfl okb]
        rw [hl] at hg
        obtain ⟨S, hS⟩ := snap_spans (fr := true) (d := 9) hg
        simp only [bodyOf, Tryz.f159, Option.getD_some, initT, dx, reduceIte, zLt, zLe, zEq, zAd, zMu, zSu, zBe, yEq, yLt, yLe, yTn, reduceCtorEq, sx, fx159, h1, h2, hu2]
        exact ⟨_, _, out, S, rfl, by simp only [Tr.get_set, zEq, reduceIte], by simp only [Tr.get_set, zEq, reduceIte], hS⟩
  obtain ⟨T1, σ1, out, S3, h1, h2, h3, h4⟩ := run
  have hs : snapL (snapF false σ snapDepth) [x, y] = some ([.vs ka (spansV a), .vs kb (spansV b)], S ++ (S2 ++ [])) := by
    simp only [snapL, hx, hy]
  exact pureCall_of hs (memo159 _) (pureRun_of fn159 rfl (by simp [Tryz.f159]) h1 (by simp) (res_two h2 h3) (snapT_tuple h4))

end Go.Proofs.YtjckhhkhgjbpaaaGreatDoor


