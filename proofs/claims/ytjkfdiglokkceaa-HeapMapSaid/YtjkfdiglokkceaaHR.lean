import Derived.Test.YtjkfdiglokkceaaHQ
import Derived.KernelRfl
import Derived.Test.YtjkfdiglokkceaaPaleItems
open Nat renaming reduceLT → zLt, reduceLeDiff → zLe, reduceEqDiff → zEq, reduceAdd → zAd, reduceMul → zMu, reduceSub → zSu, reduceBEq → zBe
open Int renaming reduceEq → yEq, reduceLT → yLt, reduceLE → yLe, reduceToNat → yTn
/- Heaps: the program's small functions: within, isWord, isZero, areAll, Contains. -/
set_option maxRecDepth 100000
set_option linter.unusedSimpArgs false
set_option linter.unusedVariables false
namespace Go.Proofs.Ytjkfdiglokkceaa
open Go Go.Proofs.Ytjkfdiglokkceaa.Pale
variable {k : Nat} {σ : AMem}

theorem within_run (a b n : Int) : pureRun (callN lawProg (k + 1)) (.func 44 [] []) [.int .i64 a, .int .i64 b, .int .i64 n] = some (.bool (decide (a ≤ n ∧ n ≤ b)), true) := by
  have run : ∃ T1, execC lawProg (callN lawProg k) k 44 15 (bodyOf Try.f44) (initT 0 [.int .i64 a, .int .i64 b, .int .i64 n] .nil) AMem.empty = some (.ret, T1, AMem.empty) ∧ T1.get 6 = some (.bool (decide (a ≤ n ∧ n ≤ b))) := by
    by_cases h1 : a ≤ n
    · by_cases h2 : n ≤ b
      · simp only [bodyOf, Try.f44, Option.getD_some, initT, dx, reduceIte, zLt, zLe, zEq, zAd, zMu, zSu, zBe, yEq, yLt, yLe, yTn, reduceCtorEq, sx, fx44, ge_iff_le, h1, h2]
        exact ⟨_, rfl, by simp only [Tr.get_set, zEq, reduceIte]⟩
      · simp only [bodyOf, Try.f44, Option.getD_some, initT, dx, reduceIte, zLt, zLe, zEq, zAd, zMu, zSu, zBe, yEq, yLt, yLe, yTn, reduceCtorEq, sx, fx44, ge_iff_le, h1, h2]
        exact ⟨_, rfl, by simp only [Tr.get_set, zEq, reduceIte]⟩
    · simp only [bodyOf, Try.f44, Option.getD_some, initT, dx, reduceIte, zLt, zLe, zEq, zAd, zMu, zSu, zBe, yEq, yLt, yLe, yTn, reduceCtorEq, sx, fx44, ge_iff_le, h1]
      exact ⟨_, rfl, by simp only [Tr.get_set, zEq, reduceIte]⟩
  obtain ⟨T1, h1, h2⟩ := run
  exact pureRun_of fn44 rfl (by simp [Try.f44]) h1 (by simp) (res_one h2) rfl
theorem within_call (a b n : Int) (hk : 1 ≤ k) : pureCall lawProg (callN lawProg k) (.func 44 [] []) [.int .i64 a, .int .i64 b, .int .i64 n] σ = some (.bool (decide (a ≤ n ∧ n ≤ b)), σ) := by
  obtain ⟨k, rfl⟩ : ∃ m, k = m + 1 := ⟨k - 1, by omega⟩
  exact pureCall_of rfl (memo44 _) (within_run a b n)

/-! ### questions about words -/
/-- A question that a function value answers, and leaves the memory alone. -/
def Asks (k : Nat) (g : Nat) (p : Int → Bool) : Prop := lawProg.isVal 90 g = false ∧ ∀ (n : Int) (σ : AMem), callN lawProg k (.func g [] []) [.int .i64 n] σ = some (.bool (p n), σ)
def zeroQ (n : Int) : Bool := n == 0
def wordQ (n : Int) : Bool := decide (0 ≤ n ∧ n ≤ 4294967295)
theorem isZero_asks (hk : 1 ≤ k) : Asks k 83 zeroQ := by
  refine ⟨by kernel_rfl, fun n σ => ?_⟩
  obtain ⟨k, rfl⟩ : ∃ m, k = m + 1 := ⟨k - 1, by omega⟩
  have run : ∃ T1, execC lawProg (callN lawProg k) k 83 5 (bodyOf Try.f83) (initT 0 [.int .i64 n] .nil) σ = some (.ret, T1, σ) ∧ T1.get 2 = some (.bool (zeroQ n)) := by
    simp only [bodyOf, Try.f83, Option.getD_some, initT, dx, reduceIte, zLt, zLe, zEq, zAd, zMu, zSu, zBe, yEq, yLt, yLe, yTn, reduceCtorEq, sx, fx83]
    exact ⟨_, rfl, by simp only [Tr.get_set, zEq, reduceIte]; rfl⟩
  obtain ⟨T1, h1, h2⟩ := run
  exact q_call (first := []) (caps := []) fn83 rfl (by simp [Try.f83]) h1 (by simp) (res_one h2)
theorem isWord_asks (hk : 2 ≤ k) : Asks k 78 wordQ := by
  refine ⟨by kernel_rfl, fun n σ => ?_⟩
  obtain ⟨k, rfl⟩ : ∃ m, k = m + 1 := ⟨k - 1, by omega⟩
  have hwi := fun (σ : AMem) => within_call (k := k) (σ := σ) 0 4294967295 n (by omega)
  have run : ∃ T1, execC lawProg (callN lawProg k) k 78 5 (bodyOf Try.f78) (initT 0 [.int .i64 n] .nil) σ = some (.ret, T1, σ) ∧ T1.get 2 = some (.bool (wordQ n)) := by
    simp only [bodyOf, Try.f78, Option.getD_some, initT, dx, reduceIte, zLt, zLe, zEq, zAd, zMu, zSu, zBe, yEq, yLt, yLe, yTn, reduceCtorEq, sx, fx78, hwi]
    exact ⟨_, rfl, by simp only [Tr.get_set, zEq, reduceIte]; rfl⟩
  obtain ⟨T1, h1, h2⟩ := run
  exact q_call (first := []) (caps := []) fn78 rfl (by simp [Try.f78]) h1 (by simp) (res_one h2)
/-- The question turned round, as areAll asks it. -/
theorem not_asks {g : Nat} {p : Int → Bool} {r : Nat} (h : Asks k g p) {n : Int} (hr : σ.get r = some (.row 1 false [.func g [] []])) : callN lawProg (k + 1) (.func 90 [] [.ptr r 0]) [.int .i64 n] σ = some (.bool (!(p n)), σ) := by
  obtain ⟨hv, h⟩ := h
  have hn := h n σ
  have run : ∃ T1, execC lawProg (callN lawProg k) k 90 8 (bodyOf Try.f90) (initT 0 [.int .i64 n, .ptr r 0] .nil) σ = some (.ret, T1, σ) ∧ T1.get 3 = some (.bool (!(p n))) := by
    simp only [bodyOf, Try.f90, Option.getD_some, initT, dx, reduceIte, zLt, zLe, zEq, zAd, zMu, zSu, zBe, yEq, yLt, yLe, yTn, reduceCtorEq, sx, fx90, hr, hv, hn]
    exact ⟨_, rfl, by simp only [Tr.get_set, zEq, reduceIte]⟩
  obtain ⟨T1, h1, h2⟩ := run
  exact q_call (first := []) (caps := [.ptr r 0]) fn90 rfl (by simp [Try.f90]) h1 (by simp) (res_one h2)
theorem index_exec {g r : Nat} {p : Int → Bool} {K : VK} {l : List Int} (h : Asks k g p) (hr : σ.get r = some (.row 1 false [.func g [] []])) (hl : l.length ≤ k) (hl2 : l.length ≤ 100000) : ∃ i : Int, callN lawProg (k + 2) (.func 94 [] []) [.vs K (intV l), .func 90 [] [.ptr r 0]] σ = some (.int .i64 i, σ) ∧ (i ≥ 0 ↔ l.all p = false) := by
  have run : ∃ T1 i, execC lawProg (callN lawProg (k + 1)) (k + 1) 94 19 (bodyOf Try.f94) (initT 0 [.vs K (intV l), .func 90 [] [.ptr r 0]] .nil) σ = some (.ret, T1, σ) ∧ T1.get 4 = some (.int .i64 i) ∧ (i ≥ 0 ↔ l.all p = false) := by
    simp only [bodyOf, Try.f94, Option.getD_some, initT, dx, reduceIte, zLt, zLe, zEq, zAd, zMu, zSu, zBe, yEq, yLt, yLe, yTn, reduceCtorEq, sx, fx94, intV_length]
    generalize hL : execC _ _ _ _ _ (Code.loop _) _ _ = q
    obtain ⟨e, T', σ', rfl, _, rfl, hc⟩ : ∃ e T' σ', q = some (e, T', σ') ∧ e ≠ .normal ∧ (σ' = σ ∧ ((e = .ret ∧ ∃ i : Nat, T'.get 4 = some (.int .i64 (i : Nat)) ∧ l.all p = false) ∨ (e = .exit 0 ∧ l.all p = true))) := by
      rw [← hL]
      refine exec_loop2 (fun i T σ' => i ≤ l.length ∧ σ' = σ ∧ T.get 0 = some (.vs K (intV l)) ∧ T.get 1 = some (.func 90 [] [.ptr r 0]) ∧ T.get 7 = some (.int .i64 (l.length : Nat)) ∧ T.get 8 = some (.int .i64 (i : Nat)) ∧ ∀ x, x ∈ l.take i → p x = true) l.length (by omega) ?_ ?_ ?_
      · rintro i hi T σ' ⟨_, rfl, t0, t1, t7, t8, hall⟩
        have hlt : ((i : Nat) : Int) < ((l.length : Nat) : Int) := by omega
        have hw := i64_succ (i := i) (by omega)
        have hget := intV_get hi
        have hask := not_asks (k := k) (n := l[i]) h hr
        cases hp : p l[i] with
        | false =>
          rw [hp] at hask
          refine .inr ⟨_, _, _, by
            simp only [dx, reduceIte, zLt, zLe, zEq, zAd, zMu, zSu, zBe, yEq, yLt, yLe, yTn, reduceCtorEq, sx, fx94, t0, t1, t7, t8, hlt, intV_length, Int.natCast_nonneg, Int.toNat_natCast, hget, hask]
            rfl, by simp, rfl, .inl ⟨rfl, i, ?_, ?_⟩⟩
          · simp only [Tr.get_set, zEq, reduceIte]
          · rw [List.all_eq_false]
            exact ⟨l[i], List.getElem_mem hi, by rw [hp]; simp⟩
        | true =>
          rw [hp] at hask
          refine .inl ⟨_, _, by
            simp only [dx, reduceIte, zLt, zLe, zEq, zAd, zMu, zSu, zBe, yEq, yLt, yLe, yTn, reduceCtorEq, sx, fx94, t0, t1, t7, t8, hlt, intV_length, Int.natCast_nonneg, Int.toNat_natCast, hget, hask, hw]
            rfl, by omega, rfl, ?_, ?_, ?_, ?_, take_all hi hall hp⟩
          · simp only [Tr.get_set, zEq, reduceIte, t0]
          · simp only [Tr.get_set, zEq, reduceIte, t1]
          · simp only [Tr.get_set, zEq, reduceIte, t7]
          · simp only [Tr.get_set, zEq, reduceIte]
      · rintro T σ' ⟨_, rfl, t0, t1, t7, t8, hall⟩
        have hge : ¬ (((l.length : Nat) : Int) < ((l.length : Nat) : Int)) := by omega
        rw [List.take_length] at hall
        refine ⟨_, _, _, by
          simp only [dx, reduceIte, zLt, zLe, zEq, zAd, zMu, zSu, zBe, yEq, yLt, yLe, yTn, reduceCtorEq, sx, fx94, t7, t8, hge]
          rfl, by simp, rfl, .inr ⟨rfl, ?_⟩⟩
        rw [List.all_eq_true]
        exact hall
      · refine ⟨Nat.zero_le _, rfl, ?_, ?_, ?_, ?_, by simp⟩
        all_goals simp only [Tr.get_set, zEq, reduceIte] <;> rfl
    rcases hc with ⟨rfl, i, h2, h3⟩ | ⟨rfl, h3⟩
    · simp only [dx, reduceIte, zLt, zLe, zEq, zAd, zMu, zSu, zBe, yEq, yLt, yLe, yTn, reduceCtorEq, sx, fx94]
      exact ⟨_, _, rfl, h2, by rw [h3]; simp⟩
    · simp only [dx, reduceIte, zLt, zLe, zEq, zAd, zMu, zSu, zBe, yEq, yLt, yLe, yTn, reduceCtorEq, sx, fx94]
      exact ⟨_, -1, rfl, by simp only [Tr.get_set, zEq, reduceIte], by rw [h3]; simp⟩
  obtain ⟨T1, i, h1, h2, h3⟩ := run
  exact ⟨i, q_call (first := []) (caps := []) fn94 rfl (by simp [Try.f94]) h1 (by simp) (res_one h2), h3⟩
theorem containsFunc_exec {g r : Nat} {p : Int → Bool} {K : VK} {l : List Int} (h : Asks k g p) (hr : σ.get r = some (.row 1 false [.func g [] []])) (hl : l.length ≤ k) (hl2 : l.length ≤ 100000) : callN lawProg (k + 3) (.func 89 [] []) [.vs K (intV l), .func 90 [] [.ptr r 0]] σ = some (.bool (!(l.all p)), σ) := by
  obtain ⟨i, h1, h2⟩ := index_exec (k := k) (K := K) h hr hl hl2
  have hd : decide (i ≥ 0) = !(l.all p) := by
    cases hb : l.all p with
    | false => rw [hb] at h2; exact decide_eq_true (h2.2 rfl)
    | true => rw [hb] at h2; exact decide_eq_false (fun h => by have := h2.1 h; cases this)
  have run : ∃ T1, execC lawProg (callN lawProg (k + 2)) (k + 2) 89 9 (bodyOf Try.f89) (initT 0 [.vs K (intV l), .func 90 [] [.ptr r 0]] .nil) σ = some (.ret, T1, σ) ∧ T1.get 4 = some (.bool (!(l.all p))) := by
    simp only [bodyOf, Try.f89, Option.getD_some, initT, dx, reduceIte, zLt, zLe, zEq, zAd, zMu, zSu, zBe, yEq, yLt, yLe, yTn, reduceCtorEq, sx, fx89, h1, hd]
    exact ⟨_, rfl, by simp only [Tr.get_set, zEq, reduceIte]⟩
  obtain ⟨T1, h3, h4⟩ := run
  exact q_call (first := []) (caps := []) fn89 rfl (by simp [Try.f89]) h3 (by simp) (res_one h4)
theorem areAll_exec {g : Nat} {p : Int → Bool} {K : VK} {l : List Int} (h : Asks k g p) (hl : l.length ≤ k) (hl2 : l.length ≤ 100000) : callN lawProg (k + 4) (.func 77 [] []) [.vs K (intV l), .func g [] []] σ = some (.bool (l.all p), σ.push (.row 1 false [.func g [] []])) := by
  have h1 := containsFunc_exec (k := k) (σ := σ.push (.row 1 false [.func g [] []])) (r := σ.next) (K := K) h (by rw [AMem.get_push, if_pos rfl]) hl hl2
  have run : ∃ T1, execC lawProg (callN lawProg (k + 3)) (k + 3) 77 9 (bodyOf Try.f77) (initT 0 [.vs K (intV l), .func g [] []] .nil) σ = some (.ret, T1, σ.push (.row 1 false [.func g [] []])) ∧ T1.get 4 = some (.bool (l.all p)) := by
    simp only [bodyOf, Try.f77, Option.getD_some, initT, dx, reduceIte, zLt, zLe, zEq, zAd, zMu, zSu, zBe, yEq, yLt, yLe, yTn, reduceCtorEq, sx, fx77, h1, Bool.not_not]
    exact ⟨_, rfl, by simp only [Tr.get_set, zEq, reduceIte]⟩
  obtain ⟨T1, h3, h4⟩ := run
  exact q_call (first := []) (caps := []) fn77 rfl (by simp [Try.f77]) h3 (by simp) (res_one h4)
end Go.Proofs.Ytjkfdiglokkceaa

/- Heaps: the program's Contains and OnesCount. -/
set_option maxRecDepth 100000
set_option linter.unusedSimpArgs false
set_option linter.unusedVariables false
namespace Go.Proofs.Ytjkfdiglokkceaa
open Go Go.Proofs.Ytjkfdiglokkceaa.Pale
variable {k : Nat} {σ : AMem}

theorem bindex_call {K : VK} {l : List Bool} (hl : l.length ≤ 1000) (hk : 2000 ≤ k) : ∃ i : Int, (∀ σ, pureCall lawProg (callN lawProg k) (.func 88 [] []) [.vs K (boolV l), .bool true] σ = some (.int .i64 i, σ)) ∧ (i ≥ 0 ↔ l.any id = true) := by
  obtain ⟨k, rfl⟩ : ∃ m, k = m + 1 := ⟨k - 1, by omega⟩
  have run : ∃ T1 σ1 i, execC lawProg (callN lawProg k) k 88 19 (bodyOf Try.f88) (initT 0 [.vs K (boolV l), .bool true] .nil) AMem.empty = some (.ret, T1, σ1) ∧ T1.get 4 = some (.int .i64 i) ∧ (i ≥ 0 ↔ l.any id = true) := by
    simp only [bodyOf, Try.f88, Option.getD_some, initT, dx, reduceIte, zLt, zLe, zEq, zAd, zMu, zSu, zBe, yEq, yLt, yLe, yTn, reduceCtorEq, sx, fx88, boolV_length]
    generalize hL : execC _ _ _ _ _ (Code.loop _) _ _ = q
    obtain ⟨e, T', σ', rfl, _, hc⟩ : ∃ e T' σ', q = some (e, T', σ') ∧ e ≠ .normal ∧ ((e = .ret ∧ ∃ i : Nat, T'.get 4 = some (.int .i64 (i : Nat)) ∧ l.any id = true) ∨ (e = .exit 0 ∧ l.any id = false)) := by
      rw [← hL]
      refine exec_loop2 (fun i T σ' => i ≤ l.length ∧ T.get 0 = some (.vs K (boolV l)) ∧ T.get 1 = some (.bool true) ∧ T.get 7 = some (.int .i64 (l.length : Nat)) ∧ T.get 8 = some (.int .i64 (i : Nat)) ∧ ∀ x, x ∈ l.take i → x = false) l.length (by omega) ?_ ?_ ?_
      · rintro i hi T σ' ⟨_, t0, t1, t7, t8, hall⟩
        have hlt : ((i : Nat) : Int) < ((l.length : Nat) : Int) := by omega
        have hw := i64_succ (i := i) (by omega)
        have hget := boolV_get hi
        cases hp : l[i] with
        | true =>
          rw [hp] at hget
          refine .inr ⟨_, _, _, by
            simp only [dx, reduceIte, zLt, zLe, zEq, zAd, zMu, zSu, zBe, yEq, yLt, yLe, yTn, reduceCtorEq, sx, fx88, aeq, eqBool, t0, t1, t7, t8, hlt, boolV_length, Int.natCast_nonneg, Int.toNat_natCast, hget]
            rfl, by simp, .inl ⟨rfl, i, ?_, ?_⟩⟩
          · simp only [Tr.get_set, zEq, reduceIte]
          · rw [List.any_eq_true]
            exact ⟨l[i], List.getElem_mem hi, by rw [hp]; rfl⟩
        | false =>
          rw [hp] at hget
          refine .inl ⟨_, _, by
            simp only [dx, reduceIte, zLt, zLe, zEq, zAd, zMu, zSu, zBe, yEq, yLt, yLe, yTn, reduceCtorEq, sx, fx88, aeq, eqBool, t0, t1, t7, t8, hlt, boolV_length, Int.natCast_nonneg, Int.toNat_natCast, hget, hw]
            rfl, by omega, ?_, ?_, ?_, ?_, take_all hi hall hp⟩
          · simp only [Tr.get_set, zEq, reduceIte, t0]
          · simp only [Tr.get_set, zEq, reduceIte, t1]
          · simp only [Tr.get_set, zEq, reduceIte, t7]
          · simp only [Tr.get_set, zEq, reduceIte]
      · rintro T σ' ⟨_, t0, t1, t7, t8, hall⟩
        have hge : ¬ (((l.length : Nat) : Int) < ((l.length : Nat) : Int)) := by omega
        rw [List.take_length] at hall
        refine ⟨_, _, _, by
          simp only [dx, reduceIte, zLt, zLe, zEq, zAd, zMu, zSu, zBe, yEq, yLt, yLe, yTn, reduceCtorEq, sx, fx88, t7, t8, hge]
          rfl, by simp, .inr ⟨rfl, ?_⟩⟩
        rw [List.any_eq_false]
        intro x hx
        rw [hall x hx]
        simp
      · refine ⟨Nat.zero_le _, ?_, ?_, ?_, ?_, by simp⟩
        all_goals simp only [Tr.get_set, zEq, reduceIte] <;> rfl
    rcases hc with ⟨rfl, i, h2, h3⟩ | ⟨rfl, h3⟩
    · simp only [dx, reduceIte, zLt, zLe, zEq, zAd, zMu, zSu, zBe, yEq, yLt, yLe, yTn, reduceCtorEq, sx, fx88]
      exact ⟨_, _, _, rfl, h2, by rw [h3]; simp⟩
    · simp only [dx, reduceIte, zLt, zLe, zEq, zAd, zMu, zSu, zBe, yEq, yLt, yLe, yTn, reduceCtorEq, sx, fx88]
      exact ⟨_, _, -1, rfl, by simp only [Tr.get_set, zEq, reduceIte], by rw [h3]; simp⟩
  obtain ⟨T1, σ1, i, h1, h2, h3⟩ := run
  exact ⟨i, fun σ => pureCall_of rfl (memo88 _) (pureRun_of fn88 rfl (by simp [Try.f88]) h1 (by simp) (res_one h2) rfl), h3⟩
theorem contains_call {x : AVal} {S : List Nat} {K : VK} {l : List Bool} (hx : snapF false σ snapDepth x = some (.vs K (boolV l), S)) (hl : l.length ≤ 1000) (hk : 2001 ≤ k) : pureCall lawProg (callN lawProg k) (.func 75 [] []) [x, .bool true] σ = some (.bool (l.any id), σ) := by
  obtain ⟨k, rfl⟩ : ∃ m, k = m + 1 := ⟨k - 1, by omega⟩
  obtain ⟨i, h1, h2⟩ := bindex_call (k := k) (K := K) hl (by omega)
  have hd : decide (i ≥ 0) = l.any id := by
    cases hb : l.any id with
    | true => rw [hb] at h2; exact decide_eq_true (h2.2 rfl)
    | false => rw [hb] at h2; exact decide_eq_false (fun h => by have := h2.1 h; cases this)
  have run : ∃ T1 σ1, execC lawProg (callN lawProg k) k 75 9 (bodyOf Try.f75) (initT 0 [.vs K (boolV l), .bool true] .nil) AMem.empty = some (.ret, T1, σ1) ∧ T1.get 4 = some (.bool (l.any id)) := by
    simp only [bodyOf, Try.f75, Option.getD_some, initT, dx, reduceIte, zLt, zLe, zEq, zAd, zMu, zSu, zBe, yEq, yLt, yLe, yTn, reduceCtorEq, sx, fx75, h1, hd]
    exact ⟨_, _, rfl, by simp only [Tr.get_set, zEq, reduceIte]⟩
  obtain ⟨T1, σ1, h3, h4⟩ := run
  have hs : snapL (snapF false σ snapDepth) [x, .bool true] = some ([.vs K (boolV l), .bool true], S ++ ([] ++ [])) := by
    simp only [snapL, hx]
    rfl
  exact pureCall_of hs (memo75 _) (pureRun_of fn75 rfl (by simp [Try.f75]) h3 (by simp) (res_one h4) rfl)
theorem ones_run (n : Nat) (h1 : 2 ≤ n) (h2 : n ≤ 32) : ∃ c : Int, (∀ k, pureRun (callN lawProg (k + 3)) (.func 91 [] []) [.int .u64 (n : Nat)] = some (.int .i64 c, true)) ∧ (c = 1 ↔ isSz (n : Nat) = true) := by
  have h : n = 2 ∨ n = 3 ∨ n = 4 ∨ n = 5 ∨ n = 6 ∨ n = 7 ∨ n = 8 ∨ n = 9 ∨ n = 10 ∨ n = 11 ∨ n = 12 ∨ n = 13 ∨ n = 14 ∨ n = 15 ∨ n = 16 ∨ n = 17 ∨ n = 18 ∨ n = 19 ∨ n = 20 ∨ n = 21 ∨ n = 22 ∨ n = 23 ∨ n = 24 ∨ n = 25 ∨ n = 26 ∨ n = 27 ∨ n = 28 ∨ n = 29 ∨ n = 30 ∨ n = 31 ∨ n = 32 := by omega
  rcases h with rfl | rfl | rfl | rfl | rfl | rfl | rfl | rfl | rfl | rfl | rfl | rfl | rfl | rfl | rfl | rfl | rfl | rfl | rfl | rfl | rfl | rfl | rfl | rfl | rfl | rfl | rfl | rfl | rfl | rfl | rfl
  · exact ⟨1, fun k => by kernel_rfl, by decide⟩
  · exact ⟨2, fun k => by kernel_rfl, by decide⟩
  · exact ⟨1, fun k => by kernel_rfl, by decide⟩
  · exact ⟨2, fun k => by kernel_rfl, by decide⟩
  · exact ⟨2, fun k => by kernel_rfl, by decide⟩
  · exact ⟨3, fun k => by kernel_rfl, by decide⟩
  · exact ⟨1, fun k => by kernel_rfl, by decide⟩
  · exact ⟨2, fun k => by kernel_rfl, by decide⟩
  · exact ⟨2, fun k => by kernel_rfl, by decide⟩
  · exact ⟨3, fun k => by kernel_rfl, by decide⟩
  · exact ⟨2, fun k => by kernel_rfl, by decide⟩
  · exact ⟨3, fun k => by kernel_rfl, by decide⟩
  · exact ⟨3, fun k => by kernel_rfl, by decide⟩
  · exact ⟨4, fun k => by kernel_rfl, by decide⟩
  · exact ⟨1, fun k => by kernel_rfl, by decide⟩
  · exact ⟨2, fun k => by kernel_rfl, by decide⟩
  · exact ⟨2, fun k => by kernel_rfl, by decide⟩
  · exact ⟨3, fun k => by kernel_rfl, by decide⟩
  · exact ⟨2, fun k => by kernel_rfl, by decide⟩
  · exact ⟨3, fun k => by kernel_rfl, by decide⟩
  · exact ⟨3, fun k => by kernel_rfl, by decide⟩
  · exact ⟨4, fun k => by kernel_rfl, by decide⟩
  · exact ⟨2, fun k => by kernel_rfl, by decide⟩
  · exact ⟨3, fun k => by kernel_rfl, by decide⟩
  · exact ⟨3, fun k => by kernel_rfl, by decide⟩
  · exact ⟨4, fun k => by kernel_rfl, by decide⟩
  · exact ⟨3, fun k => by kernel_rfl, by decide⟩
  · exact ⟨4, fun k => by kernel_rfl, by decide⟩
  · exact ⟨4, fun k => by kernel_rfl, by decide⟩
  · exact ⟨5, fun k => by kernel_rfl, by decide⟩
  · exact ⟨1, fun k => by kernel_rfl, by decide⟩
theorem ones_call (n : Nat) (h1 : 2 ≤ n) (h2 : n ≤ 32) (hk : 3 ≤ k) : ∃ c : Int, (∀ σ, pureCall lawProg (callN lawProg k) (.func 91 [] []) [.int .u64 (n : Nat)] σ = some (.int .i64 c, σ)) ∧ (c = 1 ↔ isSz (n : Nat) = true) := by
  obtain ⟨k, rfl⟩ : ∃ m, k = m + 3 := ⟨k - 3, by omega⟩
  obtain ⟨c, a, b⟩ := ones_run n h1 h2
  exact ⟨c, fun σ => pureCall_of rfl (memo91 _) (a k), b⟩
theorem sizeOf_run (n : Nat) (h1 : 1 ≤ n) (h2 : n ≤ 32) : ∀ k : Nat, pureRun (callN lawProg (k + 5)) (.func 74 [] []) [.int .i64 (n : Nat)] = some (.int .i64 (sizeF (n : Nat)), true) := by
  have h : n = 1 ∨ n = 2 ∨ n = 3 ∨ n = 4 ∨ n = 5 ∨ n = 6 ∨ n = 7 ∨ n = 8 ∨ n = 9 ∨ n = 10 ∨ n = 11 ∨ n = 12 ∨ n = 13 ∨ n = 14 ∨ n = 15 ∨ n = 16 ∨ n = 17 ∨ n = 18 ∨ n = 19 ∨ n = 20 ∨ n = 21 ∨ n = 22 ∨ n = 23 ∨ n = 24 ∨ n = 25 ∨ n = 26 ∨ n = 27 ∨ n = 28 ∨ n = 29 ∨ n = 30 ∨ n = 31 ∨ n = 32 := by omega
  rcases h with rfl | rfl | rfl | rfl | rfl | rfl | rfl | rfl | rfl | rfl | rfl | rfl | rfl | rfl | rfl | rfl | rfl | rfl | rfl | rfl | rfl | rfl | rfl | rfl | rfl | rfl | rfl | rfl | rfl | rfl | rfl | rfl <;> exact fun k => by kernel_rfl
theorem sizeOf_call (n : Nat) (h1 : 1 ≤ n) (h2 : n ≤ 32) (hk : 5 ≤ k) : pureCall lawProg (callN lawProg k) (.func 74 [] []) [.int .i64 (n : Nat)] σ = some (.int .i64 (sizeF (n : Nat)), σ) := by
  obtain ⟨k, rfl⟩ : ∃ m, k = m + 5 := ⟨k - 5, by omega⟩
  exact pureCall_of rfl (memo74 _) (sizeOf_run n h1 h2 k)
end Go.Proofs.Ytjkfdiglokkceaa

/- Heaps: the program's pages, words and slots. -/
set_option maxRecDepth 100000
set_option linter.unusedSimpArgs false
set_option linter.unusedVariables false
namespace Go.Proofs.Ytjkfdiglokkceaa
open Go Go.Proofs.Ytjkfdiglokkceaa.Pale
variable {k : Nat} {σ : AMem}

/-- Some words that follow each other. -/
def segW (ws : List Int) (lo n : Nat) : List Int := (ws.take (lo + n)).drop lo
theorem intV_take (l : List Int) (n : Nat) : (intV l).take n = intV (l.take n) := by simp [intV]
theorem intV_drop (l : List Int) (n : Nat) : (intV l).drop n = intV (l.drop n) := by simp [intV]
theorem segW_length {ws : List Int} {lo n : Nat} (h : lo + n ≤ ws.length) : (segW ws lo n).length = n := by simp [segW]; omega
theorem segW_all {ws : List Int} {lo n : Nat} (h : lo + n ≤ ws.length) (p : Int → Bool) : (segW ws lo n).all p = true ↔ ∀ k, lo ≤ k → k < lo + n → p (wdAt ws k) = true := by
  have hl := segW_length h
  have hg : ∀ i (hi : i < (segW ws lo n).length), (segW ws lo n)[i] = wdAt ws (lo + i) := fun i hi => by
    rw [wdAt_lt (by omega)]
    simp [segW]
  rw [List.all_eq_true]
  constructor
  · intro ha k h1 h2
    have := ha _ (List.getElem_mem (show k - lo < (segW ws lo n).length by omega))
    rw [hg, show lo + (k - lo) = k by omega] at this
    exact this
  · intro ha x hx
    obtain ⟨i, hi, rfl⟩ := List.mem_iff_getElem.1 hx
    rw [hg]
    exact ha _ (by omega) (by omega)
theorem vk_self (K : VK) : (if K = VK.nil then VK.nil else K) = K := by
  split
  · rename_i h; rw [h]
  · rfl
theorem intV_one (l : List Int) : ((intV l).all fun c => c.cells.length == 1) = true := by
  rw [List.all_eq_true]
  intro x hx
  obtain ⟨i, _, rfl⟩ := List.mem_map.1 hx
  rfl
theorem page_exec {sp : Nat} {hp : AVal} {kw : VK} {ws : List Int} {n : Nat} (ms : σ.get sp = some (.row 2 true [hp, .vs kw (intV ws)])) (hn : n ≤ 1000) (hb : 64 * n + 64 ≤ ws.length) : callN lawProg (k + 1) (.func 82 [] []) [.ptr sp 0, .int .i64 (n : Nat), .int .i64 1] σ = some (.vs kw (intV (segW ws (64 * n) 64)), σ) := by
  have w1 : IntKind.i64.wrap (((n : Nat) : Int) * 64) = ((64 * n : Nat) : Int) := by rw [i64_id (by omega) (by omega)]; omega
  have w2 : IntKind.i64.wrap (((n : Nat) : Int) + 1) = ((n + 1 : Nat) : Int) := i64_succ (by omega)
  have w3 : IntKind.i64.wrap (((n + 1 : Nat) : Int) * 64) = ((64 * n + 64 : Nat) : Int) := by rw [i64_id (by omega) (by omega)]; omega
  have b1 : (0 : Int) ≤ ((64 * n + 64 : Nat) : Int) ∧ ((64 * n + 64 : Nat) : Int) ≤ ((ws.length : Nat) : Int) := by omega
  have b2 : (0 : Int) ≤ ((64 * n : Nat) : Int) ∧ ((64 * n : Nat) : Int) ≤ ((64 * n + 64 : Nat) : Int) := by omega
  have hseg : (ws.take (64 * n + 64)).drop (64 * n) = segW ws (64 * n) 64 := rfl
  have run : ∃ T1, execC lawProg (callN lawProg k) k 82 19 (bodyOf Try.f82) (initT 0 [.ptr sp 0, .int .i64 (n : Nat), .int .i64 1] .nil) σ = some (.ret, T1, σ) ∧ T1.get 6 = some (.vs kw (intV (segW ws (64 * n) 64))) := by
    simp only [bodyOf, Try.f82, Option.getD_some, initT, dx, reduceIte, zLt, zLe, zEq, zAd, zMu, zSu, zBe, yEq, yLt, yLe, yTn, reduceCtorEq, sx, fx82, ms, w1, w2, w3, intV_length, b1, b2, Int.toNat_natCast, intV_one, intV_take, intV_drop, hseg, vk_self]
    exact ⟨_, rfl, by simp only [Tr.get_set, zEq, reduceIte]⟩
  obtain ⟨T1, h1, h2⟩ := run
  exact q_call (first := []) (caps := []) fn82 rfl (by simp [Try.f82]) h1 (by simp) (res_one h2)
def blkC (b : Blk) : List AVal := [.int .i64 (b.page : Nat), .int .i64 (b.slot : Nat), .int .i64 b.at_, .int .i64 b.size]
theorem words_exec {sp : Nat} {hp : AVal} {kw : VK} {ws : List Int} {b : Blk} {lo n : Nat} (ms : σ.get sp = some (.row 2 true [hp, .vs kw (intV ws)])) (hsp : sp < σ.next) (h1 : b.at_ = (lo : Nat)) (h2 : b.size = (n : Nat)) (hb : lo + n ≤ ws.length) (hw : ws.length ≤ 100000) : callN lawProg (k + 1) (.func 61 [] []) [.ptr sp 0, .agg (blkC b)] σ = some (.vs kw (intV (segW ws lo n)), σ.push (.row 4 true (blkC b))) := by
  have w1 : IntKind.i64.wrap (((lo : Nat) : Int) + ((n : Nat) : Int)) = ((lo + n : Nat) : Int) := by rw [i64_id (by omega) (by omega)]; omega
  have b1 : (0 : Int) ≤ ((lo + n : Nat) : Int) ∧ ((lo + n : Nat) : Int) ≤ ((ws.length : Nat) : Int) := by omega
  have b2 : (0 : Int) ≤ ((lo : Nat) : Int) ∧ ((lo : Nat) : Int) ≤ ((lo + n : Nat) : Int) := by omega
  have hseg : (ws.take (lo + n)).drop lo = segW ws lo n := rfl
  have hne : ¬ σ.next = sp := by omega
  simp only [blkC, h1, h2]
  have run : ∃ T1, execC lawProg (callN lawProg k) k 61 18 (bodyOf Try.f61) (initT 0 [.ptr sp 0, .agg [.int .i64 (b.page : Nat), .int .i64 (b.slot : Nat), .int .i64 (lo : Nat), .int .i64 (n : Nat)]] .nil) σ = some (.ret, T1, σ.push (.row 4 true [.int .i64 (b.page : Nat), .int .i64 (b.slot : Nat), .int .i64 (lo : Nat), .int .i64 (n : Nat)])) ∧ T1.get 4 = some (.vs kw (intV (segW ws lo n))) := by
    simp only [bodyOf, Try.f61, Option.getD_some, initT, dx, reduceIte, zLt, zLe, zEq, zAd, zMu, zSu, zBe, yEq, yLt, yLe, yTn, reduceCtorEq, sx, fx61, ms, hne, w1, intV_length, b1, b2, Int.toNat_natCast, intV_one, intV_take, intV_drop, hseg, vk_self]
    exact ⟨_, rfl, by simp only [Tr.get_set, zEq, reduceIte]⟩
  obtain ⟨T1, h3, h4⟩ := run
  exact q_call (first := []) (caps := []) fn61 rfl (by simp [Try.f61]) h3 (by simp) (res_one h4)
/-- The loop over the slots of a page: what it gives, and the rows that it holds. -/
theorem slots_make {sp i : Nat} {kp : VK} {l : List PV} {hw : AVal} (ms : σ.get sp = some (.row 2 true [.vs kp (l.map pv), hw])) (hsp : sp < σ.next) (hi : i < l.length) : ∃ σ1, callN lawProg (k + 1) (.func 68 [] []) [.ptr sp 0, .int .i64 (i : Nat)] σ = some (.func 85 [] [.ptr σ.next 0, .ptr (σ.next + 1) 0, .ptr (σ.next + 2) 0], σ1) ∧ Ext σ σ1 ∧ σ1.next = σ.next + 3 ∧ σ1.get σ.next = some (.row 1 false [.ptr sp 0]) ∧ σ1.get (σ.next + 1) = some (.row 1 false [.int .i64 (i : Nat)]) ∧ σ1.get (σ.next + 2) = some (.row 1 false [.int .i64 (l[i]).1.n]) := by
  have hget := pv_get hi
  have q1 : ¬ σ.next = sp := by omega
  have q2 : ¬ σ.next + 1 = sp := by omega
  have q3 : ¬ σ.next + 2 = sp := by omega
  have run : ∃ T1, execC lawProg (callN lawProg k) k 68 16 (bodyOf Try.f68) (initT 0 [.ptr sp 0, .int .i64 (i : Nat)] .nil) σ = some (.ret, T1, (((σ.push (.row 1 false [.ptr sp 0])).push (.row 1 false [.int .i64 (i : Nat)])).push (.row 1 false [.int .i64 0])).put (σ.next + 2) (.row 1 false [.int .i64 (l[i]).1.n])) ∧ T1.get 4 = some (.func 85 [] [.ptr σ.next 0, .ptr (σ.next + 1) 0, .ptr (σ.next + 2) 0]) := by
    simp only [bodyOf, Try.f68, Option.getD_some, initT, dx, reduceIte, zLt, zLe, zEq, zAd, zMu, zSu, zBe, yEq, yLt, yLe, yTn, reduceCtorEq, sx, fx68, Nat.add_assoc, Nat.add_eq_left, Nat.left_eq_add, Nat.add_left_cancel_iff, ms, q1, q2, q3, List.length_map, Int.natCast_nonneg, Int.toNat_natCast, hget]
    exact ⟨_, rfl, by simp only [Tr.get_set, zEq, reduceIte]⟩
  obtain ⟨T1, h3, h4⟩ := run
  refine ⟨_, q_call (first := []) (caps := []) fn68 rfl (by simp [Try.f68]) h3 (by simp) (res_one h4), ((((Ext.push _ _).trans (Ext.push _ _)).trans (Ext.push _ _)).put _ _ (by omega)), by simp, ?_, ?_, ?_⟩
  · rw [AMem.get_put, if_neg (by omega), AMem.get_push, if_neg (by simp only [AMem.next_push]; omega), AMem.get_push, if_neg (by simp only [AMem.next_push]; omega), AMem.get_push, if_pos rfl]
  · rw [AMem.get_put, if_neg (by omega), AMem.get_push, if_neg (by simp only [AMem.next_push]; omega), AMem.get_push, if_pos (by simp)]
  · rw [AMem.get_put, if_pos rfl]
/-- The loop over the slots of a page: its body is called with each, until it says no. -/
theorem slots_exec {sp i r0 L : Nat} {kp : VK} {l : List PV} {hw : AVal} (I D : Nat → AMem → Prop) (hi : i < l.length) (hi2 : l.length ≤ 1000) (hu : (l[i]).1.used.length ≤ 1000) (hn : (l[i]).1.used = [] ∨ (0 ≤ (l[i]).1.n ∧ (l[i]).1.n ≤ 64)) (hk : 1000 < k)
    (hI : ∀ s σ, I s σ → σ.get sp = some (.row 2 true [.vs kp (l.map pv), hw]) ∧ σ.get r0 = some (.row 1 false [.ptr sp 0]) ∧ σ.get (r0 + 1) = some (.row 1 false [.int .i64 (i : Nat)]) ∧ σ.get (r0 + 2) = some (.row 1 false [.int .i64 (l[i]).1.n]))
    (hstep : ∀ s σ, s < (l[i]).1.used.length → I s σ → (∃ σ', callN lawProg k (.yield L) [.agg (blkC (slotB i (l[i]).1 s))] σ = some (.bool true, σ') ∧ I (s + 1) σ') ∨ (∃ σ', callN lawProg k (.yield L) [.agg (blkC (slotB i (l[i]).1 s))] σ = some (.bool false, σ') ∧ D s σ')) (h0 : I 0 σ) :
    ∃ σ', callN lawProg (k + 1) (.func 85 [] [.ptr r0 0, .ptr (r0 + 1) 0, .ptr (r0 + 2) 0]) [.yield L] σ = some (.tuple [], σ') ∧ (I (l[i]).1.used.length σ' ∨ ∃ s, D s σ') := by
  have hget := pv_get hi
  obtain ⟨m0, m1, m2, m3⟩ := hI 0 σ h0
  have hilt : ((i : Nat) : Int) < ((l.length : Nat) : Int) := by omega
  generalize l[i] = x at *
  obtain ⟨⟨kd, n, us⟩, vk⟩ := x
  simp only at *
  have run : ∃ e T1 σ1, execC lawProg (callN lawProg k) k 85 33 (bodyOf Try.f85) (initT 0 [.yield L, .ptr r0 0, .ptr (r0 + 1) 0, .ptr (r0 + 2) 0] .nil) σ = some (e, T1, σ1) ∧ (e = .normal ∨ e = .ret) ∧ (I us.length σ1 ∨ ∃ s, D s σ1) := by
    simp only [bodyOf, Try.f85, Option.getD_some, initT, dx, reduceIte, zLt, zLe, zEq, zAd, zMu, zSu, zBe, yEq, yLt, yLe, yTn, reduceCtorEq, sx, fx85, m0, m1, m2, m3, List.length_map, Int.natCast_nonneg, Int.toNat_natCast, hget, boolV_length]
    generalize hL : execC _ _ _ _ _ (Code.loop _) _ _ = q
    obtain ⟨e, T', σ', rfl, _, hc⟩ : ∃ e T' σ', q = some (e, T', σ') ∧ e ≠ .normal ∧ ((e = .ret ∧ ∃ s, D s σ') ∨ (e = .exit 0 ∧ I us.length σ')) := by
      rw [← hL]
      refine exec_loop2 (fun s T σ => s ≤ us.length ∧ T.get 0 = some (.yield L) ∧ T.get 2 = some (.ptr (r0 + 1) 0) ∧ T.get 3 = some (.ptr (r0 + 2) 0) ∧ T.get 15 = some (.int .i64 (us.length : Nat)) ∧ T.get 16 = some (.int .i64 (s : Nat)) ∧ I s σ) us.length (by omega) ?_ ?_ ?_
      · rintro s hs T σ ⟨_, t0, t2, t3, t15, t16, hi0⟩
        obtain ⟨_, _, m2, m3⟩ := hI s σ hi0
        have hlt : ((s : Nat) : Int) < ((us.length : Nat) : Int) := by omega
        have hw := i64_succ (i := s) (by omega)
        have hn2 : 0 ≤ n ∧ n ≤ 64 := by
          rcases hn with h | h
          · rw [h] at hs; simp at hs
          · exact h
        have hsn : (s : Int) * n ≤ 1000 * 64 ∧ 0 ≤ (s : Int) * n := by
          obtain ⟨m, rfl⟩ : ∃ m : Nat, n = (m : Int) := ⟨n.toNat, by omega⟩
          have h1 : s * m ≤ 1000 * 64 := Nat.mul_le_mul (by omega) (by omega)
          have h2 : ((s * m : Nat) : Int) = (s : Int) * (m : Int) := by simp
          omega
        have w1 : IntKind.i64.wrap (((i : Nat) : Int) * 64) = 64 * (i : Int) := by rw [i64_id (by omega) (by omega)]; omega
        have w2 : IntKind.i64.wrap (((s : Nat) : Int) * n) = (s : Int) * n := i64_id (by omega) (by omega)
        have w3 : IntKind.i64.wrap (64 * (i : Int) + (s : Int) * n) = 64 * (i : Int) + (s : Int) * n := i64_id (by omega) (by omega)
        rcases hstep s σ hs hi0 with ⟨σ', hy, h1⟩ | ⟨σ', hy, h1⟩
        · simp only [blkC, slotB] at hy
          refine .inl ⟨_, _, by
            simp only [dx, reduceIte, zLt, zLe, zEq, zAd, zMu, zSu, zBe, yEq, yLt, yLe, yTn, reduceCtorEq, sx, fx85, t0, t2, t3, t15, t16, m2, m3, hlt, w1, w2, w3, hy, hw]
            rfl, by omega, ?_, ?_, ?_, ?_, ?_, h1⟩
          · simp only [Tr.get_set, zEq, reduceIte, t0]
          · simp only [Tr.get_set, zEq, reduceIte, t2]
          · simp only [Tr.get_set, zEq, reduceIte, t3]
          · simp only [Tr.get_set, zEq, reduceIte, t15]
          · simp only [Tr.get_set, zEq, reduceIte]
        · simp only [blkC, slotB] at hy
          exact .inr ⟨_, _, _, by
            simp only [dx, reduceIte, zLt, zLe, zEq, zAd, zMu, zSu, zBe, yEq, yLt, yLe, yTn, reduceCtorEq, sx, fx85, t0, t2, t3, t15, t16, m2, m3, hlt, w1, w2, w3, hy]
            rfl, by simp, .inl ⟨rfl, s, h1⟩⟩
      · rintro T σ ⟨_, t0, t2, t3, t15, t16, hi0⟩
        have hge : ¬ (((us.length : Nat) : Int) < ((us.length : Nat) : Int)) := by omega
        exact ⟨_, _, _, by
          simp only [dx, reduceIte, zLt, zLe, zEq, zAd, zMu, zSu, zBe, yEq, yLt, yLe, yTn, reduceCtorEq, sx, fx85, t15, t16, hge]
          rfl, by simp, .inr ⟨rfl, hi0⟩⟩
      · refine ⟨Nat.zero_le _, ?_, ?_, ?_, ?_, ?_, h0⟩
        all_goals simp only [Tr.get_set, zEq, reduceIte] <;> rfl
    rcases hc with ⟨rfl, h1⟩ | ⟨rfl, h1⟩
    · simp only [dx, reduceIte, zLt, zLe, zEq, zAd, zMu, zSu, zBe, yEq, yLt, yLe, yTn, reduceCtorEq, sx, fx85]
      exact ⟨_, _, _, rfl, .inr rfl, .inr h1⟩
    · simp only [dx, reduceIte, zLt, zLe, zEq, zAd, zMu, zSu, zBe, yEq, yLt, yLe, yTn, reduceCtorEq, sx, fx85]
      exact ⟨_, _, _, rfl, .inl rfl, .inl h1⟩
  obtain ⟨e, T1, σ1, h2, h3, h4⟩ := run
  refine ⟨σ1, q_call (first := []) (vs := []) fn85 rfl (by simp [Try.f85]) h2 (fun i hc => ?_) rfl, h4⟩
  rcases h3 with rfl | rfl <;> cases hc
end Go.Proofs.Ytjkfdiglokkceaa

/- Heaps: the program's isSmall. -/
set_option maxRecDepth 100000
set_option linter.unusedSimpArgs false
set_option linter.unusedVariables false
namespace Go.Proofs.Ytjkfdiglokkceaa
open Go Go.Proofs.Ytjkfdiglokkceaa.Pale
variable {k : Nat} {σ : AMem}

theorem round_body {A : AProg} {call : CallA} {l : Nat} {r : ALoop} {args : List AVal} {T1 T2 : Tr AVal} {σ1 σ2 : AMem} (hl : σ.get l = some (.loop r)) (hst : r.state = .ready) (hn : args.length = r.params.length) (hN : r.params.all (· < r.N) = true)
    (ha : execC A call k r.fn r.N r.assign (setParams r.T r.params args) σ = some (.normal, T1, σ1)) (hl1 : σ1.get l = some (.loop r)) (hb : execC A call k r.fn r.N r.body T1 (σ1.put l (.loop (busyOf r))) = some (.normal, T2, σ2)) {r2 : ALoop} (h2 : σ2.get l = some (.loop r2)) :
    roundA A call k l args σ = some (.bool true, σ2.put l (.loop { r2 with state := .ready, pending := none })) := by
  unfold busyOf at hb
  simp only [roundA, hl, hn, hN, decide_true, Bool.and_self, if_true, ha, hl1, hst, hb, h2]
theorem round_ret {A : AProg} {call : CallA} {l : Nat} {r : ALoop} {args : List AVal} {T1 T2 : Tr AVal} {σ1 σ2 : AMem} (hl : σ.get l = some (.loop r)) (hst : r.state = .ready) (hn : args.length = r.params.length) (hN : r.params.all (· < r.N) = true)
    (ha : execC A call k r.fn r.N r.assign (setParams r.T r.params args) σ = some (.normal, T1, σ1)) (hl1 : σ1.get l = some (.loop r)) (hb : execC A call k r.fn r.N r.body T1 (σ1.put l (.loop (busyOf r))) = some (.ret, T2, σ2)) {r2 : ALoop} (h2 : σ2.get l = some (.loop r2)) :
    roundA A call k l args σ = some (.bool false, σ2.put l (.loop { r2 with state := .done, pending := some .ret })) := by
  unfold busyOf at hb
  simp only [roundA, hl, hn, hN, decide_true, Bool.and_self, if_true, ha, hl1, hst, hb, h2]
theorem q_range_ret {A : AProg} {call : CallA} {f N : Nat} {T : Tr AVal} {g : Operand} {ps : Array Nat} {a b : Code} {h : Nat} {fs cs : List AVal} {v : AVal} {σ2 : AMem} {r : ALoop} {e : AExit} (hg : evalO A T g = some (.func h fs cs))
    (hc : call (.func h fs cs) [.yield σ.next] (σ.push (.loop { state := .ready, pending := none, fn := f, N, T, params := ps.toList, assign := a, body := b })) = some (v, σ2)) (hr : σ2.get σ.next = some (.loop r)) (hs : r.state ≠ .busy) (hp : r.pending = some e) :
    execC A call k f N (.rangeFunc g ps a b) T σ = some (e, T, σ2.put σ.next (.loop { r with state := .exhausted })) := by
  simp only [execC, rangeA, hg, hc, hr, if_neg hs, hp]
theorem areZero_call {K : VK} {l : List Int} (hl : l.length + 6 ≤ k) (hl2 : l.length ≤ 100000) : callN lawProg k (.func 77 [] []) [.vs K (intV l), .func 83 [] []] σ = some (.bool (l.all zeroQ), σ.push (.row 1 false [.func 83 [] []])) := by
  obtain ⟨k, rfl⟩ : ∃ m, k = m + 4 := ⟨k - 4, by omega⟩
  exact areAll_exec (isZero_asks (by omega)) (by omega) hl2
noncomputable def loopS (T0 : Tr AVal) : ALoop := rfLoop Try.f84 84 T0
/-- What stands in memory while isSmall goes through the slots. -/
structure SmMem (T0 : Tr AVal) (σ0 : AMem) (c sp i : Nat) (kp : VK) (l : List PV) (hw : AVal) (x : PV) (ready : Bool) (σ : AMem) : Prop where
  ms : σ.get sp = some (.row 2 true [.vs kp (l.map pv), hw])
  m0 : σ.get c = some (.row 1 false [.ptr sp 0])
  m1 : σ.get (c + 1) = some (.row 1 false [.bool false])
  m2 : σ.get (c + 2) = some (.row 3 true [.int .u8 x.1.kind, .int .i64 x.1.n, .vs x.2 (boolV x.1.used)])
  m3 : σ.get (c + 3) = some (.row 1 false [.ptr sp 0])
  m4 : σ.get (c + 4) = some (.row 1 false [.int .i64 (i : Nat)])
  m5 : σ.get (c + 5) = some (.row 1 false [.int .i64 x.1.n])
  m6 : σ.get (c + 6) = some (.loop (if ready then loopS T0 else { loopS T0 with state := .done, pending := some .ret }))
  nx : c + 7 ≤ σ.next
  lo : ∀ r, r < c → σ.get r = σ0.get r
theorem small_round {T0 : Tr AVal} {σ0 : AMem} {c sp i s : Nat} {kp kw : VK} {l : List PV} {ws : List Int} {x : PV} {n : Nat} (hT2 : T0.get 2 = some (.ptr c 0)) (hT4 : T0.get 4 = some (.ptr (c + 1) 0)) (hT5 : T0.get 5 = some (.ptr (c + 2) 0)) (h : SmMem T0 σ0 c sp i kp l (.vs kw (intV ws)) x true σ) (hsp : sp < c) (hn : x.1.n = (n : Nat)) (hs : s < x.1.used.length) (hb : 64 * i + s * n + n ≤ ws.length) (hw : ws.length ≤ 10000) (hk : 200 ≤ k) (hn2 : n ≤ 64) :
    ((x.1.used[s]?.getD false = true ∨ ∀ q, 64 * i + s * n ≤ q → q < 64 * i + s * n + n → wdAt ws q = 0) ∧ ∃ σ', roundA lawProg (callN lawProg k) k (c + 6) [.agg (blkC (slotB i x.1 s))] σ = some (.bool true, σ') ∧ SmMem T0 σ0 c sp i kp l (.vs kw (intV ws)) x true σ') ∨
    ((¬ (x.1.used[s]?.getD false = true ∨ ∀ q, 64 * i + s * n ≤ q → q < 64 * i + s * n + n → wdAt ws q = 0)) ∧ ∃ σ', roundA lawProg (callN lawProg k) k (c + 6) [.agg (blkC (slotB i x.1 s))] σ = some (.bool false, σ') ∧ SmMem T0 σ0 c sp i kp l (.vs kw (intV ws)) x false σ') := by
  obtain ⟨ms, m0, m1, m2, m3, m4, m5, m6, nx, lo⟩ := h
  simp only [if_true] at m6
  obtain ⟨⟨kd, xn, us⟩, vk⟩ := x
  simp only at hn hs m2 m5 ⊢
  subst hn
  obtain ⟨d, hd⟩ : ∃ d, d = σ.next := ⟨_, rfl⟩
  obtain ⟨bl, hbl⟩ : ∃ b, b = slotB i ⟨kd, ((n : Nat) : Int), us⟩ s := ⟨_, rfl⟩
  have hat : bl.at_ = ((64 * i + s * n : Nat) : Int) := by rw [hbl]; simp [slotB]
  have hsz : bl.size = ((n : Nat) : Int) := by rw [hbl]; rfl
  have hslot : bl.slot = s := by rw [hbl]; rfl
  rw [← hbl]
  obtain ⟨B, hB⟩ : ∃ B, B = busyOf (loopS T0) := ⟨_, rfl⟩
  obtain ⟨σ1, hσ1⟩ : ∃ s, s = (σ.push (.row 4 true [.int .i64 0, .int .i64 0, .int .i64 0, .int .i64 0])).put σ.next (.row 4 true (blkC bl)) := ⟨_, rfl⟩
  have g1 : ∀ r, r < d → σ1.get r = σ.get r := fun r hr => by rw [hσ1, AMem.get_put, if_neg (by omega), AMem.get_push, if_neg (by omega)]
  have gd : σ1.get d = some (.row 4 true (blkC bl)) := by rw [hσ1, hd, AMem.get_put, if_pos rfl]
  have n1 : σ1.next = d + 1 := by rw [hσ1, hd]; simp
  have ha : ∃ T1, execC lawProg (callN lawProg k) k 84 59 (loopS T0).assign (setParams T0 (loopS T0).params [.agg (blkC bl)]) σ = some (.normal, T1, σ1) ∧ T1.get 2 = some (.ptr c 0) ∧ T1.get 4 = some (.ptr (c + 1) 0) ∧ T1.get 5 = some (.ptr (c + 2) 0) ∧ T1.get 6 = some (.ptr d 0) := by
    rw [hσ1, hd]
    simp only [loopS, rfLoop, bodyOf, Try.f84, Option.getD_some, rfOf]
    simp only [dx, reduceIte, zLt, zLe, zEq, zAd, zMu, zSu, zBe, yEq, yLt, yLe, yTn, reduceCtorEq, sx, fx84, blkC]
    exact ⟨_, rfl, by simp only [Tr.get_set, zEq, reduceIte, hT2], by simp only [Tr.get_set, zEq, reduceIte, hT4], by simp only [Tr.get_set, zEq, reduceIte, hT5], by simp only [Tr.get_set, zEq, reduceIte]⟩
  obtain ⟨T1, ha, u2, u4, u5, u6⟩ := ha
  obtain ⟨σb, hσb⟩ : ∃ s, s = σ1.put (c + 6) (.loop B) := ⟨_, rfl⟩
  have gb : ∀ r, r < d → r ≠ c + 6 → σb.get r = σ.get r := fun r hr hne => by rw [hσb, AMem.get_put, if_neg (fun h => hne h.symm), g1 r hr]
  have gbd : σb.get d = some (.row 4 true (blkC bl)) := by rw [hσb, AMem.get_put, if_neg (by omega)]; exact gd
  have nb : σb.next = d + 1 := by rw [hσb]; simpa using n1
  have bs : σb.get sp = some (.row 2 true [.vs kp (l.map pv), .vs kw (intV ws)]) := by rw [gb sp (by omega) (by omega)]; exact ms
  have b0 : σb.get c = some (.row 1 false [.ptr sp 0]) := by rw [gb c (by omega) (by omega)]; exact m0
  have b2 : σb.get (c + 2) = some (.row 3 true [.int .u8 kd, .int .i64 (n : Nat), .vs vk (boolV us)]) := by rw [gb (c + 2) (by omega) (by omega)]; exact m2
  have b6 : σb.get (c + 6) = some (.loop B) := by rw [hσb, AMem.get_put, if_pos rfl]
  have hget := boolV_get hs
  have hsl : ((s : Nat) : Int) < ((us.length : Nat) : Int) := by omega
  have keep : ∀ σ' : AMem, (∀ r, r < d → σ'.get r = σb.get r) → d ≤ σ'.next → ∀ rd : Bool, SmMem T0 σ0 c sp i kp l (.vs kw (intV ws)) (⟨kd, ((n : Nat) : Int), us⟩, vk) rd (σ'.put (c + 6) (.loop (if rd then loopS T0 else { loopS T0 with state := .done, pending := some .ret }))) := by
    intro σ' hσ' hnx rd
    have hh : ∀ r, r < d → r ≠ c + 6 → (σ'.put (c + 6) (.loop (if rd then loopS T0 else { loopS T0 with state := .done, pending := some .ret }))).get r = σ.get r := fun r h1 h2 => by rw [AMem.get_put, if_neg (fun h => h2 h.symm), hσ' r h1, gb r h1 h2]
    exact ⟨by rw [hh sp (by omega) (by omega)]; exact ms, by rw [hh c (by omega) (by omega)]; exact m0, by rw [hh (c + 1) (by omega) (by omega)]; exact m1, by rw [hh (c + 2) (by omega) (by omega)]; exact m2, by rw [hh (c + 3) (by omega) (by omega)]; exact m3, by rw [hh (c + 4) (by omega) (by omega)]; exact m4, by rw [hh (c + 5) (by omega) (by omega)]; exact m5, by rw [AMem.get_put, if_pos rfl], by simp only [AMem.next_put]; omega, fun r hr => by rw [hh r (by omega) (by omega)]; exact lo r hr⟩
  have hum : us[s]?.getD false = us[s] := by rw [List.getElem?_eq_getElem hs]; rfl
  rw [hum]
  obtain ⟨W, hW⟩ : ∃ W, W = segW ws (64 * i + s * n) n := ⟨_, rfl⟩
  have hwx := words_exec (k := k - 1) (σ := σb) (b := bl) (lo := 64 * i + s * n) (n := n) bs (by omega) hat hsz hb (by omega)
  rw [show k - 1 + 1 = k by omega, ← hW] at hwx
  have hWl : W.length = n := by rw [hW]; exact segW_length hb
  have haz := areZero_call (k := k) (σ := σb.push (.row 4 true (blkC bl))) (K := kw) (l := W) (by omega) (by omega)
  have hall : W.all zeroQ = true ↔ ∀ q, 64 * i + s * n ≤ q → q < 64 * i + s * n + n → wdAt ws q = 0 := by
    rw [hW, segW_all hb]
    simp only [zeroQ, beq_iff_eq]
  have hz1 : loopS T0 = { B with state := .ready, pending := none } := by rw [hB]; rfl
  have hz2 : ({ loopS T0 with state := .done, pending := some .ret } : ALoop) = { B with state := .done, pending := some .ret } := by rw [hB]; rfl
  simp only [blkC, hslot] at gbd hwx haz
  simp only [blkC, hslot] at ha
  cases hus : us[s] with
  | true =>
    rw [hus] at hget
    left
    refine ⟨.inl rfl, ?_⟩
    have hb2 : ∃ T2, execC lawProg (callN lawProg k) k 84 59 (loopS T0).body T1 σb = some (.normal, T2, σb) := by
      simp only [loopS, rfLoop, bodyOf, Try.f84, Option.getD_some, rfOf]
      simp only [dx, reduceIte, zLt, zLe, zEq, zAd, zMu, zSu, zBe, yEq, yLt, yLe, yTn, reduceCtorEq, sx, fx84, u2, u4, u5, u6, b2, gbd, hsl, boolV_length, Int.natCast_nonneg, Int.toNat_natCast, hget]
      exact ⟨_, rfl⟩
    obtain ⟨T2, hb2⟩ := hb2
    have key := round_body (A := lawProg) (call := callN lawProg k) (k := k) (σ := σ) (l := c + 6) (r := loopS T0) (args := [.agg (blkC bl)]) (T1 := T1) (T2 := T2) (σ1 := σ1) m6 rfl rfl rfl (by simp only [blkC, hslot]; exact ha) (by rw [g1 (c + 6) (by omega)]; exact m6) (by rw [← hB, ← hσb]; exact hb2) (r2 := B) b6
    rw [← hz1] at key
    exact ⟨_, key, by simpa using keep σb (fun _ _ => rfl) (by omega) true⟩
  | false =>
    rw [hus] at hget
    obtain ⟨σ2, hσ2⟩ : ∃ m, m = (σb.push (.row 4 true [.int .i64 (bl.page : Nat), .int .i64 (s : Nat), .int .i64 bl.at_, .int .i64 bl.size])).push (.row 1 false [.func 83 [] []]) := ⟨_, rfl⟩
    rw [← hσ2] at haz
    have g2 : ∀ r, r < d → σ2.get r = σb.get r := fun r hr => by rw [hσ2, AMem.get_push, if_neg (by simp only [AMem.next_push]; omega), AMem.get_push, if_neg (by omega)]
    have n2 : d ≤ σ2.next := by rw [hσ2]; simp only [AMem.next_push]; omega
    have b62 : σ2.get (c + 6) = some (.loop B) := by rw [g2 (c + 6) (by omega)]; exact b6
    have b12 : σ2.get (c + 1) = some (.row 1 false [.bool false]) := by rw [g2 (c + 1) (by omega), gb (c + 1) (by omega) (by omega)]; exact m1
    cases hzz : W.all zeroQ with
    | true =>
      rw [hzz] at haz
      left
      refine ⟨.inr (hall.1 hzz), ?_⟩
      have hb2 : ∃ T2, execC lawProg (callN lawProg k) k 84 59 (loopS T0).body T1 σb = some (.normal, T2, σ2) := by
        simp only [loopS, rfLoop, bodyOf, Try.f84, Option.getD_some, rfOf]
        simp only [dx, reduceIte, zLt, zLe, zEq, zAd, zMu, zSu, zBe, yEq, yLt, yLe, yTn, reduceCtorEq, sx, fx84, u2, u4, u5, u6, b0, b2, gbd, hsl, boolV_length, Int.natCast_nonneg, Int.toNat_natCast, hget, hwx, haz]
        exact ⟨_, rfl⟩
      obtain ⟨T2, hb2⟩ := hb2
      have key := round_body (A := lawProg) (call := callN lawProg k) (k := k) (σ := σ) (l := c + 6) (r := loopS T0) (args := [.agg (blkC bl)]) (T1 := T1) (T2 := T2) (σ1 := σ1) m6 rfl rfl rfl (by simp only [blkC, hslot]; exact ha) (by rw [g1 (c + 6) (by omega)]; exact m6) (by rw [← hB, ← hσb]; exact hb2) (r2 := B) b62
      rw [← hz1] at key
      exact ⟨_, key, by simpa using keep σ2 g2 n2 true⟩
    | false =>
      rw [hzz] at haz
      right
      refine ⟨fun h => ?_, ?_⟩
      · rcases h with h | h
        · cases h
        · rw [hall.2 h] at hzz; cases hzz
      have hb2 : ∃ T2, execC lawProg (callN lawProg k) k 84 59 (loopS T0).body T1 σb = some (.ret, T2, σ2.put (c + 1) (.row 1 false [.bool false])) := by
        simp only [loopS, rfLoop, bodyOf, Try.f84, Option.getD_some, rfOf]
        simp only [dx, reduceIte, zLt, zLe, zEq, zAd, zMu, zSu, zBe, yEq, yLt, yLe, yTn, reduceCtorEq, sx, fx84, u2, u4, u5, u6, b0, b2, gbd, hsl, boolV_length, Int.natCast_nonneg, Int.toNat_natCast, hget, hwx, haz, b12]
        exact ⟨_, rfl⟩
      obtain ⟨T2, hb2⟩ := hb2
      have key := round_ret (A := lawProg) (call := callN lawProg k) (k := k) (σ := σ) (l := c + 6) (r := loopS T0) (args := [.agg (blkC bl)]) (T1 := T1) (T2 := T2) (σ1 := σ1) m6 rfl rfl rfl (by simp only [blkC, hslot]; exact ha) (by rw [g1 (c + 6) (by omega)]; exact m6) (by rw [← hB, ← hσb]; exact hb2) (r2 := B) (by rw [AMem.get_put, if_neg (by omega)]; exact b62)
      rw [← hz2] at key
      have hk2 : ∀ r, r < d → (σ2.put (c + 1) (.row 1 false [.bool false])).get r = σb.get r := fun r hr => by
        rw [AMem.get_put]
        split
        · rename_i e
          rw [← e, gb (c + 1) (by omega) (by omega)]
          exact m1.symm
        · exact g2 r hr
      exact ⟨_, key, by simpa using keep (σ2.put (c + 1) (.row 1 false [.bool false])) hk2 (by simpa using n2) false⟩
end Go.Proofs.Ytjkfdiglokkceaa

/- Heaps: the program's isSmall, whole. -/
set_option maxRecDepth 100000
set_option linter.unusedSimpArgs false
set_option linter.unusedVariables false
namespace Go.Proofs.Ytjkfdiglokkceaa
open Go Go.Proofs.Ytjkfdiglokkceaa.Pale
variable {k : Nat} {σ : AMem}

def smallOk (i : Nat) (p : Pg) (ws : List Int) : Prop := isSz p.n = true ∧ (p.used.length : Int) = (64 : Int).tdiv p.n ∧ p.used.any id = true ∧ SlotsOk i p ws
theorem sz_len {p : Pg} (h1 : isSz p.n = true) (h2 : (p.used.length : Int) = (64 : Int).tdiv p.n) : ∃ n : Nat, p.n = (n : Nat) ∧ 2 ≤ n ∧ n ≤ 32 ∧ p.used.length * n = 64 := by
  rcases isSz_iff.1 h1 with e | e | e | e | e <;> rw [e] at h2 ⊢ <;> simp at h2
  · exact ⟨2, rfl, by omega, by omega, by omega⟩
  · exact ⟨4, rfl, by omega, by omega, by omega⟩
  · exact ⟨8, rfl, by omega, by omega, by omega⟩
  · exact ⟨16, rfl, by omega, by omega, by omega⟩
  · exact ⟨32, rfl, by omega, by omega, by omega⟩
theorem small_range {T0 : Tr AVal} {c sp i m : Nat} {kp kw : VK} {l : List PV} {ws : List Int} (hT2 : T0.get 2 = some (.ptr c 0)) (hT4 : T0.get 4 = some (.ptr (c + 1) 0)) (hT5 : T0.get 5 = some (.ptr (c + 2) 0)) (hT43 : T0.get 43 = some (.func 85 [] [.ptr (c + 3) 0, .ptr (c + 3 + 1) 0, .ptr (c + 3 + 2) 0])) (hi : i < l.length) (hl : l.length ≤ 40) (hw : ws.length = 64 * l.length) (hm : (l[i]).1.n = (m : Nat)) (hm2 : m ≤ 32) (hum : (l[i]).1.used.length * m = 64) (hu : (l[i]).1.used.length ≤ 1000) (hsp : sp < c) (hn : σ.next = c + 6)
    (ms : σ.get sp = some (.row 2 true [.vs kp (l.map pv), .vs kw (intV ws)])) (m0 : σ.get c = some (.row 1 false [.ptr sp 0])) (m1 : σ.get (c + 1) = some (.row 1 false [.bool false])) (m2 : σ.get (c + 2) = some (.row 3 true [.int .u8 (l[i]).1.kind, .int .i64 (l[i]).1.n, .vs (l[i]).2 (boolV (l[i]).1.used)])) (m3 : σ.get (c + 3) = some (.row 1 false [.ptr sp 0])) (m4 : σ.get (c + 3 + 1) = some (.row 1 false [.int .i64 (i : Nat)])) (m5 : σ.get (c + 3 + 2) = some (.row 1 false [.int .i64 (l[i]).1.n])) (hk : 1500 ≤ k) :
    ∃ e σ', execC lawProg (callN lawProg (k + 2)) (k + 2) 84 59 (.rangeFunc (.tmp 43) #[44] (loopS T0).assign (loopS T0).body) T0 σ = some (e, T0, σ') ∧ ((e = .normal ∧ SlotsOk i (l[i]).1 ws) ∨ (e = .ret ∧ ¬ SlotsOk i (l[i]).1 ws)) ∧ σ'.get (c + 1) = some (.row 1 false [.bool false]) ∧ (∀ r, r < c → σ'.get r = σ.get r) ∧ c + 3 ≤ σ'.next := by
  have hx0 : ∀ x, l[i] = x → l[i] = x := fun _ h => h
  obtain ⟨x, hx⟩ : ∃ x, x = l[i] := ⟨_, rfl⟩
  have hb : ∀ s, s < (l[i]).1.used.length → 64 * i + s * m + m ≤ ws.length := fun s hs => by
    have h1 : (s + 1) * m ≤ (l[i]).1.used.length * m := Nat.mul_le_mul_right _ (by omega)
    rw [Nat.succ_mul, hum] at h1
    omega
  have hq : ∀ s, (∀ q, 64 * i + s * m ≤ q → q < 64 * i + s * m + m → wdAt ws q = 0) ↔ ∀ q : Nat, 64 * (i : Int) + s * (l[i]).1.n ≤ q → (q : Int) < 64 * i + s * (l[i]).1.n + (l[i]).1.n → wdAt ws q = 0 := fun s => by
    rw [hm]
    have e : ((s * m : Nat) : Int) = (s : Int) * (m : Int) := by simp
    constructor
    · intro h q h1 h2
      exact h q (by omega) (by omega)
    · intro h q h1 h2
      exact h q (by omega) (by omega)
  have start : SmMem T0 σ c sp i kp l (.vs kw (intV ws)) l[i] true (σ.push (.loop (loopS T0))) := by
    refine ⟨?_, ?_, ?_, ?_, ?_, ?_, ?_, ?_, by simp; omega, fun r hr => ?_⟩
    · rw [AMem.get_push, if_neg (by omega)]; exact ms
    · rw [AMem.get_push, if_neg (by omega)]; exact m0
    · rw [AMem.get_push, if_neg (by omega)]; exact m1
    · rw [AMem.get_push, if_neg (by omega)]; exact m2
    · rw [AMem.get_push, if_neg (by omega)]; exact m3
    · rw [AMem.get_push, if_neg (by omega)]; exact m4
    · rw [AMem.get_push, if_neg (by omega)]; exact m5
    · rw [AMem.get_push, if_pos (by omega)]; simp
    · rw [AMem.get_push, if_neg (by omega)]
  obtain ⟨σ', hc, hres⟩ := slots_exec (k := k + 1) (σ := σ.push (.loop (loopS T0))) (sp := sp) (i := i) (r0 := c + 3) (L := c + 6) (kp := kp) (l := l) (hw := .vs kw (intV ws))
    (fun s σ' => SmMem T0 σ c sp i kp l (.vs kw (intV ws)) l[i] true σ' ∧ ∀ t, t < s → ((l[i]).1.used[t]?.getD false = true ∨ ∀ q, 64 * i + t * m ≤ q → q < 64 * i + t * m + m → wdAt ws q = 0))
    (fun s σ' => SmMem T0 σ c sp i kp l (.vs kw (intV ws)) l[i] false σ' ∧ s < (l[i]).1.used.length ∧ ¬ ((l[i]).1.used[s]?.getD false = true ∨ ∀ q, 64 * i + s * m ≤ q → q < 64 * i + s * m + m → wdAt ws q = 0))
    hi (by omega) hu (.inr (by omega)) (by omega) (fun s σ' h => ⟨h.1.ms, h.1.m3, h.1.m4, h.1.m5⟩) (fun s σ' hs h => by
      rcases small_round (k := k) (n := m) hT2 hT4 hT5 h.1 hsp hm hs (hb s hs) (by omega) (by omega) (by omega) with ⟨ok, σ2, hr, h2⟩ | ⟨no, σ2, hr, h2⟩
      · exact .inl ⟨σ2, by simp only [callN]; exact hr, h2, fun t ht => by
          by_cases e : t = s
          · subst e; exact ok
          · exact h.2 t (by omega)⟩
      · exact .inr ⟨σ2, by simp only [callN]; exact hr, h2, hs, no⟩) ⟨start, fun t ht => by omega⟩
  have hgo : evalO lawProg T0 (.tmp 43) = some (.func 85 [] [.ptr (c + 3) 0, .ptr (c + 3 + 1) 0, .ptr (c + 3 + 2) 0]) := hT43
  rcases hres with ⟨h, hall⟩ | ⟨s, h, hs, hno⟩
  · have key := q_range (A := lawProg) (call := callN lawProg (k + 2)) (k := k + 2) (f := 84) (N := 59) (T := T0) (σ := σ) (g := .tmp 43) (ps := #[44]) (a := (loopS T0).assign) (b := (loopS T0).body) (r := loopS T0) (v := .tuple []) (σ2 := σ') hgo (by rw [hn]; exact hc) (by rw [hn]; have := h.m6; simpa using this) (by intro h; cases h) rfl
    rw [hn] at key
    refine ⟨_, _, key, .inl ⟨rfl, fun s hs hus => ?_⟩, by rw [AMem.get_put, if_neg (by omega)]; exact h.m1, fun r hr => by rw [AMem.get_put, if_neg (by omega)]; exact h.lo r hr, by have := h.nx; simp only [AMem.next_put]; omega⟩
    rcases hall s hs with h1 | h1
    · rw [hus] at h1; cases h1
    · exact (hq s).1 h1
  · have key := q_range_ret (A := lawProg) (call := callN lawProg (k + 2)) (k := k + 2) (f := 84) (N := 59) (T := T0) (σ := σ) (g := .tmp 43) (ps := #[44]) (a := (loopS T0).assign) (b := (loopS T0).body) (r := { loopS T0 with state := .done, pending := some .ret }) (v := .tuple []) (σ2 := σ') (e := .ret) hgo (by rw [hn]; exact hc) (by rw [hn]; have := h.m6; simpa using this) (by intro h; cases h) rfl
    rw [hn] at key
    refine ⟨_, _, key, .inr ⟨rfl, fun hok => ?_⟩, by rw [AMem.get_put, if_neg (by omega)]; exact h.m1, fun r hr => by rw [AMem.get_put, if_neg (by omega)]; exact h.lo r hr, by have := h.nx; simp only [AMem.next_put]; omega⟩
    apply hno
    cases hus : (l[i]).1.used[s]?.getD false with
    | true => exact .inl rfl
    | false => exact .inr ((hq s).2 (hok s hs hus))
theorem small_range2 {T0 : Tr AVal} {c sp i m : Nat} {kp kw : VK} {l : List PV} {ws : List Int} (hT2 : T0.get 2 = some (.ptr c 0)) (hT4 : T0.get 4 = some (.ptr (c + 1) 0)) (hT5 : T0.get 5 = some (.ptr (c + 2) 0)) (hT43 : T0.get 43 = some (.func 85 [] [.ptr (c + 3) 0, .ptr (c + 3 + 1) 0, .ptr (c + 3 + 2) 0])) (hi : i < l.length) (hl : l.length ≤ 40) (hw : ws.length = 64 * l.length) (hm : (l[i]).1.n = (m : Nat)) (hm2 : m ≤ 32) (hum : (l[i]).1.used.length * m = 64) (hu : (l[i]).1.used.length ≤ 1000) (hsp : sp < c) (hn : σ.next = c + 6)
    (ms : σ.get sp = some (.row 2 true [.vs kp (l.map pv), .vs kw (intV ws)])) (m0 : σ.get c = some (.row 1 false [.ptr sp 0])) (m1 : σ.get (c + 1) = some (.row 1 false [.bool false])) (m2 : σ.get (c + 2) = some (.row 3 true [.int .u8 (l[i]).1.kind, .int .i64 (l[i]).1.n, .vs (l[i]).2 (boolV (l[i]).1.used)])) (m3 : σ.get (c + 3) = some (.row 1 false [.ptr sp 0])) (m4 : σ.get (c + 3 + 1) = some (.row 1 false [.int .i64 (i : Nat)])) (m5 : σ.get (c + 3 + 2) = some (.row 1 false [.int .i64 (l[i]).1.n])) (hk : 1500 ≤ k) {X : Out} (hX : execC lawProg (callN lawProg (k + 2)) (k + 2) 84 59 (.rangeFunc (.tmp 43) #[44] (loopS T0).assign (loopS T0).body) T0 σ = X) :
    ∃ e σ', X = some (e, T0, σ') ∧ ((e = .normal ∧ SlotsOk i (l[i]).1 ws) ∨ (e = .ret ∧ ¬ SlotsOk i (l[i]).1 ws)) ∧ σ'.get (c + 1) = some (.row 1 false [.bool false]) ∧ (∀ r, r < c → σ'.get r = σ.get r) ∧ c + 3 ≤ σ'.next := by
  rw [← hX]
  exact small_range hT2 hT4 hT5 hT43 hi hl hw hm hm2 hum hu hsp hn ms m0 m1 m2 m3 m4 m5 hk
theorem isSmall_exec {sp i : Nat} {kp kw : VK} {l : List PV} {ws : List Int} (ms : σ.get sp = some (.row 2 true [.vs kp (l.map pv), .vs kw (intV ws)])) (hsp : sp < σ.next) (hi : i < l.length) (hl : l.length ≤ 40) (hu : (l[i]).1.used.length ≤ 1000) (hw : ws.length = 64 * l.length) (hk : 3000 ≤ k) :
    ∃ b σ', callN lawProg k (.func 84 [] []) [.ptr sp 0, .int .i64 (i : Nat)] σ = some (.bool b, σ') ∧ Ext σ σ' ∧ (b = true ↔ smallOk i (l[i]).1 ws) := by
  obtain ⟨k, rfl⟩ : ∃ m, k = m + 3 := ⟨k - 3, by omega⟩
  have hget := pv_get hi
  have hilt : ((i : Nat) : Int) < ((l.length : Nat) : Int) := by omega
  have hmake := fun (σ1 : AMem) (h1 : σ1.get sp = some (.row 2 true [.vs kp (l.map pv), .vs kw (intV ws)])) (h2 : sp < σ1.next) => slots_make (k := k + 1) (σ := σ1) h1 h2 hi
  have hexec := fun (σ1 : AMem) (r0 L : Nat) (I D : Nat → AMem → Prop) (hn : (l[i]).1.used = [] ∨ (0 ≤ (l[i]).1.n ∧ (l[i]).1.n ≤ 64)) => slots_exec (k := k + 1) (σ := σ1) (sp := sp) (i := i) (r0 := r0) (L := L) (kp := kp) (l := l) (hw := .vs kw (intV ws)) I D hi (by omega) hu hn (by omega)
  generalize hx : l[i] = x at hget hu hmake hexec ⊢
  obtain ⟨⟨kd, n, us⟩, vk⟩ := x
  simp only at hget hu hmake hexec ⊢
  obtain ⟨c, hc⟩ : ∃ c, c = σ.next := ⟨_, rfl⟩
  obtain ⟨σ1, hσ1⟩ : ∃ s, s = (((σ.push (.row 1 false [.ptr sp 0])).push (.row 1 false [.bool false])).push (.row 3 true [.int .u8 0, .int .i64 0, .vs .nil []])).put (σ.next + 2) (.row 3 true [.int .u8 kd, .int .i64 n, .vs vk (boolV us)]) := ⟨_, rfl⟩
  have lo1 : ∀ r, r < c → σ1.get r = σ.get r := fun r hr => by rw [hσ1, AMem.get_put, if_neg (by omega), AMem.get_push, if_neg (by simp only [AMem.next_push]; omega), AMem.get_push, if_neg (by simp only [AMem.next_push]; omega), AMem.get_push, if_neg (by omega)]
  have c0 : σ1.get c = some (.row 1 false [.ptr sp 0]) := by rw [hσ1, hc, AMem.get_put, if_neg (by omega), AMem.get_push, if_neg (by simp only [AMem.next_push]; omega), AMem.get_push, if_neg (by simp only [AMem.next_push]; omega), AMem.get_push, if_pos rfl]
  have c1 : σ1.get (c + 1) = some (.row 1 false [.bool false]) := by rw [hσ1, hc, AMem.get_put, if_neg (by omega), AMem.get_push, if_neg (by simp only [AMem.next_push]; omega), AMem.get_push, if_pos (by simp)]
  have c2 : σ1.get (c + 2) = some (.row 3 true [.int .u8 kd, .int .i64 n, .vs vk (boolV us)]) := by rw [hσ1, hc, AMem.get_put, if_pos rfl]
  have n1 : σ1.next = c + 3 := by rw [hσ1, hc]; simp
  have s1 : σ1.get sp = some (.row 2 true [.vs kp (l.map pv), .vs kw (intV ws)]) := by rw [lo1 sp (by omega)]; exact ms
  have ex1 : Ext σ σ1 := ⟨by omega, fun r hr => lo1 r (by omega)⟩
  have q1 : ¬ σ.next = sp := by omega
  have q2 : ¬ σ.next + 1 = sp := by omega
  have q3 : ¬ σ.next + 2 = sp := by omega
  have hwi := fun (σ : AMem) => within_call (k := k + 2) (σ := σ) 2 32 n (by omega)
  have hcon := fun (σ : AMem) => contains_call (k := k + 2) (σ := σ) (x := .vs vk (boolV us)) (K := vk) (l := us) (S := []) rfl hu (by omega)
  have hdiv : isSz n = true → (¬ n = 0 ∧ IntKind.i64.wrap ((64 : Int).tdiv n) = (64 : Int).tdiv n) := fun h => by
    rcases isSz_iff.1 h with rfl | rfl | rfl | rfl | rfl <;> exact ⟨by decide, by rfl⟩
  have bad : ¬ smallOk i ⟨kd, n, us⟩ ws → (∃ T1, execC lawProg (callN lawProg (k + 2)) (k + 2) 84 59 (bodyOf Try.f84) (initT 0 [.ptr sp 0, .int .i64 (i : Nat)] .nil) σ = some (.ret, T1, σ1.put (c + 1) (.row 1 false [.bool false])) ∧ T1.get 4 = some (.ptr (c + 1) 0)) → ∃ b σ', callN lawProg (k + 3) (.func 84 [] []) [.ptr sp 0, .int .i64 (i : Nat)] σ = some (.bool b, σ') ∧ Ext σ σ' ∧ (b = true ↔ smallOk i ⟨kd, n, us⟩ ws) := by
    rintro hno ⟨T1, h1, h4⟩
    refine ⟨false, _, q_call (first := []) (caps := []) (vs := [.bool false]) fn84 rfl (by simp [Try.f84]) h1 (by simp) ?_, ?_, ?_⟩
    · simp only [Try.f84, resultsA, resultA, dx, reduceIte, zLt, zLe, zEq, zAd, zMu, zSu, zBe, yEq, yLt, yLe, yTn, reduceCtorEq, sx, fx84, h4]
    · exact ex1.put _ _ (by omega)
    · exact ⟨fun h => (by cases h), fun h => absurd h hno⟩
  by_cases h1 : 2 ≤ n ∧ n ≤ 32
  · rw [decide_eq_true h1] at hwi
    obtain ⟨m, rfl⟩ : ∃ m : Nat, n = (m : Int) := ⟨n.toNat, by omega⟩
    obtain ⟨o, ho, ho2⟩ := ones_call (k := k + 2) m (by omega) (by omega) (by omega)
    have hcv : IntKind.u64.wrap ((m : Nat) : Int) = ((m : Nat) : Int) := by
      show ((m : Nat) : Int) % 18446744073709551616 = _
      omega
    by_cases h2 : o = 1
    · have hb2 : (o != 1) = false := by rw [h2]; rfl
      obtain ⟨d1, d2⟩ := hdiv (ho2.1 h2)
      by_cases h3 : (us.length : Int) = (64 : Int).tdiv (m : Nat)
      · have hb3 : (((us.length : Nat) : Int) != (64 : Int).tdiv (m : Nat)) = false := by rw [h3]; exact bne_self_eq_false _
        cases h4 : us.any id with
        | true =>
          rw [h4] at hcon
          obtain ⟨_, m', hm', _, hm2, hum⟩ : True ∧ _ := ⟨trivial, sz_len (p := ⟨kd, ((m : Nat) : Int), us⟩) (ho2.1 h2) h3⟩
          simp only at hm' hum
          have hmm : m' = m := by omega
          subst hmm
          obtain ⟨σ3, e3, x3, n3, g3, g4, g5⟩ := hmake σ1 s1 (by omega)
          rw [n1] at e3 n3 g3 g4 g5
          have e3' : callN lawProg (k + 2) (.func 68 [] []) [.ptr sp 0, .int .i64 (i : Nat)] σ1 = _ := e3
          have k0 : σ3.get c = some (.row 1 false [.ptr sp 0]) := by rw [x3.2 c (by omega)]; exact c0
          have k1 : σ3.get (c + 1) = some (.row 1 false [.bool false]) := by rw [x3.2 (c + 1) (by omega)]; exact c1
          have k2 : σ3.get (c + 2) = some (.row 3 true [.int .u8 kd, .int .i64 (m' : Nat), .vs vk (boolV us)]) := by rw [x3.2 (c + 2) (by omega)]; exact c2
          have ks : σ3.get sp = some (.row 2 true [.vs kp (l.map pv), .vs kw (intV ws)]) := by rw [x3.2 sp (by omega)]; exact s1
          have run : ∃ e T1 σ4 b, execC lawProg (callN lawProg (k + 2)) (k + 2) 84 59 (bodyOf Try.f84) (initT 0 [.ptr sp 0, .int .i64 (i : Nat)] .nil) σ = some (.ret, T1, σ4) ∧ T1.get 4 = some (.ptr (c + 1) 0) ∧ σ4.get (c + 1) = some (.row 1 false [.bool b]) ∧ (∀ r, r < c → σ4.get r = σ3.get r) ∧ c + 3 ≤ σ4.next ∧ (b = true ↔ SlotsOk i ⟨kd, ((m' : Nat) : Int), us⟩ ws) ∧ e = AExit.ret := by
            simp only [bodyOf, Try.f84, Option.getD_some, initT, dx, reduceIte, zLt, zLe, zEq, zAd, zMu, zSu, zBe, yEq, yLt, yLe, yTn, reduceCtorEq, sx, fx84, Nat.add_assoc, Nat.add_eq_left, Nat.left_eq_add, Nat.add_left_cancel_iff, ms, q1, q2, q3, List.length_map, hilt, Int.natCast_nonneg, Int.toNat_natCast, hget, ← hσ1]
            simp only [dx, reduceIte, zLt, zLe, zEq, zAd, zMu, zSu, zBe, yEq, yLt, yLe, yTn, reduceCtorEq, sx, fx84, ← hc, c0, c1, c2, hwi, hcv, ho, hb2, d1, d2, boolV_length, hb3, hcon, e3']
            generalize hR : execC _ _ _ _ _ (Code.rangeFunc _ _ _ _) _ _ = r
            have hxi : (l[i]).1 = ⟨kd, ((m' : Nat) : Int), us⟩ := by rw [hx]
            obtain ⟨e, σ4, rfl, hcase, z1, z2, z3⟩ := small_range2 (c := c) (sp := sp) (i := i) (m := m') (kp := kp) (kw := kw) (l := l) (ws := ws) (by simp only [Tr.get_set, zEq, reduceIte]) (by simp only [Tr.get_set, zEq, reduceIte]) (by simp only [Tr.get_set, zEq, reduceIte]) (by simp only [Tr.get_set, zEq, reduceIte]) hi hl hw (by rw [hxi]) hm2 (by rw [hxi]; exact hum) (by rw [hxi]; exact hu) (by omega) (by omega) ks k0 k1 (by rw [hx]; exact k2) g3 g4 (by rw [hxi]; exact g5) (by omega) hR
            rw [hxi] at hcase
            rcases hcase with ⟨rfl, hok⟩ | ⟨rfl, hno⟩
            · simp only [dx, reduceIte, zLt, zLe, zEq, zAd, zMu, zSu, zBe, yEq, yLt, yLe, yTn, reduceCtorEq, sx, fx84, z1]
              exact ⟨_, _, _, true, rfl, by simp only [Tr.get_set, zEq, reduceIte], by rw [AMem.get_put, if_pos rfl], fun r hr => by rw [AMem.get_put, if_neg (by omega)]; exact z2 r hr, by simpa using z3, ⟨fun _ => hok, fun _ => rfl⟩, rfl⟩
            · simp only [dx, reduceIte, zLt, zLe, zEq, zAd, zMu, zSu, zBe, yEq, yLt, yLe, yTn, reduceCtorEq, sx, fx84]
              exact ⟨_, _, _, false, rfl, by simp only [Tr.get_set, zEq, reduceIte], z1, z2, z3, ⟨fun h => (by cases h), fun h => absurd h hno⟩, rfl⟩
          obtain ⟨_, T1, σ4, b, r1, r2, r3, r4, r5, r6, _⟩ := run
          refine ⟨b, σ4, q_call (first := []) (caps := []) (vs := [.bool b]) fn84 rfl (by simp [Try.f84]) r1 (by simp) ?_, ⟨by omega, fun r hr => by rw [r4 r (by omega), x3.2 r (by omega)]; exact ex1.2 r hr⟩, ?_⟩
          · simp only [Try.f84, resultsA, resultA, dx, reduceIte, zLt, zLe, zEq, zAd, zMu, zSu, zBe, yEq, yLt, yLe, yTn, reduceCtorEq, sx, fx84, r2, r3]
          · rw [r6]
            exact ⟨fun h => ⟨ho2.1 h2, h3, h4, h⟩, fun h => h.2.2.2⟩
        | false =>
          rw [h4] at hcon
          refine bad (fun h => by have := h.2.2.1; simp only at this; rw [h4] at this; cases this) ?_
          simp only [bodyOf, Try.f84, Option.getD_some, initT, dx, reduceIte, zLt, zLe, zEq, zAd, zMu, zSu, zBe, yEq, yLt, yLe, yTn, reduceCtorEq, sx, fx84, Nat.add_assoc, Nat.add_eq_left, Nat.left_eq_add, Nat.add_left_cancel_iff, ms, q1, q2, q3, List.length_map, hilt, Int.natCast_nonneg, Int.toNat_natCast, hget, ← hσ1]
          simp only [dx, reduceIte, zLt, zLe, zEq, zAd, zMu, zSu, zBe, yEq, yLt, yLe, yTn, reduceCtorEq, sx, fx84, ← hc, c1, c2, hwi, hcv, ho, hb2, d1, d2, boolV_length, hb3, hcon]
          exact ⟨_, rfl, by simp only [Tr.get_set, zEq, reduceIte]⟩
      · have hb3 : (((us.length : Nat) : Int) != (64 : Int).tdiv (m : Nat)) = true := by rw [bne_iff_ne]; exact h3
        refine bad (fun h => h3 h.2.1) ?_
        simp only [bodyOf, Try.f84, Option.getD_some, initT, dx, reduceIte, zLt, zLe, zEq, zAd, zMu, zSu, zBe, yEq, yLt, yLe, yTn, reduceCtorEq, sx, fx84, Nat.add_assoc, Nat.add_eq_left, Nat.left_eq_add, Nat.add_left_cancel_iff, ms, q1, q2, q3, List.length_map, hilt, Int.natCast_nonneg, Int.toNat_natCast, hget, ← hσ1]
        simp only [dx, reduceIte, zLt, zLe, zEq, zAd, zMu, zSu, zBe, yEq, yLt, yLe, yTn, reduceCtorEq, sx, fx84, ← hc, c1, c2, hwi, hcv, ho, hb2, d1, d2, boolV_length, hb3]
        exact ⟨_, rfl, by simp only [Tr.get_set, zEq, reduceIte]⟩
    · have hb2 : (o != 1) = true := by rw [bne_iff_ne]; exact h2
      refine bad (fun h => h2 (ho2.2 h.1)) ?_
      simp only [bodyOf, Try.f84, Option.getD_some, initT, dx, reduceIte, zLt, zLe, zEq, zAd, zMu, zSu, zBe, yEq, yLt, yLe, yTn, reduceCtorEq, sx, fx84, Nat.add_assoc, Nat.add_eq_left, Nat.left_eq_add, Nat.add_left_cancel_iff, ms, q1, q2, q3, List.length_map, hilt, Int.natCast_nonneg, Int.toNat_natCast, hget, ← hσ1]
      simp only [dx, reduceIte, zLt, zLe, zEq, zAd, zMu, zSu, zBe, yEq, yLt, yLe, yTn, reduceCtorEq, sx, fx84, ← hc, c1, c2, hwi, hcv, ho, hb2]
      exact ⟨_, rfl, by simp only [Tr.get_set, zEq, reduceIte]⟩
  · rw [decide_eq_false h1] at hwi
    refine bad (fun h => h1 (by have := isSz_iff.1 h.1; simp only at this; omega)) ?_
    simp only [bodyOf, Try.f84, Option.getD_some, initT, dx, reduceIte, zLt, zLe, zEq, zAd, zMu, zSu, zBe, yEq, yLt, yLe, yTn, reduceCtorEq, sx, fx84, Nat.add_assoc, Nat.add_eq_left, Nat.left_eq_add, Nat.add_left_cancel_iff, ms, q1, q2, q3, List.length_map, hilt, Int.natCast_nonneg, Int.toNat_natCast, hget, ← hσ1]
    simp only [dx, reduceIte, zLt, zLe, zEq, zAd, zMu, zSu, zBe, yEq, yLt, yLe, yTn, reduceCtorEq, sx, fx84, ← hc, c1, c2, hwi]
    exact ⟨_, rfl, by simp only [Tr.get_set, zEq, reduceIte]⟩
end Go.Proofs.Ytjkfdiglokkceaa

/- Heaps: the program's isRight. -/
set_option maxRecDepth 100000
set_option linter.unusedSimpArgs false
set_option linter.unusedVariables false
namespace Go.Proofs.Ytjkfdiglokkceaa
open Go Go.Proofs.Ytjkfdiglokkceaa.Pale
variable {k : Nat} {σ : AMem}

noncomputable def bodyP : Code := bodyOf Try.f64
/-- What the program asks of a page. -/
def PageOk' (ps : List Pg) (ws : List Int) (j : Nat) : Prop := pgShape ((ps.length : Int) - j) (moreAt ps j) (pgAt ps j) = true ∧ ((pgAt ps j).kind = 0 → FreeOk j ws) ∧ ((pgAt ps j).kind = 1 → SlotsOk j (pgAt ps j) ws)
set_option maxHeartbeats 2000000 in
theorem right_loop {T : Tr AVal} {sp : Nat} {kp kw : VK} {l : List PV} {ws : List Int} (t0 : T.get 0 = some (.ptr sp 0)) (t3 : T.get 3 = some (.int .i64 (l.length : Nat))) (t4 : T.get 4 = some (.int .i64 0)) (t41 : T.get 41 = some (.vs kp (l.map pv))) (t42 : T.get 42 = some (.int .i64 (l.length : Nat))) (t43 : T.get 43 = some (.int .i64 ((0 : Nat) : Int))) (ms : σ.get sp = some (.row 2 true [.vs kp (l.map pv), .vs kw (intV ws)])) (hsp : sp < σ.next) (hl : l.length ≤ 40) (hu : ∀ x, x ∈ l → x.1.used.length ≤ 1000) (hw : ws.length = 64 * l.length) (hk : 5000 ≤ k) :
    ∃ e T' σ', execC lawProg (callN lawProg k) k 64 104 (.loop (innerC (innerC (stmtC bodyP 6)))) T σ = some (e, T', σ') ∧ e ≠ .normal ∧ ((e = .ret ∧ T'.get 2 = some (.bool false) ∧ ¬ ∀ j, j < l.length → PageOk' (pgsOf l) ws j) ∨ (e = .exit 0 ∧ ∀ j, j < l.length → PageOk' (pgsOf l) ws j)) ∧ Ext σ σ' := by
  have hlp : (pgsOf l).length = l.length := by simp [pgsOf]
  suffices key : ∃ e T' σ', execC lawProg (callN lawProg k) k 64 104 (.loop (innerC (innerC (stmtC bodyP 6)))) T σ = some (e, T', σ') ∧ e ≠ .normal ∧ ((e = .ret ∧ T'.get 2 = some (.bool false) ∧ ¬ (∀ j, j < l.length → PageOk' (pgsOf l) ws j) ∧ Ext σ σ') ∨ (e = .exit 0 ∧ (∀ j, j < l.length → PageOk' (pgsOf l) ws j) ∧ Ext σ σ')) by
    obtain ⟨e, T', σ', h1, h2, h3⟩ := key
    rcases h3 with ⟨a, b, c, d⟩ | ⟨a, b, c⟩
    · exact ⟨e, T', σ', h1, h2, .inl ⟨a, b, c⟩, d⟩
    · exact ⟨e, T', σ', h1, h2, .inr ⟨a, b⟩, c⟩
  refine exec_loop2 (fun i T σ' => i ≤ l.length ∧ T.get 0 = some (.ptr sp 0) ∧ T.get 3 = some (.int .i64 (l.length : Nat)) ∧ T.get 4 = some (.int .i64 (moreAt (pgsOf l) i)) ∧ T.get 41 = some (.vs kp (l.map pv)) ∧ T.get 42 = some (.int .i64 (l.length : Nat)) ∧ T.get 43 = some (.int .i64 (i : Nat)) ∧ Ext σ σ' ∧ (0 ≤ moreAt (pgsOf l) i ∧ moreAt (pgsOf l) i ≤ 100) ∧ ∀ j, j < i → PageOk' (pgsOf l) ws j) l.length (by omega) ?_ ?_ ?_
  · rintro i hi T σ0 ⟨_, t0, t3, t4, t41, t42, t43, ex, ⟨hm1, hm2⟩, hsh⟩
    have hlt : ((i : Nat) : Int) < ((l.length : Nat) : Int) := by omega
    have hw' := i64_succ (i := i) (by omega)
    have hget := pv_get hi
    have hpg := pgAt_pgs hi
    have hms := moreAt_succ (ps := pgsOf l) (i := i) (by omega)
    have hux := hu l[i] (List.getElem_mem hi)
    obtain ⟨mo, hmo⟩ : ∃ m, m = moreAt (pgsOf l) i := ⟨_, rfl⟩
    have hmine : PageOk' (pgsOf l) ws i ↔ (pgShape ((l.length : Int) - i) mo (l[i]).1 = true ∧ ((l[i]).1.kind = 0 → FreeOk i ws) ∧ ((l[i]).1.kind = 1 → SlotsOk i (l[i]).1 ws)) := by unfold PageOk'; rw [hpg, hlp, ← hmo]
    have hbad : ¬ (pgShape ((l.length : Int) - i) mo (l[i]).1 = true ∧ ((l[i]).1.kind = 0 → FreeOk i ws) ∧ ((l[i]).1.kind = 1 → SlotsOk i (l[i]).1 ws)) → ¬ ∀ j, j < l.length → PageOk' (pgsOf l) ws j := fun h h2 => h (hmine.1 (h2 i hi))
    rw [hpg, ← hmo] at hms
    rw [← hmo] at t4 hm1 hm2
    obtain ⟨c, hc⟩ : ∃ c, c = σ0.next := ⟨_, rfl⟩
    have hnx0 := ex.1
    obtain ⟨σ1, hσ1⟩ : ∃ m, m = (σ0.push (.row 3 true [.int .u8 0, .int .i64 0, .vs .nil []])).put σ0.next (.row 3 true [.int .u8 (l[i]).1.kind, .int .i64 (l[i]).1.n, .vs (l[i]).2 (boolV (l[i]).1.used)]) := ⟨_, rfl⟩
    have lo1 : ∀ r, r < c → σ1.get r = σ0.get r := fun r hr => by rw [hσ1, AMem.get_put, if_neg (by omega), AMem.get_push, if_neg (by omega)]
    have mc : σ1.get c = some (.row 3 true [.int .u8 (l[i]).1.kind, .int .i64 (l[i]).1.n, .vs (l[i]).2 (boolV (l[i]).1.used)]) := by rw [hσ1, hc, AMem.get_put, if_pos rfl]
    have n1 : σ1.next = c + 1 := by rw [hσ1, hc]; simp
    have ex1 : Ext σ σ1 := ex.trans ⟨by omega, fun r hr => lo1 r (by omega)⟩
    have s1 : σ1.get sp = some (.row 2 true [.vs kp (l.map pv), .vs kw (intV ws)]) := by rw [ex1.2 sp hsp]; exact ms
    obtain ⟨bs, σ2, hsm, x2, hsmall⟩ := isSmall_exec (k := k) (σ := σ1) s1 (by omega) hi hl hux hw (by omega)
    have hpage := page_exec (k := k - 1) (σ := σ1) (n := i) s1 (by omega) (by omega)
    rw [show k - 1 + 1 = k by omega] at hpage
    have haz := areZero_call (k := k) (σ := σ1) (K := kw) (l := segW ws (64 * i) 64) (by rw [segW_length (by omega)]; omega) (by rw [segW_length (by omega)]; omega)
    have hfree : (segW ws (64 * i) 64).all zeroQ = true ↔ FreeOk i ws := by
      rw [segW_all (by omega)]
      simp only [zeroQ, beq_iff_eq]
      rfl
    have exz : Ext σ (σ1.push (.row 1 false [.func 83 [] []])) := ex1.trans (Ext.push _ _)
    have ex2 : Ext σ σ2 := ex1.trans x2
    generalize l[i] = x at hget hms hux hmine hbad hσ1 mc hsmall
    obtain ⟨⟨kd, n, us⟩, vk⟩ := x
    simp only at hget hms hux hmine hbad hσ1 mc hsmall
    have hwl : IntKind.i64.wrap (((l.length : Nat) : Int) - ((i : Nat) : Int)) = ((l.length : Nat) : Int) - i := i64_id (by omega) (by omega)
    have hwi := fun (σ : AMem) => within_call (k := k) (σ := σ) 1 (((l.length : Nat) : Int) - i) n (by omega)
    have hus : us.length = 0 → us = [] := List.eq_nil_of_length_eq_zero
    by_cases k3 : kd = 3
    · have hb3 : (kd == 3) = true := by rw [beq_iff_eq]; exact k3
      have hb0 : (kd == 0) = false := by rw [beq_eq_false_iff_ne]; omega
      have hb1 : (kd == 1) = false := by rw [beq_eq_false_iff_ne]; omega
      have hb2 : (kd == 2) = false := by rw [beq_eq_false_iff_ne]; omega
      have hb1n : (kd != 1) = true := by rw [bne_iff_ne]; omega
      by_cases hpos : mo > 0
      · have hbm : decide (mo > 0) = true := decide_eq_true hpos
        by_cases hlen : ((us.length : Nat) : Int) > 0
        · have hbl : decide (((us.length : Nat) : Int) > 0) = true := decide_eq_true hlen
          refine .inr ⟨_, _, _, by
              simp only [bodyP, bodyOf, Try.f64, Option.getD_some, flatC, innerC, stmtC, List.append_assoc, dx, reduceIte, zLt, zLe, zEq, zAd, zMu, zSu, zBe, yEq, yLt, yLe, yTn, reduceCtorEq, sx, fx64, t0, t3, t4, t41, t42, t43, hlt, List.length_map, Int.natCast_nonneg, Int.toNat_natCast, hget, ← hσ1]
              simp only [dx, reduceIte, zLt, zLe, zEq, zAd, zMu, zSu, zBe, yEq, yLt, yLe, yTn, reduceCtorEq, sx, fx64, aeq, eqBool, ← hc, mc, t0, t3, t4, t41, t42, t43, boolV_length, hbm, hb3, hb1n, hbl]
              rfl, by simp, .inl ⟨rfl, ?_, hbad (fun h => by obtain ⟨_, kk⟩ := shape_kind h.1; simp only at kk; rcases kk with ⟨e, _⟩ | ⟨e, _⟩ | ⟨e, _⟩ | ⟨_, _, e⟩ <;> first | omega | (rw [e] at hlen; simp at hlen)), ex1⟩⟩
          simp only [Tr.get_set, zEq, reduceIte]
        · have hbl : decide (((us.length : Nat) : Int) > 0) = false := decide_eq_false hlen
          by_cases hn0 : n = 0
          · have hz : (n == 0) = true := by rw [beq_iff_eq]; exact hn0
            have hwm : IntKind.i64.wrap (mo - 1) = mo - 1 := i64_id (by omega) (by omega)
            have hms2 : (if mo - 1 > 0 then mo - 1 else 0) = moreAt (pgsOf l) (i + 1) := by rw [hms, show nextMore mo ⟨kd, n, us⟩ = mo - 1 by simp [nextMore, k3]]; split <;> omega
            have hnext : 0 ≤ moreAt (pgsOf l) (i + 1) ∧ moreAt (pgsOf l) (i + 1) ≤ 100 := by rw [← hms2]; split <;> omega
            refine .inl ⟨_, _, by
                simp only [bodyP, bodyOf, Try.f64, Option.getD_some, flatC, innerC, stmtC, List.append_assoc, dx, reduceIte, zLt, zLe, zEq, zAd, zMu, zSu, zBe, yEq, yLt, yLe, yTn, reduceCtorEq, sx, fx64, t0, t3, t4, t41, t42, t43, hlt, List.length_map, Int.natCast_nonneg, Int.toNat_natCast, hget, ← hσ1]
                simp only [dx, reduceIte, zLt, zLe, zEq, zAd, zMu, zSu, zBe, yEq, yLt, yLe, yTn, reduceCtorEq, sx, fx64, aeq, eqBool, ← hc, mc, t0, t3, t4, t41, t42, t43, boolV_length, hbm, hb3, hb1n, hbl, hb0, hb1, hb2, hz, hwm, hw']
                rfl, by omega, ?_, ?_, ?_, ?_, ?_, ?_, ex1, hnext, fun j hj => ?_⟩
            · simp only [Tr.get_set, zEq, reduceIte, t0]
            · simp only [Tr.get_set, zEq, reduceIte, t3]
            · simp only [Tr.get_set, zEq, reduceIte, hms2]
            · simp only [Tr.get_set, zEq, reduceIte, t41]
            · simp only [Tr.get_set, zEq, reduceIte, t42]
            · simp only [Tr.get_set, zEq, reduceIte]
            · by_cases e : j = i
              · subst e
                exact hmine.2 ⟨by simp [pgShape, k3, hpos, hn0, hus (by omega)], ⟨fun h => by omega, fun h => by omega⟩⟩
              · exact hsh j (by omega)
          · have hz : (n == 0) = false := by rw [beq_eq_false_iff_ne]; exact hn0
            refine .inr ⟨_, _, _, by
                simp only [bodyP, bodyOf, Try.f64, Option.getD_some, flatC, innerC, stmtC, List.append_assoc, dx, reduceIte, zLt, zLe, zEq, zAd, zMu, zSu, zBe, yEq, yLt, yLe, yTn, reduceCtorEq, sx, fx64, t0, t3, t4, t41, t42, t43, hlt, List.length_map, Int.natCast_nonneg, Int.toNat_natCast, hget, ← hσ1]
                simp only [dx, reduceIte, zLt, zLe, zEq, zAd, zMu, zSu, zBe, yEq, yLt, yLe, yTn, reduceCtorEq, sx, fx64, aeq, eqBool, ← hc, mc, t0, t3, t4, t41, t42, t43, boolV_length, hbm, hb3, hb1n, hbl, hb0, hb1, hb2, hz]
                rfl, by simp, .inl ⟨rfl, ?_, hbad (fun h => by obtain ⟨_, kk⟩ := shape_kind h.1; simp only at kk; omega), ex1⟩⟩
            simp only [Tr.get_set, zEq, reduceIte]
      · have hbm : decide (mo > 0) = false := decide_eq_false hpos
        refine .inr ⟨_, _, _, by
            simp only [bodyP, bodyOf, Try.f64, Option.getD_some, flatC, innerC, stmtC, List.append_assoc, dx, reduceIte, zLt, zLe, zEq, zAd, zMu, zSu, zBe, yEq, yLt, yLe, yTn, reduceCtorEq, sx, fx64, t0, t3, t4, t41, t42, t43, hlt, List.length_map, Int.natCast_nonneg, Int.toNat_natCast, hget, ← hσ1]
            simp only [dx, reduceIte, zLt, zLe, zEq, zAd, zMu, zSu, zBe, yEq, yLt, yLe, yTn, reduceCtorEq, sx, fx64, aeq, eqBool, ← hc, mc, t0, t3, t4, t41, t42, t43, boolV_length, hbm, hb3]
            rfl, by simp, .inl ⟨rfl, ?_, hbad (fun h => hpos ((shape_kind h.1).1.1 k3)), ex1⟩⟩
        simp only [Tr.get_set, zEq, reduceIte]
    · have hb3 : (kd == 3) = false := by rw [beq_eq_false_iff_ne]; exact k3
      by_cases hpos : mo > 0
      · have hbm : decide (mo > 0) = true := decide_eq_true hpos
        refine .inr ⟨_, _, _, by
            simp only [bodyP, bodyOf, Try.f64, Option.getD_some, flatC, innerC, stmtC, List.append_assoc, dx, reduceIte, zLt, zLe, zEq, zAd, zMu, zSu, zBe, yEq, yLt, yLe, yTn, reduceCtorEq, sx, fx64, t0, t3, t4, t41, t42, t43, hlt, List.length_map, Int.natCast_nonneg, Int.toNat_natCast, hget, ← hσ1]
            simp only [dx, reduceIte, zLt, zLe, zEq, zAd, zMu, zSu, zBe, yEq, yLt, yLe, yTn, reduceCtorEq, sx, fx64, aeq, eqBool, ← hc, mc, t0, t3, t4, t41, t42, t43, boolV_length, hbm, hb3]
            rfl, by simp, .inl ⟨rfl, ?_, hbad (fun h => k3 ((shape_kind h.1).1.2 hpos)), ex1⟩⟩
        simp only [Tr.get_set, zEq, reduceIte]
      · have hbm : decide (mo > 0) = false := decide_eq_false hpos
        have hmo0 : mo = 0 := by omega
        by_cases k1 : kd = 1
        · have hb1 : (kd == 1) = true := by rw [beq_iff_eq]; exact k1
          have hb0 : (kd == 0) = false := by rw [beq_eq_false_iff_ne]; omega
          have hb1n : (kd != 1) = false := by rw [k1]; rfl
          cases hbs : bs with
          | true =>
            rw [hbs] at hsm hsmall
            have hok := hsmall.1 rfl
            have hwm : IntKind.i64.wrap (mo - 1) = mo - 1 := i64_id (by omega) (by omega)
            have hms2 : (if mo - 1 > 0 then mo - 1 else 0) = moreAt (pgsOf l) (i + 1) := by rw [hms, show nextMore mo ⟨kd, n, us⟩ = mo by simp [nextMore, k1]]; split <;> omega
            have hnext : 0 ≤ moreAt (pgsOf l) (i + 1) ∧ moreAt (pgsOf l) (i + 1) ≤ 100 := by rw [← hms2]; split <;> omega
            refine .inl ⟨_, _, by
                simp only [bodyP, bodyOf, Try.f64, Option.getD_some, flatC, innerC, stmtC, List.append_assoc, dx, reduceIte, zLt, zLe, zEq, zAd, zMu, zSu, zBe, yEq, yLt, yLe, yTn, reduceCtorEq, sx, fx64, t0, t3, t4, t41, t42, t43, hlt, List.length_map, Int.natCast_nonneg, Int.toNat_natCast, hget, ← hσ1]
                simp only [dx, reduceIte, zLt, zLe, zEq, zAd, zMu, zSu, zBe, yEq, yLt, yLe, yTn, reduceCtorEq, sx, fx64, aeq, eqBool, ← hc, mc, t0, t3, t4, t41, t42, t43, boolV_length, hbm, hb3, hb1n, hb0, hb1, hsm, hwm, hw']
                rfl, by omega, ?_, ?_, ?_, ?_, ?_, ?_, ex2, hnext, fun j hj => ?_⟩
            · simp only [Tr.get_set, zEq, reduceIte, t0]
            · simp only [Tr.get_set, zEq, reduceIte, t3]
            · simp only [Tr.get_set, zEq, reduceIte, hms2]
            · simp only [Tr.get_set, zEq, reduceIte, t41]
            · simp only [Tr.get_set, zEq, reduceIte, t42]
            · simp only [Tr.get_set, zEq, reduceIte]
            · by_cases e : j = i
              · subst e
                exact hmine.2 ⟨by obtain ⟨o1, o2, o3, _⟩ := hok; simp only at o1 o2 o3; unfold pgShape; simp only; rw [if_neg (by omega), if_pos k1, o1, o2, o3]; simp [k3, hpos], ⟨fun h => by omega, fun _ => hok.2.2.2⟩⟩
              · exact hsh j (by omega)
          | false =>
            rw [hbs] at hsm hsmall
            refine .inr ⟨_, _, _, by
                simp only [bodyP, bodyOf, Try.f64, Option.getD_some, flatC, innerC, stmtC, List.append_assoc, dx, reduceIte, zLt, zLe, zEq, zAd, zMu, zSu, zBe, yEq, yLt, yLe, yTn, reduceCtorEq, sx, fx64, t0, t3, t4, t41, t42, t43, hlt, List.length_map, Int.natCast_nonneg, Int.toNat_natCast, hget, ← hσ1]
                simp only [dx, reduceIte, zLt, zLe, zEq, zAd, zMu, zSu, zBe, yEq, yLt, yLe, yTn, reduceCtorEq, sx, fx64, aeq, eqBool, ← hc, mc, t0, t3, t4, t41, t42, t43, boolV_length, hbm, hb3, hb1n, hb0, hb1, hsm]
                rfl, by simp, .inl ⟨rfl, ?_, hbad (fun h => by obtain ⟨_, kk⟩ := shape_kind h.1; simp only at kk; rcases kk with ⟨e, _⟩ | ⟨_, e1, e2, e3⟩ | ⟨e, _⟩ | ⟨e, _⟩ <;> first | omega | (have := hsmall.2 ⟨e1, e2, e3, h.2.2 k1⟩; cases this)), ex2⟩⟩
            simp only [Tr.get_set, zEq, reduceIte]
        · have hb1 : (kd == 1) = false := by rw [beq_eq_false_iff_ne]; exact k1
          have hb1n : (kd != 1) = true := by rw [bne_iff_ne]; exact k1
          by_cases hlen : ((us.length : Nat) : Int) > 0
          · have hbl : decide (((us.length : Nat) : Int) > 0) = true := decide_eq_true hlen
            refine .inr ⟨_, _, _, by
                simp only [bodyP, bodyOf, Try.f64, Option.getD_some, flatC, innerC, stmtC, List.append_assoc, dx, reduceIte, zLt, zLe, zEq, zAd, zMu, zSu, zBe, yEq, yLt, yLe, yTn, reduceCtorEq, sx, fx64, t0, t3, t4, t41, t42, t43, hlt, List.length_map, Int.natCast_nonneg, Int.toNat_natCast, hget, ← hσ1]
                simp only [dx, reduceIte, zLt, zLe, zEq, zAd, zMu, zSu, zBe, yEq, yLt, yLe, yTn, reduceCtorEq, sx, fx64, aeq, eqBool, ← hc, mc, t0, t3, t4, t41, t42, t43, boolV_length, hbm, hb3, hb1n, hbl]
                rfl, by simp, .inl ⟨rfl, ?_, hbad (fun h => by obtain ⟨_, kk⟩ := shape_kind h.1; simp only at kk; rcases kk with ⟨_, _, e⟩ | ⟨e, _⟩ | ⟨_, _, _, e⟩ | ⟨_, _, e⟩ <;> first | omega | (rw [e] at hlen; simp at hlen)), ex1⟩⟩
            simp only [Tr.get_set, zEq, reduceIte]
          · have hbl : decide (((us.length : Nat) : Int) > 0) = false := decide_eq_false hlen
            by_cases k0 : kd = 0
            · have hb0 : (kd == 0) = true := by rw [beq_iff_eq]; exact k0
              by_cases hn0 : n = 0
              · have hz : (n == 0) = true := by rw [beq_iff_eq]; exact hn0
                cases hfz : (segW ws (64 * i) 64).all zeroQ with
                | true =>
                  rw [hfz] at haz
                  have hwm : IntKind.i64.wrap (mo - 1) = mo - 1 := i64_id (by omega) (by omega)
                  have hms2 : (if mo - 1 > 0 then mo - 1 else 0) = moreAt (pgsOf l) (i + 1) := by rw [hms, show nextMore mo ⟨kd, n, us⟩ = mo by simp [nextMore, k0]]; split <;> omega
                  have hnext : 0 ≤ moreAt (pgsOf l) (i + 1) ∧ moreAt (pgsOf l) (i + 1) ≤ 100 := by rw [← hms2]; split <;> omega
                  refine .inl ⟨_, _, by
                      simp only [bodyP, bodyOf, Try.f64, Option.getD_some, flatC, innerC, stmtC, List.append_assoc, dx, reduceIte, zLt, zLe, zEq, zAd, zMu, zSu, zBe, yEq, yLt, yLe, yTn, reduceCtorEq, sx, fx64, t0, t3, t4, t41, t42, t43, hlt, List.length_map, Int.natCast_nonneg, Int.toNat_natCast, hget, ← hσ1]
                      simp only [dx, reduceIte, zLt, zLe, zEq, zAd, zMu, zSu, zBe, yEq, yLt, yLe, yTn, reduceCtorEq, sx, fx64, aeq, eqBool, ← hc, mc, t0, t3, t4, t41, t42, t43, boolV_length, hbm, hb3, hb1n, hbl, hb0, hz, hpage, haz, hwm, hw']
                      rfl, by omega, ?_, ?_, ?_, ?_, ?_, ?_, exz, hnext, fun j hj => ?_⟩
                  · simp only [Tr.get_set, zEq, reduceIte, t0]
                  · simp only [Tr.get_set, zEq, reduceIte, t3]
                  · simp only [Tr.get_set, zEq, reduceIte, hms2]
                  · simp only [Tr.get_set, zEq, reduceIte, t41]
                  · simp only [Tr.get_set, zEq, reduceIte, t42]
                  · simp only [Tr.get_set, zEq, reduceIte]
                  · by_cases e : j = i
                    · subst e
                      exact hmine.2 ⟨by simp [pgShape, k0, hmo0, hn0, hus (by omega)], ⟨fun _ => hfree.1 hfz, fun h => by omega⟩⟩
                    · exact hsh j (by omega)
                | false =>
                  rw [hfz] at haz
                  refine .inr ⟨_, _, _, by
                      simp only [bodyP, bodyOf, Try.f64, Option.getD_some, flatC, innerC, stmtC, List.append_assoc, dx, reduceIte, zLt, zLe, zEq, zAd, zMu, zSu, zBe, yEq, yLt, yLe, yTn, reduceCtorEq, sx, fx64, t0, t3, t4, t41, t42, t43, hlt, List.length_map, Int.natCast_nonneg, Int.toNat_natCast, hget, ← hσ1]
                      simp only [dx, reduceIte, zLt, zLe, zEq, zAd, zMu, zSu, zBe, yEq, yLt, yLe, yTn, reduceCtorEq, sx, fx64, aeq, eqBool, ← hc, mc, t0, t3, t4, t41, t42, t43, boolV_length, hbm, hb3, hb1n, hbl, hb0, hz, hpage, haz]
                      rfl, by simp, .inl ⟨rfl, ?_, hbad (fun h => by rw [hfree.2 (h.2.1 k0)] at hfz; cases hfz), exz⟩⟩
                  simp only [Tr.get_set, zEq, reduceIte]
              · have hz : (n == 0) = false := by rw [beq_eq_false_iff_ne]; exact hn0
                refine .inr ⟨_, _, _, by
                    simp only [bodyP, bodyOf, Try.f64, Option.getD_some, flatC, innerC, stmtC, List.append_assoc, dx, reduceIte, zLt, zLe, zEq, zAd, zMu, zSu, zBe, yEq, yLt, yLe, yTn, reduceCtorEq, sx, fx64, t0, t3, t4, t41, t42, t43, hlt, List.length_map, Int.natCast_nonneg, Int.toNat_natCast, hget, ← hσ1]
                    simp only [dx, reduceIte, zLt, zLe, zEq, zAd, zMu, zSu, zBe, yEq, yLt, yLe, yTn, reduceCtorEq, sx, fx64, aeq, eqBool, ← hc, mc, t0, t3, t4, t41, t42, t43, boolV_length, hbm, hb3, hb1n, hbl, hb0, hz]
                    rfl, by simp, .inl ⟨rfl, ?_, hbad (fun h => by obtain ⟨_, kk⟩ := shape_kind h.1; simp only at kk; omega), ex1⟩⟩
                simp only [Tr.get_set, zEq, reduceIte]
            · have hb0 : (kd == 0) = false := by rw [beq_eq_false_iff_ne]; exact k0
              by_cases k2 : kd = 2
              · have hb2 : (kd == 2) = true := by rw [beq_iff_eq]; exact k2
                by_cases hin : 1 ≤ n ∧ n ≤ ((l.length : Nat) : Int) - i
                · rw [decide_eq_true hin] at hwi
                  have hwm : IntKind.i64.wrap (n - 1) = n - 1 := i64_id (by omega) (by omega)
                  have hms2 : (if n - 1 > 0 then n - 1 else 0) = moreAt (pgsOf l) (i + 1) := by rw [hms, show nextMore mo ⟨kd, n, us⟩ = n - 1 by simp [nextMore, k2]]; split <;> omega
                  have hnext : 0 ≤ moreAt (pgsOf l) (i + 1) ∧ moreAt (pgsOf l) (i + 1) ≤ 100 := by rw [← hms2]; split <;> omega
                  refine .inl ⟨_, _, by
                      simp only [bodyP, bodyOf, Try.f64, Option.getD_some, flatC, innerC, stmtC, List.append_assoc, dx, reduceIte, zLt, zLe, zEq, zAd, zMu, zSu, zBe, yEq, yLt, yLe, yTn, reduceCtorEq, sx, fx64, t0, t3, t4, t41, t42, t43, hlt, List.length_map, Int.natCast_nonneg, Int.toNat_natCast, hget, ← hσ1]
                      simp only [dx, reduceIte, zLt, zLe, zEq, zAd, zMu, zSu, zBe, yEq, yLt, yLe, yTn, reduceCtorEq, sx, fx64, aeq, eqBool, ← hc, mc, t0, t3, t4, t41, t42, t43, boolV_length, hbm, hb3, hb1n, hbl, hb0, hb1, hb2, hwl, hwi, hwm, hw']
                      rfl, by omega, ?_, ?_, ?_, ?_, ?_, ?_, ex1, hnext, fun j hj => ?_⟩
                  · simp only [Tr.get_set, zEq, reduceIte, t0]
                  · simp only [Tr.get_set, zEq, reduceIte, t3]
                  · simp only [Tr.get_set, zEq, reduceIte, hms2]
                  · simp only [Tr.get_set, zEq, reduceIte, t41]
                  · simp only [Tr.get_set, zEq, reduceIte, t42]
                  · simp only [Tr.get_set, zEq, reduceIte]
                  · by_cases e : j = i
                    · subst e
                      exact hmine.2 ⟨by simp [pgShape, k2, hmo0, hin.1, hin.2, hus (by omega)], ⟨fun h => by omega, fun h => by omega⟩⟩
                    · exact hsh j (by omega)
                · rw [decide_eq_false hin] at hwi
                  refine .inr ⟨_, _, _, by
                      simp only [bodyP, bodyOf, Try.f64, Option.getD_some, flatC, innerC, stmtC, List.append_assoc, dx, reduceIte, zLt, zLe, zEq, zAd, zMu, zSu, zBe, yEq, yLt, yLe, yTn, reduceCtorEq, sx, fx64, t0, t3, t4, t41, t42, t43, hlt, List.length_map, Int.natCast_nonneg, Int.toNat_natCast, hget, ← hσ1]
                      simp only [dx, reduceIte, zLt, zLe, zEq, zAd, zMu, zSu, zBe, yEq, yLt, yLe, yTn, reduceCtorEq, sx, fx64, aeq, eqBool, ← hc, mc, t0, t3, t4, t41, t42, t43, boolV_length, hbm, hb3, hb1n, hbl, hb0, hb1, hb2, hwl, hwi]
                      rfl, by simp, .inl ⟨rfl, ?_, hbad (fun h => by obtain ⟨_, kk⟩ := shape_kind h.1; simp only at kk; omega), ex1⟩⟩
                  simp only [Tr.get_set, zEq, reduceIte]
              · have hb2 : (kd == 2) = false := by rw [beq_eq_false_iff_ne]; exact k2
                refine .inr ⟨_, _, _, by
                    simp only [bodyP, bodyOf, Try.f64, Option.getD_some, flatC, innerC, stmtC, List.append_assoc, dx, reduceIte, zLt, zLe, zEq, zAd, zMu, zSu, zBe, yEq, yLt, yLe, yTn, reduceCtorEq, sx, fx64, t0, t3, t4, t41, t42, t43, hlt, List.length_map, Int.natCast_nonneg, Int.toNat_natCast, hget, ← hσ1]
                    simp only [dx, reduceIte, zLt, zLe, zEq, zAd, zMu, zSu, zBe, yEq, yLt, yLe, yTn, reduceCtorEq, sx, fx64, aeq, eqBool, ← hc, mc, t0, t3, t4, t41, t42, t43, boolV_length, hbm, hb3, hb1n, hbl, hb0, hb1, hb2]
                    rfl, by simp, .inl ⟨rfl, ?_, hbad (fun h => by obtain ⟨_, kk⟩ := shape_kind h.1; simp only at kk; omega), ex1⟩⟩
                simp only [Tr.get_set, zEq, reduceIte]
  · rintro T σ' ⟨_, t0, t3, t4, t41, t42, t43, ex, _, hsh⟩
    have hge : ¬ (((l.length : Nat) : Int) < ((l.length : Nat) : Int)) := by omega
    exact ⟨_, _, _, by
      simp only [bodyP, bodyOf, Try.f64, Option.getD_some, flatC, innerC, stmtC, List.append_assoc, dx, reduceIte, zLt, zLe, zEq, zAd, zMu, zSu, zBe, yEq, yLt, yLe, yTn, reduceCtorEq, sx, fx64, t42, t43, hge]
      rfl, by simp, .inr ⟨rfl, hsh, ex⟩⟩
  · exact ⟨Nat.zero_le _, t0, t3, by rw [moreAt_zero]; exact t4, t41, t42, t43, Ext.refl _, by rw [moreAt_zero]; omega, fun j hj => by omega⟩
end Go.Proofs.Ytjkfdiglokkceaa

/- Heaps: the program's isRight, whole. -/
set_option maxRecDepth 100000
set_option linter.unusedSimpArgs false
set_option linter.unusedVariables false
namespace Go.Proofs.Ytjkfdiglokkceaa
open Go Go.Proofs.Ytjkfdiglokkceaa.Pale
variable {k : Nat} {σ : AMem}

theorem areWord_call {K : VK} {l : List Int} (hl : l.length + 8 ≤ k) (hl2 : l.length ≤ 100000) : callN lawProg k (.func 77 [] []) [.vs K (intV l), .func 78 [] []] σ = some (.bool (l.all wordQ), σ.push (.row 1 false [.func 78 [] []])) := by
  obtain ⟨k, rfl⟩ : ∃ m, k = m + 4 := ⟨k - 4, by omega⟩
  exact areAll_exec (isWord_asks (by omega)) (by omega) hl2
theorem right_iff {ps : List Pg} {ws : List Int} : RightH ps ws ↔ (1 ≤ ps.length ∧ ps.length ≤ 40) ∧ ws.length = 64 * ps.length ∧ ws.all wordQ = true ∧ ∀ j, j < ps.length → PageOk' ps ws j := by
  have hw : ws.all wordQ = true ↔ ∀ w, w ∈ ws → 0 ≤ w ∧ w ≤ maxWord := by
    rw [List.all_eq_true]
    simp only [wordQ, decide_eq_true_eq, maxWord]
  constructor
  · intro h
    exact ⟨h.many, h.len, hw.2 h.words, fun j hj => ⟨h.shape j hj, h.zeros j hj⟩⟩
  · rintro ⟨h1, h2, h3, h4⟩
    exact ⟨h1, h2, hw.1 h3, fun j hj => (h4 j hj).1, fun j hj => (h4 j hj).2⟩
theorem pRight_exec {sp : Nat} {kp kw : VK} {l : List PV} {ws : List Int} (ms : σ.get sp = some (.row 2 true [.vs kp (l.map pv), .vs kw (intV ws)])) (hsp : sp < σ.next) (hu : ∀ x, x ∈ l → x.1.used.length ≤ 1000) (hl : l.length ≤ 100000) (hw : ws.length ≤ 100000) (hk : 6000 ≤ k) :
    ∃ σ', callN lawProg k (.func 64 [] []) [.ptr sp 0] σ = some (.bool (rightB (pgsOf l) ws), σ') ∧ Ext σ σ' := by
  obtain ⟨k, rfl⟩ : ∃ m, k = m + 1 := ⟨k - 1, by omega⟩
  have hlp : (pgsOf l).length = l.length := by simp [pgsOf]
  have run : ∃ T1 σ1, execC lawProg (callN lawProg k) k 64 104 (bodyOf Try.f64) (initT 0 [.ptr sp 0] .nil) σ = some (.ret, T1, σ1) ∧ T1.get 2 = some (.bool (rightB (pgsOf l) ws)) ∧ Ext σ σ1 := by
    have hwi := fun (σ : AMem) => within_call (k := k) (σ := σ) 1 40 ((l.length : Nat) : Int) (by omega)
    by_cases hp : 1 ≤ ((l.length : Nat) : Int) ∧ ((l.length : Nat) : Int) ≤ 40
    · rw [decide_eq_true hp] at hwi
      have hmul : IntKind.i64.wrap (((l.length : Nat) : Int) * 64) = ((64 * l.length : Nat) : Int) := by rw [i64_id (by omega) (by omega)]; omega
      by_cases hwl : ws.length = 64 * l.length
      · have hne : (((ws.length : Nat) : Int) != ((64 * l.length : Nat) : Int)) = false := by rw [hwl]; exact bne_self_eq_false _
        have haw := areWord_call (k := k) (σ := σ) (K := kw) (l := ws) (by omega) hw
        cases hall : ws.all wordQ with
        | false =>
          rw [hall] at haw
          simp only [bodyOf, Try.f64, Option.getD_some, initT, dx, reduceIte, zLt, zLe, zEq, zAd, zMu, zSu, zBe, yEq, yLt, yLe, yTn, reduceCtorEq, sx, fx64, ms, List.length_map, intV_length, hwi, hmul, hne, haw]
          rw [rightB_false (fun h => by have := (right_iff.1 h).2.2.1; rw [hall] at this; cases this)]
          exact ⟨_, _, rfl, by simp only [Tr.get_set, zEq, reduceIte], Ext.push _ _⟩
        | true =>
          rw [hall] at haw
          have hne2 : ¬ σ.next = sp := by omega
          simp only [bodyOf, Try.f64, Option.getD_some, initT, dx, reduceIte, zLt, zLe, zEq, zAd, zMu, zSu, zBe, yEq, yLt, yLe, yTn, reduceCtorEq, sx, fx64, ms, List.length_map, intV_length, hwi, hmul, hne, haw, hne2]
          generalize hL : execC _ _ _ _ _ (Code.loop _) _ _ = q
          obtain ⟨e, T', σ', rfl, _, hc, hx⟩ : ∃ e T' σ', q = some (e, T', σ') ∧ e ≠ .normal ∧ ((e = .ret ∧ T'.get 2 = some (.bool false) ∧ ¬ ∀ j, j < l.length → PageOk' (pgsOf l) ws j) ∨ (e = .exit 0 ∧ ∀ j, j < l.length → PageOk' (pgsOf l) ws j)) ∧ Ext (σ.push (.row 1 false [.func 78 [] []])) σ' := by
            rw [← hL]
            refine right_loop (kw := kw) ?_ ?_ ?_ ?_ ?_ ?_ (by rw [AMem.get_push, if_neg (by omega)]; exact ms) (by simp only [AMem.next_push]; omega) (by omega) hu hwl (by omega)
            all_goals simp only [Tr.get_set, zEq, reduceIte] <;> rfl
          have hx2 : Ext σ σ' := (Ext.push _ _).trans hx
          have hri := right_iff (ps := pgsOf l) (ws := ws)
          rw [hlp] at hri
          rcases hc with ⟨rfl, h2, hno⟩ | ⟨rfl, hyes⟩
          · simp only [dx, reduceIte, zLt, zLe, zEq, zAd, zMu, zSu, zBe, yEq, yLt, yLe, yTn, reduceCtorEq, sx, fx64]
            exact ⟨_, _, rfl, by rw [h2, rightB_false (fun h => hno (hri.1 h).2.2.2)], hx2⟩
          · simp only [dx, reduceIte, zLt, zLe, zEq, zAd, zMu, zSu, zBe, yEq, yLt, yLe, yTn, reduceCtorEq, sx, fx64]
            exact ⟨_, _, rfl, by rw [rightB_true (hri.2 ⟨by omega, hwl, hall, hyes⟩)]; simp only [Tr.get_set, zEq, reduceIte], hx2⟩
      · have hne : (((ws.length : Nat) : Int) != ((64 * l.length : Nat) : Int)) = true := by rw [bne_iff_ne]; omega
        simp only [bodyOf, Try.f64, Option.getD_some, initT, dx, reduceIte, zLt, zLe, zEq, zAd, zMu, zSu, zBe, yEq, yLt, yLe, yTn, reduceCtorEq, sx, fx64, ms, List.length_map, intV_length, hwi, hmul, hne]
        rw [rightB_false (fun h => hwl (by rw [h.len, hlp]))]
        exact ⟨_, _, rfl, by simp only [Tr.get_set, zEq, reduceIte], Ext.refl _⟩
    · rw [decide_eq_false hp] at hwi
      simp only [bodyOf, Try.f64, Option.getD_some, initT, dx, reduceIte, zLt, zLe, zEq, zAd, zMu, zSu, zBe, yEq, yLt, yLe, yTn, reduceCtorEq, sx, fx64, ms, List.length_map, intV_length, hwi]
      rw [rightB_false (fun h => hp (by have := h.many; rw [hlp] at this; omega))]
      exact ⟨_, _, rfl, by simp only [Tr.get_set, zEq, reduceIte], Ext.refl _⟩
  obtain ⟨T1, σ1, h1, h2, h3⟩ := run
  exact ⟨σ1, q_call (first := []) (caps := []) fn64 rfl (by simp [Try.f64]) h1 (by simp) (res_one h2), h3⟩
end Go.Proofs.Ytjkfdiglokkceaa

/- Heaps: the program's copies. -/
set_option maxRecDepth 100000
set_option linter.unusedSimpArgs false
set_option linter.unusedVariables false
namespace Go.Proofs.Ytjkfdiglokkceaa
open Go Go.Proofs.Ytjkfdiglokkceaa.Pale
variable {k : Nat} {σ : AMem}

/-- A list of values, put behind an empty one. -/
theorem copy_any {σ : AMem} {e : TyI} {x : AVal} {cells : List AVal} {n : Nat} (hs0 : e.size ≠ 0) (hb0 : e.bytes ≠ 0) (hb1 : e.bytes ≤ 1048576) (hsrc : ∀ σ, sourceA e.size σ x = some (cells, n)) (hlen : cells.length = n * e.size) (hone : cells.all AVal.oneCell = true) (hby : n * e.bytes ≤ mostBytes) : ∃ x' σ', appendA e (σ.push (.row e.size e.isAgg [])) (.slice σ.next 0 0 (some 0) e.size) x = some (x', σ') ∧ Ext σ σ' ∧ ∃ r cap, x' = .slice r 0 n cap e.size ∧ σ.next ≤ r ∧ r < σ'.next ∧ σ'.get r = some (.row e.size e.isAgg cells) ∧ (n ≠ 0 → cap = none) := by
  have hg : (σ.push (.row e.size e.isAgg [])).get σ.next = some (.row e.size e.isAgg []) := by rw [AMem.get_push, if_pos rfl]
  by_cases h0 : n = 0
  · subst h0
    obtain rfl : cells = [] := List.eq_nil_of_length_eq_zero (by omega)
    exact ⟨.slice σ.next 0 0 (some 0) e.size, σ.push (.row e.size e.isAgg []), by simp only [appendA, hsrc, if_true], Ext.push _ _, σ.next, some 0, rfl, Nat.le_refl _, by simp, hg, fun h => absurd rfl h⟩
  · refine ⟨.slice (σ.next + 1) 0 n none e.size, (σ.push (.row e.size e.isAgg [])).push (.row e.size e.isAgg cells), ?_, (Ext.push _ _).trans (Ext.push _ _), σ.next + 1, none, rfl, by omega, by simp, by rw [AMem.get_push, if_pos (by simp)], fun _ => rfl⟩
    simp only [appendA, hsrc, hg]
    rw [if_neg h0, if_neg (by simp [hs0, hb0]; omega), if_pos (by rw [Nat.zero_add]; exact hby), if_pos trivial, if_neg (by omega), if_pos (by simp)]
    simp
theorem source_bools (K : VK) (l : List Bool) (σ : AMem) : sourceA 1 σ (.vs K (boolV l)) = some (boolV l, l.length) := by
  have h1 : (boolV l).flatMap AVal.cells = boolV l := by
    induction l with
    | nil => rfl
    | cons s l ih => rw [show boolV (s :: l) = AVal.bool s :: boolV l from rfl, List.flatMap_cons, ih]; rfl
  have h2 : ((boolV l).all fun e => e.cells.length == 1) = true := by
    rw [List.all_eq_true]
    intro x hx
    obtain ⟨i, _, rfl⟩ := List.mem_map.1 hx
    rfl
  simp only [sourceA, h1, h2, if_true, boolV_length]
theorem source_ints (K : VK) (l : List Int) (σ : AMem) : sourceA 1 σ (.vs K (intV l)) = some (intV l, l.length) := by
  have h1 : (intV l).flatMap AVal.cells = intV l := by
    induction l with
    | nil => rfl
    | cons s l ih => rw [show intV (s :: l) = AVal.int .i64 s :: intV l from rfl, List.flatMap_cons, ih]; rfl
  simp only [sourceA, h1, intV_one, if_true, intV_length]
def pvC (x : PV) : List AVal := [.int .u8 x.1.kind, .int .i64 x.1.n, .vs x.2 (boolV x.1.used)]
theorem source_pages (K : VK) (l : List PV) (σ : AMem) : sourceA 3 σ (.vs K (l.map pv)) = some ((l.map pvC).flatten, l.length) := by
  have h1 : (l.map pv).flatMap AVal.cells = (l.map pvC).flatten := by
    induction l with
    | nil => rfl
    | cons s l ih => rw [List.map_cons, List.flatMap_cons, ih]; rfl
  have h2 : ((l.map pv).all fun e => e.cells.length == 3) = true := by
    rw [List.all_eq_true]
    intro x hx
    obtain ⟨i, _, rfl⟩ := List.mem_map.1 hx
    rfl
  simp only [sourceA, h1, h2, if_true, List.length_map]
theorem one_bools (l : List Bool) : (boolV l).all AVal.oneCell = true := by
  rw [List.all_eq_true]
  intro x hx
  obtain ⟨i, _, rfl⟩ := List.mem_map.1 hx
  rfl
theorem one_ints (l : List Int) : (intV l).all AVal.oneCell = true := by
  rw [List.all_eq_true]
  intro x hx
  obtain ⟨i, _, rfl⟩ := List.mem_map.1 hx
  rfl
theorem one_pages (l : List PV) : ((l.map pvC).flatten).all AVal.oneCell = true := by
  rw [List.all_eq_true]
  intro x hx
  obtain ⟨c, hc, hx⟩ := List.mem_flatten.1 hx
  obtain ⟨i, _, rfl⟩ := List.mem_map.1 hc
  simp only [pvC, List.mem_cons, List.not_mem_nil, or_false] at hx
  rcases hx with rfl | rfl | rfl <;> rfl
theorem pages_len (l : List PV) : (l.map pvC).flatten.length = l.length * 3 := by
  induction l with
  | nil => rfl
  | cons s l ih => rw [List.map_cons, List.flatten_cons, List.length_append, ih]; simp [pvC]; omega
theorem cloneB_exec {K : VK} {l : List Bool} (hK : K = .nil → l = []) (hz : K ≠ .zero) (hl : l.length ≤ 1000) : ∃ x σ', callN lawProg (k + 1) (.func 67 [] []) [.vs K (boolV l)] σ = some (x, σ') ∧ Ext σ σ' ∧ ((x = .vs .nil [] ∧ l = [] ∧ K = .nil) ∨ ∃ r cap, x = .slice r 0 l.length cap 1 ∧ σ.next ≤ r ∧ r < σ'.next ∧ σ'.get r = some (.row 1 false (boolV l))) := by
  cases K with
  | zero => exact absurd rfl hz
  | nil =>
    obtain rfl := hK rfl
    have run : ∃ T1, execC lawProg (callN lawProg k) k 67 8 (bodyOf Try.f67) (initT 0 [.vs .nil (boolV [])] .nil) σ = some (.ret, T1, σ) ∧ T1.get 2 = some (.vs .nil []) := by
      simp only [bodyOf, Try.f67, Option.getD_some, initT, dx, reduceIte, zLt, zLe, zEq, zAd, zMu, zSu, zBe, yEq, yLt, yLe, yTn, reduceCtorEq, sx, fx67, aeq, eqNilS]
      exact ⟨_, rfl, by simp only [Tr.get_set, zEq, reduceIte] <;> rfl⟩
    obtain ⟨T1, h1, h2⟩ := run
    exact ⟨_, σ, q_call (first := []) (caps := []) fn67 rfl (by simp [Try.f67]) h1 (by simp) (res_one h2), Ext.refl _, .inl ⟨rfl, rfl, rfl⟩⟩
  | some =>
    obtain ⟨x, σ', a1, a2, r, cap, a3, a4, a5, a6⟩ := copy_any (σ := σ) (e := (⟨.bool, 1, 1, [.bool false]⟩ : TyI)) (x := .vs .some (boolV l)) (cells := boolV l) (n := l.length) (by decide) (by decide) (by decide) (source_bools .some l) (by rw [boolV_length]; exact (Nat.mul_one _).symm) (one_bools l) (by simp only [mostBytes]; omega)
    have a1' : appendA (⟨.bool, 1, 1, [.bool false]⟩ : TyI) (σ.push (.row 1 false [])) (.slice σ.next 0 0 (some 0) 1) (.vs .some (boolV l)) = some (x, σ') := a1
    have run : ∃ T1, execC lawProg (callN lawProg k) k 67 8 (bodyOf Try.f67) (initT 0 [.vs .some (boolV l)] .nil) σ = some (.ret, T1, σ') ∧ T1.get 2 = some x := by
      simp only [bodyOf, Try.f67, Option.getD_some, initT, dx, reduceIte, zLt, zLe, zEq, zAd, zMu, zSu, zBe, yEq, yLt, yLe, yTn, reduceCtorEq, sx, fx67, aeq, eqNilS, a1']
      exact ⟨_, rfl, by simp only [Tr.get_set, zEq, reduceIte]⟩
    obtain ⟨T1, h1, h2⟩ := run
    exact ⟨x, σ', q_call (first := []) (caps := []) fn67 rfl (by simp [Try.f67]) h1 (by simp) (res_one h2), a2, .inr ⟨r, cap, a3, a4, a5, a6.1⟩⟩
theorem cloneI_exec {K : VK} {l : List Int} (hK : K = .nil → l = []) (hz : K ≠ .zero) (hl : l.length ≤ 100000) : ∃ x σ', callN lawProg (k + 1) (.func 66 [] []) [.vs K (intV l)] σ = some (x, σ') ∧ Ext σ σ' ∧ ((x = .vs .nil [] ∧ l = [] ∧ K = .nil) ∨ ∃ r cap, x = .slice r 0 l.length cap 1 ∧ σ.next ≤ r ∧ r < σ'.next ∧ σ'.get r = some (.row 1 false (intV l)) ∧ (l.length ≠ 0 → cap = none)) := by
  cases K with
  | zero => exact absurd rfl hz
  | nil =>
    obtain rfl := hK rfl
    have run : ∃ T1, execC lawProg (callN lawProg k) k 66 8 (bodyOf Try.f66) (initT 0 [.vs .nil (intV [])] .nil) σ = some (.ret, T1, σ) ∧ T1.get 2 = some (.vs .nil []) := by
      simp only [bodyOf, Try.f66, Option.getD_some, initT, dx, reduceIte, zLt, zLe, zEq, zAd, zMu, zSu, zBe, yEq, yLt, yLe, yTn, reduceCtorEq, sx, fx66, aeq, eqNilS]
      exact ⟨_, rfl, by simp only [Tr.get_set, zEq, reduceIte] <;> rfl⟩
    obtain ⟨T1, h1, h2⟩ := run
    exact ⟨_, σ, q_call (first := []) (caps := []) fn66 rfl (by simp [Try.f66]) h1 (by simp) (res_one h2), Ext.refl _, .inl ⟨rfl, rfl, rfl⟩⟩
  | some =>
    obtain ⟨x, σ', a1, a2, r, cap, a3, a4, a5, a6⟩ := copy_any (σ := σ) (e := (⟨.int .i64, 1, 8, [.int .i64 0]⟩ : TyI)) (x := .vs .some (intV l)) (cells := intV l) (n := l.length) (by decide) (by decide) (by decide) (source_ints .some l) (by rw [intV_length]; exact (Nat.mul_one _).symm) (one_ints l) (by simp only [mostBytes]; omega)
    have a1' : appendA (⟨.int .i64, 1, 8, [.int .i64 0]⟩ : TyI) (σ.push (.row 1 false [])) (.slice σ.next 0 0 (some 0) 1) (.vs .some (intV l)) = some (x, σ') := a1
    have run : ∃ T1, execC lawProg (callN lawProg k) k 66 8 (bodyOf Try.f66) (initT 0 [.vs .some (intV l)] .nil) σ = some (.ret, T1, σ') ∧ T1.get 2 = some x := by
      simp only [bodyOf, Try.f66, Option.getD_some, initT, dx, reduceIte, zLt, zLe, zEq, zAd, zMu, zSu, zBe, yEq, yLt, yLe, yTn, reduceCtorEq, sx, fx66, aeq, eqNilS, a1']
      exact ⟨_, rfl, by simp only [Tr.get_set, zEq, reduceIte]⟩
    obtain ⟨T1, h1, h2⟩ := run
    exact ⟨x, σ', q_call (first := []) (caps := []) fn66 rfl (by simp [Try.f66]) h1 (by simp) (res_one h2), a2, .inr ⟨r, cap, a3, a4, a5, a6⟩⟩
theorem cloneP_exec {K : VK} {l : List PV} (hK : K = .nil → l = []) (hz : K ≠ .zero) (hl : l.length ≤ 1000) : ∃ x σ', callN lawProg (k + 1) (.func 65 [] []) [.vs K (l.map pv)] σ = some (x, σ') ∧ Ext σ σ' ∧ ((x = .vs .nil [] ∧ l = [] ∧ K = .nil) ∨ ∃ r cap, x = .slice r 0 l.length cap 3 ∧ σ.next ≤ r ∧ r < σ'.next ∧ σ'.get r = some (.row 3 true (l.map pvC).flatten) ∧ (l.length ≠ 0 → cap = none)) := by
  cases K with
  | zero => exact absurd rfl hz
  | nil =>
    obtain rfl := hK rfl
    have run : ∃ T1, execC lawProg (callN lawProg k) k 65 8 (bodyOf Try.f65) (initT 0 [.vs .nil []] .nil) σ = some (.ret, T1, σ) ∧ T1.get 2 = some (.vs .nil []) := by
      simp only [bodyOf, Try.f65, Option.getD_some, initT, dx, reduceIte, zLt, zLe, zEq, zAd, zMu, zSu, zBe, yEq, yLt, yLe, yTn, reduceCtorEq, sx, fx65, aeq, eqNilS]
      exact ⟨_, rfl, by simp only [Tr.get_set, zEq, reduceIte] <;> rfl⟩
    obtain ⟨T1, h1, h2⟩ := run
    exact ⟨_, σ, q_call (first := []) (caps := []) fn65 rfl (by simp [Try.f65]) h1 (by simp) (res_one h2), Ext.refl _, .inl ⟨rfl, rfl, rfl⟩⟩
  | some =>
    obtain ⟨x, σ', a1, a2, r, cap, a3, a4, a5, a6⟩ := copy_any (σ := σ) (e := (⟨.struct [(0, 5), (1, 3), (2, 77)], 3, 40, [.int .u8 0, .int .i64 0, .vs .nil []]⟩ : TyI)) (x := .vs .some (l.map pv)) (cells := (l.map pvC).flatten) (n := l.length) (by decide) (by decide) (by decide) (source_pages .some l) (pages_len l) (one_pages l) (by simp only [mostBytes]; omega)
    have a1' : appendA (⟨.struct [(0, 5), (1, 3), (2, 77)], 3, 40, [.int .u8 0, .int .i64 0, .vs .nil []]⟩ : TyI) (σ.push (.row 3 true [])) (.slice σ.next 0 0 (some 0) 3) (.vs .some (l.map pv)) = some (x, σ') := a1
    have run : ∃ T1, execC lawProg (callN lawProg k) k 65 8 (bodyOf Try.f65) (initT 0 [.vs .some (l.map pv)] .nil) σ = some (.ret, T1, σ') ∧ T1.get 2 = some x := by
      simp only [bodyOf, Try.f65, Option.getD_some, initT, dx, reduceIte, zLt, zLe, zEq, zAd, zMu, zSu, zBe, yEq, yLt, yLe, yTn, reduceCtorEq, sx, fx65, aeq, eqNilS, a1']
      exact ⟨_, rfl, by simp only [Tr.get_set, zEq, reduceIte]⟩
    obtain ⟨T1, h1, h2⟩ := run
    exact ⟨x, σ', q_call (first := []) (caps := []) fn65 rfl (by simp [Try.f65]) h1 (by simp) (res_one h2), a2, .inr ⟨r, cap, a3, a4, a5, a6⟩⟩
end Go.Proofs.Ytjkfdiglokkceaa

/- Heaps: the program's open. -/
set_option maxRecDepth 100000
set_option linter.unusedSimpArgs false
set_option linter.unusedVariables false
namespace Go.Proofs.Ytjkfdiglokkceaa
open Go Go.Proofs.Ytjkfdiglokkceaa.Pale
variable {k : Nat} {σ : AMem}

theorem items_put : ∀ (its : List MItem) (i : Nat) (hi : i < its.length) (v : AVal), (∀ a, a ∈ its → a.pre.length = 2) → ((its.map MItem.cells).flatten).set (i * 3 + 2) v = ((its.set i { its[i] with x := v }).map MItem.cells).flatten := by
  intro its
  induction its with
  | nil => intro i hi; simp at hi
  | cons a its ih =>
    intro i hi v hp
    have ha := hp a (by simp)
    obtain ⟨p, q, hpq⟩ : ∃ p q, a.pre = [p, q] := by
      match h : a.pre, ha with
      | [p, q], _ => exact ⟨p, q, rfl⟩
    cases i with
    | zero => simp [MItem.cells, hpq]
    | succ i =>
      have hc : a.cells.length = 3 := by simp [MItem.cells, ha]
      simp only [List.map_cons, List.flatten_cons, List.set_cons_succ, List.getElem_cons_succ]
      rw [List.set_append_right _ _ (by omega), hc, show (i + 1) * 3 + 2 - 3 = i * 3 + 2 by omega, ih i (by simpa using hi) v (fun b hb => hp b (by simp [hb]))]
theorem items_get {its : List MItem} {i : Nat} (hi : i < its.length) (hp : ∀ a, a ∈ its → a.pre.length = 2) : ((its.map MItem.cells).flatten)[i * 3 + 2]? = some its[i].x := by
  have := flat_get (sz := 3) (j := 2) (i := i) (more := []) (ls := its.map MItem.cells) (fun c hc => by
    obtain ⟨a, ha, rfl⟩ := List.mem_map.1 hc
    simp [MItem.cells, hp a ha]) (by simpa using hi) (by omega)
  rw [List.append_nil] at this
  rw [this, List.getElem_map]
  have h2 := hp its[i] (List.getElem_mem hi)
  simp only [MItem.cells]
  rw [List.getElem?_append_right (by omega), h2]
  rfl
theorem items_len {its : List MItem} (hp : ∀ a, a ∈ its → a.pre.length = 2) : ((its.map MItem.cells).flatten).length = its.length * 3 := by
  have := flat_length (sz := 3) (ls := its.map MItem.cells) (fun c hc => by
    obtain ⟨a, ha, rfl⟩ := List.mem_map.1 hc
    simp [MItem.cells, hp a ha])
  simpa using this
/-- What a record says but for where its list lies. -/
def MItem.pi (a : MItem) : List AVal × List AVal := (a.pre, a.inn)
def pvPI (x : PV) : List AVal × List AVal := ([.int .u8 x.1.kind, .int .i64 x.1.n], boolV x.1.used)
def pvItem (x : PV) : MItem := ⟨[.int .u8 x.1.kind, .int .i64 x.1.n], .vs x.2 (boolV x.1.used), boolV x.1.used⟩
theorem pvItem_cells (l : List PV) : ((l.map pvItem).map MItem.cells).flatten = (l.map pvC).flatten := by rw [List.map_map]; rfl
theorem pi_set {its : List MItem} {i : Nat} (hi : i < its.length) (v : AVal) : (its.set i { its[i] with x := v }).map MItem.pi = its.map MItem.pi := by
  rw [List.map_set]
  apply List.ext_getElem (by simp)
  intro j h1 h2
  rw [List.getElem_set]
  split
  · rename_i e
    subst e
    rw [List.getElem_map]
    rfl
  · rfl
theorem pi_two {its : List MItem} {l : List PV} (h : its.map MItem.pi = l.map pvPI) : ∀ a, a ∈ its → a.pre.length = 2 := by
  intro a ha
  obtain ⟨i, hi, rfl⟩ := List.mem_iff_getElem.1 ha
  have hl : its.length = l.length := by simpa using congrArg List.length h
  have : (its.map MItem.pi)[i]'(by simpa using hi) = (l.map pvPI)[i]'(by simp; omega) := by simp only [h]
  rw [List.getElem_map, List.getElem_map] at this
  have := congrArg (·.1.length) this
  exact this
/-- A heap in memory of its own. -/
structure OwnH (low : Nat) (σ : AMem) (sp pr : Nat) (pc : Option Nat) (wr : Nat) (wc : Option Nat) (its : List MItem) (ws : List Int) : Prop where
  ms : σ.get sp = some (.row 2 true [.slice pr 0 its.length pc 3, .slice wr 0 ws.length wc 1])
  mp : σ.get pr = some (.row 3 true (its.map MItem.cells).flatten)
  mw : σ.get wr = some (.row 1 false (intV ws))
  it : Items low σ pr its
  ns : sp ∉ rowsOf its
  nw : wr ∉ rowsOf its
  ne : sp ≠ pr ∧ sp ≠ wr ∧ pr ≠ wr
  lo : low ≤ sp ∧ low ≤ pr ∧ low ≤ wr
  nx : sp < σ.next ∧ pr < σ.next ∧ wr < σ.next
/-- One page's list is in a row of its own. -/
theorem OwnH.put {low : Nat} {σ σ1 : AMem} {sp pr wr i : Nat} {pc wc : Option Nat} {its : List MItem} {ws : List Int} {v : AVal} (h : OwnH low σ sp pr pc wr wc its ws) (hi : i < its.length) (hx : Ext σ σ1) (hp : ∀ a, a ∈ its → a.pre.length = 2) (hv : (v = .vs .nil [] ∧ its[i].inn = []) ∨ ∃ r cap, v = .slice r 0 its[i].inn.length cap 1 ∧ σ.next ≤ r ∧ r < σ1.next ∧ σ1.get r = some (.row 1 false its[i].inn)) (hlow : low ≤ σ.next) :
    OwnH low (σ1.put pr (.row 3 true (((its.map MItem.cells).flatten).set (i * 3 + 2) v))) sp pr pc wr wc (its.set i { its[i] with x := v }) ws := by
  have hb := h.it.bound
  have hr : ∀ r, r ∈ rowOf v → σ.next ≤ r ∧ r < σ1.next := fun r hr => by
    rcases hv with ⟨rfl, _⟩ | ⟨r', cap, rfl, h1, h2, _⟩
    · simp [rowOf] at hr
    · simp only [rowOf, List.mem_singleton] at hr
      omega
  have hrow : ∀ r, r ∈ rowsOf (its.set i { its[i] with x := v }) → r ∈ rowsOf its ∨ r ∈ rowOf v := fun r hr => rowsOf_set_mem hr
  have it1 : Items low σ1 pr its := h.it.same (Nat.le_refl _) hx.1 (fun r hr => hx.2 r (hb r hr).2) h.it.2.2
  have ha : ({ its[i] with x := v } : MItem).okAt low σ1 := by
    obtain ⟨a1, a2, _⟩ := it1.1 its[i] (List.getElem_mem hi)
    refine ⟨a1, a2, ?_⟩
    rcases hv with ⟨rfl, h1⟩ | ⟨r, cap, rfl, h1, h2, h3⟩
    · exact .inl ⟨.nil, by simp only; rw [h1]⟩
    · exact .inr ⟨r, cap, rfl, by omega, h2, h3⟩
  have it2 : Items low σ1 pr (its.set i { its[i] with x := v }) := it1.set hi ha fun r hr2 => by
    have := hr r hr2
    exact ⟨fun hm => by have := (hb r hm).2; omega, by have := h.nx.2.1; omega⟩
  have hlen : (its.set i { its[i] with x := v }).length = its.length := List.length_set
  have nn : ∀ q, q < σ.next → q ∉ rowsOf its → q ∉ rowsOf (its.set i { its[i] with x := v }) := fun q hq hn hm => by
    rcases hrow q hm with h1 | h1
    · exact hn h1
    · have := (hr q h1).1; omega
  refine ⟨?_, ?_, ?_, it2.same (Nat.le_refl _) (by simp) (fun r hr2 => ?_) it2.2.2, nn sp h.nx.1 h.ns, nn wr h.nx.2.2 h.nw, h.ne, h.lo, ?_⟩
  · rw [AMem.get_put, if_neg (fun e => h.ne.1 e.symm), hx.2 sp h.nx.1, hlen]; exact h.ms
  · rw [AMem.get_put, if_pos rfl, items_put its i hi v hp]
  · rw [AMem.get_put, if_neg h.ne.2.2, hx.2 wr h.nx.2.2]; exact h.mw
  · rw [AMem.get_put, if_neg (fun e => it2.2.2 (by rw [e]; exact hr2))]
  · have := hx.1
    have := h.nx
    simp only [AMem.next_put]
    omega
end Go.Proofs.Ytjkfdiglokkceaa

/- Heaps: the program's open. -/
set_option maxRecDepth 100000
set_option linter.unusedSimpArgs false
set_option linter.unusedVariables false
namespace Go.Proofs.Ytjkfdiglokkceaa
open Go Go.Proofs.Ytjkfdiglokkceaa.Pale
variable {k : Nat} {σ : AMem}

noncomputable def bodyO : Code := bodyOf Try.f46
/-- A list that was copied: nil, or in a row. -/
def ownX (a : MItem) : Prop := (a.x = .vs .nil [] ∧ a.inn = []) ∨ ∃ r cap, a.x = .slice r 0 a.inn.length cap 1
theorem open_loop {T : Tr AVal} {low sp pr wr : Nat} {pc wc : Option Nat} {l : List PV} {ws : List Int} (t5 : T.get 5 = some (.ptr sp 0)) (t27 : T.get 27 = some (.int .i64 (l.length : Nat))) (t28 : T.get 28 = some (.int .i64 ((0 : Nat) : Int))) (h : OwnH low σ sp pr pc wr wc (l.map pvItem) ws) (hlow : low ≤ σ.next) (hv : ∀ x, x ∈ l → x.2 ≠ .zero ∧ (x.2 = .nil → x.1.used = []) ∧ x.1.used.length ≤ 1000) (hl : l.length ≤ 1000) (hk : 2000 ≤ k) :
    ∃ T' σ' its, execC lawProg (callN lawProg k) k 46 51 (.loop (innerC (innerC (stmtC bodyO 6)))) T σ = some (.exit 0, T', σ') ∧ T'.get 5 = some (.ptr sp 0) ∧ OwnH low σ' sp pr pc wr wc its ws ∧ its.map MItem.pi = l.map pvPI ∧ (∀ a, a ∈ its → ownX a) ∧ σ.next ≤ σ'.next ∧ ∀ r, r < low → σ'.get r = σ.get r := by
  suffices key : ∃ e T' σ', execC lawProg (callN lawProg k) k 46 51 (.loop (innerC (innerC (stmtC bodyO 6)))) T σ = some (e, T', σ') ∧ e ≠ .normal ∧ (e = .exit 0 ∧ T'.get 5 = some (.ptr sp 0) ∧ ∃ its, OwnH low σ' sp pr pc wr wc its ws ∧ its.map MItem.pi = l.map pvPI ∧ (∀ a, a ∈ its → ownX a) ∧ σ.next ≤ σ'.next ∧ ∀ r, r < low → σ'.get r = σ.get r) by
    obtain ⟨e, T', σ', h1, _, rfl, h2, its, h3⟩ := key
    exact ⟨T', σ', its, h1, h2, h3⟩
  refine exec_loop (fun i T σ' => i ≤ l.length ∧ T.get 5 = some (.ptr sp 0) ∧ T.get 27 = some (.int .i64 (l.length : Nat)) ∧ T.get 28 = some (.int .i64 (i : Nat)) ∧ σ.next ≤ σ'.next ∧ (∀ r, r < low → σ'.get r = σ.get r) ∧ ∃ its, OwnH low σ' sp pr pc wr wc its ws ∧ its.map MItem.pi = l.map pvPI ∧ (∀ j (hj : j < its.length) (hj2 : j < l.length), i ≤ j → its[j].x = .vs (l[j]).2 (boolV (l[j]).1.used)) ∧ (∀ j (hj : j < its.length), j < i → ownX its[j])) l.length (by omega) ?_ ?_ ?_
  · rintro i hi T σ0 ⟨_, t5, t27, t28, nx, fr, its, ow, hpi, hrest, hown⟩
    have hil : its.length = l.length := by simpa using congrArg List.length hpi
    have hii : i < its.length := by omega
    have hp2 := pi_two hpi
    have hx := hrest i hii hi (Nat.le_refl _)
    have hinn : its[i].inn = boolV (l[i]).1.used := by
      have : (its.map MItem.pi)[i]'(by simpa using hii) = (l.map pvPI)[i]'(by simpa using hi) := by simp only [hpi]
      rw [List.getElem_map, List.getElem_map] at this
      exact congrArg (·.2) this
    obtain ⟨v1, v2, v3⟩ := hv l[i] (List.getElem_mem hi)
    obtain ⟨x, σ1, hcl, hex, hres⟩ := cloneB_exec (k := k - 1) (σ := σ0) (K := (l[i]).2) (l := (l[i]).1.used) v2 v1 v3
    rw [show k - 1 + 1 = k by omega] at hcl
    have hget := items_get hii hp2
    rw [hx] at hget
    have hlen := items_len hp2
    have hlt : ((i : Nat) : Int) < ((l.length : Nat) : Int) := by omega
    have hlt2 : ((i : Nat) : Int) < ((its.length : Nat) : Int) := by omega
    have hw' := i64_succ (i := i) (by omega)
    have hin : i * 3 + 2 + 1 ≤ its.length * 3 := by omega
    have mp1 : σ1.get pr = some (.row 3 true (its.map MItem.cells).flatten) := by rw [hex.2 pr ow.nx.2.1]; exact ow.mp
    have ms1 : σ1.get sp = some (.row 2 true [.slice pr 0 its.length pc 3, .slice wr 0 ws.length wc 1]) := by rw [hex.2 sp ow.nx.1]; exact ow.ms
    have ms0 := ow.ms
    have mp0 := ow.mp
    have hone : x.oneCell = true := by rcases hres with ⟨rfl, _⟩ | ⟨r, cap, rfl, _⟩ <;> rfl
    have hcells := cells_one hone
    have hvx : (x = .vs .nil [] ∧ its[i].inn = []) ∨ ∃ r cap, x = .slice r 0 its[i].inn.length cap 1 ∧ σ0.next ≤ r ∧ r < σ1.next ∧ σ1.get r = some (.row 1 false its[i].inn) := by
      rw [hinn]
      rcases hres with ⟨h1, h2, _⟩ | ⟨r, cap, h1, h2, h3, h4⟩
      · exact .inl ⟨h1, by rw [h2]; rfl⟩
      · exact .inr ⟨r, cap, by rw [boolV_length]; exact h1, h2, h3, h4⟩
    have ow2 := ow.put hii hex hp2 hvx (by omega)
    refine ⟨_, σ1.put pr (.row 3 true (((its.map MItem.cells).flatten).set (i * 3 + 2) x)), by
      simp only [bodyO, bodyOf, Try.f46, Option.getD_some, flatC, innerC, stmtC, List.append_assoc, dx, reduceIte, zLt, zLe, zEq, zAd, zMu, zSu, zBe, yEq, yLt, yLe, yTn, reduceCtorEq, sx, fx46, t5, t27, t28, ms0, mp0, hlt, hlt2, hget, hcl, ms1, mp1, hlen, hin, hone, hcells, Int.natCast_nonneg, Int.toNat_natCast, hw']
      rfl, by omega, ?_, ?_, ?_, by have := hex.1; simp only [AMem.next_put]; omega, fun r hr => ?_, its.set i { its[i] with x := x }, ow2, by rw [pi_set hii]; exact hpi, fun j hj hj2 hij => ?_, fun j hj hij => ?_⟩
    · simp only [Tr.get_set, zEq, reduceIte, t5]
    · simp only [Tr.get_set, zEq, reduceIte, t27]
    · simp only [Tr.get_set, zEq, reduceIte]
    · rw [AMem.get_put, if_neg (by have := ow.lo; omega), hex.2 r (by omega)]; exact fr r hr
    · rw [List.getElem_set, if_neg (by omega)]
      exact hrest j (by simpa using hj) hj2 (by omega)
    · rw [List.getElem_set]
      split
      · rename_i e
        rcases hvx with ⟨h1, h2⟩ | ⟨r, cap, h1, _⟩
        · exact .inl ⟨h1, h2⟩
        · exact .inr ⟨r, cap, h1⟩
      · exact hown j (by simpa using hj) (by omega)
  · rintro T σ0 ⟨_, t5, t27, t28, nx, fr, its, ow, hpi, _, hown⟩
    have hge : ¬ (((l.length : Nat) : Int) < ((l.length : Nat) : Int)) := by omega
    have hil : its.length = l.length := by simpa using congrArg List.length hpi
    refine ⟨_, _, _, by
      simp only [bodyO, bodyOf, Try.f46, Option.getD_some, flatC, innerC, stmtC, List.append_assoc, dx, reduceIte, zLt, zLe, zEq, zAd, zMu, zSu, zBe, yEq, yLt, yLe, yTn, reduceCtorEq, sx, fx46, t27, t28, hge]
      rfl, by simp, rfl, ?_, its, ow, hpi, fun a ha => ?_, nx, fr⟩
    · simp only [Tr.get_set, zEq, reduceIte, t5]
    · obtain ⟨j, hj, rfl⟩ := List.mem_iff_getElem.1 ha
      exact hown j hj (by omega)
  · refine ⟨Nat.zero_le _, t5, t27, t28, Nat.le_refl _, fun _ _ => rfl, l.map pvItem, h, by rw [List.map_map]; rfl, fun j hj hj2 _ => ?_, fun j _ hj => by omega⟩
    rw [List.getElem_map]
    rfl
end Go.Proofs.Ytjkfdiglokkceaa

/- Heaps: the program's open, whole. -/
set_option maxRecDepth 100000
set_option linter.unusedSimpArgs false
set_option linter.unusedVariables false
namespace Go.Proofs.Ytjkfdiglokkceaa
open Go Go.Proofs.Ytjkfdiglokkceaa.Pale
variable {k : Nat} {σ : AMem}

theorem rows_values (l : List PV) : rowsOf (l.map pvItem) = [] := by
  induction l with
  | nil => rfl
  | cons x l ih =>
    show rowOf (pvItem x).x ++ rowsOf (l.map pvItem) = []
    rw [ih]
    rfl
theorem boolV_pure (l : List Bool) : (boolV l).all pureB = true := by
  rw [List.all_eq_true]
  intro x hx
  obtain ⟨i, _, rfl⟩ := List.mem_map.1 hx
  rfl
theorem items_values (low : Nat) (σ : AMem) (q : Nat) (l : List PV) : Items low σ q (l.map pvItem) := by
  refine ⟨fun a ha => ?_, by rw [rows_values]; simp, by rw [rows_values]; simp⟩
  obtain ⟨x, _, rfl⟩ := List.mem_map.1 ha
  exact ⟨rfl, boolV_pure _, .inl ⟨_, rfl⟩⟩
theorem open_exec {kp kw : VK} {l : List PV} {ws : List Int} (hkp : kp ≠ .zero ∧ (kp = .nil → l = [])) (hkw : kw ≠ .zero ∧ (kw = .nil → ws = [])) (hv : ∀ x, x ∈ l → x.2 ≠ .zero ∧ (x.2 = .nil → x.1.used = []) ∧ x.1.used.length ≤ 1000) (hl : l.length ≤ 100000) (hw : ws.length ≤ 100000) (hk : 7000 ≤ k) :
    (rightB (pgsOf l) ws = false → ∃ σ', callN lawProg (k + 1) (.func 46 [] []) [hpV kp kw l ws] σ = some (.tuple [.nilptr, .int .i64 4], σ') ∧ Ext σ σ') ∧
    (rightB (pgsOf l) ws = true → ∃ σ' sp pr pc wr wc its, callN lawProg (k + 1) (.func 46 [] []) [hpV kp kw l ws] σ = some (.tuple [.ptr sp 0, .int .i64 0], σ') ∧ Ext σ σ' ∧ OwnH σ.next σ' sp pr pc wr wc its ws ∧ its.map MItem.pi = l.map pvPI ∧ (∀ a, a ∈ its → ownX a) ∧ pc = none ∧ wc = none) := by
  have hlp : (pgsOf l).length = l.length := by simp [pgsOf]
  obtain ⟨c, hc⟩ : ∃ c, c = σ.next := ⟨_, rfl⟩
  obtain ⟨σ1, hσ1⟩ : ∃ m, m = (σ.push (.row 2 true [.vs kp (l.map pv), .vs kw (intV ws)])).push (.row 2 true [.vs kp (l.map pv), .vs kw (intV ws)]) := ⟨_, rfl⟩
  have ex1 : Ext σ σ1 := by rw [hσ1]; exact (Ext.push _ _).trans (Ext.push _ _)
  have n1 : σ1.next = c + 2 := by rw [hσ1, hc]; simp
  have m0 : σ1.get c = some (.row 2 true [.vs kp (l.map pv), .vs kw (intV ws)]) := by rw [hσ1, hc, AMem.get_push, if_neg (by simp only [AMem.next_push]; omega), AMem.get_push, if_pos rfl]
  have m1 : σ1.get (c + 1) = some (.row 2 true [.vs kp (l.map pv), .vs kw (intV ws)]) := by rw [hσ1, hc, AMem.get_push, if_pos (by simp)]
  obtain ⟨σ2, hr, x2⟩ := pRight_exec (k := k) m1 (by omega) (fun x hx => (hv x hx).2.2) hl hw (by omega)
  have ex2 : Ext σ σ2 := ex1.trans x2
  have m02 : σ2.get c = some (.row 2 true [.vs kp (l.map pv), .vs kw (intV ws)]) := by rw [x2.2 c (by omega)]; exact m0
  constructor
  · intro hb
    rw [hb] at hr
    have run : ∃ T1, execC lawProg (callN lawProg k) k 46 51 (bodyOf Try.f46) (initT 0 [.agg [.vs kp (l.map pv), .vs kw (intV ws)]] .nil) σ = some (.ret, T1, σ2) ∧ T1.get 2 = some .nilptr ∧ T1.get 3 = some (.int .i64 4) := by
      simp only [bodyOf, Try.f46, Option.getD_some, initT, dx, reduceIte, zLt, zLe, zEq, zAd, zMu, zSu, zBe, yEq, yLt, yLe, yTn, reduceCtorEq, sx, fx46, Nat.add_assoc, Nat.add_eq_left, Nat.left_eq_add, Nat.add_left_cancel_iff, ← hσ1, ← hc, hr]
      exact ⟨_, rfl, by simp only [Tr.get_set, zEq, reduceIte], by simp only [Tr.get_set, zEq, reduceIte]⟩
    obtain ⟨T1, h1, h2, h3⟩ := run
    exact ⟨σ2, q_call (first := []) (caps := []) fn46 rfl (by simp [Try.f46]) h1 (by simp) (res_two h2 h3), ex2⟩
  · intro hb
    rw [hb] at hr
    have hright := rightB_iff.1 hb
    have hnp := hright.many
    have hnw := hright.len
    rw [hlp] at hnp hnw
    obtain ⟨xp, σ3, hcp, x3, hrp⟩ := cloneP_exec (k := k - 1) (σ := σ2) (K := kp) (l := l) hkp.2 hkp.1 (by omega)
    obtain ⟨xw, σ4, hcw, x4, hrw⟩ := cloneI_exec (k := k - 1) (σ := σ3) (K := kw) (l := ws) hkw.2 hkw.1 hw
    rw [show k - 1 + 1 = k by omega] at hcp hcw
    obtain ⟨pr, pc, rfl, p1, p2, p3, p4⟩ : ∃ r cap, xp = .slice r 0 l.length cap 3 ∧ σ2.next ≤ r ∧ r < σ3.next ∧ σ3.get r = some (.row 3 true (l.map pvC).flatten) ∧ (l.length ≠ 0 → cap = none) := by
      rcases hrp with ⟨_, h, _⟩ | h
      · rw [h] at hnp; simp at hnp
      · exact h
    obtain ⟨wr, wc, rfl, w1, w2, w3, w4⟩ : ∃ r cap, xw = .slice r 0 ws.length cap 1 ∧ σ3.next ≤ r ∧ r < σ4.next ∧ σ4.get r = some (.row 1 false (intV ws)) ∧ (ws.length ≠ 0 → cap = none) := by
      rcases hrw with ⟨_, h, _⟩ | h
      · rw [h] at hnw; simp at hnw; omega
      · exact h
    have m03 : σ3.get c = some (.row 2 true [.vs kp (l.map pv), .vs kw (intV ws)]) := by rw [x3.2 c (by have := x2.1; omega)]; exact m02
    obtain ⟨sp, hsp⟩ : ∃ s, s = σ4.next := ⟨_, rfl⟩
    obtain ⟨σ5, hσ5⟩ : ∃ m, m = σ4.push (.row 2 true [.slice pr 0 l.length pc 3, .slice wr 0 ws.length wc 1]) := ⟨_, rfl⟩
    have n21 := x2.1
    have n31 := x3.1
    have n41 := x4.1
    have n5 : σ5.next = sp + 1 := by rw [hσ5, hsp]; simp
    have ex5 : Ext σ σ5 := ex2.trans (x3.trans (x4.trans (by rw [hσ5]; exact Ext.push _ _)))
    have ms5 : σ5.get sp = some (.row 2 true [.slice pr 0 l.length pc 3, .slice wr 0 ws.length wc 1]) := by rw [hσ5, hsp, AMem.get_push, if_pos rfl]
    have own : OwnH c σ5 sp pr pc wr wc (l.map pvItem) ws := by
      refine ⟨by rw [List.length_map]; exact ms5, ?_, ?_, items_values _ _ _ _, by rw [rows_values]; simp, by rw [rows_values]; simp, ⟨by omega, by omega, by omega⟩, ⟨by omega, by omega, by omega⟩, ⟨by omega, by omega, by omega⟩⟩
      · rw [hσ5, AMem.get_push, if_neg (by omega), x4.2 pr p2, p3, pvItem_cells]
      · rw [hσ5, AMem.get_push, if_neg (by omega), w3]
    have run : ∃ T1 σ' its, execC lawProg (callN lawProg k) k 46 51 (bodyOf Try.f46) (initT 0 [.agg [.vs kp (l.map pv), .vs kw (intV ws)]] .nil) σ = some (.ret, T1, σ') ∧ T1.get 2 = some (.ptr sp 0) ∧ T1.get 3 = some (.int .i64 0) ∧ OwnH c σ' sp pr pc wr wc its ws ∧ its.map MItem.pi = l.map pvPI ∧ (∀ a, a ∈ its → ownX a) ∧ σ5.next ≤ σ'.next ∧ ∀ r, r < c → σ'.get r = σ5.get r := by
      simp only [bodyOf, Try.f46, Option.getD_some, initT, dx, reduceIte, zLt, zLe, zEq, zAd, zMu, zSu, zBe, yEq, yLt, yLe, yTn, reduceCtorEq, sx, fx46, Nat.add_assoc, Nat.add_eq_left, Nat.left_eq_add, Nat.add_left_cancel_iff, ← hσ1, ← hc, hr]
      simp only [dx, reduceIte, zLt, zLe, zEq, zAd, zMu, zSu, zBe, yEq, yLt, yLe, yTn, reduceCtorEq, sx, fx46, m02, hcp, m03, hcw, ← hσ5, ← hsp, ms5]
      generalize hL : execC _ _ _ _ _ (Code.loop _) _ _ = q
      obtain ⟨T', σ', its, rfl, u5, ow, hpi, hox, nx, fr⟩ : ∃ T' σ' its, q = some (.exit 0, T', σ') ∧ T'.get 5 = some (.ptr sp 0) ∧ OwnH c σ' sp pr pc wr wc its ws ∧ its.map MItem.pi = l.map pvPI ∧ (∀ a, a ∈ its → ownX a) ∧ σ5.next ≤ σ'.next ∧ ∀ r, r < c → σ'.get r = σ5.get r := by
        rw [← hL]
        refine open_loop ?_ ?_ ?_ own (by omega) hv (by omega) (by omega)
        all_goals simp only [Tr.get_set, zEq, reduceIte] <;> rfl
      simp only [dx, reduceIte, zLt, zLe, zEq, zAd, zMu, zSu, zBe, yEq, yLt, yLe, yTn, reduceCtorEq, sx, fx46, u5]
      exact ⟨_, _, its, rfl, by simp only [Tr.get_set, zEq, reduceIte], by simp only [Tr.get_set, zEq, reduceIte], ow, hpi, hox, nx, fr⟩
    obtain ⟨T1, σ', its, h1, h2, h3, h4, h5, h6, h7, h8⟩ := run
    rw [← hc]
    exact ⟨σ', sp, pr, pc, wr, wc, its, q_call (first := []) (caps := []) fn46 rfl (by simp [Try.f46]) h1 (by simp) (res_two h2 h3), ⟨by have := ex5.1; omega, fun r hr2 => by rw [h8 r (by omega)]; exact ex5.2 r hr2⟩, h4, h5, h6, p4 (by omega), w4 (by omega)⟩
end Go.Proofs.Ytjkfdiglokkceaa

/- Heaps: the program's Check, and its search for free pages. -/
set_option maxRecDepth 100000
set_option linter.unusedSimpArgs false
set_option linter.unusedVariables false
namespace Go.Proofs.Ytjkfdiglokkceaa
open Go Go.Proofs.Ytjkfdiglokkceaa.Pale
variable {k : Nat} {σ : AMem}

theorem pCheck_call {kp kw : VK} {l : List PV} {ws : List Int} (hkp : kp ≠ .zero ∧ (kp = .nil → l = [])) (hkw : kw ≠ .zero ∧ (kw = .nil → ws = [])) (hv : ∀ x, x ∈ l → x.2 ≠ .zero ∧ (x.2 = .nil → x.1.used = []) ∧ x.1.used.length ≤ 1000) (hl : l.length ≤ 100000) (hw : ws.length ≤ 100000) (hk : 8000 ≤ k) : pureCall lawProg (callN lawProg k) (.func 20 [] []) [hpV kp kw l ws] σ = some (.int .i64 (if rightB (pgsOf l) ws then 0 else 4), σ) := by
  obtain ⟨k, rfl⟩ : ∃ m, k = m + 2 := ⟨k - 2, by omega⟩
  have run : ∃ T1 σ1, execC lawProg (callN lawProg (k + 1)) (k + 1) 20 11 (bodyOf Try.f20) (initT 0 [.agg [.vs kp (l.map pv), .vs kw (intV ws)]] .nil) AMem.empty = some (.ret, T1, σ1) ∧ T1.get 2 = some (.int .i64 (if rightB (pgsOf l) ws then 0 else 4)) := by
    obtain ⟨h1, h2⟩ := open_exec (k := k) (σ := AMem.empty.push (.row 2 true [.vs kp (l.map pv), .vs kw (intV ws)])) hkp hkw hv hl hw (by omega)
    unfold hpV at h1 h2
    cases hb : rightB (pgsOf l) ws with
    | false =>
      obtain ⟨σ', h3, _⟩ := h1 hb
      simp only [bodyOf, Try.f20, Option.getD_some, initT, dx, reduceIte, zLt, zLe, zEq, zAd, zMu, zSu, zBe, yEq, yLt, yLe, yTn, reduceCtorEq, sx, fx20, h3]
      exact ⟨_, _, rfl, by simp only [Tr.get_set, zEq, reduceIte, Bool.false_eq_true]⟩
    | true =>
      obtain ⟨σ', sp, pr, pc, wr, wc, its, h3, _⟩ := h2 hb
      simp only [bodyOf, Try.f20, Option.getD_some, initT, dx, reduceIte, zLt, zLe, zEq, zAd, zMu, zSu, zBe, yEq, yLt, yLe, yTn, reduceCtorEq, sx, fx20, h3]
      exact ⟨_, _, rfl, by simp only [Tr.get_set, zEq, reduceIte]⟩
  obtain ⟨T1, σ1, h1, h2⟩ := run
  exact pureCall_of rfl (memo20 _) (pureRun_of fn20 rfl (by simp [Try.f20]) h1 (by simp) (res_one h2) rfl)
/-- A record of a page. -/
theorem item_page {its : List MItem} {l : List PV} (h : its.map MItem.pi = l.map pvPI) {i : Nat} (hi : i < its.length) (hi2 : i < l.length) : its[i].pre = [.int .u8 (l[i]).1.kind, .int .i64 (l[i]).1.n] ∧ its[i].inn = boolV (l[i]).1.used := by
  have : (its.map MItem.pi)[i]'(by simpa using hi) = (l.map pvPI)[i]'(by simpa using hi2) := by simp only [h]
  rw [List.getElem_map, List.getElem_map] at this
  exact ⟨congrArg (·.1) this, congrArg (·.2) this⟩
theorem item_load {its : List MItem} {l : List PV} (h : its.map MItem.pi = l.map pvPI) {i : Nat} (hi : i < its.length) (hi2 : i < l.length) : (((its.map MItem.cells).flatten).drop (i * 3)).take 3 = [.int .u8 (l[i]).1.kind, .int .i64 (l[i]).1.n, its[i].x] := by
  have hp2 := pi_two h
  have := flat_elem (sz := 3) (i := i) (more := []) (ls := its.map MItem.cells) (fun c hc => by
    obtain ⟨a, ha, rfl⟩ := List.mem_map.1 hc
    simp [MItem.cells, hp2 a ha]) (by simpa using hi)
  rw [List.append_nil] at this
  rw [this, List.getElem_map]
  simp only [MItem.cells, (item_page h hi hi2).1]
  rfl
theorem run_exec {low sp pr wr many : Nat} {pc wc : Option Nat} {its : List MItem} {l : List PV} {ws : List Int} (h : OwnH low σ sp pr pc wr wc its ws) (hpi : its.map MItem.pi = l.map pvPI) (hl : l.length ≤ 1000) (hm : many ≤ 1000) (hk : 2000 ≤ k) :
    ∃ σ', callN lawProg (k + 1) (.func 69 [] []) [.ptr sp 0, .int .i64 (many : Nat)] σ = some (.tuple [.int .i64 (((runL (pgsOf l) many).getD 0 : Nat) : Int), .bool (runL (pgsOf l) many).isSome], σ') ∧ Ext σ σ' := by
  have hil : its.length = l.length := by simpa using congrArg List.length hpi
  have hlp : (pgsOf l).length = l.length := by simp [pgsOf]
  have ms := h.ms
  have hlen := items_len (pi_two hpi)
  have run : ∃ T1 σ1, execC lawProg (callN lawProg k) k 69 33 (bodyOf Try.f69) (initT 0 [.ptr sp 0, .int .i64 (many : Nat)] .nil) σ = some (.ret, T1, σ1) ∧ T1.get 4 = some (.int .i64 (((runL (pgsOf l) many).getD 0 : Nat) : Int)) ∧ T1.get 5 = some (.bool (runL (pgsOf l) many).isSome) ∧ Ext σ σ1 := by
    simp only [bodyOf, Try.f69, Option.getD_some, initT, dx, reduceIte, zLt, zLe, zEq, zAd, zMu, zSu, zBe, yEq, yLt, yLe, yTn, reduceCtorEq, sx, fx69, ms]
    generalize hL : execC _ _ _ _ _ (Code.loop _) _ _ = q
    obtain ⟨e, T', σ', rfl, _, hc⟩ : ∃ e T' σ', q = some (e, T', σ') ∧ e ≠ .normal ∧ ((e = .ret ∧ ∃ f, runL (pgsOf l) many = some f ∧ T'.get 4 = some (.int .i64 (f : Nat)) ∧ T'.get 5 = some (.bool true) ∧ Ext σ σ') ∨ (e = .exit 0 ∧ runL (pgsOf l) many = none ∧ Ext σ σ')) := by
      rw [← hL]
      refine exec_loop2 (fun i T σ' => i ≤ l.length ∧ T.get 1 = some (.int .i64 (many : Nat)) ∧ T.get 6 = some (.int .i64 ((cntTo (pgsOf l) i : Nat) : Int)) ∧ T.get 13 = some (.slice pr 0 its.length pc 3) ∧ T.get 14 = some (.int .i64 (its.length : Nat)) ∧ T.get 15 = some (.int .i64 (i : Nat)) ∧ Ext σ σ' ∧ runTo (pgsOf l) many i = none) l.length (by omega) ?_ ?_ ?_
      · rintro i hi T σ0 ⟨_, t1, t6, t13, t14, t15, ex, hno⟩
        have hii : i < its.length := by omega
        have hlt : ((i : Nat) : Int) < ((its.length : Nat) : Int) := by omega
        have hw' := i64_succ (i := i) (by omega)
        have hload := item_load hpi hii hi
        have hpg := pgAt_pgs hi
        have hcle := (cntTo_le (pgsOf l) i).1
        have hcle2 := (cntTo_le (pgsOf l) (i + 1)).1
        have hw6 := i64_succ (i := cntTo (pgsOf l) i) (by omega)
        have mp0 : σ0.get pr = some (.row 3 true (its.map MItem.cells).flatten) := by rw [ex.2 pr h.nx.2.1]; exact h.mp
        have hin : i * 3 + 3 ≤ its.length * 3 := by omega
        have hrun : runTo (pgsOf l) many (i + 1) = if cntTo (pgsOf l) (i + 1) = many then some (i + 1 - many) else none := by rw [runTo, hno]
        have hone : its[i].x.oneCell = true := by
          rcases (h.it.1 its[i] (List.getElem_mem hii)).2.2 with ⟨_, e⟩ | ⟨_, _, e, _⟩ <;> rw [e] <;> rfl
        have hfin : runTo (pgsOf l) many (i + 1) = some (i + 1 - many) → runL (pgsOf l) many = some (i + 1 - many) := fun hs => by
          unfold runL
          have key : ∀ d, runTo (pgsOf l) many (i + 1 + d) = some (i + 1 - many) := by
            intro d
            induction d with
            | zero => exact hs
            | succ d ih => rw [show i + 1 + (d + 1) = i + 1 + d + 1 by omega, runTo, ih]
          have := key ((pgsOf l).length - (i + 1))
          rw [show i + 1 + ((pgsOf l).length - (i + 1)) = (pgsOf l).length by omega] at this
          exact this
        have exn : Ext σ ((σ0.push (.row 3 true [.int .u8 0, .int .i64 0, .vs .nil []])).put σ0.next (.row 3 true [.int .u8 (l[i]).1.kind, .int .i64 (l[i]).1.n, its[i].x])) := by
          have := ex.1
          exact (ex.trans (Ext.push _ _)).put _ _ (by omega)
        by_cases k0 : (l[i]).1.kind = 0
        · have hb0 : ((l[i]).1.kind != 0) = false := by rw [k0]; rfl
          have hcn : cntTo (pgsOf l) (i + 1) = cntTo (pgsOf l) i + 1 := by rw [cntTo, hpg, if_pos k0]
          by_cases hm2 : cntTo (pgsOf l) i + 1 = many
          · have hbm : (((cntTo (pgsOf l) i + 1 : Nat) : Int) == ((many : Nat) : Int)) = true := by rw [hm2]; exact beq_self_eq_true _
            have w1 : IntKind.i64.wrap (((i : Nat) : Int) - ((many : Nat) : Int)) = ((i : Nat) : Int) - ((many : Nat) : Int) := i64_id (by omega) (by omega)
            have w2 : IntKind.i64.wrap (((i : Nat) : Int) - ((many : Nat) : Int) + 1) = ((i + 1 - many : Nat) : Int) := by rw [i64_id (by omega) (by omega)]; omega
            refine .inr ⟨_, _, _, by
              simp only [dx, reduceIte, zLt, zLe, zEq, zAd, zMu, zSu, zBe, yEq, yLt, yLe, yTn, reduceCtorEq, sx, fx69, t1, t6, t13, t14, t15, mp0, hlt, hlen, hin, hload, hone, Int.natCast_nonneg, Int.toNat_natCast, hw6, hb0, hbm, w1, w2]
              rfl, by simp, .inl ⟨rfl, i + 1 - many, hfin (by rw [hrun, hcn, if_pos hm2]), ?_, ?_, exn⟩⟩
            · simp only [Tr.get_set, zEq, reduceIte]
            · simp only [Tr.get_set, zEq, reduceIte]
          · have hbm : (((cntTo (pgsOf l) i + 1 : Nat) : Int) == ((many : Nat) : Int)) = false := by rw [beq_eq_false_iff_ne]; omega
            refine .inl ⟨_, _, by
              simp only [dx, reduceIte, zLt, zLe, zEq, zAd, zMu, zSu, zBe, yEq, yLt, yLe, yTn, reduceCtorEq, sx, fx69, t1, t6, t13, t14, t15, mp0, hlt, hlen, hin, hload, hone, Int.natCast_nonneg, Int.toNat_natCast, hw6, hb0, hbm, hw']
              rfl, by omega, ?_, ?_, ?_, ?_, ?_, exn, by rw [hrun, hcn, if_neg hm2]⟩
            · simp only [Tr.get_set, zEq, reduceIte, t1]
            · simp only [Tr.get_set, zEq, reduceIte, hcn]
            · simp only [Tr.get_set, zEq, reduceIte, t13]
            · simp only [Tr.get_set, zEq, reduceIte, t14]
            · simp only [Tr.get_set, zEq, reduceIte]
        · have hb0 : ((l[i]).1.kind != 0) = true := by rw [bne_iff_ne]; exact k0
          have hcn : cntTo (pgsOf l) (i + 1) = 0 := by rw [cntTo, hpg, if_neg k0]
          by_cases hm2 : 0 = many
          · have hbm : ((0 : Int) == ((many : Nat) : Int)) = true := by rw [← hm2]; rfl
            have w1 : IntKind.i64.wrap (((i : Nat) : Int) - ((many : Nat) : Int)) = ((i : Nat) : Int) - ((many : Nat) : Int) := i64_id (by omega) (by omega)
            have w2 : IntKind.i64.wrap (((i : Nat) : Int) - ((many : Nat) : Int) + 1) = ((i + 1 - many : Nat) : Int) := by rw [i64_id (by omega) (by omega)]; omega
            refine .inr ⟨_, _, _, by
              simp only [dx, reduceIte, zLt, zLe, zEq, zAd, zMu, zSu, zBe, yEq, yLt, yLe, yTn, reduceCtorEq, sx, fx69, t1, t6, t13, t14, t15, mp0, hlt, hlen, hin, hload, hone, Int.natCast_nonneg, Int.toNat_natCast, hw6, hb0, hbm, w1, w2]
              rfl, by simp, .inl ⟨rfl, i + 1 - many, hfin (by rw [hrun, hcn, if_pos hm2]), ?_, ?_, exn⟩⟩
            · simp only [Tr.get_set, zEq, reduceIte]
            · simp only [Tr.get_set, zEq, reduceIte]
          · have hbm : ((0 : Int) == ((many : Nat) : Int)) = false := by rw [beq_eq_false_iff_ne]; omega
            refine .inl ⟨_, _, by
              simp only [dx, reduceIte, zLt, zLe, zEq, zAd, zMu, zSu, zBe, yEq, yLt, yLe, yTn, reduceCtorEq, sx, fx69, t1, t6, t13, t14, t15, mp0, hlt, hlen, hin, hload, hone, Int.natCast_nonneg, Int.toNat_natCast, hw6, hb0, hbm, hw']
              rfl, by omega, ?_, ?_, ?_, ?_, ?_, exn, by rw [hrun, hcn, if_neg hm2]⟩
            · simp only [Tr.get_set, zEq, reduceIte, t1]
            · simp only [Tr.get_set, zEq, reduceIte, hcn] <;> rfl
            · simp only [Tr.get_set, zEq, reduceIte, t13]
            · simp only [Tr.get_set, zEq, reduceIte, t14]
            · simp only [Tr.get_set, zEq, reduceIte]
      · rintro T σ0 ⟨_, t1, t6, t13, t14, t15, ex, hno⟩
        have hge : ¬ (((l.length : Nat) : Int) < ((its.length : Nat) : Int)) := by omega
        exact ⟨_, _, _, by
          simp only [dx, reduceIte, zLt, zLe, zEq, zAd, zMu, zSu, zBe, yEq, yLt, yLe, yTn, reduceCtorEq, sx, fx69, t14, t15, hge]
          rfl, by simp, .inr ⟨rfl, by unfold runL; rw [hlp]; exact hno, ex⟩⟩
      · refine ⟨Nat.zero_le _, ?_, ?_, ?_, ?_, ?_, Ext.refl _, rfl⟩
        all_goals simp only [Tr.get_set, zEq, reduceIte] <;> rfl
    rcases hc with ⟨rfl, f, h1, h2, h3, h4⟩ | ⟨rfl, h1, h4⟩
    · simp only [dx, reduceIte, zLt, zLe, zEq, zAd, zMu, zSu, zBe, yEq, yLt, yLe, yTn, reduceCtorEq, sx, fx69]
      rw [h1]
      exact ⟨_, _, rfl, h2, h3, h4⟩
    · simp only [dx, reduceIte, zLt, zLe, zEq, zAd, zMu, zSu, zBe, yEq, yLt, yLe, yTn, reduceCtorEq, sx, fx69]
      rw [h1]
      exact ⟨_, _, rfl, by simp only [Tr.get_set, zEq, reduceIte] <;> rfl, by simp only [Tr.get_set, zEq, reduceIte] <;> rfl, h4⟩
  obtain ⟨T1, σ1, h1, h2, h3, h4⟩ := run
  exact ⟨σ1, q_call (first := []) (caps := []) fn69 rfl (by simp [Try.f69]) h1 (by simp) (res_two h2 h3), h4⟩
end Go.Proofs.Ytjkfdiglokkceaa

/- Heaps: the reference's freeRun and sizeFor. -/
set_option maxRecDepth 100000
set_option linter.unusedSimpArgs false
set_option linter.unusedVariables false
namespace Go.Proofs.Ytjkfdiglokkceaa
open Go Go.Proofs.Ytjkfdiglokkceaa.Pale
variable {k : Nat} {σ : AMem}

end Go.Proofs.Ytjkfdiglokkceaa

/- Heaps: the reference's sizeFor. -/
set_option maxRecDepth 100000
set_option linter.unusedSimpArgs false
set_option linter.unusedVariables false
namespace Go.Proofs.Ytjkfdiglokkceaa
open Go Go.Proofs.Ytjkfdiglokkceaa.Pale
variable {k : Nat} {σ : AMem}

end Go.Proofs.Ytjkfdiglokkceaa

/- Heaps: the reference's Same, of heaps that are the same. -/
set_option maxRecDepth 100000
set_option linter.unusedSimpArgs false
set_option linter.unusedVariables false
namespace Go.Proofs.Ytjkfdiglokkceaa
open Go Go.Proofs.Ytjkfdiglokkceaa.Pale
variable {k : Nat} {σ : AMem}

end Go.Proofs.Ytjkfdiglokkceaa


