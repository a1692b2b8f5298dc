import Derived.Test.YtjkfdiglokkceaaHP
import Derived.Test.YtjkfdiglokkceaaFacts
import Derived.Test.YtjkfdiglokkceaaPaleRuns
open Nat renaming reduceLT → zLt, reduceLeDiff → zLe, reduceEqDiff → zEq, reduceAdd → zAd, reduceMul → zMu, reduceSub → zSu, reduceBEq → zBe
open Int renaming reduceEq → yEq, reduceLT → yLt, reduceLE → yLe, reduceToNat → yTn
/- Heaps: the reference's pages: In, isSize, many, isPage. -/
set_option maxRecDepth 100000
set_option linter.unusedSimpArgs false
set_option linter.unusedVariables false
namespace Go.Proofs.Ytjkfdiglokkceaa
open Go Go.Proofs.Ytjkfdiglokkceaa.Pale
variable {k : Nat} {σ : AMem}

/-- A page as a value: its list of what is used may be nil. -/
abbrev PV := Pg × VK
def boolV (l : List Bool) : List AVal := l.map AVal.bool
def intV (l : List Int) : List AVal := l.map fun i => AVal.int .i64 i
def pv (x : PV) : AVal := .agg [.int .u8 x.1.kind, .int .i64 x.1.n, .vs x.2 (boolV x.1.used)]
def pgsOf (l : List PV) : List Pg := l.map (·.1)
def hpV (kp kw : VK) (l : List PV) (ws : List Int) : AVal := .agg [.vs kp (l.map pv), .vs kw (intV ws)]
theorem boolV_length (l : List Bool) : (boolV l).length = l.length := by simp [boolV]
theorem intV_length (l : List Int) : (intV l).length = l.length := by simp [intV]
theorem boolV_get {l : List Bool} {i : Nat} (hi : i < l.length) : (boolV l)[i]? = some (.bool l[i]) := by
  unfold boolV
  rw [List.getElem?_map, List.getElem?_eq_getElem hi]
  rfl
theorem intV_get {l : List Int} {i : Nat} (hi : i < l.length) : (intV l)[i]? = some (.int .i64 l[i]) := by
  unfold intV
  rw [List.getElem?_map, List.getElem?_eq_getElem hi]
  rfl
theorem awake_call (call : CallA) : pureCall lawProg call (.func 12 [] []) [] σ = some (.bool true, σ) := pureCall_memo (args := []) rfl memo12
theorem in_run (n a b : Int) : pureRun (callN lawProg (k + 1)) (.func 45 [] []) [.int .i64 n, .int .i64 a, .int .i64 b] = some (.bool (decide (a ≤ n ∧ n ≤ b)), true) := by
  have run : ∃ T1, execC lawProg (callN lawProg k) k 45 15 (bodyOf Try.f45) (initT 0 [.int .i64 n, .int .i64 a, .int .i64 b] .nil) AMem.empty = some (.ret, T1, AMem.empty) ∧ T1.get 6 = some (.bool (decide (a ≤ n ∧ n ≤ b))) := by
    by_cases h1 : a ≤ n
    · by_cases h2 : n ≤ b
      · simp only [bodyOf, Try.f45, Option.getD_some, initT, dx, reduceIte, zLt, zLe, zEq, zAd, zMu, zSu, zBe, yEq, yLt, yLe, yTn, reduceCtorEq, sx, fx45, ge_iff_le, h1, h2]
        exact ⟨_, rfl, by simp only [Tr.get_set, zEq, reduceIte]⟩
      · simp only [bodyOf, Try.f45, Option.getD_some, initT, dx, reduceIte, zLt, zLe, zEq, zAd, zMu, zSu, zBe, yEq, yLt, yLe, yTn, reduceCtorEq, sx, fx45, ge_iff_le, h1, h2]
        exact ⟨_, rfl, by simp only [Tr.get_set, zEq, reduceIte]⟩
    · simp only [bodyOf, Try.f45, Option.getD_some, initT, dx, reduceIte, zLt, zLe, zEq, zAd, zMu, zSu, zBe, yEq, yLt, yLe, yTn, reduceCtorEq, sx, fx45, ge_iff_le, h1]
      exact ⟨_, rfl, by simp only [Tr.get_set, zEq, reduceIte]⟩
  obtain ⟨T1, h1, h2⟩ := run
  exact pureRun_of fn45 rfl (by simp [Try.f45]) h1 (by simp) (res_one h2) rfl
theorem in_call (n a b : Int) (hk : 1 ≤ k) : pureCall lawProg (callN lawProg k) (.func 45 [] []) [.int .i64 n, .int .i64 a, .int .i64 b] σ = some (.bool (decide (a ≤ n ∧ n ≤ b)), σ) := by
  obtain ⟨k, rfl⟩ : ∃ m, k = m + 1 := ⟨k - 1, by omega⟩
  exact pureCall_of rfl (memo45 _) (in_run n a b)
theorem sizes_call (hk : 1 ≤ k) : pureCall lawProg (callN lawProg k) (.func 86 [] []) [] σ = some (.vs .some (intV [2, 4, 8, 16, 32]), σ) := by
  obtain ⟨k, rfl⟩ : ∃ m, k = m + 1 := ⟨k - 1, by omega⟩
  have run : ∃ T1, execC lawProg (callN lawProg k) k 86 2 (bodyOf Try.f86) (initT 0 [] .nil) AMem.empty = some (.ret, T1, AMem.empty.push (.row 1 false (intV [2, 4, 8, 16, 32]))) ∧ T1.get 0 = some (.slice 0 0 5 (some 5) 1) := by
    simp only [bodyOf, Try.f86, Option.getD_some, initT, dx, reduceIte, zLt, zLe, zEq, zAd, zMu, zSu, zBe, yEq, yLt, yLe, yTn, reduceCtorEq, sx, fx86]
    exact ⟨_, rfl, by simp only [Tr.get_set, zEq, reduceIte]⟩
  obtain ⟨T1, h1, h2⟩ := run
  exact pureCall_of0 (args := []) rfl (memo86 _) (pureRun_of fn86 rfl (by simp [Try.f86]) h1 (by simp) (res_one h2) rfl)
theorem isSz_any (n : Int) : isSz n = ([2, 4, 8, 16, 32] : List Int).any fun m => m == n := by
  unfold isSz
  rw [Bool.eq_iff_iff]
  simp only [Bool.or_eq_true, beq_iff_eq, List.any_cons, List.any_nil, Bool.or_false]
  omega
theorem isSize_call (n : Int) (hk : 100 ≤ k) : pureCall lawProg (callN lawProg k) (.func 73 [] []) [.int .i64 n] σ = some (.bool (isSz n), σ) := by
  obtain ⟨k, rfl⟩ : ∃ m, k = m + 1 := ⟨k - 1, by omega⟩
  have run : ∃ T1 σ1, execC lawProg (callN lawProg k) k 73 18 (bodyOf Try.f73) (initT 0 [.int .i64 n] .nil) AMem.empty = some (.ret, T1, σ1) ∧ T1.get 2 = some (.bool (isSz n)) := by
    obtain ⟨L, hL0⟩ : ∃ L : List Int, L = [2, 4, 8, 16, 32] := ⟨_, rfl⟩
    have hlen : L.length = 5 := by rw [hL0]; rfl
    have hany : isSz n = L.any fun m => m == n := by rw [hL0]; exact isSz_any n
    have hs := fun (σ : AMem) => sizes_call (k := k) (σ := σ) (by omega)
    rw [← hL0] at hs
    simp only [bodyOf, Try.f73, Option.getD_some, initT, dx, reduceIte, zLt, zLe, zEq, zAd, zMu, zSu, zBe, yEq, yLt, yLe, yTn, reduceCtorEq, sx, fx73, hs]
    generalize hL : execC _ _ _ _ _ (Code.loop _) _ _ = q
    obtain ⟨e, T', σ', rfl, _, hc⟩ : ∃ e T' σ', q = some (e, T', σ') ∧ e ≠ .normal ∧ ((e = .ret ∧ T'.get 2 = some (.bool (isSz n))) ∨ (e = .exit 0 ∧ isSz n = false)) := by
      rw [← hL]
      refine exec_loop2 (fun i T σ => i ≤ L.length ∧ T.get 0 = some (.int .i64 n) ∧ T.get 3 = some (.vs .some (intV L)) ∧ T.get 4 = some (.int .i64 (i : Nat)) ∧ ∀ m, m ∈ L.take i → m ≠ n) L.length (by omega) ?_ ?_ ?_
      · rintro i hi T σ ⟨_, t0, t3, t4, hno⟩
        have hlt : (i : Int) < L.length := by omega
        have hw := i64_succ (i := i) (by omega)
        have hget := intV_get hi
        by_cases e : L[i] = n
        · have hb : (L[i] == n) = true := by rw [e]; exact beq_self_eq_true _
          refine .inr ⟨_, _, _, by
            simp only [dx, reduceIte, zLt, zLe, zEq, zAd, zMu, zSu, zBe, yEq, yLt, yLe, yTn, reduceCtorEq, sx, fx73, t0, t3, t4, hlt, intV_length, Int.natCast_nonneg, Int.toNat_natCast, hget, hb]
            rfl, by simp, .inl ⟨rfl, ?_⟩⟩
          have : isSz n = true := by rw [hany, List.any_eq_true]; exact ⟨L[i], List.getElem_mem hi, hb⟩
          rw [this]
          simp only [Tr.get_set, zEq, reduceIte]
        · have hb : (L[i] == n) = false := by rw [beq_eq_false_iff_ne]; exact e
          refine .inl ⟨_, _, by
            simp only [dx, reduceIte, zLt, zLe, zEq, zAd, zMu, zSu, zBe, yEq, yLt, yLe, yTn, reduceCtorEq, sx, fx73, t0, t3, t4, hlt, intV_length, Int.natCast_nonneg, Int.toNat_natCast, hget, hb, hw]
            rfl, by omega, ?_, ?_, ?_, take_all hi hno e⟩
          · simp only [Tr.get_set, zEq, reduceIte, t0]
          · simp only [Tr.get_set, zEq, reduceIte, t3]
          · simp only [Tr.get_set, zEq, reduceIte]
      · rintro T σ ⟨_, t0, t3, t4, hno⟩
        have hge : ¬ (((L.length : Nat) : Int) < ((L.length : Nat) : Int)) := by omega
        rw [List.take_length] at hno
        refine ⟨_, _, _, by
          simp only [dx, reduceIte, zLt, zLe, zEq, zAd, zMu, zSu, zBe, yEq, yLt, yLe, yTn, reduceCtorEq, sx, fx73, t3, t4, intV_length, hge]
          rfl, by simp, .inr ⟨rfl, ?_⟩⟩
        rw [hany, List.any_eq_false]
        intro m hm
        simpa using hno m hm
      · refine ⟨Nat.zero_le _, ?_, ?_, ?_, by simp⟩
        · simp only [Tr.get_set, zEq, reduceIte]
        · simp only [Tr.get_set, zEq, reduceIte]
        · simp only [Tr.get_set, zEq, reduceIte]; rfl
    rcases hc with ⟨rfl, h2⟩ | ⟨rfl, h2⟩
    · simp only [dx, reduceIte, zLt, zLe, zEq, zAd, zMu, zSu, zBe, yEq, yLt, yLe, yTn, reduceCtorEq, sx, fx73]
      exact ⟨_, _, rfl, h2⟩
    · simp only [dx, reduceIte, zLt, zLe, zEq, zAd, zMu, zSu, zBe, yEq, yLt, yLe, yTn, reduceCtorEq, sx, fx73]
      exact ⟨_, _, rfl, by rw [h2]; simp only [Tr.get_set, zEq, reduceIte]⟩
  obtain ⟨T1, σ1, h1, h2⟩ := run
  exact pureCall_of rfl (memo73 _) (pureRun_of fn73 rfl (by simp [Try.f73]) h1 (by simp) (res_one h2) rfl)
theorem many_call (x : PV) (hn : x.1.used.length ≤ 1000) (hk : 2000 ≤ k) : pureCall lawProg (callN lawProg k) (.func 57 [] []) [pv x] σ = some (.int .i64 ((x.1.used.countP id : Nat) : Int), σ) := by
  obtain ⟨k, rfl⟩ : ∃ m, k = m + 1 := ⟨k - 1, by omega⟩
  obtain ⟨⟨kd, n, l⟩, vk⟩ := x
  simp only at hn ⊢
  have run : ∃ T1 σ1, execC lawProg (callN lawProg k) k 57 20 (bodyOf Try.f57) (initT 0 [.agg [.int .u8 kd, .int .i64 n, .vs vk (boolV l)]] .nil) AMem.empty = some (.ret, T1, σ1) ∧ T1.get 2 = some (.int .i64 ((l.countP id : Nat) : Int)) := by
    simp only [bodyOf, Try.f57, Option.getD_some, initT, dx, reduceIte, zLt, zLe, zEq, zAd, zMu, zSu, zBe, yEq, yLt, yLe, yTn, reduceCtorEq, sx, fx57]
    generalize hL : execC _ _ _ _ _ (Code.loop _) _ _ = q
    obtain ⟨e, T', σ', rfl, _, rfl, h3⟩ : ∃ e T' σ', q = some (e, T', σ') ∧ e ≠ .normal ∧ (e = .exit 0 ∧ T'.get 3 = some (.int .i64 ((l.countP id : Nat) : Int))) := by
      rw [← hL]
      refine exec_loop (fun i T σ => i ≤ l.length ∧ T.get 1 = some (.ptr 0 0) ∧ T.get 3 = some (.int .i64 (((l.take i).countP id : Nat) : Int)) ∧ T.get 4 = some (.int .i64 (i : Nat)) ∧ σ.get 0 = some (.row 3 true [.int .u8 kd, .int .i64 n, .vs vk (boolV l)])) l.length (by omega) ?_ ?_ ?_
      · rintro i hi T σ ⟨_, t1, t3, t4, m0⟩
        have hlt : (i : Int) < l.length := by omega
        have hw := i64_succ (i := i) (by omega)
        have hget := boolV_get hi
        have hc := List.countP_le_length (p := id) (l := l.take i)
        rw [List.length_take] at hc
        have hstep : (l.take (i + 1)).countP id = (l.take i).countP id + if l[i] then 1 else 0 := by
          rw [List.take_succ_eq_append_getElem hi, List.countP_append, List.countP_singleton]
          rfl
        cases hb : l[i] with
        | true =>
          rw [hb] at hget hstep
          have hw2 := i64_succ (i := (l.take i).countP id) (by omega)
          refine ⟨_, _, by
            simp only [dx, reduceIte, zLt, zLe, zEq, zAd, zMu, zSu, zBe, yEq, yLt, yLe, yTn, reduceCtorEq, sx, fx57, t1, t3, t4, m0, hlt, boolV_length, Int.natCast_nonneg, Int.toNat_natCast, hget, hw, hw2]
            rfl, by omega, ?_, ?_, ?_, m0⟩
          · simp only [Tr.get_set, zEq, reduceIte, t1]
          · simp only [Tr.get_set, zEq, reduceIte]; rw [hstep]; rfl
          · simp only [Tr.get_set, zEq, reduceIte]
        | false =>
          rw [hb] at hget hstep
          refine ⟨_, _, by
            simp only [dx, reduceIte, zLt, zLe, zEq, zAd, zMu, zSu, zBe, yEq, yLt, yLe, yTn, reduceCtorEq, sx, fx57, t1, t3, t4, m0, hlt, boolV_length, Int.natCast_nonneg, Int.toNat_natCast, hget, hw]
            rfl, by omega, ?_, ?_, ?_, m0⟩
          · simp only [Tr.get_set, zEq, reduceIte, t1]
          · simp only [Tr.get_set, zEq, reduceIte, t3]; rw [hstep]; rfl
          · simp only [Tr.get_set, zEq, reduceIte]
      · rintro T σ ⟨_, t1, t3, t4, m0⟩
        have hge : ¬ (((l.length : Nat) : Int) < ((l.length : Nat) : Int)) := by omega
        rw [List.take_length] at t3
        refine ⟨_, _, _, by
          simp only [dx, reduceIte, zLt, zLe, zEq, zAd, zMu, zSu, zBe, yEq, yLt, yLe, yTn, reduceCtorEq, sx, fx57, t1, t4, m0, boolV_length, hge]
          rfl, by simp, rfl, ?_⟩
        simp only [Tr.get_set, zEq, reduceIte, t3]
      · refine ⟨Nat.zero_le _, ?_, ?_, ?_, ?_⟩
        · simp only [Tr.get_set, zEq, reduceIte]
        · simp only [Tr.get_set, zEq, reduceIte]; rfl
        · simp only [Tr.get_set, zEq, reduceIte]; rfl
        · simp only [AMem.get_push, next_empty, reduceIte]
    simp only [dx, reduceIte, zLt, zLe, zEq, zAd, zMu, zSu, zBe, yEq, yLt, yLe, yTn, reduceCtorEq, sx, fx57, h3]
    exact ⟨_, _, rfl, by simp only [Tr.get_set, zEq, reduceIte]⟩
  obtain ⟨T1, σ1, h1, h2⟩ := run
  exact pureCall_of rfl (memo57 _) (pureRun_of fn57 rfl (by simp [Try.f57]) h1 (by simp) (res_one h2) rfl)
end Go.Proofs.Ytjkfdiglokkceaa

/- Heaps: the reference's isPage. -/
set_option maxRecDepth 100000
set_option linter.unusedSimpArgs false
set_option linter.unusedVariables false
namespace Go.Proofs.Ytjkfdiglokkceaa
open Go Go.Proofs.Ytjkfdiglokkceaa.Pale
variable {k : Nat} {σ : AMem}

def pageB (more : Int) (p : Pg) : Bool :=
  ((p.kind == 3) == decide (more > 0)) && (if (p.kind == 0) = true ∨ (p.kind == 3) = true then (p.n == 0) && ((p.used.length : Int) == 0)
    else if (p.kind == 1) = true then isSz p.n && ((p.used.length : Int) == (64 : Int).tdiv p.n) && decide (((p.used.countP id : Nat) : Int) > 0)
    else if (p.kind == 2) = true then decide (p.n ≥ 1) && ((p.used.length : Int) == 0) else false)
theorem isPage_call (x : PV) (more : Int) (hn : x.1.used.length ≤ 1000) (hk : 3000 ≤ k) : pureCall lawProg (callN lawProg k) (.func 50 [] []) [pv x, .int .i64 more] σ = some (.bool (pageB more x.1), σ) := by
  obtain ⟨k, rfl⟩ : ∃ m, k = m + 1 := ⟨k - 1, by omega⟩
  have hmany := fun (σ : AMem) => many_call (k := k) (σ := σ) x hn (by omega)
  obtain ⟨⟨kd, n, l⟩, vk⟩ := x
  have hsz := fun (σ : AMem) => isSize_call (k := k) (σ := σ) n (by omega)
  simp only [pv] at hn hmany ⊢
  have run : ∃ T1 σ1, execC lawProg (callN lawProg k) k 50 55 (bodyOf Try.f50) (initT 0 [.agg [.int .u8 kd, .int .i64 n, .vs vk (boolV l)], .int .i64 more] .nil) AMem.empty = some (.ret, T1, σ1) ∧ T1.get 4 = some (.bool (pageB more ⟨kd, n, l⟩)) := by
    have hdiv : isSz n = true → (¬ n = 0 ∧ IntKind.i64.wrap ((64 : Int).tdiv n) = (64 : Int).tdiv n) := fun h => by
      rcases isSz_iff.1 h with rfl | rfl | rfl | rfl | rfl <;> exact ⟨by decide, by rfl⟩
    unfold pageB
    simp only
    generalize h3 : (kd == 3) = b3
    generalize hm : decide (more > 0) = m
    generalize h0 : (kd == 0) = b0
    generalize h1 : (kd == 1) = b1
    generalize h2 : (kd == 2) = b2
    generalize hz : (n == 0) = z
    generalize hu : ((l.length : Int) == 0) = u
    generalize hp : decide (n ≥ 1) = p1
    generalize ha : decide (((l.countP id : Nat) : Int) > 0) = a
    generalize hs : isSz n = sz at hsz hdiv
    have hl := boolV_length l
    cases b3 with
    | true =>
      cases m with
      | false =>
        · simp only [bodyOf, Try.f50, Option.getD_some, initT, dx, reduceIte, zLt, zLe, zEq, zAd, zMu, zSu, zBe, yEq, yLt, yLe, yTn, reduceCtorEq, sx, fx50, aeq, eqBool, hl, h3, hm, h0, h1, h2, hz, hu, hp]
          exact ⟨_, _, rfl, by simp only [Tr.get_set, zEq, reduceIte, BEq.rfl, Bool.true_and, Bool.false_and, Bool.and_true, Bool.and_false, beq_true_false, beq_false_true, or_true, true_or, Bool.false_eq_true, false_or, or_false, or_self, if_true, if_false]⟩
      | true =>
        cases b0 with
        | false =>
          cases z with
          | false =>
            · simp only [bodyOf, Try.f50, Option.getD_some, initT, dx, reduceIte, zLt, zLe, zEq, zAd, zMu, zSu, zBe, yEq, yLt, yLe, yTn, reduceCtorEq, sx, fx50, aeq, eqBool, hl, h3, hm, h0, h1, h2, hz, hu, hp]
              exact ⟨_, _, rfl, by simp only [Tr.get_set, zEq, reduceIte, BEq.rfl, Bool.true_and, Bool.false_and, Bool.and_true, Bool.and_false, beq_true_false, beq_false_true, or_true, true_or, Bool.false_eq_true, false_or, or_false, or_self, if_true, if_false]⟩
          | true =>
            · simp only [bodyOf, Try.f50, Option.getD_some, initT, dx, reduceIte, zLt, zLe, zEq, zAd, zMu, zSu, zBe, yEq, yLt, yLe, yTn, reduceCtorEq, sx, fx50, aeq, eqBool, hl, h3, hm, h0, h1, h2, hz, hu, hp]
              exact ⟨_, _, rfl, by simp only [Tr.get_set, zEq, reduceIte, BEq.rfl, Bool.true_and, Bool.false_and, Bool.and_true, Bool.and_false, beq_true_false, beq_false_true, or_true, true_or, Bool.false_eq_true, false_or, or_false, or_self, if_true, if_false]⟩
        | true =>
          cases z with
          | false =>
            · simp only [bodyOf, Try.f50, Option.getD_some, initT, dx, reduceIte, zLt, zLe, zEq, zAd, zMu, zSu, zBe, yEq, yLt, yLe, yTn, reduceCtorEq, sx, fx50, aeq, eqBool, hl, h3, hm, h0, h1, h2, hz, hu, hp]
              exact ⟨_, _, rfl, by simp only [Tr.get_set, zEq, reduceIte, BEq.rfl, Bool.true_and, Bool.false_and, Bool.and_true, Bool.and_false, beq_true_false, beq_false_true, or_true, true_or, Bool.false_eq_true, false_or, or_false, or_self, if_true, if_false]⟩
          | true =>
            · simp only [bodyOf, Try.f50, Option.getD_some, initT, dx, reduceIte, zLt, zLe, zEq, zAd, zMu, zSu, zBe, yEq, yLt, yLe, yTn, reduceCtorEq, sx, fx50, aeq, eqBool, hl, h3, hm, h0, h1, h2, hz, hu, hp]
              exact ⟨_, _, rfl, by simp only [Tr.get_set, zEq, reduceIte, BEq.rfl, Bool.true_and, Bool.false_and, Bool.and_true, Bool.and_false, beq_true_false, beq_false_true, or_true, true_or, Bool.false_eq_true, false_or, or_false, or_self, if_true, if_false]⟩
    | false =>
      cases m with
      | true =>
        · simp only [bodyOf, Try.f50, Option.getD_some, initT, dx, reduceIte, zLt, zLe, zEq, zAd, zMu, zSu, zBe, yEq, yLt, yLe, yTn, reduceCtorEq, sx, fx50, aeq, eqBool, hl, h3, hm, h0, h1, h2, hz, hu, hp]
          exact ⟨_, _, rfl, by simp only [Tr.get_set, zEq, reduceIte, BEq.rfl, Bool.true_and, Bool.false_and, Bool.and_true, Bool.and_false, beq_true_false, beq_false_true, or_true, true_or, Bool.false_eq_true, false_or, or_false, or_self, if_true, if_false]⟩
      | false =>
        cases b0 with
        | true =>
          cases z with
          | false =>
            · simp only [bodyOf, Try.f50, Option.getD_some, initT, dx, reduceIte, zLt, zLe, zEq, zAd, zMu, zSu, zBe, yEq, yLt, yLe, yTn, reduceCtorEq, sx, fx50, aeq, eqBool, hl, h3, hm, h0, h1, h2, hz, hu, hp]
              exact ⟨_, _, rfl, by simp only [Tr.get_set, zEq, reduceIte, BEq.rfl, Bool.true_and, Bool.false_and, Bool.and_true, Bool.and_false, beq_true_false, beq_false_true, or_true, true_or, Bool.false_eq_true, false_or, or_false, or_self, if_true, if_false]⟩
          | true =>
            · simp only [bodyOf, Try.f50, Option.getD_some, initT, dx, reduceIte, zLt, zLe, zEq, zAd, zMu, zSu, zBe, yEq, yLt, yLe, yTn, reduceCtorEq, sx, fx50, aeq, eqBool, hl, h3, hm, h0, h1, h2, hz, hu, hp]
              exact ⟨_, _, rfl, by simp only [Tr.get_set, zEq, reduceIte, BEq.rfl, Bool.true_and, Bool.false_and, Bool.and_true, Bool.and_false, beq_true_false, beq_false_true, or_true, true_or, Bool.false_eq_true, false_or, or_false, or_self, if_true, if_false]⟩
        | false =>
          cases b1 with
          | true =>
            cases sz with
            | false =>
              · simp only [bodyOf, Try.f50, Option.getD_some, initT, dx, reduceIte, zLt, zLe, zEq, zAd, zMu, zSu, zBe, yEq, yLt, yLe, yTn, reduceCtorEq, sx, fx50, aeq, eqBool, hl, h3, hm, h0, h1, h2, hz, hu, hp, hsz]
                exact ⟨_, _, rfl, by simp only [Tr.get_set, zEq, reduceIte, BEq.rfl, Bool.true_and, Bool.false_and, Bool.and_true, Bool.and_false, beq_true_false, beq_false_true, or_true, true_or, Bool.false_eq_true, false_or, or_false, or_self, if_true, if_false]⟩
            | true =>
              obtain ⟨d1, d2⟩ := hdiv rfl
              generalize hq : ((l.length : Int) == (64 : Int).tdiv n) = q
              cases q with
              | false =>
                · simp only [bodyOf, Try.f50, Option.getD_some, initT, dx, reduceIte, zLt, zLe, zEq, zAd, zMu, zSu, zBe, yEq, yLt, yLe, yTn, reduceCtorEq, sx, fx50, aeq, eqBool, hl, h3, hm, h0, h1, h2, hz, hu, hp, hsz, d1, d2, hq, hmany, ha]
                  exact ⟨_, _, rfl, by simp only [Tr.get_set, zEq, reduceIte, BEq.rfl, Bool.true_and, Bool.false_and, Bool.and_true, Bool.and_false, beq_true_false, beq_false_true, or_true, true_or, Bool.false_eq_true, false_or, or_false, or_self, if_true, if_false]⟩
              | true =>
                · simp only [bodyOf, Try.f50, Option.getD_some, initT, dx, reduceIte, zLt, zLe, zEq, zAd, zMu, zSu, zBe, yEq, yLt, yLe, yTn, reduceCtorEq, sx, fx50, aeq, eqBool, hl, h3, hm, h0, h1, h2, hz, hu, hp, hsz, d1, d2, hq, hmany, ha]
                  exact ⟨_, _, rfl, by simp only [Tr.get_set, zEq, reduceIte, BEq.rfl, Bool.true_and, Bool.false_and, Bool.and_true, Bool.and_false, beq_true_false, beq_false_true, or_true, true_or, Bool.false_eq_true, false_or, or_false, or_self, if_true, if_false]⟩
          | false =>
            cases b2 with
            | true =>
              cases p1 with
              | false =>
                · simp only [bodyOf, Try.f50, Option.getD_some, initT, dx, reduceIte, zLt, zLe, zEq, zAd, zMu, zSu, zBe, yEq, yLt, yLe, yTn, reduceCtorEq, sx, fx50, aeq, eqBool, hl, h3, hm, h0, h1, h2, hz, hu, hp]
                  exact ⟨_, _, rfl, by simp only [Tr.get_set, zEq, reduceIte, BEq.rfl, Bool.true_and, Bool.false_and, Bool.and_true, Bool.and_false, beq_true_false, beq_false_true, or_true, true_or, Bool.false_eq_true, false_or, or_false, or_self, if_true, if_false]⟩
              | true =>
                · simp only [bodyOf, Try.f50, Option.getD_some, initT, dx, reduceIte, zLt, zLe, zEq, zAd, zMu, zSu, zBe, yEq, yLt, yLe, yTn, reduceCtorEq, sx, fx50, aeq, eqBool, hl, h3, hm, h0, h1, h2, hz, hu, hp]
                  exact ⟨_, _, rfl, by simp only [Tr.get_set, zEq, reduceIte, BEq.rfl, Bool.true_and, Bool.false_and, Bool.and_true, Bool.and_false, beq_true_false, beq_false_true, or_true, true_or, Bool.false_eq_true, false_or, or_false, or_self, if_true, if_false]⟩
            | false =>
              · simp only [bodyOf, Try.f50, Option.getD_some, initT, dx, reduceIte, zLt, zLe, zEq, zAd, zMu, zSu, zBe, yEq, yLt, yLe, yTn, reduceCtorEq, sx, fx50, aeq, eqBool, hl, h3, hm, h0, h1, h2, hz, hu, hp]
                exact ⟨_, _, rfl, by simp only [Tr.get_set, zEq, reduceIte, BEq.rfl, Bool.true_and, Bool.false_and, Bool.and_true, Bool.and_false, beq_true_false, beq_false_true, or_true, true_or, Bool.false_eq_true, false_or, or_false, or_self, if_true, if_false]⟩
  obtain ⟨T1, σ1, h1, h2⟩ := run
  exact pureCall_of rfl (memo50 _) (pureRun_of fn50 rfl (by simp [Try.f50]) h1 (by simp) (res_one h2) rfl)
/-- A page that is right, as the reference asks it. -/
theorem pageB_shape (left more : Int) (p : Pg) : pgShape left more p = true ↔ pageB more p = true ∧ ¬ (p.kind = 2 ∧ p.n > left) := by
  have hlen : ((p.used.length : Int) == 0) = p.used.isEmpty := by
    rw [Bool.eq_iff_iff, beq_iff_eq, List.isEmpty_iff, ← List.length_eq_zero_iff]
    omega
  have hany : decide (((p.used.countP id : Nat) : Int) > 0) = p.used.any id := by
    rw [Bool.eq_iff_iff, decide_eq_true_eq, List.any_eq_true]
    rw [show ((((p.used.countP id : Nat) : Int) > 0) ↔ 0 < p.used.countP id) by omega, List.countP_pos_iff]
  unfold pgShape pageB
  rw [hlen, hany]
  have e3 : (p.kind == 3) = decide (p.kind = 3) := by rw [Bool.eq_iff_iff, beq_iff_eq, decide_eq_true_eq]
  simp only [beq_iff_eq, Bool.and_eq_true]
  try rw [e3]
  by_cases k0 : p.kind = 0
  · simp [k0]
  · by_cases k1 : p.kind = 1
    · simp [k1]
    · by_cases k2 : p.kind = 2
      · simp [k2]
        exact ⟨fun ⟨a, ⟨b, c⟩, d⟩ => ⟨⟨a, b, d⟩, c⟩, fun ⟨⟨a, b, d⟩, c⟩ => ⟨a, ⟨b, c⟩, d⟩⟩
      · by_cases k3 : p.kind = 3
        · simp [k3]
        · simp [k0, k1, k2, k3]
end Go.Proofs.Ytjkfdiglokkceaa

/- Heaps: the reference's Blocks. -/
set_option maxRecDepth 100000
set_option linter.unusedSimpArgs false
set_option linter.unusedVariables false
namespace Go.Proofs.Ytjkfdiglokkceaa
open Go Go.Proofs.Ytjkfdiglokkceaa.Pale
variable {k : Nat} {σ : AMem}

def prC (b : Blk) : List AVal := [.int .i64 b.at_, .int .i64 b.size]
def prV (b : Blk) : AVal := .agg (prC b)
def prsV (l : List Blk) : List AVal := l.map prV
def prsC (l : List Blk) : List AVal := (l.map prC).flatten
theorem prsV_length (l : List Blk) : (prsV l).length = l.length := by simp [prsV]
theorem prsC_snoc (l : List Blk) (b : Blk) : prsC (l ++ [b]) = prsC l ++ prC b := by simp [prsC]
theorem prsV_get {l : List Blk} {i : Nat} (hi : i < l.length) : (prsV l)[i]? = some (.agg [.int .i64 (l[i]).at_, .int .i64 (l[i]).size]) := by
  unfold prsV
  rw [List.getElem?_map, List.getElem?_eq_getElem hi]
  rfl
/-- A list of blocks that grew from nothing, and whose row is not another one. -/
def GrewB (low q : Nat) (σ : AMem) (out : AVal) (l : List Blk) : Prop := Grew low σ 2 true out l.length (prsC l) ∧ (l = [] → out = .vs .nil []) ∧ (∀ r j c z, out = .slice r 0 j c z → r ≠ q)
theorem snapL_prs (fr : Bool) (σ : AMem) (d : Nat) (l : List Blk) : snapL (snapF fr σ (d + 1)) (prsC l) = some (prsC l, []) := by
  induction l with
  | nil => rfl
  | cons s l ih =>
    have : prsC (s :: l) = prC s ++ prsC l := rfl
    rw [this]
    exact snapL_append (a := prC s) rfl ih
theorem snap_prs {fr : Bool} {σ : AMem} {low q d : Nat} {out : AVal} {l : List Blk} (h : GrewB low q σ out l) : ∃ S, snapF fr σ (d + 2) out = some (.vs (lkOf l.length) (prsV l), S) := by
  by_cases h0 : l = []
  · obtain rfl := h.2.1 h0
    subst h0
    exact ⟨[], by cases fr <;> rfl⟩
  · rcases h.1.2 with ⟨h1, rfl⟩ | ⟨r, _, _, rfl, hg⟩
    · exact absurd (List.eq_nil_of_length_eq_zero h1) h0
    · refine ⟨r :: [], ?_⟩
      have := snap_structs (fr := fr) (σ := σ) (d := d) (r := r) (n := l.length) (cap := none) (sz := 2) (ls := l.map prC) (ps := l.map prC) (S := []) (by omega) (by simp) rfl (fun x hx => by obtain ⟨s, _, rfl⟩ := List.mem_map.1 hx; rfl) (fun x hx => by obtain ⟨s, _, rfl⟩ := List.mem_map.1 hx; rfl) hg (snapL_prs fr σ d l)
      rw [this, lkOf, if_neg (fun h => h0 (List.eq_nil_of_length_eq_zero h)), prsV, List.map_map]
      rfl
theorem grew_pr {low q : Nat} {out : AVal} {l : List Blk} (b : Blk) (h : GrewB low q σ out l) (hlow : low ≤ σ.next) (hq : q < σ.next) (hj : l.length ≤ 100000) : ∃ out' σ', appendA (⟨.array 2 3, 2, 16, [.int .i64 0, .int .i64 0]⟩ : TyI) (σ.push (.row 2 true [.int .i64 b.at_, .int .i64 b.size])) out (.slice σ.next 0 1 (some 1) 2) = some (out', σ') ∧ GrewB low q σ' out' (l ++ [b]) ∧ σ.next ≤ σ'.next ∧ (∀ s, s < low → σ'.get s = σ.get s) ∧ σ'.get q = σ.get q := by
  obtain ⟨σ', a1, a2, a3, a4, a5⟩ := Grew.one (e := (⟨.array 2 3, 2, 16, [.int .i64 0, .int .i64 0]⟩ : TyI)) (xs := [.int .i64 b.at_, .int .i64 b.size]) h.1 hlow rfl (by decide) (by decide) (by decide) (by simp only [mostBytes]; omega) rfl
  have e : (l ++ [b]).length = l.length + 1 := by simp
  refine ⟨_, σ', a1, ⟨by rw [prsC_snoc, e]; exact a2, fun h => by simp at h, fun r j c z hr => ?_⟩, by omega, a4, a5 q hq fun hc => h.2.2 _ _ _ _ hc rfl⟩
  simp only [AVal.slice.injEq] at hr
  omega
theorem GrewB.same {low q q' : Nat} {σ σ' : AMem} {out : AVal} {l : List Blk} (h : GrewB low q σ out l) (hn : σ.next ≤ σ'.next) (hs : ∀ r, low ≤ r → r < σ.next → σ'.get r = σ.get r) (hq : q' = q ∨ σ.next ≤ q') : GrewB low q' σ' out l := by
  refine ⟨⟨h.1.1, ?_⟩, h.2.1, fun r j c z hr => ?_⟩
  · rcases h.1.2 with h | ⟨r, h6, h7, h8, h9⟩
    · exact .inl h
    · exact .inr ⟨r, h6, by omega, h8, by rw [hs r h6 h7]; exact h9⟩
  · rcases hq with rfl | hq
    · exact h.2.2 r j c z hr
    · rcases h.1.2 with ⟨_, h⟩ | ⟨r', h6, h7, h8, h9⟩
      · rw [h] at hr; cases hr
      · rw [h8] at hr
        simp only [AVal.slice.injEq] at hr
        omega
theorem blocks_len {ps : List Pg} (h : Shape ps) : ∀ i, i ≤ ps.length → (blocksTo ps i).length ≤ 64 * i ∧ ∀ m, i < ps.length → (smallTo i (pgAt ps i) m).length ≤ m := by
  have hs : ∀ i p m, (smallTo i p m).length ≤ m := fun i p m => by
    unfold smallTo
    have := List.length_filterMap_le (fun s => if p.used[s]?.getD false then some (slotB i p s) else none) (List.range m)
    rw [List.length_range] at this
    exact this
  intro i
  induction i with
  | zero => intro _; exact ⟨by simp [blocksTo], fun m _ => hs _ _ _⟩
  | succ i ih =>
    intro hi
    refine ⟨?_, fun m _ => hs _ _ _⟩
    have h1 := (ih (by omega)).1
    rw [blocksTo_succ, List.length_append]
    have : (pgB i (pgAt ps i)).length ≤ 64 := by
      unfold pgB
      split
      · simp
      · split
        · rename_i e1 e
          have h2 := hs i (pgAt ps i) (pgAt ps i).used.length
          rcases small_cases (h i (by omega)) e with ⟨_, b⟩ | ⟨_, b⟩ | ⟨_, b⟩ | ⟨_, b⟩ | ⟨_, b⟩ <;> omega
        · simp
    omega
theorem pgAt_pgs {l : List PV} {i : Nat} (hi : i < l.length) : pgAt (pgsOf l) i = (l[i]).1 := by
  rw [pgAt_lt (by simpa [pgsOf] using hi)]
  simp [pgsOf]
theorem pv_get {l : List PV} {i : Nat} (hi : i < l.length) : (l.map pv)[i]? = some (.agg [.int .u8 (l[i]).1.kind, .int .i64 (l[i]).1.n, .vs (l[i]).2 (boolV (l[i]).1.used)]) := by
  rw [List.getElem?_map, List.getElem?_eq_getElem hi]
  rfl
noncomputable def loopB : Code := innerC (innerC (stmtC (bodyOf Try.f23) 3))
noncomputable def roundB : Code := innerC (stmtC loopB 2)
theorem slots_loop {T : Tr AVal} {i c : Nat} {kd n : Int} {us : List Bool} {vk : VK} {h0 : AObj} {base : List Blk} {out : AVal} (t1 : T.get 1 = some (.ptr 0 0)) (t3 : T.get 3 = some out) (t4 : T.get 4 = some (.int .i64 (i : Nat))) (t5 : T.get 5 = some (.ptr c 0)) (t6 : T.get 6 = some (.int .i64 ((0 : Nat) : Int))) (m0 : σ.get 0 = some h0) (mc : σ.get c = some (.row 3 true [.int .u8 kd, .int .i64 n, .vs vk (boolV us)])) (hc1 : 1 ≤ c) (hc2 : c < σ.next) (hg : GrewB 1 c σ out base) (hi : i ≤ 1000) (hu : us.length ≤ 1000) (hn : us = [] ∨ (0 ≤ n ∧ n ≤ 64)) (hb : base.length ≤ 90000) (hk : 2000 ≤ k) :
    ∃ T' σ' out', execC lawProg (callN lawProg k) k 23 57 (.loop (innerC (innerC (stmtC roundB 4)))) T σ = some (.exit 2, T', σ') ∧ T'.get 1 = some (.ptr 0 0) ∧ T'.get 3 = some out' ∧ T'.get 4 = some (.int .i64 (i : Nat)) ∧ σ'.get 0 = some h0 ∧ 1 ≤ σ'.next ∧ GrewB 1 c σ' out' (base ++ smallTo i ⟨kd, n, us⟩ us.length) := by
  have hsl : ∀ m, (smallTo i ⟨kd, n, us⟩ m).length ≤ m := fun m => by
    unfold smallTo
    have := List.length_filterMap_le (fun s => if (⟨kd, n, us⟩ : Pg).used[s]?.getD false then some (slotB i ⟨kd, n, us⟩ s) else none) (List.range m)
    rw [List.length_range] at this
    exact this
  suffices key : ∃ e T' σ', execC lawProg (callN lawProg k) k 23 57 (.loop (innerC (innerC (stmtC roundB 4)))) T σ = some (e, T', σ') ∧ e ≠ .normal ∧ (e = .exit 2 ∧ T'.get 1 = some (.ptr 0 0) ∧ T'.get 4 = some (.int .i64 (i : Nat)) ∧ σ'.get 0 = some h0 ∧ 1 ≤ σ'.next ∧ ∃ out', T'.get 3 = some out' ∧ GrewB 1 c σ' out' (base ++ smallTo i ⟨kd, n, us⟩ us.length)) by
    obtain ⟨e, T', σ', h1, _, rfl, h2, h3, h4, h5, out', h6, h7⟩ := key
    exact ⟨T', σ', out', h1, h2, h6, h3, h4, h5, h7⟩
  refine exec_loop (fun s T σ => s ≤ us.length ∧ T.get 1 = some (.ptr 0 0) ∧ T.get 4 = some (.int .i64 (i : Nat)) ∧ T.get 5 = some (.ptr c 0) ∧ T.get 6 = some (.int .i64 (s : Nat)) ∧ σ.get 0 = some h0 ∧ σ.get c = some (.row 3 true [.int .u8 kd, .int .i64 n, .vs vk (boolV us)]) ∧ c < σ.next ∧ ∃ out', T.get 3 = some out' ∧ GrewB 1 c σ out' (base ++ smallTo i ⟨kd, n, us⟩ s)) us.length (by omega) ?_ ?_ ?_
  · rintro s hs T σ ⟨_, t1, t4, t5, t6, m0, mc, nx, out', t3, hg⟩
    have hlt : (s : Int) < us.length := by omega
    have hw := i64_succ (i := s) (by omega)
    have hget := boolV_get hs
    have hst := smallTo_succ i ⟨kd, n, us⟩ s
    simp only [List.getElem?_eq_getElem hs, Option.getD_some] at hst
    cases hb2 : us[s] with
    | false =>
      rw [hb2] at hget hst
      refine ⟨_, _, by
        simp only [roundB, loopB, bodyOf, Try.f23, Option.getD_some, flatC, innerC, stmtC, List.append_assoc, dx, reduceIte, zLt, zLe, zEq, zAd, zMu, zSu, zBe, yEq, yLt, yLe, yTn, reduceCtorEq, sx, fx23, t1, t3, t4, t5, t6, mc, hlt, boolV_length, Int.natCast_nonneg, Int.toNat_natCast, hget, hw]
        rfl, by omega, ?_, ?_, ?_, ?_, m0, mc, nx, out', ?_, ?_⟩
      · simp only [Tr.get_set, zEq, reduceIte, t1]
      · simp only [Tr.get_set, zEq, reduceIte, t4]
      · simp only [Tr.get_set, zEq, reduceIte, t5]
      · simp only [Tr.get_set, zEq, reduceIte]
      · simp only [Tr.get_set, zEq, reduceIte, t3]
      · rw [hst]
        simpa using hg
    | true =>
      rw [hb2] at hget hst
      have hn2 : 0 ≤ n ∧ n ≤ 64 := by
        rcases hn with h | h
        · rw [h] at hs; simp at hs
        · exact h
      have hsn : (s : Int) * n ≤ 1000 * 64 ∧ 0 ≤ (s : Int) * n := by
        obtain ⟨m, rfl⟩ : ∃ m : Nat, n = (m : Int) := ⟨n.toNat, by omega⟩
        have h1 : s * m ≤ 1000 * 64 := Nat.mul_le_mul (by omega) (by omega)
        have h2 : ((s * m : Nat) : Int) = (s : Int) * (m : Int) := by simp
        omega
      have w1 : IntKind.i64.wrap (((i : Nat) : Int) * 64) = 64 * (i : Int) := by rw [i64_id (by omega) (by omega)]; omega
      have w2 : IntKind.i64.wrap (((s : Nat) : Int) * n) = (s : Int) * n := i64_id (by omega) (by omega)
      have w3 : IntKind.i64.wrap (64 * (i : Int) + (s : Int) * n) = 64 * (i : Int) + (s : Int) * n := i64_id (by omega) (by omega)
      obtain ⟨o2, σ2, a1, a2, a3, a4, a5⟩ := grew_pr (slotB i ⟨kd, n, us⟩ s) hg (by omega) nx (by rw [List.length_append]; have := hsl s; omega)
      simp only [slotB] at a1
      refine ⟨_, _, by
        simp only [roundB, loopB, bodyOf, Try.f23, Option.getD_some, flatC, innerC, stmtC, List.append_assoc, dx, reduceIte, zLt, zLe, zEq, zAd, zMu, zSu, zBe, yEq, yLt, yLe, yTn, reduceCtorEq, sx, fx23, t1, t3, t4, t5, t6, mc, hlt, boolV_length, Int.natCast_nonneg, Int.toNat_natCast, hget, hw, w1, w2, w3, a1]
        rfl, by omega, ?_, ?_, ?_, ?_, by rw [a4 0 (by omega)]; exact m0, by rw [a5]; exact mc, by omega, o2, ?_, ?_⟩
      · simp only [Tr.get_set, zEq, reduceIte, t1]
      · simp only [Tr.get_set, zEq, reduceIte, t4]
      · simp only [Tr.get_set, zEq, reduceIte, t5]
      · simp only [Tr.get_set, zEq, reduceIte]
      · simp only [Tr.get_set, zEq, reduceIte]
      · rw [hst]
        simp only [if_true, ← List.append_assoc]
        exact a2
  · rintro T σ ⟨_, t1, t4, t5, t6, m0, mc, nx, out', t3, hg⟩
    have hge : ¬ (((us.length : Nat) : Int) < ((us.length : Nat) : Int)) := by omega
    refine ⟨_, _, _, by
      simp only [roundB, loopB, bodyOf, Try.f23, Option.getD_some, flatC, innerC, stmtC, List.append_assoc, dx, reduceIte, zLt, zLe, zEq, zAd, zMu, zSu, zBe, yEq, yLt, yLe, yTn, reduceCtorEq, sx, fx23, t5, t6, mc, boolV_length, hge]
      rfl, by simp, rfl, ?_, ?_, m0, by omega, out', ?_, hg⟩
    · simp only [Tr.get_set, zEq, reduceIte, t1]
    · simp only [Tr.get_set, zEq, reduceIte, t4]
    · simp only [Tr.get_set, zEq, reduceIte, t3]
  · exact ⟨Nat.zero_le _, t1, t4, t5, t6, m0, mc, hc2, out, t3, by simpa [smallTo] using hg⟩
theorem pgB_split {left more : Int} {i : Nat} {p : Pg} (h : pgShape left more p = true) : pgB i p = (if p.kind = 2 then [headB i p] else []) ++ smallTo i p p.used.length ∧ (p.used = [] ∨ (0 ≤ p.n ∧ p.n ≤ 64)) ∧ p.used.length ≤ 64 := by
  obtain ⟨_, k2⟩ := shape_kind h
  rcases k2 with ⟨e, _, e1⟩ | ⟨e, e1, _⟩ | ⟨e, _, _, e1⟩ | ⟨e, _, e1⟩
  · rw [e1]; exact ⟨by unfold pgB; rw [if_neg (by omega), if_neg (by omega), if_neg (by omega)]; rfl, .inl rfl, by simp⟩
  · have hc := small_cases h e
    refine ⟨by unfold pgB; rw [if_neg (by omega), if_pos e, if_neg (by omega), List.nil_append], .inr (by omega), by omega⟩
  · rw [e1]; exact ⟨by unfold pgB; rw [if_pos e, if_pos e]; rfl, .inl rfl, by simp⟩
  · rw [e1]; exact ⟨by unfold pgB; rw [if_neg (by omega), if_neg (by omega), if_neg (by omega)]; rfl, .inl rfl, by simp⟩
theorem blocks_call (kp kw : VK) (l : List PV) (ws : List Int) (hsh : Shape (pgsOf l)) (hl : l.length ≤ 1000) (hk : 5000 ≤ k) : pureCall lawProg (callN lawProg k) (.func 23 [] []) [hpV kp kw l ws] σ = some (.vs (lkOf (blocksL (pgsOf l)).length) (prsV (blocksL (pgsOf l))), σ) := by
  obtain ⟨k, rfl⟩ : ∃ m, k = m + 1 := ⟨k - 1, by omega⟩
  have hlp : (pgsOf l).length = l.length := by simp [pgsOf]
  have run : ∃ T1 σ1 out q, execC lawProg (callN lawProg k) k 23 57 (bodyOf Try.f23) (initT 0 [.agg [.vs kp (l.map pv), .vs kw (intV ws)]] .nil) AMem.empty = some (.ret, T1, σ1) ∧ T1.get 2 = some out ∧ GrewB 1 q σ1 out (blocksL (pgsOf l)) := by
    simp only [bodyOf, Try.f23, Option.getD_some, initT, dx, reduceIte, zLt, zLe, zEq, zAd, zMu, zSu, zBe, yEq, yLt, yLe, yTn, reduceCtorEq, sx, fx23]
    generalize hL : execC _ _ _ _ _ (Code.loop _) _ _ = q
    obtain ⟨e, T', σ', rfl, _, rfl, out, q, h3, hg⟩ : ∃ e T' σ', q = some (e, T', σ') ∧ e ≠ .normal ∧ (e = .exit 0 ∧ ∃ out q, T'.get 3 = some out ∧ GrewB 1 q σ' out (blocksL (pgsOf l))) := by
      rw [← hL]
      refine exec_loop (fun i T σ => i ≤ l.length ∧ T.get 1 = some (.ptr 0 0) ∧ T.get 4 = some (.int .i64 (i : Nat)) ∧ σ.get 0 = some (.row 2 true [.vs kp (l.map pv), .vs kw (intV ws)]) ∧ 1 ≤ σ.next ∧ ∃ out q, T.get 3 = some out ∧ GrewB 1 q σ out (blocksTo (pgsOf l) i)) l.length (by omega) ?_ ?_ ?_
      · rintro i hi T σ ⟨_, t1, t4, m0, nx, out, q, t3, hg⟩
        have hlt : (i : Int) < l.length := by omega
        have hw := i64_succ (i := i) (by omega)
        have hget := pv_get hi
        have hpg := pgAt_pgs hi
        have hshi := hsh i (by omega)
        have hst := blocksTo_succ (pgsOf l) i
        have hbl := (blocks_len hsh i (by omega)).1
        rw [hpg] at hshi hst
        generalize l[i] = x at hget hpg hshi hst
        obtain ⟨⟨kd, n, us⟩, vk⟩ := x
        simp only at hget hpg hshi hst
        obtain ⟨c, hc⟩ : ∃ c, c = σ.next := ⟨_, rfl⟩
        obtain ⟨σ1, hσ1⟩ : ∃ s, s = (σ.push (.row 3 true [.int .u8 0, .int .i64 0, .vs .nil []])).put σ.next (.row 3 true [.int .u8 kd, .int .i64 n, .vs vk (boolV us)]) := ⟨_, rfl⟩
        obtain ⟨hsplit, hn64, hu64⟩ := pgB_split (i := i) hshi
        simp only at hsplit hn64 hu64
        rw [hsplit] at hst
        have m0' : σ1.get 0 = some (.row 2 true [.vs kp (l.map pv), .vs kw (intV ws)]) := by rw [hσ1, AMem.get_put, if_neg (by omega), AMem.get_push, if_neg (by omega)]; exact m0
        have mc : σ1.get c = some (.row 3 true [.int .u8 kd, .int .i64 n, .vs vk (boolV us)]) := by rw [hσ1, hc, AMem.get_put, if_pos rfl]
        have n1 : σ1.next = c + 1 := by rw [hσ1, hc]; simp
        have hg1 : GrewB 1 c σ1 out (blocksTo (pgsOf l) i) := hg.same (by omega) (fun r h1 h2 => by rw [hσ1, AMem.get_put, if_neg (by omega), AMem.get_push, if_neg (by omega)]) (.inr (by omega))
        have q0 : ¬ c = 0 := by omega
        by_cases hk2 : kd = 2
        · have hkb : (kd == 2) = true := by rw [beq_iff_eq]; exact hk2
          have hnb : 1 ≤ n ∧ n ≤ 1000 := by
            obtain ⟨_, kk⟩ := shape_kind hshi
            simp only at kk
            omega
          have w1 : IntKind.i64.wrap (((i : Nat) : Int) * 64) = 64 * (i : Int) := by rw [i64_id (by omega) (by omega)]; omega
          have w2 : IntKind.i64.wrap (n * 64) = 64 * n := by rw [i64_id (by omega) (by omega)]; omega
          obtain ⟨o2, σ2, a1, a2, a3, a4, a5⟩ := grew_pr (headB i ⟨kd, n, us⟩) hg1 (by omega) (by omega) (by omega)
          simp only [headB] at a1
          rw [if_pos hk2, ← List.append_assoc] at hst
          simp only [dx, reduceIte, zLt, zLe, zEq, zAd, zMu, zSu, zBe, yEq, yLt, yLe, yTn, reduceCtorEq, sx, fx23, t1, t4, m0, hlt, List.length_map, Int.natCast_nonneg, Int.toNat_natCast, hget, ← hσ1]
          simp only [dx, reduceIte, zLt, zLe, zEq, zAd, zMu, zSu, zBe, yEq, yLt, yLe, yTn, reduceCtorEq, sx, fx23, ← hc, mc, hkb, t3, t4, w1, w2, a1]
          generalize hL2 : execC _ _ _ _ _ (Code.loop _) _ _ = q2
          obtain ⟨T', σ', o3, rfl, u1, u3, u4, um, un, ug⟩ : ∃ T' σ' out', q2 = some (.exit 2, T', σ') ∧ T'.get 1 = some (.ptr 0 0) ∧ T'.get 3 = some out' ∧ T'.get 4 = some (.int .i64 (i : Nat)) ∧ σ'.get 0 = some (.row 2 true [.vs kp (l.map pv), .vs kw (intV ws)]) ∧ 1 ≤ σ'.next ∧ GrewB 1 c σ' out' ((blocksTo (pgsOf l) i ++ [headB i ⟨kd, n, us⟩]) ++ smallTo i ⟨kd, n, us⟩ us.length) := by
            rw [← hL2]
            refine slots_loop ?_ ?_ ?_ ?_ ?_ (by rw [a4 0 (by omega)]; exact m0') (by rw [a5]; exact mc) (by omega) (by omega) a2 (by omega) (by omega) hn64 (by rw [List.length_append, List.length_singleton]; omega) (by omega)
            all_goals simp only [Tr.get_set, zEq, reduceIte, t1, t4] <;> rfl
          refine ⟨_, _, by
            simp only [dx, reduceIte, zLt, zLe, zEq, zAd, zMu, zSu, zBe, yEq, yLt, yLe, yTn, reduceCtorEq, sx, fx23, u4, hw]
            rfl, by omega, ?_, ?_, um, un, o3, c, ?_, by rw [hst]; exact ug⟩
          · simp only [Tr.get_set, zEq, reduceIte, u1]
          · simp only [Tr.get_set, zEq, reduceIte]
          · simp only [Tr.get_set, zEq, reduceIte, u3]
        · have hkb : (kd == 2) = false := by rw [beq_eq_false_iff_ne]; exact hk2
          rw [if_neg hk2, List.nil_append] at hst
          simp only [dx, reduceIte, zLt, zLe, zEq, zAd, zMu, zSu, zBe, yEq, yLt, yLe, yTn, reduceCtorEq, sx, fx23, t1, t4, m0, hlt, List.length_map, Int.natCast_nonneg, Int.toNat_natCast, hget, ← hσ1]
          simp only [dx, reduceIte, zLt, zLe, zEq, zAd, zMu, zSu, zBe, yEq, yLt, yLe, yTn, reduceCtorEq, sx, fx23, ← hc, mc, hkb, t3, t4]
          generalize hL2 : execC _ _ _ _ _ (Code.loop _) _ _ = q2
          obtain ⟨T', σ', o3, rfl, u1, u3, u4, um, un, ug⟩ : ∃ T' σ' out', q2 = some (.exit 2, T', σ') ∧ T'.get 1 = some (.ptr 0 0) ∧ T'.get 3 = some out' ∧ T'.get 4 = some (.int .i64 (i : Nat)) ∧ σ'.get 0 = some (.row 2 true [.vs kp (l.map pv), .vs kw (intV ws)]) ∧ 1 ≤ σ'.next ∧ GrewB 1 c σ' out' (blocksTo (pgsOf l) i ++ smallTo i ⟨kd, n, us⟩ us.length) := by
            rw [← hL2]
            refine slots_loop ?_ ?_ ?_ ?_ ?_ m0' mc (by omega) (by omega) hg1 (by omega) (by omega) hn64 (by omega) (by omega)
            all_goals simp only [Tr.get_set, zEq, reduceIte, t1, t3, t4] <;> rfl
          refine ⟨_, _, by
            simp only [dx, reduceIte, zLt, zLe, zEq, zAd, zMu, zSu, zBe, yEq, yLt, yLe, yTn, reduceCtorEq, sx, fx23, u4, hw]
            rfl, by omega, ?_, ?_, um, un, o3, c, ?_, by rw [hst]; exact ug⟩
          · simp only [Tr.get_set, zEq, reduceIte, u1]
          · simp only [Tr.get_set, zEq, reduceIte]
          · simp only [Tr.get_set, zEq, reduceIte, u3]
      · rintro T σ ⟨_, t1, t4, m0, nx, out, q, t3, hg⟩
        have hge : ¬ (((l.length : Nat) : Int) < ((l.length : Nat) : Int)) := by omega
        refine ⟨_, _, _, by
          simp only [dx, reduceIte, zLt, zLe, zEq, zAd, zMu, zSu, zBe, yEq, yLt, yLe, yTn, reduceCtorEq, sx, fx23, t1, t4, m0, List.length_map, hge]
          rfl, by simp, rfl, out, q, ?_, by unfold blocksL; rw [hlp]; exact hg⟩
        simp only [Tr.get_set, zEq, reduceIte, t3]
      · refine ⟨Nat.zero_le _, ?_, ?_, ?_, ?_, .vs .nil [], 0, ?_, ⟨⟨rfl, .inl ⟨rfl, rfl⟩⟩, fun _ => rfl, fun r j c z h => by cases h⟩⟩
        · simp only [Tr.get_set, zEq, reduceIte]
        · simp only [Tr.get_set, zEq, reduceIte] <;> rfl
        · simp only [AMem.get_push, next_empty, reduceIte]
        · simp [next_empty]
        · simp only [Tr.get_set, zEq, reduceIte] <;> rfl
    simp only [dx, reduceIte, zLt, zLe, zEq, zAd, zMu, zSu, zBe, yEq, yLt, yLe, yTn, reduceCtorEq, sx, fx23, h3]
    exact ⟨_, _, out, q, rfl, by simp only [Tr.get_set, zEq, reduceIte], hg⟩
  obtain ⟨T1, σ1, out, q, h1, h2, hg⟩ := run
  obtain ⟨S2, h3⟩ := snap_prs (fr := true) (d := 10) hg
  exact pureCall_of rfl (memo23 _) (pureRun_of fn23 rfl (by simp [Try.f23]) h1 (by simp) (res_one h2) h3)
end Go.Proofs.Ytjkfdiglokkceaa

/- Heaps: the reference's IsRight. -/
set_option maxRecDepth 100000
set_option linter.unusedSimpArgs false
set_option linter.unusedVariables false
namespace Go.Proofs.Ytjkfdiglokkceaa
open Go Go.Proofs.Ytjkfdiglokkceaa.Pale
variable {k : Nat} {σ : AMem}

noncomputable def rightB (ps : List Pg) (ws : List Int) : Bool := @decide (RightH ps ws) (Classical.propDecidable _)
theorem rightB_iff {ps : List Pg} {ws : List Int} : rightB ps ws = true ↔ RightH ps ws := by unfold rightB; simp
theorem rightB_true {ps : List Pg} {ws : List Int} (h : RightH ps ws) : rightB ps ws = true := rightB_iff.2 h
theorem rightB_false {ps : List Pg} {ws : List Int} (h : ¬ RightH ps ws) : rightB ps ws = false := by rw [Bool.eq_false_iff]; exact fun e => h (rightB_iff.1 e)
def markV (n : Nat) (p : Nat → Bool) : List AVal := (List.range n).map fun m => .bool (p m)
theorem markV_length (n : Nat) (p : Nat → Bool) : (markV n p).length = n := by simp [markV]
theorem markV_get {n i : Nat} (p : Nat → Bool) (hi : i < n) : (markV n p)[i]? = some (.bool (p i)) := by
  unfold markV
  rw [List.getElem?_map, List.getElem?_range hi]
  rfl
theorem markV_set {n i : Nat} (p : Nat → Bool) (b : Bool) : (markV n p).set i (.bool b) = markV n (fun m => if m = i then b else p m) := by
  unfold markV
  apply List.ext_getElem (by simp)
  intro m h1 h2
  simp only [List.getElem_set, List.getElem_map, List.getElem_range]
  by_cases e : i = m
  · subst e; simp
  · rw [if_neg e, if_neg (fun h => e h.symm)]
theorem markV_congr {n : Nat} {p q : Nat → Bool} (h : ∀ m, m < n → p m = q m) : markV n p = markV n q := by
  unfold markV
  exact List.map_congr_left fun m hm => by rw [h m (List.mem_range.1 hm)]
theorem repZ_mark (n : Nat) : repZ [AVal.bool false] n = markV n fun _ => false := by
  have h1 : repZ [AVal.bool false] n = List.replicate n (.bool false) := by
    induction n with
    | zero => rfl
    | succ n ih => rw [List.replicate_succ, ← ih]; rfl
  rw [h1]
  unfold markV
  apply List.ext_getElem (by simp)
  intro m h1 h2
  simp
def covB (bs : List Blk) (m : Nat) : Bool := bs.any fun b => decide (b.at_ ≤ (m : Int)) && decide ((m : Int) < b.at_ + b.size)
theorem covB_iff {bs : List Blk} {m : Nat} : covB bs m = true ↔ CovK bs m := by
  unfold covB CovK
  rw [List.any_eq_true]
  constructor
  · rintro ⟨b, hb, h⟩
    simp only [Bool.and_eq_true, decide_eq_true_eq] at h
    exact ⟨b, hb, h.1, h.2⟩
  · rintro ⟨b, hb, h1, h2⟩
    exact ⟨b, hb, by simp only [Bool.and_eq_true, decide_eq_true_eq]; exact ⟨h1, h2⟩⟩

noncomputable def bodyR : Code := bodyOf Try.f24
theorem pages_loop {T : Tr AVal} {kp kw : VK} {l : List PV} {ws : List Int} (t1 : T.get 1 = some (.ptr 0 0)) (t3 : T.get 3 = some (.int .i64 0)) (t4 : T.get 4 = some (.int .i64 ((0 : Nat) : Int))) (m0 : σ.get 0 = some (.row 2 true [.vs kp (l.map pv), .vs kw (intV ws)])) (nx : 1 ≤ σ.next) (hl : l.length ≤ 40) (hu : ∀ x, x ∈ l → x.1.used.length ≤ 1000) (hk : 4000 ≤ k) :
    ∃ e T' σ', execC lawProg (callN lawProg k) k 24 127 (.loop (innerC (innerC (stmtC bodyR 5)))) T σ = some (e, T', σ') ∧ e ≠ .normal ∧ ((e = .ret ∧ T'.get 2 = some (.bool false) ∧ ¬ Shape (pgsOf l)) ∨ (e = .exit 0 ∧ Shape (pgsOf l) ∧ T'.get 1 = some (.ptr 0 0) ∧ σ'.get 0 = some (.row 2 true [.vs kp (l.map pv), .vs kw (intV ws)]) ∧ 1 ≤ σ'.next)) := by
  have hlp : (pgsOf l).length = l.length := by simp [pgsOf]
  refine exec_loop2 (fun i T σ => i ≤ l.length ∧ T.get 1 = some (.ptr 0 0) ∧ T.get 3 = some (.int .i64 (moreAt (pgsOf l) i)) ∧ T.get 4 = some (.int .i64 (i : Nat)) ∧ σ.get 0 = some (.row 2 true [.vs kp (l.map pv), .vs kw (intV ws)]) ∧ 1 ≤ σ.next ∧ (∀ j, j < i → pgShape (((pgsOf l).length : Int) - j) (moreAt (pgsOf l) j) (pgAt (pgsOf l) j) = true) ∧ moreAt (pgsOf l) i ≤ 100 ∧ -100 ≤ moreAt (pgsOf l) i) l.length (by omega) ?_ ?_ ?_
  · rintro i hi T σ ⟨_, t1, t3, t4, m0, nx, hsh, hm1, hm2⟩
    have hlt : (i : Int) < l.length := by omega
    have hw := i64_succ (i := i) (by omega)
    have hget := pv_get hi
    have hpg := pgAt_pgs hi
    have hms := moreAt_succ (ps := pgsOf l) (i := i) (by omega)
    have hip := fun (σ : AMem) => isPage_call (k := k) (σ := σ) l[i] (moreAt (pgsOf l) i) (hu _ (List.getElem_mem hi)) (by omega)
    have hshape := pageB_shape (((pgsOf l).length : Int) - i) (moreAt (pgsOf l) i) (l[i]).1
    rw [hpg] at hms
    have hbad : pgShape (((pgsOf l).length : Int) - i) (moreAt (pgsOf l) i) (l[i]).1 ≠ true → ¬ Shape (pgsOf l) := fun h hs => h (by rw [← hpg]; exact hs i (by omega))
    rw [hlp] at hshape hbad
    generalize l[i] = x at hget hpg hms hip hshape hbad
    obtain ⟨⟨kd, n, us⟩, vk⟩ := x
    simp only [pv] at hget hpg hms hip hshape hbad
    obtain ⟨c, hc⟩ : ∃ c, c = σ.next := ⟨_, rfl⟩
    obtain ⟨σ1, hσ1⟩ : ∃ s, s = (σ.push (.row 3 true [.int .u8 0, .int .i64 0, .vs .nil []])).put σ.next (.row 3 true [.int .u8 kd, .int .i64 n, .vs vk (boolV us)]) := ⟨_, rfl⟩
    have m0' : σ1.get 0 = some (.row 2 true [.vs kp (l.map pv), .vs kw (intV ws)]) := by rw [hσ1, AMem.get_put, if_neg (by omega), AMem.get_push, if_neg (by omega)]; exact m0
    have mc : σ1.get c = some (.row 3 true [.int .u8 kd, .int .i64 n, .vs vk (boolV us)]) := by rw [hσ1, hc, AMem.get_put, if_pos rfl]
    have n1 : 1 ≤ σ1.next := by rw [hσ1]; simp
    have hip2 := hip σ1
    obtain ⟨mo, hmo⟩ : ∃ m, m = moreAt (pgsOf l) i := ⟨_, rfl⟩
    rw [← hmo] at t3 hip2 hshape hbad hm1 hm2 hms
    have hwl : IntKind.i64.wrap (((l.length : Nat) : Int) - ((i : Nat) : Int)) = ((l.length : Nat) : Int) - i := i64_id (by omega) (by omega)
    cases hpb : pageB mo ⟨kd, n, us⟩ with
    | false =>
      rw [hpb] at hip2 hshape
      refine .inr ⟨_, _, _, by
        simp only [bodyR, bodyOf, Try.f24, Option.getD_some, flatC, innerC, stmtC, List.append_assoc, dx, reduceIte, zLt, zLe, zEq, zAd, zMu, zSu, zBe, yEq, yLt, yLe, yTn, reduceCtorEq, sx, fx24, t1, t3, t4, m0, hlt, List.length_map, Int.natCast_nonneg, Int.toNat_natCast, hget, ← hσ1]
        simp only [dx, reduceIte, zLt, zLe, zEq, zAd, zMu, zSu, zBe, yEq, yLt, yLe, yTn, reduceCtorEq, sx, fx24, ← hc, mc, m0', t1, t3, t4, hip2]
        rfl, by simp, .inl ⟨rfl, ?_, hbad (fun h => by simp at hshape; rw [hshape] at h; cases h)⟩⟩
      simp only [Tr.get_set, zEq, reduceIte]
    | true =>
      rw [hpb] at hip2 hshape
      by_cases hk2 : kd = 2
      · have hkb : (kd == 2) = true := by rw [beq_iff_eq]; exact hk2
        by_cases hbig : n > ((l.length : Nat) : Int) - i
        · refine .inr ⟨_, _, _, by
            simp only [bodyR, bodyOf, Try.f24, Option.getD_some, flatC, innerC, stmtC, List.append_assoc, dx, reduceIte, zLt, zLe, zEq, zAd, zMu, zSu, zBe, yEq, yLt, yLe, yTn, reduceCtorEq, sx, fx24, t1, t3, t4, m0, hlt, List.length_map, Int.natCast_nonneg, Int.toNat_natCast, hget, ← hσ1]
            simp only [dx, reduceIte, zLt, zLe, zEq, zAd, zMu, zSu, zBe, yEq, yLt, yLe, yTn, reduceCtorEq, sx, fx24, ← hc, mc, m0', t1, t3, t4, hip2, hkb, List.length_map, hwl, hbig]
            rfl, by simp, .inl ⟨rfl, ?_, hbad (fun h => (hshape.1 h).2 ⟨hk2, hbig⟩)⟩⟩
          simp only [Tr.get_set, zEq, reduceIte]
        · have hs := hshape.2 ⟨rfl, fun h => hbig h.2⟩
          have hn1 : 1 ≤ n ∧ n ≤ 40 := by
            obtain ⟨_, kk⟩ := shape_kind hs
            simp only at kk
            omega
          have w1 : IntKind.i64.wrap (n - 1) = n - 1 := i64_id (by omega) (by omega)
          have hms2 : moreAt (pgsOf l) (i + 1) = n - 1 := by rw [hms]; simp [nextMore, hk2]
          refine .inl ⟨_, _, by
            simp only [bodyR, bodyOf, Try.f24, Option.getD_some, flatC, innerC, stmtC, List.append_assoc, dx, reduceIte, zLt, zLe, zEq, zAd, zMu, zSu, zBe, yEq, yLt, yLe, yTn, reduceCtorEq, sx, fx24, t1, t3, t4, m0, hlt, List.length_map, Int.natCast_nonneg, Int.toNat_natCast, hget, ← hσ1]
            simp only [dx, reduceIte, zLt, zLe, zEq, zAd, zMu, zSu, zBe, yEq, yLt, yLe, yTn, reduceCtorEq, sx, fx24, ← hc, mc, m0', t1, t3, t4, hip2, hkb, List.length_map, hwl, hbig, w1, hw]
            rfl, by omega, ?_, ?_, ?_, m0', n1, fun j hj => ?_, by omega, by omega⟩
          · simp only [Tr.get_set, zEq, reduceIte, t1]
          · simp only [Tr.get_set, zEq, reduceIte, hms2]
          · simp only [Tr.get_set, zEq, reduceIte]
          · by_cases e : j = i
            · subst e; rw [hpg, hlp, ← hmo]; exact hs
            · exact hsh j (by omega)
      · have hkb : (kd == 2) = false := by rw [beq_eq_false_iff_ne]; exact hk2
        have hs := hshape.2 ⟨rfl, fun h => hk2 h.1⟩
        by_cases hk3 : kd = 3
        · have hkb3 : (kd == 3) = true := by rw [beq_iff_eq]; exact hk3
          have hpos := (shape_kind hs).1.1 hk3
          have w1 : IntKind.i64.wrap (mo - 1) = mo - 1 := i64_id (by omega) (by omega)
          have hms2 : moreAt (pgsOf l) (i + 1) = mo - 1 := by rw [hms]; simp [nextMore, hk3]
          refine .inl ⟨_, _, by
            simp only [bodyR, bodyOf, Try.f24, Option.getD_some, flatC, innerC, stmtC, List.append_assoc, dx, reduceIte, zLt, zLe, zEq, zAd, zMu, zSu, zBe, yEq, yLt, yLe, yTn, reduceCtorEq, sx, fx24, t1, t3, t4, m0, hlt, List.length_map, Int.natCast_nonneg, Int.toNat_natCast, hget, ← hσ1]
            simp only [dx, reduceIte, zLt, zLe, zEq, zAd, zMu, zSu, zBe, yEq, yLt, yLe, yTn, reduceCtorEq, sx, fx24, ← hc, mc, m0', t1, t3, t4, hip2, hkb, hkb3, w1, hw]
            rfl, by omega, ?_, ?_, ?_, m0', n1, fun j hj => ?_, by omega, by omega⟩
          · simp only [Tr.get_set, zEq, reduceIte, t1]
          · simp only [Tr.get_set, zEq, reduceIte, hms2]
          · simp only [Tr.get_set, zEq, reduceIte]
          · by_cases e : j = i
            · subst e; rw [hpg, hlp, ← hmo]; exact hs
            · exact hsh j (by omega)
        · have hkb3 : (kd == 3) = false := by rw [beq_eq_false_iff_ne]; exact hk3
          have hms2 : moreAt (pgsOf l) (i + 1) = mo := by rw [hms]; simp [nextMore, hk2, hk3]
          refine .inl ⟨_, _, by
            simp only [bodyR, bodyOf, Try.f24, Option.getD_some, flatC, innerC, stmtC, List.append_assoc, dx, reduceIte, zLt, zLe, zEq, zAd, zMu, zSu, zBe, yEq, yLt, yLe, yTn, reduceCtorEq, sx, fx24, t1, t3, t4, m0, hlt, List.length_map, Int.natCast_nonneg, Int.toNat_natCast, hget, ← hσ1]
            simp only [dx, reduceIte, zLt, zLe, zEq, zAd, zMu, zSu, zBe, yEq, yLt, yLe, yTn, reduceCtorEq, sx, fx24, ← hc, mc, m0', t1, t3, t4, hip2, hkb, hkb3, hw]
            rfl, by omega, ?_, ?_, ?_, m0', n1, fun j hj => ?_, by omega, by omega⟩
          · simp only [Tr.get_set, zEq, reduceIte, t1]
          · simp only [Tr.get_set, zEq, reduceIte, t3, hms2]
          · simp only [Tr.get_set, zEq, reduceIte]
          · by_cases e : j = i
            · subst e; rw [hpg, hlp, ← hmo]; exact hs
            · exact hsh j (by omega)
  · rintro T σ ⟨_, t1, t3, t4, m0, nx, hsh, _⟩
    have hge : ¬ (((l.length : Nat) : Int) < ((l.length : Nat) : Int)) := by omega
    refine ⟨_, _, _, by
      simp only [bodyR, bodyOf, Try.f24, Option.getD_some, flatC, innerC, stmtC, List.append_assoc, dx, reduceIte, zLt, zLe, zEq, zAd, zMu, zSu, zBe, yEq, yLt, yLe, yTn, reduceCtorEq, sx, fx24, t1, t4, m0, List.length_map, hge]
      rfl, by simp, .inr ⟨rfl, fun j hj => hsh j (by omega), ?_, m0, nx⟩⟩
    simp only [Tr.get_set, zEq, reduceIte, t1]
  · exact ⟨Nat.zero_le _, t1, by rw [moreAt_zero]; exact t3, t4, m0, nx, fun j hj => by omega, by rw [moreAt_zero]; omega, by rw [moreAt_zero]; omega⟩
end Go.Proofs.Ytjkfdiglokkceaa

/- Heaps: the reference's IsRight, its words, and whole. -/
set_option maxRecDepth 100000
set_option linter.unusedSimpArgs false
set_option linter.unusedVariables false
namespace Go.Proofs.Ytjkfdiglokkceaa
open Go Go.Proofs.Ytjkfdiglokkceaa.Pale
variable {k : Nat} {σ : AMem}

theorem covB_snoc (bs : List Blk) (b : Blk) (m : Nat) : covB (bs ++ [b]) m = (covB bs m || (decide (b.at_ ≤ (m : Int)) && decide ((m : Int) < b.at_ + b.size))) := by simp [covB]
theorem marks_loop {T : Tr AVal} {r n : Nat} {K : VK} {L : List Blk} (t1 : T.get 1 = some (.ptr 0 0)) (t6 : T.get 6 = some (.slice r 0 n (some n) 1)) (t7 : T.get 7 = some (.vs K (prsV L))) (t8 : T.get 8 = some (.int .i64 ((0 : Nat) : Int))) (mr : σ.get r = some (.row 1 false (markV n fun _ => false))) (hn : n ≤ 3000) (hL : L.length ≤ 3000) (hb : ∀ b, b ∈ L → 0 ≤ b.at_ ∧ 0 ≤ b.size ∧ b.at_ + b.size ≤ (n : Nat)) (hk : 4000 ≤ k) :
    ∃ T' σ', execC lawProg (callN lawProg k) k 24 127 (.loop (innerC (innerC (stmtC bodyR 9)))) T σ = some (.exit 3, T', σ') ∧ T'.get 1 = some (.ptr 0 0) ∧ T'.get 6 = some (.slice r 0 n (some n) 1) ∧ σ'.get r = some (.row 1 false (markV n (covB L))) ∧ ∀ s, s ≠ r → σ'.get s = σ.get s := by
  suffices key : ∃ e T' σ', execC lawProg (callN lawProg k) k 24 127 (.loop (innerC (innerC (stmtC bodyR 9)))) T σ = some (e, T', σ') ∧ e ≠ .normal ∧ (e = .exit 3 ∧ T'.get 1 = some (.ptr 0 0) ∧ T'.get 6 = some (.slice r 0 n (some n) 1) ∧ σ'.get r = some (.row 1 false (markV n (covB L))) ∧ ∀ s, s ≠ r → σ'.get s = σ.get s) by
    obtain ⟨e, T', σ', h1, _, rfl, h2⟩ := key
    exact ⟨T', σ', h1, h2⟩
  refine exec_loop (fun i T σ' => i ≤ L.length ∧ T.get 1 = some (.ptr 0 0) ∧ T.get 6 = some (.slice r 0 n (some n) 1) ∧ T.get 7 = some (.vs K (prsV L)) ∧ T.get 8 = some (.int .i64 (i : Nat)) ∧ σ'.get r = some (.row 1 false (markV n (covB (L.take i)))) ∧ ∀ s, s ≠ r → σ'.get s = σ.get s) L.length (by omega) ?_ ?_ ?_
  · rintro i hi T σ1 ⟨_, t1, t6, t7, t8, mr, ms⟩
    have hlt : (i : Int) < L.length := by omega
    have hw := i64_succ (i := i) (by omega)
    have hget := prsV_get hi
    obtain ⟨b1, b2, b3⟩ := hb L[i] (List.getElem_mem hi)
    have hsn := List.take_succ_eq_append_getElem hi
    generalize L[i] = b at hget b1 b2 b3 hsn
    have i12 : (1 : Int) < ((2 : Nat) : Int) := by decide
    have i02 : (0 : Int) < ((2 : Nat) : Int) := by decide
    obtain ⟨at_, hat⟩ : ∃ a : Nat, b.at_ = (a : Int) := ⟨b.at_.toNat, by omega⟩
    obtain ⟨sz, hsz⟩ : ∃ a : Nat, b.size = (a : Int) := ⟨b.size.toNat, by omega⟩
    rw [hat, hsz] at hget b3
    simp only [bodyR, bodyOf, Try.f24, Option.getD_some, flatC, innerC, stmtC, List.append_assoc, dx, reduceIte, zLt, zLe, zEq, zAd, zMu, zSu, zBe, yEq, yLt, yLe, yTn, reduceCtorEq, sx, fx24, t7, t8, hlt, prsV_length, Int.natCast_nonneg, Int.toNat_natCast, hget]
    generalize hL2 : execC _ _ _ _ _ (Code.loop _) _ _ = q2
    obtain ⟨e, T', σ', rfl, _, rfl, u1, u6, u7, u8, ur, us⟩ : ∃ e T' σ', q2 = some (e, T', σ') ∧ e ≠ .normal ∧ (e = .exit 5 ∧ T'.get 1 = some (.ptr 0 0) ∧ T'.get 6 = some (.slice r 0 n (some n) 1) ∧ T'.get 7 = some (.vs K (prsV L)) ∧ T'.get 8 = some (.int .i64 (i : Nat)) ∧ σ'.get r = some (.row 1 false (markV n (covB (L.take (i + 1))))) ∧ ∀ s, s ≠ r → σ'.get s = σ.get s) := by
      rw [← hL2]
      refine exec_loop (fun j T σ' => j ≤ sz ∧ T.get 1 = some (.ptr 0 0) ∧ T.get 6 = some (.slice r 0 n (some n) 1) ∧ T.get 7 = some (.vs K (prsV L)) ∧ T.get 8 = some (.int .i64 (i : Nat)) ∧ T.get 9 = some (.int .i64 (j : Nat)) ∧ σ'.get r = some (.row 1 false (markV n (fun m => covB (L.take i) m || (decide (at_ ≤ m) && decide (m < at_ + j))))) ∧ ∀ s, s ≠ r → σ'.get s = σ.get s) sz (by omega) ?_ ?_ ?_
      · rintro j hj T σ2 ⟨_, u1, u6, u7, u8, u9, ur, us⟩
        have hlt2 : ((j : Nat) : Int) < ((sz : Nat) : Int) := by omega
        have hw2 := i64_succ (i := j) (by omega)
        have hadd : IntKind.i64.wrap (((at_ : Nat) : Int) + ((j : Nat) : Int)) = ((at_ + j : Nat) : Int) := by rw [i64_id (by omega) (by omega)]; omega
        have hin : ((at_ + j : Nat) : Int) < ((n : Nat) : Int) := by omega
        have hin2 : at_ + j + 1 ≤ n := by omega
        have hin3 : at_ + j < n := by omega
        refine ⟨_, _, by
          simp only [dx, reduceIte, zLt, zLe, zEq, zAd, zMu, zSu, zBe, yEq, yLt, yLe, yTn, reduceCtorEq, sx, fx24, u6, u7, u8, u9, prsV_length, hlt, i12, i02, Int.natCast_nonneg, Int.toNat_natCast, hget, hlt2, hadd, hin, hin2, hin3, ur, markV_length, markV_set, hw2]
          rfl, by omega, ?_, ?_, ?_, ?_, ?_, ?_, fun s hs => ?_⟩
        · simp only [Tr.get_set, zEq, reduceIte, u1]
        · simp only [Tr.get_set, zEq, reduceIte, u6]
        · simp only [Tr.get_set, zEq, reduceIte, u7]
        · simp only [Tr.get_set, zEq, reduceIte, u8]
        · simp only [Tr.get_set, zEq, reduceIte]
        · rw [AMem.get_put, if_pos rfl]
          congr 2
          apply markV_congr
          intro m hm
          by_cases e : m = at_ + j
          · subst e
            simp
          · rw [if_neg e]
            congr 2
            exact decide_eq_decide.2 (by omega)
        · rw [AMem.get_put, if_neg (fun h => hs h.symm)]
          exact us s hs
      · rintro T σ2 ⟨_, u1, u6, u7, u8, u9, ur, us⟩
        have hge : ¬ (((sz : Nat) : Int) < ((sz : Nat) : Int)) := by omega
        refine ⟨_, _, _, by
          simp only [dx, reduceIte, zLt, zLe, zEq, zAd, zMu, zSu, zBe, yEq, yLt, yLe, yTn, reduceCtorEq, sx, fx24, u7, u8, u9, prsV_length, hlt, i12, i02, Int.natCast_nonneg, Int.toNat_natCast, hget, hge]
          rfl, by simp, rfl, ?_, ?_, ?_, ?_, ?_, us⟩
        · simp only [Tr.get_set, zEq, reduceIte, u1]
        · simp only [Tr.get_set, zEq, reduceIte, u6]
        · simp only [Tr.get_set, zEq, reduceIte, u7]
        · simp only [Tr.get_set, zEq, reduceIte, u8]
        · rw [ur, hsn]
          congr 2
          apply markV_congr
          intro m hm
          rw [covB_snoc, hat, hsz]
          congr 2
          · exact decide_eq_decide.2 (by omega)
          · exact decide_eq_decide.2 (by omega)
      · refine ⟨Nat.zero_le _, ?_, ?_, ?_, ?_, ?_, ?_, ms⟩
        · simp only [Tr.get_set, zEq, reduceIte, t1]
        · simp only [Tr.get_set, zEq, reduceIte, t6]
        · simp only [Tr.get_set, zEq, reduceIte, t7]
        · simp only [Tr.get_set, zEq, reduceIte, t8]
        · simp only [Tr.get_set, zEq, reduceIte] <;> rfl
        · rw [mr]
          congr 2
          apply markV_congr
          intro m hm
          have : (decide (at_ ≤ m) && decide (m < at_ + 0)) = false := by
            rw [Bool.eq_false_iff]
            simp only [ne_eq, Bool.and_eq_true, decide_eq_true_eq]
            omega
          rw [this, Bool.or_false]
    refine ⟨_, _, by
      simp only [dx, reduceIte, zLt, zLe, zEq, zAd, zMu, zSu, zBe, yEq, yLt, yLe, yTn, reduceCtorEq, sx, fx24, u8, hw]
      rfl, by omega, ?_, ?_, ?_, ?_, ur, us⟩
    · simp only [Tr.get_set, zEq, reduceIte, u1]
    · simp only [Tr.get_set, zEq, reduceIte, u6]
    · simp only [Tr.get_set, zEq, reduceIte, u7]
    · simp only [Tr.get_set, zEq, reduceIte]
  · rintro T σ1 ⟨_, t1, t6, t7, t8, mr, ms⟩
    have hge : ¬ (((L.length : Nat) : Int) < ((L.length : Nat) : Int)) := by omega
    rw [List.take_length] at mr
    refine ⟨_, _, _, by
      simp only [bodyR, bodyOf, Try.f24, Option.getD_some, flatC, innerC, stmtC, List.append_assoc, dx, reduceIte, zLt, zLe, zEq, zAd, zMu, zSu, zBe, yEq, yLt, yLe, yTn, reduceCtorEq, sx, fx24, t7, t8, prsV_length, hge]
      rfl, by simp, rfl, ?_, ?_, mr, ms⟩
    · simp only [Tr.get_set, zEq, reduceIte, t1]
    · simp only [Tr.get_set, zEq, reduceIte, t6]
  · exact ⟨Nat.zero_le _, t1, t6, t7, t8, mr, fun _ _ => rfl⟩
theorem words_loop {T : Tr AVal} {r : Nat} {kw : VK} {ws : List Int} {cov : Nat → Bool} {hp : AVal} (t1 : T.get 1 = some (.ptr 0 0)) (t6 : T.get 6 = some (.slice r 0 ws.length (some ws.length) 1)) (t10 : T.get 10 = some (.int .i64 ((0 : Nat) : Int))) (m0 : σ.get 0 = some (.row 2 true [hp, .vs kw (intV ws)])) (mr : σ.get r = some (.row 1 false (markV ws.length cov))) (hn : ws.length ≤ 3000) (hk : 4000 ≤ k) :
    ∃ e T' σ', execC lawProg (callN lawProg k) k 24 127 (.loop (innerC (innerC (stmtC bodyR 11)))) T σ = some (e, T', σ') ∧ e ≠ .normal ∧ ((e = .ret ∧ T'.get 2 = some (.bool false) ∧ ¬ ∀ i (h : i < ws.length), (0 ≤ ws[i] ∧ ws[i] ≤ maxWord) ∧ (cov i = true ∨ ws[i] = 0)) ∨ (e = .exit 7 ∧ ∀ i (h : i < ws.length), (0 ≤ ws[i] ∧ ws[i] ≤ maxWord) ∧ (cov i = true ∨ ws[i] = 0))) := by
  refine exec_loop2 (fun i T σ' => i ≤ ws.length ∧ T.get 1 = some (.ptr 0 0) ∧ T.get 6 = some (.slice r 0 ws.length (some ws.length) 1) ∧ T.get 10 = some (.int .i64 (i : Nat)) ∧ σ' = σ ∧ ∀ j (h : j < ws.length), j < i → (0 ≤ ws[j] ∧ ws[j] ≤ maxWord) ∧ (cov j = true ∨ ws[j] = 0)) ws.length (by omega) ?_ ?_ ?_
  · rintro i hi T σ' ⟨_, t1, t6, t10, rfl, hall⟩
    have hlt : (i : Int) < ws.length := by omega
    have hw := i64_succ (i := i) (by omega)
    have hget := intV_get hi
    have hmk := markV_get cov hi
    have hin := fun (σ : AMem) => in_call (k := k) (σ := σ) ws[i] 0 4294967295 (by omega)
    by_cases h1 : 0 ≤ ws[i] ∧ ws[i] ≤ 4294967295
    · rw [decide_eq_true h1] at hin
      cases hc : cov i with
      | true =>
        rw [hc] at hmk
        refine .inl ⟨_, _, by
          simp only [bodyR, bodyOf, Try.f24, Option.getD_some, flatC, innerC, stmtC, List.append_assoc, dx, reduceIte, zLt, zLe, zEq, zAd, zMu, zSu, zBe, yEq, yLt, yLe, yTn, reduceCtorEq, sx, fx24, t1, t6, t10, m0, mr, hlt, intV_length, markV_length, Int.natCast_nonneg, Int.toNat_natCast, hget, hmk, hin, hw, hi]
          rfl, by omega, ?_, ?_, ?_, rfl, fun j hj hji => ?_⟩
        · simp only [Tr.get_set, zEq, reduceIte, t1]
        · simp only [Tr.get_set, zEq, reduceIte, t6]
        · simp only [Tr.get_set, zEq, reduceIte]
        · by_cases e : j = i
          · subst e; exact ⟨h1, .inl hc⟩
          · exact hall j hj (by omega)
      | false =>
        rw [hc] at hmk
        by_cases h0 : ws[i] = 0
        · have hb : (ws[i] != 0) = false := by rw [h0]; rfl
          refine .inl ⟨_, _, by
            simp only [bodyR, bodyOf, Try.f24, Option.getD_some, flatC, innerC, stmtC, List.append_assoc, dx, reduceIte, zLt, zLe, zEq, zAd, zMu, zSu, zBe, yEq, yLt, yLe, yTn, reduceCtorEq, sx, fx24, t1, t6, t10, m0, mr, hlt, intV_length, markV_length, Int.natCast_nonneg, Int.toNat_natCast, hget, hmk, hin, hb, hw, hi]
            rfl, by omega, ?_, ?_, ?_, rfl, fun j hj hji => ?_⟩
          · simp only [Tr.get_set, zEq, reduceIte, t1]
          · simp only [Tr.get_set, zEq, reduceIte, t6]
          · simp only [Tr.get_set, zEq, reduceIte]
          · by_cases e : j = i
            · subst e; exact ⟨h1, .inr h0⟩
            · exact hall j hj (by omega)
        · have hb : (ws[i] != 0) = true := by rw [bne_iff_ne]; exact h0
          refine .inr ⟨_, _, _, by
            simp only [bodyR, bodyOf, Try.f24, Option.getD_some, flatC, innerC, stmtC, List.append_assoc, dx, reduceIte, zLt, zLe, zEq, zAd, zMu, zSu, zBe, yEq, yLt, yLe, yTn, reduceCtorEq, sx, fx24, t1, t6, t10, m0, mr, hlt, intV_length, markV_length, Int.natCast_nonneg, Int.toNat_natCast, hget, hmk, hin, hb, hi]
            rfl, by simp, .inl ⟨rfl, ?_, fun h => ?_⟩⟩
          · simp only [Tr.get_set, zEq, reduceIte]
          · rcases (h i hi).2 with h2 | h2
            · rw [hc] at h2; cases h2
            · exact h0 h2
    · rw [decide_eq_false h1] at hin
      refine .inr ⟨_, _, _, by
        simp only [bodyR, bodyOf, Try.f24, Option.getD_some, flatC, innerC, stmtC, List.append_assoc, dx, reduceIte, zLt, zLe, zEq, zAd, zMu, zSu, zBe, yEq, yLt, yLe, yTn, reduceCtorEq, sx, fx24, t1, t6, t10, m0, mr, hlt, intV_length, markV_length, Int.natCast_nonneg, Int.toNat_natCast, hget, hin, hi]
        rfl, by simp, .inl ⟨rfl, ?_, fun h => h1 (h i hi).1⟩⟩
      simp only [Tr.get_set, zEq, reduceIte]
  · rintro T σ' ⟨_, t1, t6, t10, rfl, hall⟩
    have hge : ¬ (((ws.length : Nat) : Int) < ((ws.length : Nat) : Int)) := by omega
    refine ⟨_, _, _, by
      simp only [bodyR, bodyOf, Try.f24, Option.getD_some, flatC, innerC, stmtC, List.append_assoc, dx, reduceIte, zLt, zLe, zEq, zAd, zMu, zSu, zBe, yEq, yLt, yLe, yTn, reduceCtorEq, sx, fx24, t1, t10, m0, intV_length, hge]
      rfl, by simp, .inr ⟨rfl, fun i h => hall i h h⟩⟩
  · exact ⟨Nat.zero_le _, t1, t6, t10, rfl, fun j hj h => by omega⟩
end Go.Proofs.Ytjkfdiglokkceaa

/- Heaps: the reference's IsRight and Check. -/
set_option maxRecDepth 100000
set_option linter.unusedSimpArgs false
set_option linter.unusedVariables false
namespace Go.Proofs.Ytjkfdiglokkceaa
open Go Go.Proofs.Ytjkfdiglokkceaa.Pale
variable {k : Nat} {σ : AMem}

theorem right_of {ps : List Pg} {ws : List Int} (h1 : 1 ≤ ps.length ∧ ps.length ≤ 40) (h2 : ws.length = 64 * ps.length) (hs : Shape ps) : RightH ps ws ↔ ∀ i (h : i < ws.length), (0 ≤ ws[i] ∧ ws[i] ≤ maxWord) ∧ (covB (blocksL ps) i = true ∨ ws[i] = 0) := by
  constructor
  · intro h i hi
    refine ⟨h.words _ (List.getElem_mem hi), ?_⟩
    rcases (zeros_iff hs h2).1 h.zeros i hi with hc | h0
    · exact .inl (covB_iff.2 hc)
    · exact .inr (by rw [← wdAt_lt hi]; exact h0)
  · intro h
    refine ⟨h1, h2, fun w hw => ?_, hs, (zeros_iff hs h2).2 fun i hi => ?_⟩
    · obtain ⟨i, hi, rfl⟩ := List.mem_iff_getElem.1 hw
      exact (h i hi).1
    · rcases (h i hi).2 with hc | h0
      · exact .inl (covB_iff.1 hc)
      · exact .inr (by rw [wdAt_lt hi]; exact h0)
theorem isRight_call (kp kw : VK) (l : List PV) (ws : List Int) (hu : ∀ x, x ∈ l → x.1.used.length ≤ 1000) (hl : l.length ≤ 100000) (hw : ws.length ≤ 100000) (hk : 6000 ≤ k) : pureCall lawProg (callN lawProg k) (.func 24 [] []) [hpV kp kw l ws] σ = some (.bool (rightB (pgsOf l) ws), σ) := by
  obtain ⟨k, rfl⟩ : ∃ m, k = m + 1 := ⟨k - 1, by omega⟩
  have hlp : (pgsOf l).length = l.length := by simp [pgsOf]
  have run : ∃ T1 σ1, execC lawProg (callN lawProg k) k 24 127 (bodyOf Try.f24) (initT 0 [.agg [.vs kp (l.map pv), .vs kw (intV ws)]] .nil) AMem.empty = some (.ret, T1, σ1) ∧ T1.get 2 = some (.bool (rightB (pgsOf l) ws)) := by
    have hin := fun (σ : AMem) => in_call (k := k) (σ := σ) ((l.length : Nat) : Int) 1 40 (by omega)
    by_cases hp : 1 ≤ ((l.length : Nat) : Int) ∧ ((l.length : Nat) : Int) ≤ 40
    · rw [decide_eq_true hp] at hin
      have hmul : IntKind.i64.wrap (((l.length : Nat) : Int) * 64) = ((64 * l.length : Nat) : Int) := by rw [i64_id (by omega) (by omega)]; omega
      by_cases hwl : ws.length = 64 * l.length
      · have hne : (((ws.length : Nat) : Int) != ((64 * l.length : Nat) : Int)) = false := by rw [hwl]; exact bne_self_eq_false _
        simp only [bodyOf, Try.f24, Option.getD_some, initT, dx, reduceIte, zLt, zLe, zEq, zAd, zMu, zSu, zBe, yEq, yLt, yLe, yTn, reduceCtorEq, sx, fx24, List.length_map, intV_length, hin, hmul, hne]
        generalize hL : execC _ _ _ _ _ (Code.loop _) _ _ = q
        obtain ⟨e, T1, σ1, rfl, _, hc⟩ : ∃ e T' σ', q = some (e, T', σ') ∧ e ≠ .normal ∧ ((e = .ret ∧ T'.get 2 = some (.bool false) ∧ ¬ Shape (pgsOf l)) ∨ (e = .exit 0 ∧ Shape (pgsOf l) ∧ T'.get 1 = some (.ptr 0 0) ∧ σ'.get 0 = some (.row 2 true [.vs kp (l.map pv), .vs kw (intV ws)]) ∧ 1 ≤ σ'.next)) := by
          rw [← hL]
          refine pages_loop ?_ ?_ ?_ ?_ ?_ (by omega) hu (by omega)
          · simp only [Tr.get_set, zEq, reduceIte]
          · simp only [Tr.get_set, zEq, reduceIte]
          · simp only [Tr.get_set, zEq, reduceIte] <;> rfl
          · simp only [AMem.get_push, next_empty, reduceIte]
          · simp [next_empty]
        rcases hc with ⟨rfl, h2, hns⟩ | ⟨rfl, hsh, t1, m0, nx⟩
        · simp only [dx, reduceIte, zLt, zLe, zEq, zAd, zMu, zSu, zBe, yEq, yLt, yLe, yTn, reduceCtorEq, sx, fx24]
          exact ⟨_, _, rfl, by rw [h2, rightB_false (fun h => hns h.shape)]⟩
        · have hbc := fun (σ : AMem) => blocks_call (k := k) (σ := σ) kp kw l ws hsh (by omega) (by omega)
          have cm : (0 : Int) ≤ ((ws.length : Nat) : Int) ∧ ((ws.length : Nat) : Int) ≤ ((ws.length : Nat) : Int) ∧ ((ws.length : Nat) : Int) * ((1 : Nat) : Int) ≤ ((mostBytes : Nat) : Int) ∧ ((ws.length : Nat) : Int) ≤ 9223372036854775807 := by unfold mostBytes; omega
          unfold hpV at hbc
          obtain ⟨r, hr⟩ : ∃ r, r = σ1.next := ⟨_, rfl⟩
          obtain ⟨σ2, hσ2⟩ : ∃ s, s = σ1.push (.row 1 false (markV ws.length fun _ => false)) := ⟨_, rfl⟩
          have m02 : σ2.get 0 = some (.row 2 true [.vs kp (l.map pv), .vs kw (intV ws)]) := by rw [hσ2, AMem.get_push, if_neg (by omega)]; exact m0
          have mr2 : σ2.get r = some (.row 1 false (markV ws.length fun _ => false)) := by rw [hσ2, hr, AMem.get_push, if_pos rfl]
          simp only [dx, reduceIte, zLt, zLe, zEq, zAd, zMu, zSu, zBe, yEq, yLt, yLe, yTn, reduceCtorEq, sx, fx24, t1, m0, intV_length, cm, repZ_mark, Int.toNat_natCast, ← hσ2, ← hr]
          simp only [dx, reduceIte, zLt, zLe, zEq, zAd, zMu, zSu, zBe, yEq, yLt, yLe, yTn, reduceCtorEq, sx, fx24, t1, m02, hbc]
          generalize hL2 : execC _ _ _ _ _ (Code.loop _) _ _ = q2
          obtain ⟨T3, σ3, rfl, v1, v6, vr, vs⟩ : ∃ T' σ', q2 = some (.exit 3, T', σ') ∧ T'.get 1 = some (.ptr 0 0) ∧ T'.get 6 = some (.slice r 0 ws.length (some ws.length) 1) ∧ σ'.get r = some (.row 1 false (markV ws.length (covB (blocksL (pgsOf l))))) ∧ ∀ s, s ≠ r → σ'.get s = σ2.get s := by
            rw [← hL2]
            refine marks_loop (K := lkOf (blocksL (pgsOf l)).length) ?_ ?_ ?_ ?_ mr2 (by omega) ?_ (fun b hb => ?_) (by omega)
            · simp only [Tr.get_set, zEq, reduceIte, t1]
            · simp only [Tr.get_set, zEq, reduceIte]
            · simp only [Tr.get_set, zEq, reduceIte]
            · simp only [Tr.get_set, zEq, reduceIte] <;> rfl
            · have := (blocks_len hsh (pgsOf l).length (Nat.le_refl _)).1
              unfold blocksL
              omega
            · obtain ⟨_, _, b1, b2, b3, b4⟩ := blk_page hsh hb
              rw [hlp] at b4
              omega
          have m03 : σ3.get 0 = some (.row 2 true [.vs kp (l.map pv), .vs kw (intV ws)]) := by rw [vs 0 (by omega)]; exact m02
          simp only [dx, reduceIte, zLt, zLe, zEq, zAd, zMu, zSu, zBe, yEq, yLt, yLe, yTn, reduceCtorEq, sx, fx24]
          generalize hL3 : execC _ _ _ _ _ (Code.loop _) _ _ = q3
          obtain ⟨e, T4, σ4, rfl, _, hc⟩ : ∃ e T' σ', q3 = some (e, T', σ') ∧ e ≠ .normal ∧ ((e = .ret ∧ T'.get 2 = some (.bool false) ∧ ¬ ∀ i (h : i < ws.length), (0 ≤ ws[i] ∧ ws[i] ≤ maxWord) ∧ (covB (blocksL (pgsOf l)) i = true ∨ ws[i] = 0)) ∨ (e = .exit 7 ∧ ∀ i (h : i < ws.length), (0 ≤ ws[i] ∧ ws[i] ≤ maxWord) ∧ (covB (blocksL (pgsOf l)) i = true ∨ ws[i] = 0))) := by
            rw [← hL3]
            refine words_loop (r := r) ?_ ?_ ?_ m03 vr (by omega) (by omega)
            · simp only [Tr.get_set, zEq, reduceIte, v1]
            · simp only [Tr.get_set, zEq, reduceIte, v6]
            · simp only [Tr.get_set, zEq, reduceIte] <;> rfl
          have hro := right_of (ps := pgsOf l) (ws := ws) (by omega) (by omega) hsh
          rcases hc with ⟨rfl, h2, hno⟩ | ⟨rfl, hall⟩
          · simp only [dx, reduceIte, zLt, zLe, zEq, zAd, zMu, zSu, zBe, yEq, yLt, yLe, yTn, reduceCtorEq, sx, fx24]
            exact ⟨_, _, rfl, by rw [h2, rightB_false (fun h => hno (hro.1 h))]⟩
          · simp only [dx, reduceIte, zLt, zLe, zEq, zAd, zMu, zSu, zBe, yEq, yLt, yLe, yTn, reduceCtorEq, sx, fx24]
            exact ⟨_, _, rfl, by rw [rightB_true (hro.2 hall)]; simp only [Tr.get_set, zEq, reduceIte]⟩
      · have hne : (((ws.length : Nat) : Int) != ((64 * l.length : Nat) : Int)) = true := by rw [bne_iff_ne]; omega
        simp only [bodyOf, Try.f24, Option.getD_some, initT, dx, reduceIte, zLt, zLe, zEq, zAd, zMu, zSu, zBe, yEq, yLt, yLe, yTn, reduceCtorEq, sx, fx24, List.length_map, intV_length, hin, hmul, hne]
        rw [rightB_false (fun h => hwl (by rw [h.len, hlp]))]
        exact ⟨_, _, rfl, by simp only [Tr.get_set, zEq, reduceIte]⟩
    · rw [decide_eq_false hp] at hin
      simp only [bodyOf, Try.f24, Option.getD_some, initT, dx, reduceIte, zLt, zLe, zEq, zAd, zMu, zSu, zBe, yEq, yLt, yLe, yTn, reduceCtorEq, sx, fx24, List.length_map, intV_length, hin]
      rw [rightB_false (fun h => hp (by have := h.many; rw [hlp] at this; omega))]
      exact ⟨_, _, rfl, by simp only [Tr.get_set, zEq, reduceIte]⟩
  obtain ⟨T1, σ1, h1, h2⟩ := run
  exact pureCall_of rfl (memo24 _) (pureRun_of fn24 rfl (by simp [Try.f24]) h1 (by simp) (res_one h2) rfl)
end Go.Proofs.Ytjkfdiglokkceaa


