import Derived.Test.YtjckhhkhgjbpaaaGreatDoorFacts
import Derived.Test.YtjckhhkhgjbpaaaGreatDoorPaleItems
/- Small functions on integers and bytes: what they give on every input. -/
set_option maxRecDepth 100000
set_option linter.unusedSimpArgs false
set_option linter.unusedVariables false
namespace Go.Proofs.YtjckhhkhgjbpaaaGreatDoor
open Go Go.Proofs.YtjckhhkhgjbpaaaGreatDoor.Pale
variable {k : Nat} {σ : AMem}

/-! ### between two numbers -/
theorem within_run (a b n : Int) : pureRun (callN lawProg (k + 1)) (.func 86 [] []) [.int .i64 a, .int .i64 b, .int .i64 n] = some (.bool (decide (a ≤ n ∧ n ≤ b)), true) := by
  have run : ∃ T1, execC lawProg (callN lawProg k) k 86 15 (bodyOf Tryz.f86) (initT 0 [.int .i64 a, .int .i64 b, .int .i64 n] .nil) AMem.empty = some (.ret, T1, AMem.empty) ∧ T1.get 6 = some (.bool (decide (a ≤ n ∧ n ≤ b))) := by
    by_cases h1 : a ≤ n
    · by_cases h2 : n ≤ b
      · simp only [bodyOf, Tryz.f86, Option.getD_some, initT, dx, reduceIte, Nat.reduceLT, Nat.reduceLeDiff, Nat.reduceEqDiff, Nat.reduceAdd, Nat.reduceMul, Nat.reduceSub, Nat.reduceBEq, Int.reduceEq, Int.reduceLT, Int.reduceLE, Int.reduceToNat, reduceCtorEq, sx, fx86, ge_iff_le, h1, h2]
        exact ⟨_, rfl, by simp only [Tr.get_set, Nat.reduceEqDiff, reduceIte]⟩
      · simp only [bodyOf, Tryz.f86, Option.getD_some, initT, dx, reduceIte, Nat.reduceLT, Nat.reduceLeDiff, Nat.reduceEqDiff, Nat.reduceAdd, Nat.reduceMul, Nat.reduceSub, Nat.reduceBEq, Int.reduceEq, Int.reduceLT, Int.reduceLE, Int.reduceToNat, reduceCtorEq, sx, fx86, ge_iff_le, h1, h2]
        exact ⟨_, rfl, by simp only [Tr.get_set, Nat.reduceEqDiff, reduceIte]⟩
    · simp only [bodyOf, Tryz.f86, Option.getD_some, initT, dx, reduceIte, Nat.reduceLT, Nat.reduceLeDiff, Nat.reduceEqDiff, Nat.reduceAdd, Nat.reduceMul, Nat.reduceSub, Nat.reduceBEq, Int.reduceEq, Int.reduceLT, Int.reduceLE, Int.reduceToNat, reduceCtorEq, sx, fx86, ge_iff_le, h1]
      exact ⟨_, rfl, by simp only [Tr.get_set, Nat.reduceEqDiff, reduceIte]⟩
  obtain ⟨T1, h1, h2⟩ := run
  exact pureRun_of fn86 rfl (by simp [Tryz.f86]) h1 (by simp) (res_one h2) rfl
theorem within_call (a b n : Int) (hk : 1 ≤ k) : pureCall lawProg (callN lawProg k) (.func 86 [] []) [.int .i64 a, .int .i64 b, .int .i64 n] σ = some (.bool (decide (a ≤ n ∧ n ≤ b)), σ) := by
  obtain ⟨k, rfl⟩ : ∃ m, k = m + 1 := ⟨k - 1, by omega⟩
  exact pureCall_of rfl (memo86 _) (within_run a b n)

theorem in_run (n a b : Int) : pureRun (callN lawProg (k + 1)) (.func 78 [] []) [.int .i64 n, .int .i64 a, .int .i64 b] = some (.bool (decide (a ≤ n ∧ n ≤ b)), true) := by
  have run : ∃ T1, execC lawProg (callN lawProg k) k 78 15 (bodyOf Tryz.f78) (initT 0 [.int .i64 n, .int .i64 a, .int .i64 b] .nil) AMem.empty = some (.ret, T1, AMem.empty) ∧ T1.get 6 = some (.bool (decide (a ≤ n ∧ n ≤ b))) := by
    by_cases h1 : a ≤ n
    · by_cases h2 : n ≤ b
      · simp only [bodyOf, Tryz.f78, Option.getD_some, initT, dx, reduceIte, Nat.reduceLT, Nat.reduceLeDiff, Nat.reduceEqDiff, Nat.reduceAdd, Nat.reduceMul, Nat.reduceSub, Nat.reduceBEq, Int.reduceEq, Int.reduceLT, Int.reduceLE, Int.reduceToNat, reduceCtorEq, sx, fx78, ge_iff_le, h1, h2]
        exact ⟨_, rfl, by simp only [Tr.get_set, Nat.reduceEqDiff, reduceIte]⟩
      · simp only [bodyOf, Tryz.f78, Option.getD_some, initT, dx, reduceIte, Nat.reduceLT, Nat.reduceLeDiff, Nat.reduceEqDiff, Nat.reduceAdd, Nat.reduceMul, Nat.reduceSub, Nat.reduceBEq, Int.reduceEq, Int.reduceLT, Int.reduceLE, Int.reduceToNat, reduceCtorEq, sx, fx78, ge_iff_le, h1, h2]
        exact ⟨_, rfl, by simp only [Tr.get_set, Nat.reduceEqDiff, reduceIte]⟩
    · simp only [bodyOf, Tryz.f78, Option.getD_some, initT, dx, reduceIte, Nat.reduceLT, Nat.reduceLeDiff, Nat.reduceEqDiff, Nat.reduceAdd, Nat.reduceMul, Nat.reduceSub, Nat.reduceBEq, Int.reduceEq, Int.reduceLT, Int.reduceLE, Int.reduceToNat, reduceCtorEq, sx, fx78, ge_iff_le, h1]
      exact ⟨_, rfl, by simp only [Tr.get_set, Nat.reduceEqDiff, reduceIte]⟩
  obtain ⟨T1, h1, h2⟩ := run
  exact pureRun_of fn78 rfl (by simp [Tryz.f78]) h1 (by simp) (res_one h2) rfl
theorem in_call (n a b : Int) (hk : 1 ≤ k) : pureCall lawProg (callN lawProg k) (.func 78 [] []) [.int .i64 n, .int .i64 a, .int .i64 b] σ = some (.bool (decide (a ≤ n ∧ n ≤ b)), σ) := by
  obtain ⟨k, rfl⟩ : ∃ m, k = m + 1 := ⟨k - 1, by omega⟩
  exact pureCall_of rfl (memo78 _) (in_run n a b)

/-! ### sums -/
/-! ### copies of bytes -/
theorem clone_run (bs : List Nat) (vk : VK) (hk : vk ≠ .nil) (hn : bs.length ≤ 1000000) : pureRun (callN lawProg (k + 1)) (.func 72 [] []) [.vs vk (bytesV bs)] = some (.vs .some (bytesV bs), true) := by
  have hnil : eqNilS (.vs vk (bytesV bs)) (.vs .nil []) = some false := by cases vk <;> first | exact absurd rfl hk | rfl
  by_cases h0 : bs = []
  · subst h0
    have run : ∃ T1 σ1, execC lawProg (callN lawProg k) k 72 8 (bodyOf Tryz.f72) (initT 0 [.vs vk (bytesV [])] .nil) AMem.empty = some (.ret, T1, σ1) ∧ T1.get 2 = some (.slice 0 0 0 (some 0) 1) ∧ σ1.get 0 = some (.row 1 false (bytesV ([] ++ []))) := by
      simp only [bodyOf, Tryz.f72, Option.getD_some, initT, dx, reduceIte, Nat.reduceLT, Nat.reduceLeDiff, Nat.reduceEqDiff, Nat.reduceAdd, Nat.reduceMul, Nat.reduceSub, Nat.reduceBEq, Int.reduceEq, Int.reduceLT, Int.reduceLE, Int.reduceToNat, reduceCtorEq, sx, fx72, aeq, hnil, eqTy, repZ, appendA, source_bytes]
      exact ⟨_, _, rfl, by simp only [Tr.get_set, Nat.reduceEqDiff, reduceIte], rfl⟩
    obtain ⟨T1, σ1, h1, h2, h3⟩ := run
    exact pureRun_of fn72 rfl (by simp [Tryz.f72]) h1 (by simp) (res_one h2) (snap_bytes (bs := []) rfl h3)
  · have hpos : ¬ bs.length = 0 := fun e => h0 (List.eq_nil_of_length_eq_zero e)
    have hfit : ¬ bs.length ≤ 0 := by omega
    have hby : 0 + bs.length ≤ mostBytes := by unfold mostBytes; omega
    have run : ∃ T1 σ1, execC lawProg (callN lawProg k) k 72 8 (bodyOf Tryz.f72) (initT 0 [.vs vk (bytesV bs)] .nil) AMem.empty = some (.ret, T1, σ1) ∧ T1.get 2 = some (.slice 1 0 bs.length none 1) ∧ σ1.get 1 = some (.row 1 false (bytesV (bs ++ []))) := by
      simp only [bodyOf, Tryz.f72, Option.getD_some, initT, dx, reduceIte, Nat.reduceLT, Nat.reduceLeDiff, Nat.reduceEqDiff, Nat.reduceAdd, Nat.reduceMul, Nat.reduceSub, Nat.reduceBEq, Int.reduceEq, Int.reduceLT, Int.reduceLE, Int.reduceToNat, reduceCtorEq, sx, fx72, aeq, hnil, eqTy, repZ, appendA, source_bytes, hpos, hfit, Nat.zero_add, show bs.length ≤ mostBytes from by omega]
      exact ⟨_, _, rfl, by simp only [Tr.get_set, Nat.reduceEqDiff, reduceIte], by simp only [AMem.get_push, reduceIte, AMem.next_push, next_empty, List.append_nil]⟩
    obtain ⟨T1, σ1, h1, h2, h3⟩ := run
    exact pureRun_of fn72 rfl (by simp [Tryz.f72]) h1 (by simp) (res_one h2) (snap_bytes (more := []) rfl h3)
theorem clone_call (bs : List Nat) (vk : VK) (hv : vk ≠ .nil) (hn : bs.length ≤ 1000000) (hk : 1 ≤ k) : pureCall lawProg (callN lawProg k) (.func 72 [] []) [.vs vk (bytesV bs)] σ = some (.vs .some (bytesV bs), σ) := by
  obtain ⟨k, rfl⟩ : ∃ m, k = m + 1 := ⟨k - 1, by omega⟩
  exact pureCall_of rfl (memo72 _) (clone_run bs vk hv hn)
theorem awake_call (call : CallA) : pureCall lawProg call (.func 10 [] []) [] σ = some (.bool true, σ) := pureCall_memo (args := []) rfl memo10
end Go.Proofs.YtjckhhkhgjbpaaaGreatDoor

/- slices.IndexFunc and ContainsFunc over sheaves and parts. -/
set_option maxRecDepth 100000
set_option linter.unusedSimpArgs false
set_option linter.unusedVariables false
namespace Go.Proofs.YtjckhhkhgjbpaaaGreatDoor
open Go Go.Proofs.YtjckhhkhgjbpaaaGreatDoor.Pale
variable {k : Nat} {σ : AMem}

/-- The place of the first one of which something is so; -1 if there is none. -/
def idxI (p : AVal → Bool) : List AVal → Int
  | [] => -1
  | e :: es => if p e then 0 else if idxI p es < 0 then -1 else idxI p es + 1
theorem idxI_none {p : AVal → Bool} : ∀ {es : List AVal}, (∀ x, x ∈ es → p x = false) → idxI p es = -1 := by
  intro es
  induction es with
  | nil => intro _; rfl
  | cons e es ih =>
    intro h
    simp only [idxI, h e (by simp), Bool.false_eq_true, if_false, ih (fun x hx => h x (by simp [hx]))]
    rfl
theorem idxI_at {p : AVal → Bool} : ∀ {es : List AVal} {i : Nat} (hi : i < es.length), (∀ x, x ∈ es.take i → p x = false) → p es[i] = true → idxI p es = (i : Int) := by
  intro es
  induction es with
  | nil => intro i hi; simp at hi
  | cons e es ih =>
    intro i hi h hp
    cases i with
    | zero => simp only [List.getElem_cons_zero] at hp; simp only [idxI, hp, if_true]; rfl
    | succ i =>
      have he := h e (by simp)
      have := ih (i := i) (by simpa using hi) (fun x hx => h x (by simp [hx])) (by simpa using hp)
      simp only [idxI, he, Bool.false_eq_true, if_false, this]
      rw [if_neg (by omega)]
      omega
theorem idxI_any (p : AVal → Bool) : ∀ (es : List AVal), decide (idxI p es ≥ 0) = es.any p := by
  intro es
  induction es with
  | nil => rfl
  | cons e es ih =>
    simp only [idxI, List.any_cons]
    by_cases hp : p e = true
    · simp [hp]
    · have hp : p e = false := by simpa using hp
      simp only [hp, Bool.false_eq_true, if_false, Bool.false_or, ← ih]
      split
      · rename_i h; rw [decide_eq_false (by omega), decide_eq_false (by omega)]
      · rename_i h; rw [decide_eq_true (by omega), decide_eq_true (by omega)]

theorem sheaf_v (vk : VK) (es : List AVal) (g : Nat) (caps : List AVal) (p : AVal → Bool) (hc : ∀ e, e ∈ es → ∃ cs, e = .agg cs ∧ cs.length = 2) (hlen : es.length ≤ 100000) (hfn : caps = [] → lawProg.isVal 129 g = false) (hf : ∀ e, e ∈ es → ∀ σ', Ext σ σ' → ∃ σ'', callN lawProg k (.func g [] caps) [e] σ' = some (.bool (p e), σ'') ∧ Ext σ' σ'') (hk : es.length + 1 ≤ k) :
    ∃ σ', callN lawProg (k + 1) (.func 129 [] []) [.vs vk es, .func g [] caps] σ = some (.int .i64 (idxI p es), σ') ∧ Ext σ σ' := by
  have run : ∃ T1 σ1, execC lawProg (callN lawProg k) k 129 19 (bodyOf Tryz.f129) (initT 0 [.vs vk es, .func g [] caps] .nil) σ = some (.ret, T1, σ1) ∧ T1.get 4 = some (.int .i64 (idxI p es)) ∧ Ext σ σ1 := by
    simp only [bodyOf, Tryz.f129, Option.getD_some, initT, dx, reduceIte, Nat.reduceLT, Nat.reduceLeDiff, Nat.reduceEqDiff, Nat.reduceAdd, Nat.reduceMul, Nat.reduceSub, Nat.reduceBEq, Int.reduceEq, Int.reduceLT, Int.reduceLE, Int.reduceToNat, reduceCtorEq, sx, fx129]
    generalize hL : execC _ _ _ _ _ (Code.loop _) _ _ = q
    obtain ⟨e, T', σ', rfl, _, hx, hcase⟩ : ∃ e T' σ', q = some (e, T', σ') ∧ e ≠ .normal ∧ (Ext σ σ' ∧ ((e = .exit 0 ∧ ∀ x, x ∈ es → p x = false) ∨ (e = .ret ∧ T'.get 4 = some (.int .i64 (idxI p es))))) := by
      rw [← hL]
      refine exec_loop2 (fun i T σ' => i ≤ es.length ∧ T.get 0 = some (.vs vk es) ∧ T.get 1 = some (.func g [] caps) ∧ T.get 7 = some (.int .i64 es.length) ∧ T.get 8 = some (.int .i64 i) ∧ Ext σ σ' ∧ ∀ x, x ∈ es.take i → p x = false) es.length (by omega) ?_ ?_ ?_
      · rintro i hi T σ' ⟨_, t0, t1, t7, t8, hx, hall⟩
        have hlt : (i : Int) < es.length := by omega
        obtain ⟨cs, hci, hcl⟩ := hc _ (List.getElem_mem hi)
        have hgi : es[i]? = some (.agg cs) := by rw [List.getElem?_eq_getElem hi, hci]
        obtain ⟨σ'', hc1, hc2⟩ := hf _ (List.getElem_mem hi) σ' hx
        have hw := i64_succ (i := i) (by omega)
        cases hp : p es[i] with
        | false =>
          left
          rw [hp] at hc1
          rw [hci] at hc1
          cases caps with
          | cons c cs =>
            refine ⟨_, _, by
              simp only [dx, reduceIte, Nat.reduceLT, Nat.reduceLeDiff, Nat.reduceEqDiff, Nat.reduceAdd, Nat.reduceMul, Nat.reduceSub, Nat.reduceBEq, Int.reduceEq, Int.reduceLT, Int.reduceLE, Int.reduceToNat, reduceCtorEq, sx, fx129, t0, t1, t7, t8, hlt, Int.natCast_nonneg, Int.toNat_natCast, hgi, hcl, hc1, hw]
              rfl, hi, ?_, ?_, ?_, ?_, hx.trans hc2, take_all hi hall hp⟩
            all_goals simp only [Tr.get_set, Nat.reduceEqDiff, reduceIte, t0, t1, t7]
          | nil =>
            have hv := hfn rfl
            refine ⟨_, _, by
              simp only [dx, reduceIte, Nat.reduceLT, Nat.reduceLeDiff, Nat.reduceEqDiff, Nat.reduceAdd, Nat.reduceMul, Nat.reduceSub, Nat.reduceBEq, Int.reduceEq, Int.reduceLT, Int.reduceLE, Int.reduceToNat, reduceCtorEq, sx, fx129, t0, t1, t7, t8, hlt, Int.natCast_nonneg, Int.toNat_natCast, hgi, hcl, hv, hc1, hw]
              rfl, hi, ?_, ?_, ?_, ?_, hx.trans hc2, take_all hi hall hp⟩
            all_goals simp only [Tr.get_set, Nat.reduceEqDiff, reduceIte, t0, t1, t7]
        | true =>
          right
          rw [hp] at hc1
          rw [hci] at hc1
          have hidx := idxI_at hi hall hp
          cases caps with
          | cons c cs =>
            refine ⟨.ret, _, _, by
              simp only [dx, reduceIte, Nat.reduceLT, Nat.reduceLeDiff, Nat.reduceEqDiff, Nat.reduceAdd, Nat.reduceMul, Nat.reduceSub, Nat.reduceBEq, Int.reduceEq, Int.reduceLT, Int.reduceLE, Int.reduceToNat, reduceCtorEq, sx, fx129, t0, t1, t7, t8, hlt, Int.natCast_nonneg, Int.toNat_natCast, hgi, hcl, hc1, hw]
              rfl, by simp, hx.trans hc2, .inr ⟨rfl, ?_⟩⟩
            simp only [Tr.get_set, Nat.reduceEqDiff, reduceIte, hidx]
          | nil =>
            have hv := hfn rfl
            refine ⟨.ret, _, _, by
              simp only [dx, reduceIte, Nat.reduceLT, Nat.reduceLeDiff, Nat.reduceEqDiff, Nat.reduceAdd, Nat.reduceMul, Nat.reduceSub, Nat.reduceBEq, Int.reduceEq, Int.reduceLT, Int.reduceLE, Int.reduceToNat, reduceCtorEq, sx, fx129, t0, t1, t7, t8, hlt, Int.natCast_nonneg, Int.toNat_natCast, hgi, hcl, hv, hc1, hw]
              rfl, by simp, hx.trans hc2, .inr ⟨rfl, ?_⟩⟩
            simp only [Tr.get_set, Nat.reduceEqDiff, reduceIte, hidx]
      · rintro T σ' ⟨_, t0, t1, t7, t8, hx, hall⟩
        rw [List.take_length] at hall
        exact ⟨_, _, _, by
          simp only [dx, reduceIte, Nat.reduceLT, Nat.reduceLeDiff, Nat.reduceEqDiff, Nat.reduceAdd, Nat.reduceMul, Nat.reduceSub, Nat.reduceBEq, Int.reduceEq, Int.reduceLT, Int.reduceLE, Int.reduceToNat, reduceCtorEq, sx, fx129, t0, t1, t7, t8, Int.lt_irrefl]
          rfl, by simp, hx, .inl ⟨rfl, hall⟩⟩
      · refine ⟨Nat.zero_le _, ?_, ?_, ?_, ?_, Ext.refl _, by simp⟩
        all_goals simp only [Tr.get_set, Nat.reduceEqDiff, reduceIte]
        all_goals rfl
    rcases hcase with ⟨rfl, hall⟩ | ⟨rfl, hT⟩
    · simp only [dx, reduceIte, Nat.reduceLT, Nat.reduceLeDiff, Nat.reduceEqDiff, Nat.reduceAdd, Nat.reduceMul, Nat.reduceSub, Nat.reduceBEq, Int.reduceEq, Int.reduceLT, Int.reduceLE, Int.reduceToNat, reduceCtorEq, sx, fx129]
      exact ⟨_, _, rfl, by simp only [Tr.get_set, Nat.reduceEqDiff, reduceIte, idxI_none hall], hx⟩
    · simp only [dx, reduceIte, Nat.reduceLT, Nat.reduceLeDiff, Nat.reduceEqDiff, Nat.reduceAdd, Nat.reduceMul, Nat.reduceSub, Nat.reduceBEq, Int.reduceEq, Int.reduceLT, Int.reduceLE, Int.reduceToNat, reduceCtorEq, sx, fx129]
      exact ⟨_, _, rfl, hT, hx⟩
  obtain ⟨T1, σ1, h1, h2, h3⟩ := run
  exact ⟨σ1, q_call (first := []) (caps := []) fn129 rfl (by simp [Tryz.f129]) h1 (by simp) (res_one h2), h3⟩

theorem sheaf_has_v (vk : VK) (es : List AVal) (g : Nat) (caps : List AVal) (p : AVal → Bool) (hc : ∀ e, e ∈ es → ∃ cs, e = .agg cs ∧ cs.length = 2) (hlen : es.length ≤ 100000) (hfn : caps = [] → lawProg.isVal 129 g = false) (hf : ∀ e, e ∈ es → ∀ σ', Ext σ σ' → ∃ σ'', callN lawProg k (.func g [] caps) [e] σ' = some (.bool (p e), σ'') ∧ Ext σ' σ'') (hk : es.length + 1 ≤ k) :
    ∃ σ', callN lawProg (k + 2) (.func 81 [] []) [.vs vk es, .func g [] caps] σ = some (.bool (es.any p), σ') ∧ Ext σ σ' := by
  obtain ⟨σ', hc, hx⟩ := sheaf_v vk es g caps p hc hlen hfn hf hk
  have e : ∃ T1, execC lawProg (callN lawProg (k + 1)) (k + 1) 81 9 (bodyOf Tryz.f81) (initT 0 [.vs vk es, .func g [] caps] .nil) σ = some (.ret, T1, σ') ∧ T1.get 4 = some (.bool (decide (idxI p es ≥ 0))) := by
    simp only [bodyOf, Tryz.f81, Option.getD_some, initT, dx, reduceIte, Nat.reduceLT, Nat.reduceLeDiff, Nat.reduceEqDiff, Nat.reduceAdd, Nat.reduceMul, Nat.reduceSub, Nat.reduceBEq, Int.reduceEq, Int.reduceLT, Int.reduceLE, Int.reduceToNat, reduceCtorEq, sx, fx81, hc]
    exact ⟨_, rfl, by simp only [Tr.get_set, Nat.reduceEqDiff, reduceIte]⟩
  obtain ⟨T1, e1, e2⟩ := e
  rw [idxI_any] at e2
  exact ⟨σ', q_call (first := []) (caps := []) fn81 rfl (by simp [Tryz.f81]) e1 (by simp) (res_one e2), hx⟩

theorem sheaf_m {r off n : Nat} {cap : Option Nat} {cells : List AVal} (es : List AVal) (hn : n = es.length) (hr : σ.get r = some (.row 2 true cells)) (hrn : r < σ.next) (hcell : ∀ i (h : i < es.length), off + i * 2 + 2 ≤ cells.length ∧ .agg ((cells.drop (off + i * 2)).take 2) = es[i]) (g : Nat) (caps : List AVal) (p : AVal → Bool) (hlen : es.length ≤ 100000) (hfn : caps = [] → lawProg.isVal 129 g = false) (hf : ∀ e, e ∈ es → ∀ σ', Ext σ σ' → ∃ σ'', callN lawProg k (.func g [] caps) [e] σ' = some (.bool (p e), σ'') ∧ Ext σ' σ'') (hk : es.length + 1 ≤ k) :
    ∃ σ', callN lawProg (k + 1) (.func 129 [] []) [.slice r off n cap 2, .func g [] caps] σ = some (.int .i64 (idxI p es), σ') ∧ Ext σ σ' := by
  subst hn
  have run : ∃ T1 σ1, execC lawProg (callN lawProg k) k 129 19 (bodyOf Tryz.f129) (initT 0 [.slice r off es.length cap 2, .func g [] caps] .nil) σ = some (.ret, T1, σ1) ∧ T1.get 4 = some (.int .i64 (idxI p es)) ∧ Ext σ σ1 := by
    simp only [bodyOf, Tryz.f129, Option.getD_some, initT, dx, reduceIte, Nat.reduceLT, Nat.reduceLeDiff, Nat.reduceEqDiff, Nat.reduceAdd, Nat.reduceMul, Nat.reduceSub, Nat.reduceBEq, Int.reduceEq, Int.reduceLT, Int.reduceLE, Int.reduceToNat, reduceCtorEq, sx, fx129]
    generalize hL : execC _ _ _ _ _ (Code.loop _) _ _ = q
    obtain ⟨e, T', σ', rfl, _, hx, hcase⟩ : ∃ e T' σ', q = some (e, T', σ') ∧ e ≠ .normal ∧ (Ext σ σ' ∧ ((e = .exit 0 ∧ ∀ x, x ∈ es → p x = false) ∨ (e = .ret ∧ T'.get 4 = some (.int .i64 (idxI p es))))) := by
      rw [← hL]
      refine exec_loop2 (fun i T σ' => i ≤ es.length ∧ T.get 0 = some (.slice r off es.length cap 2) ∧ T.get 1 = some (.func g [] caps) ∧ T.get 7 = some (.int .i64 es.length) ∧ T.get 8 = some (.int .i64 i) ∧ Ext σ σ' ∧ ∀ x, x ∈ es.take i → p x = false) es.length (by omega) ?_ ?_ ?_
      · rintro i hi T σ' ⟨_, t0, t1, t7, t8, hx, hall⟩
        have hlt : (i : Int) < es.length := by omega
        obtain ⟨hle, hel⟩ := hcell i hi
        have hgr : σ'.get r = some (.row 2 true cells) := (hx.2 r hrn).trans hr
        obtain ⟨σ'', hc1, hc2⟩ := hf _ (List.getElem_mem hi) σ' hx
        have hw := i64_succ (i := i) (by omega)
        cases hp : p es[i] with
        | false =>
          left
          rw [hp] at hc1
          cases caps with
          | cons c cs =>
            refine ⟨_, _, by
              simp only [dx, reduceIte, Nat.reduceLT, Nat.reduceLeDiff, Nat.reduceEqDiff, Nat.reduceAdd, Nat.reduceMul, Nat.reduceSub, Nat.reduceBEq, Int.reduceEq, Int.reduceLT, Int.reduceLE, Int.reduceToNat, reduceCtorEq, sx, fx129, t0, t1, t7, t8, hlt, Int.natCast_nonneg, Int.toNat_natCast, hgr, hle, hel, hc1, hw]
              rfl, hi, ?_, ?_, ?_, ?_, hx.trans hc2, take_all hi hall hp⟩
            all_goals simp only [Tr.get_set, Nat.reduceEqDiff, reduceIte, t0, t1, t7]
          | nil =>
            have hv := hfn rfl
            refine ⟨_, _, by
              simp only [dx, reduceIte, Nat.reduceLT, Nat.reduceLeDiff, Nat.reduceEqDiff, Nat.reduceAdd, Nat.reduceMul, Nat.reduceSub, Nat.reduceBEq, Int.reduceEq, Int.reduceLT, Int.reduceLE, Int.reduceToNat, reduceCtorEq, sx, fx129, t0, t1, t7, t8, hlt, Int.natCast_nonneg, Int.toNat_natCast, hgr, hle, hel, hv, hc1, hw]
              rfl, hi, ?_, ?_, ?_, ?_, hx.trans hc2, take_all hi hall hp⟩
            all_goals simp only [Tr.get_set, Nat.reduceEqDiff, reduceIte, t0, t1, t7]
        | true =>
          right
          rw [hp] at hc1
          have hidx := idxI_at hi hall hp
          cases caps with
          | cons c cs =>
            refine ⟨.ret, _, _, by
              simp only [dx, reduceIte, Nat.reduceLT, Nat.reduceLeDiff, Nat.reduceEqDiff, Nat.reduceAdd, Nat.reduceMul, Nat.reduceSub, Nat.reduceBEq, Int.reduceEq, Int.reduceLT, Int.reduceLE, Int.reduceToNat, reduceCtorEq, sx, fx129, t0, t1, t7, t8, hlt, Int.natCast_nonneg, Int.toNat_natCast, hgr, hle, hel, hc1, hw]
              rfl, by simp, hx.trans hc2, .inr ⟨rfl, ?_⟩⟩
            simp only [Tr.get_set, Nat.reduceEqDiff, reduceIte, hidx]
          | nil =>
            have hv := hfn rfl
            refine ⟨.ret, _, _, by
              simp only [dx, reduceIte, Nat.reduceLT, Nat.reduceLeDiff, Nat.reduceEqDiff, Nat.reduceAdd, Nat.reduceMul, Nat.reduceSub, Nat.reduceBEq, Int.reduceEq, Int.reduceLT, Int.reduceLE, Int.reduceToNat, reduceCtorEq, sx, fx129, t0, t1, t7, t8, hlt, Int.natCast_nonneg, Int.toNat_natCast, hgr, hle, hel, hv, hc1, hw]
              rfl, by simp, hx.trans hc2, .inr ⟨rfl, ?_⟩⟩
            simp only [Tr.get_set, Nat.reduceEqDiff, reduceIte, hidx]
      · rintro T σ' ⟨_, t0, t1, t7, t8, hx, hall⟩
        rw [List.take_length] at hall
        exact ⟨_, _, _, by
          simp only [dx, reduceIte, Nat.reduceLT, Nat.reduceLeDiff, Nat.reduceEqDiff, Nat.reduceAdd, Nat.reduceMul, Nat.reduceSub, Nat.reduceBEq, Int.reduceEq, Int.reduceLT, Int.reduceLE, Int.reduceToNat, reduceCtorEq, sx, fx129, t0, t1, t7, t8, Int.lt_irrefl]
          rfl, by simp, hx, .inl ⟨rfl, hall⟩⟩
      · refine ⟨Nat.zero_le _, ?_, ?_, ?_, ?_, Ext.refl _, by simp⟩
        all_goals simp only [Tr.get_set, Nat.reduceEqDiff, reduceIte]
        all_goals rfl
    rcases hcase with ⟨rfl, hall⟩ | ⟨rfl, hT⟩
    · simp only [dx, reduceIte, Nat.reduceLT, Nat.reduceLeDiff, Nat.reduceEqDiff, Nat.reduceAdd, Nat.reduceMul, Nat.reduceSub, Nat.reduceBEq, Int.reduceEq, Int.reduceLT, Int.reduceLE, Int.reduceToNat, reduceCtorEq, sx, fx129]
      exact ⟨_, _, rfl, by simp only [Tr.get_set, Nat.reduceEqDiff, reduceIte, idxI_none hall], hx⟩
    · simp only [dx, reduceIte, Nat.reduceLT, Nat.reduceLeDiff, Nat.reduceEqDiff, Nat.reduceAdd, Nat.reduceMul, Nat.reduceSub, Nat.reduceBEq, Int.reduceEq, Int.reduceLT, Int.reduceLE, Int.reduceToNat, reduceCtorEq, sx, fx129]
      exact ⟨_, _, rfl, hT, hx⟩
  obtain ⟨T1, σ1, h1, h2, h3⟩ := run
  exact ⟨σ1, q_call (first := []) (caps := []) fn129 rfl (by simp [Tryz.f129]) h1 (by simp) (res_one h2), h3⟩

theorem part_v (vk : VK) (es : List AVal) (g : Nat) (caps : List AVal) (p : AVal → Bool) (hc : ∀ e, e ∈ es → ∃ vk es, e = .vs vk es) (hlen : es.length ≤ 100000) (hfn : caps = [] → lawProg.isVal 131 g = false) (hf : ∀ e, e ∈ es → ∀ σ', Ext σ σ' → ∃ σ'', callN lawProg k (.func g [] caps) [e] σ' = some (.bool (p e), σ'') ∧ Ext σ' σ'') (hk : es.length + 1 ≤ k) :
    ∃ σ', callN lawProg (k + 1) (.func 131 [] []) [.vs vk es, .func g [] caps] σ = some (.int .i64 (idxI p es), σ') ∧ Ext σ σ' := by
  have run : ∃ T1 σ1, execC lawProg (callN lawProg k) k 131 19 (bodyOf Tryz.f131) (initT 0 [.vs vk es, .func g [] caps] .nil) σ = some (.ret, T1, σ1) ∧ T1.get 4 = some (.int .i64 (idxI p es)) ∧ Ext σ σ1 := by
    simp only [bodyOf, Tryz.f131, Option.getD_some, initT, dx, reduceIte, Nat.reduceLT, Nat.reduceLeDiff, Nat.reduceEqDiff, Nat.reduceAdd, Nat.reduceMul, Nat.reduceSub, Nat.reduceBEq, Int.reduceEq, Int.reduceLT, Int.reduceLE, Int.reduceToNat, reduceCtorEq, sx, fx131]
    generalize hL : execC _ _ _ _ _ (Code.loop _) _ _ = q
    obtain ⟨e, T', σ', rfl, _, hx, hcase⟩ : ∃ e T' σ', q = some (e, T', σ') ∧ e ≠ .normal ∧ (Ext σ σ' ∧ ((e = .exit 0 ∧ ∀ x, x ∈ es → p x = false) ∨ (e = .ret ∧ T'.get 4 = some (.int .i64 (idxI p es))))) := by
      rw [← hL]
      refine exec_loop2 (fun i T σ' => i ≤ es.length ∧ T.get 0 = some (.vs vk es) ∧ T.get 1 = some (.func g [] caps) ∧ T.get 7 = some (.int .i64 es.length) ∧ T.get 8 = some (.int .i64 i) ∧ Ext σ σ' ∧ ∀ x, x ∈ es.take i → p x = false) es.length (by omega) ?_ ?_ ?_
      · rintro i hi T σ' ⟨_, t0, t1, t7, t8, hx, hall⟩
        have hlt : (i : Int) < es.length := by omega
        obtain ⟨vk', es', hci⟩ := hc _ (List.getElem_mem hi)
        have hgi : es[i]? = some (.vs vk' es') := by rw [List.getElem?_eq_getElem hi, hci]
        obtain ⟨σ'', hc1, hc2⟩ := hf _ (List.getElem_mem hi) σ' hx
        have hw := i64_succ (i := i) (by omega)
        cases hp : p es[i] with
        | false =>
          left
          rw [hp] at hc1
          rw [hci] at hc1
          cases caps with
          | cons c cs =>
            refine ⟨_, _, by
              simp only [dx, reduceIte, Nat.reduceLT, Nat.reduceLeDiff, Nat.reduceEqDiff, Nat.reduceAdd, Nat.reduceMul, Nat.reduceSub, Nat.reduceBEq, Int.reduceEq, Int.reduceLT, Int.reduceLE, Int.reduceToNat, reduceCtorEq, sx, fx131, t0, t1, t7, t8, hlt, Int.natCast_nonneg, Int.toNat_natCast, hgi, hc1, hw]
              rfl, hi, ?_, ?_, ?_, ?_, hx.trans hc2, take_all hi hall hp⟩
            all_goals simp only [Tr.get_set, Nat.reduceEqDiff, reduceIte, t0, t1, t7]
          | nil =>
            have hv := hfn rfl
            refine ⟨_, _, by
              simp only [dx, reduceIte, Nat.reduceLT, Nat.reduceLeDiff, Nat.reduceEqDiff, Nat.reduceAdd, Nat.reduceMul, Nat.reduceSub, Nat.reduceBEq, Int.reduceEq, Int.reduceLT, Int.reduceLE, Int.reduceToNat, reduceCtorEq, sx, fx131, t0, t1, t7, t8, hlt, Int.natCast_nonneg, Int.toNat_natCast, hgi, hv, hc1, hw]
              rfl, hi, ?_, ?_, ?_, ?_, hx.trans hc2, take_all hi hall hp⟩
            all_goals simp only [Tr.get_set, Nat.reduceEqDiff, reduceIte, t0, t1, t7]
        | true =>
          right
          rw [hp] at hc1
          rw [hci] at hc1
          have hidx := idxI_at hi hall hp
          cases caps with
          | cons c cs =>
            refine ⟨.ret, _, _, by
              simp only [dx, reduceIte, Nat.reduceLT, Nat.reduceLeDiff, Nat.reduceEqDiff, Nat.reduceAdd, Nat.reduceMul, Nat.reduceSub, Nat.reduceBEq, Int.reduceEq, Int.reduceLT, Int.reduceLE, Int.reduceToNat, reduceCtorEq, sx, fx131, t0, t1, t7, t8, hlt, Int.natCast_nonneg, Int.toNat_natCast, hgi, hc1, hw]
              rfl, by simp, hx.trans hc2, .inr ⟨rfl, ?_⟩⟩
            simp only [Tr.get_set, Nat.reduceEqDiff, reduceIte, hidx]
          | nil =>
            have hv := hfn rfl
            refine ⟨.ret, _, _, by
              simp only [dx, reduceIte, Nat.reduceLT, Nat.reduceLeDiff, Nat.reduceEqDiff, Nat.reduceAdd, Nat.reduceMul, Nat.reduceSub, Nat.reduceBEq, Int.reduceEq, Int.reduceLT, Int.reduceLE, Int.reduceToNat, reduceCtorEq, sx, fx131, t0, t1, t7, t8, hlt, Int.natCast_nonneg, Int.toNat_natCast, hgi, hv, hc1, hw]
              rfl, by simp, hx.trans hc2, .inr ⟨rfl, ?_⟩⟩
            simp only [Tr.get_set, Nat.reduceEqDiff, reduceIte, hidx]
      · rintro T σ' ⟨_, t0, t1, t7, t8, hx, hall⟩
        rw [List.take_length] at hall
        exact ⟨_, _, _, by
          simp only [dx, reduceIte, Nat.reduceLT, Nat.reduceLeDiff, Nat.reduceEqDiff, Nat.reduceAdd, Nat.reduceMul, Nat.reduceSub, Nat.reduceBEq, Int.reduceEq, Int.reduceLT, Int.reduceLE, Int.reduceToNat, reduceCtorEq, sx, fx131, t0, t1, t7, t8, Int.lt_irrefl]
          rfl, by simp, hx, .inl ⟨rfl, hall⟩⟩
      · refine ⟨Nat.zero_le _, ?_, ?_, ?_, ?_, Ext.refl _, by simp⟩
        all_goals simp only [Tr.get_set, Nat.reduceEqDiff, reduceIte]
        all_goals rfl
    rcases hcase with ⟨rfl, hall⟩ | ⟨rfl, hT⟩
    · simp only [dx, reduceIte, Nat.reduceLT, Nat.reduceLeDiff, Nat.reduceEqDiff, Nat.reduceAdd, Nat.reduceMul, Nat.reduceSub, Nat.reduceBEq, Int.reduceEq, Int.reduceLT, Int.reduceLE, Int.reduceToNat, reduceCtorEq, sx, fx131]
      exact ⟨_, _, rfl, by simp only [Tr.get_set, Nat.reduceEqDiff, reduceIte, idxI_none hall], hx⟩
    · simp only [dx, reduceIte, Nat.reduceLT, Nat.reduceLeDiff, Nat.reduceEqDiff, Nat.reduceAdd, Nat.reduceMul, Nat.reduceSub, Nat.reduceBEq, Int.reduceEq, Int.reduceLT, Int.reduceLE, Int.reduceToNat, reduceCtorEq, sx, fx131]
      exact ⟨_, _, rfl, hT, hx⟩
  obtain ⟨T1, σ1, h1, h2, h3⟩ := run
  exact ⟨σ1, q_call (first := []) (caps := []) fn131 rfl (by simp [Tryz.f131]) h1 (by simp) (res_one h2), h3⟩

theorem part_has_v (vk : VK) (es : List AVal) (g : Nat) (caps : List AVal) (p : AVal → Bool) (hc : ∀ e, e ∈ es → ∃ vk es, e = .vs vk es) (hlen : es.length ≤ 100000) (hfn : caps = [] → lawProg.isVal 131 g = false) (hf : ∀ e, e ∈ es → ∀ σ', Ext σ σ' → ∃ σ'', callN lawProg k (.func g [] caps) [e] σ' = some (.bool (p e), σ'') ∧ Ext σ' σ'') (hk : es.length + 1 ≤ k) :
    ∃ σ', callN lawProg (k + 2) (.func 73 [] []) [.vs vk es, .func g [] caps] σ = some (.bool (es.any p), σ') ∧ Ext σ σ' := by
  obtain ⟨σ', hc, hx⟩ := part_v vk es g caps p hc hlen hfn hf hk
  have e : ∃ T1, execC lawProg (callN lawProg (k + 1)) (k + 1) 73 9 (bodyOf Tryz.f73) (initT 0 [.vs vk es, .func g [] caps] .nil) σ = some (.ret, T1, σ') ∧ T1.get 4 = some (.bool (decide (idxI p es ≥ 0))) := by
    simp only [bodyOf, Tryz.f73, Option.getD_some, initT, dx, reduceIte, Nat.reduceLT, Nat.reduceLeDiff, Nat.reduceEqDiff, Nat.reduceAdd, Nat.reduceMul, Nat.reduceSub, Nat.reduceBEq, Int.reduceEq, Int.reduceLT, Int.reduceLE, Int.reduceToNat, reduceCtorEq, sx, fx73, hc]
    exact ⟨_, rfl, by simp only [Tr.get_set, Nat.reduceEqDiff, reduceIte]⟩
  obtain ⟨T1, e1, e2⟩ := e
  rw [idxI_any] at e2
  exact ⟨σ', q_call (first := []) (caps := []) fn73 rfl (by simp [Tryz.f73]) e1 (by simp) (res_one e2), hx⟩

theorem part_m {r off n : Nat} {cap : Option Nat} {cells : List AVal} (es : List AVal) (hn : n = es.length) (hr : σ.get r = some (.row 1 false cells)) (hrn : r < σ.next) (hcell : ∀ i (h : i < es.length), cells[off + i]? = some es[i]) (g : Nat) (caps : List AVal) (p : AVal → Bool) (hlen : es.length ≤ 100000) (hfn : caps = [] → lawProg.isVal 131 g = false) (hf : ∀ e, e ∈ es → ∀ σ', Ext σ σ' → ∃ σ'', callN lawProg k (.func g [] caps) [e] σ' = some (.bool (p e), σ'') ∧ Ext σ' σ'') (hk : es.length + 1 ≤ k) :
    ∃ σ', callN lawProg (k + 1) (.func 131 [] []) [.slice r off n cap 1, .func g [] caps] σ = some (.int .i64 (idxI p es), σ') ∧ Ext σ σ' := by
  subst hn
  have run : ∃ T1 σ1, execC lawProg (callN lawProg k) k 131 19 (bodyOf Tryz.f131) (initT 0 [.slice r off es.length cap 1, .func g [] caps] .nil) σ = some (.ret, T1, σ1) ∧ T1.get 4 = some (.int .i64 (idxI p es)) ∧ Ext σ σ1 := by
    simp only [bodyOf, Tryz.f131, Option.getD_some, initT, dx, reduceIte, Nat.reduceLT, Nat.reduceLeDiff, Nat.reduceEqDiff, Nat.reduceAdd, Nat.reduceMul, Nat.reduceSub, Nat.reduceBEq, Int.reduceEq, Int.reduceLT, Int.reduceLE, Int.reduceToNat, reduceCtorEq, sx, fx131]
    generalize hL : execC _ _ _ _ _ (Code.loop _) _ _ = q
    obtain ⟨e, T', σ', rfl, _, hx, hcase⟩ : ∃ e T' σ', q = some (e, T', σ') ∧ e ≠ .normal ∧ (Ext σ σ' ∧ ((e = .exit 0 ∧ ∀ x, x ∈ es → p x = false) ∨ (e = .ret ∧ T'.get 4 = some (.int .i64 (idxI p es))))) := by
      rw [← hL]
      refine exec_loop2 (fun i T σ' => i ≤ es.length ∧ T.get 0 = some (.slice r off es.length cap 1) ∧ T.get 1 = some (.func g [] caps) ∧ T.get 7 = some (.int .i64 es.length) ∧ T.get 8 = some (.int .i64 i) ∧ Ext σ σ' ∧ ∀ x, x ∈ es.take i → p x = false) es.length (by omega) ?_ ?_ ?_
      · rintro i hi T σ' ⟨_, t0, t1, t7, t8, hx, hall⟩
        have hlt : (i : Int) < es.length := by omega
        have hel := hcell i hi
        have hgr : σ'.get r = some (.row 1 false cells) := (hx.2 r hrn).trans hr
        obtain ⟨σ'', hc1, hc2⟩ := hf _ (List.getElem_mem hi) σ' hx
        have hw := i64_succ (i := i) (by omega)
        cases hp : p es[i] with
        | false =>
          left
          rw [hp] at hc1
          cases caps with
          | cons c cs =>
            refine ⟨_, _, by
              simp only [dx, reduceIte, Nat.reduceLT, Nat.reduceLeDiff, Nat.reduceEqDiff, Nat.reduceAdd, Nat.reduceMul, Nat.reduceSub, Nat.reduceBEq, Int.reduceEq, Int.reduceLT, Int.reduceLE, Int.reduceToNat, reduceCtorEq, sx, fx131, t0, t1, t7, t8, hlt, Int.natCast_nonneg, Int.toNat_natCast, hgr, hel, hc1, hw]
              rfl, hi, ?_, ?_, ?_, ?_, hx.trans hc2, take_all hi hall hp⟩
            all_goals simp only [Tr.get_set, Nat.reduceEqDiff, reduceIte, t0, t1, t7]
          | nil =>
            have hv := hfn rfl
            refine ⟨_, _, by
              simp only [dx, reduceIte, Nat.reduceLT, Nat.reduceLeDiff, Nat.reduceEqDiff, Nat.reduceAdd, Nat.reduceMul, Nat.reduceSub, Nat.reduceBEq, Int.reduceEq, Int.reduceLT, Int.reduceLE, Int.reduceToNat, reduceCtorEq, sx, fx131, t0, t1, t7, t8, hlt, Int.natCast_nonneg, Int.toNat_natCast, hgr, hel, hv, hc1, hw]
              rfl, hi, ?_, ?_, ?_, ?_, hx.trans hc2, take_all hi hall hp⟩
            all_goals simp only [Tr.get_set, Nat.reduceEqDiff, reduceIte, t0, t1, t7]
        | true =>
          right
          rw [hp] at hc1
          have hidx := idxI_at hi hall hp
          cases caps with
          | cons c cs =>
            refine ⟨.ret, _, _, by
              simp only [dx, reduceIte, Nat.reduceLT, Nat.reduceLeDiff, Nat.reduceEqDiff, Nat.reduceAdd, Nat.reduceMul, Nat.reduceSub, Nat.reduceBEq, Int.reduceEq, Int.reduceLT, Int.reduceLE, Int.reduceToNat, reduceCtorEq, sx, fx131, t0, t1, t7, t8, hlt, Int.natCast_nonneg, Int.toNat_natCast, hgr, hel, hc1, hw]
              rfl, by simp, hx.trans hc2, .inr ⟨rfl, ?_⟩⟩
            simp only [Tr.get_set, Nat.reduceEqDiff, reduceIte, hidx]
          | nil =>
            have hv := hfn rfl
            refine ⟨.ret, _, _, by
              simp only [dx, reduceIte, Nat.reduceLT, Nat.reduceLeDiff, Nat.reduceEqDiff, Nat.reduceAdd, Nat.reduceMul, Nat.reduceSub, Nat.reduceBEq, Int.reduceEq, Int.reduceLT, Int.reduceLE, Int.reduceToNat, reduceCtorEq, sx, fx131, t0, t1, t7, t8, hlt, Int.natCast_nonneg, Int.toNat_natCast, hgr, hel, hv, hc1, hw]
              rfl, by simp, hx.trans hc2, .inr ⟨rfl, ?_⟩⟩
            simp only [Tr.get_set, Nat.reduceEqDiff, reduceIte, hidx]
      · rintro T σ' ⟨_, t0, t1, t7, t8, hx, hall⟩
        rw [List.take_length] at hall
        exact ⟨_, _, _, by
          simp only [dx, reduceIte, Nat.reduceLT, Nat.reduceLeDiff, Nat.reduceEqDiff, Nat.reduceAdd, Nat.reduceMul, Nat.reduceSub, Nat.reduceBEq, Int.reduceEq, Int.reduceLT, Int.reduceLE, Int.reduceToNat, reduceCtorEq, sx, fx131, t0, t1, t7, t8, Int.lt_irrefl]
          rfl, by simp, hx, .inl ⟨rfl, hall⟩⟩
      · refine ⟨Nat.zero_le _, ?_, ?_, ?_, ?_, Ext.refl _, by simp⟩
        all_goals simp only [Tr.get_set, Nat.reduceEqDiff, reduceIte]
        all_goals rfl
    rcases hcase with ⟨rfl, hall⟩ | ⟨rfl, hT⟩
    · simp only [dx, reduceIte, Nat.reduceLT, Nat.reduceLeDiff, Nat.reduceEqDiff, Nat.reduceAdd, Nat.reduceMul, Nat.reduceSub, Nat.reduceBEq, Int.reduceEq, Int.reduceLT, Int.reduceLE, Int.reduceToNat, reduceCtorEq, sx, fx131]
      exact ⟨_, _, rfl, by simp only [Tr.get_set, Nat.reduceEqDiff, reduceIte, idxI_none hall], hx⟩
    · simp only [dx, reduceIte, Nat.reduceLT, Nat.reduceLeDiff, Nat.reduceEqDiff, Nat.reduceAdd, Nat.reduceMul, Nat.reduceSub, Nat.reduceBEq, Int.reduceEq, Int.reduceLT, Int.reduceLE, Int.reduceToNat, reduceCtorEq, sx, fx131]
      exact ⟨_, _, rfl, hT, hx⟩
  obtain ⟨T1, σ1, h1, h2, h3⟩ := run
  exact ⟨σ1, q_call (first := []) (caps := []) fn131 rfl (by simp [Tryz.f131]) h1 (by simp) (res_one h2), h3⟩

theorem part_has_m {r off n : Nat} {cap : Option Nat} {cells : List AVal} (es : List AVal) (hn : n = es.length) (hr : σ.get r = some (.row 1 false cells)) (hrn : r < σ.next) (hcell : ∀ i (h : i < es.length), cells[off + i]? = some es[i]) (g : Nat) (caps : List AVal) (p : AVal → Bool) (hlen : es.length ≤ 100000) (hfn : caps = [] → lawProg.isVal 131 g = false) (hf : ∀ e, e ∈ es → ∀ σ', Ext σ σ' → ∃ σ'', callN lawProg k (.func g [] caps) [e] σ' = some (.bool (p e), σ'') ∧ Ext σ' σ'') (hk : es.length + 1 ≤ k) :
    ∃ σ', callN lawProg (k + 2) (.func 73 [] []) [.slice r off n cap 1, .func g [] caps] σ = some (.bool (es.any p), σ') ∧ Ext σ σ' := by
  obtain ⟨σ', hc, hx⟩ := part_m (cap := cap) es hn hr hrn hcell g caps p hlen hfn hf hk
  have e : ∃ T1, execC lawProg (callN lawProg (k + 1)) (k + 1) 73 9 (bodyOf Tryz.f73) (initT 0 [.slice r off n cap 1, .func g [] caps] .nil) σ = some (.ret, T1, σ') ∧ T1.get 4 = some (.bool (decide (idxI p es ≥ 0))) := by
    simp only [bodyOf, Tryz.f73, Option.getD_some, initT, dx, reduceIte, Nat.reduceLT, Nat.reduceLeDiff, Nat.reduceEqDiff, Nat.reduceAdd, Nat.reduceMul, Nat.reduceSub, Nat.reduceBEq, Int.reduceEq, Int.reduceLT, Int.reduceLE, Int.reduceToNat, reduceCtorEq, sx, fx73, hc]
    exact ⟨_, rfl, by simp only [Tr.get_set, Nat.reduceEqDiff, reduceIte]⟩
  obtain ⟨T1, e1, e2⟩ := e
  rw [idxI_any] at e2
  exact ⟨σ', q_call (first := []) (caps := []) fn73 rfl (by simp [Tryz.f73]) e1 (by simp) (res_one e2), hx⟩

end Go.Proofs.YtjckhhkhgjbpaaaGreatDoor

/- Sheaves and sorters: which are right, by the program. -/
set_option maxRecDepth 100000
set_option linter.unusedSimpArgs false
set_option linter.unusedVariables false
namespace Go.Proofs.YtjckhhkhgjbpaaaGreatDoor
open Go Go.Proofs.YtjckhhkhgjbpaaaGreatDoor.Pale
variable {k : Nat} {σ : AMem}

abbrev Part := VK × List Nat
def partV (p : Part) : AVal := .vs p.1 (bytesV p.2)
structure Sh where
  name : Int
  dk : VK
  data : List Part
def shC (s : Sh) : List AVal := [.int .i64 s.name, .vs s.dk (s.data.map partV)]
def shV (s : Sh) : AVal := .agg (shC s)
def nameOf : AVal → Int
  | .agg (.int _ n :: _) => n
  | _ => 0
def emptyP : AVal → Bool
  | .vs _ es => ((es.length : Nat) : Int) == 0
  | _ => false
def fullP (v : AVal) : Bool := !emptyP v
def greatP : AVal → Bool
  | .vs _ es => decide (((es.length : Nat) : Int) > 100)
  | _ => false
theorem emptyP_part (p : Part) : emptyP (partV p) = decide (p.2.length = 0) := by
  simp only [emptyP, partV, bytesV_length]
  rw [Bool.eq_iff_iff]; simp
theorem greatP_part (p : Part) : greatP (partV p) = decide (p.2.length > 100) := by
  simp only [greatP, partV, bytesV_length, decide_eq_decide]
  omega
theorem shs_cells (l : List Sh) : ∀ e, e ∈ l.map shV → e.cells.length = 2 := by
  intro e he
  obtain ⟨p, _, rfl⟩ := List.mem_map.1 he
  rfl
theorem shs_form (l : List Sh) : ∀ e, e ∈ l.map shV → ∃ cs, e = .agg cs ∧ cs.length = 2 := by
  intro e he
  obtain ⟨p, _, rfl⟩ := List.mem_map.1 he
  exact ⟨_, rfl, rfl⟩
theorem parts_form (l : List Part) : ∀ e, e ∈ l.map partV → ∃ vk es, e = .vs vk es := by
  intro e he
  obtain ⟨p, _, rfl⟩ := List.mem_map.1 he
  exact ⟨_, _, rfl⟩

theorem isEmpty_callN (vk : VK) (es : List AVal) (hk : 1 ≤ k) : callN lawProg k (.func 71 [] []) [.vs vk es] σ = some (.bool (emptyP (.vs vk es)), σ) := by
  obtain ⟨k, rfl⟩ : ∃ m, k = m + 1 := ⟨k - 1, by omega⟩
  have e : ∃ T1, execC lawProg (callN lawProg k) k 71 6 (bodyOf Tryz.f71) (initT 0 [.vs vk es] .nil) σ = some (.ret, T1, σ) ∧ T1.get 2 = some (.bool (emptyP (.vs vk es))) := by
    simp only [bodyOf, Tryz.f71, Option.getD_some, initT, dx, reduceIte, Nat.reduceLT, Nat.reduceLeDiff, Nat.reduceEqDiff, Nat.reduceAdd, Nat.reduceMul, Nat.reduceSub, Nat.reduceBEq, Int.reduceEq, Int.reduceLT, Int.reduceLE, Int.reduceToNat, reduceCtorEq, sx, fx71]
    exact ⟨_, rfl, by simp only [Tr.get_set, Nat.reduceEqDiff, reduceIte, emptyP]⟩
  obtain ⟨T1, e1, e2⟩ := e
  exact q_call (first := []) (caps := []) fn71 rfl (by simp [Tryz.f71]) e1 (by simp) (res_one e2)
theorem isFull_callN (vk : VK) (es : List AVal) (hk : 2 ≤ k) : callN lawProg k (.func 84 [] []) [.vs vk es] σ = some (.bool (fullP (.vs vk es)), σ) := by
  obtain ⟨k, rfl⟩ : ∃ m, k = m + 1 := ⟨k - 1, by omega⟩
  have hc := fun (σ : AMem) => isEmpty_callN (k := k) (σ := σ) vk es (by omega)
  have e : ∃ T1, execC lawProg (callN lawProg k) k 84 6 (bodyOf Tryz.f84) (initT 0 [.vs vk es] .nil) σ = some (.ret, T1, σ) ∧ T1.get 2 = some (.bool (fullP (.vs vk es))) := by
    simp only [bodyOf, Tryz.f84, Option.getD_some, initT, dx, reduceIte, Nat.reduceLT, Nat.reduceLeDiff, Nat.reduceEqDiff, Nat.reduceAdd, Nat.reduceMul, Nat.reduceSub, Nat.reduceBEq, Int.reduceEq, Int.reduceLT, Int.reduceLE, Int.reduceToNat, reduceCtorEq, sx, fx84, hc]
    exact ⟨_, rfl, by simp only [Tr.get_set, Nat.reduceEqDiff, reduceIte, fullP]⟩
  obtain ⟨T1, e1, e2⟩ := e
  exact q_call (first := []) (caps := []) fn84 rfl (by simp [Tryz.f84]) e1 (by simp) (res_one e2)
theorem isGreat_callN (vk : VK) (es : List AVal) (hk : 1 ≤ k) : callN lawProg k (.func 85 [] []) [.vs vk es] σ = some (.bool (greatP (.vs vk es)), σ) := by
  obtain ⟨k, rfl⟩ : ∃ m, k = m + 1 := ⟨k - 1, by omega⟩
  have e : ∃ T1, execC lawProg (callN lawProg k) k 85 6 (bodyOf Tryz.f85) (initT 0 [.vs vk es] .nil) σ = some (.ret, T1, σ) ∧ T1.get 2 = some (.bool (greatP (.vs vk es))) := by
    simp only [bodyOf, Tryz.f85, Option.getD_some, initT, dx, reduceIte, Nat.reduceLT, Nat.reduceLeDiff, Nat.reduceEqDiff, Nat.reduceAdd, Nat.reduceMul, Nat.reduceSub, Nat.reduceBEq, Int.reduceEq, Int.reduceLT, Int.reduceLE, Int.reduceToNat, reduceCtorEq, sx, fx85]
    exact ⟨_, rfl, by simp only [Tr.get_set, Nat.reduceEqDiff, reduceIte, greatP]⟩
  obtain ⟨T1, e1, e2⟩ := e
  exact q_call (first := []) (caps := []) fn85 rfl (by simp [Tryz.f85]) e1 (by simp) (res_one e2)

theorem nv1 : lawProg.isVal 131 71 = false := by kernel_rfl
theorem nv2 : lawProg.isVal 131 84 = false := by kernel_rfl
theorem nv3 : lawProg.isVal 131 85 = false := by kernel_rfl
theorem nv4 : lawProg.isVal 87 83 = false := by kernel_rfl
theorem hasPart (g : Nat) (p : AVal → Bool) (hg : lawProg.isVal 131 g = false) (hp : ∀ (j : Nat) (σ : AMem) vk es, 2 ≤ j → callN lawProg j (.func g [] []) [.vs vk es] σ = some (.bool (p (.vs vk es)), σ)) (vk : VK) (l : List Part) (hl : l.length ≤ 100000) (hk : l.length + 5 ≤ k) :
    ∃ σ', callN lawProg k (.func 73 [] []) [.vs vk (l.map partV), .func g [] []] σ = some (.bool ((l.map partV).any p), σ') ∧ Ext σ σ' := by
  obtain ⟨k, rfl⟩ : ∃ m, k = m + 2 := ⟨k - 2, by omega⟩
  refine part_has_v vk (l.map partV) g [] p (parts_form l) (by simpa using hl) (fun _ => hg) (fun e he σ' hx => ?_) (by simp; omega)
  · obtain ⟨vk', es, rfl⟩ := parts_form l e he
    exact ⟨σ', hp k σ' vk' es (by omega), Ext.refl _⟩

def sheafB (s : Sh) : Bool := (decide (0 ≤ s.name ∧ s.name ≤ 65535) && (decide (((s.data.length : Nat) : Int) ≤ 200) && ((s.data.map partV).any emptyP && (s.data.map partV).any fullP))) && !(s.data.map partV).any greatP

theorem sheaf_callN (i : Int) (s : Sh) (hl : s.data.length ≤ 100000) (hk : s.data.length + 10 ≤ k) : ∃ σ', callN lawProg k (.func 83 [] []) [.int .i64 i, .agg [.int .i64 s.name, .vs s.dk (s.data.map partV)]] σ = some (.bool (sheafB s), σ') ∧ Ext σ σ' := by
  obtain ⟨k, rfl⟩ : ∃ m, k = m + 1 := ⟨k - 1, by omega⟩
  obtain ⟨σ1, c1, x1⟩ := hasPart (k := k) (σ := σ.push (.row 2 true [.int .i64 s.name, .vs s.dk (s.data.map partV)])) _ emptyP nv1 (fun j σ vk es h => isEmpty_callN vk es (by omega)) s.dk s.data hl (by omega)
  obtain ⟨σ2, c2, x2⟩ := hasPart (k := k) (σ := σ1) _ fullP nv2 (fun j σ vk es h => isFull_callN vk es (by omega)) s.dk s.data hl (by omega)
  obtain ⟨σ3, c3, x3⟩ := hasPart (k := k) (σ := σ1) _ greatP nv3 (fun j σ vk es h => isGreat_callN vk es (by omega)) s.dk s.data hl (by omega)
  obtain ⟨σ4, c4, x4⟩ := hasPart (k := k) (σ := σ2) _ greatP nv3 (fun j σ vk es h => isGreat_callN vk es (by omega)) s.dk s.data hl (by omega)
  have hin := fun (σ : AMem) (x y z : Int) => within_call (k := k) (σ := σ) x y z (by omega)
  have g1 : σ1.get σ.next = some (.row 2 true [.int .i64 s.name, .vs s.dk (s.data.map partV)]) := by rw [x1.2 _ (by simp), AMem.get_push, if_pos rfl]
  have hn1 : σ.next < σ1.next := by have := x1.1; simp at this; omega
  have g2 : σ2.get σ.next = some (.row 2 true [.int .i64 s.name, .vs s.dk (s.data.map partV)]) := by rw [x2.2 _ hn1]; exact g1
  have ex1 : Ext σ σ1 := (Ext.push _ _).trans x1
  unfold sheafB
  generalize (s.data.map partV).any emptyP = C at *
  generalize (s.data.map partV).any fullP = D at *
  generalize (s.data.map partV).any greatP = E at *
  have run : ∃ T1 σ', execC lawProg (callN lawProg k) k 83 36 (bodyOf Tryz.f83) (initT 0 [.int .i64 i, .agg [.int .i64 s.name, .vs s.dk (s.data.map partV)]] .nil) σ = some (.ret, T1, σ') ∧ T1.get 4 = some (.bool ((decide (0 ≤ s.name ∧ s.name ≤ 65535) && (decide (((s.data.length : Nat) : Int) ≤ 200) && (C && D))) && !E)) ∧ Ext σ σ' := by
    by_cases hA : 0 ≤ s.name ∧ s.name ≤ 65535
    · by_cases hB : ((s.data.length : Nat) : Int) ≤ 200
      · cases C with
        | false =>
          simp only [bodyOf, Tryz.f83, Option.getD_some, initT, dx, reduceIte, Nat.reduceLT, Nat.reduceLeDiff, Nat.reduceEqDiff, Nat.reduceAdd, Nat.reduceMul, Nat.reduceSub, Nat.reduceBEq, Int.reduceEq, Int.reduceLT, Int.reduceLE, Int.reduceToNat, reduceCtorEq, sx, fx83, List.length_map, c1, c2, c3, c4, hin, g1, g2, hA, hB]
          exact ⟨_, _, rfl, by simp only [Tr.get_set, Nat.reduceEqDiff, reduceIte], ex1⟩
        | true =>
          cases D with
          | false =>
            simp only [bodyOf, Tryz.f83, Option.getD_some, initT, dx, reduceIte, Nat.reduceLT, Nat.reduceLeDiff, Nat.reduceEqDiff, Nat.reduceAdd, Nat.reduceMul, Nat.reduceSub, Nat.reduceBEq, Int.reduceEq, Int.reduceLT, Int.reduceLE, Int.reduceToNat, reduceCtorEq, sx, fx83, List.length_map, c1, c2, c3, c4, hin, g1, g2, hA, hB]
            exact ⟨_, _, rfl, by simp only [Tr.get_set, Nat.reduceEqDiff, reduceIte], ex1.trans x2⟩
          | true =>
            cases E with
            | false =>
              simp only [bodyOf, Tryz.f83, Option.getD_some, initT, dx, reduceIte, Nat.reduceLT, Nat.reduceLeDiff, Nat.reduceEqDiff, Nat.reduceAdd, Nat.reduceMul, Nat.reduceSub, Nat.reduceBEq, Int.reduceEq, Int.reduceLT, Int.reduceLE, Int.reduceToNat, reduceCtorEq, sx, fx83, List.length_map, c1, c2, c3, c4, hin, g1, g2, hA, hB]
              exact ⟨_, _, rfl, by simp only [Tr.get_set, Nat.reduceEqDiff, reduceIte], (ex1.trans x2).trans x4⟩
            | true =>
              simp only [bodyOf, Tryz.f83, Option.getD_some, initT, dx, reduceIte, Nat.reduceLT, Nat.reduceLeDiff, Nat.reduceEqDiff, Nat.reduceAdd, Nat.reduceMul, Nat.reduceSub, Nat.reduceBEq, Int.reduceEq, Int.reduceLT, Int.reduceLE, Int.reduceToNat, reduceCtorEq, sx, fx83, List.length_map, c1, c2, c3, c4, hin, g1, g2, hA, hB]
              exact ⟨_, _, rfl, by simp only [Tr.get_set, Nat.reduceEqDiff, reduceIte], (ex1.trans x2).trans x4⟩
      · cases C
        · simp only [bodyOf, Tryz.f83, Option.getD_some, initT, dx, reduceIte, Nat.reduceLT, Nat.reduceLeDiff, Nat.reduceEqDiff, Nat.reduceAdd, Nat.reduceMul, Nat.reduceSub, Nat.reduceBEq, Int.reduceEq, Int.reduceLT, Int.reduceLE, Int.reduceToNat, reduceCtorEq, sx, fx83, List.length_map, c1, c2, c3, c4, hin, g1, g2, hA, hB]
          exact ⟨_, _, rfl, by simp only [Tr.get_set, Nat.reduceEqDiff, reduceIte], ex1⟩
        · simp only [bodyOf, Tryz.f83, Option.getD_some, initT, dx, reduceIte, Nat.reduceLT, Nat.reduceLeDiff, Nat.reduceEqDiff, Nat.reduceAdd, Nat.reduceMul, Nat.reduceSub, Nat.reduceBEq, Int.reduceEq, Int.reduceLT, Int.reduceLE, Int.reduceToNat, reduceCtorEq, sx, fx83, List.length_map, c1, c2, c3, c4, hin, g1, g2, hA, hB]
          exact ⟨_, _, rfl, by simp only [Tr.get_set, Nat.reduceEqDiff, reduceIte], ex1.trans x2⟩
    · cases C
      · simp only [bodyOf, Tryz.f83, Option.getD_some, initT, dx, reduceIte, Nat.reduceLT, Nat.reduceLeDiff, Nat.reduceEqDiff, Nat.reduceAdd, Nat.reduceMul, Nat.reduceSub, Nat.reduceBEq, Int.reduceEq, Int.reduceLT, Int.reduceLE, Int.reduceToNat, reduceCtorEq, sx, fx83, List.length_map, c1, c2, c3, c4, hin, g1, g2, hA]
        exact ⟨_, _, rfl, by simp only [Tr.get_set, Nat.reduceEqDiff, reduceIte], ex1⟩
      · simp only [bodyOf, Tryz.f83, Option.getD_some, initT, dx, reduceIte, Nat.reduceLT, Nat.reduceLeDiff, Nat.reduceEqDiff, Nat.reduceAdd, Nat.reduceMul, Nat.reduceSub, Nat.reduceBEq, Int.reduceEq, Int.reduceLT, Int.reduceLE, Int.reduceToNat, reduceCtorEq, sx, fx83, List.length_map, c1, c2, c3, c4, hin, g1, g2, hA]
        exact ⟨_, _, rfl, by simp only [Tr.get_set, Nat.reduceEqDiff, reduceIte], ex1.trans x2⟩
  obtain ⟨T1, σ', h1, h2, h3⟩ := run
  exact ⟨σ', q_call (first := []) (caps := []) fn83 rfl (by simp [Tryz.f83]) h1 (by simp) (res_one h2), h3⟩

/-! ### names that are there once -/
def sameName (n : Int) (v : AVal) : Bool := nameOf v == n
theorem nameIs_callN {r : Nat} {b : AVal} (n : Int) (s : Sh) (hg : σ.get r = some (.row 2 true [.int .i64 n, b])) (hr : r < σ.next) (hk : 1 ≤ k) : callN lawProg k (.func 82 [] [.ptr r 0]) [.agg [.int .i64 s.name, .vs s.dk (s.data.map partV)]] σ = some (.bool (s.name == n), σ.push (.row 2 true [.int .i64 s.name, .vs s.dk (s.data.map partV)])) := by
  obtain ⟨k, rfl⟩ : ∃ m, k = m + 1 := ⟨k - 1, by omega⟩
  have hq : ¬ σ.next = r := by omega
  have e : ∃ T1, execC lawProg (callN lawProg k) k 82 9 (bodyOf Tryz.f82) (initT 0 [.agg [.int .i64 s.name, .vs s.dk (s.data.map partV)], .ptr r 0] .nil) σ = some (.ret, T1, σ.push (.row 2 true [.int .i64 s.name, .vs s.dk (s.data.map partV)])) ∧ T1.get 3 = some (.bool (s.name == n)) := by
    simp only [bodyOf, Tryz.f82, Option.getD_some, initT, dx, reduceIte, Nat.reduceLT, Nat.reduceLeDiff, Nat.reduceEqDiff, Nat.reduceAdd, Nat.reduceMul, Nat.reduceSub, Nat.reduceBEq, Int.reduceEq, Int.reduceLT, Int.reduceLE, Int.reduceToNat, reduceCtorEq, sx, fx82, hq, hg]
    exact ⟨_, rfl, by simp only [Tr.get_set, Nat.reduceEqDiff, reduceIte]⟩
  obtain ⟨T1, e1, e2⟩ := e
  exact q_call (first := []) (caps := [.ptr r 0]) fn82 rfl (by simp [Tryz.f82]) e1 (by simp) (res_one e2)
theorem shs_all (l : List Sh) : (l.map shV).all (fun c => c.cells.length == 2) = true := by
  rw [List.all_eq_true]
  intro e he
  rw [shs_cells l e he]; rfl

theorem fresh_callN {r : Nat} {lk : VK} (shs : List Sh) (i : Nat) (s : Sh) (hi : i ≤ shs.length) (hg : σ.get r = some (.row 1 true [.vs lk (shs.map shV)])) (hr : r < σ.next) (hl : shs.length ≤ 1000) (hk : 2000 ≤ k) : ∃ σ', callN lawProg k (.func 80 [] [.ptr r 0]) [.int .i64 (i : Nat), .agg [.int .i64 s.name, .vs s.dk (s.data.map partV)]] σ = some (.bool (!((shs.take i).any fun o => o.name == s.name)), σ') ∧ Ext σ σ' := by
  obtain ⟨k, rfl⟩ : ∃ m, k = m + 3 := ⟨k - 3, by omega⟩
  have hq : ¬ σ.next = r := by omega
  have hii : ((i : Nat) : Int) ≤ ((shs.length : Nat) : Int) := by omega
  have hlk : (if lk = VK.nil then VK.nil else lk) = lk := by cases lk <;> rfl
  have hall := shs_all shs
  have hany : ((shs.map shV).take i).any (sameName s.name) = (shs.take i).any fun o => o.name == s.name := by
    rw [← List.map_take, List.any_map]; rfl
  obtain ⟨σ', c1, x1⟩ := sheaf_has_v (k := k) (σ := σ.push (.row 2 true [.int .i64 s.name, .vs s.dk (s.data.map partV)])) lk ((shs.map shV).take i) 82 [.ptr σ.next 0] (sameName s.name) (fun e he => shs_form shs e (List.mem_of_mem_take he)) (by simp; omega) (fun h => by cases h) (fun e he σ' hx => by
    obtain ⟨o, _, rfl⟩ := List.mem_map.1 (List.mem_of_mem_take he)
    refine ⟨_, nameIs_callN (k := k) s.name o ((hx.2 _ (by simp)).trans (by rw [AMem.get_push, if_pos rfl])) (by have := hx.1; simp at this; omega) (by omega), Ext.push _ _⟩) (by simp; omega)
  rw [hany] at c1
  have e : ∃ T1, execC lawProg (callN lawProg (k + 2)) (k + 2) 80 13 (bodyOf Tryz.f80) (initT 0 [.int .i64 (i : Nat), .agg [.int .i64 s.name, .vs s.dk (s.data.map partV)], .ptr r 0] .nil) σ = some (.ret, T1, σ') ∧ T1.get 5 = some (.bool (!((shs.take i).any fun o => o.name == s.name))) := by
    simp only [bodyOf, Tryz.f80, Option.getD_some, initT, dx, reduceIte, Nat.reduceLT, Nat.reduceLeDiff, Nat.reduceEqDiff, Nat.reduceAdd, Nat.reduceMul, Nat.reduceSub, Nat.reduceBEq, Int.reduceEq, Int.reduceLT, Int.reduceLE, Int.reduceToNat, reduceCtorEq, sx, fx80, hq, hg, hall, Int.natCast_nonneg, Int.toNat_natCast, List.length_map, hii, hlk, c1]
    exact ⟨_, rfl, by simp only [Tr.get_set, Nat.reduceEqDiff, reduceIte]⟩
  obtain ⟨T1, e1, e2⟩ := e
  exact ⟨σ', q_call (first := []) (caps := [.ptr r 0]) fn80 rfl (by simp [Tryz.f80]) e1 (by simp) (res_one e2), (Ext.push _ _).trans x1⟩

/-! ### every one -/
theorem every_callN (vk : VK) (shs : List Sh) (g : Nat) (caps : List AVal) (p : Nat → Sh → Bool) (hlen : shs.length ≤ 1000) (hfn : caps = [] → lawProg.isVal 87 g = false) (hf : ∀ i (hi : i < shs.length) σ', Ext σ σ' → ∃ σ'', callN lawProg k (.func g [] caps) [.int .i64 (i : Nat), .agg [.int .i64 shs[i].name, .vs shs[i].dk (shs[i].data.map partV)]] σ' = some (.bool (p i shs[i]), σ'') ∧ Ext σ' σ'') (hk : shs.length + 1 ≤ k) :
    ∃ σ' b, callN lawProg (k + 1) (.func 87 [] []) [.vs vk (shs.map shV), .func g [] caps] σ = some (.bool b, σ') ∧ Ext σ σ' ∧ (b = true ↔ ∀ i (hi : i < shs.length), p i shs[i] = true) := by
  have run : ∃ T1 σ1 b, execC lawProg (callN lawProg k) k 87 20 (bodyOf Tryz.f87) (initT 0 [.vs vk (shs.map shV), .func g [] caps] .nil) σ = some (.ret, T1, σ1) ∧ T1.get 4 = some (.bool b) ∧ Ext σ σ1 ∧ (b = true ↔ ∀ i (hi : i < shs.length), p i shs[i] = true) := by
    simp only [bodyOf, Tryz.f87, Option.getD_some, initT, dx, reduceIte, Nat.reduceLT, Nat.reduceLeDiff, Nat.reduceEqDiff, Nat.reduceAdd, Nat.reduceMul, Nat.reduceSub, Nat.reduceBEq, Int.reduceEq, Int.reduceLT, Int.reduceLE, Int.reduceToNat, reduceCtorEq, sx, fx87, List.length_map]
    generalize hL : execC _ _ _ _ _ (Code.loop _) _ _ = q
    obtain ⟨e, T', σ', rfl, _, hx, hcase⟩ : ∃ e T' σ', q = some (e, T', σ') ∧ e ≠ .normal ∧ (Ext σ σ' ∧ ((e = .exit 0 ∧ ∀ i (hi : i < shs.length), p i shs[i] = true) ∨ (e = .ret ∧ T'.get 4 = some (.bool false) ∧ ∃ i, ∃ hi : i < shs.length, p i shs[i] = false))) := by
      rw [← hL]
      refine exec_loop2 (fun i T σ' => i ≤ shs.length ∧ T.get 1 = some (.func g [] caps) ∧ T.get 7 = some (.vs vk (shs.map shV)) ∧ T.get 8 = some (.int .i64 shs.length) ∧ T.get 9 = some (.int .i64 i) ∧ Ext σ σ' ∧ ∀ j (hj : j < shs.length), j < i → p j shs[j] = true) shs.length (by omega) ?_ ?_ ?_
      · rintro i hi T σ' ⟨_, t1, t7, t8, t9, hx, hall⟩
        have hlt : (i : Int) < shs.length := by omega
        have hget : (shs.map shV)[i]? = some (.agg [.int .i64 shs[i].name, .vs shs[i].dk (shs[i].data.map partV)]) := by rw [List.getElem?_map, List.getElem?_eq_getElem hi]; rfl
        have hx2 : Ext σ' ((σ'.push (.row 2 true [.int .i64 0, .vs .nil []])).put σ'.next (.row 2 true [.int .i64 shs[i].name, .vs shs[i].dk (shs[i].data.map partV)])) := (Ext.push _ _).put _ _ (Nat.le_refl _)
        obtain ⟨σ'', hc1, hc2⟩ := hf i hi _ (hx.trans hx2)
        have hw := i64_succ (i := i) (by omega)
        cases hp : p i shs[i] with
        | true =>
          left
          rw [hp] at hc1
          cases caps with
          | cons c cs =>
            refine ⟨_, _, by
              simp only [dx, reduceIte, Nat.reduceLT, Nat.reduceLeDiff, Nat.reduceEqDiff, Nat.reduceAdd, Nat.reduceMul, Nat.reduceSub, Nat.reduceBEq, Int.reduceEq, Int.reduceLT, Int.reduceLE, Int.reduceToNat, reduceCtorEq, sx, fx87, t1, t7, t8, t9, hlt, Int.natCast_nonneg, Int.toNat_natCast, hget, hc1, hw]
              rfl, hi, ?_, ?_, ?_, ?_, (hx.trans hx2).trans hc2, fun j hj hji => ?_⟩
            · simp only [Tr.get_set, Nat.reduceEqDiff, reduceIte, t1]
            · simp only [Tr.get_set, Nat.reduceEqDiff, reduceIte, t7]
            · simp only [Tr.get_set, Nat.reduceEqDiff, reduceIte, t8]
            · simp only [Tr.get_set, Nat.reduceEqDiff, reduceIte]
            · rcases Nat.lt_succ_iff_lt_or_eq.1 hji with h | rfl
              · exact hall j hj h
              · exact hp
          | nil =>
            have hv := hfn rfl
            refine ⟨_, _, by
              simp only [dx, reduceIte, Nat.reduceLT, Nat.reduceLeDiff, Nat.reduceEqDiff, Nat.reduceAdd, Nat.reduceMul, Nat.reduceSub, Nat.reduceBEq, Int.reduceEq, Int.reduceLT, Int.reduceLE, Int.reduceToNat, reduceCtorEq, sx, fx87, t1, t7, t8, t9, hlt, Int.natCast_nonneg, Int.toNat_natCast, hget, hv, hc1, hw]
              rfl, hi, ?_, ?_, ?_, ?_, (hx.trans hx2).trans hc2, fun j hj hji => ?_⟩
            · simp only [Tr.get_set, Nat.reduceEqDiff, reduceIte, t1]
            · simp only [Tr.get_set, Nat.reduceEqDiff, reduceIte, t7]
            · simp only [Tr.get_set, Nat.reduceEqDiff, reduceIte, t8]
            · simp only [Tr.get_set, Nat.reduceEqDiff, reduceIte]
            · rcases Nat.lt_succ_iff_lt_or_eq.1 hji with h | rfl
              · exact hall j hj h
              · exact hp
        | false =>
          right
          rw [hp] at hc1
          cases caps with
          | cons c cs =>
            refine ⟨.ret, _, _, by
              simp only [dx, reduceIte, Nat.reduceLT, Nat.reduceLeDiff, Nat.reduceEqDiff, Nat.reduceAdd, Nat.reduceMul, Nat.reduceSub, Nat.reduceBEq, Int.reduceEq, Int.reduceLT, Int.reduceLE, Int.reduceToNat, reduceCtorEq, sx, fx87, t1, t7, t8, t9, hlt, Int.natCast_nonneg, Int.toNat_natCast, hget, hc1, hw]
              rfl, by simp, (hx.trans hx2).trans hc2, .inr ⟨rfl, ?_, i, hi, hp⟩⟩
            simp only [Tr.get_set, Nat.reduceEqDiff, reduceIte]
          | nil =>
            have hv := hfn rfl
            refine ⟨.ret, _, _, by
              simp only [dx, reduceIte, Nat.reduceLT, Nat.reduceLeDiff, Nat.reduceEqDiff, Nat.reduceAdd, Nat.reduceMul, Nat.reduceSub, Nat.reduceBEq, Int.reduceEq, Int.reduceLT, Int.reduceLE, Int.reduceToNat, reduceCtorEq, sx, fx87, t1, t7, t8, t9, hlt, Int.natCast_nonneg, Int.toNat_natCast, hget, hv, hc1, hw]
              rfl, by simp, (hx.trans hx2).trans hc2, .inr ⟨rfl, ?_, i, hi, hp⟩⟩
            simp only [Tr.get_set, Nat.reduceEqDiff, reduceIte]
      · rintro T σ' ⟨_, t1, t7, t8, t9, hx, hall⟩
        exact ⟨_, _, _, by
          simp only [dx, reduceIte, Nat.reduceLT, Nat.reduceLeDiff, Nat.reduceEqDiff, Nat.reduceAdd, Nat.reduceMul, Nat.reduceSub, Nat.reduceBEq, Int.reduceEq, Int.reduceLT, Int.reduceLE, Int.reduceToNat, reduceCtorEq, sx, fx87, t1, t7, t8, t9, Int.lt_irrefl]
          rfl, by simp, hx, .inl ⟨rfl, fun i hi => hall i hi hi⟩⟩
      · refine ⟨Nat.zero_le _, ?_, ?_, ?_, ?_, Ext.refl _, by simp⟩
        all_goals simp only [Tr.get_set, Nat.reduceEqDiff, reduceIte]
        all_goals rfl
    rcases hcase with ⟨rfl, hall⟩ | ⟨rfl, hT, i, hi, hp⟩
    · simp only [dx, reduceIte, Nat.reduceLT, Nat.reduceLeDiff, Nat.reduceEqDiff, Nat.reduceAdd, Nat.reduceMul, Nat.reduceSub, Nat.reduceBEq, Int.reduceEq, Int.reduceLT, Int.reduceLE, Int.reduceToNat, reduceCtorEq, sx, fx87]
      exact ⟨_, _, true, rfl, by simp only [Tr.get_set, Nat.reduceEqDiff, reduceIte], hx, by simpa using hall⟩
    · simp only [dx, reduceIte, Nat.reduceLT, Nat.reduceLeDiff, Nat.reduceEqDiff, Nat.reduceAdd, Nat.reduceMul, Nat.reduceSub, Nat.reduceBEq, Int.reduceEq, Int.reduceLT, Int.reduceLE, Int.reduceToNat, reduceCtorEq, sx, fx87]
      exact ⟨_, _, false, rfl, hT, hx, by simp only [Bool.false_eq_true, false_iff]; exact fun h => by rw [h i hi] at hp; cases hp⟩
  obtain ⟨T1, σ1, b, h1, h2, h3, h4⟩ := run
  exact ⟨σ1, b, q_call (first := []) (caps := []) fn87 rfl (by simp [Tryz.f87]) h1 (by simp) (res_one h2), h3, h4⟩

def SorterOk (shs : List Sh) : Prop := shs.length ≤ 4 ∧ (∀ i (hi : i < shs.length), ((shs.take i).any fun o => o.name == shs[i].name) = false) ∧ ∀ s, s ∈ shs → sheafB s = true
theorem checkSorter_call (lk : VK) (shs : List Sh) (hn : shs.length ≤ 1000) (hd : ∀ s, s ∈ shs → s.data.length ≤ 1000) (hk : 4000 ≤ k) : ∃ E : Int, (∀ σ, pureCall lawProg (callN lawProg k) (.func 25 [] []) [.agg [.vs lk (shs.map shV)]] σ = some (.int .i64 E, σ)) ∧ (SorterOk shs → E = 0) ∧ (¬ SorterOk shs → E = 4) := by
  obtain ⟨k, rfl⟩ : ∃ m, k = m + 2 := ⟨k - 2, by omega⟩
  have run : ∃ T1 σ1 E, execC lawProg (callN lawProg (k + 1)) (k + 1) 25 24 (bodyOf Tryz.f25) (initT 0 [.agg [.vs lk (shs.map shV)]] .nil) AMem.empty = some (.ret, T1, σ1) ∧ T1.get 2 = some (.int .i64 E) ∧ (SorterOk shs → E = 0) ∧ (¬ SorterOk shs → E = 4) := by
    by_cases h4 : ((shs.length : Nat) : Int) > 4
    · simp only [bodyOf, Tryz.f25, Option.getD_some, initT, dx, reduceIte, Nat.reduceLT, Nat.reduceLeDiff, Nat.reduceEqDiff, Nat.reduceAdd, Nat.reduceMul, Nat.reduceSub, Nat.reduceBEq, Int.reduceEq, Int.reduceLT, Int.reduceLE, Int.reduceToNat, reduceCtorEq, sx, fx25, List.length_map, h4]
      exact ⟨_, _, 4, rfl, by simp only [Tr.get_set, Nat.reduceEqDiff, reduceIte], fun h => by have := h.1; omega, fun _ => rfl⟩
    · have g0 : (AMem.empty.push (.row 1 true [.vs lk (shs.map shV)])).get 0 = some (.row 1 true [.vs lk (shs.map shV)]) := by rw [AMem.get_push, if_pos next_empty]
      obtain ⟨σ1, b1, c1, x1, i1⟩ := every_callN (k := k) (σ := AMem.empty.push (.row 1 true [.vs lk (shs.map shV)])) lk shs 80 [.ptr 0 0] (fun i s => !((shs.take i).any fun o => o.name == s.name)) hn (fun h => by cases h) (fun i hi σ' hx => fresh_callN (k := k) shs i shs[i] (by omega) ((hx.2 0 (by simp [next_empty])).trans g0) (by have := hx.1; simp [next_empty] at this; omega) hn (by omega)) (by omega)
      obtain ⟨σ2, b2, c2, x2, i2⟩ := every_callN (k := k) (σ := σ1) lk shs 83 [] (fun i s => sheafB s) hn (fun _ => nv4) (fun i hi σ' hx => by
        have := hd _ (List.getElem_mem hi)
        exact sheaf_callN (k := k) i shs[i] (by omega) (by omega)) (by omega)
      have g1 : σ1.get 0 = some (.row 1 true [.vs lk (shs.map shV)]) := by rw [x1.2 0 (by simp [next_empty])]; exact g0
      cases b1 with
      | false =>
        simp only [bodyOf, Tryz.f25, Option.getD_some, initT, dx, reduceIte, Nat.reduceLT, Nat.reduceLeDiff, Nat.reduceEqDiff, Nat.reduceAdd, Nat.reduceMul, Nat.reduceSub, Nat.reduceBEq, Int.reduceEq, Int.reduceLT, Int.reduceLE, Int.reduceToNat, reduceCtorEq, sx, fx25, List.length_map, h4, c1]
        refine ⟨_, _, 4, rfl, by simp only [Tr.get_set, Nat.reduceEqDiff, reduceIte], fun h => ?_, fun _ => rfl⟩
        have := i1.2 fun i hi => by rw [h.2.1 i hi]; rfl
        cases this
      | true =>
        cases b2 with
        | false =>
          simp only [bodyOf, Tryz.f25, Option.getD_some, initT, dx, reduceIte, Nat.reduceLT, Nat.reduceLeDiff, Nat.reduceEqDiff, Nat.reduceAdd, Nat.reduceMul, Nat.reduceSub, Nat.reduceBEq, Int.reduceEq, Int.reduceLT, Int.reduceLE, Int.reduceToNat, reduceCtorEq, sx, fx25, List.length_map, h4, c1, g1, c2]
          refine ⟨_, _, 4, rfl, by simp only [Tr.get_set, Nat.reduceEqDiff, reduceIte], fun h => ?_, fun _ => rfl⟩
          have := i2.2 fun i hi => h.2.2 _ (List.getElem_mem hi)
          cases this
        | true =>
          simp only [bodyOf, Tryz.f25, Option.getD_some, initT, dx, reduceIte, Nat.reduceLT, Nat.reduceLeDiff, Nat.reduceEqDiff, Nat.reduceAdd, Nat.reduceMul, Nat.reduceSub, Nat.reduceBEq, Int.reduceEq, Int.reduceLT, Int.reduceLE, Int.reduceToNat, reduceCtorEq, sx, fx25, List.length_map, h4, c1, g1, c2]
          refine ⟨_, _, 0, rfl, by simp only [Tr.get_set, Nat.reduceEqDiff, reduceIte], fun _ => rfl, fun h => absurd ⟨by omega, fun i hi => ?_, fun s hs => ?_⟩ h⟩
          · have := i1.1 rfl i hi
            simpa using this
          · obtain ⟨i, hi, rfl⟩ := List.mem_iff_getElem.1 hs
            exact i2.1 rfl i hi
  obtain ⟨T1, σ1, E, h1, h2, h3, h4⟩ := run
  exact ⟨E, fun σ => pureCall_of rfl (memo25 _) (pureRun_of fn25 rfl (by simp [Tryz.f25]) h1 (by simp) (res_one h2) rfl), h3, h4⟩
end Go.Proofs.YtjckhhkhgjbpaaaGreatDoor

/- Sheaves and sorters: which are right, by the reference. -/
set_option maxRecDepth 100000
set_option linter.unusedSimpArgs false
set_option linter.unusedVariables false
namespace Go.Proofs.YtjckhhkhgjbpaaaGreatDoor
open Go Go.Proofs.YtjckhhkhgjbpaaaGreatDoor.Pale
variable {k : Nat} {σ : AMem}

def emptyQ (p : Part) : Bool := decide (p.2.length = 0)
theorem part_get {l : List Part} {i : Nat} (hi : i < l.length) : (l.map partV)[i]? = some (.vs l[i].1 (bytesV l[i].2)) := by rw [List.getElem?_map, List.getElem?_eq_getElem hi]; rfl
theorem sh_get {l : List Sh} {i : Nat} (hi : i < l.length) : (l.map shV)[i]? = some (.agg [.int .i64 l[i].name, .vs l[i].dk (l[i].data.map partV)]) := by rw [List.getElem?_map, List.getElem?_eq_getElem hi]; rfl
theorem any_empty (l : List Part) : (l.map partV).any emptyP = l.any emptyQ := by
  rw [List.any_map]
  congr 1
  funext p
  exact emptyP_part p
theorem any_full (l : List Part) : (l.map partV).any fullP = l.any fun p => !emptyQ p := by
  rw [List.any_map]
  congr 1
  funext p
  show (!emptyP (partV p)) = _
  rw [emptyP_part]; rfl
theorem any_great (l : List Part) : (l.map partV).any greatP = l.any fun p => decide (p.2.length > 100) := by
  rw [List.any_map]
  congr 1
  funext p
  exact greatP_part p
theorem countP_any {α : Type} (p : α → Bool) (l : List α) : (l.any p = true ↔ 0 < l.countP p) ∧ ((l.any fun x => !p x) = true ↔ l.countP p < l.length) := by
  induction l with
  | nil => simp
  | cons x l ih =>
    have hle := List.countP_le_length (p := p) (l := l)
    simp only [List.any_cons, List.countP_cons, List.length_cons]
    cases hp : p x with
    | true =>
      simp only [Bool.true_or, if_true, Bool.not_true, Bool.false_or, ih.2]
      constructor
      · simp
      · constructor <;> intro h <;> omega
    | false =>
      simp only [Bool.false_or, Bool.false_eq_true, if_false, Bool.not_false, Bool.true_or, ih.1]
      constructor
      · simp
      · constructor
        · intro _; omega
        · intro _; trivial
theorem sheafB_eq (s : Sh) : sheafB s = true ↔ ((0 ≤ s.name ∧ s.name ≤ 65535) ∧ s.data.length ≤ 200 ∧ 0 < s.data.countP emptyQ ∧ s.data.countP emptyQ < s.data.length ∧ ∀ p, p ∈ s.data → p.2.length ≤ 100) := by
  unfold sheafB
  rw [any_empty, any_full, any_great]
  have h1 := (countP_any emptyQ s.data).1
  have h2 := (countP_any emptyQ s.data).2
  have h3 : (!s.data.any fun p => decide (p.2.length > 100)) = true ↔ ∀ p, p ∈ s.data → p.2.length ≤ 100 := by
    simp
  rw [Bool.and_eq_true, Bool.and_eq_true, Bool.and_eq_true, Bool.and_eq_true, h1, h2, h3, decide_eq_true_eq, decide_eq_true_eq]
  constructor
  · rintro ⟨⟨a, b, c, d⟩, e⟩; exact ⟨a, by omega, c, d, e⟩
  · rintro ⟨a, b, c, d, e⟩; exact ⟨⟨a, by omega, c, d⟩, e⟩

theorem rsheaf_call (s : Sh) (hl : s.data.length ≤ 1000) (hk : 2000 ≤ k) : pureCall lawProg (callN lawProg k) (.func 76 [] []) [.agg [.int .i64 s.name, .vs s.dk (s.data.map partV)]] σ = some (.bool (sheafB s), σ) := by
  obtain ⟨k, rfl⟩ : ∃ m, k = m + 1 := ⟨k - 1, by omega⟩
  have hin := fun (σ : AMem) (x y z : Int) => in_call (k := k) (σ := σ) x y z (by omega)
  have no : ∀ b : Bool, (¬ sheafB s = true) → b = false → b = sheafB s := fun b h e => by rw [e]; exact (by simpa using h : sheafB s = false).symm
  have run : ∃ T1 σ1 b, execC lawProg (callN lawProg k) k 76 48 (bodyOf Tryz.f76) (initT 0 [.agg [.int .i64 s.name, .vs s.dk (s.data.map partV)]] .nil) AMem.empty = some (.ret, T1, σ1) ∧ T1.get 2 = some (.bool b) ∧ b = sheafB s := by
    by_cases hA : 0 ≤ s.name ∧ s.name ≤ 65535
    · by_cases hB : (1 : Int) ≤ ((s.data.length : Nat) : Int) ∧ ((s.data.length : Nat) : Int) ≤ 200
      · simp only [bodyOf, Tryz.f76, Option.getD_some, initT, dx, reduceIte, Nat.reduceLT, Nat.reduceLeDiff, Nat.reduceEqDiff, Nat.reduceAdd, Nat.reduceMul, Nat.reduceSub, Nat.reduceBEq, Int.reduceEq, Int.reduceLT, Int.reduceLE, Int.reduceToNat, reduceCtorEq, sx, fx76, List.length_map, hin, hA, hB]
        generalize hL : execC _ _ _ _ _ (Code.loop _) _ _ = q
        obtain ⟨e, T', σ', rfl, _, hcase⟩ : ∃ e T' σ', q = some (e, T', σ') ∧ e ≠ .normal ∧ ((e = .exit 0 ∧ σ'.get 0 = some (.row 2 true [.int .i64 s.name, .vs s.dk (s.data.map partV)]) ∧ T'.get 1 = some (.ptr 0 0) ∧ T'.get 3 = some (.int .i64 (s.data.countP emptyQ : Nat)) ∧ ∀ p, p ∈ s.data → p.2.length ≤ 100) ∨ (e = .ret ∧ T'.get 2 = some (.bool false) ∧ ¬ ∀ p, p ∈ s.data → p.2.length ≤ 100)) := by
          rw [← hL]
          refine exec_loop2 (fun i T σ' => i ≤ s.data.length ∧ σ'.get 0 = some (.row 2 true [.int .i64 s.name, .vs s.dk (s.data.map partV)]) ∧ T.get 1 = some (.ptr 0 0) ∧ T.get 3 = some (.int .i64 ((s.data.take i).countP emptyQ : Nat)) ∧ T.get 4 = some (.int .i64 i) ∧ ∀ p, p ∈ s.data.take i → p.2.length ≤ 100) s.data.length (by omega) ?_ ?_ ?_
          · rintro i hi T σ' ⟨_, m0, t1, t3, t4, hall⟩
            have hlt : (i : Int) < s.data.length := by omega
            have hw := i64_succ (i := i) (by omega)
            have hcl := List.countP_le_length (p := emptyQ) (l := s.data.take i)
            rw [List.length_take] at hcl
            have hw2 := i64_succ (i := (s.data.take i).countP emptyQ) (by omega)
            by_cases hg : ((s.data[i].2.length : Nat) : Int) > 100
            · right
              refine ⟨.ret, _, _, by
                simp only [dx, reduceIte, Nat.reduceLT, Nat.reduceLeDiff, Nat.reduceEqDiff, Nat.reduceAdd, Nat.reduceMul, Nat.reduceSub, Nat.reduceBEq, Int.reduceEq, Int.reduceLT, Int.reduceLE, Int.reduceToNat, reduceCtorEq, sx, fx76, t1, t3, t4, m0, hlt, List.length_map, Int.natCast_nonneg, Int.toNat_natCast, part_get hi, bytesV_length, hg]
                rfl, by simp, .inr ⟨rfl, ?_, fun h => ?_⟩⟩
              · simp only [Tr.get_set, Nat.reduceEqDiff, reduceIte]
              · have := h _ (List.getElem_mem hi); omega
            · left
              have hle : s.data[i].2.length ≤ 100 := by omega
              have hct : (s.data.take (i + 1)).countP emptyQ = (s.data.take i).countP emptyQ + if emptyQ s.data[i] then 1 else 0 := by
                rw [List.take_succ_eq_append_getElem hi, List.countP_append, List.countP_singleton]
              by_cases h0 : s.data[i].2.length = 0
              · have hbq : (((s.data[i].2.length : Nat) : Int) == 0) = true := by rw [beq_iff_eq]; omega
                have he : emptyQ s.data[i] = true := by unfold emptyQ; simpa using h0
                refine ⟨_, _, by
                  simp only [dx, reduceIte, Nat.reduceLT, Nat.reduceLeDiff, Nat.reduceEqDiff, Nat.reduceAdd, Nat.reduceMul, Nat.reduceSub, Nat.reduceBEq, Int.reduceEq, Int.reduceLT, Int.reduceLE, Int.reduceToNat, reduceCtorEq, sx, fx76, t1, t3, t4, m0, hlt, List.length_map, Int.natCast_nonneg, Int.toNat_natCast, part_get hi, bytesV_length, hg, hbq, hw, hw2]
                  rfl, hi, m0, ?_, ?_, ?_, take_all hi hall hle⟩
                · simp only [Tr.get_set, Nat.reduceEqDiff, reduceIte, t1]
                · simp only [Tr.get_set, Nat.reduceEqDiff, reduceIte, hct, he, if_true]
                · simp only [Tr.get_set, Nat.reduceEqDiff, reduceIte]
              · have hbq : (((s.data[i].2.length : Nat) : Int) == 0) = false := by rw [beq_eq_false_iff_ne]; omega
                have he : emptyQ s.data[i] = false := by unfold emptyQ; simpa using h0
                refine ⟨_, _, by
                  simp only [dx, reduceIte, Nat.reduceLT, Nat.reduceLeDiff, Nat.reduceEqDiff, Nat.reduceAdd, Nat.reduceMul, Nat.reduceSub, Nat.reduceBEq, Int.reduceEq, Int.reduceLT, Int.reduceLE, Int.reduceToNat, reduceCtorEq, sx, fx76, t1, t3, t4, m0, hlt, List.length_map, Int.natCast_nonneg, Int.toNat_natCast, part_get hi, bytesV_length, hg, hbq, hw, hw2]
                  rfl, hi, m0, ?_, ?_, ?_, take_all hi hall hle⟩
                · simp only [Tr.get_set, Nat.reduceEqDiff, reduceIte, t1]
                · simp only [Tr.get_set, Nat.reduceEqDiff, reduceIte, hct, he, t3, Bool.false_eq_true, if_false, Nat.add_zero]
                · simp only [Tr.get_set, Nat.reduceEqDiff, reduceIte]
          · rintro T σ' ⟨_, m0, t1, t3, t4, hall⟩
            rw [List.take_length] at hall t3
            refine ⟨_, _, _, by
              simp only [dx, reduceIte, Nat.reduceLT, Nat.reduceLeDiff, Nat.reduceEqDiff, Nat.reduceAdd, Nat.reduceMul, Nat.reduceSub, Nat.reduceBEq, Int.reduceEq, Int.reduceLT, Int.reduceLE, Int.reduceToNat, reduceCtorEq, sx, fx76, t1, t3, t4, m0, List.length_map, Int.lt_irrefl]
              rfl, by simp, .inl ⟨rfl, m0, ?_, ?_, hall⟩⟩
            · simp only [Tr.get_set, Nat.reduceEqDiff, reduceIte, t1]
            · simp only [Tr.get_set, Nat.reduceEqDiff, reduceIte, t3]
          · refine ⟨Nat.zero_le _, ?_, ?_, ?_, ?_, by simp⟩
            · simp only [AMem.get_push, next_empty, reduceIte]
            · simp only [Tr.get_set, Nat.reduceEqDiff, reduceIte]
            · simp only [Tr.get_set, Nat.reduceEqDiff, reduceIte]; rfl
            · simp only [Tr.get_set, Nat.reduceEqDiff, reduceIte]; rfl
        rcases hcase with ⟨rfl, m0, t1, t3, hall⟩ | ⟨rfl, t2, hno⟩
        · by_cases hc : ((s.data.countP emptyQ : Nat) : Int) > 0
          · by_cases hd : ((s.data.countP emptyQ : Nat) : Int) < ((s.data.length : Nat) : Int)
            · simp only [dx, reduceIte, Nat.reduceLT, Nat.reduceLeDiff, Nat.reduceEqDiff, Nat.reduceAdd, Nat.reduceMul, Nat.reduceSub, Nat.reduceBEq, Int.reduceEq, Int.reduceLT, Int.reduceLE, Int.reduceToNat, reduceCtorEq, sx, fx76, t1, t3, m0, List.length_map, hc, hd]
              exact ⟨_, _, true, rfl, by simp only [Tr.get_set, Nat.reduceEqDiff, reduceIte], ((sheafB_eq s).2 ⟨hA, by omega, by omega, by omega, hall⟩).symm⟩
            · simp only [dx, reduceIte, Nat.reduceLT, Nat.reduceLeDiff, Nat.reduceEqDiff, Nat.reduceAdd, Nat.reduceMul, Nat.reduceSub, Nat.reduceBEq, Int.reduceEq, Int.reduceLT, Int.reduceLE, Int.reduceToNat, reduceCtorEq, sx, fx76, t1, t3, m0, List.length_map, hc, hd]
              exact ⟨_, _, false, rfl, by simp only [Tr.get_set, Nat.reduceEqDiff, reduceIte], no _ (fun h => by have := (sheafB_eq s).1 h; omega) rfl⟩
          · simp only [dx, reduceIte, Nat.reduceLT, Nat.reduceLeDiff, Nat.reduceEqDiff, Nat.reduceAdd, Nat.reduceMul, Nat.reduceSub, Nat.reduceBEq, Int.reduceEq, Int.reduceLT, Int.reduceLE, Int.reduceToNat, reduceCtorEq, sx, fx76, t1, t3, m0, List.length_map, hc]
            exact ⟨_, _, false, rfl, by simp only [Tr.get_set, Nat.reduceEqDiff, reduceIte], no _ (fun h => by have := (sheafB_eq s).1 h; omega) rfl⟩
        · simp only [dx, reduceIte, Nat.reduceLT, Nat.reduceLeDiff, Nat.reduceEqDiff, Nat.reduceAdd, Nat.reduceMul, Nat.reduceSub, Nat.reduceBEq, Int.reduceEq, Int.reduceLT, Int.reduceLE, Int.reduceToNat, reduceCtorEq, sx, fx76]
          exact ⟨_, _, false, rfl, t2, no _ (fun h => hno ((sheafB_eq s).1 h).2.2.2.2) rfl⟩
      · simp only [bodyOf, Tryz.f76, Option.getD_some, initT, dx, reduceIte, Nat.reduceLT, Nat.reduceLeDiff, Nat.reduceEqDiff, Nat.reduceAdd, Nat.reduceMul, Nat.reduceSub, Nat.reduceBEq, Int.reduceEq, Int.reduceLT, Int.reduceLE, Int.reduceToNat, reduceCtorEq, sx, fx76, List.length_map, hin, hA, hB]
        exact ⟨_, _, false, rfl, by simp only [Tr.get_set, Nat.reduceEqDiff, reduceIte], no _ (fun h => by have := (sheafB_eq s).1 h; omega) rfl⟩
    · simp only [bodyOf, Tryz.f76, Option.getD_some, initT, dx, reduceIte, Nat.reduceLT, Nat.reduceLeDiff, Nat.reduceEqDiff, Nat.reduceAdd, Nat.reduceMul, Nat.reduceSub, Nat.reduceBEq, Int.reduceEq, Int.reduceLT, Int.reduceLE, Int.reduceToNat, reduceCtorEq, sx, fx76, List.length_map, hin, hA]
      exact ⟨_, _, false, rfl, by simp only [Tr.get_set, Nat.reduceEqDiff, reduceIte], no _ (fun h => hA ((sheafB_eq s).1 h).1) rfl⟩
  obtain ⟨T1, σ1, b, h1, h2, rfl⟩ := run
  exact pureCall_of rfl (memo76 _) (pureRun_of fn76 rfl (by simp [Tryz.f76]) h1 (by simp) (res_one h2) rfl)

/-! ### the place of a name -/
def placeI (n : Int) (shs : List Sh) : Int := idxI (sameName n) (shs.map shV)
theorem sameName_sh (n : Int) (s : Sh) : sameName n (shV s) = (s.name == n) := rfl
theorem place_run (lk : VK) (shs : List Sh) (n : Int) (hl : shs.length ≤ 1000) (hk : 1999 ≤ k) : pureRun (callN lawProg (k + 1)) (.func 77 [] []) [.agg [.vs lk (shs.map shV)], .int .i64 n] = some (.int .i64 (placeI n shs), true) := by
  have run : ∃ T1 σ1, execC lawProg (callN lawProg k) k 77 22 (bodyOf Tryz.f77) (initT 0 [.agg [.vs lk (shs.map shV)], .int .i64 n] .nil) AMem.empty = some (.ret, T1, σ1) ∧ T1.get 4 = some (.int .i64 (placeI n shs)) := by
    simp only [bodyOf, Tryz.f77, Option.getD_some, initT, dx, reduceIte, Nat.reduceLT, Nat.reduceLeDiff, Nat.reduceEqDiff, Nat.reduceAdd, Nat.reduceMul, Nat.reduceSub, Nat.reduceBEq, Int.reduceEq, Int.reduceLT, Int.reduceLE, Int.reduceToNat, reduceCtorEq, sx, fx77]
    generalize hL : execC _ _ _ _ _ (Code.loop _) _ _ = q
    obtain ⟨e, T', σ', rfl, _, hcase⟩ : ∃ e T' σ', q = some (e, T', σ') ∧ e ≠ .normal ∧ ((e = .exit 0 ∧ placeI n shs = -1) ∨ (e = .ret ∧ T'.get 4 = some (.int .i64 (placeI n shs)))) := by
      rw [← hL]
      refine exec_loop2 (fun i T σ' => i ≤ shs.length ∧ σ'.get 0 = some (.row 1 true [.vs lk (shs.map shV)]) ∧ T.get 1 = some (.int .i64 n) ∧ T.get 2 = some (.ptr 0 0) ∧ T.get 5 = some (.int .i64 i) ∧ ∀ x, x ∈ (shs.map shV).take i → sameName n x = false) shs.length (by omega) ?_ ?_ ?_
      · rintro i hi T σ' ⟨_, m0, t1, t2, t5, hall⟩
        have hlt : (i : Int) < shs.length := by omega
        have hw := i64_succ (i := i) (by omega)
        have hi2 : i < (shs.map shV).length := by simpa using hi
        have he : (shs.map shV)[i] = shV shs[i] := List.getElem_map ..
        cases hn : (shs[i].name == n) with
        | true =>
          right
          refine ⟨.ret, _, _, by
            simp only [dx, reduceIte, Nat.reduceLT, Nat.reduceLeDiff, Nat.reduceEqDiff, Nat.reduceAdd, Nat.reduceMul, Nat.reduceSub, Nat.reduceBEq, Int.reduceEq, Int.reduceLT, Int.reduceLE, Int.reduceToNat, reduceCtorEq, sx, fx77, t1, t2, t5, m0, hlt, List.length_map, Int.natCast_nonneg, Int.toNat_natCast, sh_get hi, hn]
            rfl, by simp, .inr ⟨rfl, ?_⟩⟩
          rw [show placeI n shs = (i : Int) from idxI_at hi2 hall (by rw [he, sameName_sh]; exact hn)]
          simp only [Tr.get_set, Nat.reduceEqDiff, reduceIte]
        | false =>
          left
          refine ⟨_, _, by
            simp only [dx, reduceIte, Nat.reduceLT, Nat.reduceLeDiff, Nat.reduceEqDiff, Nat.reduceAdd, Nat.reduceMul, Nat.reduceSub, Nat.reduceBEq, Int.reduceEq, Int.reduceLT, Int.reduceLE, Int.reduceToNat, reduceCtorEq, sx, fx77, t1, t2, t5, m0, hlt, List.length_map, Int.natCast_nonneg, Int.toNat_natCast, sh_get hi, hn, hw]
            rfl, hi, m0, ?_, ?_, ?_, take_all hi2 hall (by rw [he, sameName_sh]; exact hn)⟩
          all_goals simp only [Tr.get_set, Nat.reduceEqDiff, reduceIte, t1, t2]
      · rintro T σ' ⟨_, m0, t1, t2, t5, hall⟩
        rw [show shs.length = (shs.map shV).length by simp, List.take_length] at hall
        exact ⟨_, _, _, by
          simp only [dx, reduceIte, Nat.reduceLT, Nat.reduceLeDiff, Nat.reduceEqDiff, Nat.reduceAdd, Nat.reduceMul, Nat.reduceSub, Nat.reduceBEq, Int.reduceEq, Int.reduceLT, Int.reduceLE, Int.reduceToNat, reduceCtorEq, sx, fx77, t1, t2, t5, m0, List.length_map, Int.lt_irrefl]
          rfl, by simp, .inl ⟨rfl, idxI_none hall⟩⟩
      · refine ⟨Nat.zero_le _, ?_, ?_, ?_, ?_, by simp⟩
        · simp only [AMem.get_push, next_empty, reduceIte]
        · simp only [Tr.get_set, Nat.reduceEqDiff, reduceIte]
        · simp only [Tr.get_set, Nat.reduceEqDiff, reduceIte]
        · simp only [Tr.get_set, Nat.reduceEqDiff, reduceIte]; rfl
    rcases hcase with ⟨rfl, hp⟩ | ⟨rfl, hT⟩
    · rw [hp]
      simp only [dx, reduceIte, Nat.reduceLT, Nat.reduceLeDiff, Nat.reduceEqDiff, Nat.reduceAdd, Nat.reduceMul, Nat.reduceSub, Nat.reduceBEq, Int.reduceEq, Int.reduceLT, Int.reduceLE, Int.reduceToNat, reduceCtorEq, sx, fx77]
      exact ⟨_, _, rfl, by simp only [Tr.get_set, Nat.reduceEqDiff, reduceIte]⟩
    · simp only [dx, reduceIte, Nat.reduceLT, Nat.reduceLeDiff, Nat.reduceEqDiff, Nat.reduceAdd, Nat.reduceMul, Nat.reduceSub, Nat.reduceBEq, Int.reduceEq, Int.reduceLT, Int.reduceLE, Int.reduceToNat, reduceCtorEq, sx, fx77]
      exact ⟨_, _, rfl, hT⟩
  obtain ⟨T1, σ1, h1, h2⟩ := run
  exact pureRun_of fn77 rfl (by simp [Tryz.f77]) h1 (by simp) (res_one h2) rfl
theorem place_call' {x : AVal} {S : List Nat} {lk : VK} {shs : List Sh} (hx : snapF false σ snapDepth x = some (.agg [.vs lk (shs.map shV)], S)) (n : Int) (hl : shs.length ≤ 1000) (hk : 2000 ≤ k) : pureCall lawProg (callN lawProg k) (.func 77 [] []) [x, .int .i64 n] σ = some (.int .i64 (placeI n shs), σ) := by
  obtain ⟨k, rfl⟩ : ∃ m, k = m + 1 := ⟨k - 1, by omega⟩
  have hs : snapL (snapF false σ snapDepth) [x, .int .i64 n] = some ([.agg [.vs lk (shs.map shV)], .int .i64 n], S ++ ([] ++ [])) := by
    simp only [snapL, hx]
    rfl
  exact pureCall_of hs (memo77 _) (place_run lk shs n hl (by omega))
theorem place_call (lk : VK) (shs : List Sh) (n : Int) (hl : shs.length ≤ 1000) (hk : 2000 ≤ k) : pureCall lawProg (callN lawProg k) (.func 77 [] []) [.agg [.vs lk (shs.map shV)], .int .i64 n] σ = some (.int .i64 (placeI n shs), σ) := place_call' rfl n hl hk

/-- A name stands first where it stands if it was not there before. -/
theorem place_first {shs : List Sh} {i : Nat} (hi : i < shs.length) : (placeI shs[i].name shs = (i : Int)) ↔ ((shs.take i).any fun o => o.name == shs[i].name) = false := by
  have hi2 : i < (shs.map shV).length := by simpa using hi
  constructor
  · intro h
    rw [List.any_eq_false]
    intro o ho
    obtain ⟨j, hj, rfl⟩ := List.mem_iff_getElem.1 ho
    rw [List.length_take] at hj
    rw [List.getElem_take]
    intro hn
    -- the first place is at most j
    have key : ∀ (l : List AVal) (p : AVal → Bool) (j : Nat) (hj : j < l.length), p l[j] = true → idxI p l ≤ (j : Int) ∧ 0 ≤ idxI p l := by
      intro l
      induction l with
      | nil => intro p j hj; simp at hj
      | cons x l ih =>
        intro p j hj hp
        cases hx : p x with
        | true => simp only [idxI, hx, if_true]; omega
        | false =>
          cases j with
          | zero => simp only [List.getElem_cons_zero] at hp; rw [hp] at hx; cases hx
          | succ j =>
            obtain ⟨h1, h2⟩ := ih p j (by simpa using hj) (by simpa using hp)
            simp only [idxI, hx, Bool.false_eq_true, if_false]
            rw [if_neg (by omega)]
            omega
    have hj2 : j < (shs.map shV).length := by rw [List.length_map]; omega
    have := (key (shs.map shV) (sameName shs[i].name) j hj2 (by rw [List.getElem_map, sameName_sh]; exact hn)).1
    unfold placeI at h
    omega
  · intro h
    refine idxI_at hi2 (fun x hx => ?_) (by rw [List.getElem_map, sameName_sh]; simp)
    rw [← List.map_take] at hx
    obtain ⟨o, ho, rfl⟩ := List.mem_map.1 hx
    rw [List.any_eq_false] at h
    simpa [sameName_sh] using h o ho

theorem isSorter_call (lk : VK) (shs : List Sh) (hl : shs.length ≤ 1000) (hd : ∀ s, s ∈ shs → s.data.length ≤ 1000) (hk : 4000 ≤ k) : ∃ b, (∀ σ, pureCall lawProg (callN lawProg k) (.func 22 [] []) [.agg [.vs lk (shs.map shV)]] σ = some (.bool b, σ)) ∧ (b = true ↔ SorterOk shs) := by
  obtain ⟨k, rfl⟩ : ∃ m, k = m + 1 := ⟨k - 1, by omega⟩
  have run : ∃ T1 σ1 b, execC lawProg (callN lawProg k) k 22 34 (bodyOf Tryz.f22) (initT 0 [.agg [.vs lk (shs.map shV)]] .nil) AMem.empty = some (.ret, T1, σ1) ∧ T1.get 2 = some (.bool b) ∧ (b = true ↔ SorterOk shs) := by
    by_cases h4 : ((shs.length : Nat) : Int) > 4
    · simp only [bodyOf, Tryz.f22, Option.getD_some, initT, dx, reduceIte, Nat.reduceLT, Nat.reduceLeDiff, Nat.reduceEqDiff, Nat.reduceAdd, Nat.reduceMul, Nat.reduceSub, Nat.reduceBEq, Int.reduceEq, Int.reduceLT, Int.reduceLE, Int.reduceToNat, reduceCtorEq, sx, fx22, List.length_map, h4]
      exact ⟨_, _, false, rfl, by simp only [Tr.get_set, Nat.reduceEqDiff, reduceIte], by simp only [Bool.false_eq_true, false_iff]; exact fun h => by have := h.1; omega⟩
    · simp only [bodyOf, Tryz.f22, Option.getD_some, initT, dx, reduceIte, Nat.reduceLT, Nat.reduceLeDiff, Nat.reduceEqDiff, Nat.reduceAdd, Nat.reduceMul, Nat.reduceSub, Nat.reduceBEq, Int.reduceEq, Int.reduceLT, Int.reduceLE, Int.reduceToNat, reduceCtorEq, sx, fx22, List.length_map, h4]
      generalize hL : execC _ _ _ _ _ (Code.loop _) _ _ = q
      obtain ⟨e, T', σ', rfl, _, hcase⟩ : ∃ e T' σ', q = some (e, T', σ') ∧ e ≠ .normal ∧ ((e = .exit 0 ∧ ∀ i (hi : i < shs.length), sheafB shs[i] = true ∧ placeI shs[i].name shs = (i : Int)) ∨ (e = .ret ∧ T'.get 2 = some (.bool false) ∧ ¬ SorterOk shs)) := by
        rw [← hL]
        refine exec_loop2 (fun i T σ' => i ≤ shs.length ∧ σ'.get 0 = some (.row 1 true [.vs lk (shs.map shV)]) ∧ T.get 1 = some (.ptr 0 0) ∧ T.get 3 = some (.int .i64 i) ∧ ∀ j (hj : j < shs.length), j < i → sheafB shs[j] = true ∧ placeI shs[j].name shs = (j : Int)) shs.length (by omega) ?_ ?_ ?_
        · rintro i hi T σ' ⟨_, m0, t1, t3, hall⟩
          have hlt : (i : Int) < shs.length := by omega
          have hw := i64_succ (i := i) (by omega)
          have hc1 := fun (σ : AMem) => rsheaf_call (k := k) (σ := σ) shs[i] (hd _ (List.getElem_mem hi)) (by omega)
          have hc2 := fun (σ : AMem) => place_call (k := k) (σ := σ) lk shs shs[i].name hl (by omega)
          cases hb : sheafB shs[i] with
          | false =>
            right
            simp only [hb] at hc1
            refine ⟨.ret, _, _, by
              simp only [dx, reduceIte, Nat.reduceLT, Nat.reduceLeDiff, Nat.reduceEqDiff, Nat.reduceAdd, Nat.reduceMul, Nat.reduceSub, Nat.reduceBEq, Int.reduceEq, Int.reduceLT, Int.reduceLE, Int.reduceToNat, reduceCtorEq, sx, fx22, t1, t3, m0, hlt, List.length_map, Int.natCast_nonneg, Int.toNat_natCast, sh_get hi, hc1]
              rfl, by simp, .inr ⟨rfl, ?_, fun h => ?_⟩⟩
            · simp only [Tr.get_set, Nat.reduceEqDiff, reduceIte]
            · rw [h.2.2 _ (List.getElem_mem hi)] at hb; cases hb
          | true =>
            simp only [hb] at hc1
            by_cases hp : placeI shs[i].name shs = (i : Int)
            · left
              have hbq : (placeI shs[i].name shs != (i : Int)) = false := by simpa using hp
              refine ⟨_, _, by
                simp only [dx, reduceIte, Nat.reduceLT, Nat.reduceLeDiff, Nat.reduceEqDiff, Nat.reduceAdd, Nat.reduceMul, Nat.reduceSub, Nat.reduceBEq, Int.reduceEq, Int.reduceLT, Int.reduceLE, Int.reduceToNat, reduceCtorEq, sx, fx22, t1, t3, m0, hlt, List.length_map, Int.natCast_nonneg, Int.toNat_natCast, sh_get hi, hc1, hc2, hbq, hw]
                rfl, hi, m0, ?_, ?_, fun j hj hji => ?_⟩
              · simp only [Tr.get_set, Nat.reduceEqDiff, reduceIte, t1]
              · simp only [Tr.get_set, Nat.reduceEqDiff, reduceIte]
              · rcases Nat.lt_succ_iff_lt_or_eq.1 hji with h | rfl
                · exact hall j hj h
                · exact ⟨hb, hp⟩
            · right
              have hbq : (placeI shs[i].name shs != (i : Int)) = true := by simpa using hp
              refine ⟨.ret, _, _, by
                simp only [dx, reduceIte, Nat.reduceLT, Nat.reduceLeDiff, Nat.reduceEqDiff, Nat.reduceAdd, Nat.reduceMul, Nat.reduceSub, Nat.reduceBEq, Int.reduceEq, Int.reduceLT, Int.reduceLE, Int.reduceToNat, reduceCtorEq, sx, fx22, t1, t3, m0, hlt, List.length_map, Int.natCast_nonneg, Int.toNat_natCast, sh_get hi, hc1, hc2, hbq]
                rfl, by simp, .inr ⟨rfl, ?_, fun h => hp ((place_first hi).2 (h.2.1 i hi))⟩⟩
              simp only [Tr.get_set, Nat.reduceEqDiff, reduceIte]
        · rintro T σ' ⟨_, m0, t1, t3, hall⟩
          exact ⟨_, _, _, by
            simp only [dx, reduceIte, Nat.reduceLT, Nat.reduceLeDiff, Nat.reduceEqDiff, Nat.reduceAdd, Nat.reduceMul, Nat.reduceSub, Nat.reduceBEq, Int.reduceEq, Int.reduceLT, Int.reduceLE, Int.reduceToNat, reduceCtorEq, sx, fx22, t1, t3, m0, List.length_map, Int.lt_irrefl]
            rfl, by simp, .inl ⟨rfl, fun i hi => hall i hi hi⟩⟩
        · refine ⟨Nat.zero_le _, ?_, ?_, ?_, by simp⟩
          · simp only [AMem.get_push, next_empty, reduceIte]
          · simp only [Tr.get_set, Nat.reduceEqDiff, reduceIte]
          · simp only [Tr.get_set, Nat.reduceEqDiff, reduceIte]; rfl
      rcases hcase with ⟨rfl, hall⟩ | ⟨rfl, hT, hno⟩
      · simp only [dx, reduceIte, Nat.reduceLT, Nat.reduceLeDiff, Nat.reduceEqDiff, Nat.reduceAdd, Nat.reduceMul, Nat.reduceSub, Nat.reduceBEq, Int.reduceEq, Int.reduceLT, Int.reduceLE, Int.reduceToNat, reduceCtorEq, sx, fx22]
        have hok : SorterOk shs := ⟨by omega, fun i hi => (place_first hi).1 (hall i hi).2, fun s hs => by
          obtain ⟨i, hi, rfl⟩ := List.mem_iff_getElem.1 hs
          exact (hall i hi).1⟩
        exact ⟨_, _, true, rfl, by simp only [Tr.get_set, Nat.reduceEqDiff, reduceIte], by simp only [true_iff]; exact hok⟩
      · simp only [dx, reduceIte, Nat.reduceLT, Nat.reduceLeDiff, Nat.reduceEqDiff, Nat.reduceAdd, Nat.reduceMul, Nat.reduceSub, Nat.reduceBEq, Int.reduceEq, Int.reduceLT, Int.reduceLE, Int.reduceToNat, reduceCtorEq, sx, fx22]
        exact ⟨_, _, false, rfl, hT, by simp only [Bool.false_eq_true, false_iff]; exact hno⟩
  obtain ⟨T1, σ1, b, h1, h2, h3⟩ := run
  exact ⟨b, fun σ => pureCall_of rfl (memo22 _) (pureRun_of fn22 rfl (by simp [Tryz.f22]) h1 (by simp) (res_one h2) rfl), h3⟩
end Go.Proofs.YtjckhhkhgjbpaaaGreatDoor


