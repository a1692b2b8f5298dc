import Derived.Test.YtjkfdiglokkceaaHT
import Derived.Test.YtjkfdiglokkceaaHP
/- Heaps: the reference's sizeOf and ask. -/
set_option maxRecDepth 100000
set_option linter.unusedSimpArgs false
set_option linter.unusedVariables false
namespace Go.Proofs.Ytjkfdiglokkceaa
open Go Go.Proofs.Ytjkfdiglokkceaa.Pale
variable {k : Nat} {σ : AMem}

theorem isRight_vh0 {v : AVal} {ps : List Pg} {ws : List Int} (hv : VH v ps ws) (hb : Bd ps ws) (hk : 6000 ≤ k) (σ : AMem) : pureCall lawProg (callN lawProg k) (.func 24 [] []) [v] σ = some (.bool (rightB ps ws), σ) := by
  obtain ⟨kp, kw, l, rfl, rfl, _⟩ := hv
  have hl : (pgsOf l).length = l.length := by simp [pgsOf]
  obtain ⟨b1, b2, b3⟩ := hb
  exact isRight_call kp kw l ws (fun z hz => b3 z.1 (List.mem_map.2 ⟨z, hz, rfl⟩)) (by omega) (by omega) hk
def sizeL (ps : List Pg) (a : Int) : Int := match findL ps a with
  | some b => b.size
  | none => 0
theorem sizeOf_call' {v : AVal} {ps : List Pg} {ws : List Int} (a : Int) (hv : VH v ps ws) (hsh : Shape ps) (hl : ps.length ≤ 40) (hk : 9000 ≤ k) : pureCall lawProg (callN lawProg k) (.func 76 [] []) [v, .int .i64 a] σ = some (.int .i64 (sizeL ps a), σ) := by
  obtain ⟨k, rfl⟩ : ∃ m, k = m + 1 := ⟨k - 1, by omega⟩
  have hv0 := hv
  obtain ⟨kp, kw, l, rfl, rfl, _⟩ := hv
  have hlp : (pgsOf l).length = l.length := by simp [pgsOf]
  have hbl := fun (σ : AMem) => blocks_call (k := k) (σ := σ) kp kw l ws hsh (by omega) (by omega)
  obtain ⟨L, hL⟩ : ∃ L, L = blocksL (pgsOf l) := ⟨_, rfl⟩
  have hLl : L.length ≤ 2560 := by
    have := (blocks_len hsh (pgsOf l).length (Nat.le_refl _)).1
    rw [hL]
    unfold blocksL
    omega
  rw [← hL] at hbl
  have run : ∃ T1 σ1, execC lawProg (callN lawProg k) k 76 27 (bodyOf Try.f76) (initT 0 [hpV kp kw l ws, .int .i64 a] .nil) AMem.empty = some (.ret, T1, σ1) ∧ T1.get 4 = some (.int .i64 (sizeL (pgsOf l) a)) := by
    unfold hpV at hbl ⊢
    simp only [bodyOf, Try.f76, Option.getD_some, initT, dx, reduceIte, Nat.reduceLT, Nat.reduceLeDiff, Nat.reduceEqDiff, Nat.reduceAdd, Nat.reduceMul, Nat.reduceSub, Nat.reduceBEq, Int.reduceEq, Int.reduceLT, Int.reduceLE, Int.reduceToNat, reduceCtorEq, sx, fx76, hbl]
    generalize hLp : execC _ _ _ _ _ (Code.loop _) _ _ = q
    obtain ⟨e, T', σ', rfl, _, hc⟩ : ∃ e T' σ', q = some (e, T', σ') ∧ e ≠ .normal ∧ ((e = .ret ∧ ∃ b, findL (pgsOf l) a = some b ∧ T'.get 4 = some (.int .i64 b.size)) ∨ (e = .exit 0 ∧ findL (pgsOf l) a = none)) := by
      rw [← hLp]
      have hkL : L.length < k := by omega
      · refine exec_loop2 (fun i T σ' => i ≤ L.length ∧ T.get 1 = some (.int .i64 a) ∧ T.get 5 = some (.vs (lkOf L.length) (prsV L)) ∧ T.get 6 = some (.int .i64 (i : Nat)) ∧ ∀ b, b ∈ L.take i → b.at_ ≠ a) L.length hkL ?_ ?_ ?_
        · rintro i hi T σ0 ⟨_, t1, t5, t6, hall⟩
          have hlt : ((i : Nat) : Int) < ((L.length : Nat) : Int) := by omega
          have hw' := i64_succ (i := i) (by omega)
          have hget := prsV_get hi
          have i12 : (1 : Int) < ((2 : Nat) : Int) := by decide
          have i02 : (0 : Int) < ((2 : Nat) : Int) := by decide
          by_cases he : (L[i]).at_ = a
          · have hb1 : ((L[i]).at_ == a) = true := by rw [he]; simp
            refine .inr ⟨_, _, _, by
              simp only [dx, reduceIte, Nat.reduceLT, Nat.reduceLeDiff, Nat.reduceEqDiff, Nat.reduceAdd, Nat.reduceMul, Nat.reduceSub, Nat.reduceBEq, Int.reduceEq, Int.reduceLT, Int.reduceLE, Int.reduceToNat, reduceCtorEq, sx, fx76, t1, t5, t6, hlt, prsV_length, Int.natCast_nonneg, Int.toNat_natCast, hget, i02, i12, hb1]
              rfl, by simp, .inl ⟨rfl, L[i], ?_, ?_⟩⟩
            · unfold findL
              rw [← hL]
              have hs : L = L.take i ++ L[i] :: L.drop (i + 1) := by
                rw [List.getElem_cons_drop, List.take_append_drop]
              conv => lhs; rw [hs]
              rw [List.find?_append, List.find?_eq_none.2 (fun x hx => by simpa using hall x hx), List.find?_cons, hb1]
              rfl
            · simp only [Tr.get_set, Nat.reduceEqDiff, reduceIte]
          · have hb1 : ((L[i]).at_ == a) = false := by rw [beq_eq_false_iff_ne]; exact he
            refine .inl ⟨_, _, by
              simp only [dx, reduceIte, Nat.reduceLT, Nat.reduceLeDiff, Nat.reduceEqDiff, Nat.reduceAdd, Nat.reduceMul, Nat.reduceSub, Nat.reduceBEq, Int.reduceEq, Int.reduceLT, Int.reduceLE, Int.reduceToNat, reduceCtorEq, sx, fx76, t1, t5, t6, hlt, prsV_length, Int.natCast_nonneg, Int.toNat_natCast, hget, i02, i12, hb1, hw']
              rfl, by omega, ?_, ?_, ?_, take_all hi hall he⟩
            · simp only [Tr.get_set, Nat.reduceEqDiff, reduceIte, t1]
            · simp only [Tr.get_set, Nat.reduceEqDiff, reduceIte, t5]
            · simp only [Tr.get_set, Nat.reduceEqDiff, reduceIte]
        · rintro T σ0 ⟨_, t1, t5, t6, hall⟩
          have hge : ¬ (((L.length : Nat) : Int) < ((L.length : Nat) : Int)) := by omega
          rw [List.take_length] at hall
          refine ⟨_, _, _, by
            simp only [dx, reduceIte, Nat.reduceLT, Nat.reduceLeDiff, Nat.reduceEqDiff, Nat.reduceAdd, Nat.reduceMul, Nat.reduceSub, Nat.reduceBEq, Int.reduceEq, Int.reduceLT, Int.reduceLE, Int.reduceToNat, reduceCtorEq, sx, fx76, t5, t6, prsV_length, hge]
            rfl, by simp, .inr ⟨rfl, ?_⟩⟩
          unfold findL
          rw [← hL, List.find?_eq_none]
          intro x hx
          simpa using hall x hx
        · refine ⟨Nat.zero_le _, ?_, ?_, ?_, by simp⟩
          all_goals simp only [Tr.get_set, Nat.reduceEqDiff, reduceIte] <;> rfl
    rcases hc with ⟨rfl, b, h1, h2⟩ | ⟨rfl, h1⟩
    · simp only [dx, reduceIte, Nat.reduceLT, Nat.reduceLeDiff, Nat.reduceEqDiff, Nat.reduceAdd, Nat.reduceMul, Nat.reduceSub, Nat.reduceBEq, Int.reduceEq, Int.reduceLT, Int.reduceLE, Int.reduceToNat, reduceCtorEq, sx, fx76]
      exact ⟨_, _, rfl, by rw [h2]; unfold sizeL; rw [h1]⟩
    · simp only [dx, reduceIte, Nat.reduceLT, Nat.reduceLeDiff, Nat.reduceEqDiff, Nat.reduceAdd, Nat.reduceMul, Nat.reduceSub, Nat.reduceBEq, Int.reduceEq, Int.reduceLT, Int.reduceLE, Int.reduceToNat, reduceCtorEq, sx, fx76]
      exact ⟨_, _, rfl, by unfold sizeL; rw [h1]; simp only [Tr.get_set, Nat.reduceEqDiff, reduceIte]⟩
  obtain ⟨T1, σ1, h1, h2⟩ := run
  refine pureCall_of (args' := [hpV kp kw l ws, .int .i64 a]) (seen := [] ++ ([] ++ [])) ?_ (memo76 _) (pureRun_of fn76 rfl (by simp [Try.f76]) h1 (by simp) (res_one h2) rfl)
  have := hv0.snap σ 10
  simp only [snapL, snapDepth, this, snapF]
noncomputable def askH (ps : List Pg) (ws : List Int) (a : Int) : Int × Int := if rightB ps ws then (match findL ps a with
    | some b => (b.size, 0)
    | none => (0, 7)) else (0, 4)
theorem ask_call {v : AVal} {ps : List Pg} {ws : List Int} (a : Int) (hv : VH v ps ws) (hb : Bd ps ws) (hk : 9001 ≤ k) : pureCall lawProg (callN lawProg k) (.func 56 [] []) [v, .int .i64 a] σ = some (.tuple [.int .i64 (askH ps ws a).1, .int .i64 (askH ps ws a).2], σ) := by
  obtain ⟨k, rfl⟩ : ∃ m, k = m + 1 := ⟨k - 1, by omega⟩
  have hsn := hv.snap σ 10
  obtain ⟨X, Y, rfl, hX, hY⟩ := hv.cells
  have hri := isRight_vh0 (k := k) hv hb (by omega)
  have run : ∃ T1 σ1, execC lawProg (callN lawProg k) k 56 16 (bodyOf Try.f56) (initT 0 [.agg [X, Y], .int .i64 a] .nil) AMem.empty = some (.ret, T1, σ1) ∧ T1.get 4 = some (.int .i64 (askH ps ws a).1) ∧ T1.get 5 = some (.int .i64 (askH ps ws a).2) := by
    cases hrb : rightB ps ws with
    | false =>
      rw [hrb] at hri
      have hres : askH ps ws a = (0, 4) := by unfold askH; rw [hrb]; rfl
      rw [hres]
      simp only [bodyOf, Try.f56, Option.getD_some, initT, dx, reduceIte, Nat.reduceLT, Nat.reduceLeDiff, Nat.reduceEqDiff, Nat.reduceAdd, Nat.reduceMul, Nat.reduceSub, Nat.reduceBEq, Int.reduceEq, Int.reduceLT, Int.reduceLE, Int.reduceToNat, reduceCtorEq, sx, fx56, hX, hY, hri]
      exact ⟨_, _, rfl, by simp only [Tr.get_set, Nat.reduceEqDiff, reduceIte], by simp only [Tr.get_set, Nat.reduceEqDiff, reduceIte]⟩
    | true =>
      rw [hrb] at hri
      have hright := rightB_iff.1 hrb
      have hsz := fun (σ : AMem) => sizeOf_call' (k := k) (σ := σ) a hv hright.shape hright.many.2 (by omega)
      cases hf : findL ps a with
      | none =>
        have hs0 : sizeL ps a = 0 := by unfold sizeL; rw [hf]
        rw [hs0] at hsz
        have hres : askH ps ws a = (0, 7) := by unfold askH; rw [hrb, if_pos rfl, hf]
        rw [hres]
        have h0 : ¬ ((0 : Int) > 0) := by omega
        simp only [bodyOf, Try.f56, Option.getD_some, initT, dx, reduceIte, Nat.reduceLT, Nat.reduceLeDiff, Nat.reduceEqDiff, Nat.reduceAdd, Nat.reduceMul, Nat.reduceSub, Nat.reduceBEq, Int.reduceEq, Int.reduceLT, Int.reduceLE, Int.reduceToNat, reduceCtorEq, sx, fx56, hX, hY, hri, hsz, h0]
        exact ⟨_, _, rfl, by simp only [Tr.get_set, Nat.reduceEqDiff, reduceIte], by simp only [Tr.get_set, Nat.reduceEqDiff, reduceIte]⟩
      | some b =>
        have hs0 : sizeL ps a = b.size := by unfold sizeL; rw [hf]
        rw [hs0] at hsz
        have hres : askH ps ws a = (b.size, 0) := by unfold askH; rw [hrb, if_pos rfl, hf]
        rw [hres]
        obtain ⟨_, n, _, hn, hn1, _⟩ := blk_nat hright (findL_some hf).1
        have h0 : b.size > 0 := by omega
        simp only [bodyOf, Try.f56, Option.getD_some, initT, dx, reduceIte, Nat.reduceLT, Nat.reduceLeDiff, Nat.reduceEqDiff, Nat.reduceAdd, Nat.reduceMul, Nat.reduceSub, Nat.reduceBEq, Int.reduceEq, Int.reduceLT, Int.reduceLE, Int.reduceToNat, reduceCtorEq, sx, fx56, hX, hY, hri, hsz, h0]
        exact ⟨_, _, rfl, by simp only [Tr.get_set, Nat.reduceEqDiff, reduceIte], by simp only [Tr.get_set, Nat.reduceEqDiff, reduceIte]⟩
  obtain ⟨T1, σ1, h1, h2, h3⟩ := run
  refine pureCall_of (args' := [.agg [X, Y], .int .i64 a]) (seen := [] ++ ([] ++ [])) ?_ (memo56 _) (pureRun_of fn56 rfl (by simp [Try.f56]) h1 (by simp) (res_two h2 h3) rfl)
  simp only [snapL, snapDepth, hsn, snapF]
end Go.Proofs.Ytjkfdiglokkceaa

/- Heaps: the reference's Free. -/
set_option maxRecDepth 100000
set_option linter.unusedSimpArgs false
set_option linter.unusedVariables false
namespace Go.Proofs.Ytjkfdiglokkceaa
open Go Go.Proofs.Ytjkfdiglokkceaa.Pale
variable {k : Nat} {σ : AMem}

theorem many_run (x : PV) (hn : x.1.used.length ≤ 1000) (hk : 2000 ≤ k) : pureRun (callN lawProg (k + 1)) (.func 57 [] []) [pv x] = some (.int .i64 ((x.1.used.countP id : Nat) : Int), true) := by
  obtain ⟨⟨kd, n, l⟩, vk⟩ := x
  simp only at hn ⊢
  have run : ∃ T1 σ1, execC lawProg (callN lawProg k) k 57 20 (bodyOf Try.f57) (initT 0 [.agg [.int .u8 kd, .int .i64 n, .vs vk (boolV l)]] .nil) AMem.empty = some (.ret, T1, σ1) ∧ T1.get 2 = some (.int .i64 ((l.countP id : Nat) : Int)) := by
    simp only [bodyOf, Try.f57, Option.getD_some, initT, dx, reduceIte, Nat.reduceLT, Nat.reduceLeDiff, Nat.reduceEqDiff, Nat.reduceAdd, Nat.reduceMul, Nat.reduceSub, Nat.reduceBEq, Int.reduceEq, Int.reduceLT, Int.reduceLE, Int.reduceToNat, reduceCtorEq, sx, fx57]
    generalize hL : execC _ _ _ _ _ (Code.loop _) _ _ = q
    obtain ⟨e, T', σ', rfl, _, rfl, h3⟩ : ∃ e T' σ', q = some (e, T', σ') ∧ e ≠ .normal ∧ (e = .exit 0 ∧ T'.get 3 = some (.int .i64 ((l.countP id : Nat) : Int))) := by
      rw [← hL]
      refine exec_loop (fun i T σ => i ≤ l.length ∧ T.get 1 = some (.ptr 0 0) ∧ T.get 3 = some (.int .i64 (((l.take i).countP id : Nat) : Int)) ∧ T.get 4 = some (.int .i64 (i : Nat)) ∧ σ.get 0 = some (.row 3 true [.int .u8 kd, .int .i64 n, .vs vk (boolV l)])) l.length (by omega) ?_ ?_ ?_
      · rintro i hi T σ ⟨_, t1, t3, t4, m0⟩
        have hlt : (i : Int) < l.length := by omega
        have hw := i64_succ (i := i) (by omega)
        have hget := boolV_get hi
        have hc := List.countP_le_length (p := id) (l := l.take i)
        rw [List.length_take] at hc
        have hstep : (l.take (i + 1)).countP id = (l.take i).countP id + if l[i] then 1 else 0 := by
          rw [List.take_succ_eq_append_getElem hi, List.countP_append, List.countP_singleton]
          rfl
        cases hb : l[i] with
        | true =>
          rw [hb] at hget hstep
          have hw2 := i64_succ (i := (l.take i).countP id) (by omega)
          refine ⟨_, _, by
            simp only [dx, reduceIte, Nat.reduceLT, Nat.reduceLeDiff, Nat.reduceEqDiff, Nat.reduceAdd, Nat.reduceMul, Nat.reduceSub, Nat.reduceBEq, Int.reduceEq, Int.reduceLT, Int.reduceLE, Int.reduceToNat, reduceCtorEq, sx, fx57, t1, t3, t4, m0, hlt, boolV_length, Int.natCast_nonneg, Int.toNat_natCast, hget, hw, hw2]
            rfl, by omega, ?_, ?_, ?_, m0⟩
          · simp only [Tr.get_set, Nat.reduceEqDiff, reduceIte, t1]
          · simp only [Tr.get_set, Nat.reduceEqDiff, reduceIte]; rw [hstep]; rfl
          · simp only [Tr.get_set, Nat.reduceEqDiff, reduceIte]
        | false =>
          rw [hb] at hget hstep
          refine ⟨_, _, by
            simp only [dx, reduceIte, Nat.reduceLT, Nat.reduceLeDiff, Nat.reduceEqDiff, Nat.reduceAdd, Nat.reduceMul, Nat.reduceSub, Nat.reduceBEq, Int.reduceEq, Int.reduceLT, Int.reduceLE, Int.reduceToNat, reduceCtorEq, sx, fx57, t1, t3, t4, m0, hlt, boolV_length, Int.natCast_nonneg, Int.toNat_natCast, hget, hw]
            rfl, by omega, ?_, ?_, ?_, m0⟩
          · simp only [Tr.get_set, Nat.reduceEqDiff, reduceIte, t1]
          · simp only [Tr.get_set, Nat.reduceEqDiff, reduceIte, t3]; rw [hstep]; rfl
          · simp only [Tr.get_set, Nat.reduceEqDiff, reduceIte]
      · rintro T σ ⟨_, t1, t3, t4, m0⟩
        have hge : ¬ (((l.length : Nat) : Int) < ((l.length : Nat) : Int)) := by omega
        rw [List.take_length] at t3
        refine ⟨_, _, _, by
          simp only [dx, reduceIte, Nat.reduceLT, Nat.reduceLeDiff, Nat.reduceEqDiff, Nat.reduceAdd, Nat.reduceMul, Nat.reduceSub, Nat.reduceBEq, Int.reduceEq, Int.reduceLT, Int.reduceLE, Int.reduceToNat, reduceCtorEq, sx, fx57, t1, t4, m0, boolV_length, hge]
          rfl, by simp, rfl, ?_⟩
        simp only [Tr.get_set, Nat.reduceEqDiff, reduceIte, t3]
      · refine ⟨Nat.zero_le _, ?_, ?_, ?_, ?_⟩
        · simp only [Tr.get_set, Nat.reduceEqDiff, reduceIte]
        · simp only [Tr.get_set, Nat.reduceEqDiff, reduceIte]; rfl
        · simp only [Tr.get_set, Nat.reduceEqDiff, reduceIte]; rfl
        · simp only [AMem.get_push, next_empty, reduceIte]
    simp only [dx, reduceIte, Nat.reduceLT, Nat.reduceLeDiff, Nat.reduceEqDiff, Nat.reduceAdd, Nat.reduceMul, Nat.reduceSub, Nat.reduceBEq, Int.reduceEq, Int.reduceLT, Int.reduceLE, Int.reduceToNat, reduceCtorEq, sx, fx57, h3]
    exact ⟨_, _, rfl, by simp only [Tr.get_set, Nat.reduceEqDiff, reduceIte]⟩
  obtain ⟨T1, σ1, h1, h2⟩ := run
  exact pureRun_of fn57 rfl (by simp [Try.f57]) h1 (by simp) (res_one h2) rfl
/-- A value that reads as a page, out of memory. -/
theorem many_snap {x : AVal} {S : List Nat} {p : PV} (hx : snapF false σ snapDepth x = some (pv p, S)) (hn : p.1.used.length ≤ 1000) (hk : 2001 ≤ k) : pureCall lawProg (callN lawProg k) (.func 57 [] []) [x] σ = some (.int .i64 ((p.1.used.countP id : Nat) : Int), σ) :=
  by
  obtain ⟨k, rfl⟩ : ∃ m, k = m + 1 := ⟨k - 1, by omega⟩
  exact pureCall_of (args' := [pv p]) (seen := S ++ []) (by simp only [snapL, hx]) (memo57 _) (many_run p hn (by omega))
theorem count_any (l : List Bool) : l.any id = !(((l.countP id : Nat) : Int) == 0) := by
  induction l with
  | nil => rfl
  | cons b l ih =>
    cases b with
    | true =>
      have h1 : (List.countP id (true :: l) : Nat) = l.countP id + 1 := by simp
      rw [h1]
      have : (((l.countP id + 1 : Nat) : Int) == 0) = false := by rw [beq_eq_false_iff_ne]; omega
      rw [this]
      rfl
    | false =>
      have h1 : (List.countP id (false :: l) : Nat) = l.countP id := by simp
      rw [h1, ← ih]
      rfl
def partB (lo j : Nat) : Blk := ⟨0, 0, (lo : Nat), (j : Nat)⟩
theorem clear_ext {ws : List Int} {b c : Blk} (h1 : b.at_ = c.at_) (h2 : b.size = c.size) : clearW ws b = clearW ws c := by
  unfold clearW
  rw [h1, h2]
theorem clear_none (ws : List Int) (lo : Nat) : clearW ws (partB lo 0) = ws := by
  apply clear_same
  intro k h1 h2
  simp only [partB] at h1 h2
  omega
theorem clear_next {ws : List Int} {lo j : Nat} (h : lo + j < ws.length) : (intV (clearW ws (partB lo j))).set (lo + j) (.int .i64 0) = intV (clearW ws (partB lo (j + 1))) := by
  apply List.ext_getElem?
  intro i
  rw [List.getElem?_set, intV_length, clearW_length]
  by_cases hi : i < ws.length
  · have h2 : i < (clearW ws (partB lo (j + 1))).length := by rw [clearW_length]; exact hi
    have h3 : i < (clearW ws (partB lo j)).length := by rw [clearW_length]; exact hi
    rw [intV_get h2, ← wdAt_lt h2, wdAt_clear hi, intV_get h3, ← wdAt_lt h3, wdAt_clear hi]
    by_cases e : lo + j = i
    · rw [if_pos e, if_pos h, if_pos (by simp only [partB]; omega)]
    · rw [if_neg e]
      by_cases e2 : lo ≤ i ∧ i < lo + j
      · rw [if_pos (by simp only [partB]; omega), if_pos (by simp only [partB]; omega)]
      · rw [if_neg (by simp only [partB]; omega), if_neg (by simp only [partB]; omega)]
  · rw [if_neg (by omega), List.getElem?_eq_none (by rw [intV_length, clearW_length]; omega), List.getElem?_eq_none (by rw [intV_length, clearW_length]; omega)]
theorem slot_div {pg s n : Nat} (hn : 1 ≤ n) (h : s * n + n ≤ 64) : (64 * pg + s * n) % 64 / n = s := by
  have h1 : (64 * pg + s * n) % 64 = s * n := by omega
  rw [h1, Nat.mul_div_cancel _ (by omega)]
theorem rows_kept {its its' : List MItem} (h : its'.map MItem.cells = its.map MItem.cells) : rowsOf its' = rowsOf its := by
  have hl : its'.length = its.length := by simpa using congrArg List.length h
  have hxs : its'.map (fun a => a.x) = its.map (fun a => a.x) := by
    apply List.ext_getElem (by simpa using hl)
    intro t h1 h2
    simp only [List.getElem_map]
    have := congrArg (fun l => l[t]?) h
    simp only [List.getElem?_map] at this
    rw [List.getElem?_eq_getElem (by simpa using h1), List.getElem?_eq_getElem (by simpa using h2)] at this
    simp only [Option.map_some, Option.some.injEq] at this
    unfold MItem.cells at this
    have := congrArg List.getLast? this
    simpa using this
  unfold rowsOf
  rw [← List.flatMap_map (fun a : MItem => a.x) rowOf, ← List.flatMap_map (fun a : MItem => a.x) rowOf, hxs]
theorem setRun_one {ps : List Pg} {f j : Nat} {g : Nat → Pg} (h : f + j < ps.length) : (setRun ps f j g).set (f + j) (g j) = setRun ps f (j + 1) g := by
  apply pages_ext
  · rw [List.length_set, setRun_length (by omega), setRun_length (by omega)]
  · intro i hi
    rw [pgAt_set (by rw [setRun_length (by omega)]; exact h), pgAt_setRun (by omega), pgAt_setRun (by omega)]
    by_cases e : i = f + j
    · subst e
      rw [if_pos rfl, if_pos (by omega), show f + j - f = j by omega]
    · rw [if_neg e]
      by_cases e2 : f ≤ i ∧ i < f + j
      · rw [if_pos e2, if_pos (by omega)]
      · rw [if_neg e2, if_neg (by omega)]
set_option maxHeartbeats 4000000 in
theorem RFree_run {v : AVal} {ps : List Pg} {ws : List Int} (a : Int) (hv : VH v ps ws) (hb : Bd ps ws) (hk : 9500 ≤ k) : ∃ v', pureRun (callN lawProg (k + 1)) (.func 31 [] []) [v, .int .i64 a] = some (.tuple [v', .int .i64 (freeH ps ws a).e], true) ∧ VH v' (freeH ps ws a).ps (freeH ps ws a).ws := by
  have hv0 := hv
  have hask := fun (σ : AMem) => ask_call (k := k) (σ := σ) a hv hb (by omega)
  obtain ⟨X0, Y0, rfl, hX0, hY0⟩ := hv.cells
  obtain ⟨σ0, hσ0⟩ : ∃ s, s = (AMem.empty.push (.row 2 true [X0, Y0])).push (.row 2 true [.vs .nil [], .vs .nil []]) := ⟨_, rfl⟩
  have n0 : σ0.next = 2 := by rw [hσ0]; simp [next_empty]
  have g0 : σ0.get 0 = some (.row 2 true [X0, Y0]) := by rw [hσ0]; simp [AMem.get_push, next_empty]
  have g1 : σ0.get 1 = some (.row 2 true [.vs .nil [], .vs .nil []]) := by rw [hσ0]; simp [AMem.get_push, next_empty]
  have fin : ∀ (T1 : Tr AVal) (σ' : AMem) (o0 o1 : AVal) (e : Int) (v' : AVal) (S : List Nat) (qs : List Pg) (us : List Int), execC lawProg (callN lawProg k) k 31 84 (bodyOf Try.f31) (initT 0 [.agg [X0, Y0], .int .i64 a] .nil) AMem.empty = some (.ret, T1, σ') → T1.get 4 = some (.ptr 1 0) → T1.get 5 = some (.int .i64 e) → σ'.get 1 = some (.row 2 true [o0, o1]) → snapF true σ' 11 (.agg [o0, o1]) = some (v', S) → VH v' qs us → ∃ v', pureRun (callN lawProg (k + 1)) (.func 31 [] []) [.agg [X0, Y0], .int .i64 a] = some (.tuple [v', .int .i64 e], true) ∧ VH v' qs us := by
    intro T1 σ' o0 o1 e v' S qs us r1 r2 r3 r5 hS hvh
    refine ⟨v', ?_, hvh⟩
    refine pureRun_of (vs := [.agg [o0, o1], .int .i64 e]) (seen := S ++ ([] ++ [])) fn31 rfl (by simp [Try.f31]) r1 (by simp) ?_ ?_
    · simp only [Try.f31, resultsA, resultA, dx, reduceIte, Nat.reduceLT, Nat.reduceLeDiff, Nat.reduceEqDiff, Nat.reduceAdd, Nat.reduceMul, Nat.reduceSub, Nat.reduceBEq, Int.reduceEq, Int.reduceLT, Int.reduceLE, Int.reduceToNat, reduceCtorEq, sx, fx31, r2, r3, r5]
    · have c2 : snapF true σ' 11 (.int .i64 e) = some (.int .i64 e, []) := rfl
      show snapF true σ' (11 + 1) (.tuple [.agg [o0, o1], .int .i64 e]) = _
      rw [snapF]
      simp only [snapL, hS, c2, Option.map_some]
  have bad : ∀ e : Int, e ≠ 0 → askH ps ws a = (0, e) → freeH ps ws a = ⟨[], [], 0, e⟩ → ∃ v', pureRun (callN lawProg (k + 1)) (.func 31 [] []) [.agg [X0, Y0], .int .i64 a] = some (.tuple [v', .int .i64 (freeH ps ws a).e], true) ∧ VH v' (freeH ps ws a).ps (freeH ps ws a).ws := by
    intro e he h1 h2
    rw [h1] at hask
    rw [h2]
    have hb1 : (e != 0) = true := by rw [bne_iff_ne]; exact he
    have run : ∃ T1, execC lawProg (callN lawProg k) k 31 84 (bodyOf Try.f31) (initT 0 [.agg [X0, Y0], .int .i64 a] .nil) AMem.empty = some (.ret, T1, σ0.put 1 (.row 2 true [.vs .nil [], .vs .nil []])) ∧ T1.get 4 = some (.ptr 1 0) ∧ T1.get 5 = some (.int .i64 e) := by
      simp only [bodyOf, Try.f31, Option.getD_some, initT, dx, reduceIte, Nat.reduceLT, Nat.reduceLeDiff, Nat.reduceEqDiff, Nat.reduceAdd, Nat.reduceMul, Nat.reduceSub, Nat.reduceBEq, Int.reduceEq, Int.reduceLT, Int.reduceLE, Int.reduceToNat, reduceCtorEq, sx, fx31, hX0, hY0, ← hσ0]
      simp only [dx, reduceIte, Nat.reduceLT, Nat.reduceLeDiff, Nat.reduceEqDiff, Nat.reduceAdd, Nat.reduceMul, Nat.reduceSub, Nat.reduceBEq, Int.reduceEq, Int.reduceLT, Int.reduceLE, Int.reduceToNat, reduceCtorEq, sx, fx31, g0, g1, hask, hb1]
      exact ⟨_, rfl, by simp only [Tr.get_set, Nat.reduceEqDiff, reduceIte], by simp only [Tr.get_set, Nat.reduceEqDiff, reduceIte]⟩
    obtain ⟨T1, r1, r2, r3⟩ := run
    exact fin T1 _ _ _ e _ _ [] [] r1 r2 r3 (by rw [AMem.get_put, if_pos rfl]) (snap_hp0 _ 9) nil_vh
  cases hrb : rightB ps ws with
  | false => exact bad 4 (by omega) (by unfold askH; rw [hrb]; rfl) (by unfold freeH; rw [hrb]; rfl)
  | true =>
    have hright := rightB_iff.1 hrb
    cases hf : findL ps a with
    | none => exact bad 7 (by omega) (by unfold askH; rw [hrb, if_pos rfl, hf]) (by unfold freeH; rw [hrb, if_pos rfl, hf])
    | some b =>
      have hmany := hright.many
      have hwl := hright.len
      obtain ⟨hbm, hba⟩ := findL_some hf
      obtain ⟨lo, n, hlo, hn, hn1, hln, hpg⟩ := blk_nat hright hbm
      have hab : a = (lo : Nat) := by rw [← hba, hlo]
      have hak : askH ps ws a = (((n : Nat) : Int), 0) := by unfold askH; rw [hrb, if_pos rfl, hf]; simp only [hn]
      rw [hak] at hask
      have hres : freeH ps ws a = ⟨freeL ps b, clearW ws b, 0, 0⟩ := by unfold freeH; rw [hrb, if_pos rfl, hf]
      rw [hres]
      clear bad
      subst hab
      obtain ⟨σ2, X, W, its, hcp, ex2, hC⟩ := copy_exec (k := k - 1) (σ := σ0) hv0 hb (by omega)
      rw [show k - 1 + 1 = k by omega] at hcp
      rw [n0] at hC
      obtain ⟨pr, wr, rfl, rfl, hM0⟩ := hC.heap (by omega) (by omega)
      have hil := pg_len hM0.pi
      obtain ⟨sp, hsp⟩ : ∃ s, s = σ2.next := ⟨_, rfl⟩
      have hx2 := ex2.1
      obtain ⟨σ3, hσ3⟩ : ∃ s, s = (σ2.push (.row 2 true [.vs .nil [], .vs .nil []])).put sp (.row 2 true [.slice pr 0 its.length none 3, .slice wr 0 ws.length none 1]) := ⟨_, rfl⟩
      have n3 : σ3.next = sp + 1 := by rw [hσ3, hsp]; simp
      have hM : HeapM 2 σ3 sp pr none wr none its ps ws := by
        rw [hσ3, hsp]
        refine hM0.agree (fun r _ => ?_) (by simp)
        rw [AMem.get_put, AMem.get_push]
        by_cases e : σ2.next = r
        · rw [if_pos e, AMem.get_push, if_pos e]
        · rw [if_neg e, if_neg e, AMem.get_push, if_neg e]
      have ms3 : σ3.get sp = some (.row 2 true [.slice pr 0 its.length none 3, .slice wr 0 ws.length none 1]) := hM.own.ms
      obtain ⟨l1, l2, l3⟩ := hM.own.lo
      have low3 : ∀ r, r < 2 → σ3.get r = σ0.get r := fun r hr => by rw [hσ3, AMem.get_put, if_neg (by omega), AMem.get_push, if_neg (by omega), ex2.2 r (by omega)]
      obtain ⟨b1, hbp, b3, b4, b5, b6⟩ := blk_page hright.shape hbm
      have hdiv : lo / 64 = b.page := by rw [hlo] at b3 b4; omega
      have w1 : IntKind.i64.wrap (((lo : Nat) : Int) + ((n : Nat) : Int)) = ((lo + n : Nat) : Int) := by rw [i64_id (by omega) (by omega)]; omega
      have w2 : IntKind.i64.wrap (((lo : Nat) : Int).tdiv 64) = ((b.page : Nat) : Int) := by
        have : ((lo : Nat) : Int).tdiv 64 = ((lo / 64 : Nat) : Int) := rfl
        rw [this, hdiv]
        exact i64_id (by omega) (by omega)
      have h64 : ¬ (64 : Int) = 0 := by omega
      -- the words
      have hclr : clearW ws (partB lo n) = clearW ws b := clear_ext (by rw [hlo]; rfl) (by rw [hn]; rfl)
      have run : ∃ T1 σ' its' o0 o1, execC lawProg (callN lawProg k) k 31 84 (bodyOf Try.f31) (initT 0 [.agg [X0, Y0], .int .i64 (lo : Nat)] .nil) AMem.empty = some (.ret, T1, σ') ∧ T1.get 4 = some (.ptr 1 0) ∧ T1.get 5 = some (.int .i64 0) ∧ σ'.get 1 = some (.row 2 true [o0, o1]) ∧ o0 = .slice pr 0 its'.length none 3 ∧ o1 = .slice wr 0 (clearW ws b).length none 1 ∧ HeapM 2 σ' sp pr none wr none its' (freeL ps b) (clearW ws b) := by
        simp only [bodyOf, Try.f31, Option.getD_some, initT, dx, reduceIte, Nat.reduceLT, Nat.reduceLeDiff, Nat.reduceEqDiff, Nat.reduceAdd, Nat.reduceMul, Nat.reduceSub, Nat.reduceBEq, Int.reduceEq, Int.reduceLT, Int.reduceLE, Int.reduceToNat, reduceCtorEq, sx, fx31, hX0, hY0, ← hσ0]
        simp only [dx, reduceIte, Nat.reduceLT, Nat.reduceLeDiff, Nat.reduceEqDiff, Nat.reduceAdd, Nat.reduceMul, Nat.reduceSub, Nat.reduceBEq, Int.reduceEq, Int.reduceLT, Int.reduceLE, Int.reduceToNat, reduceCtorEq, sx, fx31, g0, hask, hcp, show ((0 : Int) != 0) = false from rfl, ← hsp, ← hσ3]
        generalize hL : execC _ _ _ _ _ (Code.loop _) _ _ = q
        obtain ⟨e, T', σ4, rfl, _, rfl, t1, t4, t6, t8, n4, low4, hM4⟩ : ∃ e T' σ', q = some (e, T', σ') ∧ e ≠ .normal ∧ e = .exit 0 ∧ T'.get 1 = some (.int .i64 (lo : Nat)) ∧ T'.get 4 = some (.ptr 1 0) ∧ T'.get 6 = some (.int .i64 (n : Nat)) ∧ T'.get 8 = some (.ptr sp 0) ∧ σ'.next = sp + 1 ∧ (∀ r, r < 2 → σ'.get r = σ0.get r) ∧ HeapM 2 σ' sp pr none wr none its ps (clearW ws (partB lo n)) := by
          rw [← hL]
          refine exec_loop (fun j T σ' => j ≤ n ∧ T.get 1 = some (.int .i64 (lo : Nat)) ∧ T.get 4 = some (.ptr 1 0) ∧ T.get 6 = some (.int .i64 (n : Nat)) ∧ T.get 8 = some (.ptr sp 0) ∧ T.get 9 = some (.int .i64 ((lo + j : Nat) : Int)) ∧ σ'.next = sp + 1 ∧ (∀ r, r < 2 → σ'.get r = σ0.get r) ∧ HeapM 2 σ' sp pr none wr none its ps (clearW ws (partB lo j))) n (by omega) ?_ ?_ ?_
          · rintro j hj T σ' ⟨_, t1, t4, t6, t8, t9, nx, lw, hMj⟩
            have hlt : ((lo + j : Nat) : Int) < ((lo + n : Nat) : Int) := by omega
            have hlt2 : ((lo + j : Nat) : Int) < (((clearW ws (partB lo j)).length : Nat) : Int) := by rw [clearW_length]; omega
            have hw' := i64_succ (i := lo + j) (by omega)
            have msj := hMj.own.ms
            have mwj := hMj.own.mw
            have hin : lo + j + 1 ≤ (clearW ws (partB lo j)).length := by rw [clearW_length]; omega
            have hnx := clear_next (ws := ws) (lo := lo) (j := j) (by omega)
            have hM' := hMj.wordsTo (vs := clearW ws (partB lo (j + 1))) (by rw [clearW_length, clearW_length])
            refine ⟨_, _, by
              simp only [dx, reduceIte, Nat.reduceLT, Nat.reduceLeDiff, Nat.reduceEqDiff, Nat.reduceAdd, Nat.reduceMul, Nat.reduceSub, Nat.reduceBEq, Int.reduceEq, Int.reduceLT, Int.reduceLE, Int.reduceToNat, reduceCtorEq, sx, fx31, t1, t6, t8, t9, w1, hlt, msj, mwj, hlt2, intV_length, hin, hnx, Int.natCast_nonneg, Int.toNat_natCast, hw']
              rfl, by omega, ?_, ?_, ?_, ?_, ?_, ?_, fun r hr => ?_, hM'⟩
            · simp only [Tr.get_set, Nat.reduceEqDiff, reduceIte, t1]
            · simp only [Tr.get_set, Nat.reduceEqDiff, reduceIte, t4]
            · simp only [Tr.get_set, Nat.reduceEqDiff, reduceIte, t6]
            · simp only [Tr.get_set, Nat.reduceEqDiff, reduceIte, t8]
            · simp only [Tr.get_set, Nat.reduceEqDiff, reduceIte]
              rfl
            · simpa using nx
            · rw [AMem.get_put, if_neg (by omega)]; exact lw r hr
          · rintro T σ' ⟨_, t1, t4, t6, t8, t9, nx, lw, hMj⟩
            have hge : ¬ (((lo + n : Nat) : Int) < ((lo + n : Nat) : Int)) := by omega
            refine ⟨_, _, _, by
              simp only [dx, reduceIte, Nat.reduceLT, Nat.reduceLeDiff, Nat.reduceEqDiff, Nat.reduceAdd, Nat.reduceMul, Nat.reduceSub, Nat.reduceBEq, Int.reduceEq, Int.reduceLT, Int.reduceLE, Int.reduceToNat, reduceCtorEq, sx, fx31, t1, t6, t9, w1, hge]
              rfl, by simp, rfl, ?_, ?_, ?_, ?_, nx, lw, hMj⟩
            · simp only [Tr.get_set, Nat.reduceEqDiff, reduceIte, t1]
            · simp only [Tr.get_set, Nat.reduceEqDiff, reduceIte, t4]
            · simp only [Tr.get_set, Nat.reduceEqDiff, reduceIte, t6]
            · simp only [Tr.get_set, Nat.reduceEqDiff, reduceIte, t8]
          · refine ⟨Nat.zero_le _, ?_, ?_, ?_, ?_, ?_, n3, low3, by rw [clear_none]; exact hM⟩
            all_goals simp only [Tr.get_set, Nat.reduceEqDiff, reduceIte] <;> rfl
        rw [hclr] at hM4
        have ms4 := hM4.own.ms
        have mp4 := hM4.own.mp
        have hlen := items_len (pg_two hM4.pi)
        have hpi : b.page < its.length := by omega
        have hlt : ((b.page : Nat) : Int) < ((its.length : Nat) : Int) := by omega
        have hg0 := pg_get (j := 0) hM4.pi hpi (by omega)
        simp only [List.getElem?_cons_zero, Nat.add_zero] at hg0
        have g14 : σ4.get 1 = some (.row 2 true [.vs .nil [], .vs .nil []]) := by rw [low4 1 (by omega)]; exact g1
        have hsp2 : 2 ≤ sp := l1
        by_cases k2 : (pgAt ps b.page).kind = 2
        · have hb1 : ((pgAt ps b.page).kind == 2) = true := by rw [k2]; rfl
          have hhead : b = headB b.page (pgAt ps b.page) := by
            rcases mem_pgB.1 hbp with ⟨_, e⟩ | ⟨e, _⟩
            · exact e
            · omega
          obtain ⟨hd1, hd2, _⟩ := head_more hright.shape hpg k2
          obtain ⟨m, hm⟩ : ∃ m : Nat, (pgAt ps b.page).n = (m : Nat) := ⟨(pgAt ps b.page).n.toNat, by omega⟩
          have hnm : n = 64 * m := by
            have : b.size = 64 * (pgAt ps b.page).n := by rw [hhead]; rfl
            rw [hm, hn] at this
            omega
          have w3 : IntKind.i64.wrap (((n : Nat) : Int).tdiv 64) = ((m : Nat) : Int) := by
            have : ((n : Nat) : Int).tdiv 64 = ((n / 64 : Nat) : Int) := rfl
            rw [this, show n / 64 = m by omega]
            exact i64_id (by omega) (by omega)
          have w4 : IntKind.i64.wrap (((b.page : Nat) : Int) + ((m : Nat) : Int)) = ((b.page + m : Nat) : Int) := by rw [i64_id (by omega) (by omega)]; omega
          simp only [dx, reduceIte, Nat.reduceLT, Nat.reduceLeDiff, Nat.reduceEqDiff, Nat.reduceAdd, Nat.reduceMul, Nat.reduceSub, Nat.reduceBEq, Int.reduceEq, Int.reduceLT, Int.reduceLE, Int.reduceToNat, reduceCtorEq, sx, fx31, t1, t8, w2, h64, ms4, mp4, hlt, hg0, hb1, Int.natCast_nonneg, Int.toNat_natCast]
          generalize hL2 : execC _ _ _ _ _ (Code.loop _) _ _ = q2
          obtain ⟨e, T5, σ5, rfl, _, rfl, u4, u8, its5, hl5, n5, low5, hM5⟩ : ∃ e T' σ', q2 = some (e, T', σ') ∧ e ≠ .normal ∧ e = .exit 2 ∧ T'.get 4 = some (.ptr 1 0) ∧ T'.get 8 = some (.ptr sp 0) ∧ ∃ its', its'.length = its.length ∧ σ'.next = sp + 1 ∧ (∀ r, r < 2 → σ'.get r = σ0.get r) ∧ HeapM 2 σ' sp pr none wr none its' (setRun ps b.page m fun _ => noPg) (clearW ws b) := by
            rw [← hL2]
            refine exec_loop (fun j T σ' => j ≤ m ∧ T.get 4 = some (.ptr 1 0) ∧ T.get 6 = some (.int .i64 (n : Nat)) ∧ T.get 8 = some (.ptr sp 0) ∧ T.get 10 = some (.int .i64 (b.page : Nat)) ∧ T.get 11 = some (.int .i64 ((b.page + j : Nat) : Int)) ∧ ∃ its', its'.length = its.length ∧ σ'.next = sp + 1 ∧ (∀ r, r < 2 → σ'.get r = σ0.get r) ∧ HeapM 2 σ' sp pr none wr none its' (setRun ps b.page j fun _ => noPg) (clearW ws b)) m (by omega) ?_ ?_ ?_
            · rintro j hj T σ' ⟨_, u4, u6, u8, u10, u11, itsj, hlj, nx, lw, hMj⟩
              have hltj : ((b.page + j : Nat) : Int) < ((b.page + m : Nat) : Int) := by omega
              have hlt2 : ((b.page + j : Nat) : Int) < ((itsj.length : Nat) : Int) := by omega
              have hw' := i64_succ (i := b.page + j) (by omega)
              have msj := hMj.own.ms
              have mpj := hMj.own.mp
              have hlenj := items_len (pg_two hMj.pi)
              have hin : (b.page + j) * 3 + 3 ≤ itsj.length * 3 := by omega
              have hrec := hMj.record (i := b.page + j) (by rw [setRun_length (by omega)]; omega) (Ext.refl _) (by omega) noPg (.vs .nil []) (.inl ⟨rfl, rfl⟩)
              rw [setRun_one (ps := ps) (f := b.page) (j := j) (g := fun _ => noPg) (by omega)] at hrec
              refine ⟨_, _, by
                simp only [dx, reduceIte, Nat.reduceLT, Nat.reduceLeDiff, Nat.reduceEqDiff, Nat.reduceAdd, Nat.reduceMul, Nat.reduceSub, Nat.reduceBEq, Int.reduceEq, Int.reduceLT, Int.reduceLE, Int.reduceToNat, reduceCtorEq, sx, fx31, u4, u6, u8, u10, u11, w3, w4, h64, hltj, msj, mpj, hlt2, hlenj, hin, Int.natCast_nonneg, Int.toNat_natCast, hw']
                rfl, by omega, ?_, ?_, ?_, ?_, ?_, _, ?_, ?_, fun r hr => ?_, hrec⟩
              · simp only [Tr.get_set, Nat.reduceEqDiff, reduceIte, u4]
              · simp only [Tr.get_set, Nat.reduceEqDiff, reduceIte, u6]
              · simp only [Tr.get_set, Nat.reduceEqDiff, reduceIte, u8]
              · simp only [Tr.get_set, Nat.reduceEqDiff, reduceIte, u10]
              · simp only [Tr.get_set, Nat.reduceEqDiff, reduceIte]
                rfl
              · rw [List.length_set]; exact hlj
              · simpa using nx
              · rw [AMem.get_put, if_neg (by omega)]; exact lw r hr
            · rintro T σ' ⟨_, u4, u6, u8, u10, u11, itsj, hlj, nx, lw, hMj⟩
              have hge : ¬ (((b.page + m : Nat) : Int) < ((b.page + m : Nat) : Int)) := by omega
              refine ⟨_, _, _, by
                simp only [dx, reduceIte, Nat.reduceLT, Nat.reduceLeDiff, Nat.reduceEqDiff, Nat.reduceAdd, Nat.reduceMul, Nat.reduceSub, Nat.reduceBEq, Int.reduceEq, Int.reduceLT, Int.reduceLE, Int.reduceToNat, reduceCtorEq, sx, fx31, u6, u10, u11, w3, w4, h64, hge]
                rfl, by simp, rfl, ?_, ?_, itsj, hlj, nx, lw, hMj⟩
              · simp only [Tr.get_set, Nat.reduceEqDiff, reduceIte, u4]
              · simp only [Tr.get_set, Nat.reduceEqDiff, reduceIte, u8]
            · refine ⟨Nat.zero_le _, ?_, ?_, ?_, ?_, ?_, its, rfl, n4, low4, ?_⟩
              · simp only [Tr.get_set, Nat.reduceEqDiff, reduceIte, t4]
              · simp only [Tr.get_set, Nat.reduceEqDiff, reduceIte, t6]
              · simp only [Tr.get_set, Nat.reduceEqDiff, reduceIte, t8]
              · simp only [Tr.get_set, Nat.reduceEqDiff, reduceIte]
              · simp only [Tr.get_set, Nat.reduceEqDiff, reduceIte] <;> rfl
              · have : setRun ps b.page 0 (fun _ => noPg) = ps := by unfold setRun; simp
                rw [this]
                exact hM4
          have ms5 := hM5.own.ms
          have g15 : σ5.get 1 = some (.row 2 true [.vs .nil [], .vs .nil []]) := by rw [low5 1 (by omega)]; exact g1
          simp only [dx, reduceIte, Nat.reduceLT, Nat.reduceLeDiff, Nat.reduceEqDiff, Nat.reduceAdd, Nat.reduceMul, Nat.reduceSub, Nat.reduceBEq, Int.reduceEq, Int.reduceLT, Int.reduceLE, Int.reduceToNat, reduceCtorEq, sx, fx31, u4, u8, ms5, g15]
          refine ⟨_, _, its5, _, _, rfl, by simp only [Tr.get_set, Nat.reduceEqDiff, reduceIte, u4], by simp only [Tr.get_set, Nat.reduceEqDiff, reduceIte], by rw [AMem.get_put, if_pos rfl], rfl, rfl, ?_⟩
          unfold freeL
          rw [if_pos k2, hm, Int.toNat_natCast]
          exact hM5.agree (fun r hr => by rw [AMem.get_put, if_neg (by omega)]) (by simp)
        · have hb1 : ((pgAt ps b.page).kind == 2) = false := by rw [beq_eq_false_iff_ne]; exact k2
          rcases mem_pgB.1 hbp with ⟨e, _⟩ | ⟨k1, s, hs, hu, hbs⟩
          · exact absurd e k2
          have hslot : b.slot = s := by rw [hbs]; rfl
          obtain ⟨sb1, sb2, sb3⟩ := slot_bound (hright.shape b.page hpg) k1 hs
          have hnp : (pgAt ps b.page).n = (n : Nat) := by
            have : b.size = (pgAt ps b.page).n := by rw [hbs]; rfl
            rw [← this, hn]
          rw [hnp] at sb1 sb2 sb3
          have hsn : s * n + n ≤ 64 := by
            have : ((s * n : Nat) : Int) = (s : Int) * (n : Int) := by simp
            omega
          have hlos : lo = 64 * b.page + s * n := by
            have : b.at_ = 64 * (b.page : Int) + (s : Int) * (pgAt ps b.page).n := by rw [hbs]; rfl
            rw [hlo, hnp] at this
            have h2 : ((s * n : Nat) : Int) = (s : Int) * (n : Int) := by simp
            omega
          have w5 : ((lo : Nat) : Int).tmod 64 = ((lo % 64 : Nat) : Int) := rfl
          have w6 : IntKind.i64.wrap (((lo % 64 : Nat) : Int).tdiv ((n : Nat) : Int)) = ((s : Nat) : Int) := by
            have h1 : ((lo % 64 : Nat) : Int).tdiv ((n : Nat) : Int) = ((lo % 64 / n : Nat) : Int) := rfl
            have h2 : lo % 64 / n = s := by rw [hlos]; exact slot_div hn1 hsn
            have h3 : s ≤ 64 := by
              have : s * 1 ≤ s * n := Nat.mul_le_mul_left _ hn1
              omega
            rw [h1, h2]
            exact i64_id (by omega) (by omega)
          have hnz : ¬ ((n : Nat) : Int) = 0 := by omega
          have hu0 : (pgAt ps b.page).used ≠ [] := fun e => by rw [e] at hs; simp at hs
          obtain ⟨r, cap, r1, r2, r3, r4⟩ := own_used hM4.own hM4.pi hM4.ox hpi hu0
          have hg2 := pg_get (j := 2) hM4.pi hpi (by omega)
          simp only [List.getElem?_cons_succ, List.getElem?_cons_zero, r1] at hg2
          obtain ⟨us, hus⟩ : ∃ u, u = (pgAt ps b.page).used.set s false := ⟨_, rfl⟩
          obtain ⟨σ5, hσ5⟩ : ∃ m, m = σ4.put r (.row 1 false ((boolV (pgAt ps b.page).used).set s (.bool false))) := ⟨_, rfl⟩
          have hM5 := hM4.slot (j := s) hpi r1 false
          rw [← hσ5] at hM5
          obtain ⟨its5, hM5, hcells⟩ := hM5
          have hl5 : its5.length = its.length := by simpa using congrArg List.length hcells
          have qrs : ¬ r = sp := fun e => hM4.own.ns (by rw [← e]; exact mem_rowsOf (List.getElem_mem hpi) (by rw [r1]; simp [rowOf]))
          have qrp : ¬ r = pr := fun e => hM4.own.it.2.2 (by rw [← e]; exact mem_rowsOf (List.getElem_mem hpi) (by rw [r1]; simp [rowOf]))
          have ms5 : σ5.get sp = some (.row 2 true [.slice pr 0 its.length none 3, .slice wr 0 (clearW ws b).length none 1]) := by rw [hσ5, AMem.get_put, if_neg qrs]; exact ms4
          have mp5 : σ5.get pr = some (.row 3 true (its.map MItem.cells).flatten) := by rw [hσ5, AMem.get_put, if_neg qrp]; exact mp4
          have gr5 : σ5.get r = some (.row 1 false (boolV us)) := by rw [hσ5, AMem.get_put, if_pos rfl, hus, boolV_set]
          have hul : us.length = (pgAt ps b.page).used.length := by rw [hus, List.length_set]
          have hsc := small_cases (hright.shape b.page hpg) k1
          have hlts : ((s : Nat) : Int) < (((pgAt ps b.page).used.length : Nat) : Int) := by omega
          have hin : s + 1 ≤ (pgAt ps b.page).used.length := by omega
          have hrl : 2 ≤ r := r2
          have n5 : σ5.next = sp + 1 := by rw [hσ5]; simpa using n4
          have g15 : σ5.get 1 = some (.row 2 true [.vs .nil [], .vs .nil []]) := by rw [hσ5, AMem.get_put, if_neg (by omega)]; exact g14
          have hload := pg_load hM4.pi hpi
          rw [r1] at hload
          have hin3 : b.page * 3 + 3 ≤ its.length * 3 := by omega
          have hsnap : snapF false σ5 snapDepth (.agg [.int .u8 (pgAt ps b.page).kind, .int .i64 (pgAt ps b.page).n, .slice r 0 (pgAt ps b.page).used.length cap 1]) = some (pv (⟨(pgAt ps b.page).kind, (pgAt ps b.page).n, us⟩, .some), [] ++ ([] ++ ([r] ++ []))) := by
            have h1 := snap_bools (fr := false) (d := 9) (cap := cap) hul.symm gr5
            have c1 : snapF false σ5 11 (.int .u8 (pgAt ps b.page).kind) = some (.int .u8 (pgAt ps b.page).kind, []) := rfl
            have c2 : snapF false σ5 11 (.int .i64 (pgAt ps b.page).n) = some (.int .i64 (pgAt ps b.page).n, []) := rfl
            show snapF false σ5 (11 + 1) _ = _
            rw [snapF]
            simp only [snapL, h1, c1, c2, Option.map_some]
            rfl
          have hmy := many_snap (k := k) hsnap (by simp only; omega) (by omega)
          simp only at hmy
          have hca := count_any us
          have husA : useAt (pgAt ps b.page) s false = { pgAt ps b.page with used := us } := by unfold useAt; rw [hus]
          have hg0' := hg0
          cases hany : us.any id with
          | true =>
            rw [hany] at hca
            have hc0 : (((us.countP id : Nat) : Int) == 0) = false := by
              cases h : (((us.countP id : Nat) : Int) == 0) with
              | false => rfl
              | true => rw [h] at hca; cases hca
            have hfree : freeL ps b = ps.set b.page (useAt (pgAt ps b.page) s false) := by
              unfold freeL
              rw [if_neg k2, hslot, husA, hany, if_pos rfl]
            simp only [dx, reduceIte, Nat.reduceLT, Nat.reduceLeDiff, Nat.reduceEqDiff, Nat.reduceAdd, Nat.reduceMul, Nat.reduceSub, Nat.reduceBEq, Int.reduceEq, Int.reduceLT, Int.reduceLE, Int.reduceToNat, reduceCtorEq, sx, fx31, t1, t6, t8, w2, w5, w6, h64, hnz, ms4, mp4, hlt, hg0, hg2, hb1, r4, hlts, hin, boolV_length, Int.natCast_nonneg, Int.toNat_natCast, ← hσ5]
            simp only [dx, reduceIte, Nat.reduceLT, Nat.reduceLeDiff, Nat.reduceEqDiff, Nat.reduceAdd, Nat.reduceMul, Nat.reduceSub, Nat.reduceBEq, Int.reduceEq, Int.reduceLT, Int.reduceLE, Int.reduceToNat, reduceCtorEq, sx, fx31, t4, t8, ms5, mp5, hlt, hload, hlen, hin3, hmy, hc0, g15, Int.natCast_nonneg, Int.toNat_natCast]
            refine ⟨_, _, its5, _, _, rfl, by simp only [Tr.get_set, Nat.reduceEqDiff, reduceIte, t4], by simp only [Tr.get_set, Nat.reduceEqDiff, reduceIte], by rw [AMem.get_put, if_pos rfl], by rw [hl5], rfl, ?_⟩
            rw [hfree]
            exact hM5.agree (fun r hr => by rw [AMem.get_put, if_neg (by omega)]) (by simp)
          | false =>
            rw [hany] at hca
            have hc0 : (((us.countP id : Nat) : Int) == 0) = true := by
              cases h : (((us.countP id : Nat) : Int) == 0) with
              | true => rfl
              | false => rw [h] at hca; cases hca
            have hfree : freeL ps b = ps.set b.page noPg := by
              unfold freeL
              rw [if_neg k2, hslot, husA, hany, if_neg (by simp)]
            have hM6 := hM5.record (σ1 := σ5) (i := b.page) (by rw [List.length_set]; omega) (Ext.refl _) (by omega) noPg (.vs .nil []) (.inl ⟨rfl, rfl⟩)
            rw [hcells, List.set_set] at hM6
            obtain ⟨σ6, hσ6⟩ : ∃ m, m = σ5.put pr (.row 3 true (((((its.map MItem.cells).flatten).set (b.page * 3) (.int .u8 0)).set (b.page * 3 + 1) (.int .i64 0)).set (b.page * 3 + 1 + 1) (.vs .nil []))) := ⟨_, rfl⟩
            have ms6 : σ6.get sp = some (.row 2 true [.slice pr 0 its.length none 3, .slice wr 0 (clearW ws b).length none 1]) := by rw [hσ6, AMem.get_put, if_neg (fun e => hM4.own.ne.1 e.symm)]; exact ms5
            have g16 : σ6.get 1 = some (.row 2 true [.vs .nil [], .vs .nil []]) := by rw [hσ6, AMem.get_put, if_neg (by omega)]; exact g15
            have hM6' : HeapM 2 σ6 sp pr none wr none (its5.set b.page ⟨[.int .u8 noPg.kind, .int .i64 noPg.n], .vs .nil [], boolV noPg.used⟩) (ps.set b.page noPg) (clearW ws b) := by rw [hσ6]; exact hM6
            simp only [dx, reduceIte, Nat.reduceLT, Nat.reduceLeDiff, Nat.reduceEqDiff, Nat.reduceAdd, Nat.reduceMul, Nat.reduceSub, Nat.reduceBEq, Int.reduceEq, Int.reduceLT, Int.reduceLE, Int.reduceToNat, reduceCtorEq, sx, fx31, t1, t6, t8, w2, w5, w6, h64, hnz, ms4, mp4, hlt, hg0, hg2, hb1, r4, hlts, hin, boolV_length, Int.natCast_nonneg, Int.toNat_natCast, ← hσ5]
            simp only [dx, reduceIte, Nat.reduceLT, Nat.reduceLeDiff, Nat.reduceEqDiff, Nat.reduceAdd, Nat.reduceMul, Nat.reduceSub, Nat.reduceBEq, Int.reduceEq, Int.reduceLT, Int.reduceLE, Int.reduceToNat, reduceCtorEq, sx, fx31, t4, t8, ms5, mp5, hlt, hload, hlen, hin3, hmy, hc0, Int.natCast_nonneg, Int.toNat_natCast, ← hσ6]
            simp only [dx, reduceIte, Nat.reduceLT, Nat.reduceLeDiff, Nat.reduceEqDiff, Nat.reduceAdd, Nat.reduceMul, Nat.reduceSub, Nat.reduceBEq, Int.reduceEq, Int.reduceLT, Int.reduceLE, Int.reduceToNat, reduceCtorEq, sx, fx31, t4, t8, ms6, g16]
            refine ⟨_, _, its5.set b.page ⟨[.int .u8 noPg.kind, .int .i64 noPg.n], .vs .nil [], boolV noPg.used⟩, _, _, rfl, by simp only [Tr.get_set, Nat.reduceEqDiff, reduceIte, t4], by simp only [Tr.get_set, Nat.reduceEqDiff, reduceIte], by rw [AMem.get_put, if_pos rfl], by rw [List.length_set, hl5], rfl, ?_⟩
            rw [hfree]
            exact hM6'.agree (fun r hr => by rw [AMem.get_put, if_neg (by omega)]) (by simp)
      obtain ⟨T1, σ', its', o0, o1, r1, r2, r3, r5, rfl, rfl, hM'⟩ := run
      obtain ⟨v', S, hS, hvh⟩ := hM'.vh (fr := true) 7
      exact fin T1 _ _ _ 0 v' S _ _ r1 r2 r3 r5 hS hvh
theorem RFree_call {v : AVal} {ps : List Pg} {ws : List Int} (a : Int) (hv : VH v ps ws) (hb : Bd ps ws) (hk : 9501 ≤ k) : ∃ v', (∀ σ, pureCall lawProg (callN lawProg k) (.func 31 [] []) [v, .int .i64 a] σ = some (.tuple [v', .int .i64 (freeH ps ws a).e], σ)) ∧ VH v' (freeH ps ws a).ps (freeH ps ws a).ws := by
  obtain ⟨k, rfl⟩ : ∃ m, k = m + 1 := ⟨k - 1, by omega⟩
  obtain ⟨v', h1, h2⟩ := RFree_run a hv hb (k := k) (by omega)
  refine ⟨v', fun σ => pureCall_of (seen := [] ++ ([] ++ [])) ?_ (memo31 _) h1, h2⟩
  have := hv.snap σ 10
  simp only [snapL, snapDepth, this, snapF]
end Go.Proofs.Ytjkfdiglokkceaa

/- Heaps: the reference's Put. -/
set_option maxRecDepth 100000
set_option linter.unusedSimpArgs false
set_option linter.unusedVariables false
namespace Go.Proofs.Ytjkfdiglokkceaa
open Go Go.Proofs.Ytjkfdiglokkceaa.Pale
variable {k : Nat} {σ : AMem}

theorem intV_set (l : List Int) (i : Nat) (x : Int) : (intV l).set i (.int .i64 x) = intV (l.set i x) := by
  unfold intV
  rw [List.map_set]
theorem put_none (ws l : List Int) (lo : Nat) : putW ws (partB lo 0) l = ws := by
  apply words_ext (putW_length _ _ _)
  intro k hk
  rw [putW_length] at hk
  rw [wdAt_put hk, if_neg (by simp only [partB]; omega)]
theorem put_ext {ws l : List Int} {b c : Blk} (h1 : b.at_ = c.at_) (h2 : b.size = c.size) : putW ws b l = putW ws c l := by
  unfold putW
  rw [h1, h2]
theorem wdAt_set {l : List Int} {i k : Nat} {x : Int} (hi : i < l.length) : wdAt (l.set i x) k = if i = k then x else wdAt l k := by
  unfold wdAt
  rw [List.getElem?_set]
  by_cases e : i = k
  · rw [if_pos e, if_pos hi, if_pos e]; rfl
  · rw [if_neg e, if_neg e]
theorem put_next {ws l : List Int} {lo j : Nat} (h : lo + j < ws.length) : (putW ws (partB lo j) l).set (lo + j) (wdAt l j) = putW ws (partB lo (j + 1)) l := by
  apply words_ext (by rw [List.length_set, putW_length, putW_length])
  intro i hi
  rw [List.length_set, putW_length] at hi
  rw [wdAt_set (by rw [putW_length]; exact h), wdAt_put hi, wdAt_put hi]
  have ha : (partB lo (j + 1)).at_.toNat = lo := by simp [partB]
  have hb : (partB lo j).at_.toNat = lo := by simp [partB]
  rw [ha, hb]
  by_cases e : lo + j = i
  · rw [if_pos e, if_pos (by simp only [partB]; omega), show i - lo = j by omega]
  · rw [if_neg e]
    by_cases e2 : lo ≤ i ∧ i < lo + j
    · rw [if_pos (by simp only [partB]; omega), if_pos (by simp only [partB]; omega)]
    · rw [if_neg (by simp only [partB]; omega), if_neg (by simp only [partB]; omega)]
set_option maxHeartbeats 4000000 in
theorem RPut_run {v : AVal} {ps : List Pg} {ws l : List Int} {K : VK} (a : Int) (hv : VH v ps ws) (hb : Bd ps ws) (hl : l.length ≤ 1000) (hk : 9500 ≤ k) : ∃ v', pureRun (callN lawProg (k + 1)) (.func 33 [] []) [v, .int .i64 a, .vs K (intV l)] = some (.tuple [v', .int .i64 (putH ps ws a l).e], true) ∧ VH v' (putH ps ws a l).ps (putH ps ws a l).ws := by
  have hv0 := hv
  have hask := fun (σ : AMem) => ask_call (k := k) (σ := σ) a hv hb (by omega)
  have hin := fun (n : Int) (σ : AMem) => in_call (k := k) (σ := σ) n 0 4294967295 (by omega)
  obtain ⟨X0, Y0, rfl, hX0, hY0⟩ := hv.cells
  obtain ⟨σ0, hσ0⟩ : ∃ s, s = (AMem.empty.push (.row 2 true [X0, Y0])).push (.row 2 true [.vs .nil [], .vs .nil []]) := ⟨_, rfl⟩
  have n0 : σ0.next = 2 := by rw [hσ0]; simp [next_empty]
  have g0 : σ0.get 0 = some (.row 2 true [X0, Y0]) := by rw [hσ0]; simp [AMem.get_push, next_empty]
  have g1 : σ0.get 1 = some (.row 2 true [.vs .nil [], .vs .nil []]) := by rw [hσ0]; simp [AMem.get_push, next_empty]
  have fin : ∀ (T1 : Tr AVal) (σ' : AMem) (o0 o1 : AVal) (e : Int) (v' : AVal) (S : List Nat) (qs : List Pg) (us : List Int), execC lawProg (callN lawProg k) k 33 69 (bodyOf Try.f33) (initT 0 [.agg [X0, Y0], .int .i64 a, .vs K (intV l)] .nil) AMem.empty = some (.ret, T1, σ') → T1.get 6 = some (.ptr 1 0) → T1.get 7 = some (.int .i64 e) → σ'.get 1 = some (.row 2 true [o0, o1]) → snapF true σ' 11 (.agg [o0, o1]) = some (v', S) → VH v' qs us → ∃ v', pureRun (callN lawProg (k + 1)) (.func 33 [] []) [.agg [X0, Y0], .int .i64 a, .vs K (intV l)] = some (.tuple [v', .int .i64 e], true) ∧ VH v' qs us := by
    intro T1 σ' o0 o1 e v' S qs us r1 r2 r3 r5 hS hvh
    refine ⟨v', ?_, hvh⟩
    refine pureRun_of (vs := [.agg [o0, o1], .int .i64 e]) (seen := S ++ ([] ++ [])) fn33 rfl (by simp [Try.f33]) r1 (by simp) ?_ ?_
    · simp only [Try.f33, resultsA, resultA, dx, reduceIte, Nat.reduceLT, Nat.reduceLeDiff, Nat.reduceEqDiff, Nat.reduceAdd, Nat.reduceMul, Nat.reduceSub, Nat.reduceBEq, Int.reduceEq, Int.reduceLT, Int.reduceLE, Int.reduceToNat, reduceCtorEq, sx, fx33, r2, r3, r5]
    · have c2 : snapF true σ' 11 (.int .i64 e) = some (.int .i64 e, []) := rfl
      show snapF true σ' (11 + 1) (.tuple [.agg [o0, o1], .int .i64 e]) = _
      rw [snapF]
      simp only [snapL, hS, c2, Option.map_some]
  have bad : ∀ e : Int, e ≠ 0 → askH ps ws a = (0, e) → putH ps ws a l = ⟨[], [], 0, e⟩ → ∃ v', pureRun (callN lawProg (k + 1)) (.func 33 [] []) [.agg [X0, Y0], .int .i64 a, .vs K (intV l)] = some (.tuple [v', .int .i64 (putH ps ws a l).e], true) ∧ VH v' (putH ps ws a l).ps (putH ps ws a l).ws := by
    intro e he h1 h2
    rw [h1] at hask
    rw [h2]
    have hb1 : (e != 0) = true := by rw [bne_iff_ne]; exact he
    have run : ∃ T1, execC lawProg (callN lawProg k) k 33 69 (bodyOf Try.f33) (initT 0 [.agg [X0, Y0], .int .i64 a, .vs K (intV l)] .nil) AMem.empty = some (.ret, T1, σ0.put 1 (.row 2 true [.vs .nil [], .vs .nil []])) ∧ T1.get 6 = some (.ptr 1 0) ∧ T1.get 7 = some (.int .i64 e) := by
      simp only [bodyOf, Try.f33, Option.getD_some, initT, dx, reduceIte, Nat.reduceLT, Nat.reduceLeDiff, Nat.reduceEqDiff, Nat.reduceAdd, Nat.reduceMul, Nat.reduceSub, Nat.reduceBEq, Int.reduceEq, Int.reduceLT, Int.reduceLE, Int.reduceToNat, reduceCtorEq, sx, fx33, hX0, hY0, ← hσ0]
      simp only [dx, reduceIte, Nat.reduceLT, Nat.reduceLeDiff, Nat.reduceEqDiff, Nat.reduceAdd, Nat.reduceMul, Nat.reduceSub, Nat.reduceBEq, Int.reduceEq, Int.reduceLT, Int.reduceLE, Int.reduceToNat, reduceCtorEq, sx, fx33, g0, g1, hask, hb1]
      exact ⟨_, rfl, by simp only [Tr.get_set, Nat.reduceEqDiff, reduceIte], by simp only [Tr.get_set, Nat.reduceEqDiff, reduceIte]⟩
    obtain ⟨T1, r1, r2, r3⟩ := run
    exact fin T1 _ _ _ e _ _ [] [] r1 r2 r3 (by rw [AMem.get_put, if_pos rfl]) (snap_hp0 _ 9) nil_vh
  cases hrb : rightB ps ws with
  | false => exact bad 4 (by omega) (by unfold askH; rw [hrb]; rfl) (by unfold putH; rw [hrb]; rfl)
  | true =>
    have hright := rightB_iff.1 hrb
    cases hf : findL ps a with
    | none => exact bad 7 (by omega) (by unfold askH; rw [hrb, if_pos rfl, hf]) (by unfold putH; rw [hrb, if_pos rfl, hf])
    | some b =>
      have hmany := hright.many
      have hwl := hright.len
      obtain ⟨hbm, hba⟩ := findL_some hf
      obtain ⟨lo, n, hlo, hn, hn1, hln, hpg⟩ := blk_nat hright hbm
      have hab : a = (lo : Nat) := by rw [← hba, hlo]
      have hak : askH ps ws a = (((n : Nat) : Int), 0) := by unfold askH; rw [hrb, if_pos rfl, hf]; simp only [hn]
      rw [hak] at hask
      clear bad
      have hres : putH ps ws a l = if l.all wordQ then (if l.length > n then ⟨[], [], 0, 5⟩ else ⟨ps, putW ws b l, 0, 0⟩) else ⟨[], [], 0, 3⟩ := by
        unfold putH
        rw [hrb, if_pos rfl, hf]
        have hiff : (((l.length : Nat) : Int) > ((n : Nat) : Int)) ↔ l.length > n := by omega
        simp only [hn, hiff]
      rw [hres]
      subst hab
      -- the loop over the words that are put
      have loop0 : ∀ (T : Tr AVal) (X : Out), T.get 1 = some (.int .i64 (lo : Nat)) → T.get 2 = some (.vs K (intV l)) → T.get 3 = some (.ptr 0 0) → T.get 6 = some (.ptr 1 0) → T.get 8 = some (.int .i64 (n : Nat)) → T.get 10 = some (.int .i64 0) → execC lawProg (callN lawProg k) k 33 69 (innerC (stmtC (bodyOf Try.f33) 5)) T σ0 = X → ∃ e T' σ', X = some (e, T', σ') ∧ ((e = .ret ∧ l.all wordQ = false ∧ σ' = σ0.put 1 (.row 2 true [.vs .nil [], .vs .nil []]) ∧ T'.get 6 = some (.ptr 1 0) ∧ T'.get 7 = some (.int .i64 3)) ∨ (e = .exit 0 ∧ l.all wordQ = true ∧ σ' = σ0 ∧ T'.get 1 = some (.int .i64 (lo : Nat)) ∧ T'.get 2 = some (.vs K (intV l)) ∧ T'.get 3 = some (.ptr 0 0) ∧ T'.get 6 = some (.ptr 1 0) ∧ T'.get 8 = some (.int .i64 (n : Nat)))) := by
        intro T X t1 t2 t3 t6 t8 t10 hX
        rw [← hX]
        obtain ⟨e, T', σ', h1, _, h2⟩ := exec_loop2 (A := lawProg) (call := callN lawProg k) (k := k) (f := 33) (N := 69) (T := T) (σ := σ0) (c := innerC (innerC (stmtC (bodyOf Try.f33) 5))) (R := fun e T' σ' => (e = .ret ∧ l.all wordQ = false ∧ σ' = σ0.put 1 (.row 2 true [.vs .nil [], .vs .nil []]) ∧ T'.get 6 = some (.ptr 1 0) ∧ T'.get 7 = some (.int .i64 3)) ∨ (e = .exit 0 ∧ l.all wordQ = true ∧ σ' = σ0 ∧ T'.get 1 = some (.int .i64 (lo : Nat)) ∧ T'.get 2 = some (.vs K (intV l)) ∧ T'.get 3 = some (.ptr 0 0) ∧ T'.get 6 = some (.ptr 1 0) ∧ T'.get 8 = some (.int .i64 (n : Nat))))
          (fun i T σ' => i ≤ l.length ∧ σ' = σ0 ∧ T.get 1 = some (.int .i64 (lo : Nat)) ∧ T.get 2 = some (.vs K (intV l)) ∧ T.get 3 = some (.ptr 0 0) ∧ T.get 6 = some (.ptr 1 0) ∧ T.get 8 = some (.int .i64 (n : Nat)) ∧ T.get 10 = some (.int .i64 (i : Nat)) ∧ ∀ w, w ∈ l.take i → wordQ w = true) l.length (by omega) (by
            rintro i hi T σ' ⟨_, rfl, t1, t2, t3, t6, t8, t10, hall⟩
            have hlt : ((i : Nat) : Int) < ((l.length : Nat) : Int) := by omega
            have hw' := i64_succ (i := i) (by omega)
            have hget := intV_get hi
            have hc := hin l[i]
            cases hq : wordQ l[i] with
            | true =>
              rw [show decide (0 ≤ l[i] ∧ l[i] ≤ 4294967295) = true from hq] at hc
              refine .inl ⟨_, _, by
                simp only [bodyOf, Try.f33, Option.getD_some, flatC, innerC, stmtC, List.append_assoc, dx, reduceIte, Nat.reduceLT, Nat.reduceLeDiff, Nat.reduceEqDiff, Nat.reduceAdd, Nat.reduceMul, Nat.reduceSub, Nat.reduceBEq, Int.reduceEq, Int.reduceLT, Int.reduceLE, Int.reduceToNat, reduceCtorEq, sx, fx33, t2, t10, intV_length, hlt, Int.natCast_nonneg, Int.toNat_natCast, hget, hc, hw']
                rfl, by omega, rfl, ?_, ?_, ?_, ?_, ?_, ?_, take_all hi hall hq⟩
              · simp only [Tr.get_set, Nat.reduceEqDiff, reduceIte, t1]
              · simp only [Tr.get_set, Nat.reduceEqDiff, reduceIte, t2]
              · simp only [Tr.get_set, Nat.reduceEqDiff, reduceIte, t3]
              · simp only [Tr.get_set, Nat.reduceEqDiff, reduceIte, t6]
              · simp only [Tr.get_set, Nat.reduceEqDiff, reduceIte, t8]
              · simp only [Tr.get_set, Nat.reduceEqDiff, reduceIte]
            | false =>
              rw [show decide (0 ≤ l[i] ∧ l[i] ≤ 4294967295) = false from hq] at hc
              refine .inr ⟨_, _, _, by
                simp only [bodyOf, Try.f33, Option.getD_some, flatC, innerC, stmtC, List.append_assoc, dx, reduceIte, Nat.reduceLT, Nat.reduceLeDiff, Nat.reduceEqDiff, Nat.reduceAdd, Nat.reduceMul, Nat.reduceSub, Nat.reduceBEq, Int.reduceEq, Int.reduceLT, Int.reduceLE, Int.reduceToNat, reduceCtorEq, sx, fx33, t2, t6, t10, intV_length, hlt, Int.natCast_nonneg, Int.toNat_natCast, hget, hc, g1]
                rfl, by simp, .inl ⟨rfl, ?_, rfl, ?_, ?_⟩⟩
              · rw [List.all_eq_false]
                exact ⟨l[i], List.getElem_mem hi, by rw [hq]; simp⟩
              · simp only [Tr.get_set, Nat.reduceEqDiff, reduceIte, t6]
              · simp only [Tr.get_set, Nat.reduceEqDiff, reduceIte]) (by
            rintro T σ' ⟨_, rfl, t1, t2, t3, t6, t8, t10, hall⟩
            have hge : ¬ (((l.length : Nat) : Int) < ((l.length : Nat) : Int)) := by omega
            rw [List.take_length] at hall
            refine ⟨_, _, _, by
              simp only [bodyOf, Try.f33, Option.getD_some, flatC, innerC, stmtC, List.append_assoc, dx, reduceIte, Nat.reduceLT, Nat.reduceLeDiff, Nat.reduceEqDiff, Nat.reduceAdd, Nat.reduceMul, Nat.reduceSub, Nat.reduceBEq, Int.reduceEq, Int.reduceLT, Int.reduceLE, Int.reduceToNat, reduceCtorEq, sx, fx33, t2, t10, intV_length, hge]
              rfl, by simp, .inr ⟨rfl, List.all_eq_true.2 hall, rfl, ?_, ?_, ?_, ?_, ?_⟩⟩
            · simp only [Tr.get_set, Nat.reduceEqDiff, reduceIte, t1]
            · simp only [Tr.get_set, Nat.reduceEqDiff, reduceIte, t2]
            · simp only [Tr.get_set, Nat.reduceEqDiff, reduceIte, t3]
            · simp only [Tr.get_set, Nat.reduceEqDiff, reduceIte, t6]
            · simp only [Tr.get_set, Nat.reduceEqDiff, reduceIte, t8]) ⟨Nat.zero_le _, rfl, t1, t2, t3, t6, t8, t10, by simp⟩
        exact ⟨e, T', σ', h1, h2⟩
      obtain ⟨σ2, X, W, its, hcp, ex2, hC⟩ := copy_exec (k := k - 1) (σ := σ0) hv0 hb (by omega)
      rw [show k - 1 + 1 = k by omega] at hcp
      rw [n0] at hC
      obtain ⟨pr, wr, rfl, rfl, hM0⟩ := hC.heap (by omega) (by omega)
      have hil := pg_len hM0.pi
      obtain ⟨sp, hsp⟩ : ∃ s, s = σ2.next := ⟨_, rfl⟩
      have hx2 := ex2.1
      obtain ⟨σ3, hσ3⟩ : ∃ s, s = (σ2.push (.row 2 true [.vs .nil [], .vs .nil []])).put sp (.row 2 true [.slice pr 0 its.length none 3, .slice wr 0 ws.length none 1]) := ⟨_, rfl⟩
      have n3 : σ3.next = sp + 1 := by rw [hσ3, hsp]; simp
      have hM : HeapM 2 σ3 sp pr none wr none its ps ws := by
        rw [hσ3, hsp]
        refine hM0.agree (fun r _ => ?_) (by simp)
        rw [AMem.get_put, AMem.get_push]
        by_cases e : σ2.next = r
        · rw [if_pos e, AMem.get_push, if_pos e]
        · rw [if_neg e, if_neg e, AMem.get_push, if_neg e]
      obtain ⟨l1, l2, l3⟩ := hM.own.lo
      have low3 : ∀ r, r < 2 → σ3.get r = σ0.get r := fun r hr => by rw [hσ3, AMem.get_put, if_neg (by omega), AMem.get_push, if_neg (by omega), ex2.2 r (by omega)]
      have hput : putW ws (partB lo n) l = putW ws b l := put_ext (by rw [hlo]; rfl) (by rw [hn]; rfl)
      by_cases hall : l.all wordQ = true
      · by_cases hgt : l.length > n
        · rw [if_pos hall, if_pos hgt]
          have hgt' : ((l.length : Nat) : Int) > ((n : Nat) : Int) := by omega
          have run : ∃ T1, execC lawProg (callN lawProg k) k 33 69 (bodyOf Try.f33) (initT 0 [.agg [X0, Y0], .int .i64 (lo : Nat), .vs K (intV l)] .nil) AMem.empty = some (.ret, T1, σ0.put 1 (.row 2 true [.vs .nil [], .vs .nil []])) ∧ T1.get 6 = some (.ptr 1 0) ∧ T1.get 7 = some (.int .i64 5) := by
            simp only [bodyOf, Try.f33, Option.getD_some, initT, dx, reduceIte, Nat.reduceLT, Nat.reduceLeDiff, Nat.reduceEqDiff, Nat.reduceAdd, Nat.reduceMul, Nat.reduceSub, Nat.reduceBEq, Int.reduceEq, Int.reduceLT, Int.reduceLE, Int.reduceToNat, reduceCtorEq, sx, fx33, hX0, hY0, ← hσ0]
            simp only [dx, reduceIte, Nat.reduceLT, Nat.reduceLeDiff, Nat.reduceEqDiff, Nat.reduceAdd, Nat.reduceMul, Nat.reduceSub, Nat.reduceBEq, Int.reduceEq, Int.reduceLT, Int.reduceLE, Int.reduceToNat, reduceCtorEq, sx, fx33, g0, hask, show ((0 : Int) != 0) = false from rfl]
            generalize hL : execC _ _ _ _ _ (Code.loop _) _ _ = q
            obtain ⟨e, T', σ', rfl, hc⟩ := loop0 _ _ (by simp only [Tr.get_set, Nat.reduceEqDiff, reduceIte]) (by simp only [Tr.get_set, Nat.reduceEqDiff, reduceIte]) (by simp only [Tr.get_set, Nat.reduceEqDiff, reduceIte]) (by simp only [Tr.get_set, Nat.reduceEqDiff, reduceIte]) (by simp only [Tr.get_set, Nat.reduceEqDiff, reduceIte]) (by simp only [Tr.get_set, Nat.reduceEqDiff, reduceIte]) hL
            rcases hc with ⟨_, h, _⟩ | ⟨rfl, _, rfl, t1, t2, t3, t6, t8⟩
            · rw [hall] at h; cases h
            · simp only [dx, reduceIte, Nat.reduceLT, Nat.reduceLeDiff, Nat.reduceEqDiff, Nat.reduceAdd, Nat.reduceMul, Nat.reduceSub, Nat.reduceBEq, Int.reduceEq, Int.reduceLT, Int.reduceLE, Int.reduceToNat, reduceCtorEq, sx, fx33, t2, t6, t8, intV_length, hgt', g1]
              exact ⟨_, rfl, by simp only [Tr.get_set, Nat.reduceEqDiff, reduceIte, t6], by simp only [Tr.get_set, Nat.reduceEqDiff, reduceIte]⟩
          obtain ⟨T1, r1, r2, r3⟩ := run
          exact fin T1 _ _ _ 5 _ _ [] [] r1 r2 r3 (by rw [AMem.get_put, if_pos rfl]) (snap_hp0 _ 9) nil_vh
        · rw [if_pos hall, if_neg hgt]
          have hgt' : ¬ ((l.length : Nat) : Int) > ((n : Nat) : Int) := by omega
          have run : ∃ T1 σ', execC lawProg (callN lawProg k) k 33 69 (bodyOf Try.f33) (initT 0 [.agg [X0, Y0], .int .i64 (lo : Nat), .vs K (intV l)] .nil) AMem.empty = some (.ret, T1, σ') ∧ T1.get 6 = some (.ptr 1 0) ∧ T1.get 7 = some (.int .i64 0) ∧ σ'.get 1 = some (.row 2 true [.slice pr 0 its.length none 3, .slice wr 0 (putW ws b l).length none 1]) ∧ HeapM 2 σ' sp pr none wr none its ps (putW ws b l) := by
            simp only [bodyOf, Try.f33, Option.getD_some, initT, dx, reduceIte, Nat.reduceLT, Nat.reduceLeDiff, Nat.reduceEqDiff, Nat.reduceAdd, Nat.reduceMul, Nat.reduceSub, Nat.reduceBEq, Int.reduceEq, Int.reduceLT, Int.reduceLE, Int.reduceToNat, reduceCtorEq, sx, fx33, hX0, hY0, ← hσ0]
            simp only [dx, reduceIte, Nat.reduceLT, Nat.reduceLeDiff, Nat.reduceEqDiff, Nat.reduceAdd, Nat.reduceMul, Nat.reduceSub, Nat.reduceBEq, Int.reduceEq, Int.reduceLT, Int.reduceLE, Int.reduceToNat, reduceCtorEq, sx, fx33, g0, hask, show ((0 : Int) != 0) = false from rfl]
            generalize hL : execC _ _ _ _ _ (Code.loop _) _ _ = q
            obtain ⟨e, T', σ', rfl, hc⟩ := loop0 _ _ (by simp only [Tr.get_set, Nat.reduceEqDiff, reduceIte]) (by simp only [Tr.get_set, Nat.reduceEqDiff, reduceIte]) (by simp only [Tr.get_set, Nat.reduceEqDiff, reduceIte]) (by simp only [Tr.get_set, Nat.reduceEqDiff, reduceIte]) (by simp only [Tr.get_set, Nat.reduceEqDiff, reduceIte]) (by simp only [Tr.get_set, Nat.reduceEqDiff, reduceIte]) hL
            rcases hc with ⟨_, h, _⟩ | ⟨rfl, _, rfl, t1, t2, t3, t6, t8⟩
            · rw [hall] at h; cases h
            simp only [dx, reduceIte, Nat.reduceLT, Nat.reduceLeDiff, Nat.reduceEqDiff, Nat.reduceAdd, Nat.reduceMul, Nat.reduceSub, Nat.reduceBEq, Int.reduceEq, Int.reduceLT, Int.reduceLE, Int.reduceToNat, reduceCtorEq, sx, fx33, t2, t3, t8, intV_length, hgt', g0, hcp, ← hsp, ← hσ3]
            generalize hL2 : execC _ _ _ _ _ (Code.loop _) _ _ = q2
            obtain ⟨e, T5, σ5, rfl, _, rfl, u6, u11, n5, low5, hM5⟩ : ∃ e T' σ', q2 = some (e, T', σ') ∧ e ≠ .normal ∧ e = .exit 2 ∧ T'.get 6 = some (.ptr 1 0) ∧ T'.get 11 = some (.ptr sp 0) ∧ σ'.next = sp + 1 ∧ (∀ r, r < 2 → σ'.get r = σ'.get r ∧ σ'.get r = σ3.get r) ∧ HeapM 2 σ' sp pr none wr none its ps (putW ws (partB lo n) l) := by
              rw [← hL2]
              refine exec_loop (fun j T σ' => j ≤ n ∧ T.get 1 = some (.int .i64 (lo : Nat)) ∧ T.get 2 = some (.vs K (intV l)) ∧ T.get 6 = some (.ptr 1 0) ∧ T.get 8 = some (.int .i64 (n : Nat)) ∧ T.get 11 = some (.ptr sp 0) ∧ T.get 12 = some (.int .i64 (j : Nat)) ∧ σ'.next = sp + 1 ∧ (∀ r, r < 2 → σ'.get r = σ'.get r ∧ σ'.get r = σ3.get r) ∧ HeapM 2 σ' sp pr none wr none its ps (putW ws (partB lo j) l)) n (by omega) ?_ ?_ ?_
              · rintro j hj T σ' ⟨_, u1, u2, u6, u8, u11, u12, nx, lw, hMj⟩
                have hlt : ((j : Nat) : Int) < ((n : Nat) : Int) := by omega
                have hw' := i64_succ (i := j) (by omega)
                have w1 : IntKind.i64.wrap (((lo : Nat) : Int) + ((j : Nat) : Int)) = ((lo + j : Nat) : Int) := by rw [i64_id (by omega) (by omega)]; omega
                have msj := hMj.own.ms
                have mwj := hMj.own.mw
                obtain ⟨w, hw⟩ : ∃ w, w = putW ws (partB lo j) l := ⟨_, rfl⟩
                have hwlen : w.length = ws.length := by rw [hw, putW_length]
                rw [← hw] at msj mwj hMj
                have hlt2 : ((lo + j : Nat) : Int) < ((w.length : Nat) : Int) := by omega
                have hin2 : lo + j + 1 ≤ w.length := by omega
                have hnext := put_next (ws := ws) (l := l) (lo := lo) (j := j) (by omega)
                rw [← hw] at hnext
                obtain ⟨σa, hσa⟩ : ∃ s, s = σ'.put wr (.row 1 false (intV (w.set (lo + j) 0))) := ⟨_, rfl⟩
                have hMa : HeapM 2 σa sp pr none wr none its ps (w.set (lo + j) 0) := by rw [hσa]; exact hMj.wordsTo (List.length_set ..)
                have msa : σa.get sp = some (.row 2 true [.slice pr 0 its.length none 3, .slice wr 0 w.length none 1]) := by have := hMa.own.ms; rwa [List.length_set] at this
                have mwa := hMa.own.mw
                by_cases hjl : j < l.length
                · have hltl : ((j : Nat) : Int) < ((l.length : Nat) : Int) := by omega
                  have hget := intV_get hjl
                  rw [wdAt_lt hjl] at hnext
                  have hMb := hMa.wordsTo (vs := putW ws (partB lo (j + 1)) l) (by rw [← hnext, List.length_set, List.length_set])
                  refine ⟨_, _, by
                    simp only [dx, reduceIte, Nat.reduceLT, Nat.reduceLeDiff, Nat.reduceEqDiff, Nat.reduceAdd, Nat.reduceMul, Nat.reduceSub, Nat.reduceBEq, Int.reduceEq, Int.reduceLT, Int.reduceLE, Int.reduceToNat, reduceCtorEq, sx, fx33, u1, u2, u8, u11, u12, hlt, w1, msj, mwj, hlt2, intV_length, hin2, intV_set, Int.natCast_nonneg, Int.toNat_natCast, ← hσa]
                    simp only [dx, reduceIte, Nat.reduceLT, Nat.reduceLeDiff, Nat.reduceEqDiff, Nat.reduceAdd, Nat.reduceMul, Nat.reduceSub, Nat.reduceBEq, Int.reduceEq, Int.reduceLT, Int.reduceLE, Int.reduceToNat, reduceCtorEq, sx, fx33, u1, u2, u8, u11, u12, hltl, w1, msa, mwa, hlt2, intV_length, List.length_set, hin2, intV_set, hget, List.set_set, hnext, Int.natCast_nonneg, Int.toNat_natCast, hw']
                    rfl, by omega, ?_, ?_, ?_, ?_, ?_, ?_, ?_, fun r hr => ⟨rfl, ?_⟩, hMb⟩
                  · simp only [Tr.get_set, Nat.reduceEqDiff, reduceIte, u1]
                  · simp only [Tr.get_set, Nat.reduceEqDiff, reduceIte, u2]
                  · simp only [Tr.get_set, Nat.reduceEqDiff, reduceIte, u6]
                  · simp only [Tr.get_set, Nat.reduceEqDiff, reduceIte, u8]
                  · simp only [Tr.get_set, Nat.reduceEqDiff, reduceIte, u11]
                  · simp only [Tr.get_set, Nat.reduceEqDiff, reduceIte]
                  · rw [hσa]; simpa using nx
                  · rw [AMem.get_put, if_neg (by omega), hσa, AMem.get_put, if_neg (by omega)]; exact (lw r hr).2
                · have hltl : ¬ ((j : Nat) : Int) < ((l.length : Nat) : Int) := by omega
                  rw [wdAt_none (by omega)] at hnext
                  refine ⟨_, _, by
                    simp only [dx, reduceIte, Nat.reduceLT, Nat.reduceLeDiff, Nat.reduceEqDiff, Nat.reduceAdd, Nat.reduceMul, Nat.reduceSub, Nat.reduceBEq, Int.reduceEq, Int.reduceLT, Int.reduceLE, Int.reduceToNat, reduceCtorEq, sx, fx33, u1, u2, u8, u11, u12, hlt, w1, msj, mwj, hlt2, intV_length, hin2, intV_set, Int.natCast_nonneg, Int.toNat_natCast, ← hσa]
                    simp only [dx, reduceIte, Nat.reduceLT, Nat.reduceLeDiff, Nat.reduceEqDiff, Nat.reduceAdd, Nat.reduceMul, Nat.reduceSub, Nat.reduceBEq, Int.reduceEq, Int.reduceLT, Int.reduceLE, Int.reduceToNat, reduceCtorEq, sx, fx33, u1, u2, u8, u11, u12, hltl, intV_length, hw']
                    rfl, by omega, ?_, ?_, ?_, ?_, ?_, ?_, ?_, fun r hr => ⟨rfl, ?_⟩, by rw [← hnext]; exact hMa⟩
                  · simp only [Tr.get_set, Nat.reduceEqDiff, reduceIte, u1]
                  · simp only [Tr.get_set, Nat.reduceEqDiff, reduceIte, u2]
                  · simp only [Tr.get_set, Nat.reduceEqDiff, reduceIte, u6]
                  · simp only [Tr.get_set, Nat.reduceEqDiff, reduceIte, u8]
                  · simp only [Tr.get_set, Nat.reduceEqDiff, reduceIte, u11]
                  · simp only [Tr.get_set, Nat.reduceEqDiff, reduceIte]
                  · rw [hσa]; simpa using nx
                  · rw [hσa, AMem.get_put, if_neg (by omega)]; exact (lw r hr).2
              · rintro T σ' ⟨_, u1, u2, u6, u8, u11, u12, nx, lw, hMj⟩
                have hge : ¬ (((n : Nat) : Int) < ((n : Nat) : Int)) := by omega
                refine ⟨_, _, _, by
                  simp only [dx, reduceIte, Nat.reduceLT, Nat.reduceLeDiff, Nat.reduceEqDiff, Nat.reduceAdd, Nat.reduceMul, Nat.reduceSub, Nat.reduceBEq, Int.reduceEq, Int.reduceLT, Int.reduceLE, Int.reduceToNat, reduceCtorEq, sx, fx33, u8, u12, hge]
                  rfl, by simp, rfl, ?_, ?_, nx, lw, hMj⟩
                · simp only [Tr.get_set, Nat.reduceEqDiff, reduceIte, u6]
                · simp only [Tr.get_set, Nat.reduceEqDiff, reduceIte, u11]
              · refine ⟨Nat.zero_le _, ?_, ?_, ?_, ?_, ?_, ?_, n3, fun _ _ => ⟨rfl, rfl⟩, by rw [put_none]; exact hM⟩
                · simp only [Tr.get_set, Nat.reduceEqDiff, reduceIte, t1]
                · simp only [Tr.get_set, Nat.reduceEqDiff, reduceIte, t2]
                · simp only [Tr.get_set, Nat.reduceEqDiff, reduceIte, t6]
                · simp only [Tr.get_set, Nat.reduceEqDiff, reduceIte, t8]
                · simp only [Tr.get_set, Nat.reduceEqDiff, reduceIte]
                · simp only [Tr.get_set, Nat.reduceEqDiff, reduceIte] <;> rfl
            rw [hput] at hM5
            have ms5 := hM5.own.ms
            have g15 : σ5.get 1 = some (.row 2 true [.vs .nil [], .vs .nil []]) := by rw [(low5 1 (by omega)).2, low3 1 (by omega)]; exact g1
            simp only [dx, reduceIte, Nat.reduceLT, Nat.reduceLeDiff, Nat.reduceEqDiff, Nat.reduceAdd, Nat.reduceMul, Nat.reduceSub, Nat.reduceBEq, Int.reduceEq, Int.reduceLT, Int.reduceLE, Int.reduceToNat, reduceCtorEq, sx, fx33, u6, u11, ms5, g15]
            exact ⟨_, _, rfl, by simp only [Tr.get_set, Nat.reduceEqDiff, reduceIte, u6], by simp only [Tr.get_set, Nat.reduceEqDiff, reduceIte], by rw [AMem.get_put, if_pos rfl], hM5.agree (fun r hr => by rw [AMem.get_put, if_neg (by omega)]) (by simp)⟩
          obtain ⟨T1, σ', r1, r2, r3, r5, hM'⟩ := run
          obtain ⟨v', S, hS, hvh⟩ := hM'.vh (fr := true) 7
          exact fin T1 _ _ _ 0 v' S _ _ r1 r2 r3 r5 hS hvh
      · have hall' : l.all wordQ = false := by cases h : l.all wordQ with
          | true => exact absurd h hall
          | false => rfl
        rw [if_neg hall]
        have run : ∃ T1, execC lawProg (callN lawProg k) k 33 69 (bodyOf Try.f33) (initT 0 [.agg [X0, Y0], .int .i64 (lo : Nat), .vs K (intV l)] .nil) AMem.empty = some (.ret, T1, σ0.put 1 (.row 2 true [.vs .nil [], .vs .nil []])) ∧ T1.get 6 = some (.ptr 1 0) ∧ T1.get 7 = some (.int .i64 3) := by
          simp only [bodyOf, Try.f33, Option.getD_some, initT, dx, reduceIte, Nat.reduceLT, Nat.reduceLeDiff, Nat.reduceEqDiff, Nat.reduceAdd, Nat.reduceMul, Nat.reduceSub, Nat.reduceBEq, Int.reduceEq, Int.reduceLT, Int.reduceLE, Int.reduceToNat, reduceCtorEq, sx, fx33, hX0, hY0, ← hσ0]
          simp only [dx, reduceIte, Nat.reduceLT, Nat.reduceLeDiff, Nat.reduceEqDiff, Nat.reduceAdd, Nat.reduceMul, Nat.reduceSub, Nat.reduceBEq, Int.reduceEq, Int.reduceLT, Int.reduceLE, Int.reduceToNat, reduceCtorEq, sx, fx33, g0, hask, show ((0 : Int) != 0) = false from rfl]
          generalize hL : execC _ _ _ _ _ (Code.loop _) _ _ = q
          obtain ⟨e, T', σ', rfl, hc⟩ := loop0 _ _ (by simp only [Tr.get_set, Nat.reduceEqDiff, reduceIte]) (by simp only [Tr.get_set, Nat.reduceEqDiff, reduceIte]) (by simp only [Tr.get_set, Nat.reduceEqDiff, reduceIte]) (by simp only [Tr.get_set, Nat.reduceEqDiff, reduceIte]) (by simp only [Tr.get_set, Nat.reduceEqDiff, reduceIte]) (by simp only [Tr.get_set, Nat.reduceEqDiff, reduceIte]) hL
          rcases hc with ⟨rfl, _, rfl, t6, t7⟩ | ⟨_, h, _⟩
          · simp only [dx, reduceIte, Nat.reduceLT, Nat.reduceLeDiff, Nat.reduceEqDiff, Nat.reduceAdd, Nat.reduceMul, Nat.reduceSub, Nat.reduceBEq, Int.reduceEq, Int.reduceLT, Int.reduceLE, Int.reduceToNat, reduceCtorEq, sx, fx33]
            exact ⟨_, rfl, t6, t7⟩
          · rw [hall'] at h; cases h
        obtain ⟨T1, r1, r2, r3⟩ := run
        exact fin T1 _ _ _ 3 _ _ [] [] r1 r2 r3 (by rw [AMem.get_put, if_pos rfl]) (snap_hp0 _ 9) nil_vh
theorem RPut_call {v : AVal} {ps : List Pg} {ws l : List Int} {K : VK} (a : Int) (hv : VH v ps ws) (hb : Bd ps ws) (hl : l.length ≤ 1000) (hk : 9501 ≤ k) : ∃ v', (∀ σ, pureCall lawProg (callN lawProg k) (.func 33 [] []) [v, .int .i64 a, .vs K (intV l)] σ = some (.tuple [v', .int .i64 (putH ps ws a l).e], σ)) ∧ VH v' (putH ps ws a l).ps (putH ps ws a l).ws := by
  obtain ⟨k, rfl⟩ : ∃ m, k = m + 1 := ⟨k - 1, by omega⟩
  obtain ⟨v', h1, h2⟩ := RPut_run (K := K) a hv hb hl (k := k) (by omega)
  refine ⟨v', fun σ => pureCall_of (seen := [] ++ ([] ++ ([] ++ []))) ?_ (memo33 _) h1, h2⟩
  have := hv.snap σ 10
  simp only [snapL, snapDepth, this, snapF, Bool.false_and, Bool.false_eq_true, if_false]
end Go.Proofs.Ytjkfdiglokkceaa

/- Heaps: Get and Size, of the program and of the reference; lists that are compared. -/
set_option maxRecDepth 100000
set_option linter.unusedSimpArgs false
set_option linter.unusedVariables false
namespace Go.Proofs.Ytjkfdiglokkceaa
open Go Go.Proofs.Ytjkfdiglokkceaa.Pale
variable {k : Nat} {σ : AMem}

/-- A value that reads as a list of words. -/
def LV (v : AVal) (l : List Int) : Prop := ∃ K, v = .vs K (intV l) ∧ K ≠ .zero ∧ (K = .nil → l = [])
theorem lv_nil : LV (.vs .nil []) [] := ⟨.nil, rfl, by simp, fun _ => rfl⟩
noncomputable def getH (ps : List Pg) (ws : List Int) (a : Int) : List Int × Int := if rightB ps ws then (match findL ps a with
    | some b => (segW ws b.at_.toNat b.size.toNat, 0)
    | none => ([], 7)) else ([], 4)
theorem get_ask {ps : List Pg} {ws : List Int} {a : Int} : (((getH ps ws a).1.length : Nat) : Int) = (askH ps ws a).1 ∧ (getH ps ws a).2 = (askH ps ws a).2 := by
  unfold getH askH
  cases hrb : rightB ps ws with
  | false => exact ⟨rfl, rfl⟩
  | true =>
    rw [if_pos rfl, if_pos rfl]
    cases hf : findL ps a with
    | none => exact ⟨rfl, rfl⟩
    | some b =>
      obtain ⟨lo, n, h1, h2, h3, h4, _⟩ := blk_nat (rightB_iff.1 hrb) (findL_some hf).1
      refine ⟨?_, rfl⟩
      simp only [h1, h2, Int.toNat_natCast]
      rw [segW_length h4]
set_option maxHeartbeats 1000000 in
theorem Get_run {v : AVal} {ps : List Pg} {ws : List Int} (a : Int) (hv : VH v ps ws) (hb : Bd ps ws) (hk : 9000 ≤ k) : ∃ v', pureRun (callN lawProg (k + 1)) (.func 35 [] []) [v, .int .i64 a] = some (.tuple [v', .int .i64 (getH ps ws a).2], true) ∧ LV v' (getH ps ws a).1 := by
  obtain ⟨X, Y, rfl, hX, hY⟩ := hv.cells
  obtain ⟨σ0, hσ0⟩ : ∃ s, s = AMem.empty.push (.row 2 true [X, Y]) := ⟨_, rfl⟩
  have n0 : σ0.next = 1 := by rw [hσ0]; simp [next_empty]
  have g0 : σ0.get 0 = some (.row 2 true [X, Y]) := by rw [hσ0]; simp [AMem.get_push, next_empty]
  have fin : ∀ (T1 : Tr AVal) (σ' : AMem) (x : AVal) (e : Int) (v' : AVal) (S : List Nat) (l : List Int), execC lawProg (callN lawProg k) k 35 29 (bodyOf Try.f35) (initT 0 [.agg [X, Y], .int .i64 a] .nil) AMem.empty = some (.ret, T1, σ') → T1.get 4 = some x → T1.get 5 = some (.int .i64 e) → snapF true σ' 11 x = some (v', S) → LV v' l → ∃ v', pureRun (callN lawProg (k + 1)) (.func 35 [] []) [.agg [X, Y], .int .i64 a] = some (.tuple [v', .int .i64 e], true) ∧ LV v' l := by
    intro T1 σ' x e v' S l r1 r2 r3 hS hl
    refine ⟨v', ?_, hl⟩
    refine pureRun_of (vs := [x, .int .i64 e]) (seen := S ++ ([] ++ [])) fn35 rfl (by simp [Try.f35]) r1 (by simp) (res_two r2 r3) ?_
    have c2 : snapF true σ' 11 (.int .i64 e) = some (.int .i64 e, []) := rfl
    show snapF true σ' (11 + 1) (.tuple [x, .int .i64 e]) = _
    rw [snapF]
    simp only [snapL, hS, c2, Option.map_some]
  rcases open_vh (k := k - 1) hv hb (by omega) σ0 with ⟨hr, σ2, ho, ex2⟩ | ⟨hr, hright, σ2, sp, pr, wr, its, ho, ex2, hM⟩
  · rw [show k - 1 + 1 = k by omega] at ho
    have hres : getH ps ws a = ([], 4) := by unfold getH; rw [hr]; rfl
    rw [hres]
    have run : ∃ T1, execC lawProg (callN lawProg k) k 35 29 (bodyOf Try.f35) (initT 0 [.agg [X, Y], .int .i64 a] .nil) AMem.empty = some (.ret, T1, σ2) ∧ T1.get 4 = some (.vs .nil []) ∧ T1.get 5 = some (.int .i64 4) := by
      simp only [bodyOf, Try.f35, Option.getD_some, initT, dx, reduceIte, Nat.reduceLT, Nat.reduceLeDiff, Nat.reduceEqDiff, Nat.reduceAdd, Nat.reduceMul, Nat.reduceSub, Nat.reduceBEq, Int.reduceEq, Int.reduceLT, Int.reduceLE, Int.reduceToNat, reduceCtorEq, sx, fx35, hX, hY, ← hσ0]
      simp only [dx, reduceIte, Nat.reduceLT, Nat.reduceLeDiff, Nat.reduceEqDiff, Nat.reduceAdd, Nat.reduceMul, Nat.reduceSub, Nat.reduceBEq, Int.reduceEq, Int.reduceLT, Int.reduceLE, Int.reduceToNat, reduceCtorEq, sx, fx35, g0, ho, show ((4 : Int) != 0) = true from rfl]
      exact ⟨_, rfl, by simp only [Tr.get_set, Nat.reduceEqDiff, reduceIte], by simp only [Tr.get_set, Nat.reduceEqDiff, reduceIte]⟩
    obtain ⟨T1, r1, r2, r3⟩ := run
    exact fin T1 σ2 _ 4 (.vs .nil []) [] [] r1 r2 r3 rfl lv_nil
  · rw [show k - 1 + 1 = k by omega] at ho
    have hmany := hright.many
    have hwl := hright.len
    obtain ⟨σ3, hfind, ex3⟩ := find_exec (k := k - 1) (a := a) hM hright.shape hmany.2 (by omega)
    rw [show k - 1 + 1 = k by omega] at hfind
    have h3 := hM.ext ex3
    obtain ⟨c, hc⟩ : ∃ c, c = σ3.next := ⟨_, rfl⟩
    cases hf : findL ps a with
    | none =>
      have hres : getH ps ws a = ([], 7) := by unfold getH; rw [hr, if_pos rfl, hf]
      rw [hres]
      rw [hf] at hfind
      simp only [Option.getD_none, Option.isSome_none, noBlk, blkC] at hfind
      have run : ∃ T1 σ', execC lawProg (callN lawProg k) k 35 29 (bodyOf Try.f35) (initT 0 [.agg [X, Y], .int .i64 a] .nil) AMem.empty = some (.ret, T1, σ') ∧ T1.get 4 = some (.vs .nil []) ∧ T1.get 5 = some (.int .i64 7) := by
        simp only [bodyOf, Try.f35, Option.getD_some, initT, dx, reduceIte, Nat.reduceLT, Nat.reduceLeDiff, Nat.reduceEqDiff, Nat.reduceAdd, Nat.reduceMul, Nat.reduceSub, Nat.reduceBEq, Int.reduceEq, Int.reduceLT, Int.reduceLE, Int.reduceToNat, reduceCtorEq, sx, fx35, hX, hY, ← hσ0]
        simp only [dx, reduceIte, Nat.reduceLT, Nat.reduceLeDiff, Nat.reduceEqDiff, Nat.reduceAdd, Nat.reduceMul, Nat.reduceSub, Nat.reduceBEq, Int.reduceEq, Int.reduceLT, Int.reduceLE, Int.reduceToNat, reduceCtorEq, sx, fx35, g0, ho, show ((0 : Int) != 0) = false from rfl, hfind]
        exact ⟨_, _, rfl, by simp only [Tr.get_set, Nat.reduceEqDiff, reduceIte], by simp only [Tr.get_set, Nat.reduceEqDiff, reduceIte]⟩
      obtain ⟨T1, σ', r1, r2, r3⟩ := run
      exact fin T1 σ' _ 7 (.vs .nil []) [] [] r1 r2 r3 rfl lv_nil
    | some b =>
      rw [hf] at hfind
      simp only [Option.getD_some, Option.isSome_some] at hfind
      obtain ⟨hbm, hba⟩ := findL_some hf
      obtain ⟨lo, n, hlo, hn, hn1, hln, hpg⟩ := blk_nat hright hbm
      have hres : getH ps ws a = (segW ws lo n, 0) := by unfold getH; rw [hr, if_pos rfl, hf]; simp only [hlo, hn, Int.toNat_natCast]
      rw [hres]
      obtain ⟨σ4, hσ4⟩ : ∃ m, m = (σ3.push (.row 4 true [.int .i64 0, .int .i64 0, .int .i64 0, .int .i64 0])).put c (.row 4 true (blkC b)) := ⟨_, rfl⟩
      have ex4 : Ext σ3 σ4 := by rw [hσ4]; exact (Ext.push _ _).put _ _ (by omega)
      have h4 := h3.ext ex4
      have gc4 : σ4.get c = some (.row 4 true (blkC b)) := by rw [hσ4, AMem.get_put, if_pos rfl]
      have hwds := owords_exec (k := k - 1) h4 hlo hn hln (by omega)
      rw [show k - 1 + 1 = k by omega] at hwds
      obtain ⟨σ5, hσ5⟩ : ∃ m, m = σ4.push (.row 4 true (blkC b)) := ⟨_, rfl⟩
      rw [← hσ5] at hwds
      have h5 : HeapM σ0.next σ5 sp pr none wr none its ps ws := by rw [hσ5]; exact h4.ext (Ext.push _ _)
      unfold blkC at hfind hσ4 gc4 hwds
      have run : ∃ T1, execC lawProg (callN lawProg k) k 35 29 (bodyOf Try.f35) (initT 0 [.agg [X, Y], .int .i64 a] .nil) AMem.empty = some (.ret, T1, σ5) ∧ T1.get 4 = some (.slice wr lo n none 1) ∧ T1.get 5 = some (.int .i64 0) := by
        simp only [bodyOf, Try.f35, Option.getD_some, initT, dx, reduceIte, Nat.reduceLT, Nat.reduceLeDiff, Nat.reduceEqDiff, Nat.reduceAdd, Nat.reduceMul, Nat.reduceSub, Nat.reduceBEq, Int.reduceEq, Int.reduceLT, Int.reduceLE, Int.reduceToNat, reduceCtorEq, sx, fx35, hX, hY, ← hσ0]
        simp only [dx, reduceIte, Nat.reduceLT, Nat.reduceLeDiff, Nat.reduceEqDiff, Nat.reduceAdd, Nat.reduceMul, Nat.reduceSub, Nat.reduceBEq, Int.reduceEq, Int.reduceLT, Int.reduceLE, Int.reduceToNat, reduceCtorEq, sx, fx35, g0, ho, show ((0 : Int) != 0) = false from rfl, hfind, ← hc, ← hσ4]
        simp only [dx, reduceIte, Nat.reduceLT, Nat.reduceLeDiff, Nat.reduceEqDiff, Nat.reduceAdd, Nat.reduceMul, Nat.reduceSub, Nat.reduceBEq, Int.reduceEq, Int.reduceLT, Int.reduceLE, Int.reduceToNat, reduceCtorEq, sx, fx35, gc4, hwds]
        exact ⟨_, rfl, by simp only [Tr.get_set, Nat.reduceEqDiff, reduceIte], by simp only [Tr.get_set, Nat.reduceEqDiff, reduceIte]⟩
      obtain ⟨T1, r1, r2, r3⟩ := run
      exact fin T1 σ5 _ 0 (.vs .some (intV (segW ws lo n))) [wr] _ r1 r2 r3 (snap_ints (d := 9) hln h5.own.mw) ⟨.some, rfl, by simp, by simp⟩
theorem Get_call {v : AVal} {ps : List Pg} {ws : List Int} (a : Int) (hv : VH v ps ws) (hb : Bd ps ws) (hk : 9001 ≤ k) : ∃ v', (∀ σ, pureCall lawProg (callN lawProg k) (.func 35 [] []) [v, .int .i64 a] σ = some (.tuple [v', .int .i64 (getH ps ws a).2], σ)) ∧ LV v' (getH ps ws a).1 := by
  obtain ⟨k, rfl⟩ : ∃ m, k = m + 1 := ⟨k - 1, by omega⟩
  obtain ⟨v', h1, h2⟩ := Get_run a hv hb (k := k) (by omega)
  refine ⟨v', fun σ => pureCall_of (seen := [] ++ ([] ++ [])) ?_ (memo35 _) h1, h2⟩
  have := hv.snap σ 10
  simp only [snapL, snapDepth, this, snapF]
theorem Size_call {v : AVal} {ps : List Pg} {ws : List Int} (a : Int) (hv : VH v ps ws) (hb : Bd ps ws) (hk : 9002 ≤ k) : pureCall lawProg (callN lawProg k) (.func 28 [] []) [v, .int .i64 a] σ = some (.tuple [.int .i64 (askH ps ws a).1, .int .i64 (askH ps ws a).2], σ) := by
  obtain ⟨k, rfl⟩ : ∃ m, k = m + 1 := ⟨k - 1, by omega⟩
  have hsn := hv.snap σ 10
  obtain ⟨v', hg, K, rfl, _⟩ := Get_call (k := k) a hv hb (by omega)
  obtain ⟨h1, h2⟩ := get_ask (ps := ps) (ws := ws) (a := a)
  rw [← h1, ← h2]
  obtain ⟨X, Y, rfl, hX, hY⟩ := hv.cells
  have run : ∃ T1 σ1, execC lawProg (callN lawProg k) k 28 17 (bodyOf Try.f28) (initT 0 [.agg [X, Y], .int .i64 a] .nil) AMem.empty = some (.ret, T1, σ1) ∧ T1.get 4 = some (.int .i64 (((getH ps ws a).1.length : Nat) : Int)) ∧ T1.get 5 = some (.int .i64 (getH ps ws a).2) := by
    simp only [bodyOf, Try.f28, Option.getD_some, initT, dx, reduceIte, Nat.reduceLT, Nat.reduceLeDiff, Nat.reduceEqDiff, Nat.reduceAdd, Nat.reduceMul, Nat.reduceSub, Nat.reduceBEq, Int.reduceEq, Int.reduceLT, Int.reduceLE, Int.reduceToNat, reduceCtorEq, sx, fx28, hX, hY, hg, intV_length]
    exact ⟨_, _, rfl, by simp only [Tr.get_set, Nat.reduceEqDiff, reduceIte], by simp only [Tr.get_set, Nat.reduceEqDiff, reduceIte]⟩
  obtain ⟨T1, σ1, g1, g2, g3⟩ := run
  refine pureCall_of (args' := [.agg [X, Y], .int .i64 a]) (seen := [] ++ ([] ++ [])) ?_ (memo28 _) (pureRun_of fn28 rfl (by simp [Try.f28]) g1 (by simp) (res_two g2 g3) rfl)
  simp only [snapL, snapDepth, hsn, snapF]
theorem RSize_call {v : AVal} {ps : List Pg} {ws : List Int} (a : Int) (hv : VH v ps ws) (hb : Bd ps ws) (hk : 9002 ≤ k) : pureCall lawProg (callN lawProg k) (.func 34 [] []) [v, .int .i64 a] σ = some (.tuple [.int .i64 (askH ps ws a).1, .int .i64 (askH ps ws a).2], σ) := by
  obtain ⟨k, rfl⟩ : ∃ m, k = m + 1 := ⟨k - 1, by omega⟩
  have hsn := hv.snap σ 10
  have hg := fun (σ : AMem) => ask_call (k := k) (σ := σ) a hv hb (by omega)
  obtain ⟨X, Y, rfl, hX, hY⟩ := hv.cells
  have run : ∃ T1 σ1, execC lawProg (callN lawProg k) k 34 11 (bodyOf Try.f34) (initT 0 [.agg [X, Y], .int .i64 a] .nil) AMem.empty = some (.ret, T1, σ1) ∧ T1.get 4 = some (.int .i64 (askH ps ws a).1) ∧ T1.get 5 = some (.int .i64 (askH ps ws a).2) := by
    simp only [bodyOf, Try.f34, Option.getD_some, initT, dx, reduceIte, Nat.reduceLT, Nat.reduceLeDiff, Nat.reduceEqDiff, Nat.reduceAdd, Nat.reduceMul, Nat.reduceSub, Nat.reduceBEq, Int.reduceEq, Int.reduceLT, Int.reduceLE, Int.reduceToNat, reduceCtorEq, sx, fx34, hX, hY, hg]
    exact ⟨_, _, rfl, by simp only [Tr.get_set, Nat.reduceEqDiff, reduceIte], by simp only [Tr.get_set, Nat.reduceEqDiff, reduceIte]⟩
  obtain ⟨T1, σ1, g1, g2, g3⟩ := run
  refine pureCall_of (args' := [.agg [X, Y], .int .i64 a]) (seen := [] ++ ([] ++ [])) ?_ (memo34 _) (pureRun_of fn34 rfl (by simp [Try.f34]) g1 (by simp) (res_two g2 g3) rfl)
  simp only [snapL, snapDepth, hsn, snapF]
theorem RGet_call {v : AVal} {ps : List Pg} {ws : List Int} (a : Int) (hv : VH v ps ws) (hb : Bd ps ws) (hk : 9002 ≤ k) : ∃ v', (∀ σ, pureCall lawProg (callN lawProg k) (.func 36 [] []) [v, .int .i64 a] σ = some (.tuple [v', .int .i64 (getH ps ws a).2], σ)) ∧ LV v' (getH ps ws a).1 := by
  obtain ⟨k, rfl⟩ : ∃ m, k = m + 1 := ⟨k - 1, by omega⟩
  have hv0 := hv
  have hg := fun (σ : AMem) => ask_call (k := k) (σ := σ) a hv hb (by omega)
  obtain ⟨kp, kw, l, rfl, rfl, hkp, hkw, hgood⟩ := hv
  unfold hpV at hg hv0 ⊢
  have fin : ∀ (T1 : Tr AVal) (σ' : AMem) (x : AVal) (e : Int) (v' : AVal) (S : List Nat) (us : List Int), execC lawProg (callN lawProg k) k 36 25 (bodyOf Try.f36) (initT 0 [.agg [.vs kp (l.map pv), .vs kw (intV ws)], .int .i64 a] .nil) AMem.empty = some (.ret, T1, σ') → T1.get 4 = some x → T1.get 5 = some (.int .i64 e) → snapF true σ' 11 x = some (v', S) → LV v' us → ∃ v', (∀ σ, pureCall lawProg (callN lawProg (k + 1)) (.func 36 [] []) [.agg [.vs kp (l.map pv), .vs kw (intV ws)], .int .i64 a] σ = some (.tuple [v', .int .i64 e], σ)) ∧ LV v' us := by
    intro T1 σ' x e v' S us r1 r2 r3 hS hl
    have hp : pureRun (callN lawProg (k + 1)) (.func 36 [] []) [.agg [.vs kp (l.map pv), .vs kw (intV ws)], .int .i64 a] = some (.tuple [v', .int .i64 e], true) := by
      refine pureRun_of (vs := [x, .int .i64 e]) (seen := S ++ ([] ++ [])) fn36 rfl (by simp [Try.f36]) r1 (by simp) (res_two r2 r3) ?_
      have c2 : snapF true σ' 11 (.int .i64 e) = some (.int .i64 e, []) := rfl
      show snapF true σ' (11 + 1) (.tuple [x, .int .i64 e]) = _
      rw [snapF]
      simp only [snapL, hS, c2, Option.map_some]
    refine ⟨v', fun σ => pureCall_of (seen := [] ++ ([] ++ [])) ?_ (memo36 _) hp, hl⟩
    have := hv0.snap σ 10
    simp only [snapL, snapDepth, this, snapF]
  have bad : ∀ e : Int, e ≠ 0 → askH (pgsOf l) ws a = (0, e) → getH (pgsOf l) ws a = ([], e) → ∃ v', (∀ σ, pureCall lawProg (callN lawProg (k + 1)) (.func 36 [] []) [.agg [.vs kp (l.map pv), .vs kw (intV ws)], .int .i64 a] σ = some (.tuple [v', .int .i64 (getH (pgsOf l) ws a).2], σ)) ∧ LV v' (getH (pgsOf l) ws a).1 := by
    intro e he h1 h2
    rw [h1] at hg
    rw [h2]
    have hb1 : (e != 0) = true := by rw [bne_iff_ne]; exact he
    have run : ∃ T1 σ', execC lawProg (callN lawProg k) k 36 25 (bodyOf Try.f36) (initT 0 [.agg [.vs kp (l.map pv), .vs kw (intV ws)], .int .i64 a] .nil) AMem.empty = some (.ret, T1, σ') ∧ T1.get 4 = some (.vs .nil []) ∧ T1.get 5 = some (.int .i64 e) := by
      simp only [bodyOf, Try.f36, Option.getD_some, initT, dx, reduceIte, Nat.reduceLT, Nat.reduceLeDiff, Nat.reduceEqDiff, Nat.reduceAdd, Nat.reduceMul, Nat.reduceSub, Nat.reduceBEq, Int.reduceEq, Int.reduceLT, Int.reduceLE, Int.reduceToNat, reduceCtorEq, sx, fx36, hg, hb1]
      exact ⟨_, _, rfl, by simp only [Tr.get_set, Nat.reduceEqDiff, reduceIte], by simp only [Tr.get_set, Nat.reduceEqDiff, reduceIte]⟩
    obtain ⟨T1, σ', r1, r2, r3⟩ := run
    exact fin T1 σ' _ e (.vs .nil []) [] [] r1 r2 r3 rfl lv_nil
  cases hrb : rightB (pgsOf l) ws with
  | false => exact bad 4 (by omega) (by unfold askH; rw [hrb]; rfl) (by unfold getH; rw [hrb]; rfl)
  | true =>
    have hright := rightB_iff.1 hrb
    cases hf : findL (pgsOf l) a with
    | none => exact bad 7 (by omega) (by unfold askH; rw [hrb, if_pos rfl, hf]) (by unfold getH; rw [hrb, if_pos rfl, hf])
    | some b =>
      obtain ⟨hbm, hba⟩ := findL_some hf
      obtain ⟨lo, n, hlo, hn, hn1, hln, hpg⟩ := blk_nat hright hbm
      have hmany := hright.many
      have hwl := hright.len
      have hab : a = (lo : Nat) := by rw [← hba, hlo]
      have hak : askH (pgsOf l) ws a = (((n : Nat) : Int), 0) := by unfold askH; rw [hrb, if_pos rfl, hf]; simp only [hn]
      rw [hak] at hg
      have hres : getH (pgsOf l) ws a = (segW ws lo n, 0) := by unfold getH; rw [hrb, if_pos rfl, hf]; simp only [hlo, hn, Int.toNat_natCast]
      rw [hres]
      subst hab
      have w1 : IntKind.i64.wrap (((lo : Nat) : Int) + ((n : Nat) : Int)) = ((lo + n : Nat) : Int) := by rw [i64_id (by omega) (by omega)]; omega
      have b1 : (0 : Int) ≤ ((lo + n : Nat) : Int) ∧ ((lo + n : Nat) : Int) ≤ ((ws.length : Nat) : Int) := by omega
      have b2 : (0 : Int) ≤ ((lo : Nat) : Int) ∧ ((lo : Nat) : Int) ≤ ((lo + n : Nat) : Int) := by omega
      have hseg : (ws.take (lo + n)).drop lo = segW ws lo n := rfl
      obtain ⟨σ0, hσ0⟩ : ∃ s, s = AMem.empty.push (.row 2 true [.vs kp (l.map pv), .vs kw (intV ws)]) := ⟨_, rfl⟩
      have g0 : σ0.get 0 = some (.row 2 true [.vs kp (l.map pv), .vs kw (intV ws)]) := by rw [hσ0]; simp [AMem.get_push, next_empty]
      obtain ⟨y, σ1, ha, _, hy⟩ := append_nil (σ := σ0) (e := (⟨.int .i64, 1, 8, [.int .i64 0]⟩ : TyI)) (x := .vs kw (intV (segW ws lo n))) (cells := intV (segW ws lo n)) (n := n) (by decide) (by decide) (by decide) (by
        have := source_ints kw (segW ws lo n) σ0
        rw [segW_length hln] at this
        exact this) (by simp only [mostBytes]; omega)
      have run : ∃ T1, execC lawProg (callN lawProg k) k 36 25 (bodyOf Try.f36) (initT 0 [.agg [.vs kp (l.map pv), .vs kw (intV ws)], .int .i64 (lo : Nat)] .nil) AMem.empty = some (.ret, T1, σ1) ∧ T1.get 4 = some y ∧ T1.get 5 = some (.int .i64 0) := by
        simp only [bodyOf, Try.f36, Option.getD_some, initT, dx, reduceIte, Nat.reduceLT, Nat.reduceLeDiff, Nat.reduceEqDiff, Nat.reduceAdd, Nat.reduceMul, Nat.reduceSub, Nat.reduceBEq, Int.reduceEq, Int.reduceLT, Int.reduceLE, Int.reduceToNat, reduceCtorEq, sx, fx36, ← hσ0]
        simp only [dx, reduceIte, Nat.reduceLT, Nat.reduceLeDiff, Nat.reduceEqDiff, Nat.reduceAdd, Nat.reduceMul, Nat.reduceSub, Nat.reduceBEq, Int.reduceEq, Int.reduceLT, Int.reduceLE, Int.reduceToNat, reduceCtorEq, sx, fx36, g0, hg, show ((0 : Int) != 0) = false from rfl, w1, intV_length, b1, b2, Int.toNat_natCast, intV_one, intV_take, intV_drop, hseg, vk_self, ha]
        exact ⟨_, rfl, by simp only [Tr.get_set, Nat.reduceEqDiff, reduceIte], by simp only [Tr.get_set, Nat.reduceEqDiff, reduceIte]⟩
      obtain ⟨T1, r1, r2, r3⟩ := run
      rcases hy with ⟨h0, _⟩ | ⟨r, rfl, _, _, hr⟩
      · omega
      · have hs := snap_ints (fr := true) (σ := σ1) (d := 9) (r := r) (n := n) (lo := 0) (l := segW ws lo n) (cap := none) (by rw [segW_length hln]; omega) hr
        have hse : segW (segW ws lo n) 0 n = segW ws lo n := by
          have := segW_length hln
          unfold segW at this ⊢
          rw [List.drop_zero, Nat.zero_add, List.take_of_length_le (by omega)]
        rw [hse] at hs
        exact fin T1 σ1 _ 0 _ _ _ r1 r2 r3 hs ⟨.some, rfl, by simp, by simp⟩
theorem sameInts_call (K K2 : VK) (l : List Int) (hl : l.length ≤ 8000) (hk : 9000 ≤ k) : pureCall lawProg (callN lawProg k) (.func 37 [] []) [.vs K (intV l), .vs K2 (intV l)] σ = some (.bool true, σ) := by
  obtain ⟨k, rfl⟩ : ∃ m, k = m + 1 := ⟨k - 1, by omega⟩
  have run : ∃ T1 σ1, execC lawProg (callN lawProg k) k 37 26 (bodyOf Try.f37) (initT 0 [.vs K (intV l), .vs K2 (intV l)] .nil) AMem.empty = some (.ret, T1, σ1) ∧ T1.get 4 = some (.bool true) := by
    have hne : (((l.length : Nat) : Int) != ((l.length : Nat) : Int)) = false := bne_self_eq_false _
    simp only [bodyOf, Try.f37, Option.getD_some, initT, dx, reduceIte, Nat.reduceLT, Nat.reduceLeDiff, Nat.reduceEqDiff, Nat.reduceAdd, Nat.reduceMul, Nat.reduceSub, Nat.reduceBEq, Int.reduceEq, Int.reduceLT, Int.reduceLE, Int.reduceToNat, reduceCtorEq, sx, fx37, intV_length, hne]
    generalize hL : execC _ _ _ _ _ (Code.loop _) _ _ = q
    obtain ⟨e, T', σ', rfl, _, rfl⟩ : ∃ e T' σ', q = some (e, T', σ') ∧ e ≠ .normal ∧ e = .exit 0 := by
      rw [← hL]
      refine exec_loop (fun i T σ' => i ≤ l.length ∧ T.get 0 = some (.vs K (intV l)) ∧ T.get 1 = some (.vs K2 (intV l)) ∧ T.get 5 = some (.int .i64 (i : Nat))) l.length (by omega) ?_ ?_ ?_
      · rintro i hi T σ0 ⟨_, t0, t1, t5⟩
        have hlt : ((i : Nat) : Int) < ((l.length : Nat) : Int) := by omega
        have hw' := i64_succ (i := i) (by omega)
        have hget := intV_get hi
        have hne2 : (l[i] != l[i]) = false := bne_self_eq_false _
        refine ⟨_, _, by
          simp only [dx, reduceIte, Nat.reduceLT, Nat.reduceLeDiff, Nat.reduceEqDiff, Nat.reduceAdd, Nat.reduceMul, Nat.reduceSub, Nat.reduceBEq, Int.reduceEq, Int.reduceLT, Int.reduceLE, Int.reduceToNat, reduceCtorEq, sx, fx37, t0, t1, t5, intV_length, hlt, Int.natCast_nonneg, Int.toNat_natCast, hget, hne2, hw']
          rfl, by omega, ?_, ?_, ?_⟩
        · simp only [Tr.get_set, Nat.reduceEqDiff, reduceIte, t0]
        · simp only [Tr.get_set, Nat.reduceEqDiff, reduceIte, t1]
        · simp only [Tr.get_set, Nat.reduceEqDiff, reduceIte]
      · rintro T σ0 ⟨_, t0, t1, t5⟩
        have hge : ¬ (((l.length : Nat) : Int) < ((l.length : Nat) : Int)) := by omega
        exact ⟨_, _, _, by
          simp only [dx, reduceIte, Nat.reduceLT, Nat.reduceLeDiff, Nat.reduceEqDiff, Nat.reduceAdd, Nat.reduceMul, Nat.reduceSub, Nat.reduceBEq, Int.reduceEq, Int.reduceLT, Int.reduceLE, Int.reduceToNat, reduceCtorEq, sx, fx37, t0, t5, intV_length, hge]
          rfl, by simp, rfl⟩
      · refine ⟨Nat.zero_le _, ?_, ?_, ?_⟩
        all_goals simp only [Tr.get_set, Nat.reduceEqDiff, reduceIte] <;> rfl
    simp only [dx, reduceIte, Nat.reduceLT, Nat.reduceLeDiff, Nat.reduceEqDiff, Nat.reduceAdd, Nat.reduceMul, Nat.reduceSub, Nat.reduceBEq, Int.reduceEq, Int.reduceLT, Int.reduceLE, Int.reduceToNat, reduceCtorEq, sx, fx37]
    exact ⟨_, _, rfl, by simp only [Tr.get_set, Nat.reduceEqDiff, reduceIte]⟩
  obtain ⟨T1, σ1, h1, h2⟩ := run
  exact pureCall_of (args' := [.vs K (intV l), .vs K2 (intV l)]) (seen := []) rfl (memo37 _) (pureRun_of fn37 rfl (by simp [Try.f37]) h1 (by simp) (res_one h2) rfl)
end Go.Proofs.Ytjkfdiglokkceaa

/- HeapPuts: the run. -/
set_option maxRecDepth 100000
set_option linter.unusedSimpArgs false
set_option linter.unusedVariables false
namespace Go.Proofs.Ytjkfdiglokkceaa
open Go Go.Proofs.Ytjkfdiglokkceaa.Pale
variable {k : Nat} {σ : AMem}

theorem put_bd {ps : List Pg} {ws l : List Int} {a : Int} : Bd (putH ps ws a l).ps (putH ps ws a l).ws := by
  unfold putH
  cases hrb : rightB ps ws with
  | false => exact nil_bd
  | true =>
    rw [if_pos rfl]
    cases hf : findL ps a with
    | none => exact nil_bd
    | some b =>
      obtain ⟨b1, b2, b3⟩ := right_bd (rightB_iff.1 hrb)
      simp only
      split
      · split
        · exact nil_bd
        · exact ⟨b1, by rw [putW_length]; exact b2, b3⟩
      · exact nil_bd
theorem get_len {ps : List Pg} {ws : List Int} {a : Int} (hb : Bd ps ws) : (getH ps ws a).1.length ≤ 8000 := by
  unfold getH
  cases hrb : rightB ps ws with
  | false => simp
  | true =>
    rw [if_pos rfl]
    cases hf : findL ps a with
    | none => simp
    | some b =>
      have h := rightB_iff.1 hrb
      obtain ⟨lo, n, h1, h2, h3, h4, _⟩ := blk_nat h (findL_some hf).1
      have := h.many
      have := h.len
      simp only [h1, h2, Int.toNat_natCast]
      rw [segW_length h4]
      omega
/-- A list in memory that was put behind nil, as an argument. -/
theorem nilOr_snap {low : Nat} {y : AVal} {l : List Int} (h : NilOr σ low 1 false y l.length (intV l)) : ∃ K S, snapF false σ snapDepth y = some (.vs K (intV l), S) := by
  rcases h with ⟨h0, rfl⟩ | ⟨r, rfl, _, _, hr⟩
  · obtain rfl := List.eq_nil_of_length_eq_zero h0
    exact ⟨.nil, [], rfl⟩
  · have hs := snap_ints (fr := false) (d := 10) (r := r) (n := l.length) (lo := 0) (l := l) (cap := none) (by omega) hr
    have hseg : segW l 0 l.length = l := by unfold segW; simp
    rw [hseg] at hs
    exact ⟨.some, [r], hs⟩
theorem Put_snap {v y : AVal} {ps : List Pg} {ws l : List Int} {K : VK} {S : List Nat} (a : Int) (hv : VH v ps ws) (hb : Bd ps ws) (hl : l.length ≤ 1000) (hy : snapF false σ snapDepth y = some (.vs K (intV l), S)) (hk : 9001 ≤ k) : ∃ v', pureCall lawProg (callN lawProg k) (.func 32 [] []) [v, .int .i64 a, y] σ = some (.tuple [v', .int .i64 (putH ps ws a l).e], σ) ∧ VH v' (putH ps ws a l).ps (putH ps ws a l).ws := by
  obtain ⟨k, rfl⟩ : ∃ m, k = m + 1 := ⟨k - 1, by omega⟩
  obtain ⟨v', h1, h2⟩ := Put_run (K := K) a hv hb hl (k := k) (by omega)
  refine ⟨v', pureCall_of (args' := [v, .int .i64 a, .vs K (intV l)]) (seen := [] ++ ([] ++ (S ++ []))) ?_ (memo32 _) h1, h2⟩
  have := hv.snap σ 10
  unfold snapDepth at hy ⊢
  have c1 : snapF false σ 12 (.int .i64 a) = some (.int .i64 a, []) := rfl
  simp only [snapL, this, hy, c1]
set_option maxHeartbeats 2000000 in
theorem puts_run {v : AVal} {ps : List Pg} {ws l : List Int} {K : VK} (a : Int) (hv : VH v ps ws) (hk : 12000 ≤ k) : ∃ σ', callN lawProg (k + 1) (.func 8 [] []) [v, .int .i64 a, .vs K (intV l)] AMem.empty = some (.bool true, σ') := by
  obtain ⟨X0, Y0, rfl, hX0, hY0⟩ := hv.cells
  obtain ⟨tb, hthin, hbd⟩ := thin_vh (k := k) hv (by omega)
  have haw := fun (σ : AMem) => awake_call (σ := σ) (callN lawProg k)
  have run : ∃ T1 σ', execC lawProg (callN lawProg k) k 8 101 (bodyOf Try.f8) (initT 0 [.agg [X0, Y0], .int .i64 a, .vs K (intV l)] .nil) AMem.empty = some (.ret, T1, σ') ∧ T1.get 6 = some (.bool true) := by
    cases tb with
    | false =>
      simp only [bodyOf, Try.f8, Option.getD_some, initT, dx, reduceIte, Nat.reduceLT, Nat.reduceLeDiff, Nat.reduceEqDiff, Nat.reduceAdd, Nat.reduceMul, Nat.reduceSub, Nat.reduceBEq, Int.reduceEq, Int.reduceLT, Int.reduceLE, Int.reduceToNat, reduceCtorEq, sx, fx8, hX0, hY0, hthin, haw]
      exact ⟨_, _, rfl, by simp only [Tr.get_set, Nat.reduceEqDiff, reduceIte]⟩
    | true =>
      by_cases hl80 : ((l.length : Nat) : Int) > 80
      · simp only [bodyOf, Try.f8, Option.getD_some, initT, dx, reduceIte, Nat.reduceLT, Nat.reduceLeDiff, Nat.reduceEqDiff, Nat.reduceAdd, Nat.reduceMul, Nat.reduceSub, Nat.reduceBEq, Int.reduceEq, Int.reduceLT, Int.reduceLE, Int.reduceToNat, reduceCtorEq, sx, fx8, hX0, hY0, hthin, intV_length, hl80, haw]
        exact ⟨_, _, rfl, by simp only [Tr.get_set, Nat.reduceEqDiff, reduceIte]⟩
      · obtain ⟨hb, _, _⟩ := hbd rfl
        obtain ⟨σ0, hσ0⟩ : ∃ s, s = AMem.empty.push (.row 2 true [X0, Y0]) := ⟨_, rfl⟩
        have n0 : σ0.next = 1 := by rw [hσ0]; simp [next_empty]
        have g0 : σ0.get 0 = some (.row 2 true [X0, Y0]) := by rw [hσ0]; simp [AMem.get_push, next_empty]
        obtain ⟨y, σ1, ha, ex1, hy⟩ := append_nil (σ := σ0) (e := (⟨.int .i64, 1, 8, [.int .i64 0]⟩ : TyI)) (x := .vs K (intV l)) (cells := intV l) (n := l.length) (by decide) (by decide) (by decide) (source_ints K l σ0) (by simp only [mostBytes]; omega)
        have hy1 : NilOr σ1 σ0.next 1 false y l.length (intV l) := hy
        obtain ⟨K2, S, hys⟩ := nilOr_snap hy1
        obtain ⟨v1, hc1, hv1⟩ := Copy_call (k := k) hv hb (by omega)
        obtain ⟨v2, hc2, hv2⟩ := Put_snap (k := k) a hv1 hb (by omega) hys (by omega)
        obtain ⟨v3, hc3, hv3⟩ := RPut_call (k := k) (K := K) (l := l) a hv hb (by omega) (by omega)
        have hc4 := fun (σ : AMem) => Size_call (k := k) (σ := σ) a hv1 hb (by omega)
        have hc5 := fun (σ : AMem) => RSize_call (k := k) (σ := σ) a hv hb (by omega)
        obtain ⟨v6, hc6, K6, rfl, _⟩ := Get_call (k := k) a hv1 hb (by omega)
        obtain ⟨v7, hc7, K7, rfl, _⟩ := RGet_call (k := k) a hv hb (by omega)
        have hsi := fun (σ : AMem) => sameInts_call (k := k) (σ := σ) K6 K7 (getH ps ws a).1 (get_len hb) (by omega)
        have hs1 := same_vh (k := k) hv2 hv3 put_bd (by omega)
        obtain ⟨X2, Y2, rfl, hX2, hY2⟩ := hv2.cells
        obtain ⟨X3, Y3, rfl, hX3, hY3⟩ := hv3.cells
        generalize (putH ps ws a l).e = e at *
        generalize (askH ps ws a).1 = q at *
        generalize (askH ps ws a).2 = f at *
        generalize (getH ps ws a).2 = g at *
        generalize (getH ps ws a).1 = gl at *
        have q1 : (e == e) = true := beq_self_eq_true _
        have q2 : (q == q) = true := beq_self_eq_true _
        have q3 : (f == f) = true := beq_self_eq_true _
        have q4 : (g == g) = true := beq_self_eq_true _
        have hx1 := ex1.1
        have g1 : σ1.get 0 = some (.row 2 true [X0, Y0]) := by rw [ex1.2 0 (by omega)]; exact g0
        obtain ⟨c, hc⟩ : ∃ c, c = σ1.next := ⟨_, rfl⟩
        obtain ⟨σ2, hσ2⟩ : ∃ s, s = (σ1.push (.row 2 true [.vs .nil [], .vs .nil []])).put c (.row 2 true [X2, Y2]) := ⟨_, rfl⟩
        have ex2 : Ext σ1 σ2 := by rw [hσ2]; exact (Ext.push _ _).put _ _ (by omega)
        have n2 : σ2.next = c + 1 := by rw [hσ2, hc]; simp
        have g2 : σ2.get 0 = some (.row 2 true [X0, Y0]) := by rw [ex2.2 0 (by omega)]; exact g1
        have gc2 : σ2.get c = some (.row 2 true [X2, Y2]) := by rw [hσ2, AMem.get_put, if_pos rfl]
        obtain ⟨σ3, hσ3⟩ : ∃ s, s = (σ2.push (.row 2 true [.vs .nil [], .vs .nil []])).put (c + 1) (.row 2 true [X3, Y3]) := ⟨_, rfl⟩
        have ex3 : Ext σ2 σ3 := by rw [hσ3]; exact (Ext.push _ _).put _ _ (by omega)
        have g3 : σ3.get 0 = some (.row 2 true [X0, Y0]) := by rw [ex3.2 0 (by omega)]; exact g2
        have gc3 : σ3.get c = some (.row 2 true [X2, Y2]) := by rw [ex3.2 c (by omega)]; exact gc2
        have gd3 : σ3.get (c + 1) = some (.row 2 true [X3, Y3]) := by rw [hσ3, AMem.get_put, if_pos rfl]
        simp only [bodyOf, Try.f8, Option.getD_some, initT, dx, reduceIte, Nat.reduceLT, Nat.reduceLeDiff, Nat.reduceEqDiff, Nat.reduceAdd, Nat.reduceMul, Nat.reduceSub, Nat.reduceBEq, Int.reduceEq, Int.reduceLT, Int.reduceLE, Int.reduceToNat, reduceCtorEq, sx, fx8, hX0, hY0, hthin, intV_length, hl80, ← hσ0]
        simp only [dx, reduceIte, Nat.reduceLT, Nat.reduceLeDiff, Nat.reduceEqDiff, Nat.reduceAdd, Nat.reduceMul, Nat.reduceSub, Nat.reduceBEq, Int.reduceEq, Int.reduceLT, Int.reduceLE, Int.reduceToNat, reduceCtorEq, sx, fx8, g0, hthin, intV_length, hl80, hc1, ha, hc2, hX2, hY2, ← hc, ← hσ2]
        simp only [dx, reduceIte, Nat.reduceLT, Nat.reduceLeDiff, Nat.reduceEqDiff, Nat.reduceAdd, Nat.reduceMul, Nat.reduceSub, Nat.reduceBEq, Int.reduceEq, Int.reduceLT, Int.reduceLE, Int.reduceToNat, reduceCtorEq, sx, fx8, g2, hc3, hX3, hY3, n2, ← hσ3]
        simp only [dx, reduceIte, Nat.reduceLT, Nat.reduceLeDiff, Nat.reduceEqDiff, Nat.reduceAdd, Nat.reduceMul, Nat.reduceSub, Nat.reduceBEq, Int.reduceEq, Int.reduceLT, Int.reduceLE, Int.reduceToNat, reduceCtorEq, sx, fx8, g3, gc3, gd3, hc1, hc4, hc5, hc6, hc7, hs1, q1, q2, q3, q4, hsi, haw]
        exact ⟨_, _, rfl, by simp only [Tr.get_set, Nat.reduceEqDiff, reduceIte]⟩
  obtain ⟨T1, σ', h1, h2⟩ := run
  exact ⟨σ', q_call (first := []) (caps := []) fn8 rfl (by simp [Try.f8]) h1 (by simp) (res_one h2)⟩
theorem elem_ints {P : Program} {tl ti n : Nat} {x : AVal} (ht : rkOf P tl = .slice ti) (he : rkOf P ti = .int .i64) (h : ElemFit P n tl x) : ∃ vk l, x = .vs vk (intV l) := by
  obtain ⟨m, vk, es, rfl, _, _, _, h3⟩ := elem_slice ht h
  obtain ⟨l, rfl, _⟩ := list_form (f := fun z => AVal.int .i64 z) (Q := fun _ => True) es (fun x hx => by
    obtain ⟨z, rfl, _⟩ := elem_int he (h3 x hx)
    exact ⟨z, rfl, trivial⟩)
  exact ⟨vk, l, rfl⟩
end Go.Proofs.Ytjkfdiglokkceaa

