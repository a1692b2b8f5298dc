import Derived.Test.YtjkfdiglokkceaaHT
import Derived.Test.YtjkfdiglokkceaaHP
/- Heaps: the reference's sizeOf and ask. -/
set_option maxRecDepth 100000
set_option linter.unusedSimpArgs false
set_option linter.unusedVariables false
namespace Go.Proofs.Ytjkfdiglokkceaa
open Go Go.Proofs.Ytjkfdiglokkceaa.Pale
variable {k : Nat} {σ : AMem}

theorem isRight_vh0 {v : AVal} {ps : List Pg} {ws : List Int} (hv : VH v ps ws) (hb : Bd ps ws) (hk : 6000 ≤ k) (σ : AMem) : pureCall lawProg (callN lawProg k) (.func 24 [] []) [v] σ = some (.bool (rightB ps ws), σ) := by
  obtain ⟨kp, kw, l, rfl, rfl, _⟩ := hv
  have hl : (pgsOf l).length = l.length := by simp [pgsOf]
  obtain ⟨b1, b2, b3⟩ := hb
  exact isRight_call kp kw l ws (fun z hz => b3 z.1 (List.mem_map.2 ⟨z, hz, rfl⟩)) (by omega) (by omega) hk
def sizeL (ps : List Pg) (a : Int) : Int := match findL ps a with
  | some b => b.size
  | none => 0
theorem sizeOf_call' {v : AVal} {ps : List Pg} {ws : List Int} (a : Int) (hv : VH v ps ws) (hsh : Shape ps) (hl : ps.length ≤ 40) (hk : 9000 ≤ k) : pureCall lawProg (callN lawProg k) (.func 76 [] []) [v, .int .i64 a] σ = some (.int .i64 (sizeL ps a), σ) := by
  obtain ⟨k, rfl⟩ : ∃ m, k = m + 1 := ⟨k - 1, by omega⟩
  have hv0 := hv
  obtain ⟨kp, kw, l, rfl, rfl, _⟩ := hv
  have hlp : (pgsOf l).length = l.length := by simp [pgsOf]
  have hbl := fun (σ : AMem) => blocks_call (k := k) (σ := σ) kp kw l ws hsh (by omega) (by omega)
  obtain ⟨L, hL⟩ : ∃ L, L = blocksL (pgsOf l) := ⟨_, rfl⟩
  have hLl : L.length ≤ 2560 := by
    have := (blocks_len hsh (pgsOf l).length (Nat.le_refl _)).1
    rw [hL]
    unfold blocksL
    omega
  rw [← hL] at hbl
  have run : ∃ T1 σ1, execC lawProg (callN lawProg k) k 76 27 (bodyOf Try.f76) (initT 0 [hpV kp kw l ws, .int .i64 a] .nil) AMem.empty = some (.ret, T1, σ1) ∧ T1.get 4 = some (.int .i64 (sizeL (pgsOf l) a)) := by
    unfold hpV at hbl ⊢
    simp only [bodyOf, Try.f76, Option.getD_some, initT, dx, reduceIte, Nat.reduceLT, Nat.reduceLeDiff, Nat.reduceEqDiff, Nat.reduceAdd, Nat.reduceMul, Nat.reduceSub, Nat.reduceBEq, Int.reduceEq, Int.reduceLT, Int.reduceLE, Int.reduceToNat, reduceCtorEq, sx, fx76, hbl]
    generalize hLp : execC _ _ _ _ _ (Code.loop _) _ _ = q
    obtain ⟨e, T', σ', rfl, _, hc⟩ : ∃ e T' σ', q = some (e, T', σ') ∧ e ≠ .normal ∧ ((e = .ret ∧ ∃ b, findL (pgsOf l) a = some b ∧ T'.get 4 = some (.int .i64 b.size)) ∨ (e = .exit 0 ∧ findL (pgsOf l) a = none)) := by
      rw [← hLp]
      have hkL : L.length < k := by omega
      · refine exec_loop2 (fun i T σ' => i ≤ L.length ∧ T.get 1 = some (.int .i64 a) ∧ T.get 5 = some (.vs (lkOf L.length) (prsV L)) ∧ T.get 6 = some (.int .i64 (i : Nat)) ∧ ∀ b, b ∈ L.take i → b.at_ ≠ a) L.length hkL ?_ ?_ ?_
        · rintro i hi T σ0 ⟨_, t1, t5, t6, hall⟩
          have hlt : ((i : Nat) : Int) < ((L.length : Nat) : Int) := by omega
          have hw' := i64_succ (i := i) (by omega)
          have hget := prsV_get hi
          have i12 : (1 : Int) < ((2 : Nat) : Int) := by decide
          have i02 : (0 : Int) < ((2 : Nat) : Int) := by decide
          by_cases he : (L[i]).at_ = a
          · have hb1 : ((L[i]).at_ == a) = true := by rw [he]; simp
            refine .inr ⟨_, _, _, by
              simp only [dx, reduceIte, Nat.reduceLT, Nat.reduceLeDiff, Nat.reduceEqDiff, Nat.reduceAdd, Nat.reduceMul, Nat.reduceSub, Nat.reduceBEq, Int.reduceEq, Int.reduceLT, Int.reduceLE, Int.reduceToNat, reduceCtorEq, sx, fx76, t1, t5, t6, hlt, prsV_length, Int.natCast_nonneg, Int.toNat_natCast, hget, i02, i12, hb1]
              rfl, by simp, .inl ⟨rfl, L[i], ?_, ?_⟩⟩
            · unfold findL
              rw [← hL]
              have hs : L = L.take i ++ L[i] :: L.drop (i + 1) := by
                rw [List.getElem_cons_drop, List.take_append_drop]
              conv => lhs; rw [hs]
              rw [List.find?_append, List.find?_eq_none.2 (fun x hx => by simpa using hall x hx), List.find?_cons, hb1]
              rfl
            · simp only [Tr.get_set, Nat.reduceEqDiff, reduceIte]
          · have hb1 : ((L[i]).at_ == a) = false := by rw [beq_eq_false_iff_ne]; exact he
            refine .inl ⟨_, _, by
              simp only [dx, reduceIte, Nat.reduceLT, Nat.reduceLeDiff, Nat.reduceEqDiff, Nat.reduceAdd, Nat.reduceMul, Nat.reduceSub, Nat.reduceBEq, Int.reduceEq, Int.reduceLT, Int.reduceLE, Int.reduceToNat, reduceCtorEq, sx, fx76, t1, t5, t6, hlt, prsV_length, Int.natCast_nonneg, Int.toNat_natCast, hget, i02, i12, hb1, hw']
              rfl, by omega, ?_, ?_, ?_, take_all hi hall he⟩
            · simp only [Tr.get_set, Nat.reduceEqDiff, reduceIte, t1]
            · simp only [Tr.get_set, Nat.reduceEqDiff, reduceIte, t5]
            · simp only [Tr.get_set, Nat.reduceEqDiff, reduceIte]
        · rintro T σ0 ⟨_, t1, t5, t6, hall⟩
          have hge : ¬ (((L.length : Nat) : Int) < ((L.length : Nat) : Int)) := by omega
          rw [List.take_length] at hall
          refine ⟨_, _, _, by
            simp only [dx, reduceIte, Nat.reduceLT, Nat.reduceLeDiff, Nat.reduceEqDiff, Nat.reduceAdd, Nat.reduceMul, Nat.reduceSub, Nat.reduceBEq, Int.reduceEq, Int.reduceLT, Int.reduceLE, Int.reduceToNat, reduceCtorEq, sx, fx76, t5, t6, prsV_length, hge]
            rfl, by simp, .inr ⟨rfl, ?_⟩⟩
          unfold findL
          rw [← hL, List.find?_eq_none]
          intro x hx
          simpa using hall x hx
        · refine ⟨Nat.zero_le _, ?_, ?_, ?_, by simp⟩
          all_goals simp only [Tr.get_set, Nat.reduceEqDiff, reduceIte] <;> rfl
    rcases hc with ⟨rfl, b, h1, h2⟩ | ⟨rfl, h1⟩
    · simp only [dx, reduceIte, Nat.reduceLT, Nat.reduceLeDiff, Nat.reduceEqDiff, Nat.reduceAdd, Nat.reduceMul, Nat.reduceSub, Nat.reduceBEq, Int.reduceEq, Int.reduceLT, Int.reduceLE, Int.reduceToNat, reduceCtorEq, sx, fx76]
      exact ⟨_, _, rfl, by rw [h2]; unfold sizeL; rw [h1]⟩
    · simp only [dx, reduceIte, Nat.reduceLT, Nat.reduceLeDiff, Nat.reduceEqDiff, Nat.reduceAdd, Nat.reduceMul, Nat.reduceSub, Nat.reduceBEq, Int.reduceEq, Int.reduceLT, Int.reduceLE, Int.reduceToNat, reduceCtorEq, sx, fx76]
      exact ⟨_, _, rfl, by unfold sizeL; rw [h1]; simp only [Tr.get_set, Nat.reduceEqDiff, reduceIte]⟩
  obtain ⟨T1, σ1, h1, h2⟩ := run
  refine pureCall_of (args' := [hpV kp kw l ws, .int .i64 a]) (seen := [] ++ ([] ++ [])) ?_ (memo76 _) (pureRun_of fn76 rfl (by simp [Try.f76]) h1 (by simp) (res_one h2) rfl)
  have := hv0.snap σ 10
  simp only [snapL, snapDepth, this, snapF]
noncomputable def askH (ps : List Pg) (ws : List Int) (a : Int) : Int × Int := if rightB ps ws then (match findL ps a with
    | some b => (b.size, 0)
    | none => (0, 7)) else (0, 4)
theorem ask_call {v : AVal} {ps : List Pg} {ws : List Int} (a : Int) (hv : VH v ps ws) (hb : Bd ps ws) (hk : 9001 ≤ k) : pureCall lawProg (callN lawProg k) (.func 56 [] []) [v, .int .i64 a] σ = some (.tuple [.int .i64 (askH ps ws a).1, .int .i64 (askH ps ws a).2], σ) := by
  obtain ⟨k, rfl⟩ : ∃ m, k = m + 1 := ⟨k - 1, by omega⟩
  have hsn := hv.snap σ 10
  obtain ⟨X, Y, rfl, hX, hY⟩ := hv.cells
  have hri := isRight_vh0 (k := k) hv hb (by omega)
  have run : ∃ T1 σ1, execC lawProg (callN lawProg k) k 56 16 (bodyOf Try.f56) (initT 0 [.agg [X, Y], .int .i64 a] .nil) AMem.empty = some (.ret, T1, σ1) ∧ T1.get 4 = some (.int .i64 (askH ps ws a).1) ∧ T1.get 5 = some (.int .i64 (askH ps ws a).2) := by
    cases hrb : rightB ps ws with
    | false =>
      rw [hrb] at hri
      have hres : askH ps ws a = (0, 4) := by unfold askH; rw [hrb]; rfl
      rw [hres]
      simp only [bodyOf, Try.f56, Option.getD_some, initT, dx, reduceIte, Nat.reduceLT, Nat.reduceLeDiff, Nat.reduceEqDiff, Nat.reduceAdd, Nat.reduceMul, Nat.reduceSub, Nat.reduceBEq, Int.reduceEq, Int.reduceLT, Int.reduceLE, Int.reduceToNat, reduceCtorEq, sx, fx56, hX, hY, hri]
      exact ⟨_, _, rfl, by simp only [Tr.get_set, Nat.reduceEqDiff, reduceIte], by simp only [Tr.get_set, Nat.reduceEqDiff, reduceIte]⟩
    | true =>
      rw [hrb] at hri
      have hright := rightB_iff.1 hrb
      have hsz := fun (σ : AMem) => sizeOf_call' (k := k) (σ := σ) a hv hright.shape hright.many.2 (by omega)
      cases hf : findL ps a with
      | none =>
        have hs0 : sizeL ps a = 0 := by unfold sizeL; rw [hf]
        rw [hs0] at hsz
        have hres : askH ps ws a = (0, 7) := by unfold askH; rw [hrb, if_pos rfl, hf]
        rw [hres]
        have h0 : ¬ ((0 : Int) > 0) := by omega
        simp only [bodyOf, Try.f56, Option.getD_some, initT, dx, reduceIte, Nat.reduceLT, Nat.reduceLeDiff, Nat.reduceEqDiff, Nat.reduceAdd, Nat.reduceMul, Nat.reduceSub, Nat.reduceBEq, Int.reduceEq, Int.reduceLT, Int.reduceLE, Int.reduceToNat, reduceCtorEq, sx, fx56, hX, hY, hri, hsz, h0]
        exact ⟨_, _, rfl, by simp only [Tr.get_set, Nat.reduceEqDiff, reduceIte], by simp only [Tr.get_set, Nat.reduceEqDiff, reduceIte]⟩
      | some b =>
        have hs0 : sizeL ps a = b.size := by unfold sizeL; rw [hf]
        rw [hs0] at hsz
        have hres : askH ps ws a = (b.size, 0) := by unfold askH; rw [hrb, if_pos rfl, hf]
        rw [hres]
        obtain ⟨_, n, _, hn, hn1, _⟩ := blk_nat hright (findL_some hf).1
        have h0 : b.size > 0 := by omega
        simp only [bodyOf, Try.f56, Option.getD_some, initT, dx, reduceIte, Nat.reduceLT, Nat.reduceLeDiff, Nat.reduceEqDiff, Nat.reduceAdd, Nat.reduceMul, Nat.reduceSub, Nat.reduceBEq, Int.reduceEq, Int.reduceLT, Int.reduceLE, Int.reduceToNat, reduceCtorEq, sx, fx56, hX, hY, hri, hsz, h0]
        exact ⟨_, _, rfl, by simp only [Tr.get_set, Nat.reduceEqDiff, reduceIte], by simp only [Tr.get_set, Nat.reduceEqDiff, reduceIte]⟩
  obtain ⟨T1, σ1, h1, h2, h3⟩ := run
  refine pureCall_of (args' := [.agg [X, Y], .int .i64 a]) (seen := [] ++ ([] ++ [])) ?_ (memo56 _) (pureRun_of fn56 rfl (by simp [Try.f56]) h1 (by simp) (res_two h2 h3) rfl)
  simp only [snapL, snapDepth, hsn, snapF]
end Go.Proofs.Ytjkfdiglokkceaa

/- Heaps: Get and Size, of the program and of the reference; lists that are compared. -/
set_option maxRecDepth 100000
set_option linter.unusedSimpArgs false
set_option linter.unusedVariables false
namespace Go.Proofs.Ytjkfdiglokkceaa
open Go Go.Proofs.Ytjkfdiglokkceaa.Pale
variable {k : Nat} {σ : AMem}

/-- A value that reads as a list of words. -/
def LV (v : AVal) (l : List Int) : Prop := ∃ K, v = .vs K (intV l) ∧ K ≠ .zero ∧ (K = .nil → l = [])
theorem lv_nil : LV (.vs .nil []) [] := ⟨.nil, rfl, by simp, fun _ => rfl⟩
noncomputable def getH (ps : List Pg) (ws : List Int) (a : Int) : List Int × Int := if rightB ps ws then (match findL ps a with
    | some b => (segW ws b.at_.toNat b.size.toNat, 0)
    | none => ([], 7)) else ([], 4)
theorem get_ask {ps : List Pg} {ws : List Int} {a : Int} : (((getH ps ws a).1.length : Nat) : Int) = (askH ps ws a).1 ∧ (getH ps ws a).2 = (askH ps ws a).2 := by
  unfold getH askH
  cases hrb : rightB ps ws with
  | false => exact ⟨rfl, rfl⟩
  | true =>
    rw [if_pos rfl, if_pos rfl]
    cases hf : findL ps a with
    | none => exact ⟨rfl, rfl⟩
    | some b =>
      obtain ⟨lo, n, h1, h2, h3, h4, _⟩ := blk_nat (rightB_iff.1 hrb) (findL_some hf).1
      refine ⟨?_, rfl⟩
      simp only [h1, h2, Int.toNat_natCast]
      rw [segW_length h4]
set_option maxHeartbeats 1000000 in
theorem Get_run {v : AVal} {ps : List Pg} {ws : List Int} (a : Int) (hv : VH v ps ws) (hb : Bd ps ws) (hk : 9000 ≤ k) : ∃ v', pureRun (callN lawProg (k + 1)) (.func 35 [] []) [v, .int .i64 a] = some (.tuple [v', .int .i64 (getH ps ws a).2], true) ∧ LV v' (getH ps ws a).1 := by
  obtain ⟨X, Y, rfl, hX, hY⟩ := hv.cells
  obtain ⟨σ0, hσ0⟩ : ∃ s, s = AMem.empty.push (.row 2 true [X, Y]) := ⟨_, rfl⟩
  have n0 : σ0.next = 1 := by rw [hσ0]; simp [next_empty]
  have g0 : σ0.get 0 = some (.row 2 true [X, Y]) := by rw [hσ0]; simp [AMem.get_push, next_empty]
  have fin : ∀ (T1 : Tr AVal) (σ' : AMem) (x : AVal) (e : Int) (v' : AVal) (S : List Nat) (l : List Int), execC lawProg (callN lawProg k) k 35 29 (bodyOf Try.f35) (initT 0 [.agg [X, Y], .int .i64 a] .nil) AMem.empty = some (.ret, T1, σ') → T1.get 4 = some x → T1.get 5 = some (.int .i64 e) → snapF true σ' 11 x = some (v', S) → LV v' l → ∃ v', pureRun (callN lawProg (k + 1)) (.func 35 [] []) [.agg [X, Y], .int .i64 a] = some (.tuple [v', .int .i64 e], true) ∧ LV v' l := by
    intro T1 σ' x e v' S l r1 r2 r3 hS hl
    refine ⟨v', ?_, hl⟩
    refine pureRun_of (vs := [x, .int .i64 e]) (seen := S ++ ([] ++ [])) fn35 rfl (by simp [Try.f35]) r1 (by simp) (res_two r2 r3) ?_
    have c2 : snapF true σ' 11 (.int .i64 e) = some (.int .i64 e, []) := rfl
    show snapF true σ' (11 + 1) (.tuple [x, .int .i64 e]) = _
    rw [snapF]
    simp only [snapL, hS, c2, Option.map_some]
  rcases open_vh (k := k - 1) hv hb (by omega) σ0 with ⟨hr, σ2, ho, ex2⟩ | ⟨hr, hright, σ2, sp, pr, wr, its, ho, ex2, hM⟩
  · rw [show k - 1 + 1 = k by omega] at ho
    have hres : getH ps ws a = ([], 4) := by unfold getH; rw [hr]; rfl
    rw [hres]
    have run : ∃ T1, execC lawProg (callN lawProg k) k 35 29 (bodyOf Try.f35) (initT 0 [.agg [X, Y], .int .i64 a] .nil) AMem.empty = some (.ret, T1, σ2) ∧ T1.get 4 = some (.vs .nil []) ∧ T1.get 5 = some (.int .i64 4) := by
      simp only [bodyOf, Try.f35, Option.getD_some, initT, dx, reduceIte, Nat.reduceLT, Nat.reduceLeDiff, Nat.reduceEqDiff, Nat.reduceAdd, Nat.reduceMul, Nat.reduceSub, Nat.reduceBEq, Int.reduceEq, Int.reduceLT, Int.reduceLE, Int.reduceToNat, reduceCtorEq, sx, fx35, hX, hY, ← hσ0]
      simp only [dx, reduceIte, Nat.reduceLT, Nat.reduceLeDiff, Nat.reduceEqDiff, Nat.reduceAdd, Nat.reduceMul, Nat.reduceSub, Nat.reduceBEq, Int.reduceEq, Int.reduceLT, Int.reduceLE, Int.reduceToNat, reduceCtorEq, sx, fx35, g0, ho, show ((4 : Int) != 0) = true from rfl]
      exact ⟨_, rfl, by simp only [Tr.get_set, Nat.reduceEqDiff, reduceIte], by simp only [Tr.get_set, Nat.reduceEqDiff, reduceIte]⟩
    obtain ⟨T1, r1, r2, r3⟩ := run
    exact fin T1 σ2 _ 4 (.vs .nil []) [] [] r1 r2 r3 rfl lv_nil
  · rw [show k - 1 + 1 = k by omega] at ho
    have hmany := hright.many
    have hwl := hright.len
    obtain ⟨σ3, hfind, ex3⟩ := find_exec (k := k - 1) (a := a) hM hright.shape hmany.2 (by omega)
    rw [show k - 1 + 1 = k by omega] at hfind
    have h3 := hM.ext ex3
    obtain ⟨c, hc⟩ : ∃ c, c = σ3.next := ⟨_, rfl⟩
    cases hf : findL ps a with
    | none =>
      have hres : getH ps ws a = ([], 7) := by unfold getH; rw [hr, if_pos rfl, hf]
      rw [hres]
      rw [hf] at hfind
      simp only [Option.getD_none, Option.isSome_none, noBlk, blkC] at hfind
      have run : ∃ T1 σ', execC lawProg (callN lawProg k) k 35 29 (bodyOf Try.f35) (initT 0 [.agg [X, Y], .int .i64 a] .nil) AMem.empty = some (.ret, T1, σ') ∧ T1.get 4 = some (.vs .nil []) ∧ T1.get 5 = some (.int .i64 7) := by
        simp only [bodyOf, Try.f35, Option.getD_some, initT, dx, reduceIte, Nat.reduceLT, Nat.reduceLeDiff, Nat.reduceEqDiff, Nat.reduceAdd, Nat.reduceMul, Nat.reduceSub, Nat.reduceBEq, Int.reduceEq, Int.reduceLT, Int.reduceLE, Int.reduceToNat, reduceCtorEq, sx, fx35, hX, hY, ← hσ0]
        simp only [dx, reduceIte, Nat.reduceLT, Nat.reduceLeDiff, Nat.reduceEqDiff, Nat.reduceAdd, Nat.reduceMul, Nat.reduceSub, Nat.reduceBEq, Int.reduceEq, Int.reduceLT, Int.reduceLE, Int.reduceToNat, reduceCtorEq, sx, fx35, g0, ho, show ((0 : Int) != 0) = false from rfl, hfind]
        exact ⟨_, _, rfl, by simp only [Tr.get_set, Nat.reduceEqDiff, reduceIte], by simp only [Tr.get_set, Nat.reduceEqDiff, reduceIte]⟩
      obtain ⟨T1, σ', r1, r2, r3⟩ := run
      exact fin T1 σ' _ 7 (.vs .nil []) [] [] r1 r2 r3 rfl lv_nil
    | some b =>
      rw [hf] at hfind
      simp only [Option.getD_some, Option.isSome_some] at hfind
      obtain ⟨hbm, hba⟩ := findL_some hf
      obtain ⟨lo, n, hlo, hn, hn1, hln, hpg⟩ := blk_nat hright hbm
      have hres : getH ps ws a = (segW ws lo n, 0) := by unfold getH; rw [hr, if_pos rfl, hf]; simp only [hlo, hn, Int.toNat_natCast]
      rw [hres]
      obtain ⟨σ4, hσ4⟩ : ∃ m, m = (σ3.push (.row 4 true [.int .i64 0, .int .i64 0, .int .i64 0, .int .i64 0])).put c (.row 4 true (blkC b)) := ⟨_, rfl⟩
      have ex4 : Ext σ3 σ4 := by rw [hσ4]; exact (Ext.push _ _).put _ _ (by omega)
      have h4 := h3.ext ex4
      have gc4 : σ4.get c = some (.row 4 true (blkC b)) := by rw [hσ4, AMem.get_put, if_pos rfl]
      have hwds := owords_exec (k := k - 1) h4 hlo hn hln (by omega)
      rw [show k - 1 + 1 = k by omega] at hwds
      obtain ⟨σ5, hσ5⟩ : ∃ m, m = σ4.push (.row 4 true (blkC b)) := ⟨_, rfl⟩
      rw [← hσ5] at hwds
      have h5 : HeapM σ0.next σ5 sp pr none wr none its ps ws := by rw [hσ5]; exact h4.ext (Ext.push _ _)
      unfold blkC at hfind hσ4 gc4 hwds
      have run : ∃ T1, execC lawProg (callN lawProg k) k 35 29 (bodyOf Try.f35) (initT 0 [.agg [X, Y], .int .i64 a] .nil) AMem.empty = some (.ret, T1, σ5) ∧ T1.get 4 = some (.slice wr lo n none 1) ∧ T1.get 5 = some (.int .i64 0) := by
        simp only [bodyOf, Try.f35, Option.getD_some, initT, dx, reduceIte, Nat.reduceLT, Nat.reduceLeDiff, Nat.reduceEqDiff, Nat.reduceAdd, Nat.reduceMul, Nat.reduceSub, Nat.reduceBEq, Int.reduceEq, Int.reduceLT, Int.reduceLE, Int.reduceToNat, reduceCtorEq, sx, fx35, hX, hY, ← hσ0]
        simp only [dx, reduceIte, Nat.reduceLT, Nat.reduceLeDiff, Nat.reduceEqDiff, Nat.reduceAdd, Nat.reduceMul, Nat.reduceSub, Nat.reduceBEq, Int.reduceEq, Int.reduceLT, Int.reduceLE, Int.reduceToNat, reduceCtorEq, sx, fx35, g0, ho, show ((0 : Int) != 0) = false from rfl, hfind, ← hc, ← hσ4]
        simp only [dx, reduceIte, Nat.reduceLT, Nat.reduceLeDiff, Nat.reduceEqDiff, Nat.reduceAdd, Nat.reduceMul, Nat.reduceSub, Nat.reduceBEq, Int.reduceEq, Int.reduceLT, Int.reduceLE, Int.reduceToNat, reduceCtorEq, sx, fx35, gc4, hwds]
        exact ⟨_, rfl, by simp only [Tr.get_set, Nat.reduceEqDiff, reduceIte], by simp only [Tr.get_set, Nat.reduceEqDiff, reduceIte]⟩
      obtain ⟨T1, r1, r2, r3⟩ := run
      exact fin T1 σ5 _ 0 (.vs .some (intV (segW ws lo n))) [wr] _ r1 r2 r3 (snap_ints (d := 9) hln h5.own.mw) ⟨.some, rfl, by simp, by simp⟩
theorem Get_call {v : AVal} {ps : List Pg} {ws : List Int} (a : Int) (hv : VH v ps ws) (hb : Bd ps ws) (hk : 9001 ≤ k) : ∃ v', (∀ σ, pureCall lawProg (callN lawProg k) (.func 35 [] []) [v, .int .i64 a] σ = some (.tuple [v', .int .i64 (getH ps ws a).2], σ)) ∧ LV v' (getH ps ws a).1 := by
  obtain ⟨k, rfl⟩ : ∃ m, k = m + 1 := ⟨k - 1, by omega⟩
  obtain ⟨v', h1, h2⟩ := Get_run a hv hb (k := k) (by omega)
  refine ⟨v', fun σ => pureCall_of (seen := [] ++ ([] ++ [])) ?_ (memo35 _) h1, h2⟩
  have := hv.snap σ 10
  simp only [snapL, snapDepth, this, snapF]
theorem Size_call {v : AVal} {ps : List Pg} {ws : List Int} (a : Int) (hv : VH v ps ws) (hb : Bd ps ws) (hk : 9002 ≤ k) : pureCall lawProg (callN lawProg k) (.func 28 [] []) [v, .int .i64 a] σ = some (.tuple [.int .i64 (askH ps ws a).1, .int .i64 (askH ps ws a).2], σ) := by
  obtain ⟨k, rfl⟩ : ∃ m, k = m + 1 := ⟨k - 1, by omega⟩
  have hsn := hv.snap σ 10
  obtain ⟨v', hg, K, rfl, _⟩ := Get_call (k := k) a hv hb (by omega)
  obtain ⟨h1, h2⟩ := get_ask (ps := ps) (ws := ws) (a := a)
  rw [← h1, ← h2]
  obtain ⟨X, Y, rfl, hX, hY⟩ := hv.cells
  have run : ∃ T1 σ1, execC lawProg (callN lawProg k) k 28 17 (bodyOf Try.f28) (initT 0 [.agg [X, Y], .int .i64 a] .nil) AMem.empty = some (.ret, T1, σ1) ∧ T1.get 4 = some (.int .i64 (((getH ps ws a).1.length : Nat) : Int)) ∧ T1.get 5 = some (.int .i64 (getH ps ws a).2) := by
    simp only [bodyOf, Try.f28, Option.getD_some, initT, dx, reduceIte, Nat.reduceLT, Nat.reduceLeDiff, Nat.reduceEqDiff, Nat.reduceAdd, Nat.reduceMul, Nat.reduceSub, Nat.reduceBEq, Int.reduceEq, Int.reduceLT, Int.reduceLE, Int.reduceToNat, reduceCtorEq, sx, fx28, hX, hY, hg, intV_length]
    exact ⟨_, _, rfl, by simp only [Tr.get_set, Nat.reduceEqDiff, reduceIte], by simp only [Tr.get_set, Nat.reduceEqDiff, reduceIte]⟩
  obtain ⟨T1, σ1, g1, g2, g3⟩ := run
  refine pureCall_of (args' := [.agg [X, Y], .int .i64 a]) (seen := [] ++ ([] ++ [])) ?_ (memo28 _) (pureRun_of fn28 rfl (by simp [Try.f28]) g1 (by simp) (res_two g2 g3) rfl)
  simp only [snapL, snapDepth, hsn, snapF]
theorem RSize_call {v : AVal} {ps : List Pg} {ws : List Int} (a : Int) (hv : VH v ps ws) (hb : Bd ps ws) (hk : 9002 ≤ k) : pureCall lawProg (callN lawProg k) (.func 34 [] []) [v, .int .i64 a] σ = some (.tuple [.int .i64 (askH ps ws a).1, .int .i64 (askH ps ws a).2], σ) := by
  obtain ⟨k, rfl⟩ : ∃ m, k = m + 1 := ⟨k - 1, by omega⟩
  have hsn := hv.snap σ 10
  have hg := fun (σ : AMem) => ask_call (k := k) (σ := σ) a hv hb (by omega)
  obtain ⟨X, Y, rfl, hX, hY⟩ := hv.cells
  have run : ∃ T1 σ1, execC lawProg (callN lawProg k) k 34 11 (bodyOf Try.f34) (initT 0 [.agg [X, Y], .int .i64 a] .nil) AMem.empty = some (.ret, T1, σ1) ∧ T1.get 4 = some (.int .i64 (askH ps ws a).1) ∧ T1.get 5 = some (.int .i64 (askH ps ws a).2) := by
    simp only [bodyOf, Try.f34, Option.getD_some, initT, dx, reduceIte, Nat.reduceLT, Nat.reduceLeDiff, Nat.reduceEqDiff, Nat.reduceAdd, Nat.reduceMul, Nat.reduceSub, Nat.reduceBEq, Int.reduceEq, Int.reduceLT, Int.reduceLE, Int.reduceToNat, reduceCtorEq, sx, fx34, hX, hY, hg]
    exact ⟨_, _, rfl, by simp only [Tr.get_set, Nat.reduceEqDiff, reduceIte], by simp only [Tr.get_set, Nat.reduceEqDiff, reduceIte]⟩
  obtain ⟨T1, σ1, g1, g2, g3⟩ := run
  refine pureCall_of (args' := [.agg [X, Y], .int .i64 a]) (seen := [] ++ ([] ++ [])) ?_ (memo34 _) (pureRun_of fn34 rfl (by simp [Try.f34]) g1 (by simp) (res_two g2 g3) rfl)
  simp only [snapL, snapDepth, hsn, snapF]
theorem RGet_call {v : AVal} {ps : List Pg} {ws : List Int} (a : Int) (hv : VH v ps ws) (hb : Bd ps ws) (hk : 9002 ≤ k) : ∃ v', (∀ σ, pureCall lawProg (callN lawProg k) (.func 36 [] []) [v, .int .i64 a] σ = some (.tuple [v', .int .i64 (getH ps ws a).2], σ)) ∧ LV v' (getH ps ws a).1 := by
  obtain ⟨k, rfl⟩ : ∃ m, k = m + 1 := ⟨k - 1, by omega⟩
  have hv0 := hv
  have hg := fun (σ : AMem) => ask_call (k := k) (σ := σ) a hv hb (by omega)
  obtain ⟨kp, kw, l, rfl, rfl, hkp, hkw, hgood⟩ := hv
  unfold hpV at hg hv0 ⊢
  have fin : ∀ (T1 : Tr AVal) (σ' : AMem) (x : AVal) (e : Int) (v' : AVal) (S : List Nat) (us : List Int), execC lawProg (callN lawProg k) k 36 25 (bodyOf Try.f36) (initT 0 [.agg [.vs kp (l.map pv), .vs kw (intV ws)], .int .i64 a] .nil) AMem.empty = some (.ret, T1, σ') → T1.get 4 = some x → T1.get 5 = some (.int .i64 e) → snapF true σ' 11 x = some (v', S) → LV v' us → ∃ v', (∀ σ, pureCall lawProg (callN lawProg (k + 1)) (.func 36 [] []) [.agg [.vs kp (l.map pv), .vs kw (intV ws)], .int .i64 a] σ = some (.tuple [v', .int .i64 e], σ)) ∧ LV v' us := by
    intro T1 σ' x e v' S us r1 r2 r3 hS hl
    have hp : pureRun (callN lawProg (k + 1)) (.func 36 [] []) [.agg [.vs kp (l.map pv), .vs kw (intV ws)], .int .i64 a] = some (.tuple [v', .int .i64 e], true) := by
      refine pureRun_of (vs := [x, .int .i64 e]) (seen := S ++ ([] ++ [])) fn36 rfl (by simp [Try.f36]) r1 (by simp) (res_two r2 r3) ?_
      have c2 : snapF true σ' 11 (.int .i64 e) = some (.int .i64 e, []) := rfl
      show snapF true σ' (11 + 1) (.tuple [x, .int .i64 e]) = _
      rw [snapF]
      simp only [snapL, hS, c2, Option.map_some]
    refine ⟨v', fun σ => pureCall_of (seen := [] ++ ([] ++ [])) ?_ (memo36 _) hp, hl⟩
    have := hv0.snap σ 10
    simp only [snapL, snapDepth, this, snapF]
  have bad : ∀ e : Int, e ≠ 0 → askH (pgsOf l) ws a = (0, e) → getH (pgsOf l) ws a = ([], e) → ∃ v', (∀ σ, pureCall lawProg (callN lawProg (k + 1)) (.func 36 [] []) [.agg [.vs kp (l.map pv), .vs kw (intV ws)], .int .i64 a] σ = some (.tuple [v', .int .i64 (getH (pgsOf l) ws a).2], σ)) ∧ LV v' (getH (pgsOf l) ws a).1 := by
    intro e he h1 h2
    rw [h1] at hg
    rw [h2]
    have hb1 : (e != 0) = true := by rw [bne_iff_ne]; exact he
    have run : ∃ T1 σ', execC lawProg (callN lawProg k) k 36 25 (bodyOf Try.f36) (initT 0 [.agg [.vs kp (l.map pv), .vs kw (intV ws)], .int .i64 a] .nil) AMem.empty = some (.ret, T1, σ') ∧ T1.get 4 = some (.vs .nil []) ∧ T1.get 5 = some (.int .i64 e) := by
      simp only [bodyOf, Try.f36, Option.getD_some, initT, dx, reduceIte, Nat.reduceLT, Nat.reduceLeDiff, Nat.reduceEqDiff, Nat.reduceAdd, Nat.reduceMul, Nat.reduceSub, Nat.reduceBEq, Int.reduceEq, Int.reduceLT, Int.reduceLE, Int.reduceToNat, reduceCtorEq, sx, fx36, hg, hb1]
      exact ⟨_, _, rfl, by simp only [Tr.get_set, Nat.reduceEqDiff, reduceIte], by simp only [Tr.get_set, Nat.reduceEqDiff, reduceIte]⟩
    obtain ⟨T1, σ', r1, r2, r3⟩ := run
    exact fin T1 σ' _ e (.vs .nil []) [] [] r1 r2 r3 rfl lv_nil
  cases hrb : rightB (pgsOf l) ws with
  | false => exact bad 4 (by omega) (by unfold askH; rw [hrb]; rfl) (by unfold getH; rw [hrb]; rfl)
  | true =>
    have hright := rightB_iff.1 hrb
    cases hf : findL (pgsOf l) a with
    | none => exact bad 7 (by omega) (by unfold askH; rw [hrb, if_pos rfl, hf]) (by unfold getH; rw [hrb, if_pos rfl, hf])
    | some b =>
      obtain ⟨hbm, hba⟩ := findL_some hf
      obtain ⟨lo, n, hlo, hn, hn1, hln, hpg⟩ := blk_nat hright hbm
      have hmany := hright.many
      have hwl := hright.len
      have hab : a = (lo : Nat) := by rw [← hba, hlo]
      have hak : askH (pgsOf l) ws a = (((n : Nat) : Int), 0) := by unfold askH; rw [hrb, if_pos rfl, hf]; simp only [hn]
      rw [hak] at hg
      have hres : getH (pgsOf l) ws a = (segW ws lo n, 0) := by unfold getH; rw [hrb, if_pos rfl, hf]; simp only [hlo, hn, Int.toNat_natCast]
      rw [hres]
      subst hab
      have w1 : IntKind.i64.wrap (((lo : Nat) : Int) + ((n : Nat) : Int)) = ((lo + n : Nat) : Int) := by rw [i64_id (by omega) (by omega)]; omega
      have b1 : (0 : Int) ≤ ((lo + n : Nat) : Int) ∧ ((lo + n : Nat) : Int) ≤ ((ws.length : Nat) : Int) := by omega
      have b2 : (0 : Int) ≤ ((lo : Nat) : Int) ∧ ((lo : Nat) : Int) ≤ ((lo + n : Nat) : Int) := by omega
      have hseg : (ws.take (lo + n)).drop lo = segW ws lo n := rfl
      obtain ⟨σ0, hσ0⟩ : ∃ s, s = AMem.empty.push (.row 2 true [.vs kp (l.map pv), .vs kw (intV ws)]) := ⟨_, rfl⟩
      have g0 : σ0.get 0 = some (.row 2 true [.vs kp (l.map pv), .vs kw (intV ws)]) := by rw [hσ0]; simp [AMem.get_push, next_empty]
      obtain ⟨y, σ1, ha, _, hy⟩ := append_nil (σ := σ0) (e := (⟨.int .i64, 1, 8, [.int .i64 0]⟩ : TyI)) (x := .vs kw (intV (segW ws lo n))) (cells := intV (segW ws lo n)) (n := n) (by decide) (by decide) (by decide) (by
        have := source_ints kw (segW ws lo n) σ0
        rw [segW_length hln] at this
        exact this) (by simp only [mostBytes]; omega)
      have run : ∃ T1, execC lawProg (callN lawProg k) k 36 25 (bodyOf Try.f36) (initT 0 [.agg [.vs kp (l.map pv), .vs kw (intV ws)], .int .i64 (lo : Nat)] .nil) AMem.empty = some (.ret, T1, σ1) ∧ T1.get 4 = some y ∧ T1.get 5 = some (.int .i64 0) := by
        simp only [bodyOf, Try.f36, Option.getD_some, initT, dx, reduceIte, Nat.reduceLT, Nat.reduceLeDiff, Nat.reduceEqDiff, Nat.reduceAdd, Nat.reduceMul, Nat.reduceSub, Nat.reduceBEq, Int.reduceEq, Int.reduceLT, Int.reduceLE, Int.reduceToNat, reduceCtorEq, sx, fx36, ← hσ0]
        simp only [dx, reduceIte, Nat.reduceLT, Nat.reduceLeDiff, Nat.reduceEqDiff, Nat.reduceAdd, Nat.reduceMul, Nat.reduceSub, Nat.reduceBEq, Int.reduceEq, Int.reduceLT, Int.reduceLE, Int.reduceToNat, reduceCtorEq, sx, fx36, g0, hg, show ((0 : Int) != 0) = false from rfl, w1, intV_length, b1, b2, Int.toNat_natCast, intV_one, intV_take, intV_drop, hseg, vk_self, ha]
        exact ⟨_, rfl, by simp only [Tr.get_set, Nat.reduceEqDiff, reduceIte], by simp only [Tr.get_set, Nat.reduceEqDiff, reduceIte]⟩
      obtain ⟨T1, r1, r2, r3⟩ := run
      rcases hy with ⟨h0, _⟩ | ⟨r, rfl, _, _, hr⟩
      · omega
      · have hs := snap_ints (fr := true) (σ := σ1) (d := 9) (r := r) (n := n) (lo := 0) (l := segW ws lo n) (cap := none) (by rw [segW_length hln]; omega) hr
        have hse : segW (segW ws lo n) 0 n = segW ws lo n := by
          have := segW_length hln
          unfold segW at this ⊢
          rw [List.drop_zero, Nat.zero_add, List.take_of_length_le (by omega)]
        rw [hse] at hs
        exact fin T1 σ1 _ 0 _ _ _ r1 r2 r3 hs ⟨.some, rfl, by simp, by simp⟩
theorem sameInts_call (K K2 : VK) (l : List Int) (hl : l.length ≤ 8000) (hk : 9000 ≤ k) : pureCall lawProg (callN lawProg k) (.func 37 [] []) [.vs K (intV l), .vs K2 (intV l)] σ = some (.bool true, σ) := by
  obtain ⟨k, rfl⟩ : ∃ m, k = m + 1 := ⟨k - 1, by omega⟩
  have run : ∃ T1 σ1, execC lawProg (callN lawProg k) k 37 26 (bodyOf Try.f37) (initT 0 [.vs K (intV l), .vs K2 (intV l)] .nil) AMem.empty = some (.ret, T1, σ1) ∧ T1.get 4 = some (.bool true) := by
    have hne : (((l.length : Nat) : Int) != ((l.length : Nat) : Int)) = false := bne_self_eq_false _
    simp only [bodyOf, Try.f37, Option.getD_some, initT, dx, reduceIte, Nat.reduceLT, Nat.reduceLeDiff, Nat.reduceEqDiff, Nat.reduceAdd, Nat.reduceMul, Nat.reduceSub, Nat.reduceBEq, Int.reduceEq, Int.reduceLT, Int.reduceLE, Int.reduceToNat, reduceCtorEq, sx, fx37, intV_length, hne]
    generalize hL : execC _ _ _ _ _ (Code.loop _) _ _ = q
    obtain ⟨e, T', σ', rfl, _, rfl⟩ : ∃ e T' σ', q = some (e, T', σ') ∧ e ≠ .normal ∧ e = .exit 0 := by
      rw [← hL]
      refine exec_loop (fun i T σ' => i ≤ l.length ∧ T.get 0 = some (.vs K (intV l)) ∧ T.get 1 = some (.vs K2 (intV l)) ∧ T.get 5 = some (.int .i64 (i : Nat))) l.length (by omega) ?_ ?_ ?_
      · rintro i hi T σ0 ⟨_, t0, t1, t5⟩
        have hlt : ((i : Nat) : Int) < ((l.length : Nat) : Int) := by omega
        have hw' := i64_succ (i := i) (by omega)
        have hget := intV_get hi
        have hne2 : (l[i] != l[i]) = false := bne_self_eq_false _
        refine ⟨_, _, by
          simp only [dx, reduceIte, Nat.reduceLT, Nat.reduceLeDiff, Nat.reduceEqDiff, Nat.reduceAdd, Nat.reduceMul, Nat.reduceSub, Nat.reduceBEq, Int.reduceEq, Int.reduceLT, Int.reduceLE, Int.reduceToNat, reduceCtorEq, sx, fx37, t0, t1, t5, intV_length, hlt, Int.natCast_nonneg, Int.toNat_natCast, hget, hne2, hw']
          rfl, by omega, ?_, ?_, ?_⟩
        · simp only [Tr.get_set, Nat.reduceEqDiff, reduceIte, t0]
        · simp only [Tr.get_set, Nat.reduceEqDiff, reduceIte, t1]
        · simp only [Tr.get_set, Nat.reduceEqDiff, reduceIte]
      · rintro T σ0 ⟨_, t0, t1, t5⟩
        have hge : ¬ (((l.length : Nat) : Int) < ((l.length : Nat) : Int)) := by omega
        exact ⟨_, _, _, by
          simp only [dx, reduceIte, Nat.reduceLT, Nat.reduceLeDiff, Nat.reduceEqDiff, Nat.reduceAdd, Nat.reduceMul, Nat.reduceSub, Nat.reduceBEq, Int.reduceEq, Int.reduceLT, Int.reduceLE, Int.reduceToNat, reduceCtorEq, sx, fx37, t0, t5, intV_length, hge]
          rfl, by simp, rfl⟩
      · refine ⟨Nat.zero_le _, ?_, ?_, ?_⟩
        all_goals simp only [Tr.get_set, Nat.reduceEqDiff, reduceIte] <;> rfl
    simp only [dx, reduceIte, Nat.reduceLT, Nat.reduceLeDiff, Nat.reduceEqDiff, Nat.reduceAdd, Nat.reduceMul, Nat.reduceSub, Nat.reduceBEq, Int.reduceEq, Int.reduceLT, Int.reduceLE, Int.reduceToNat, reduceCtorEq, sx, fx37]
    exact ⟨_, _, rfl, by simp only [Tr.get_set, Nat.reduceEqDiff, reduceIte]⟩
  obtain ⟨T1, σ1, h1, h2⟩ := run
  exact pureCall_of (args' := [.vs K (intV l), .vs K2 (intV l)]) (seen := []) rfl (memo37 _) (pureRun_of fn37 rfl (by simp [Try.f37]) h1 (by simp) (res_one h2) rfl)
end Go.Proofs.Ytjkfdiglokkceaa

/- Heaps: the program's Blocks. -/
set_option maxRecDepth 100000
set_option linter.unusedSimpArgs false
set_option linter.unusedVariables false
namespace Go.Proofs.Ytjkfdiglokkceaa
open Go Go.Proofs.Ytjkfdiglokkceaa.Pale
variable {k : Nat} {σ : AMem}

/-- A loop over all blocks that does not end early: what is there behind it. -/
theorem range_all {f N k0 low sp pr wr p : Nat} {its : List MItem} {ps : List Pg} {ws : List Int} {T0 : Tr AVal} {g : Nat} {a b : Code} {I : Option (List Blk) → List Nat → AMem → Prop} {O : List Nat} {lp : ALoop}
    (hlp : lp = { state := .ready, pending := none, fn := f, N := N, T := T0, params := [p], assign := a, body := b })
    (hC : Client k0 σ.next (blocksL ps) I) (hno : ∀ O σ, ¬ I none O σ) (hL : ∀ d O σ', I (some d) O σ' → σ'.get σ.next = some (.loop lp))
    (h : HeapM low σ sp pr none wr none its ps ws) (hsh : Shape ps) (hl : ps.length ≤ 40) (hk0 : k0 + 3 ≤ k) (hk : 1004 ≤ k)
    (hO : sp ∉ O ∧ pr ∉ O ∧ wr ∉ O ∧ ∀ r, r ∈ rowsOf its → r ∉ O) (hI : I (some []) O (σ.push (.loop lp))) (hg : T0.get g = some (.func 47 [.ptr sp 0] [])) :
    ∃ O' σ', execC lawProg (callN lawProg k) k f N (.rangeFunc (.tmp g) #[p] a b) T0 σ = some (.normal, T0, σ'.put σ.next (.loop { lp with state := .exhausted })) ∧ I (some (blocksL ps)) O' σ' ∧ Fr (σ.push (.loop lp)) O σ' O' := by
  obtain ⟨O', σ', hcl, hF, hres⟩ := pblocks_exec (k := k - 3) (σ := σ.push (.loop lp)) (O := O) hC (h.ext (Ext.push _ _)) hsh hl (by omega) (by omega) hO hI
  rw [show k - 3 + 3 = k by omega] at hcl
  rcases hres with hi | hi
  · refine ⟨O', σ', ?_, hi, hF⟩
    have hcl' : callN lawProg k (.func 47 [.ptr sp 0] []) [.yield σ.next] (σ.push (.loop { state := .ready, pending := none, fn := f, N := N, T := T0, params := [p], assign := a, body := b })) = some (.tuple [], σ') := by
      obtain ⟨m, hm⟩ : ∃ m, k = m + 1 := ⟨k - 1, by omega⟩
      rw [hm, call_first, ← hm, ← hlp]
      exact hcl
    exact q_range (A := lawProg) (call := callN lawProg k) (k := k) (f := f) (N := N) (T := T0) (σ := σ) (g := .tmp g) (ps := #[p]) (a := a) (b := b) (r := lp) (v := .tuple []) (σ2 := σ') hg hcl' (hL _ _ _ hi) (by rw [hlp]; intro h; cases h) (by rw [hlp])
  · exact absurd hi (hno _ _)
noncomputable def loopBk (T0 : Tr AVal) : ALoop := rfLoop Try.f15 15 T0
def BkI (q L : Nat) (lp : ALoop) : Option (List Blk) → List Nat → AMem → Prop := fun x O σ => match x with
  | some d => ∃ out, O = q :: L :: rowOf out ∧ q < L ∧ L < σ.next ∧ σ.get q = some (.row 1 false [out]) ∧ σ.get L = some (.loop lp) ∧ Grew (L + 1) σ 2 true out d.length (prsC d) ∧ (d = [] → out = .vs .nil [])
  | none => False
theorem grew_one {low sz j : Nat} {g : Bool} {out : AVal} {cells : List AVal} (h : Grew low σ sz g out j cells) : out.oneCell = true := by
  rcases h.2 with ⟨_, rfl⟩ | ⟨_, _, _, rfl, _⟩ <;> rfl
set_option maxHeartbeats 1000000 in
theorem bk_client {T0 : Tr AVal} {q L : Nat} {bs : List Blk} (hT2 : T0.get 2 = some (.ptr q 0)) (hn : bs.length ≤ 10000) : Client 1 L bs (BkI q L (loopBk T0)) := by
  refine ⟨?_, ?_, ?_⟩
  · intro x O σ σ' hi hn hs
    cases x with
    | none => exact hi
    | some d =>
      obtain ⟨out, rfl, h1, h2, h3, h4, h5, h6⟩ := hi
      refine ⟨out, rfl, h1, by omega, by rw [hs q (by simp)]; exact h3, by rw [hs L (by simp)]; exact h4, ⟨h5.1, ?_⟩, h6⟩
      rcases h5.2 with h | ⟨r, a1, a2, a3, a4⟩
      · exact .inl h
      · exact .inr ⟨r, a1, by omega, a3, by rw [hs r (by rw [a3]; simp [rowOf])]; exact a4⟩
  · intro x O σ hi r hr
    cases x with
    | none => exact hi.elim
    | some d =>
      obtain ⟨out, rfl, h1, h2, h3, h4, h5, h6⟩ := hi
      simp only [List.mem_cons] at hr
      rcases hr with rfl | rfl | hr
      · omega
      · omega
      · rcases h5.2 with ⟨_, rfl⟩ | ⟨r', a1, a2, rfl, a4⟩
        · simp [rowOf] at hr
        · simp only [rowOf, List.mem_singleton] at hr; omega
  · rintro k d b rest O σ hbs hk ⟨out, rfl, hqL, hLn, mq, ml, hgr, hnil⟩
    obtain ⟨k, rfl⟩ : ∃ m, k = m + 1 := ⟨k - 1, by omega⟩
    obtain ⟨c, hc⟩ : ∃ c, c = σ.next := ⟨_, rfl⟩
    obtain ⟨B, hB⟩ : ∃ B, B = busyOf (loopBk T0) := ⟨_, rfl⟩
    obtain ⟨σ1, hσ1⟩ : ∃ s, s = (σ.push (.row 4 true blk0)).put σ.next (.row 4 true (blkC b)) := ⟨_, rfl⟩
    have ex1 : Ext σ σ1 := by rw [hσ1]; exact (Ext.push _ _).put _ _ (by omega)
    have gd : σ1.get c = some (.row 4 true (blkC b)) := by rw [hσ1, hc, AMem.get_put, if_pos rfl]
    have n1 : σ1.next = c + 1 := by rw [hσ1, hc]; simp
    have ha : ∃ T1, execC lawProg (callN lawProg k) k 15 26 (loopBk T0).assign (setParams T0 (loopBk T0).params [.agg (blkC b)]) σ = some (.normal, T1, σ1) ∧ T1.get 2 = some (.ptr q 0) ∧ T1.get 5 = some (.ptr c 0) := by
      rw [hσ1, hc]
      simp only [loopBk, rfLoop, bodyOf, Try.f15, Option.getD_some, rfOf]
      simp only [dx, reduceIte, Nat.reduceLT, Nat.reduceLeDiff, Nat.reduceEqDiff, Nat.reduceAdd, Nat.reduceMul, Nat.reduceSub, Nat.reduceBEq, Int.reduceEq, Int.reduceLT, Int.reduceLE, Int.reduceToNat, reduceCtorEq, sx, fx15, blkC, blk0]
      exact ⟨_, rfl, by simp only [Tr.get_set, Nat.reduceEqDiff, reduceIte, hT2], by simp only [Tr.get_set, Nat.reduceEqDiff, reduceIte]⟩
    obtain ⟨T1, ha, u2, u5⟩ := ha
    obtain ⟨σb, hσb⟩ : ∃ s, s = σ1.put L (.loop B) := ⟨_, rfl⟩
    have gb : ∀ r, r < c → r ≠ L → σb.get r = σ.get r := fun r hr hne => by rw [hσb, AMem.get_put, if_neg (fun h => hne h.symm)]; exact ex1.2 r (by omega)
    have gbc : σb.get c = some (.row 4 true (blkC b)) := by rw [hσb, AMem.get_put, if_neg (by omega)]; exact gd
    have nb : σb.next = c + 1 := by rw [hσb]; simpa using n1
    have be : σb.get L = some (.loop B) := by rw [hσb, AMem.get_put, if_pos rfl]
    have bq : σb.get q = some (.row 1 false [out]) := by rw [gb q (by omega) (by omega)]; exact mq
    have hgb : Grew (L + 1) σb 2 true out d.length (prsC d) := by
      refine ⟨hgr.1, ?_⟩
      rcases hgr.2 with h | ⟨r, a1, a2, a3, a4⟩
      · exact .inl h
      · exact .inr ⟨r, a1, by omega, a3, by rw [gb r (by omega) (by omega)]; exact a4⟩
    have hdl : d.length ≤ 10000 := by
      have := congrArg List.length hbs
      simp only [List.length_append, List.length_cons] at this
      omega
    obtain ⟨σ2, a1, a2, a3, a4, a5⟩ := Grew.one (e := (⟨.array 2 3, 2, 16, [.int .i64 0, .int .i64 0]⟩ : TyI)) (xs := [.int .i64 b.at_, .int .i64 b.size]) hgb (by omega) rfl (by decide) (by decide) (by decide) (by simp only [mostBytes]; omega) rfl
    have a1' : appendA (⟨.array 2 3, 2, 16, [.int .i64 0, .int .i64 0]⟩ : TyI) (σb.push (.row 2 true [.int .i64 b.at_, .int .i64 b.size])) out (.slice σb.next 0 1 (some 1) 2) = some (.slice (σb.next + 1) 0 (d.length + 1) none 2, σ2) := a1
    obtain ⟨σ3, hσ3⟩ : ∃ s, s = σ2.put q (.row 1 false [.slice (σb.next + 1) 0 (d.length + 1) none 2]) := ⟨_, rfl⟩
    have g2q : σ2.get q = some (.row 1 false [out]) := by rw [a4 q (by omega)]; exact bq
    have g2L : σ2.get L = some (.loop B) := by rw [a4 L (by omega)]; exact be
    have hoo := grew_one hgr
    have hz1 : loopBk T0 = { B with state := .ready, pending := none } := by rw [hB]; rfl
    have hb2 : ∃ T2, execC lawProg (callN lawProg k) k 15 26 (loopBk T0).body T1 σb = some (.normal, T2, σ3) := by
      rw [hσ3]
      unfold blkC at gbc
      simp only [loopBk, rfLoop, bodyOf, Try.f15, Option.getD_some, rfOf]
      simp only [dx, reduceIte, Nat.reduceLT, Nat.reduceLeDiff, Nat.reduceEqDiff, Nat.reduceAdd, Nat.reduceMul, Nat.reduceSub, Nat.reduceBEq, Int.reduceEq, Int.reduceLT, Int.reduceLE, Int.reduceToNat, reduceCtorEq, sx, fx15, u2, u5, gbc, bq, hoo, a1', g2q]
      exact ⟨_, rfl⟩
    obtain ⟨T2, hb2⟩ := hb2
    have g3L : σ3.get L = some (.loop B) := by rw [hσ3, AMem.get_put, if_neg (by omega)]; exact g2L
    have key := round_body (A := lawProg) (call := callN lawProg k) (k := k) (σ := σ) (l := L) (r := loopBk T0) (T1 := T1) (T2 := T2) (σ1 := σ1) ml rfl rfl rfl ha (by rw [ex1.2 L (by omega)]; exact ml) (by rw [← hB, ← hσb]; exact hb2) (r2 := B) g3L
    rw [← hz1] at key
    have n3 : σ3.next = c + 3 := by rw [hσ3]; simp only [AMem.next_put]; omega
    refine ⟨true, q :: L :: [σb.next + 1], _, by simp only [callN]; exact key, ?_, ⟨?_, fun r hr hn => ?_, fun r hr => ?_⟩⟩
    · simp only [if_true]
      refine ⟨.slice (σb.next + 1) 0 (d.length + 1) none 2, rfl, hqL, ?_, ?_, ?_, ⟨?_, .inr ⟨σb.next + 1, by omega, ?_, by simp, ?_⟩⟩, fun h => by simp at h⟩
      · simp only [AMem.next_put]; omega
      · rw [AMem.get_put, if_neg (by omega), hσ3, AMem.get_put, if_pos rfl]
      · rw [AMem.get_put, if_pos rfl]
      · have := a2.1
        rw [prsC_snoc]
        simpa [prC] using this
      · simp only [AMem.next_put]; omega
      · rw [AMem.get_put, if_neg (by omega), hσ3, AMem.get_put, if_neg (by omega), prsC_snoc]
        rcases a2.2 with ⟨h0, _⟩ | ⟨r', _, _, e1, e2⟩
        · omega
        · simp only [AVal.slice.injEq] at e1
          rw [e1.1]
          exact e2
    · simp only [AMem.next_put]; omega
    · simp only [List.mem_cons, not_or] at hn
      rw [AMem.get_put, if_neg (by omega), hσ3, AMem.get_put, if_neg (by omega), a5 r (by omega) (fun e => hn.2.2 (by rw [e]; simp [rowOf])), gb r (by omega) hn.2.1]
    · simp only [List.mem_cons, List.not_mem_nil, or_false] at hr
      rcases hr with rfl | rfl | rfl
      · exact .inl (by simp)
      · exact .inl (by simp)
      · exact .inr (by omega)
theorem blocks_count {ps : List Pg} (hsh : Shape ps) (hl : ps.length ≤ 40) : (blocksL ps).length ≤ 2560 := by
  have := (blocks_len hsh ps.length (Nat.le_refl _)).1
  unfold blocksL
  omega
theorem snapL_prs2 (fr : Bool) (d : Nat) (l : List Blk) : snapL (snapF fr σ (d + 1)) (prsC l) = some (prsC l, []) := snapL_prs fr σ d l
set_option maxHeartbeats 1000000 in
theorem Blocks_run {v : AVal} {ps : List Pg} {ws : List Int} (hv : VH v ps ws) (hb : Bd ps ws) (hk : 9000 ≤ k) : pureRun (callN lawProg (k + 1)) (.func 15 [] []) [v] = some (if rightB ps ws then .tuple [.vs (lkOf (blocksL ps).length) (prsV (blocksL ps)), .int .i64 0] else .tuple [.vs .nil [], .int .i64 4], true) := by
  obtain ⟨X, Y, rfl, hX, hY⟩ := hv.cells
  obtain ⟨σ0, hσ0⟩ : ∃ s, s = (AMem.empty.push (.row 2 true [X, Y])).push (.row 1 false [.vs .nil []]) := ⟨_, rfl⟩
  have n0 : σ0.next = 2 := by rw [hσ0]; simp [next_empty]
  have g0 : σ0.get 0 = some (.row 2 true [X, Y]) := by rw [hσ0]; simp [AMem.get_push, next_empty]
  have g1 : σ0.get 1 = some (.row 1 false [.vs .nil []]) := by rw [hσ0]; simp [AMem.get_push, next_empty]
  rcases open_vh (k := k - 1) hv hb (by omega) σ0 with ⟨hr, σ2, ho, ex2⟩ | ⟨hr, hright, σ2, sp, pr, wr, its, ho, ex2, hM⟩
  · rw [show k - 1 + 1 = k by omega] at ho
    rw [hr]
    simp only [Bool.false_eq_true, if_false]
    have g12 : σ2.get 1 = some (.row 1 false [.vs .nil []]) := by rw [ex2.2 1 (by omega)]; exact g1
    have run : ∃ T1, execC lawProg (callN lawProg k) k 15 26 (bodyOf Try.f15) (initT 0 [.agg [X, Y]] .nil) AMem.empty = some (.ret, T1, σ2.put 1 (.row 1 false [.vs .nil []])) ∧ T1.get 2 = some (.ptr 1 0) ∧ T1.get 3 = some (.int .i64 4) := by
      simp only [bodyOf, Try.f15, Option.getD_some, initT, dx, reduceIte, Nat.reduceLT, Nat.reduceLeDiff, Nat.reduceEqDiff, Nat.reduceAdd, Nat.reduceMul, Nat.reduceSub, Nat.reduceBEq, Int.reduceEq, Int.reduceLT, Int.reduceLE, Int.reduceToNat, reduceCtorEq, sx, fx15, hX, hY, ← hσ0]
      simp only [dx, reduceIte, Nat.reduceLT, Nat.reduceLeDiff, Nat.reduceEqDiff, Nat.reduceAdd, Nat.reduceMul, Nat.reduceSub, Nat.reduceBEq, Int.reduceEq, Int.reduceLT, Int.reduceLE, Int.reduceToNat, reduceCtorEq, sx, fx15, g0, ho, g12, show ((4 : Int) != 0) = true from rfl]
      exact ⟨_, rfl, by simp only [Tr.get_set, Nat.reduceEqDiff, reduceIte], by simp only [Tr.get_set, Nat.reduceEqDiff, reduceIte]⟩
    obtain ⟨T1, r1, r2, r3⟩ := run
    refine pureRun_of (vs := [.vs .nil [], .int .i64 4]) (seen := [] ++ ([] ++ [])) fn15 rfl (by simp [Try.f15]) r1 (by simp) ?_ rfl
    simp only [Try.f15, resultsA, resultA, dx, reduceIte, Nat.reduceLT, Nat.reduceLeDiff, Nat.reduceEqDiff, Nat.reduceAdd, Nat.reduceMul, Nat.reduceSub, Nat.reduceBEq, Int.reduceEq, Int.reduceLT, Int.reduceLE, Int.reduceToNat, reduceCtorEq, sx, fx15, r2, r3]
  · rw [show k - 1 + 1 = k by omega] at ho
    rw [hr]
    simp only [if_true]
    have hmany := hright.many
    obtain ⟨x1, x2, x3⟩ := hM.own.nx
    obtain ⟨l1, l2, l3⟩ := hM.own.lo
    have hx2 := ex2.1
    have g12 : σ2.get 1 = some (.row 1 false [.vs .nil []]) := by rw [ex2.2 1 (by omega)]; exact g1
    have run : ∃ T1 σ' out, execC lawProg (callN lawProg k) k 15 26 (bodyOf Try.f15) (initT 0 [.agg [X, Y]] .nil) AMem.empty = some (.ret, T1, σ') ∧ T1.get 2 = some (.ptr 1 0) ∧ T1.get 3 = some (.int .i64 0) ∧ σ'.get 1 = some (.row 1 false [out]) ∧ GrewB 2 0 σ' out (blocksL ps) := by
      simp only [bodyOf, Try.f15, Option.getD_some, initT, dx, reduceIte, Nat.reduceLT, Nat.reduceLeDiff, Nat.reduceEqDiff, Nat.reduceAdd, Nat.reduceMul, Nat.reduceSub, Nat.reduceBEq, Int.reduceEq, Int.reduceLT, Int.reduceLE, Int.reduceToNat, reduceCtorEq, sx, fx15, hX, hY, ← hσ0]
      simp only [dx, reduceIte, Nat.reduceLT, Nat.reduceLeDiff, Nat.reduceEqDiff, Nat.reduceAdd, Nat.reduceMul, Nat.reduceSub, Nat.reduceBEq, Int.reduceEq, Int.reduceLT, Int.reduceLE, Int.reduceToNat, reduceCtorEq, sx, fx15, g0, ho, show ((0 : Int) != 0) = false from rfl]
      generalize hR : execC _ _ _ _ _ (Code.rangeFunc _ _ _ _) _ _ = r
      have hrng : ∀ (T0 : Tr AVal) (X' : Out), T0.get 2 = some (.ptr 1 0) → T0.get 15 = some (.func 47 [.ptr sp 0] []) → execC lawProg (callN lawProg k) k 15 26 (.rangeFunc (.tmp 15) #[16] (loopBk T0).assign (loopBk T0).body) T0 σ2 = X' → ∃ σ' out, X' = some (.normal, T0, σ') ∧ σ'.get 1 = some (.row 1 false [out]) ∧ GrewB 2 0 σ' out (blocksL ps) := by
        intro T0 X' t2 t15 hX'
        rw [← hX']
        have hp : ∀ r, r < σ2.next → (σ2.push (.loop (loopBk T0))).get r = σ2.get r := fun r hr => by rw [AMem.get_push, if_neg (by omega)]
        have hmem : ∀ r, 2 ≤ r → r < σ2.next → r ∉ [1, σ2.next] := fun r h1 h2 hm => by
          simp only [List.mem_cons, List.not_mem_nil, or_false] at hm
          omega
        obtain ⟨O', σ', e1, ⟨out, rfl, h1, h2, h3, h4, h5, h6⟩, hF⟩ := range_all (σ := σ2) (k := k) (f := 15) (N := 26) (T0 := T0) (p := 16) (g := 15) (lp := loopBk T0) (O := [1, σ2.next]) (k0 := 1) (a := (loopBk T0).assign) (b := (loopBk T0).body) rfl (bk_client t2 (by have := blocks_count hright.shape hmany.2; omega)) (fun _ _ h => h) (fun d O σ' ⟨_, _, _, _, _, h, _⟩ => h) hM hright.shape hmany.2 (by omega) (by omega) ⟨hmem sp (by omega) x1, hmem pr (by omega) x2, hmem wr (by omega) x3, fun r hr => hmem r (by have := (hM.own.it.bound r hr).1; omega) (hM.own.it.bound r hr).2⟩ ⟨.vs .nil [], rfl, by omega, by simp, by rw [hp 1 (by omega)]; exact g12, by rw [AMem.get_push, if_pos rfl], ⟨rfl, .inl ⟨rfl, rfl⟩⟩, fun _ => rfl⟩ t15
        refine ⟨_, out, e1, by rw [AMem.get_put, if_neg (by omega)]; exact h3, ⟨⟨h5.1, ?_⟩, h6, ?_⟩⟩
        · rcases h5.2 with h | ⟨r, a1, a2, a3, a4⟩
          · exact .inl h
          · exact .inr ⟨r, by omega, by simpa using a2, a3, by rw [AMem.get_put, if_neg (by omega)]; exact a4⟩
        · intro r j c z e
          rcases h5.2 with ⟨_, h⟩ | ⟨r', a1, a2, a3, a4⟩
          · rw [h] at e; cases e
          · rw [a3] at e
            simp only [AVal.slice.injEq] at e
            omega
      obtain ⟨σ', out, rfl, z1, z2⟩ := hrng _ _ (by simp only [Tr.get_set, Nat.reduceEqDiff, reduceIte]) (by simp only [Tr.get_set, Nat.reduceEqDiff, reduceIte]) hR
      have hoo := grew_one z2.1
      have hoc := one_cells hoo
      simp only [dx, reduceIte, Nat.reduceLT, Nat.reduceLeDiff, Nat.reduceEqDiff, Nat.reduceAdd, Nat.reduceMul, Nat.reduceSub, Nat.reduceBEq, Int.reduceEq, Int.reduceLT, Int.reduceLE, Int.reduceToNat, reduceCtorEq, sx, fx15, z1, hoo, hoc]
      refine ⟨_, _, out, rfl, by simp only [Tr.get_set, Nat.reduceEqDiff, reduceIte], by simp only [Tr.get_set, Nat.reduceEqDiff, reduceIte], by rw [AMem.get_put, if_pos rfl], z2.same (by simp) (fun r h1 h2 => by rw [AMem.get_put, if_neg (by omega)]) (.inl rfl)⟩
    obtain ⟨T1, σ', out, r1, r2, r3, r4, r5⟩ := run
    obtain ⟨S, hS⟩ := snap_prs (fr := true) (d := 9) r5
    refine pureRun_of (vs := [out, .int .i64 0]) (seen := S ++ ([] ++ [])) fn15 rfl (by simp [Try.f15]) r1 (by simp) ?_ ?_
    · simp only [Try.f15, resultsA, resultA, dx, reduceIte, Nat.reduceLT, Nat.reduceLeDiff, Nat.reduceEqDiff, Nat.reduceAdd, Nat.reduceMul, Nat.reduceSub, Nat.reduceBEq, Int.reduceEq, Int.reduceLT, Int.reduceLE, Int.reduceToNat, reduceCtorEq, sx, fx15, r2, r3, r4]
    · have c2 : snapF true σ' 11 (.int .i64 0) = some (.int .i64 0, []) := rfl
      show snapF true σ' (11 + 1) (.tuple [out, .int .i64 0]) = _
      rw [snapF]
      simp only [snapL, hS, c2, Option.map_some]
theorem Blocks_call {v : AVal} {ps : List Pg} {ws : List Int} (hv : VH v ps ws) (hb : Bd ps ws) (hk : 9001 ≤ k) : pureCall lawProg (callN lawProg k) (.func 15 [] []) [v] σ = some (if rightB ps ws then .tuple [.vs (lkOf (blocksL ps).length) (prsV (blocksL ps)), .int .i64 0] else .tuple [.vs .nil [], .int .i64 4], σ) := by
  obtain ⟨k, rfl⟩ : ∃ m, k = m + 1 := ⟨k - 1, by omega⟩
  refine pureCall_of (args' := [v]) (seen := [] ++ []) ?_ (memo15 _) (Blocks_run hv hb (by omega))
  have := hv.snap σ 10
  simp only [snapL, snapDepth, this]
end Go.Proofs.Ytjkfdiglokkceaa

/- Heaps: the program's Space. -/
set_option maxRecDepth 100000
set_option linter.unusedSimpArgs false
set_option linter.unusedVariables false
namespace Go.Proofs.Ytjkfdiglokkceaa
open Go Go.Proofs.Ytjkfdiglokkceaa.Pale
variable {k : Nat} {σ : AMem}

/-- The greatest run of free pages, of so many at most. -/
def grRun (ps : List Pg) : Nat → Option Nat
  | 0 => none
  | m + 1 => if (runL ps (m + 1)).isSome then some (m + 1) else grRun ps m
def grSmall (ps : List Pg) : Int := if (placeL ps 32).isSome then 32 else if (placeL ps 16).isSome then 16 else if (placeL ps 8).isSome then 8 else if (placeL ps 4).isSome then 4 else if (placeL ps 2).isSome then 2 else 0
def greatL (ps : List Pg) : Int := match grRun ps 40 with
  | some m => ((64 * m : Nat) : Int)
  | none => grSmall ps
theorem run_h {low sp pr wr many : Nat} {its : List MItem} {ps : List Pg} {ws : List Int} (h : HeapM low σ sp pr none wr none its ps ws) (hl : ps.length ≤ 40) (hm : many ≤ 1000) (hk : 3000 ≤ k) : ∃ (a : Int) (σ' : AMem), callN lawProg k (.func 69 [] []) [.ptr sp 0, .int .i64 (many : Nat)] σ = some (.tuple [.int .i64 a, .bool (runL ps many).isSome], σ') ∧ Ext σ σ' := by
  obtain ⟨k, rfl⟩ : ∃ m, k = m + 1 := ⟨k - 1, by omega⟩
  obtain ⟨σ', h1, h2⟩ := run_exec (k := k) (many := many) (l := ps.map pvOf) h.own (by rw [pi_pvOf]; exact h.pi) (by rw [List.length_map]; omega) hm (by omega)
  rw [pgs_pvOf] at h1
  exact ⟨_, σ', h1, h2⟩
set_option maxHeartbeats 1000000 in
theorem greatest_exec {low sp pr wr : Nat} {its : List MItem} {ps : List Pg} {ws : List Int} (h : HeapM low σ sp pr none wr none its ps ws) (hsh : Shape ps) (hl : ps.length ≤ 40) (hk : 4000 ≤ k) : ∃ σ', callN lawProg (k + 1) (.func 48 [] []) [.ptr sp 0] σ = some (.int .i64 (greatL ps), σ') ∧ Ext σ σ' := by
  have run : ∃ T1 σ', execC lawProg (callN lawProg k) k 48 34 (bodyOf Try.f48) (initT 0 [.ptr sp 0] .nil) σ = some (.ret, T1, σ') ∧ T1.get 2 = some (.int .i64 (greatL ps)) ∧ Ext σ σ' := by
    simp only [bodyOf, Try.f48, Option.getD_some, initT, dx, reduceIte, Nat.reduceLT, Nat.reduceLeDiff, Nat.reduceEqDiff, Nat.reduceAdd, Nat.reduceMul, Nat.reduceSub, Nat.reduceBEq, Int.reduceEq, Int.reduceLT, Int.reduceLE, Int.reduceToNat, reduceCtorEq, sx, fx48]
    generalize hL : execC _ _ _ _ _ (Code.loop _) _ _ = q
    obtain ⟨e, T', σ', rfl, _, hc⟩ : ∃ e T' σ', q = some (e, T', σ') ∧ e ≠ .normal ∧ ((e = .ret ∧ Ext σ σ' ∧ ∃ m, grRun ps 40 = some m ∧ T'.get 2 = some (.int .i64 ((64 * m : Nat) : Int))) ∨ (e = .exit 0 ∧ Ext σ σ' ∧ grRun ps 40 = none ∧ T'.get 0 = some (.ptr sp 0))) := by
      rw [← hL]
      refine exec_loop2 (fun i T σ' => i ≤ 40 ∧ Ext σ σ' ∧ T.get 0 = some (.ptr sp 0) ∧ T.get 3 = some (.int .i64 ((40 - i : Nat) : Int)) ∧ grRun ps 40 = grRun ps (40 - i)) 40 (by omega) ?_ ?_ ?_
      · rintro i hi T σ0 ⟨_, ex, t0, t3, hgr⟩
        obtain ⟨m, hm⟩ : ∃ m, 40 - i = m + 1 := ⟨40 - i - 1, by omega⟩
        rw [hm] at t3 hgr
        have hm2 : 40 - (i + 1) = m := by omega
        have hgt : (((m + 1 : Nat) : Int) > 0) := by omega
        obtain ⟨a, σ1, hrun, ex1⟩ := run_h (k := k) (many := m + 1) (h.ext ex) hl (by omega) (by omega)
        have w1 : IntKind.i64.wrap (((m + 1 : Nat) : Int) - 1) = ((m : Nat) : Int) := by rw [i64_id (by omega) (by omega)]; omega
        have w2 : IntKind.i64.wrap (((m + 1 : Nat) : Int) * 64) = ((64 * (m + 1) : Nat) : Int) := by rw [i64_id (by omega) (by omega)]; omega
        rw [show grRun ps (m + 1) = if (runL ps (m + 1)).isSome then some (m + 1) else grRun ps m from rfl] at hgr
        cases hr : (runL ps (m + 1)).isSome with
        | true =>
          rw [hr] at hrun hgr
          simp only [if_true] at hgr
          refine .inr ⟨_, _, _, by
            simp only [dx, reduceIte, Nat.reduceLT, Nat.reduceLeDiff, Nat.reduceEqDiff, Nat.reduceAdd, Nat.reduceMul, Nat.reduceSub, Nat.reduceBEq, Int.reduceEq, Int.reduceLT, Int.reduceLE, Int.reduceToNat, reduceCtorEq, sx, fx48, t0, t3, hgt, hrun, w2]
            rfl, by simp, .inl ⟨rfl, ex.trans ex1, m + 1, hgr, ?_⟩⟩
          simp only [Tr.get_set, Nat.reduceEqDiff, reduceIte]
        | false =>
          rw [hr] at hrun hgr
          simp only [Bool.false_eq_true, if_false] at hgr
          refine .inl ⟨_, _, by
            simp only [dx, reduceIte, Nat.reduceLT, Nat.reduceLeDiff, Nat.reduceEqDiff, Nat.reduceAdd, Nat.reduceMul, Nat.reduceSub, Nat.reduceBEq, Int.reduceEq, Int.reduceLT, Int.reduceLE, Int.reduceToNat, reduceCtorEq, sx, fx48, t0, t3, hgt, hrun, w1]
            rfl, by omega, ex.trans ex1, ?_, ?_, by rw [hm2]; exact hgr⟩
          · simp only [Tr.get_set, Nat.reduceEqDiff, reduceIte, t0]
          · simp only [Tr.get_set, Nat.reduceEqDiff, reduceIte, hm2]
      · rintro T σ0 ⟨_, ex, t0, t3, hgr⟩
        have hge : ¬ (((40 - 40 : Nat) : Int) > 0) := by omega
        refine ⟨_, _, _, by
          simp only [dx, reduceIte, Nat.reduceLT, Nat.reduceLeDiff, Nat.reduceEqDiff, Nat.reduceAdd, Nat.reduceMul, Nat.reduceSub, Nat.reduceBEq, Int.reduceEq, Int.reduceLT, Int.reduceLE, Int.reduceToNat, reduceCtorEq, sx, fx48, t3, hge]
          rfl, by simp, .inr ⟨rfl, ex, hgr, ?_⟩⟩
        simp only [Tr.get_set, Nat.reduceEqDiff, reduceIte, t0]
      · refine ⟨by omega, Ext.refl _, ?_, ?_, rfl⟩
        all_goals simp only [Tr.get_set, Nat.reduceEqDiff, reduceIte] <;> rfl
    rcases hc with ⟨rfl, ex, m, hgr, t2⟩ | ⟨rfl, ex, hgr, t0⟩
    · simp only [dx, reduceIte, Nat.reduceLT, Nat.reduceLeDiff, Nat.reduceEqDiff, Nat.reduceAdd, Nat.reduceMul, Nat.reduceSub, Nat.reduceBEq, Int.reduceEq, Int.reduceLT, Int.reduceLE, Int.reduceToNat, reduceCtorEq, sx, fx48]
      exact ⟨_, _, rfl, by unfold greatL; rw [hgr]; exact t2, ex⟩
    · have hgl : greatL ps = grSmall ps := by unfold greatL; rw [hgr]
      rw [hgl]
      simp only [dx, reduceIte, Nat.reduceLT, Nat.reduceLeDiff, Nat.reduceEqDiff, Nat.reduceAdd, Nat.reduceMul, Nat.reduceSub, Nat.reduceBEq, Int.reduceEq, Int.reduceLT, Int.reduceLE, Int.reduceToNat, reduceCtorEq, sx, fx48]
      generalize hL : execC _ _ _ _ _ (Code.loop _) _ _ = q
      -- sizes 32, 16, 8, 4, 2
      obtain ⟨e, T5, σ5, rfl, _, hc⟩ : ∃ e T' σ5, q = some (e, T', σ5) ∧ e ≠ .normal ∧ ((e = .ret ∧ Ext σ σ5 ∧ T'.get 2 = some (.int .i64 (grSmall ps))) ∨ (e = .exit 2 ∧ Ext σ σ5 ∧ grSmall ps = 0)) := by
        rw [← hL]
        have szv : ∀ i, i < 5 → ∃ s : Int, [32, 16, 8, 4, 2, 1][i]? = some s ∧ s ≥ 2 ∧ s ≤ 32 ∧ [32, 16, 8, 4, 2, 1][i + 1]? = some (s.tdiv 2) ∧ IntKind.i64.wrap (s.tdiv 2) = s.tdiv 2 := by
          intro i hi
          match i, hi with
          | 0, _ => exact ⟨32, rfl, by omega, by omega, rfl, by decide⟩
          | 1, _ => exact ⟨16, rfl, by omega, by omega, rfl, by decide⟩
          | 2, _ => exact ⟨8, rfl, by omega, by omega, rfl, by decide⟩
          | 3, _ => exact ⟨4, rfl, by omega, by omega, rfl, by decide⟩
          | 4, _ => exact ⟨2, rfl, by omega, by omega, rfl, by decide⟩
        refine exec_loop2 (fun i T σ' => i ≤ 5 ∧ Ext σ σ' ∧ T.get 0 = some (.ptr sp 0) ∧ (∃ s : Int, [32, 16, 8, 4, 2, 1][i]? = some s ∧ T.get 6 = some (.int .i64 s)) ∧ ∀ j s, j < i → [32, 16, 8, 4, 2, 1][j]? = some s → (placeL ps s).isSome = false) 5 (by omega) ?_ ?_ ?_
        · rintro i hi T σ0 ⟨_, ex, t0, ⟨s, hs, t6⟩, hall⟩
          obtain ⟨s', hs', h2, h32, hnx, hw⟩ := szv i hi
          rw [hs] at hs'
          cases hs'
          obtain ⟨σ1, hsm, ex1⟩ := psmall_exec (k := k - 3) (size := s) (h.ext ex).own h.pi h.ox hsh (by omega) (by omega)
          rw [show k - 3 + 3 = k by omega] at hsm
          unfold blkC at hsm
          obtain ⟨b0, hb0⟩ : ∃ b, b = (placeB ps s).1 := ⟨_, rfl⟩
          rw [← hb0] at hsm
          have hpb : (placeB ps s).2 = (placeL ps s).isSome := by unfold placeB; split <;> simp [*]
          rw [hpb] at hsm
          have h2z : ¬ (2 : Int) = 0 := by omega
          cases hp : (placeL ps s).isSome with
          | true =>
            rw [hp] at hsm
            refine .inr ⟨_, _, _, by
              simp only [dx, reduceIte, Nat.reduceLT, Nat.reduceLeDiff, Nat.reduceEqDiff, Nat.reduceAdd, Nat.reduceMul, Nat.reduceSub, Nat.reduceBEq, Int.reduceEq, Int.reduceLT, Int.reduceLE, Int.reduceToNat, reduceCtorEq, sx, fx48, t0, t6, h2, hsm]
              rfl, by simp, .inl ⟨rfl, ((ex.trans ex1).trans (Ext.push _ _)).put _ _ (by have := ex.1; have := ex1.1; omega), ?_⟩⟩
            simp only [Tr.get_set, Nat.reduceEqDiff, reduceIte]
            have key : grSmall ps = s := by
              unfold grSmall
              have f := fun j s hj hs => hall j s hj hs
              match i, hi with
              | 0, _ => cases hs; rw [if_pos hp]
              | 1, _ => cases hs; rw [if_neg (by rw [f 0 32 (by omega) rfl]; simp), if_pos hp]
              | 2, _ => cases hs; rw [if_neg (by rw [f 0 32 (by omega) rfl]; simp), if_neg (by rw [f 1 16 (by omega) rfl]; simp), if_pos hp]
              | 3, _ => cases hs; rw [if_neg (by rw [f 0 32 (by omega) rfl]; simp), if_neg (by rw [f 1 16 (by omega) rfl]; simp), if_neg (by rw [f 2 8 (by omega) rfl]; simp), if_pos hp]
              | 4, _ => cases hs; rw [if_neg (by rw [f 0 32 (by omega) rfl]; simp), if_neg (by rw [f 1 16 (by omega) rfl]; simp), if_neg (by rw [f 2 8 (by omega) rfl]; simp), if_neg (by rw [f 3 4 (by omega) rfl]; simp), if_pos hp]
            rw [key]
          | false =>
            rw [hp] at hsm
            refine .inl ⟨_, _, by
              simp only [dx, reduceIte, Nat.reduceLT, Nat.reduceLeDiff, Nat.reduceEqDiff, Nat.reduceAdd, Nat.reduceMul, Nat.reduceSub, Nat.reduceBEq, Int.reduceEq, Int.reduceLT, Int.reduceLE, Int.reduceToNat, reduceCtorEq, sx, fx48, t0, t6, h2, hsm, h2z, hw]
              rfl, by omega, ((ex.trans ex1).trans (Ext.push _ _)).put _ _ (by have := ex.1; have := ex1.1; omega), ?_, ⟨_, hnx, ?_⟩, fun j s2 hj hs2 => ?_⟩
            · simp only [Tr.get_set, Nat.reduceEqDiff, reduceIte, t0]
            · simp only [Tr.get_set, Nat.reduceEqDiff, reduceIte]
            · by_cases e : j = i
              · subst e
                rw [hs] at hs2
                cases hs2
                exact hp
              · exact hall j s2 (by omega) hs2
        · rintro T σ0 ⟨_, ex, t0, ⟨s, hs, t6⟩, hall⟩
          cases hs
          have hge : ¬ ((1 : Int) ≥ 2) := by omega
          refine ⟨_, _, _, by
            simp only [dx, reduceIte, Nat.reduceLT, Nat.reduceLeDiff, Nat.reduceEqDiff, Nat.reduceAdd, Nat.reduceMul, Nat.reduceSub, Nat.reduceBEq, Int.reduceEq, Int.reduceLT, Int.reduceLE, Int.reduceToNat, reduceCtorEq, sx, fx48, t6, hge]
            rfl, by simp, .inr ⟨rfl, ex, ?_⟩⟩
          unfold grSmall
          rw [if_neg (by rw [hall 0 32 (by omega) rfl]; simp), if_neg (by rw [hall 1 16 (by omega) rfl]; simp), if_neg (by rw [hall 2 8 (by omega) rfl]; simp), if_neg (by rw [hall 3 4 (by omega) rfl]; simp), if_neg (by rw [hall 4 2 (by omega) rfl]; simp)]
        · refine ⟨by omega, ex, ?_, ⟨32, rfl, ?_⟩, fun j s hj => by omega⟩
          · simp only [Tr.get_set, Nat.reduceEqDiff, reduceIte, t0]
          · simp only [Tr.get_set, Nat.reduceEqDiff, reduceIte]
      rcases hc with ⟨rfl, ex5, t2⟩ | ⟨rfl, ex5, h0⟩
      · simp only [dx, reduceIte, Nat.reduceLT, Nat.reduceLeDiff, Nat.reduceEqDiff, Nat.reduceAdd, Nat.reduceMul, Nat.reduceSub, Nat.reduceBEq, Int.reduceEq, Int.reduceLT, Int.reduceLE, Int.reduceToNat, reduceCtorEq, sx, fx48]
        exact ⟨_, _, rfl, t2, ex5⟩
      · simp only [dx, reduceIte, Nat.reduceLT, Nat.reduceLeDiff, Nat.reduceEqDiff, Nat.reduceAdd, Nat.reduceMul, Nat.reduceSub, Nat.reduceBEq, Int.reduceEq, Int.reduceLT, Int.reduceLE, Int.reduceToNat, reduceCtorEq, sx, fx48]
        exact ⟨_, _, rfl, by rw [h0]; simp only [Tr.get_set, Nat.reduceEqDiff, reduceIte], ex5⟩
  obtain ⟨T1, σ', h1, h2, h3⟩ := run
  exact ⟨σ', q_call (first := []) (caps := []) fn48 rfl (by simp [Try.f48]) h1 (by simp) (res_one h2), h3⟩
/-- How many words some blocks have. -/
def sumB (l : List Blk) : Int := (l.map Blk.size).sum
theorem sumB_snoc (l : List Blk) (b : Blk) : sumB (l ++ [b]) = sumB l + b.size := by simp [sumB]
theorem sumB_bound {l : List Blk} (h : ∀ b, b ∈ l → 0 ≤ b.size ∧ b.size ≤ 2560) : 0 ≤ sumB l ∧ sumB l ≤ 2560 * (l.length : Int) := by
  induction l with
  | nil => simp [sumB]
  | cons b l ih =>
    have h1 := ih fun c hc => h c (by simp [hc])
    have h2 := h b (by simp)
    have : sumB (b :: l) = b.size + sumB l := by simp [sumB]
    rw [this, List.length_cons]
    omega
noncomputable def loopSp (T0 : Tr AVal) : ALoop := rfLoop Try.f17 17 T0
def SpI (q L : Nat) (lp : ALoop) : Option (List Blk) → List Nat → AMem → Prop := fun x O σ => match x with
  | some d => O = [q, L] ∧ q < L ∧ L < σ.next ∧ σ.get q = some (.row 1 false [.int .i64 (sumB d)]) ∧ σ.get L = some (.loop lp)
  | none => False
theorem sp_client {T0 : Tr AVal} {q L : Nat} {bs : List Blk} (hT2 : T0.get 2 = some (.ptr q 0)) (hn : bs.length ≤ 10000) (hb : ∀ b, b ∈ bs → 0 ≤ b.size ∧ b.size ≤ 2560) : Client 1 L bs (SpI q L (loopSp T0)) := by
  refine ⟨?_, ?_, ?_⟩
  · intro x O σ σ' hi hn hs
    cases x with
    | none => exact hi
    | some d =>
      obtain ⟨rfl, h1, h2, h3, h4⟩ := hi
      exact ⟨rfl, h1, by omega, by rw [hs q (by simp)]; exact h3, by rw [hs L (by simp)]; exact h4⟩
  · intro x O σ hi r hr
    cases x with
    | none => exact hi.elim
    | some d =>
      obtain ⟨rfl, h1, h2, h3, h4⟩ := hi
      simp only [List.mem_cons, List.not_mem_nil, or_false] at hr
      omega
  · rintro k d b rest O σ hbs hk ⟨rfl, hqL, hLn, mq, ml⟩
    obtain ⟨k, rfl⟩ : ∃ m, k = m + 1 := ⟨k - 1, by omega⟩
    obtain ⟨c, hc⟩ : ∃ c, c = σ.next := ⟨_, rfl⟩
    obtain ⟨B, hB⟩ : ∃ B, B = busyOf (loopSp T0) := ⟨_, rfl⟩
    obtain ⟨σ1, hσ1⟩ : ∃ s, s = (σ.push (.row 4 true blk0)).put σ.next (.row 4 true (blkC b)) := ⟨_, rfl⟩
    have ex1 : Ext σ σ1 := by rw [hσ1]; exact (Ext.push _ _).put _ _ (by omega)
    have gd : σ1.get c = some (.row 4 true (blkC b)) := by rw [hσ1, hc, AMem.get_put, if_pos rfl]
    have n1 : σ1.next = c + 1 := by rw [hσ1, hc]; simp
    have ha : ∃ T1, execC lawProg (callN lawProg k) k 17 25 (loopSp T0).assign (setParams T0 (loopSp T0).params [.agg (blkC b)]) σ = some (.normal, T1, σ1) ∧ T1.get 2 = some (.ptr q 0) ∧ T1.get 6 = some (.ptr c 0) := by
      rw [hσ1, hc]
      simp only [loopSp, rfLoop, bodyOf, Try.f17, Option.getD_some, rfOf]
      simp only [dx, reduceIte, Nat.reduceLT, Nat.reduceLeDiff, Nat.reduceEqDiff, Nat.reduceAdd, Nat.reduceMul, Nat.reduceSub, Nat.reduceBEq, Int.reduceEq, Int.reduceLT, Int.reduceLE, Int.reduceToNat, reduceCtorEq, sx, fx17, blkC, blk0]
      exact ⟨_, rfl, by simp only [Tr.get_set, Nat.reduceEqDiff, reduceIte, hT2], by simp only [Tr.get_set, Nat.reduceEqDiff, reduceIte]⟩
    obtain ⟨T1, ha, u2, u6⟩ := ha
    obtain ⟨σb, hσb⟩ : ∃ s, s = σ1.put L (.loop B) := ⟨_, rfl⟩
    have gb : ∀ r, r < c → r ≠ L → σb.get r = σ.get r := fun r hr hne => by rw [hσb, AMem.get_put, if_neg (fun h => hne h.symm)]; exact ex1.2 r (by omega)
    have gbc : σb.get c = some (.row 4 true (blkC b)) := by rw [hσb, AMem.get_put, if_neg (by omega)]; exact gd
    have nb : σb.next = c + 1 := by rw [hσb]; simpa using n1
    have be : σb.get L = some (.loop B) := by rw [hσb, AMem.get_put, if_pos rfl]
    have bq : σb.get q = some (.row 1 false [.int .i64 (sumB d)]) := by rw [gb q (by omega) (by omega)]; exact mq
    have hdl : d.length ≤ 10000 := by
      have := congrArg List.length hbs
      simp only [List.length_append, List.length_cons] at this
      omega
    have hsd := sumB_bound (l := d) fun x hx => hb x (by rw [hbs]; simp [hx])
    have hsb := hb b (by rw [hbs]; simp)
    have w1 : IntKind.i64.wrap (sumB d + b.size) = sumB (d ++ [b]) := by rw [sumB_snoc]; exact i64_id (by omega) (by omega)
    obtain ⟨σ3, hσ3⟩ : ∃ s, s = σb.put q (.row 1 false [.int .i64 (sumB (d ++ [b]))]) := ⟨_, rfl⟩
    have hz1 : loopSp T0 = { B with state := .ready, pending := none } := by rw [hB]; rfl
    have hb2 : ∃ T2, execC lawProg (callN lawProg k) k 17 25 (loopSp T0).body T1 σb = some (.normal, T2, σ3) := by
      rw [hσ3]
      unfold blkC at gbc
      simp only [loopSp, rfLoop, bodyOf, Try.f17, Option.getD_some, rfOf]
      simp only [dx, reduceIte, Nat.reduceLT, Nat.reduceLeDiff, Nat.reduceEqDiff, Nat.reduceAdd, Nat.reduceMul, Nat.reduceSub, Nat.reduceBEq, Int.reduceEq, Int.reduceLT, Int.reduceLE, Int.reduceToNat, reduceCtorEq, sx, fx17, u2, u6, gbc, bq, w1]
      exact ⟨_, rfl⟩
    obtain ⟨T2, hb2⟩ := hb2
    have g3L : σ3.get L = some (.loop B) := by rw [hσ3, AMem.get_put, if_neg (by omega)]; exact be
    have key := round_body (A := lawProg) (call := callN lawProg k) (k := k) (σ := σ) (l := L) (r := loopSp T0) (T1 := T1) (T2 := T2) (σ1 := σ1) ml rfl rfl rfl ha (by rw [ex1.2 L (by omega)]; exact ml) (by rw [← hB, ← hσb]; exact hb2) (r2 := B) g3L
    rw [← hz1] at key
    have n3 : σ3.next = c + 1 := by rw [hσ3]; simpa using nb
    refine ⟨true, [q, L], _, by simp only [callN]; exact key, ?_, ⟨?_, fun r hr hn => ?_, fun r hr => .inl hr⟩⟩
    · simp only [if_true]
      refine ⟨rfl, hqL, ?_, ?_, ?_⟩
      · simp only [AMem.next_put]; omega
      · rw [AMem.get_put, if_neg (by omega), hσ3, AMem.get_put, if_pos rfl]
      · rw [AMem.get_put, if_pos rfl]
    · simp only [AMem.next_put]; omega
    · simp only [List.mem_cons, List.not_mem_nil, or_false, not_or] at hn
      rw [AMem.get_put, if_neg (by omega), hσ3, AMem.get_put, if_neg (by omega), gb r (by omega) hn.2]
theorem blk_sizes {ps : List Pg} (hsh : Shape ps) (hl : ps.length ≤ 40) : ∀ b, b ∈ blocksL ps → 0 ≤ b.size ∧ b.size ≤ 2560 := fun b hb => by
  obtain ⟨_, _, h1, _, h2, h3⟩ := blk_page hsh hb
  omega
noncomputable def spaceH (ps : List Pg) (ws : List Int) : Int × Int × Int := if rightB ps ws then (sumB (blocksL ps), greatL ps, 0) else (0, 0, 4)
set_option maxHeartbeats 1000000 in
theorem Space_call {v : AVal} {ps : List Pg} {ws : List Int} (hv : VH v ps ws) (hb : Bd ps ws) (hk : 9001 ≤ k) : pureCall lawProg (callN lawProg k) (.func 17 [] []) [v] σ = some (.tuple [.int .i64 (spaceH ps ws).1, .int .i64 (spaceH ps ws).2.1, .int .i64 (spaceH ps ws).2.2], σ) := by
  obtain ⟨k, rfl⟩ : ∃ m, k = m + 1 := ⟨k - 1, by omega⟩
  have hsn := hv.snap σ 10
  obtain ⟨X, Y, rfl, hX, hY⟩ := hv.cells
  obtain ⟨σ0, hσ0⟩ : ∃ s, s = (AMem.empty.push (.row 2 true [X, Y])).push (.row 1 false [.int .i64 0]) := ⟨_, rfl⟩
  have n0 : σ0.next = 2 := by rw [hσ0]; simp [next_empty]
  have g0 : σ0.get 0 = some (.row 2 true [X, Y]) := by rw [hσ0]; simp [AMem.get_push, next_empty]
  have g1 : σ0.get 1 = some (.row 1 false [.int .i64 0]) := by rw [hσ0]; simp [AMem.get_push, next_empty]
  have fin : ∀ (T1 : Tr AVal) (σ' : AMem) (x y z : Int), execC lawProg (callN lawProg k) k 17 25 (bodyOf Try.f17) (initT 0 [.agg [X, Y]] .nil) AMem.empty = some (.ret, T1, σ') → T1.get 2 = some (.ptr 1 0) → T1.get 3 = some (.int .i64 y) → T1.get 4 = some (.int .i64 z) → σ'.get 1 = some (.row 1 false [.int .i64 x]) → pureCall lawProg (callN lawProg (k + 1)) (.func 17 [] []) [.agg [X, Y]] σ = some (.tuple [.int .i64 x, .int .i64 y, .int .i64 z], σ) := by
    intro T1 σ' x y z r1 r2 r3 r4 r5
    refine pureCall_of (args' := [.agg [X, Y]]) (seen := [] ++ []) ?_ (memo17 _) (pureRun_of (vs := [.int .i64 x, .int .i64 y, .int .i64 z]) fn17 rfl (by simp [Try.f17]) r1 (by simp) ?_ rfl)
    · simp only [snapL, snapDepth, hsn]
    · simp only [Try.f17, resultsA, resultA, dx, reduceIte, Nat.reduceLT, Nat.reduceLeDiff, Nat.reduceEqDiff, Nat.reduceAdd, Nat.reduceMul, Nat.reduceSub, Nat.reduceBEq, Int.reduceEq, Int.reduceLT, Int.reduceLE, Int.reduceToNat, reduceCtorEq, sx, fx17, r2, r3, r4, r5]
  rcases open_vh (k := k - 1) hv hb (by omega) σ0 with ⟨hr, σ2, ho, ex2⟩ | ⟨hr, hright, σ2, sp, pr, wr, its, ho, ex2, hM⟩
  · rw [show k - 1 + 1 = k by omega] at ho
    have hres : spaceH ps ws = (0, 0, 4) := by unfold spaceH; rw [hr]; rfl
    rw [hres]
    have g12 : σ2.get 1 = some (.row 1 false [.int .i64 0]) := by rw [ex2.2 1 (by omega)]; exact g1
    have run : ∃ T1, execC lawProg (callN lawProg k) k 17 25 (bodyOf Try.f17) (initT 0 [.agg [X, Y]] .nil) AMem.empty = some (.ret, T1, σ2.put 1 (.row 1 false [.int .i64 0])) ∧ T1.get 2 = some (.ptr 1 0) ∧ T1.get 3 = some (.int .i64 0) ∧ T1.get 4 = some (.int .i64 4) := by
      simp only [bodyOf, Try.f17, Option.getD_some, initT, dx, reduceIte, Nat.reduceLT, Nat.reduceLeDiff, Nat.reduceEqDiff, Nat.reduceAdd, Nat.reduceMul, Nat.reduceSub, Nat.reduceBEq, Int.reduceEq, Int.reduceLT, Int.reduceLE, Int.reduceToNat, reduceCtorEq, sx, fx17, hX, hY, ← hσ0]
      simp only [dx, reduceIte, Nat.reduceLT, Nat.reduceLeDiff, Nat.reduceEqDiff, Nat.reduceAdd, Nat.reduceMul, Nat.reduceSub, Nat.reduceBEq, Int.reduceEq, Int.reduceLT, Int.reduceLE, Int.reduceToNat, reduceCtorEq, sx, fx17, g0, ho, g12, show ((4 : Int) != 0) = true from rfl]
      exact ⟨_, rfl, by simp only [Tr.get_set, Nat.reduceEqDiff, reduceIte], by simp only [Tr.get_set, Nat.reduceEqDiff, reduceIte], by simp only [Tr.get_set, Nat.reduceEqDiff, reduceIte]⟩
    obtain ⟨T1, r1, r2, r3, r4⟩ := run
    exact fin T1 _ 0 0 4 r1 r2 r3 r4 (by rw [AMem.get_put, if_pos rfl])
  · rw [show k - 1 + 1 = k by omega] at ho
    have hres : spaceH ps ws = (sumB (blocksL ps), greatL ps, 0) := by unfold spaceH; rw [hr]; rfl
    rw [hres]
    have hmany := hright.many
    obtain ⟨x1, x2, x3⟩ := hM.own.nx
    obtain ⟨l1, l2, l3⟩ := hM.own.lo
    have hx2 := ex2.1
    have g12 : σ2.get 1 = some (.row 1 false [.int .i64 0]) := by rw [ex2.2 1 (by omega)]; exact g1
    have run : ∃ T1 σ', execC lawProg (callN lawProg k) k 17 25 (bodyOf Try.f17) (initT 0 [.agg [X, Y]] .nil) AMem.empty = some (.ret, T1, σ') ∧ T1.get 2 = some (.ptr 1 0) ∧ T1.get 3 = some (.int .i64 (greatL ps)) ∧ T1.get 4 = some (.int .i64 0) ∧ σ'.get 1 = some (.row 1 false [.int .i64 (sumB (blocksL ps))]) := by
      simp only [bodyOf, Try.f17, Option.getD_some, initT, dx, reduceIte, Nat.reduceLT, Nat.reduceLeDiff, Nat.reduceEqDiff, Nat.reduceAdd, Nat.reduceMul, Nat.reduceSub, Nat.reduceBEq, Int.reduceEq, Int.reduceLT, Int.reduceLE, Int.reduceToNat, reduceCtorEq, sx, fx17, hX, hY, ← hσ0]
      simp only [dx, reduceIte, Nat.reduceLT, Nat.reduceLeDiff, Nat.reduceEqDiff, Nat.reduceAdd, Nat.reduceMul, Nat.reduceSub, Nat.reduceBEq, Int.reduceEq, Int.reduceLT, Int.reduceLE, Int.reduceToNat, reduceCtorEq, sx, fx17, g0, ho, show ((0 : Int) != 0) = false from rfl]
      generalize hR : execC _ _ _ _ _ (Code.rangeFunc _ _ _ _) _ _ = r
      have hrng : ∀ (T0 : Tr AVal) (X' : Out), T0.get 2 = some (.ptr 1 0) → T0.get 16 = some (.func 47 [.ptr sp 0] []) → execC lawProg (callN lawProg k) k 17 25 (.rangeFunc (.tmp 16) #[17] (loopSp T0).assign (loopSp T0).body) T0 σ2 = X' → ∃ σ', X' = some (.normal, T0, σ') ∧ σ'.get 1 = some (.row 1 false [.int .i64 (sumB (blocksL ps))]) ∧ HeapM σ0.next σ' sp pr none wr none its ps ws := by
        intro T0 X' t2 t16 hX'
        rw [← hX']
        have hp : ∀ r, r < σ2.next → (σ2.push (.loop (loopSp T0))).get r = σ2.get r := fun r hr => by rw [AMem.get_push, if_neg (by omega)]
        have hmem : ∀ r, 2 ≤ r → r < σ2.next → r ∉ [1, σ2.next] := fun r h1 h2 hm => by
          simp only [List.mem_cons, List.not_mem_nil, or_false] at hm
          omega
        obtain ⟨O', σ', e1, ⟨rfl, h1, h2, h3, h4⟩, hF⟩ := range_all (σ := σ2) (k := k) (f := 17) (N := 25) (T0 := T0) (p := 17) (g := 16) (lp := loopSp T0) (O := [1, σ2.next]) (k0 := 1) (a := (loopSp T0).assign) (b := (loopSp T0).body) rfl (sp_client t2 (by have := blocks_count hright.shape hmany.2; omega) (blk_sizes hright.shape hmany.2)) (fun _ _ h => h) (fun d O σ' ⟨_, _, _, _, h⟩ => h) hM hright.shape hmany.2 (by omega) (by omega) ⟨hmem sp (by omega) x1, hmem pr (by omega) x2, hmem wr (by omega) x3, fun r hr => hmem r (by have := (hM.own.it.bound r hr).1; omega) (hM.own.it.bound r hr).2⟩ ⟨rfl, by omega, by simp, by rw [hp 1 (by omega)]; exact g12, by rw [AMem.get_push, if_pos rfl]⟩ t16
        refine ⟨_, e1, by rw [AMem.get_put, if_neg (by omega)]; exact h3, ?_⟩
        have hFn := hF.nx
        simp only [AMem.next_push] at hFn
        have hsame : ∀ r, 2 ≤ r → r < σ2.next → (σ'.put σ2.next (.loop { loopSp T0 with state := .exhausted })).get r = σ2.get r := fun r h1 h2 => by
          rw [AMem.get_put, if_neg (by omega), hF.get r (by simp only [AMem.next_push]; omega) (hmem r h1 h2), hp r h2]
        refine ⟨⟨by rw [hsame sp (by omega) x1]; exact hM.own.ms, by rw [hsame pr (by omega) x2]; exact hM.own.mp, by rw [hsame wr (by omega) x3]; exact hM.own.mw, hM.own.it.same (Nat.le_refl _) (by simp only [AMem.next_put]; omega) (fun r hr => hsame r (by have := (hM.own.it.bound r hr).1; omega) (hM.own.it.bound r hr).2) hM.own.it.2.2, hM.own.ns, hM.own.nw, hM.own.ne, hM.own.lo, ⟨by simp only [AMem.next_put]; omega, by simp only [AMem.next_put]; omega, by simp only [AMem.next_put]; omega⟩⟩, hM.pi, hM.ox⟩
      obtain ⟨σ', rfl, z1, z2⟩ := hrng _ _ (by simp only [Tr.get_set, Nat.reduceEqDiff, reduceIte]) (by simp only [Tr.get_set, Nat.reduceEqDiff, reduceIte]) hR
      obtain ⟨σ3, hgr, ex3⟩ := greatest_exec (k := k - 1) z2 hright.shape hmany.2 (by omega)
      rw [show k - 1 + 1 = k by omega] at hgr
      have hn1 : 1 < σ'.next := by have := z2.own.nx; omega
      have z13 : σ3.get 1 = some (.row 1 false [.int .i64 (sumB (blocksL ps))]) := by rw [ex3.2 1 hn1]; exact z1
      simp only [dx, reduceIte, Nat.reduceLT, Nat.reduceLeDiff, Nat.reduceEqDiff, Nat.reduceAdd, Nat.reduceMul, Nat.reduceSub, Nat.reduceBEq, Int.reduceEq, Int.reduceLT, Int.reduceLE, Int.reduceToNat, reduceCtorEq, sx, fx17, z1, hgr, z13]
      exact ⟨_, _, rfl, by simp only [Tr.get_set, Nat.reduceEqDiff, reduceIte], by simp only [Tr.get_set, Nat.reduceEqDiff, reduceIte], by simp only [Tr.get_set, Nat.reduceEqDiff, reduceIte], by rw [AMem.get_put, if_pos rfl]⟩
    obtain ⟨T1, σ', r1, r2, r3, r4, r5⟩ := run
    exact fin T1 _ _ _ 0 r1 r2 r3 r4 r5
end Go.Proofs.Ytjkfdiglokkceaa

/- Heaps: how many words the blocks have, when one is handed out or given back. No program in sight. -/
set_option maxRecDepth 100000
set_option linter.unusedSimpArgs false
set_option linter.unusedVariables false
namespace Go.Proofs.Ytjkfdiglokkceaa
open Go Go.Proofs.Ytjkfdiglokkceaa.Pale

theorem smallTo_slot {i : Nat} {p : Pg} : ∀ {m : Nat} {c : Blk}, c ∈ smallTo i p m → c.slot < m := by
  intro m
  induction m with
  | zero => intro c h; simp [smallTo] at h
  | succ m ih =>
    intro c h
    rw [smallTo_succ, List.mem_append] at h
    rcases h with h | h
    · have := ih h; omega
    · split at h
      · simp only [List.mem_singleton] at h
        rw [h]
        show m < m + 1
        omega
      · cases h
theorem small_nodup (i : Nat) (p : Pg) : ∀ m, (smallTo i p m).Nodup := by
  intro m
  induction m with
  | zero => simp [smallTo]
  | succ m ih =>
    rw [smallTo_succ, List.nodup_append]
    refine ⟨ih, ?_, ?_⟩
    · split <;> simp
    · intro a ha b hb e
      subst e
      have h1 := smallTo_slot ha
      split at hb
      · simp only [List.mem_singleton] at hb
        rw [hb] at h1
        have : (slotB i p m).slot = m := rfl
        omega
      · cases hb
theorem blocksTo_page {ps : List Pg} : ∀ {n : Nat} {c : Blk}, c ∈ blocksTo ps n → c.page < n := by
  intro n
  induction n with
  | zero => intro c h; simp [blocksTo] at h
  | succ n ih =>
    intro c h
    rw [blocksTo_succ, List.mem_append] at h
    rcases h with h | h
    · have := ih h; omega
    · rw [pgB_page h]; omega
theorem blocks_nodup (ps : List Pg) : (blocksL ps).Nodup := by
  have key : ∀ n, (blocksTo ps n).Nodup := by
    intro n
    induction n with
    | zero => simp [blocksTo]
    | succ n ih =>
      rw [blocksTo_succ, List.nodup_append]
      refine ⟨ih, ?_, ?_⟩
      · unfold pgB
        split
        · simp
        · split
          · exact small_nodup _ _ _
          · simp
      · intro a ha b hb e
        subst e
        have h1 := blocksTo_page ha
        rw [pgB_page hb] at h1
        omega
  exact key _
theorem sumB_perm {l m : List Blk} (h : l.Perm m) : sumB l = sumB m := by
  have hc : ∀ (a : Blk) (l : List Blk), sumB (a :: l) = a.size + sumB l := fun a l => by simp [sumB]
  induction h with
  | nil => rfl
  | cons a _ ih => rw [hc, hc, ih]
  | swap a b l => rw [hc, hc, hc, hc]; omega
  | trans _ _ ih1 ih2 => rw [ih1, ih2]
theorem sumB_free {ps : List Pg} {b : Blk} (h : Shape ps) (hb : b ∈ blocksL ps) : sumB (blocksL (freeL ps b)) = sumB (blocksL ps) - b.size := by
  obtain ⟨_, _, h3⟩ := free_blocks h hb
  have hp : (blocksL ps).Perm (b :: blocksL (freeL ps b)) := by
    rw [List.perm_ext_iff_of_nodup (blocks_nodup ps) (List.nodup_cons.2 ⟨fun hm => ((h3 b).1 hm).2 rfl, blocks_nodup _⟩)]
    intro x
    rw [List.mem_cons, h3]
    constructor
    · intro hx
      by_cases e : x = b
      · exact .inl e
      · exact .inr ⟨hx, e⟩
    · rintro (rfl | ⟨hx, _⟩)
      · exact hb
      · exact hx
  have := sumB_perm hp
  have hc : sumB (b :: blocksL (freeL ps b)) = b.size + sumB (blocksL (freeL ps b)) := by simp [sumB]
  rw [this, hc]
  omega
theorem sumB_alloc {ps qs : List Pg} {n : Int} {b : Blk} (h : Shape ps) (hn : 1 ≤ n) (ha : allocL ps n = some (qs, b)) : sumB (blocksL qs) = sumB (blocksL ps) + b.size := by
  obtain ⟨g1, _, g3, _, g5, _⟩ := alloc_right h hn ha
  have := sumB_free g1 g3
  rw [g5] at this
  omega
end Go.Proofs.Ytjkfdiglokkceaa

/- Heaps: the greatest block that can be handed out. No program in sight. -/
set_option maxRecDepth 100000
set_option linter.unusedSimpArgs false
set_option linter.unusedVariables false
namespace Go.Proofs.Ytjkfdiglokkceaa
open Go Go.Proofs.Ytjkfdiglokkceaa.Pale

theorem grRun_some {ps : List Pg} {m : Nat} : ∀ {n : Nat}, grRun ps n = some m → 1 ≤ m ∧ m ≤ n ∧ (runL ps m).isSome = true ∧ ∀ j, m < j → j ≤ n → runL ps j = none := by
  intro n
  induction n with
  | zero => intro h; cases h
  | succ n ih =>
    intro h
    unfold grRun at h
    split at h
    · rename_i hs
      cases h
      exact ⟨by omega, by omega, hs, fun j h1 h2 => by omega⟩
    · rename_i hs
      obtain ⟨a, b, c, d⟩ := ih h
      refine ⟨a, by omega, c, fun j h1 h2 => ?_⟩
      by_cases e : j = n + 1
      · subst e
        simpa using hs
      · exact d j h1 (by omega)
theorem grRun_none {ps : List Pg} : ∀ {n : Nat}, grRun ps n = none → ∀ j, 1 ≤ j → j ≤ n → runL ps j = none := by
  intro n
  induction n with
  | zero => intro _ j h1 h2; omega
  | succ n ih =>
    intro h j h1 h2
    unfold grRun at h
    split at h
    · cases h
    · rename_i hs
      by_cases e : j = n + 1
      · subst e
        simpa using hs
      · exact ih h j h1 (by omega)
/-- The greatest number, of so many at most, that can be handed out. -/
def greatTo (ps : List Pg) : Nat → Int
  | 0 => 0
  | n + 1 => if (allocL ps ((n + 1 : Nat) : Int)).isSome then ((n + 1 : Nat) : Int) else greatTo ps n
theorem greatTo_none {ps : List Pg} : ∀ {N : Nat}, (∀ n : Nat, 1 ≤ n → n ≤ N → allocL ps (n : Nat) = none) → greatTo ps N = 0 := by
  intro N
  induction N with
  | zero => intro _; rfl
  | succ N ih =>
    intro h
    rw [greatTo, h (N + 1) (by omega) (by omega), if_neg (by simp)]
    exact ih fun n h1 h2 => h n h1 (by omega)
theorem greatTo_max {ps : List Pg} {a : Nat} (ha : (allocL ps (a : Nat)).isSome = true) (h1 : 1 ≤ a) : ∀ {N : Nat}, a ≤ N → (∀ n : Nat, a < n → n ≤ N → allocL ps (n : Nat) = none) → greatTo ps N = (a : Nat) := by
  intro N
  induction N with
  | zero => intro h _; omega
  | succ N ih =>
    intro h hn
    by_cases e : a = N + 1
    · subst e
      rw [greatTo, if_pos ha]
    · rw [greatTo, hn (N + 1) (by omega) (by omega), if_neg (by simp)]
      exact ih (by omega) fun n h1 h2 => hn n h1 (by omega)
theorem alloc_large {ps : List Pg} {n : Nat} (h : 32 < n) : (allocL ps (n : Nat)).isSome = (runL ps ((n + 63) / 64)).isSome := by
  have hq : ((((n : Nat) : Int) + 63) / 64).toNat = (n + 63) / 64 := by omega
  unfold allocL
  rw [if_pos (by omega), hq]
  cases runL ps ((n + 63) / 64) <;> rfl
theorem alloc_small {ps : List Pg} {n : Nat} (h : n ≤ 32) (hr : runL ps 1 = none) : (allocL ps (n : Nat)).isSome = (placeL ps (sizeF (n : Nat))).isSome := by
  unfold allocL
  rw [if_neg (by omega)]
  cases placeL ps (sizeF (n : Nat)) with
  | some x => rfl
  | none => simp only [hr]; rfl
theorem sizeF_at (n : Nat) (h : n ≤ 32) : (n ≤ 2 ∧ sizeF (n : Nat) = 2) ∨ (2 < n ∧ n ≤ 4 ∧ sizeF (n : Nat) = 4) ∨ (4 < n ∧ n ≤ 8 ∧ sizeF (n : Nat) = 8) ∨ (8 < n ∧ n ≤ 16 ∧ sizeF (n : Nat) = 16) ∨ (16 < n ∧ sizeF (n : Nat) = 32) := by
  unfold sizeF
  by_cases h2 : n ≤ 2
  · exact .inl ⟨h2, by rw [if_pos (by omega)]⟩
  · by_cases h4 : n ≤ 4
    · exact .inr (.inl ⟨by omega, h4, by rw [if_neg (by omega), if_pos (by omega)]⟩)
    · by_cases h8 : n ≤ 8
      · exact .inr (.inr (.inl ⟨by omega, h8, by rw [if_neg (by omega), if_neg (by omega), if_pos (by omega)]⟩))
      · by_cases h16 : n ≤ 16
        · exact .inr (.inr (.inr (.inl ⟨by omega, h16, by rw [if_neg (by omega), if_neg (by omega), if_neg (by omega), if_pos (by omega)]⟩)))
        · exact .inr (.inr (.inr (.inr ⟨by omega, by rw [if_neg (by omega), if_neg (by omega), if_neg (by omega), if_neg (by omega)]⟩)))
theorem none_of {α : Type} {o : Option α} (h : o.isSome = false) : o = none := by
  cases o with
  | none => rfl
  | some x => cases h
theorem great_eq {ps : List Pg} (h1 : 1 ≤ ps.length) (h2 : ps.length ≤ 40) : greatTo ps (64 * ps.length) = greatL ps := by
  unfold greatL
  cases hg : grRun ps 40 with
  | some m =>
    obtain ⟨a, b, c, d⟩ := grRun_some hg
    have hf : m ≤ ps.length := by
      cases hr : runL ps m with
      | none => rw [hr] at c; cases c
      | some f => have := (runL_some hr).1; omega
    refine greatTo_max ?_ (by omega) (by omega) fun n hn1 hn2 => none_of ?_
    · rw [alloc_large (by omega), show (64 * m + 63) / 64 = m by omega]
      exact c
    · rw [alloc_large (by omega), d _ (by omega) (by omega)]
      rfl
  | none =>
    have hd := grRun_none hg
    have hr1 := hd 1 (by omega) (by omega)
    have hlarge : ∀ n : Nat, 32 < n → n ≤ 64 * ps.length → allocL ps (n : Nat) = none := fun n a b => none_of (by rw [alloc_large a, hd _ (by omega) (by omega)]; rfl)
    have hsmall : ∀ n : Nat, n ≤ 32 → (placeL ps (sizeF (n : Nat))).isSome = false → allocL ps (n : Nat) = none := fun n a b => none_of (by rw [alloc_small a hr1, b])
    have hsome : ∀ n : Nat, n ≤ 32 → (placeL ps (sizeF (n : Nat))).isSome = true → (allocL ps (n : Nat)).isSome = true := fun n a b => by rw [alloc_small a hr1, b]
    show greatTo ps (64 * ps.length) = grSmall ps
    unfold grSmall
    have pick : ∀ s : Nat, 1 ≤ s → s ≤ 32 → (placeL ps (sizeF (s : Nat))).isSome = true → (∀ n : Nat, s < n → n ≤ 32 → (placeL ps (sizeF (n : Nat))).isSome = false) → greatTo ps (64 * ps.length) = (s : Nat) := fun s a b c d => greatTo_max (hsome s b c) a (by omega) fun n e f => by
      by_cases g : n ≤ 32
      · exact hsmall n g (d n e g)
      · exact hlarge n (by omega) f
    cases p32 : (placeL ps 32).isSome with
    | true => rw [if_pos rfl]; exact pick 32 (by omega) (by omega) p32 fun n a b => by omega
    | false =>
      rw [if_neg (by simp)]
      cases p16 : (placeL ps 16).isSome with
      | true =>
        rw [if_pos rfl]
        refine pick 16 (by omega) (by omega) p16 fun n a b => ?_
        rcases sizeF_at n b with ⟨x, e⟩ | ⟨x, y, e⟩ | ⟨x, y, e⟩ | ⟨x, y, e⟩ | ⟨x, e⟩ <;> first | omega | (rw [e]; assumption)
      | false =>
        rw [if_neg (by simp)]
        cases p8 : (placeL ps 8).isSome with
        | true =>
          rw [if_pos rfl]
          refine pick 8 (by omega) (by omega) p8 fun n a b => ?_
          rcases sizeF_at n b with ⟨x, e⟩ | ⟨x, y, e⟩ | ⟨x, y, e⟩ | ⟨x, y, e⟩ | ⟨x, e⟩ <;> first | omega | (rw [e]; assumption)
        | false =>
          rw [if_neg (by simp)]
          cases p4 : (placeL ps 4).isSome with
          | true =>
            rw [if_pos rfl]
            refine pick 4 (by omega) (by omega) p4 fun n a b => ?_
            rcases sizeF_at n b with ⟨x, e⟩ | ⟨x, y, e⟩ | ⟨x, y, e⟩ | ⟨x, y, e⟩ | ⟨x, e⟩ <;> first | omega | (rw [e]; assumption)
          | false =>
            rw [if_neg (by simp)]
            cases p2 : (placeL ps 2).isSome with
            | true =>
              rw [if_pos rfl]
              refine pick 2 (by omega) (by omega) p2 fun n a b => ?_
              rcases sizeF_at n b with ⟨x, e⟩ | ⟨x, y, e⟩ | ⟨x, y, e⟩ | ⟨x, y, e⟩ | ⟨x, e⟩ <;> first | omega | (rw [e]; assumption)
            | false =>
              rw [if_neg (by simp)]
              refine greatTo_none fun n a b => ?_
              by_cases g : n ≤ 32
              · refine hsmall n g ?_
                rcases sizeF_at n g with ⟨x, e⟩ | ⟨x, y, e⟩ | ⟨x, y, e⟩ | ⟨x, y, e⟩ | ⟨x, e⟩ <;> (rw [e]; assumption)
              · exact hlarge n (by omega) b
end Go.Proofs.Ytjkfdiglokkceaa

/- Heaps: what there is no room for. No program in sight. -/
set_option maxRecDepth 100000
set_option linter.unusedSimpArgs false
set_option linter.unusedVariables false
namespace Go.Proofs.Ytjkfdiglokkceaa
open Go Go.Proofs.Ytjkfdiglokkceaa.Pale

theorem cnt_below {ps : List Pg} {m : Nat} (h1 : 1 ≤ m) (h : runL ps m = none) : ∀ i, i ≤ ps.length → cntTo ps i < m := by
  intro i
  induction i with
  | zero => intro _; rw [cntTo]; omega
  | succ i ih =>
    intro hi
    have h2 := ih (by omega)
    have hne : cntTo ps (i + 1) ≠ m := by
      intro e
      cases hr : runTo ps m i with
      | some x =>
        have := runTo_more (i := i) hr (by omega)
        rw [h] at this; cases this
      | none =>
        have h3 : runTo ps m (i + 1) = some (i + 1 - m) := by
          rw [runTo, hr]
          simp only
          rw [if_pos e]
        have := runTo_more h3 hi
        rw [h] at this; cases this
    rw [cntTo] at hne ⊢
    split
    · rename_i e
      rw [if_pos e] at hne
      omega
    · omega
theorem place_none {ps : List Pg} {size : Int} (h : placeL ps size = none) : ∀ i, i < ps.length → (pgAt ps i).kind = 1 → (pgAt ps i).n = size → firstFree (pgAt ps i) = none := by
  intro i hi k1 kn
  cases hf : firstFree (pgAt ps i) with
  | none => rfl
  | some s =>
    cases hp : placeTo ps size i with
    | some x =>
      have := placeTo_more (i := i) hp (by omega)
      rw [h] at this; cases this
    | none =>
      have h3 : placeTo ps size (i + 1) = some (i, s) := by
        rw [placeTo, hp]
        simp only
        rw [if_pos ⟨k1, kn⟩, hf]
        rfl
      have := placeTo_more (i := i + 1) h3 (by omega)
      rw [h] at this; cases this
theorem greatTo_spec {ps : List Pg} : ∀ N, greatTo ps N = 0 ∨ ∃ a : Nat, 1 ≤ a ∧ a ≤ N ∧ greatTo ps N = (a : Nat) ∧ (allocL ps (a : Nat)).isSome = true := by
  intro N
  induction N with
  | zero => exact .inl rfl
  | succ N ih =>
    rw [greatTo]
    by_cases h : (allocL ps ((N + 1 : Nat) : Int)).isSome = true
    · rw [if_pos h]
      exact .inr ⟨N + 1, by omega, by omega, rfl, h⟩
    · rw [if_neg h]
      rcases ih with ih | ⟨a, h1, h2, h3, h4⟩
      · exact .inl ih
      · exact .inr ⟨a, h1, by omega, h3, h4⟩
theorem greatTo_least {ps : List Pg} {a : Nat} (ha : (allocL ps (a : Nat)).isSome = true) : ∀ N, a ≤ N → (a : Int) ≤ greatTo ps N := by
  intro N
  induction N with
  | zero => intro h; rw [greatTo]; omega
  | succ N ih =>
    intro h
    by_cases e : a = N + 1
    · subst e
      rw [greatTo, if_pos ha]
      exact Int.le_refl _
    · rw [greatTo]
      split
      · omega
      · exact ih (by omega)
/-- What was not handed out. -/
theorem alloc_none {ps : List Pg} {n : Nat} (h1 : 1 ≤ ps.length ∧ ps.length ≤ 40) (hn : 1 ≤ n) (h : allocL ps (n : Nat) = none) : runL ps ((n + 63) / 64) = none ∧ (n ≤ 32 → placeL ps (sizeF (n : Nat)) = none) ∧ greatL ps ≠ (n : Nat) := by
  refine ⟨?_, fun h32 => ?_, fun e => ?_⟩
  · by_cases h32 : n ≤ 32
    · unfold allocL at h
      rw [if_neg (by omega)] at h
      cases hp : placeL ps (sizeF (n : Nat)) with
      | some x => rw [hp] at h; cases h
      | none =>
        rw [hp] at h
        simp only at h
        rw [show (n + 63) / 64 = 1 by omega]
        cases hr : runL ps 1 with
        | none => rfl
        | some f => rw [hr] at h; cases h
    · have := alloc_large (ps := ps) (n := n) (by omega)
      rw [h] at this
      exact none_of this.symm
  · unfold allocL at h
    rw [if_neg (by omega)] at h
    cases hp : placeL ps (sizeF (n : Nat)) with
    | some x => rw [hp] at h; cases h
    | none => rfl
  · rw [← great_eq h1.1 h1.2] at e
    rcases greatTo_spec (ps := ps) (64 * ps.length) with h2 | ⟨a, _, _, h2, h3⟩
    · omega
    · have : a = n := by omega
      rw [this, h] at h3
      cases h3
/-- What was handed out. -/
theorem alloc_some {ps qs : List Pg} {n : Nat} {b : Blk} (hs : Shape ps) (h1 : 1 ≤ ps.length ∧ ps.length ≤ 40) (hn : 1 ≤ n) (h : allocL ps (n : Nat) = some (qs, b)) : ((n : Nat) : Int) ≤ b.size ∧ ((n : Nat) : Int) ≤ greatL ps ∧ ((b.size ≤ 32 ∧ (b.size < 2 * (n : Int) ∨ b.size = 2)) ∨ (b.size > 32 ∧ b.size < (n : Int) + 64)) := by
  obtain ⟨_, g2, _, _, _, _, _, g8⟩ := alloc_right hs (by omega) h
  have hle : n ≤ 64 * ps.length := by
    by_cases h32 : n ≤ 32
    · omega
    · have := alloc_large (ps := ps) (n := n) (by omega)
      rw [h] at this
      cases hr : runL ps ((n + 63) / 64) with
      | none => rw [hr] at this; cases this
      | some f => have := (runL_some hr).1; omega
  have hgr : ((n : Nat) : Int) ≤ greatL ps := by
    rw [← great_eq h1.1 h1.2]
    exact greatTo_least (by rw [h]; rfl) _ hle
  rcases g8 with ⟨_, _, e, h32, _⟩ | ⟨_, _, e, h32, _⟩
  · refine ⟨by omega, hgr, .inr ⟨by omega, by omega⟩⟩
  · rcases sizeF_at n (by omega) with ⟨x, f⟩ | ⟨x, y, f⟩ | ⟨x, y, f⟩ | ⟨x, y, f⟩ | ⟨x, f⟩ <;> rw [f] at e <;> exact ⟨by omega, hgr, .inl ⟨by omega, by omega⟩⟩
end Go.Proofs.Ytjkfdiglokkceaa

/- Heaps: free and room of the laws. -/
set_option maxRecDepth 100000
set_option linter.unusedSimpArgs false
set_option linter.unusedVariables false
namespace Go.Proofs.Ytjkfdiglokkceaa
open Go Go.Proofs.Ytjkfdiglokkceaa.Pale
variable {k : Nat} {σ : AMem}

theorem free_call {v : AVal} {ps : List Pg} {ws : List Int} {m : Nat} (hv : VH v ps ws) (hl : ps.length ≤ 40) (h1 : 1 ≤ m) (hr : runL ps m = none) (hk : 1000 ≤ k) : ∃ x : Int, (∀ σ, pureCall lawProg (callN lawProg k) (.func 26 [] []) [v] σ = some (.int .i64 x, σ)) ∧ x < (m : Nat) := by
  obtain ⟨k, rfl⟩ : ∃ m, k = m + 1 := ⟨k - 1, by omega⟩
  obtain ⟨kp, kw, l, rfl, rfl, _⟩ := hv
  have hlp : (pgsOf l).length = l.length := by simp [pgsOf]
  have run : ∃ T1 σ1 x, execC lawProg (callN lawProg k) k 26 26 (bodyOf Try.f26) (initT 0 [hpV kp kw l ws] .nil) AMem.empty = some (.ret, T1, σ1) ∧ T1.get 2 = some (.int .i64 x) ∧ x < ((m : Nat) : Int) := by
    unfold hpV
    obtain ⟨σ0, hσ0⟩ : ∃ s, s = AMem.empty.push (.row 2 true [.vs kp (l.map pv), .vs kw (intV ws)]) := ⟨_, rfl⟩
    have g0 : σ0.get 0 = some (.row 2 true [.vs kp (l.map pv), .vs kw (intV ws)]) := by rw [hσ0]; simp [AMem.get_push, next_empty]
    simp only [bodyOf, Try.f26, Option.getD_some, initT, dx, reduceIte, Nat.reduceLT, Nat.reduceLeDiff, Nat.reduceEqDiff, Nat.reduceAdd, Nat.reduceMul, Nat.reduceSub, Nat.reduceBEq, Int.reduceEq, Int.reduceLT, Int.reduceLE, Int.reduceToNat, reduceCtorEq, sx, fx26]
    rw [← hσ0]
    generalize hLp : execC _ _ _ _ _ (Code.loop _) _ _ = q
    obtain ⟨e, T', σ', rfl, _, rfl, x, t3, hx⟩ : ∃ e T' σ', q = some (e, T', σ') ∧ e ≠ .normal ∧ e = .exit 0 ∧ ∃ x : Nat, T'.get 3 = some (.int .i64 (x : Nat)) ∧ x < m := by
      rw [← hLp]
      refine exec_loop (fun i T σ' => i ≤ l.length ∧ σ' = σ0 ∧ T.get 1 = some (.ptr 0 0) ∧ (∃ x : Nat, T.get 3 = some (.int .i64 (x : Nat)) ∧ x < m) ∧ T.get 4 = some (.int .i64 (cntTo (pgsOf l) i : Nat)) ∧ T.get 5 = some (.int .i64 (i : Nat))) l.length (by omega) ?_ ?_ ?_
      · rintro i hi T σ' ⟨_, rfl, t1, ⟨x, t3, hx⟩, t4, t5⟩
        have hlt : ((i : Nat) : Int) < ((l.length : Nat) : Int) := by omega
        have hw' := i64_succ (i := i) (by omega)
        have hget := pv_get hi
        have hpg := pgAt_pgs hi
        have hcb := cntTo_le (pgsOf l) i
        have hw2 := i64_succ (i := cntTo (pgsOf l) i) (by omega)
        have hcn := cnt_below h1 hr (i + 1) (by omega)
        have hmax : ∀ (a b : Nat), (if ((b : Nat) : Int) > ((a : Nat) : Int) then ((b : Nat) : Int) else ((a : Nat) : Int)) = ((max a b : Nat) : Int) := fun a b => by
          by_cases h : b > a
          · rw [if_pos (by omega), Nat.max_eq_right (by omega)]
          · rw [if_neg (by omega), Nat.max_eq_left (by omega)]
        by_cases k0 : (l[i]).1.kind = 0
        · have hb1 : ((l[i]).1.kind != 0) = false := by rw [k0]; rfl
          have hc : cntTo (pgsOf l) (i + 1) = cntTo (pgsOf l) i + 1 := by rw [cntTo, if_pos (by rw [hpg]; exact k0)]
          refine ⟨_, _, by
            simp only [dx, reduceIte, Nat.reduceLT, Nat.reduceLeDiff, Nat.reduceEqDiff, Nat.reduceAdd, Nat.reduceMul, Nat.reduceSub, Nat.reduceBEq, Int.reduceEq, Int.reduceLT, Int.reduceLE, Int.reduceToNat, reduceCtorEq, sx, fx26, t1, t3, t4, t5, g0, List.length_map, hlt, Int.natCast_nonneg, Int.toNat_natCast, hget, hb1, hw2, hmax, hw']
            rfl, by omega, rfl, ?_, ⟨max x (cntTo (pgsOf l) i + 1), ?_, by rw [← hc]; exact Nat.max_lt.2 ⟨hx, hcn⟩⟩, ?_, ?_⟩
          · simp only [Tr.get_set, Nat.reduceEqDiff, reduceIte, t1]
          · simp only [Tr.get_set, Nat.reduceEqDiff, reduceIte]
          · simp only [Tr.get_set, Nat.reduceEqDiff, reduceIte, hc]
          · simp only [Tr.get_set, Nat.reduceEqDiff, reduceIte]
        · have hb1 : ((l[i]).1.kind != 0) = true := by rw [bne_iff_ne]; exact k0
          have hc : cntTo (pgsOf l) (i + 1) = 0 := by rw [cntTo, if_neg (by rw [hpg]; exact k0)]
          have hm0 : (if (0 : Int) > ((x : Nat) : Int) then (0 : Int) else ((x : Nat) : Int)) = ((x : Nat) : Int) := by rw [if_neg (by omega)]
          refine ⟨_, _, by
            simp only [dx, reduceIte, Nat.reduceLT, Nat.reduceLeDiff, Nat.reduceEqDiff, Nat.reduceAdd, Nat.reduceMul, Nat.reduceSub, Nat.reduceBEq, Int.reduceEq, Int.reduceLT, Int.reduceLE, Int.reduceToNat, reduceCtorEq, sx, fx26, t1, t3, t4, t5, g0, List.length_map, hlt, Int.natCast_nonneg, Int.toNat_natCast, hget, hb1, hw2, hm0, hw']
            rfl, by omega, rfl, ?_, ⟨x, ?_, hx⟩, ?_, ?_⟩
          · simp only [Tr.get_set, Nat.reduceEqDiff, reduceIte, t1]
          · simp only [Tr.get_set, Nat.reduceEqDiff, reduceIte]
          · simp only [Tr.get_set, Nat.reduceEqDiff, reduceIte, hc]; rfl
          · simp only [Tr.get_set, Nat.reduceEqDiff, reduceIte]
      · rintro T σ' ⟨_, rfl, t1, ⟨x, t3, hx⟩, t4, t5⟩
        have hge : ¬ (((l.length : Nat) : Int) < ((l.length : Nat) : Int)) := by omega
        refine ⟨_, _, _, by
          simp only [dx, reduceIte, Nat.reduceLT, Nat.reduceLeDiff, Nat.reduceEqDiff, Nat.reduceAdd, Nat.reduceMul, Nat.reduceSub, Nat.reduceBEq, Int.reduceEq, Int.reduceLT, Int.reduceLE, Int.reduceToNat, reduceCtorEq, sx, fx26, t1, t5, g0, List.length_map, hge]
          rfl, by simp, rfl, x, ?_, hx⟩
        simp only [Tr.get_set, Nat.reduceEqDiff, reduceIte, t3]
      · refine ⟨Nat.zero_le _, rfl, ?_, ⟨0, ?_, h1⟩, ?_, ?_⟩
        all_goals simp only [Tr.get_set, Nat.reduceEqDiff, reduceIte] <;> rfl
    simp only [dx, reduceIte, Nat.reduceLT, Nat.reduceLeDiff, Nat.reduceEqDiff, Nat.reduceAdd, Nat.reduceMul, Nat.reduceSub, Nat.reduceBEq, Int.reduceEq, Int.reduceLT, Int.reduceLE, Int.reduceToNat, reduceCtorEq, sx, fx26, t3]
    exact ⟨_, _, _, rfl, by simp only [Tr.get_set, Nat.reduceEqDiff, reduceIte]; rfl, by omega⟩
  obtain ⟨T1, σ1, x, r1, r2, r3⟩ := run
  refine ⟨x, fun σ => pureCall_of (args' := [hpV kp kw l ws]) (seen := [] ++ []) ?_ (memo26 _) (pureRun_of fn26 rfl (by simp [Try.f26]) r1 (by simp) (res_one r2) rfl), r3⟩
  rfl
set_option maxHeartbeats 1000000 in
theorem room_call {v : AVal} {ps : List Pg} {ws : List Int} {n : Nat} (hv : VH v ps ws) (hright : RightH ps ws) (hn : 1 ≤ n) (h32 : n ≤ 32) (hp : placeL ps (sizeF (n : Nat)) = none) (hk : 1000 ≤ k) : pureCall lawProg (callN lawProg k) (.func 27 [] []) [v, .int .i64 (n : Nat)] σ = some (.bool false, σ) := by
  obtain ⟨k, rfl⟩ : ∃ m, k = m + 1 := ⟨k - 1, by omega⟩
  have hmany := hright.many
  obtain ⟨kp, kw, l, rfl, rfl, _⟩ := hv
  have hlp : (pgsOf l).length = l.length := by simp [pgsOf]
  have hpn := place_none hp
  obtain ⟨size, hsize⟩ : ∃ s, s = sizeF ((n : Nat) : Int) := ⟨_, rfl⟩
  rw [← hsize] at hpn
  have run : ∃ T1 σ1, execC lawProg (callN lawProg k) k 27 51 (bodyOf Try.f27) (initT 0 [hpV kp kw l ws, .int .i64 (n : Nat)] .nil) AMem.empty = some (.ret, T1, σ1) ∧ T1.get 4 = some (.bool false) := by
    unfold hpV
    obtain ⟨σ0, hσ0⟩ : ∃ s, s = AMem.empty.push (.row 2 true [.vs kp (l.map pv), .vs kw (intV ws)]) := ⟨_, rfl⟩
    have g0 : σ0.get 0 = some (.row 2 true [.vs kp (l.map pv), .vs kw (intV ws)]) := by rw [hσ0]; simp [AMem.get_push, next_empty]
    simp only [bodyOf, Try.f27, Option.getD_some, initT, dx, reduceIte, Nat.reduceLT, Nat.reduceLeDiff, Nat.reduceEqDiff, Nat.reduceAdd, Nat.reduceMul, Nat.reduceSub, Nat.reduceBEq, Int.reduceEq, Int.reduceLT, Int.reduceLE, Int.reduceToNat, reduceCtorEq, sx, fx27]
    rw [← hσ0]
    generalize hL0 : execC _ _ _ _ _ (Code.loop _) _ _ = q0
    obtain ⟨e, T0, σ', rfl, _, rfl, hse, t2, t5⟩ : ∃ e T' σ', q0 = some (e, T', σ') ∧ e ≠ .normal ∧ e = .exit 0 ∧ σ' = σ0 ∧ T'.get 2 = some (.ptr 0 0) ∧ T'.get 5 = some (.int .i64 size) := by
      rw [← hL0]
      refine exec_loop2 (fun i T σ' => i ≤ 4 ∧ σ' = σ0 ∧ T.get 1 = some (.int .i64 (n : Nat)) ∧ T.get 2 = some (.ptr 0 0) ∧ T.get 5 = some (.int .i64 ((2 ^ (i + 1) : Nat) : Int)) ∧ (i = 0 ∨ 2 ^ i < n)) 4 (by omega) ?_ ?_ ?_
      · rintro i hi T σ' ⟨_, rfl, t1, t2, t5, hin⟩
        have hpw : 2 ^ (i + 1) ≤ 16 := by
          have : i = 0 ∨ i = 1 ∨ i = 2 ∨ i = 3 := by omega
          rcases this with rfl | rfl | rfl | rfl <;> decide
        by_cases hlt : 2 ^ (i + 1) < n
        · have hlt' : ((2 ^ (i + 1) : Nat) : Int) < ((n : Nat) : Int) := by omega
          have w1 : IntKind.i64.wrap (((2 ^ (i + 1) : Nat) : Int) * 2) = ((2 ^ (i + 1 + 1) : Nat) : Int) := by
            have e2 : (2 ^ (i + 1 + 1) : Nat) = 2 ^ (i + 1) * 2 := Nat.pow_succ ..
            rw [e2]
            generalize 2 ^ (i + 1) = p at hpw
            rw [i64_id (by omega) (by omega)]
            omega
          refine .inl ⟨_, _, by
            simp only [dx, reduceIte, Nat.reduceLT, Nat.reduceLeDiff, Nat.reduceEqDiff, Nat.reduceAdd, Nat.reduceMul, Nat.reduceSub, Nat.reduceBEq, Int.reduceEq, Int.reduceLT, Int.reduceLE, Int.reduceToNat, reduceCtorEq, sx, fx27, t1, t5, hlt', w1]
            rfl, by omega, rfl, ?_, ?_, ?_, .inr hlt⟩
          · simp only [Tr.get_set, Nat.reduceEqDiff, reduceIte, t1]
          · simp only [Tr.get_set, Nat.reduceEqDiff, reduceIte, t2]
          · simp only [Tr.get_set, Nat.reduceEqDiff, reduceIte]
        · have hge : ¬ ((2 ^ (i + 1) : Nat) : Int) < ((n : Nat) : Int) := by omega
          have hsz : size = ((2 ^ (i + 1) : Nat) : Int) := by
            rw [hsize]
            have : i = 0 ∨ i = 1 ∨ i = 2 ∨ i = 3 := by omega
            rcases this with rfl | rfl | rfl | rfl <;> simp only [Nat.reducePow, Nat.reduceAdd] at hlt hin ⊢ <;> (rcases sizeF_at n h32 with ⟨x, e⟩ | ⟨x, y, e⟩ | ⟨x, y, e⟩ | ⟨x, y, e⟩ | ⟨x, e⟩ <;> first | (rw [e]; rfl) | omega)
          refine .inr ⟨_, _, _, by
            simp only [dx, reduceIte, Nat.reduceLT, Nat.reduceLeDiff, Nat.reduceEqDiff, Nat.reduceAdd, Nat.reduceMul, Nat.reduceSub, Nat.reduceBEq, Int.reduceEq, Int.reduceLT, Int.reduceLE, Int.reduceToNat, reduceCtorEq, sx, fx27, t1, t5, hge]
            rfl, by simp, rfl, rfl, ?_, ?_⟩
          · simp only [Tr.get_set, Nat.reduceEqDiff, reduceIte, t2]
          · simp only [Tr.get_set, Nat.reduceEqDiff, reduceIte, t5, hsz]
      · rintro T σ' ⟨_, rfl, t1, t2, t5, hin⟩
        have hge : ¬ ((2 ^ (4 + 1) : Nat) : Int) < ((n : Nat) : Int) := by omega
        have hsz : size = ((2 ^ (4 + 1) : Nat) : Int) := by
          rw [hsize]
          simp only [Nat.reducePow, Nat.reduceAdd] at hin ⊢
          rcases sizeF_at n h32 with ⟨x, e⟩ | ⟨x, y, e⟩ | ⟨x, y, e⟩ | ⟨x, y, e⟩ | ⟨x, e⟩ <;> first | (rw [e]; rfl) | omega
        refine ⟨_, _, _, by
          simp only [dx, reduceIte, Nat.reduceLT, Nat.reduceLeDiff, Nat.reduceEqDiff, Nat.reduceAdd, Nat.reduceMul, Nat.reduceSub, Nat.reduceBEq, Int.reduceEq, Int.reduceLT, Int.reduceLE, Int.reduceToNat, reduceCtorEq, sx, fx27, t1, t5, hge]
          rfl, by simp, rfl, rfl, ?_, ?_⟩
        · simp only [Tr.get_set, Nat.reduceEqDiff, reduceIte, t2]
        · simp only [Tr.get_set, Nat.reduceEqDiff, reduceIte, t5, hsz]
      · refine ⟨by omega, rfl, ?_, ?_, ?_, .inl rfl⟩
        all_goals simp only [Tr.get_set, Nat.reduceEqDiff, reduceIte] <;> rfl
    rw [hse]
    simp only [dx, reduceIte, Nat.reduceLT, Nat.reduceLeDiff, Nat.reduceEqDiff, Nat.reduceAdd, Nat.reduceMul, Nat.reduceSub, Nat.reduceBEq, Int.reduceEq, Int.reduceLT, Int.reduceLE, Int.reduceToNat, reduceCtorEq, sx, fx27]
    generalize hL1 : execC _ _ _ _ _ (Code.loop _) _ _ = q1
    obtain ⟨e, T1, σ1, rfl, _, rfl⟩ : ∃ e T' σ', q1 = some (e, T', σ') ∧ e ≠ .normal ∧ e = .exit 2 := by
      rw [← hL1]
      refine exec_loop (fun i T σ' => i ≤ l.length ∧ σ' = σ0 ∧ T.get 2 = some (.ptr 0 0) ∧ T.get 5 = some (.int .i64 size) ∧ T.get 6 = some (.int .i64 (i : Nat))) l.length (by omega) ?_ ?_ ?_
      · rintro i hi T σ' ⟨_, rfl, t2, t5, t6⟩
        have hlt : ((i : Nat) : Int) < ((l.length : Nat) : Int) := by omega
        have hw' := i64_succ (i := i) (by omega)
        have hget := pv_get hi
        have hpg := pgAt_pgs hi
        have hsh := hright.shape i (by omega)
        rw [hpg] at hsh
        have hul : (l[i]).1.used.length ≤ 64 := by
          obtain ⟨_, ⟨_, _, e⟩ | ⟨e, _⟩ | ⟨_, _, _, e⟩ | ⟨_, _, e⟩⟩ := shape_kind hsh
          · rw [e]; simp
          · rcases small_cases hsh e with ⟨_, h⟩ | ⟨_, h⟩ | ⟨_, h⟩ | ⟨_, h⟩ | ⟨_, h⟩ <;> omega
          · rw [e]; simp
          · rw [e]; simp
        have hno : ∀ t (ht : t < (l[i]).1.used.length), (l[i]).1.n = size → (l[i]).1.used[t] = true := fun t ht hn => by
          obtain ⟨_, ⟨_, _, e⟩ | ⟨e, _⟩ | ⟨_, _, _, e⟩ | ⟨_, _, e⟩⟩ := shape_kind hsh
          · rw [e] at ht; simp at ht
          · have := firstFree_none.1 (hpn i (by omega) (by rw [hpg]; exact e) (by rw [hpg]; exact hn)) t (by rw [hpg]; exact ht)
            rw [hpg, List.getElem?_eq_getElem ht] at this
            exact this
          · rw [e] at ht; simp at ht
          · rw [e] at ht; simp at ht
        rcases hli : l[i] with ⟨⟨kd, pn, us⟩, vk⟩
        simp only [hli] at hget hul hno
        simp only [dx, reduceIte, Nat.reduceLT, Nat.reduceLeDiff, Nat.reduceEqDiff, Nat.reduceAdd, Nat.reduceMul, Nat.reduceSub, Nat.reduceBEq, Int.reduceEq, Int.reduceLT, Int.reduceLE, Int.reduceToNat, reduceCtorEq, sx, fx27, t2, t6, g0, List.length_map, hlt]
        generalize hL2 : execC _ _ _ _ _ (Code.loop _) _ _ = q2
        obtain ⟨e, T2, σ2, rfl, _, rfl, hs2, u2, u5, u6⟩ : ∃ e T' σ'', q2 = some (e, T', σ'') ∧ e ≠ .normal ∧ e = .exit 4 ∧ σ'' = σ' ∧ T'.get 2 = some (.ptr 0 0) ∧ T'.get 5 = some (.int .i64 size) ∧ T'.get 6 = some (.int .i64 (i : Nat)) := by
          rw [← hL2]
          refine exec_loop (fun t T σ'' => t ≤ us.length ∧ σ'' = σ' ∧ T.get 2 = some (.ptr 0 0) ∧ T.get 5 = some (.int .i64 size) ∧ T.get 6 = some (.int .i64 (i : Nat)) ∧ T.get 7 = some (.int .i64 (t : Nat))) us.length (by omega) ?_ ?_ ?_
          · rintro t ht T σ'' ⟨_, rfl, u2, u5, u6, u7⟩
            have hltt : ((t : Nat) : Int) < ((us.length : Nat) : Int) := by omega
            have hw2 := i64_succ (i := t) (by omega)
            have hgb := boolV_get ht
            by_cases hn : pn = size
            · have hb1 : (pn == size) = true := by rw [hn]; simp
              rw [hno t ht hn] at hgb
              refine ⟨_, _, by
                simp only [dx, reduceIte, Nat.reduceLT, Nat.reduceLeDiff, Nat.reduceEqDiff, Nat.reduceAdd, Nat.reduceMul, Nat.reduceSub, Nat.reduceBEq, Int.reduceEq, Int.reduceLT, Int.reduceLE, Int.reduceToNat, reduceCtorEq, sx, fx27, u2, u5, u6, u7, g0, List.length_map, hlt, Int.natCast_nonneg, Int.toNat_natCast, hget, boolV_length, hltt, hb1, hgb, hw2]
                rfl, by omega, rfl, ?_, ?_, ?_, ?_⟩
              · simp only [Tr.get_set, Nat.reduceEqDiff, reduceIte, u2]
              · simp only [Tr.get_set, Nat.reduceEqDiff, reduceIte, u5]
              · simp only [Tr.get_set, Nat.reduceEqDiff, reduceIte, u6]
              · simp only [Tr.get_set, Nat.reduceEqDiff, reduceIte]
            · have hb1 : (pn == size) = false := by rw [beq_eq_false_iff_ne]; exact hn
              refine ⟨_, _, by
                simp only [dx, reduceIte, Nat.reduceLT, Nat.reduceLeDiff, Nat.reduceEqDiff, Nat.reduceAdd, Nat.reduceMul, Nat.reduceSub, Nat.reduceBEq, Int.reduceEq, Int.reduceLT, Int.reduceLE, Int.reduceToNat, reduceCtorEq, sx, fx27, u2, u5, u6, u7, g0, List.length_map, hlt, Int.natCast_nonneg, Int.toNat_natCast, hget, boolV_length, hltt, hb1, hw2]
                rfl, by omega, rfl, ?_, ?_, ?_, ?_⟩
              · simp only [Tr.get_set, Nat.reduceEqDiff, reduceIte, u2]
              · simp only [Tr.get_set, Nat.reduceEqDiff, reduceIte, u5]
              · simp only [Tr.get_set, Nat.reduceEqDiff, reduceIte, u6]
              · simp only [Tr.get_set, Nat.reduceEqDiff, reduceIte]
          · rintro T σ'' ⟨_, rfl, u2, u5, u6, u7⟩
            have hge : ¬ (((us.length : Nat) : Int) < ((us.length : Nat) : Int)) := by omega
            refine ⟨_, _, _, by
              simp only [dx, reduceIte, Nat.reduceLT, Nat.reduceLeDiff, Nat.reduceEqDiff, Nat.reduceAdd, Nat.reduceMul, Nat.reduceSub, Nat.reduceBEq, Int.reduceEq, Int.reduceLT, Int.reduceLE, Int.reduceToNat, reduceCtorEq, sx, fx27, u2, u6, u7, g0, List.length_map, hlt, Int.natCast_nonneg, Int.toNat_natCast, hget, boolV_length, hge]
              rfl, by simp, rfl, rfl, ?_, ?_, ?_⟩
            · simp only [Tr.get_set, Nat.reduceEqDiff, reduceIte, u2]
            · simp only [Tr.get_set, Nat.reduceEqDiff, reduceIte, u5]
            · simp only [Tr.get_set, Nat.reduceEqDiff, reduceIte, u6]
          · refine ⟨Nat.zero_le _, rfl, ?_, ?_, ?_, ?_⟩
            · simp only [Tr.get_set, Nat.reduceEqDiff, reduceIte, t2]
            · simp only [Tr.get_set, Nat.reduceEqDiff, reduceIte, t5]
            · simp only [Tr.get_set, Nat.reduceEqDiff, reduceIte, t6]
            · simp only [Tr.get_set, Nat.reduceEqDiff, reduceIte]; rfl
        refine ⟨_, _, by
          simp only [dx, reduceIte, Nat.reduceLT, Nat.reduceLeDiff, Nat.reduceEqDiff, Nat.reduceAdd, Nat.reduceMul, Nat.reduceSub, Nat.reduceBEq, Int.reduceEq, Int.reduceLT, Int.reduceLE, Int.reduceToNat, reduceCtorEq, sx, fx27, u6, hw']
          rfl, by omega, hs2, ?_, ?_, ?_⟩
        · simp only [Tr.get_set, Nat.reduceEqDiff, reduceIte, u2]
        · simp only [Tr.get_set, Nat.reduceEqDiff, reduceIte, u5]
        · simp only [Tr.get_set, Nat.reduceEqDiff, reduceIte]
      · rintro T σ' ⟨_, rfl, t2, t5, t6⟩
        have hge : ¬ (((l.length : Nat) : Int) < ((l.length : Nat) : Int)) := by omega
        exact ⟨_, _, _, by
          simp only [dx, reduceIte, Nat.reduceLT, Nat.reduceLeDiff, Nat.reduceEqDiff, Nat.reduceAdd, Nat.reduceMul, Nat.reduceSub, Nat.reduceBEq, Int.reduceEq, Int.reduceLT, Int.reduceLE, Int.reduceToNat, reduceCtorEq, sx, fx27, t2, t6, g0, List.length_map, hge]
          rfl, by simp, rfl⟩
      · refine ⟨Nat.zero_le _, rfl, ?_, ?_, ?_⟩
        · simp only [Tr.get_set, Nat.reduceEqDiff, reduceIte, t2]
        · simp only [Tr.get_set, Nat.reduceEqDiff, reduceIte, t5]
        · simp only [Tr.get_set, Nat.reduceEqDiff, reduceIte]; rfl
    simp only [dx, reduceIte, Nat.reduceLT, Nat.reduceLeDiff, Nat.reduceEqDiff, Nat.reduceAdd, Nat.reduceMul, Nat.reduceSub, Nat.reduceBEq, Int.reduceEq, Int.reduceLT, Int.reduceLE, Int.reduceToNat, reduceCtorEq, sx, fx27]
    exact ⟨_, _, rfl, by simp only [Tr.get_set, Nat.reduceEqDiff, reduceIte]⟩
  obtain ⟨T1, σ1, r1, r2⟩ := run
  exact pureCall_of (args' := [hpV kp kw l ws, .int .i64 (n : Nat)]) (seen := [] ++ ([] ++ [])) rfl (memo27 _) (pureRun_of fn27 rfl (by simp [Try.f27]) r1 (by simp) (res_one r2) rfl)
end Go.Proofs.Ytjkfdiglokkceaa

/- HeapRoom: the run. -/
set_option maxRecDepth 100000
set_option linter.unusedSimpArgs false
set_option linter.unusedVariables false
namespace Go.Proofs.Ytjkfdiglokkceaa
open Go Go.Proofs.Ytjkfdiglokkceaa.Pale
variable {k : Nat} {σ : AMem}

set_option maxHeartbeats 4000000 in
theorem room_run {v : AVal} {ps : List Pg} {ws : List Int} {z : Int} (hv : VH v ps ws) (hz : 0 ≤ z ∧ z ≤ 65535) (hk : 12000 ≤ k) : ∃ σ', callN lawProg (k + 1) (.func 4 [] []) [v, .int .u16 z] AMem.empty = some (.bool true, σ') := by
  obtain ⟨X0, Y0, rfl, hX0, hY0⟩ := hv.cells
  obtain ⟨tb, hthin, hbd⟩ := thin_vh (k := k) hv (by omega)
  have haw := fun (σ : AMem) => awake_call (σ := σ) (callN lawProg k)
  have run : ∃ T1 σ', execC lawProg (callN lawProg k) k 4 152 (bodyOf Try.f4) (initT 0 [.agg [X0, Y0], .int .u16 z] .nil) AMem.empty = some (.ret, T1, σ') ∧ T1.get 4 = some (.bool true) := by
    cases tb with
    | false =>
      simp only [bodyOf, Try.f4, Option.getD_some, initT, dx, reduceIte, Nat.reduceLT, Nat.reduceLeDiff, Nat.reduceEqDiff, Nat.reduceAdd, Nat.reduceMul, Nat.reduceSub, Nat.reduceBEq, Int.reduceEq, Int.reduceLT, Int.reduceLE, Int.reduceToNat, reduceCtorEq, sx, fx4, hX0, hY0, hthin, haw]
      exact ⟨_, _, rfl, by simp only [Tr.get_set, Nat.reduceEqDiff, reduceIte]⟩
    | true =>
      obtain ⟨hb, _, _⟩ := hbd rfl
      have hri := isRight_vh (k := k) hv hb (by omega)
      cases hrb : rightB ps ws with
      | false =>
        rw [hrb] at hri
        simp only [bodyOf, Try.f4, Option.getD_some, initT, dx, reduceIte, Nat.reduceLT, Nat.reduceLeDiff, Nat.reduceEqDiff, Nat.reduceAdd, Nat.reduceMul, Nat.reduceSub, Nat.reduceBEq, Int.reduceEq, Int.reduceLT, Int.reduceLE, Int.reduceToNat, reduceCtorEq, sx, fx4, hX0, hY0, hthin, hri, haw]
        exact ⟨_, _, rfl, by simp only [Tr.get_set, Nat.reduceEqDiff, reduceIte]⟩
      | true =>
        rw [hrb] at hri
        have hright := rightB_iff.1 hrb
        have hmany := hright.many
        obtain ⟨zn, rfl⟩ : ∃ m : Nat, z = (m : Nat) := ⟨z.toNat, by omega⟩
        obtain ⟨n, hn⟩ : ∃ n, n = zn % 700 + 1 := ⟨_, rfl⟩
        have hn1 : 1 ≤ n ∧ n ≤ 700 := by omega
        have w0 : IntKind.i64.wrap ((zn : Nat) : Int) = ((zn : Nat) : Int) := i64_id (by omega) (by omega)
        have w1 : ((zn : Nat) : Int).tmod 700 = ((zn % 700 : Nat) : Int) := rfl
        have w2 : IntKind.i64.wrap (((zn % 700 : Nat) : Int) + 1) = ((n : Nat) : Int) := by rw [i64_id (by omega) (by omega)]; omega
        have h700 : ¬ (700 : Int) = 0 := by omega
        obtain ⟨v1, hc1, hv1⟩ := Copy_call (k := k) hv hb (by omega)
        have hsp := fun (σ : AMem) => Space_call (k := k) (σ := σ) hv1 hb (by omega)
        have hsh : spaceH ps ws = (sumB (blocksL ps), greatL ps, 0) := by unfold spaceH; rw [hrb]; rfl
        rw [hsh] at hsp
        simp only at hsp
        obtain ⟨v2, hc2, hv2⟩ := Alloc_call (k := k) (n : Nat) hv1 hb (by omega)
        obtain ⟨X2, Y2, rfl, hX2, hY2⟩ := hv2.cells
        have z0 : ((0 : Int) != 0) = false := rfl
        have z00 : ((0 : Int) == 0) = true := rfl
        have w3 : IntKind.i64.wrap (((n : Nat) : Int) + 64) = ((n + 64 : Nat) : Int) := by rw [i64_id (by omega) (by omega)]; omega
        cases hal : allocL ps (n : Nat) with
        | none =>
          have hres : allocH ps ws (n : Nat) = ⟨[], [], 0, 8⟩ := by unfold allocH; rw [hrb, if_pos rfl, if_pos (by omega), hal]
          rw [hres] at hc2
          simp only at hc2
          obtain ⟨hr, hp, hg⟩ := alloc_none hmany (by omega) hal
          obtain ⟨m, hm⟩ : ∃ m, m = (n + 63) / 64 := ⟨_, rfl⟩
          rw [← hm] at hr
          have w4 : IntKind.i64.wrap (((n + 64 : Nat) : Int) - 1) = ((n + 63 : Nat) : Int) := by rw [i64_id (by omega) (by omega)]; omega
          have w5 : IntKind.i64.wrap ((((n + 63 : Nat) : Int)).tdiv 64) = ((m : Nat) : Int) := by
            have : (((n + 63 : Nat) : Int)).tdiv 64 = (((n + 63) / 64 : Nat) : Int) := rfl
            rw [this, ← hm]
            exact i64_id (by omega) (by omega)
          have h64 : ¬ (64 : Int) = 0 := by omega
          obtain ⟨x, hfc, hx⟩ := free_call (k := k) hv hmany.2 (m := m) (by omega) hr (by omega)
          have z8 : ((8 : Int) != 0) = true := rfl
          have z88 : ((8 : Int) == 8) = true := rfl
          have hpos : (((n : Nat) : Int) > 0) := by omega
          have hgb : (greatL ps != ((n : Nat) : Int)) = true := by rw [bne_iff_ne]; exact hg
          by_cases h32 : n ≤ 32
          · have hrc := fun (σ : AMem) => room_call (k := k) (σ := σ) hv hright (by omega) h32 (hp h32) (by omega)
            have hg32 : ¬ (((n : Nat) : Int) > 32) := by omega
            simp only [bodyOf, Try.f4, Option.getD_some, initT, dx, reduceIte, Nat.reduceLT, Nat.reduceLeDiff, Nat.reduceEqDiff, Nat.reduceAdd, Nat.reduceMul, Nat.reduceSub, Nat.reduceBEq, Int.reduceEq, Int.reduceLT, Int.reduceLE, Int.reduceToNat, reduceCtorEq, sx, fx4, hX0, hY0, hthin, hri, haw, w0, w1, w2, h700, hc1, hsp, hc2, hX2, hY2, z0, z8, w3, w4, w5, h64, z88, hpos, hfc, hx, hg32, hrc, hgb]
            exact ⟨_, _, rfl, by simp only [Tr.get_set, Nat.reduceEqDiff, reduceIte]⟩
          · have hg32 : (((n : Nat) : Int) > 32) := by omega
            simp only [bodyOf, Try.f4, Option.getD_some, initT, dx, reduceIte, Nat.reduceLT, Nat.reduceLeDiff, Nat.reduceEqDiff, Nat.reduceAdd, Nat.reduceMul, Nat.reduceSub, Nat.reduceBEq, Int.reduceEq, Int.reduceLT, Int.reduceLE, Int.reduceToNat, reduceCtorEq, sx, fx4, hX0, hY0, hthin, hri, haw, w0, w1, w2, h700, hc1, hsp, hc2, hX2, hY2, z0, z8, w3, w4, w5, h64, z88, hpos, hfc, hx, hg32, hgb]
            exact ⟨_, _, rfl, by simp only [Tr.get_set, Nat.reduceEqDiff, reduceIte]⟩
        | some x =>
          obtain ⟨qs, b⟩ := x
          obtain ⟨hq, hfd, hfl, hcl⟩ := back_law hright (by omega) hal
          have hres : allocH ps ws (n : Nat) = ⟨qs, ws, b.at_, 0⟩ := by unfold allocH; rw [hrb, if_pos rfl, if_pos (by omega), hal]
          rw [hres] at hc2 hv2
          simp only at hc2 hv2
          have hbq := right_bd hq
          have hrq := rightB_true hq
          obtain ⟨s1, s2, s3⟩ := alloc_some hright.shape hmany (by omega) hal
          obtain ⟨v3, hc3, hv3⟩ := Copy_call (k := k) hv2 hbq (by omega)
          have hsz := fun (σ : AMem) => Size_call (k := k) (σ := σ) b.at_ hv3 hbq (by omega)
          have hask : askH qs ws b.at_ = (b.size, 0) := by unfold askH; rw [hrq, if_pos rfl, hfd]
          rw [hask] at hsz
          simp only at hsz
          have hsp3 := fun (σ : AMem) => Space_call (k := k) (σ := σ) hv3 hbq (by omega)
          have hsh3 : spaceH qs ws = (sumB (blocksL ps) + b.size, greatL qs, 0) := by unfold spaceH; rw [hrq, if_pos rfl, sumB_alloc hright.shape (by omega) hal]
          rw [hsh3] at hsp3
          simp only at hsp3
          have hbs : b.size ≤ 2560 := by
            have := blk_sizes hq.shape hq.many.2 b (findL_some hfd).1
            omega
          have hsb := sumB_bound (l := blocksL ps) (blk_sizes hright.shape hmany.2)
          have hcnt := blocks_count hright.shape hmany.2
          obtain ⟨s, hs⟩ : ∃ s, s = b.size := ⟨_, rfl⟩
          rw [← hs] at s1 s3 hsz hsp3 hbs
          have w6 : IntKind.i64.wrap (sumB (blocksL ps) + s) = sumB (blocksL ps) + s := i64_id (by omega) (by omega)
          have w7 : IntKind.i64.wrap (2 * ((n : Nat) : Int)) = 2 * ((n : Nat) : Int) := i64_id (by omega) (by omega)
          have q1 : ((sumB (blocksL ps) + s) == (sumB (blocksL ps) + s)) = true := beq_self_eq_true _
          have q2 : (s ≥ ((n : Nat) : Int)) := s1
          have q3 : (greatL ps ≥ ((n : Nat) : Int)) := s2
          rcases s3 with ⟨a1, a2⟩ | ⟨a1, a2⟩
          · have n32 : ¬ (s > 32) := by omega
            by_cases a3 : s < 2 * ((n : Nat) : Int)
            · simp only [bodyOf, Try.f4, Option.getD_some, initT, dx, reduceIte, Nat.reduceLT, Nat.reduceLeDiff, Nat.reduceEqDiff, Nat.reduceAdd, Nat.reduceMul, Nat.reduceSub, Nat.reduceBEq, Int.reduceEq, Int.reduceLT, Int.reduceLE, Int.reduceToNat, reduceCtorEq, sx, fx4, hX0, hY0, hthin, hri, haw, w0, w1, w2, h700, hc1, hsp, hc2, hX2, hY2, z0, z00, w3, hc3, hsz, hsp3, a1, n32, a3, w6, w7, q1, q2, q3]
              exact ⟨_, _, rfl, by simp only [Tr.get_set, Nat.reduceEqDiff, reduceIte]⟩
            · have a4 : (s == 2) = true := by rw [beq_iff_eq]; omega
              simp only [bodyOf, Try.f4, Option.getD_some, initT, dx, reduceIte, Nat.reduceLT, Nat.reduceLeDiff, Nat.reduceEqDiff, Nat.reduceAdd, Nat.reduceMul, Nat.reduceSub, Nat.reduceBEq, Int.reduceEq, Int.reduceLT, Int.reduceLE, Int.reduceToNat, reduceCtorEq, sx, fx4, hX0, hY0, hthin, hri, haw, w0, w1, w2, h700, hc1, hsp, hc2, hX2, hY2, z0, z00, w3, hc3, hsz, hsp3, a1, n32, a3, a4, w6, w7, q1, q2, q3]
              exact ⟨_, _, rfl, by simp only [Tr.get_set, Nat.reduceEqDiff, reduceIte]⟩
          · have n32 : ¬ (s ≤ 32) := by omega
            have a3 : s < ((n + 64 : Nat) : Int) := by omega
            simp only [bodyOf, Try.f4, Option.getD_some, initT, dx, reduceIte, Nat.reduceLT, Nat.reduceLeDiff, Nat.reduceEqDiff, Nat.reduceAdd, Nat.reduceMul, Nat.reduceSub, Nat.reduceBEq, Int.reduceEq, Int.reduceLT, Int.reduceLE, Int.reduceToNat, reduceCtorEq, sx, fx4, hX0, hY0, hthin, hri, haw, w0, w1, w2, h700, hc1, hsp, hc2, hX2, hY2, z0, z00, w3, hc3, hsz, hsp3, a1, n32, a3, w6, w7, q1, q2, q3]
            exact ⟨_, _, rfl, by simp only [Tr.get_set, Nat.reduceEqDiff, reduceIte]⟩
  obtain ⟨T1, σ', h1, h2⟩ := run
  exact ⟨σ', q_call (first := []) (caps := []) fn4 rfl (by simp [Try.f4]) h1 (by simp) (res_one h2)⟩
end Go.Proofs.Ytjkfdiglokkceaa

