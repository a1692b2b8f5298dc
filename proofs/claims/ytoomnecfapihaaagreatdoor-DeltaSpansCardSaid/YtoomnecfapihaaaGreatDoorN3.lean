/- Lists of spans: IsList, SameSpans and of. -/
import Derived.Test.YtoomnecfapihaaaGreatDoorN2
set_option maxRecDepth 100000
set_option linter.unusedSimpArgs false
set_option linter.unusedVariables false
namespace Go.Proofs.YtoomnecfapihaaaGreatDoor
open Go Go.Proofs.YtoomnecfapihaaaGreatDoor.Pale
variable {k : Nat} {σ : AMem}

noncomputable def okB (l : List Sp) : Bool := @decide (OkSp l) (Classical.propDecidable _)
theorem okB_iff {l : List Sp} : okB l = true ↔ OkSp l := by unfold okB; simp
theorem okB_true {l : List Sp} (h : OkSp l) : okB l = true := okB_iff.2 h
theorem okB_false {l : List Sp} (h : ¬ OkSp l) : okB l = false := by rw [Bool.eq_false_iff]; exact fun e => h (okB_iff.1 e)
theorem ok_bad {l : List Sp} {i : Nat} (hi : i < l.length) (ok : OkSp (l.take i)) (h : ¬ (okS l[i] ∧ lastTo (l.take i) + 2 ≤ (l[i]).1)) : ¬ OkSp l := by
  intro hok
  have := ok_take hok (i + 1)
  rw [List.take_succ_eq_append_getElem hi] at this
  exact h ((ok_last ok _).1 this)

theorem isList_call {x : AVal} {S : List Nat} {vk : VK} {l : List Sp} (hx : snapF false σ snapDepth x = some (.vs vk (spansV l), S)) (hn : l.length ≤ 1000) (hk : 2000 ≤ k) : pureCall lawProg (callN lawProg k) (.func 11 [] []) [x] σ = some (.bool (okB l), σ) := by
  obtain ⟨k, rfl⟩ : ∃ m, k = m + 1 := ⟨k - 1, by omega⟩
  have run : ∃ T1 σ1, execC lawProg (callN lawProg k) k 11 46 (bodyOf Tryz.f11) (initT 0 [.vs vk (spansV l)] .nil) AMem.empty = some (.ret, T1, σ1) ∧ T1.get 2 = some (.bool (okB l)) := by
    simp only [bodyOf, Tryz.f11, Option.getD_some, initT, runOps, runD, again, step1, wantA, opSem, evalO, evalL, evalOpt, evalParts, putA, ofConst, ofScalar, ofScalars, abin, abinInt, aun, convA, builtinA, oneTy, elemTy, loadA, storeA, storeCellsA, setAt, partA, fillA, placesA, isFn, TyI.isAgg, isSeq, isNum, sliceA, boundA, setParams, minL, minF, maxL, maxF, repZ, reduceIte, Nat.reduceLT, Nat.reduceLeDiff, Nat.reduceEqDiff, Nat.reduceAdd, Nat.reduceMul, Nat.reduceSub, Nat.reduceBEq, Int.reduceEq, Int.reduceLT, Int.reduceLE, Int.reduceToNat, reduceCtorEq, sx, fx11]
    generalize hL : execC _ _ _ _ _ (Code.loop _) _ _ = q
    obtain ⟨e, T', σ', rfl, _, hc⟩ : ∃ e T' σ', q = some (e, T', σ') ∧ e ≠ .normal ∧ ((e = .ret ∧ T'.get 2 = some (.bool (okB l))) ∨ (e = .exit 0 ∧ OkSp l)) := by
      rw [← hL]
      refine exec_loop2 (fun i T σ => i ≤ l.length ∧ T.get 0 = some (.vs vk (spansV l)) ∧ T.get 3 = some (.int .i64 (lastTo (l.take i))) ∧ T.get 4 = some (.int .i64 (i : Nat)) ∧ OkSp (l.take i)) l.length (by omega) ?_ ?_ ?_
      · rintro i hi T σ ⟨_, t0, t3, t4, ok⟩
        have hlt : (i : Int) < l.length := by omega
        have hw := i64_succ (i := i) (by omega)
        have hb := lastTo_bound ok
        have hbad := ok_bad hi ok
        have hgood := (ok_last ok l[i]).2
        have hlast := lastTo_snoc (l.take i) l[i]
        have hget := spansV_get hi
        rw [← List.take_succ_eq_append_getElem hi] at hgood hlast
        obtain ⟨at_, hat⟩ : ∃ a, a = lastTo (l.take i) := ⟨_, rfl⟩
        rw [← hat] at t3 hb hbad hgood
        have hwa : IntKind.i64.wrap (at_ + 2) = at_ + 2 := i64_id (by omega) (by omega)
        unfold okS at hbad hgood
        generalize hs : l[i] = s at hbad hgood hlast hget
        obtain ⟨f, t⟩ := s
        simp only at hbad hgood hlast hget
        have c0 : (if at_ + 2 > 1 then at_ + 2 else 1) = (if at_ + 2 > 1 then at_ + 2 else (1 : Int)) := rfl
        obtain ⟨m, hm⟩ : ∃ m, m = (if at_ + 2 > 1 then at_ + 2 else (1 : Int)) := ⟨_, rfl⟩
        have hm2 : m = at_ + 2 ∧ 1 ≤ m := by rw [hm]; split <;> omega
        by_cases c1 : f < m
        · refine .inr ⟨_, _, _, by
            simp only [runOps, runD, again, step1, wantA, opSem, evalO, evalL, evalOpt, evalParts, putA, ofConst, ofScalar, ofScalars, abin, abinInt, aun, convA, builtinA, oneTy, elemTy, loadA, storeA, storeCellsA, setAt, partA, fillA, placesA, isFn, TyI.isAgg, isSeq, isNum, sliceA, boundA, setParams, minL, minF, maxL, maxF, repZ, reduceIte, Nat.reduceLT, Nat.reduceLeDiff, Nat.reduceEqDiff, Nat.reduceAdd, Nat.reduceMul, Nat.reduceSub, Nat.reduceBEq, Int.reduceEq, Int.reduceLT, Int.reduceLE, Int.reduceToNat, reduceCtorEq, sx, fx11, t0, t3, t4, hlt, spansV_length, Int.natCast_nonneg, Int.toNat_natCast, hget, hwa, ← hm, c1]
            rfl, by simp, .inl ⟨rfl, ?_⟩⟩
          rw [okB_false (hbad (by omega))]
          simp only [Tr.get_set, Nat.reduceEqDiff, reduceIte]
        · by_cases c2 : t < f
          · refine .inr ⟨_, _, _, by
              simp only [runOps, runD, again, step1, wantA, opSem, evalO, evalL, evalOpt, evalParts, putA, ofConst, ofScalar, ofScalars, abin, abinInt, aun, convA, builtinA, oneTy, elemTy, loadA, storeA, storeCellsA, setAt, partA, fillA, placesA, isFn, TyI.isAgg, isSeq, isNum, sliceA, boundA, setParams, minL, minF, maxL, maxF, repZ, reduceIte, Nat.reduceLT, Nat.reduceLeDiff, Nat.reduceEqDiff, Nat.reduceAdd, Nat.reduceMul, Nat.reduceSub, Nat.reduceBEq, Int.reduceEq, Int.reduceLT, Int.reduceLE, Int.reduceToNat, reduceCtorEq, sx, fx11, t0, t3, t4, hlt, spansV_length, Int.natCast_nonneg, Int.toNat_natCast, hget, hwa, ← hm, c1, c2]
              rfl, by simp, .inl ⟨rfl, ?_⟩⟩
            rw [okB_false (hbad (by omega))]
            simp only [Tr.get_set, Nat.reduceEqDiff, reduceIte]
          · by_cases c3 : t > 60
            · refine .inr ⟨_, _, _, by
                simp only [runOps, runD, again, step1, wantA, opSem, evalO, evalL, evalOpt, evalParts, putA, ofConst, ofScalar, ofScalars, abin, abinInt, aun, convA, builtinA, oneTy, elemTy, loadA, storeA, storeCellsA, setAt, partA, fillA, placesA, isFn, TyI.isAgg, isSeq, isNum, sliceA, boundA, setParams, minL, minF, maxL, maxF, repZ, reduceIte, Nat.reduceLT, Nat.reduceLeDiff, Nat.reduceEqDiff, Nat.reduceAdd, Nat.reduceMul, Nat.reduceSub, Nat.reduceBEq, Int.reduceEq, Int.reduceLT, Int.reduceLE, Int.reduceToNat, reduceCtorEq, sx, fx11, t0, t3, t4, hlt, spansV_length, Int.natCast_nonneg, Int.toNat_natCast, hget, hwa, ← hm, c1, c2, c3]
                rfl, by simp, .inl ⟨rfl, ?_⟩⟩
              rw [okB_false (hbad (by omega))]
              simp only [Tr.get_set, Nat.reduceEqDiff, reduceIte]
            · refine .inl ⟨_, _, by
                simp only [runOps, runD, again, step1, wantA, opSem, evalO, evalL, evalOpt, evalParts, putA, ofConst, ofScalar, ofScalars, abin, abinInt, aun, convA, builtinA, oneTy, elemTy, loadA, storeA, storeCellsA, setAt, partA, fillA, placesA, isFn, TyI.isAgg, isSeq, isNum, sliceA, boundA, setParams, minL, minF, maxL, maxF, repZ, reduceIte, Nat.reduceLT, Nat.reduceLeDiff, Nat.reduceEqDiff, Nat.reduceAdd, Nat.reduceMul, Nat.reduceSub, Nat.reduceBEq, Int.reduceEq, Int.reduceLT, Int.reduceLE, Int.reduceToNat, reduceCtorEq, sx, fx11, t0, t3, t4, hlt, spansV_length, Int.natCast_nonneg, Int.toNat_natCast, hget, hwa, ← hm, c1, c2, c3, hw]
                rfl, by omega, ?_, ?_, ?_, hgood (by omega)⟩
              · simp only [Tr.get_set, Nat.reduceEqDiff, reduceIte, t0]
              · simp only [Tr.get_set, Nat.reduceEqDiff, reduceIte, hlast]
              · simp only [Tr.get_set, Nat.reduceEqDiff, reduceIte]
      · rintro T σ ⟨_, t0, t3, t4, ok⟩
        have hge : ¬ (((l.length : Nat) : Int) < ((l.length : Nat) : Int)) := by omega
        refine ⟨_, _, _, by
          simp only [runOps, runD, again, step1, wantA, opSem, evalO, evalL, evalOpt, evalParts, putA, ofConst, ofScalar, ofScalars, abin, abinInt, aun, convA, builtinA, oneTy, elemTy, loadA, storeA, storeCellsA, setAt, partA, fillA, placesA, isFn, TyI.isAgg, isSeq, isNum, sliceA, boundA, setParams, minL, minF, maxL, maxF, repZ, reduceIte, Nat.reduceLT, Nat.reduceLeDiff, Nat.reduceEqDiff, Nat.reduceAdd, Nat.reduceMul, Nat.reduceSub, Nat.reduceBEq, Int.reduceEq, Int.reduceLT, Int.reduceLE, Int.reduceToNat, reduceCtorEq, sx, fx11, t0, t4, spansV_length, hge]
          rfl, by simp, .inr ⟨rfl, ?_⟩⟩
        rw [List.take_length] at ok
        exact ok
      · refine ⟨Nat.zero_le _, ?_, ?_, ?_, OkSp.nil⟩
        · simp only [Tr.get_set, Nat.reduceEqDiff, reduceIte]
        · simp only [Tr.get_set, Nat.reduceEqDiff, reduceIte]; rfl
        · simp only [Tr.get_set, Nat.reduceEqDiff, reduceIte]; rfl
    rcases hc with ⟨rfl, h2⟩ | ⟨rfl, ok⟩
    · simp only [runOps, runD, again, step1, wantA, opSem, evalO, evalL, evalOpt, evalParts, putA, ofConst, ofScalar, ofScalars, abin, abinInt, aun, convA, builtinA, oneTy, elemTy, loadA, storeA, storeCellsA, setAt, partA, fillA, placesA, isFn, TyI.isAgg, isSeq, isNum, sliceA, boundA, setParams, minL, minF, maxL, maxF, repZ, reduceIte, Nat.reduceLT, Nat.reduceLeDiff, Nat.reduceEqDiff, Nat.reduceAdd, Nat.reduceMul, Nat.reduceSub, Nat.reduceBEq, Int.reduceEq, Int.reduceLT, Int.reduceLE, Int.reduceToNat, reduceCtorEq, sx, fx11]
      exact ⟨_, _, rfl, h2⟩
    · simp only [runOps, runD, again, step1, wantA, opSem, evalO, evalL, evalOpt, evalParts, putA, ofConst, ofScalar, ofScalars, abin, abinInt, aun, convA, builtinA, oneTy, elemTy, loadA, storeA, storeCellsA, setAt, partA, fillA, placesA, isFn, TyI.isAgg, isSeq, isNum, sliceA, boundA, setParams, minL, minF, maxL, maxF, repZ, reduceIte, Nat.reduceLT, Nat.reduceLeDiff, Nat.reduceEqDiff, Nat.reduceAdd, Nat.reduceMul, Nat.reduceSub, Nat.reduceBEq, Int.reduceEq, Int.reduceLT, Int.reduceLE, Int.reduceToNat, reduceCtorEq, sx, fx11]
      exact ⟨_, _, rfl, by rw [okB_true ok]; simp only [Tr.get_set, Nat.reduceEqDiff, reduceIte]⟩
  obtain ⟨T1, σ1, h1, h2⟩ := run
  have hs : snapL (snapF false σ snapDepth) [x] = some ([.vs vk (spansV l)], S ++ []) := by
    simp only [snapL, hx]
  exact pureCall_of hs (memo11 _) (pureRun_of fn11 rfl (by simp [Tryz.f11]) h1 (by simp) (res_one h2) rfl)

/-! ### lists that are the same -/
theorem eqSp : eqTy lawProg 64 = some default := by kernel_rfl
theorem take_same {a b : List Sp} {i : Nat} (hl : a.length = b.length) (hi : i < a.length) (h : a.take i = b.take i) (hx : a[i] = b[i]'(by omega)) : a.take (i + 1) = b.take (i + 1) := by
  rw [List.take_succ_eq_append_getElem hi, List.take_succ_eq_append_getElem (by omega), h, hx]
theorem sameSpans_call {x y : AVal} {S S2 : List Nat} {ka kb : VK} {a b : List Sp} (hx : snapF false σ snapDepth x = some (.vs ka (spansV a), S)) (hy : snapF false σ snapDepth y = some (.vs kb (spansV b), S2)) (hn : a.length ≤ 1000) (hk : 2000 ≤ k) : pureCall lawProg (callN lawProg k) (.func 10 [] []) [x, y] σ = some (.bool (decide (a = b)), σ) := by
  obtain ⟨k, rfl⟩ : ∃ m, k = m + 1 := ⟨k - 1, by omega⟩
  have run : ∃ T1 σ1, execC lawProg (callN lawProg k) k 10 26 (bodyOf Tryz.f10) (initT 0 [.vs ka (spansV a), .vs kb (spansV b)] .nil) AMem.empty = some (.ret, T1, σ1) ∧ T1.get 4 = some (.bool (decide (a = b))) := by
    by_cases hlen : a.length = b.length
    · have hne : (((a.length : Nat) : Int) != ((b.length : Nat) : Int)) = false := by rw [hlen]; exact bne_self_eq_false _
      simp only [bodyOf, Tryz.f10, Option.getD_some, initT, runOps, runD, again, step1, wantA, opSem, evalO, evalL, evalOpt, evalParts, putA, ofConst, ofScalar, ofScalars, abin, abinInt, aun, convA, builtinA, oneTy, elemTy, loadA, storeA, storeCellsA, setAt, partA, fillA, placesA, isFn, TyI.isAgg, isSeq, isNum, sliceA, boundA, setParams, minL, minF, maxL, maxF, repZ, reduceIte, Nat.reduceLT, Nat.reduceLeDiff, Nat.reduceEqDiff, Nat.reduceAdd, Nat.reduceMul, Nat.reduceSub, Nat.reduceBEq, Int.reduceEq, Int.reduceLT, Int.reduceLE, Int.reduceToNat, reduceCtorEq, sx, fx10, spansV_length, hne]
      generalize hL : execC _ _ _ _ _ (Code.loop _) _ _ = q
      obtain ⟨e, T', σ', rfl, _, hc⟩ : ∃ e T' σ', q = some (e, T', σ') ∧ e ≠ .normal ∧ ((e = .ret ∧ T'.get 4 = some (.bool (decide (a = b)))) ∨ (e = .exit 0 ∧ a = b)) := by
        rw [← hL]
        refine exec_loop2 (fun i T σ => i ≤ a.length ∧ T.get 0 = some (.vs ka (spansV a)) ∧ T.get 1 = some (.vs kb (spansV b)) ∧ T.get 5 = some (.int .i64 (i : Nat)) ∧ a.take i = b.take i) a.length (by omega) ?_ ?_ ?_
        · rintro i hi T σ ⟨_, t0, t1, t5, same⟩
          have hlt : (i : Int) < a.length := by omega
          have hw := i64_succ (i := i) (by omega)
          have hib : i < b.length := by omega
          have g1 := spansV_get hi
          have g2 := spansV_get hib
          by_cases e1 : (a[i]).1 = (b[i]).1
          · by_cases e2 : (a[i]).2 = (b[i]).2
            · have f1 : (((a[i]).1 == (b[i]).1) && (((a[i]).2 == (b[i]).2) && true)) = true := by rw [e1, e2]; simp
              refine .inl ⟨_, _, by
                simp only [runOps, runD, again, step1, wantA, opSem, evalO, evalL, evalOpt, evalParts, putA, ofConst, ofScalar, ofScalars, abin, abinInt, aun, convA, builtinA, oneTy, elemTy, loadA, storeA, storeCellsA, setAt, partA, fillA, placesA, isFn, TyI.isAgg, isSeq, isNum, sliceA, boundA, setParams, minL, minF, maxL, maxF, repZ, reduceIte, Nat.reduceLT, Nat.reduceLeDiff, Nat.reduceEqDiff, Nat.reduceAdd, Nat.reduceMul, Nat.reduceSub, Nat.reduceBEq, Int.reduceEq, Int.reduceLT, Int.reduceLE, Int.reduceToNat, reduceCtorEq, sx, fx10, aeq, eqInts, eqSp, eqAggI, t0, t1, t5, hlt, spansV_length, Int.natCast_nonneg, Int.toNat_natCast, g1, g2, e1, e2, hw]
                rfl, by omega, ?_, ?_, ?_, take_same hlen hi same (Prod.ext e1 e2)⟩
              · simp only [Tr.get_set, Nat.reduceEqDiff, reduceIte, t0]
              · simp only [Tr.get_set, Nat.reduceEqDiff, reduceIte, t1]
              · simp only [Tr.get_set, Nat.reduceEqDiff, reduceIte]
            · have f2 : ((a[i]).2 == (b[i]).2) = false := by rw [beq_eq_false_iff_ne]; exact e2
              refine .inr ⟨_, _, _, by
                simp only [runOps, runD, again, step1, wantA, opSem, evalO, evalL, evalOpt, evalParts, putA, ofConst, ofScalar, ofScalars, abin, abinInt, aun, convA, builtinA, oneTy, elemTy, loadA, storeA, storeCellsA, setAt, partA, fillA, placesA, isFn, TyI.isAgg, isSeq, isNum, sliceA, boundA, setParams, minL, minF, maxL, maxF, repZ, reduceIte, Nat.reduceLT, Nat.reduceLeDiff, Nat.reduceEqDiff, Nat.reduceAdd, Nat.reduceMul, Nat.reduceSub, Nat.reduceBEq, Int.reduceEq, Int.reduceLT, Int.reduceLE, Int.reduceToNat, reduceCtorEq, sx, fx10, aeq, eqInts, eqSp, eqAggI, t0, t1, t5, hlt, spansV_length, Int.natCast_nonneg, Int.toNat_natCast, g1, g2, e1, f2]
                rfl, by simp, .inl ⟨rfl, ?_⟩⟩
              rw [decide_eq_false (fun h => e2 (by subst h; rfl))]
              simp only [Tr.get_set, Nat.reduceEqDiff, reduceIte]
          · have f1 : ((a[i]).1 == (b[i]).1) = false := by rw [beq_eq_false_iff_ne]; exact e1
            refine .inr ⟨_, _, _, by
              simp only [runOps, runD, again, step1, wantA, opSem, evalO, evalL, evalOpt, evalParts, putA, ofConst, ofScalar, ofScalars, abin, abinInt, aun, convA, builtinA, oneTy, elemTy, loadA, storeA, storeCellsA, setAt, partA, fillA, placesA, isFn, TyI.isAgg, isSeq, isNum, sliceA, boundA, setParams, minL, minF, maxL, maxF, repZ, reduceIte, Nat.reduceLT, Nat.reduceLeDiff, Nat.reduceEqDiff, Nat.reduceAdd, Nat.reduceMul, Nat.reduceSub, Nat.reduceBEq, Int.reduceEq, Int.reduceLT, Int.reduceLE, Int.reduceToNat, reduceCtorEq, sx, fx10, aeq, eqInts, eqSp, eqAggI, t0, t1, t5, hlt, spansV_length, Int.natCast_nonneg, Int.toNat_natCast, g1, g2, f1]
              rfl, by simp, .inl ⟨rfl, ?_⟩⟩
            rw [decide_eq_false (fun h => e1 (by subst h; rfl))]
            simp only [Tr.get_set, Nat.reduceEqDiff, reduceIte]
        · rintro T σ ⟨_, t0, t1, t5, same⟩
          have hge : ¬ (((a.length : Nat) : Int) < ((a.length : Nat) : Int)) := by omega
          refine ⟨_, _, _, by
            simp only [runOps, runD, again, step1, wantA, opSem, evalO, evalL, evalOpt, evalParts, putA, ofConst, ofScalar, ofScalars, abin, abinInt, aun, convA, builtinA, oneTy, elemTy, loadA, storeA, storeCellsA, setAt, partA, fillA, placesA, isFn, TyI.isAgg, isSeq, isNum, sliceA, boundA, setParams, minL, minF, maxL, maxF, repZ, reduceIte, Nat.reduceLT, Nat.reduceLeDiff, Nat.reduceEqDiff, Nat.reduceAdd, Nat.reduceMul, Nat.reduceSub, Nat.reduceBEq, Int.reduceEq, Int.reduceLT, Int.reduceLE, Int.reduceToNat, reduceCtorEq, sx, fx10, t0, t5, spansV_length, hge]
            rfl, by simp, .inr ⟨rfl, ?_⟩⟩
          rw [List.take_length, hlen, List.take_length] at same
          exact same
        · refine ⟨Nat.zero_le _, ?_, ?_, ?_, rfl⟩
          · simp only [Tr.get_set, Nat.reduceEqDiff, reduceIte]
          · simp only [Tr.get_set, Nat.reduceEqDiff, reduceIte]
          · simp only [Tr.get_set, Nat.reduceEqDiff, reduceIte]; rfl
      rcases hc with ⟨rfl, h2⟩ | ⟨rfl, h2⟩
      · simp only [runOps, runD, again, step1, wantA, opSem, evalO, evalL, evalOpt, evalParts, putA, ofConst, ofScalar, ofScalars, abin, abinInt, aun, convA, builtinA, oneTy, elemTy, loadA, storeA, storeCellsA, setAt, partA, fillA, placesA, isFn, TyI.isAgg, isSeq, isNum, sliceA, boundA, setParams, minL, minF, maxL, maxF, repZ, reduceIte, Nat.reduceLT, Nat.reduceLeDiff, Nat.reduceEqDiff, Nat.reduceAdd, Nat.reduceMul, Nat.reduceSub, Nat.reduceBEq, Int.reduceEq, Int.reduceLT, Int.reduceLE, Int.reduceToNat, reduceCtorEq, sx, fx10]
        exact ⟨_, _, rfl, h2⟩
      · simp only [runOps, runD, again, step1, wantA, opSem, evalO, evalL, evalOpt, evalParts, putA, ofConst, ofScalar, ofScalars, abin, abinInt, aun, convA, builtinA, oneTy, elemTy, loadA, storeA, storeCellsA, setAt, partA, fillA, placesA, isFn, TyI.isAgg, isSeq, isNum, sliceA, boundA, setParams, minL, minF, maxL, maxF, repZ, reduceIte, Nat.reduceLT, Nat.reduceLeDiff, Nat.reduceEqDiff, Nat.reduceAdd, Nat.reduceMul, Nat.reduceSub, Nat.reduceBEq, Int.reduceEq, Int.reduceLT, Int.reduceLE, Int.reduceToNat, reduceCtorEq, sx, fx10]
        exact ⟨_, _, rfl, by rw [decide_eq_true h2]; simp only [Tr.get_set, Nat.reduceEqDiff, reduceIte]⟩
    · have hne : (((a.length : Nat) : Int) != ((b.length : Nat) : Int)) = true := by rw [bne_iff_ne]; omega
      simp only [bodyOf, Tryz.f10, Option.getD_some, initT, runOps, runD, again, step1, wantA, opSem, evalO, evalL, evalOpt, evalParts, putA, ofConst, ofScalar, ofScalars, abin, abinInt, aun, convA, builtinA, oneTy, elemTy, loadA, storeA, storeCellsA, setAt, partA, fillA, placesA, isFn, TyI.isAgg, isSeq, isNum, sliceA, boundA, setParams, minL, minF, maxL, maxF, repZ, reduceIte, Nat.reduceLT, Nat.reduceLeDiff, Nat.reduceEqDiff, Nat.reduceAdd, Nat.reduceMul, Nat.reduceSub, Nat.reduceBEq, Int.reduceEq, Int.reduceLT, Int.reduceLE, Int.reduceToNat, reduceCtorEq, sx, fx10, spansV_length, hne]
      rw [decide_eq_false (fun h => hlen (by rw [h]))]
      exact ⟨_, _, rfl, by simp only [Tr.get_set, Nat.reduceEqDiff, reduceIte]⟩
  obtain ⟨T1, σ1, h1, h2⟩ := run
  have hs : snapL (snapF false σ snapDepth) [x, y] = some ([.vs ka (spansV a), .vs kb (spansV b)], S ++ (S2 ++ [])) := by
    simp only [snapL, hx, hy]
  exact pureCall_of hs (memo10 _) (pureRun_of fn10 rfl (by simp [Tryz.f10]) h1 (by simp) (res_one h2) rfl)

/-! ### of -/
def setW (l : List Sp) : BitVec 64 := l.foldl (fun x s => x ||| betW s.1.toNat s.2.toNat) 0#64
theorem setW_snoc (l : List Sp) (s : Sp) : setW (l ++ [s]) = setW l ||| betW s.1.toNat s.2.toNat := by simp [setW]
theorem setW_bit : ∀ n (l : List Sp), l.length = n → OkSp l → ∀ m : Nat, (setW l).getLsbD m = inSp l m := by
  intro n
  induction n with
  | zero =>
    intro l hl _ m
    obtain rfl := List.eq_nil_of_length_eq_zero hl
    simp [setW, inSp]
  | succ n ih =>
    intro l hl ok m
    rcases nil_or_snoc l with rfl | ⟨l, s, rfl⟩
    · simp at hl
    · have hs := ok.1 s (by simp)
      unfold okS at hs
      rw [setW_snoc, inSp_snoc, BitVec.getLsbD_or, ih l (by simpa using hl) (ok_app ok), betW_bit (by omega) (by omega) (by omega)]
      congr 1
      rw [Bool.eq_iff_iff]
      simp only [Bool.and_eq_true, decide_eq_true_eq]
      omega
noncomputable def ofW (l : List Sp) : Nat := if okB l then (setW l).toNat else 0
theorem of_call {x : AVal} {S : List Nat} {vk : VK} {l : List Sp} (hx : snapF false σ snapDepth x = some (.vs vk (spansV l), S)) (hn : l.length ≤ 1000) (hk : 2000 ≤ k) : pureCall lawProg (callN lawProg k) (.func 22 [] []) [x] σ = some (.tuple [.int .u64 (ofW l : Nat), .bool (okB l)], σ) := by
  obtain ⟨k, rfl⟩ : ∃ m, k = m + 1 := ⟨k - 1, by omega⟩
  have run : ∃ T1 σ1, execC lawProg (callN lawProg k) k 22 46 (bodyOf Tryz.f22) (initT 0 [.vs vk (spansV l)] .nil) AMem.empty = some (.ret, T1, σ1) ∧ T1.get 2 = some (.int .u64 (ofW l : Nat)) ∧ T1.get 3 = some (.bool (okB l)) := by
    simp only [bodyOf, Tryz.f22, Option.getD_some, initT, runOps, runD, again, step1, wantA, opSem, evalO, evalL, evalOpt, evalParts, putA, ofConst, ofScalar, ofScalars, abin, abinInt, aun, convA, builtinA, oneTy, elemTy, loadA, storeA, storeCellsA, setAt, partA, fillA, placesA, isFn, TyI.isAgg, isSeq, isNum, sliceA, boundA, setParams, minL, minF, maxL, maxF, repZ, reduceIte, Nat.reduceLT, Nat.reduceLeDiff, Nat.reduceEqDiff, Nat.reduceAdd, Nat.reduceMul, Nat.reduceSub, Nat.reduceBEq, Int.reduceEq, Int.reduceLT, Int.reduceLE, Int.reduceToNat, reduceCtorEq, sx, fx22, spansV_length]
    generalize hL : execC _ _ _ _ _ (Code.loop _) _ _ = q
    obtain ⟨e, T', σ', rfl, _, hc⟩ : ∃ e T' σ', q = some (e, T', σ') ∧ e ≠ .normal ∧ ((e = .ret ∧ T'.get 2 = some (.int .u64 0) ∧ T'.get 3 = some (.bool false) ∧ ¬ OkSp l) ∨ (e = .exit 0 ∧ OkSp l ∧ T'.get 2 = some (.int .u64 ((setW l).toNat : Nat)))) := by
      rw [← hL]
      refine exec_loop2 (fun i T σ => i ≤ l.length ∧ T.get 7 = some (.vs vk (spansV l)) ∧ T.get 8 = some (.int .i64 (l.length : Nat)) ∧ T.get 4 = some (.int .i64 (lastTo (l.take i))) ∧ T.get 9 = some (.int .i64 (i : Nat)) ∧ T.get 2 = some (.int .u64 ((setW (l.take i)).toNat : Nat)) ∧ OkSp (l.take i)) l.length (by omega) ?_ ?_ ?_
      · rintro i hi T σ ⟨_, t7, t8, t4, t9, t2, ok⟩
        have hlt : (i : Int) < l.length := by omega
        have hw := i64_succ (i := i) (by omega)
        have hb := lastTo_bound ok
        have hbad := ok_bad hi ok
        have hgood := (ok_last ok l[i]).2
        have hlast := lastTo_snoc (l.take i) l[i]
        have hset := setW_snoc (l.take i) l[i]
        have hget := spansV_get hi
        rw [← List.take_succ_eq_append_getElem hi] at hgood hlast hset
        obtain ⟨at_, hat⟩ : ∃ a, a = lastTo (l.take i) := ⟨_, rfl⟩
        rw [← hat] at t4 hb hbad hgood
        unfold okS at hbad hgood
        generalize hs : l[i] = s at hbad hgood hlast hget hset
        obtain ⟨f, t⟩ := s
        simp only at hbad hgood hlast hget hset
        by_cases c1 : f < 1
        · refine .inr ⟨_, _, _, by
            simp only [runOps, runD, again, step1, wantA, opSem, evalO, evalL, evalOpt, evalParts, putA, ofConst, ofScalar, ofScalars, abin, abinInt, aun, convA, builtinA, oneTy, elemTy, loadA, storeA, storeCellsA, setAt, partA, fillA, placesA, isFn, TyI.isAgg, isSeq, isNum, sliceA, boundA, setParams, minL, minF, maxL, maxF, repZ, reduceIte, Nat.reduceLT, Nat.reduceLeDiff, Nat.reduceEqDiff, Nat.reduceAdd, Nat.reduceMul, Nat.reduceSub, Nat.reduceBEq, Int.reduceEq, Int.reduceLT, Int.reduceLE, Int.reduceToNat, reduceCtorEq, sx, fx22, t7, t8, t4, t9, t2, hlt, spansV_length, Int.natCast_nonneg, Int.toNat_natCast, hget, c1]
            rfl, by simp, .inl ⟨rfl, ?_, ?_, hbad (by omega)⟩⟩
          · simp only [Tr.get_set, Nat.reduceEqDiff, reduceIte]
          · simp only [Tr.get_set, Nat.reduceEqDiff, reduceIte]
        · by_cases c2 : t < f
          · refine .inr ⟨_, _, _, by
              simp only [runOps, runD, again, step1, wantA, opSem, evalO, evalL, evalOpt, evalParts, putA, ofConst, ofScalar, ofScalars, abin, abinInt, aun, convA, builtinA, oneTy, elemTy, loadA, storeA, storeCellsA, setAt, partA, fillA, placesA, isFn, TyI.isAgg, isSeq, isNum, sliceA, boundA, setParams, minL, minF, maxL, maxF, repZ, reduceIte, Nat.reduceLT, Nat.reduceLeDiff, Nat.reduceEqDiff, Nat.reduceAdd, Nat.reduceMul, Nat.reduceSub, Nat.reduceBEq, Int.reduceEq, Int.reduceLT, Int.reduceLE, Int.reduceToNat, reduceCtorEq, sx, fx22, t7, t8, t4, t9, t2, hlt, spansV_length, Int.natCast_nonneg, Int.toNat_natCast, hget, c1, c2]
              rfl, by simp, .inl ⟨rfl, ?_, ?_, hbad (by omega)⟩⟩
            · simp only [Tr.get_set, Nat.reduceEqDiff, reduceIte]
            · simp only [Tr.get_set, Nat.reduceEqDiff, reduceIte]
          · by_cases c3 : t > 60
            · refine .inr ⟨_, _, _, by
                simp only [runOps, runD, again, step1, wantA, opSem, evalO, evalL, evalOpt, evalParts, putA, ofConst, ofScalar, ofScalars, abin, abinInt, aun, convA, builtinA, oneTy, elemTy, loadA, storeA, storeCellsA, setAt, partA, fillA, placesA, isFn, TyI.isAgg, isSeq, isNum, sliceA, boundA, setParams, minL, minF, maxL, maxF, repZ, reduceIte, Nat.reduceLT, Nat.reduceLeDiff, Nat.reduceEqDiff, Nat.reduceAdd, Nat.reduceMul, Nat.reduceSub, Nat.reduceBEq, Int.reduceEq, Int.reduceLT, Int.reduceLE, Int.reduceToNat, reduceCtorEq, sx, fx22, t7, t8, t4, t9, t2, hlt, spansV_length, Int.natCast_nonneg, Int.toNat_natCast, hget, c1, c2, c3]
                rfl, by simp, .inl ⟨rfl, ?_, ?_, hbad (by omega)⟩⟩
              · simp only [Tr.get_set, Nat.reduceEqDiff, reduceIte]
              · simp only [Tr.get_set, Nat.reduceEqDiff, reduceIte]
            · have hwa : IntKind.i64.wrap (f - at_) = f - at_ := i64_id (by omega) (by omega)
              by_cases c4 : f - at_ < 2
              · refine .inr ⟨_, _, _, by
                  simp only [runOps, runD, again, step1, wantA, opSem, evalO, evalL, evalOpt, evalParts, putA, ofConst, ofScalar, ofScalars, abin, abinInt, aun, convA, builtinA, oneTy, elemTy, loadA, storeA, storeCellsA, setAt, partA, fillA, placesA, isFn, TyI.isAgg, isSeq, isNum, sliceA, boundA, setParams, minL, minF, maxL, maxF, repZ, reduceIte, Nat.reduceLT, Nat.reduceLeDiff, Nat.reduceEqDiff, Nat.reduceAdd, Nat.reduceMul, Nat.reduceSub, Nat.reduceBEq, Int.reduceEq, Int.reduceLT, Int.reduceLE, Int.reduceToNat, reduceCtorEq, sx, fx22, t7, t8, t4, t9, t2, hlt, spansV_length, Int.natCast_nonneg, Int.toNat_natCast, hget, c1, c2, c3, hwa, c4]
                  rfl, by simp, .inl ⟨rfl, ?_, ?_, hbad (by omega)⟩⟩
                · simp only [Tr.get_set, Nat.reduceEqDiff, reduceIte]
                · simp only [Tr.get_set, Nat.reduceEqDiff, reduceIte]
              · have hbt := fun (σ : AMem) => between_call (k := k) (σ := σ) (f := f.toNat) (t := t.toNat) (by omega) (by omega) (by omega) (by omega)
                rw [show ((f.toNat : Nat) : Int) = f by omega, show ((t.toNat : Nat) : Int) = t by omega] at hbt
                refine .inl ⟨_, _, by
                  simp only [runOps, runD, again, step1, wantA, opSem, evalO, evalL, evalOpt, evalParts, putA, ofConst, ofScalar, ofScalars, abin, abinInt, aun, convA, builtinA, oneTy, elemTy, loadA, storeA, storeCellsA, setAt, partA, fillA, placesA, isFn, TyI.isAgg, isSeq, isNum, sliceA, boundA, setParams, minL, minF, maxL, maxF, repZ, reduceIte, Nat.reduceLT, Nat.reduceLeDiff, Nat.reduceEqDiff, Nat.reduceAdd, Nat.reduceMul, Nat.reduceSub, Nat.reduceBEq, Int.reduceEq, Int.reduceLT, Int.reduceLE, Int.reduceToNat, reduceCtorEq, sx, fx22, t7, t8, t4, t9, t2, hlt, spansV_length, Int.natCast_nonneg, Int.toNat_natCast, hget, c1, c2, c3, hwa, c4, hbt, u64_or, hw]
                  rfl, by omega, ?_, ?_, ?_, ?_, ?_, hgood (by omega)⟩
                · simp only [Tr.get_set, Nat.reduceEqDiff, reduceIte, t7]
                · simp only [Tr.get_set, Nat.reduceEqDiff, reduceIte, t8]
                · simp only [Tr.get_set, Nat.reduceEqDiff, reduceIte, hlast]
                · simp only [Tr.get_set, Nat.reduceEqDiff, reduceIte]
                · simp only [Tr.get_set, Nat.reduceEqDiff, reduceIte, hset]
      · rintro T σ ⟨_, t7, t8, t4, t9, t2, ok⟩
        have hge : ¬ (((l.length : Nat) : Int) < ((l.length : Nat) : Int)) := by omega
        rw [List.take_length] at ok t2
        refine ⟨_, _, _, by
          simp only [runOps, runD, again, step1, wantA, opSem, evalO, evalL, evalOpt, evalParts, putA, ofConst, ofScalar, ofScalars, abin, abinInt, aun, convA, builtinA, oneTy, elemTy, loadA, storeA, storeCellsA, setAt, partA, fillA, placesA, isFn, TyI.isAgg, isSeq, isNum, sliceA, boundA, setParams, minL, minF, maxL, maxF, repZ, reduceIte, Nat.reduceLT, Nat.reduceLeDiff, Nat.reduceEqDiff, Nat.reduceAdd, Nat.reduceMul, Nat.reduceSub, Nat.reduceBEq, Int.reduceEq, Int.reduceLT, Int.reduceLE, Int.reduceToNat, reduceCtorEq, sx, fx22, t8, t9, spansV_length, hge]
          rfl, by simp, .inr ⟨rfl, ok, ?_⟩⟩
        simp only [Tr.get_set, Nat.reduceEqDiff, reduceIte, t2]
      · refine ⟨Nat.zero_le _, ?_, ?_, ?_, ?_, ?_, OkSp.nil⟩
        · simp only [Tr.get_set, Nat.reduceEqDiff, reduceIte]
        · simp only [Tr.get_set, Nat.reduceEqDiff, reduceIte]
        · simp only [Tr.get_set, Nat.reduceEqDiff, reduceIte]; rfl
        · simp only [Tr.get_set, Nat.reduceEqDiff, reduceIte]; rfl
        · simp only [Tr.get_set, Nat.reduceEqDiff, reduceIte]; rfl
    rcases hc with ⟨rfl, h2, h3, hbad⟩ | ⟨rfl, ok, h2⟩
    · simp only [runOps, runD, again, step1, wantA, opSem, evalO, evalL, evalOpt, evalParts, putA, ofConst, ofScalar, ofScalars, abin, abinInt, aun, convA, builtinA, oneTy, elemTy, loadA, storeA, storeCellsA, setAt, partA, fillA, placesA, isFn, TyI.isAgg, isSeq, isNum, sliceA, boundA, setParams, minL, minF, maxL, maxF, repZ, reduceIte, Nat.reduceLT, Nat.reduceLeDiff, Nat.reduceEqDiff, Nat.reduceAdd, Nat.reduceMul, Nat.reduceSub, Nat.reduceBEq, Int.reduceEq, Int.reduceLT, Int.reduceLE, Int.reduceToNat, reduceCtorEq, sx, fx22]
      exact ⟨_, _, rfl, by rw [h2, ofW, okB_false hbad]; rfl, by rw [h3, okB_false hbad]⟩
    · simp only [runOps, runD, again, step1, wantA, opSem, evalO, evalL, evalOpt, evalParts, putA, ofConst, ofScalar, ofScalars, abin, abinInt, aun, convA, builtinA, oneTy, elemTy, loadA, storeA, storeCellsA, setAt, partA, fillA, placesA, isFn, TyI.isAgg, isSeq, isNum, sliceA, boundA, setParams, minL, minF, maxL, maxF, repZ, reduceIte, Nat.reduceLT, Nat.reduceLeDiff, Nat.reduceEqDiff, Nat.reduceAdd, Nat.reduceMul, Nat.reduceSub, Nat.reduceBEq, Int.reduceEq, Int.reduceLT, Int.reduceLE, Int.reduceToNat, reduceCtorEq, sx, fx22, h2]
      exact ⟨_, _, rfl, by rw [ofW, okB_true ok]; simp only [Tr.get_set, Nat.reduceEqDiff, reduceIte], by rw [okB_true ok]; simp only [Tr.get_set, Nat.reduceEqDiff, reduceIte]⟩
  obtain ⟨T1, σ1, h1, h2, h3⟩ := run
  have hs : snapL (snapF false σ snapDepth) [x] = some ([.vs vk (spansV l)], S ++ []) := by
    simp only [snapL, hx]
  exact pureCall_of hs (memo22 _) (pureRun_of fn22 rfl (by simp [Tryz.f22]) h1 (by simp) (res_two h2 h3) rfl)
end Go.Proofs.YtoomnecfapihaaaGreatDoor
