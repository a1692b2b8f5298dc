/- The reference's Plus, Minus, Union and Lacks; the law DeltaLists. -/
import Derived.Test.YtoomnecfapihaaaGreatDoorN7
set_option maxRecDepth 100000
set_option linter.unusedSimpArgs false
set_option linter.unusedVariables false
namespace Go.Proofs.YtoomnecfapihaaaGreatDoor
open Go Go.Proofs.YtoomnecfapihaaaGreatDoor.Pale
variable {k : Nat} {σ : AMem}

theorem plus_call {ka kb : VK} {a b : List Sp} (oka : OkSp a) (okb : OkSp b) (ha : a.length ≤ 1000) (hb : b.length ≤ 1000) (hk : 3000 ≤ k) : pureCall lawProg (callN lawProg k) (.func 25 [] []) [.vs ka (spansV a), .vs kb (spansV b)] σ = some (listA (unionL a b), σ) := by
  obtain ⟨k, rfl⟩ : ∃ m, k = m + 2 := ⟨k - 2, by omega⟩
  have run : ∃ T1 σ1, execC lawProg (callN lawProg (k + 1)) (k + 1) 25 33 (bodyOf Tryz.f25) (initT 0 [.vs ka (spansV a), .vs kb (spansV b)] .nil) AMem.empty = some (.ret, T1, σ1) ∧ T1.get 4 = some (listA (unionL a b)) := by
    obtain ⟨σ1, e1, g1, x1, n1⟩ := set_exec (k := k) (σ := AMem.empty) (vk := ka) oka ha (by omega)
    obtain ⟨σ2, e2, g2, x2, n2⟩ := set_exec (k := k) (σ := σ1) (vk := kb) okb hb (by omega)
    have f1 : callN lawProg (k + 1) (.func 12 [] []) [.vs ka (spansV a)] AMem.empty = some (.slice 0 0 61 (some 61) 1, σ1) := e1
    rw [next_empty] at g1 n1
    obtain ⟨r, hr⟩ : ∃ r, r = σ1.next := ⟨_, rfl⟩
    rw [← hr] at e2 g2
    have g0 : σ2.get 0 = some (.row 1 false (boolsV 61 (setP a))) := by rw [x2.2 0 (by omega)]; exact g1
    simp only [bodyOf, Tryz.f25, Option.getD_some, initT, runOps, runD, again, step1, wantA, opSem, evalO, evalL, evalOpt, evalParts, putA, ofConst, ofScalar, ofScalars, abin, abinInt, aun, convA, builtinA, oneTy, elemTy, loadA, storeA, storeCellsA, setAt, partA, fillA, placesA, isFn, TyI.isAgg, isSeq, isNum, sliceA, boundA, setParams, minL, minF, maxL, maxF, repZ, reduceIte, Nat.reduceLT, Nat.reduceLeDiff, Nat.reduceEqDiff, Nat.reduceAdd, Nat.reduceMul, Nat.reduceSub, Nat.reduceBEq, Int.reduceEq, Int.reduceLT, Int.reduceLE, Int.reduceToNat, reduceCtorEq, sx, fx25, f1, e2]
    generalize hL : execC _ _ _ _ _ (Code.loop _) _ _ = q
    obtain ⟨e, T', σ', rfl, _, rfl, u5, ug⟩ : ∃ e T' σ', q = some (e, T', σ') ∧ e ≠ .normal ∧ (e = .exit 0 ∧ T'.get 5 = some (.slice 0 0 61 (some 61) 1) ∧ σ'.get 0 = some (.row 1 false (boolsV 61 (fun m => if m < 61 then setP a m || setP b m else setP a m)))) := by
      rw [← hL]
      refine exec_loop (fun j T σ => j ≤ 61 ∧ T.get 5 = some (.slice 0 0 61 (some 61) 1) ∧ T.get 6 = some (.slice r 0 61 (some 61) 1) ∧ T.get 7 = some (.int .i64 (j : Nat)) ∧ σ.get 0 = some (.row 1 false (boolsV 61 (fun m => if m < j then setP a m || setP b m else setP a m))) ∧ σ.get r = some (.row 1 false (boolsV 61 (setP b)))) 61 (by omega) ?_ ?_ ?_
      · rintro j hj T σ ⟨_, t5, t6, t7, c0, c1⟩
        have hlt : ((j : Nat) : Int) < ((61 : Nat) : Int) := by omega
        have hw := i64_succ (i := j) (by omega)
        have h60 : j ≤ 60 := by omega
        have p0 := boolsV_get (n := 61) (fun m => if m < j then setP a m || setP b m else setP a m) hj
        have p1 := boolsV_get (n := 61) (setP b) hj
        simp only [show ¬ j < j by omega, if_false] at p0
        have q0 : ¬ r = 0 := by omega
        have fin : ∀ v, v = (setP a j || setP b j) → boolsV 61 (fun m => if m = j then v else if m < j then setP a m || setP b m else setP a m) = boolsV 61 (fun m => if m < j + 1 then setP a m || setP b m else setP a m) := by
          rintro v rfl
          apply boolsV_congr
          intro m hm
          by_cases e : m = j
          · subst e
            rw [if_pos rfl, if_pos (by omega)]
          · rw [if_neg e]
            by_cases e2 : m < j
            · rw [if_pos e2, if_pos (by omega)]
            · rw [if_neg e2, if_neg (by omega)]
        cases hp : setP a j with
        | true =>
          rw [hp] at p0
          refine ⟨_, _, by
            simp only [runOps, runD, again, step1, wantA, opSem, evalO, evalL, evalOpt, evalParts, putA, ofConst, ofScalar, ofScalars, abin, abinInt, aun, convA, builtinA, oneTy, elemTy, loadA, storeA, storeCellsA, setAt, partA, fillA, placesA, isFn, TyI.isAgg, isSeq, isNum, sliceA, boundA, setParams, minL, minF, maxL, maxF, repZ, reduceIte, Nat.reduceLT, Nat.reduceLeDiff, Nat.reduceEqDiff, Nat.reduceAdd, Nat.reduceMul, Nat.reduceSub, Nat.reduceBEq, Int.reduceEq, Int.reduceLT, Int.reduceLE, Int.reduceToNat, reduceCtorEq, sx, fx25, t5, t6, t7, c0, c1, hlt, hj, h60, p0, boolsV_length, boolsV_set, Int.natCast_nonneg, Int.toNat_natCast, hw]
            rfl, by omega, ?_, ?_, ?_, ?_, ?_⟩
          · simp only [Tr.get_set, Nat.reduceEqDiff, reduceIte, t5]
          · simp only [Tr.get_set, Nat.reduceEqDiff, reduceIte, t6]
          · simp only [Tr.get_set, Nat.reduceEqDiff, reduceIte]
          · rw [AMem.get_put, if_pos rfl, fin true (by rw [hp]; rfl)]
          · rw [AMem.get_put, if_neg (by omega)]; exact c1
        | false =>
          rw [hp] at p0
          refine ⟨_, _, by
            simp only [runOps, runD, again, step1, wantA, opSem, evalO, evalL, evalOpt, evalParts, putA, ofConst, ofScalar, ofScalars, abin, abinInt, aun, convA, builtinA, oneTy, elemTy, loadA, storeA, storeCellsA, setAt, partA, fillA, placesA, isFn, TyI.isAgg, isSeq, isNum, sliceA, boundA, setParams, minL, minF, maxL, maxF, repZ, reduceIte, Nat.reduceLT, Nat.reduceLeDiff, Nat.reduceEqDiff, Nat.reduceAdd, Nat.reduceMul, Nat.reduceSub, Nat.reduceBEq, Int.reduceEq, Int.reduceLT, Int.reduceLE, Int.reduceToNat, reduceCtorEq, sx, fx25, t5, t6, t7, c0, c1, hlt, hj, h60, p0, p1, boolsV_length, boolsV_set, Int.natCast_nonneg, Int.toNat_natCast, hw]
            rfl, by omega, ?_, ?_, ?_, ?_, ?_⟩
          · simp only [Tr.get_set, Nat.reduceEqDiff, reduceIte, t5]
          · simp only [Tr.get_set, Nat.reduceEqDiff, reduceIte, t6]
          · simp only [Tr.get_set, Nat.reduceEqDiff, reduceIte]
          · rw [AMem.get_put, if_pos rfl, fin (setP b j) (by rw [hp]; rfl)]
          · rw [AMem.get_put, if_neg (by omega)]; exact c1
      · rintro T σ ⟨_, t5, t6, t7, c0, c1⟩
        have hge : ¬ (((61 : Nat) : Int) < ((61 : Nat) : Int)) := by omega
        refine ⟨_, _, _, by
          simp only [runOps, runD, again, step1, wantA, opSem, evalO, evalL, evalOpt, evalParts, putA, ofConst, ofScalar, ofScalars, abin, abinInt, aun, convA, builtinA, oneTy, elemTy, loadA, storeA, storeCellsA, setAt, partA, fillA, placesA, isFn, TyI.isAgg, isSeq, isNum, sliceA, boundA, setParams, minL, minF, maxL, maxF, repZ, reduceIte, Nat.reduceLT, Nat.reduceLeDiff, Nat.reduceEqDiff, Nat.reduceAdd, Nat.reduceMul, Nat.reduceSub, Nat.reduceBEq, Int.reduceEq, Int.reduceLT, Int.reduceLE, Int.reduceToNat, reduceCtorEq, sx, fx25, t5, t7, hge]
          rfl, by simp, rfl, ?_, c0⟩
        simp only [Tr.get_set, Nat.reduceEqDiff, reduceIte, t5]
      · refine ⟨Nat.zero_le _, ?_, ?_, ?_, ?_, g2⟩
        · simp only [Tr.get_set, Nat.reduceEqDiff, reduceIte]
        · simp only [Tr.get_set, Nat.reduceEqDiff, reduceIte]
        · simp only [Tr.get_set, Nat.reduceEqDiff, reduceIte]; rfl
        · rw [g0]
          congr 2
    have hlist := listR_call (k := k + 1) (σ := σ') (x := .slice 0 0 61 (some 61) 1) (snap_bools (d := 10) ug) (by omega)
    have hl : spansOf (fun m => if m < 61 then setP a m || setP b m else setP a m) = unionL a b := spansOf_congr fun m _ h => by rw [if_pos (by omega)]; rfl
    rw [hl] at hlist
    simp only [runOps, runD, again, step1, wantA, opSem, evalO, evalL, evalOpt, evalParts, putA, ofConst, ofScalar, ofScalars, abin, abinInt, aun, convA, builtinA, oneTy, elemTy, loadA, storeA, storeCellsA, setAt, partA, fillA, placesA, isFn, TyI.isAgg, isSeq, isNum, sliceA, boundA, setParams, minL, minF, maxL, maxF, repZ, reduceIte, Nat.reduceLT, Nat.reduceLeDiff, Nat.reduceEqDiff, Nat.reduceAdd, Nat.reduceMul, Nat.reduceSub, Nat.reduceBEq, Int.reduceEq, Int.reduceLT, Int.reduceLE, Int.reduceToNat, reduceCtorEq, sx, fx25, u5, hlist]
    exact ⟨_, _, rfl, by simp only [Tr.get_set, Nat.reduceEqDiff, reduceIte]; rfl⟩
  obtain ⟨T1, σ1, h1, h2⟩ := run
  obtain ⟨b', hb'⟩ := pureRun_any fn25 rfl (by simp [Tryz.f25]) h1 (by simp) (res_one h2) (snap_vs σ1 11 _ _)
  exact pureCall_of0 rfl (memo25 _) hb'

theorem minus_call {ka : VK} {a : List Sp} {n : Nat} (oka : OkSp a) (ha : a.length ≤ 1000) (hn : n ≤ 60) (hk : 3000 ≤ k) : pureCall lawProg (callN lawProg k) (.func 27 [] []) [.int .i64 (n : Nat), .vs ka (spansV a)] σ = some (listA (lacksL a n), σ) := by
  obtain ⟨k, rfl⟩ : ∃ m, k = m + 2 := ⟨k - 2, by omega⟩
  have run : ∃ T1 σ1, execC lawProg (callN lawProg (k + 1)) (k + 1) 27 30 (bodyOf Tryz.f27) (initT 0 [.int .i64 (n : Nat), .vs ka (spansV a)] .nil) AMem.empty = some (.ret, T1, σ1) ∧ T1.get 4 = some (listA (lacksL a n)) := by
    obtain ⟨σ1, e1, g1, x1, n1⟩ := set_exec (k := k) (σ := AMem.empty) (vk := ka) oka ha (by omega)
    have f1 : callN lawProg (k + 1) (.func 12 [] []) [.vs ka (spansV a)] AMem.empty = some (.slice 0 0 61 (some 61) 1, σ1) := e1
    rw [next_empty] at g1 n1
    simp only [bodyOf, Tryz.f27, Option.getD_some, initT, runOps, runD, again, step1, wantA, opSem, evalO, evalL, evalOpt, evalParts, putA, ofConst, ofScalar, ofScalars, abin, abinInt, aun, convA, builtinA, oneTy, elemTy, loadA, storeA, storeCellsA, setAt, partA, fillA, placesA, isFn, TyI.isAgg, isSeq, isNum, sliceA, boundA, setParams, minL, minF, maxL, maxF, repZ, reduceIte, Nat.reduceLT, Nat.reduceLeDiff, Nat.reduceEqDiff, Nat.reduceAdd, Nat.reduceMul, Nat.reduceSub, Nat.reduceBEq, Int.reduceEq, Int.reduceLT, Int.reduceLE, Int.reduceToNat, reduceCtorEq, sx, fx27, f1]
    generalize hL : execC _ _ _ _ _ (Code.loop _) _ _ = q
    obtain ⟨e, T', σ', rfl, _, rfl, u5, ug⟩ : ∃ e T' σ', q = some (e, T', σ') ∧ e ≠ .normal ∧ (e = .exit 0 ∧ T'.get 5 = some (.slice 0 0 61 (some 61) 1) ∧ σ'.get 0 = some (.row 1 false (boolsV 61 (fun m => if m < 61 then !(setP a m) && decide (m ≤ n) else setP a m)))) := by
      rw [← hL]
      refine exec_loop (fun j T σ => j ≤ 61 ∧ T.get 0 = some (.int .i64 (n : Nat)) ∧ T.get 5 = some (.slice 0 0 61 (some 61) 1) ∧ T.get 6 = some (.int .i64 (j : Nat)) ∧ σ.get 0 = some (.row 1 false (boolsV 61 (fun m => if m < j then !(setP a m) && decide (m ≤ n) else setP a m)))) 61 (by omega) ?_ ?_ ?_
      · rintro j hj T σ ⟨_, t0, t5, t6, c0⟩
        have hlt : ((j : Nat) : Int) < ((61 : Nat) : Int) := by omega
        have hw := i64_succ (i := j) (by omega)
        have h60 : j ≤ 60 := by omega
        have p0 := boolsV_get (n := 61) (fun m => if m < j then !(setP a m) && decide (m ≤ n) else setP a m) hj
        simp only [show ¬ j < j by omega, if_false] at p0
        have fin : ∀ v, v = (!(setP a j) && decide (j ≤ n)) → boolsV 61 (fun m => if m = j then v else if m < j then !(setP a m) && decide (m ≤ n) else setP a m) = boolsV 61 (fun m => if m < j + 1 then !(setP a m) && decide (m ≤ n) else setP a m) := by
          rintro v rfl
          apply boolsV_congr
          intro m hm
          by_cases e : m = j
          · subst e
            rw [if_pos rfl, if_pos (by omega)]
          · rw [if_neg e]
            by_cases e2 : m < j
            · rw [if_pos e2, if_pos (by omega)]
            · rw [if_neg e2, if_neg (by omega)]
        cases hp : setP a j with
        | true =>
          rw [hp] at p0
          refine ⟨_, _, by
            simp only [runOps, runD, again, step1, wantA, opSem, evalO, evalL, evalOpt, evalParts, putA, ofConst, ofScalar, ofScalars, abin, abinInt, aun, convA, builtinA, oneTy, elemTy, loadA, storeA, storeCellsA, setAt, partA, fillA, placesA, isFn, TyI.isAgg, isSeq, isNum, sliceA, boundA, setParams, minL, minF, maxL, maxF, repZ, reduceIte, Nat.reduceLT, Nat.reduceLeDiff, Nat.reduceEqDiff, Nat.reduceAdd, Nat.reduceMul, Nat.reduceSub, Nat.reduceBEq, Int.reduceEq, Int.reduceLT, Int.reduceLE, Int.reduceToNat, reduceCtorEq, sx, fx27, t0, t5, t6, c0, hlt, hj, h60, p0, boolsV_length, boolsV_set, Int.natCast_nonneg, Int.toNat_natCast, hw]
            rfl, by omega, ?_, ?_, ?_, ?_⟩
          · simp only [Tr.get_set, Nat.reduceEqDiff, reduceIte, t0]
          · simp only [Tr.get_set, Nat.reduceEqDiff, reduceIte, t5]
          · simp only [Tr.get_set, Nat.reduceEqDiff, reduceIte]
          · rw [AMem.get_put, if_pos rfl, fin false (by rw [hp]; rfl)]
        | false =>
          rw [hp] at p0
          have hd : decide (((j : Nat) : Int) ≤ ((n : Nat) : Int)) = decide (j ≤ n) := decide_eq_decide.2 (by omega)
          refine ⟨_, _, by
            simp only [runOps, runD, again, step1, wantA, opSem, evalO, evalL, evalOpt, evalParts, putA, ofConst, ofScalar, ofScalars, abin, abinInt, aun, convA, builtinA, oneTy, elemTy, loadA, storeA, storeCellsA, setAt, partA, fillA, placesA, isFn, TyI.isAgg, isSeq, isNum, sliceA, boundA, setParams, minL, minF, maxL, maxF, repZ, reduceIte, Nat.reduceLT, Nat.reduceLeDiff, Nat.reduceEqDiff, Nat.reduceAdd, Nat.reduceMul, Nat.reduceSub, Nat.reduceBEq, Int.reduceEq, Int.reduceLT, Int.reduceLE, Int.reduceToNat, reduceCtorEq, sx, fx27, t0, t5, t6, c0, hlt, hj, h60, p0, boolsV_length, boolsV_set, Int.natCast_nonneg, Int.toNat_natCast, hw, hd]
            rfl, by omega, ?_, ?_, ?_, ?_⟩
          · simp only [Tr.get_set, Nat.reduceEqDiff, reduceIte, t0]
          · simp only [Tr.get_set, Nat.reduceEqDiff, reduceIte, t5]
          · simp only [Tr.get_set, Nat.reduceEqDiff, reduceIte]
          · rw [AMem.get_put, if_pos rfl, fin (decide (j ≤ n)) (by rw [hp]; rfl)]
      · rintro T σ ⟨_, t0, t5, t6, c0⟩
        have hge : ¬ (((61 : Nat) : Int) < ((61 : Nat) : Int)) := by omega
        refine ⟨_, _, _, by
          simp only [runOps, runD, again, step1, wantA, opSem, evalO, evalL, evalOpt, evalParts, putA, ofConst, ofScalar, ofScalars, abin, abinInt, aun, convA, builtinA, oneTy, elemTy, loadA, storeA, storeCellsA, setAt, partA, fillA, placesA, isFn, TyI.isAgg, isSeq, isNum, sliceA, boundA, setParams, minL, minF, maxL, maxF, repZ, reduceIte, Nat.reduceLT, Nat.reduceLeDiff, Nat.reduceEqDiff, Nat.reduceAdd, Nat.reduceMul, Nat.reduceSub, Nat.reduceBEq, Int.reduceEq, Int.reduceLT, Int.reduceLE, Int.reduceToNat, reduceCtorEq, sx, fx27, t5, t6, hge]
          rfl, by simp, rfl, ?_, c0⟩
        simp only [Tr.get_set, Nat.reduceEqDiff, reduceIte, t5]
      · refine ⟨Nat.zero_le _, ?_, ?_, ?_, ?_⟩
        · simp only [Tr.get_set, Nat.reduceEqDiff, reduceIte]
        · simp only [Tr.get_set, Nat.reduceEqDiff, reduceIte]
        · simp only [Tr.get_set, Nat.reduceEqDiff, reduceIte]; rfl
        · rw [g1]
          congr 2
    have hlist := listR_call (k := k + 1) (σ := σ') (x := .slice 0 0 61 (some 61) 1) (snap_bools (d := 10) ug) (by omega)
    have hl : spansOf (fun m => if m < 61 then !(setP a m) && decide (m ≤ n) else setP a m) = lacksL a n := spansOf_congr fun m _ h => by rw [if_pos (by omega)]; rfl
    rw [hl] at hlist
    simp only [runOps, runD, again, step1, wantA, opSem, evalO, evalL, evalOpt, evalParts, putA, ofConst, ofScalar, ofScalars, abin, abinInt, aun, convA, builtinA, oneTy, elemTy, loadA, storeA, storeCellsA, setAt, partA, fillA, placesA, isFn, TyI.isAgg, isSeq, isNum, sliceA, boundA, setParams, minL, minF, maxL, maxF, repZ, reduceIte, Nat.reduceLT, Nat.reduceLeDiff, Nat.reduceEqDiff, Nat.reduceAdd, Nat.reduceMul, Nat.reduceSub, Nat.reduceBEq, Int.reduceEq, Int.reduceLT, Int.reduceLE, Int.reduceToNat, reduceCtorEq, sx, fx27, u5, hlist]
    exact ⟨_, _, rfl, by simp only [Tr.get_set, Nat.reduceEqDiff, reduceIte]; rfl⟩
  obtain ⟨T1, σ1, h1, h2⟩ := run
  obtain ⟨b', hb'⟩ := pureRun_any fn27 rfl (by simp [Tryz.f27]) h1 (by simp) (res_one h2) (snap_vs σ1 11 _ _)
  exact pureCall_of0 rfl (memo27 _) hb'
theorem snapN_tuple {σ : AMem} {K : VK} {es : List AVal} {n : Int} : snapF false σ snapDepth (.tuple [.vs K es, .int .i64 n]) = some (.tuple [.vs K es, .int .i64 n], []) := rfl
theorem runion_call {ka kb : VK} {a b : List Sp} (ha : a.length ≤ 1000) (hb : b.length ≤ 1000) (hk : 3001 ≤ k) : pureCall lawProg (callN lawProg k) (.func 8 [] []) [.vs ka (spansV a), .vs kb (spansV b)] σ = some (.tuple [(unionR a b).1, .int .i64 (unionR a b).2], σ) := by
  obtain ⟨k, rfl⟩ : ∃ m, k = m + 1 := ⟨k - 1, by omega⟩
  have run : ∃ T1 σ1 K es, execC lawProg (callN lawProg k) k 8 17 (bodyOf Tryz.f8) (initT 0 [.vs ka (spansV a), .vs kb (spansV b)] .nil) AMem.empty = some (.ret, T1, σ1) ∧ T1.get 4 = some (.vs K es) ∧ T1.get 5 = some (.int .i64 (unionR a b).2) ∧ (unionR a b).1 = .vs K es := by
    have h1 := fun (σ : AMem) => isList_call (k := k) (σ := σ) (x := .vs ka (spansV a)) (vk := ka) (l := a) (S := []) rfl ha (by omega)
    have h2 := fun (σ : AMem) => isList_call (k := k) (σ := σ) (x := .vs kb (spansV b)) (vk := kb) (l := b) (S := []) rfl hb (by omega)
    cases ea : okB a with
    | false =>
      rw [ea] at h1
      have hr : unionR a b = (.vs .nil [], 4) := by unfold unionR; rw [ea]; rfl
      rw [hr]
      simp only [bodyOf, Tryz.f8, Option.getD_some, initT, runOps, runD, again, step1, wantA, opSem, evalO, evalL, evalOpt, evalParts, putA, ofConst, ofScalar, ofScalars, abin, abinInt, aun, convA, builtinA, oneTy, elemTy, loadA, storeA, storeCellsA, setAt, partA, fillA, placesA, isFn, TyI.isAgg, isSeq, isNum, sliceA, boundA, setParams, minL, minF, maxL, maxF, repZ, reduceIte, Nat.reduceLT, Nat.reduceLeDiff, Nat.reduceEqDiff, Nat.reduceAdd, Nat.reduceMul, Nat.reduceSub, Nat.reduceBEq, Int.reduceEq, Int.reduceLT, Int.reduceLE, Int.reduceToNat, reduceCtorEq, sx, fx8, h1, h2]
      exact ⟨_, _, .nil, [], rfl, by simp only [Tr.get_set, Nat.reduceEqDiff, reduceIte], by simp only [Tr.get_set, Nat.reduceEqDiff, reduceIte], rfl⟩
    | true =>
      rw [ea] at h1
      cases eb : okB b with
      | false =>
        rw [eb] at h2
        have hr : unionR a b = (.vs .nil [], 4) := by unfold unionR; rw [ea, eb]; rfl
        rw [hr]
        simp only [bodyOf, Tryz.f8, Option.getD_some, initT, runOps, runD, again, step1, wantA, opSem, evalO, evalL, evalOpt, evalParts, putA, ofConst, ofScalar, ofScalars, abin, abinInt, aun, convA, builtinA, oneTy, elemTy, loadA, storeA, storeCellsA, setAt, partA, fillA, placesA, isFn, TyI.isAgg, isSeq, isNum, sliceA, boundA, setParams, minL, minF, maxL, maxF, repZ, reduceIte, Nat.reduceLT, Nat.reduceLeDiff, Nat.reduceEqDiff, Nat.reduceAdd, Nat.reduceMul, Nat.reduceSub, Nat.reduceBEq, Int.reduceEq, Int.reduceLT, Int.reduceLE, Int.reduceToNat, reduceCtorEq, sx, fx8, h1, h2]
        exact ⟨_, _, .nil, [], rfl, by simp only [Tr.get_set, Nat.reduceEqDiff, reduceIte], by simp only [Tr.get_set, Nat.reduceEqDiff, reduceIte], rfl⟩
      | true =>
        rw [eb] at h2
        have hr : unionR a b = (listA (unionL a b), 0) := by unfold unionR; rw [ea, eb]; rfl
        rw [hr]
        have h3 := fun (σ : AMem) => plus_call (k := k) (σ := σ) (ka := ka) (kb := kb) (okB_iff.1 ea) (okB_iff.1 eb) ha hb (by omega)
        simp only [bodyOf, Tryz.f8, Option.getD_some, initT, runOps, runD, again, step1, wantA, opSem, evalO, evalL, evalOpt, evalParts, putA, ofConst, ofScalar, ofScalars, abin, abinInt, aun, convA, builtinA, oneTy, elemTy, loadA, storeA, storeCellsA, setAt, partA, fillA, placesA, isFn, TyI.isAgg, isSeq, isNum, sliceA, boundA, setParams, minL, minF, maxL, maxF, repZ, reduceIte, Nat.reduceLT, Nat.reduceLeDiff, Nat.reduceEqDiff, Nat.reduceAdd, Nat.reduceMul, Nat.reduceSub, Nat.reduceBEq, Int.reduceEq, Int.reduceLT, Int.reduceLE, Int.reduceToNat, reduceCtorEq, sx, fx8, h1, h2, h3]
        exact ⟨_, _, _, _, rfl, by simp only [Tr.get_set, Nat.reduceEqDiff, reduceIte]; rfl, by simp only [Tr.get_set, Nat.reduceEqDiff, reduceIte], rfl⟩
  obtain ⟨T1, σ1, K, es, h1, h2, h3, h4⟩ := run
  obtain ⟨b', hb'⟩ := pureRun_any fn8 rfl (by simp [Tryz.f8]) h1 (by simp) (res_two h2 h3) (snapN_tuple (σ := σ1) (K := K) (es := es))
  rw [h4]
  exact pureCall_of0 rfl (memo8 _) hb'
theorem rlacks_call {ka : VK} {a : List Sp} {n : Int} (ha : a.length ≤ 1000) (hk : 3001 ≤ k) : pureCall lawProg (callN lawProg k) (.func 9 [] []) [.vs ka (spansV a), .int .i64 n] σ = some (.tuple [(lacksR a n).1, .int .i64 (lacksR a n).2], σ) := by
  obtain ⟨k, rfl⟩ : ∃ m, k = m + 1 := ⟨k - 1, by omega⟩
  have run : ∃ T1 σ1 K es, execC lawProg (callN lawProg k) k 9 15 (bodyOf Tryz.f9) (initT 0 [.vs ka (spansV a), .int .i64 n] .nil) AMem.empty = some (.ret, T1, σ1) ∧ T1.get 4 = some (.vs K es) ∧ T1.get 5 = some (.int .i64 (lacksR a n).2) ∧ (lacksR a n).1 = .vs K es := by
    have h1 := fun (σ : AMem) => isList_call (k := k) (σ := σ) (x := .vs ka (spansV a)) (vk := ka) (l := a) (S := []) rfl ha (by omega)
    have h2 := fun (σ : AMem) => rin_call (k := k) (σ := σ) n 0 60 (by omega)
    cases ea : okB a with
    | false =>
      rw [ea] at h1
      have hr : lacksR a n = (.vs .nil [], 4) := by unfold lacksR; rw [ea]; rfl
      rw [hr]
      simp only [bodyOf, Tryz.f9, Option.getD_some, initT, runOps, runD, again, step1, wantA, opSem, evalO, evalL, evalOpt, evalParts, putA, ofConst, ofScalar, ofScalars, abin, abinInt, aun, convA, builtinA, oneTy, elemTy, loadA, storeA, storeCellsA, setAt, partA, fillA, placesA, isFn, TyI.isAgg, isSeq, isNum, sliceA, boundA, setParams, minL, minF, maxL, maxF, repZ, reduceIte, Nat.reduceLT, Nat.reduceLeDiff, Nat.reduceEqDiff, Nat.reduceAdd, Nat.reduceMul, Nat.reduceSub, Nat.reduceBEq, Int.reduceEq, Int.reduceLT, Int.reduceLE, Int.reduceToNat, reduceCtorEq, sx, fx9, h1]
      exact ⟨_, _, .nil, [], rfl, by simp only [Tr.get_set, Nat.reduceEqDiff, reduceIte], by simp only [Tr.get_set, Nat.reduceEqDiff, reduceIte], rfl⟩
    | true =>
      rw [ea] at h1
      by_cases hn : 0 ≤ n ∧ n ≤ 60
      · have hd : decide (0 ≤ n ∧ n ≤ 60) = true := decide_eq_true hn
        rw [hd] at h2
        have hr : lacksR a n = (listA (lacksL a n.toNat), 0) := by unfold lacksR; rw [ea, if_pos rfl, if_pos hn]
        rw [hr]
        have h3 := fun (σ : AMem) => minus_call (k := k) (σ := σ) (ka := ka) (n := n.toNat) (okB_iff.1 ea) ha (by omega) (by omega)
        rw [show ((n.toNat : Nat) : Int) = n by omega] at h3
        simp only [bodyOf, Tryz.f9, Option.getD_some, initT, runOps, runD, again, step1, wantA, opSem, evalO, evalL, evalOpt, evalParts, putA, ofConst, ofScalar, ofScalars, abin, abinInt, aun, convA, builtinA, oneTy, elemTy, loadA, storeA, storeCellsA, setAt, partA, fillA, placesA, isFn, TyI.isAgg, isSeq, isNum, sliceA, boundA, setParams, minL, minF, maxL, maxF, repZ, reduceIte, Nat.reduceLT, Nat.reduceLeDiff, Nat.reduceEqDiff, Nat.reduceAdd, Nat.reduceMul, Nat.reduceSub, Nat.reduceBEq, Int.reduceEq, Int.reduceLT, Int.reduceLE, Int.reduceToNat, reduceCtorEq, sx, fx9, h1, h2, h3]
        exact ⟨_, _, _, _, rfl, by simp only [Tr.get_set, Nat.reduceEqDiff, reduceIte]; rfl, by simp only [Tr.get_set, Nat.reduceEqDiff, reduceIte], rfl⟩
      · have hd : decide (0 ≤ n ∧ n ≤ 60) = false := decide_eq_false hn
        rw [hd] at h2
        have hr : lacksR a n = (.vs .nil [], 3) := by unfold lacksR; rw [ea, if_pos rfl, if_neg hn]
        rw [hr]
        simp only [bodyOf, Tryz.f9, Option.getD_some, initT, runOps, runD, again, step1, wantA, opSem, evalO, evalL, evalOpt, evalParts, putA, ofConst, ofScalar, ofScalars, abin, abinInt, aun, convA, builtinA, oneTy, elemTy, loadA, storeA, storeCellsA, setAt, partA, fillA, placesA, isFn, TyI.isAgg, isSeq, isNum, sliceA, boundA, setParams, minL, minF, maxL, maxF, repZ, reduceIte, Nat.reduceLT, Nat.reduceLeDiff, Nat.reduceEqDiff, Nat.reduceAdd, Nat.reduceMul, Nat.reduceSub, Nat.reduceBEq, Int.reduceEq, Int.reduceLT, Int.reduceLE, Int.reduceToNat, reduceCtorEq, sx, fx9, h1, h2]
        exact ⟨_, _, .nil, [], rfl, by simp only [Tr.get_set, Nat.reduceEqDiff, reduceIte], by simp only [Tr.get_set, Nat.reduceEqDiff, reduceIte], rfl⟩
  obtain ⟨T1, σ1, K, es, h1, h2, h3, h4⟩ := run
  obtain ⟨b', hb'⟩ := pureRun_any fn9 rfl (by simp [Tryz.f9]) h1 (by simp) (res_two h2 h3) (snapN_tuple (σ := σ1) (K := K) (es := es))
  rw [h4]
  exact pureCall_of0 rfl (memo9 _) hb'
end Go.Proofs.YtoomnecfapihaaaGreatDoor
