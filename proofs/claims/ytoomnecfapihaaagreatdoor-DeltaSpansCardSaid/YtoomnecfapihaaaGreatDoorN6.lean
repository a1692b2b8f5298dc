/- The unions and what is lacking: the program's and the reference's. -/
import Derived.Test.YtoomnecfapihaaaGreatDoorN5
set_option maxRecDepth 100000
set_option linter.unusedSimpArgs false
set_option linter.unusedVariables false
namespace Go.Proofs.YtoomnecfapihaaaGreatDoor
open Go Go.Proofs.YtoomnecfapihaaaGreatDoor.Pale
variable {k : Nat} {σ : AMem}

def wV (w : BitVec 64) : AVal := .int .u64 (w.toNat : Nat)
def orW (ws : List (BitVec 64)) : BitVec 64 := ws.foldl (· ||| ·) 0#64
theorem orW_snoc (ws : List (BitVec 64)) (w : BitVec 64) : orW (ws ++ [w]) = orW ws ||| w := by simp [orW]
theorem wV_get {ws : List (BitVec 64)} {i : Nat} (hi : i < ws.length) : (ws.map wV)[i]? = some (.int .u64 ((ws[i]).toNat : Nat)) := by
  rw [List.getElem?_map, List.getElem?_eq_getElem hi]
  rfl
theorem each_make (x : BitVec 64) (hk : 1 ≤ k) : callN lawProg k (.func 51 [] []) [.int .u64 (x.toNat : Nat)] σ = some (.func 68 [] [.ptr σ.next 0], σ.push (.row 1 false [.int .u64 (x.toNat : Nat)])) := by
  obtain ⟨k, rfl⟩ : ∃ m, k = m + 1 := ⟨k - 1, by omega⟩
  have run : ∃ T1, execC lawProg (callN lawProg k) k 51 4 (bodyOf Tryz.f51) (initT 0 [.int .u64 (x.toNat : Nat)] .nil) σ = some (.ret, T1, σ.push (.row 1 false [.int .u64 (x.toNat : Nat)])) ∧ T1.get 2 = some (.func 68 [] [.ptr σ.next 0]) := by
    simp only [bodyOf, Tryz.f51, Option.getD_some, initT, runOps, runD, again, step1, wantA, opSem, evalO, evalL, evalOpt, evalParts, putA, ofConst, ofScalar, ofScalars, abin, abinInt, aun, convA, builtinA, oneTy, elemTy, loadA, storeA, storeCellsA, setAt, partA, fillA, placesA, isFn, TyI.isAgg, isSeq, isNum, sliceA, boundA, setParams, minL, minF, maxL, maxF, repZ, reduceIte, Nat.reduceLT, Nat.reduceLeDiff, Nat.reduceEqDiff, Nat.reduceAdd, Nat.reduceMul, Nat.reduceSub, Nat.reduceBEq, Int.reduceEq, Int.reduceLT, Int.reduceLE, Int.reduceToNat, reduceCtorEq, sx, fx51]
    exact ⟨_, rfl, by simp only [Tr.get_set, Nat.reduceEqDiff, reduceIte]⟩
  obtain ⟨T1, h2, h3⟩ := run
  exact q_call (first := []) (caps := []) fn51 rfl (by simp [Tryz.f51]) h2 (by simp) (res_one h3)
theorem union_exec {ws : List (BitVec 64)} (h0 : σ.get 0 = some (.row 1 false (ws.map wV))) (hn : σ.next = 1) (hlen : ws.length ≤ 10) (hb : ∀ m, (orW ws).getLsbD m = true → 1 ≤ m ∧ m ≤ 60) (hk : 2000 ≤ k) : ∃ out σ', callN lawProg (k + 1) (.func 23 [] []) [.slice 0 0 ws.length (some ws.length) 1] σ = some (out, σ') ∧ GrewS 4 σ' out (spansOf (orW ws).getLsbD) := by
  have run : ∃ T1 σ1 out, execC lawProg (callN lawProg k) k 23 25 (bodyOf Tryz.f23) (initT 0 [.slice 0 0 ws.length (some ws.length) 1] .nil) σ = some (.ret, T1, σ1) ∧ resultsA lawProg T1 σ1 Tryz.f23.results.toList = some [out] ∧ GrewS 4 σ1 out (spansOf (orW ws).getLsbD) := by
    simp only [bodyOf, Tryz.f23, Option.getD_some, initT, runOps, runD, again, step1, wantA, opSem, evalO, evalL, evalOpt, evalParts, putA, ofConst, ofScalar, ofScalars, abin, abinInt, aun, convA, builtinA, oneTy, elemTy, loadA, storeA, storeCellsA, setAt, partA, fillA, placesA, isFn, TyI.isAgg, isSeq, isNum, sliceA, boundA, setParams, minL, minF, maxL, maxF, repZ, reduceIte, Nat.reduceLT, Nat.reduceLeDiff, Nat.reduceEqDiff, Nat.reduceAdd, Nat.reduceMul, Nat.reduceSub, Nat.reduceBEq, Int.reduceEq, Int.reduceLT, Int.reduceLE, Int.reduceToNat, reduceCtorEq, sx, fx23, hn]
    generalize hL : execC _ _ _ _ _ (Code.loop _) _ _ = q
    obtain ⟨e, T', σ', rfl, _, rfl, rfl, u2, u3⟩ : ∃ e T' σ', q = some (e, T', σ') ∧ e ≠ .normal ∧ (e = .exit 0 ∧ σ' = σ.push (.row 1 false [.vs .nil []]) ∧ T'.get 2 = some (.ptr 1 0) ∧ T'.get 3 = some (.int .u64 ((orW ws).toNat : Nat))) := by
      rw [← hL]
      refine exec_loop (fun i T σ' => i ≤ ws.length ∧ σ' = σ.push (.row 1 false [.vs .nil []]) ∧ T.get 2 = some (.ptr 1 0) ∧ T.get 3 = some (.int .u64 ((orW (ws.take i)).toNat : Nat)) ∧ T.get 7 = some (.slice 0 0 ws.length (some ws.length) 1) ∧ T.get 8 = some (.int .i64 (ws.length : Nat)) ∧ T.get 9 = some (.int .i64 (i : Nat))) ws.length (by omega) ?_ ?_ ?_
      · rintro i hi T σ' ⟨_, rfl, t2, t3, t7, t8, t9⟩
        have hlt : ((i : Nat) : Int) < ((ws.length : Nat) : Int) := by omega
        have hw := i64_succ (i := i) (by omega)
        have hget := wV_get hi
        have hs := orW_snoc (ws.take i) ws[i]
        rw [← List.take_succ_eq_append_getElem hi] at hs
        have hl2 : (ws.map wV).length = ws.length := List.length_map _
        refine ⟨_, _, by
          simp only [runOps, runD, again, step1, wantA, opSem, evalO, evalL, evalOpt, evalParts, putA, ofConst, ofScalar, ofScalars, abin, abinInt, aun, convA, builtinA, oneTy, elemTy, loadA, storeA, storeCellsA, setAt, partA, fillA, placesA, isFn, TyI.isAgg, isSeq, isNum, sliceA, boundA, setParams, minL, minF, maxL, maxF, repZ, reduceIte, Nat.reduceLT, Nat.reduceLeDiff, Nat.reduceEqDiff, Nat.reduceAdd, Nat.reduceMul, Nat.reduceSub, Nat.reduceBEq, Int.reduceEq, Int.reduceLT, Int.reduceLE, Int.reduceToNat, reduceCtorEq, sx, fx23, t2, t3, t7, t8, t9, hlt, hn, h0, hget, hl2, Int.natCast_nonneg, Int.toNat_natCast, u64_or, hw, hi]
          rfl, by omega, rfl, ?_, ?_, ?_, ?_, ?_⟩
        · simp only [Tr.get_set, Nat.reduceEqDiff, reduceIte, t2]
        · simp only [Tr.get_set, Nat.reduceEqDiff, reduceIte, hs]
        · simp only [Tr.get_set, Nat.reduceEqDiff, reduceIte, t7]
        · simp only [Tr.get_set, Nat.reduceEqDiff, reduceIte, t8]
        · simp only [Tr.get_set, Nat.reduceEqDiff, reduceIte]
      · rintro T σ' ⟨_, rfl, t2, t3, t7, t8, t9⟩
        have hge : ¬ (((ws.length : Nat) : Int) < ((ws.length : Nat) : Int)) := by omega
        rw [List.take_length] at t3
        refine ⟨_, _, _, by
          simp only [runOps, runD, again, step1, wantA, opSem, evalO, evalL, evalOpt, evalParts, putA, ofConst, ofScalar, ofScalars, abin, abinInt, aun, convA, builtinA, oneTy, elemTy, loadA, storeA, storeCellsA, setAt, partA, fillA, placesA, isFn, TyI.isAgg, isSeq, isNum, sliceA, boundA, setParams, minL, minF, maxL, maxF, repZ, reduceIte, Nat.reduceLT, Nat.reduceLeDiff, Nat.reduceEqDiff, Nat.reduceAdd, Nat.reduceMul, Nat.reduceSub, Nat.reduceBEq, Int.reduceEq, Int.reduceLT, Int.reduceLE, Int.reduceToNat, reduceCtorEq, sx, fx23, t8, t9, hge]
          rfl, by simp, rfl, rfl, ?_, ?_⟩
        · simp only [Tr.get_set, Nat.reduceEqDiff, reduceIte, t2]
        · simp only [Tr.get_set, Nat.reduceEqDiff, reduceIte, t3]
      · refine ⟨Nat.zero_le _, rfl, ?_, ?_, ?_, ?_, ?_⟩
        · simp only [Tr.get_set, Nat.reduceEqDiff, reduceIte]
        · simp only [Tr.get_set, Nat.reduceEqDiff, reduceIte]; rfl
        · simp only [Tr.get_set, Nat.reduceEqDiff, reduceIte]
        · simp only [Tr.get_set, Nat.reduceEqDiff, reduceIte]
        · simp only [Tr.get_set, Nat.reduceEqDiff, reduceIte]; rfl
    simp only [runOps, runD, again, step1, wantA, opSem, evalO, evalL, evalOpt, evalParts, putA, ofConst, ofScalar, ofScalars, abin, abinInt, aun, convA, builtinA, oneTy, elemTy, loadA, storeA, storeCellsA, setAt, partA, fillA, placesA, isFn, TyI.isAgg, isSeq, isNum, sliceA, boundA, setParams, minL, minF, maxL, maxF, repZ, reduceIte, Nat.reduceLT, Nat.reduceLeDiff, Nat.reduceEqDiff, Nat.reduceAdd, Nat.reduceMul, Nat.reduceSub, Nat.reduceBEq, Int.reduceEq, Int.reduceLT, Int.reduceLE, Int.reduceToNat, reduceCtorEq, sx, fx23, u3, each_make _ (show 1 ≤ k by omega), hn]
    generalize hR : execC _ _ _ _ _ (Code.rangeFunc _ _ _ _) _ _ = r
    obtain ⟨T2, σ2, rfl, v2, out, m1, mg⟩ : ∃ T2 σ2, r = some (.normal, T2, σ2) ∧ T2.get 2 = some (.ptr 1 0) ∧ ∃ out, σ2.get 1 = some (.row 1 false [out]) ∧ GrewS 4 σ2 out (spansOf (orW ws).getLsbD) := by
      rw [← hR]
      obtain ⟨T0, hT0⟩ : ∃ T0, T0 = (T'.set 17 (.int .u64 ((orW ws).toNat : Nat))).set 18 (.func 68 [] [.ptr 2 0]) := ⟨_, rfl⟩
      have w2 : T0.get 2 = some (.ptr 1 0) := by rw [hT0]; simp only [Tr.get_set, Nat.reduceEqDiff, reduceIte, u2]
      have w18 : T0.get 18 = some (.func 68 [] [.ptr 2 0]) := by rw [hT0]; simp only [Tr.get_set, Nat.reduceEqDiff, reduceIte]
      have hm : UMem T0 (orW ws) [] (((σ.push (.row 1 false [.vs .nil []])).push (.row 1 false [.int .u64 ((orW ws).toNat : Nat)])).push (.loop (loopU T0))) := by
        refine ⟨⟨.vs .nil [], ?_, ⟨rfl, .inl ⟨rfl, rfl⟩⟩, fun _ => rfl⟩, ?_, ?_, by simp [hn]⟩
        all_goals simp only [AMem.get_push, AMem.next_push, hn, Nat.reduceAdd, Nat.reduceEqDiff, reduceIte]
      obtain ⟨σ', hc, ⟨out, m1, mg⟩, m2, m3, m4⟩ := each_call (k := k) w2 hm hb (by omega)
      have hq := q_range (A := lawProg) (call := callN lawProg k) (k := k) (f := 23) (N := 25) (T := T0) (σ := (σ.push (.row 1 false [.vs .nil []])).push (.row 1 false [.int .u64 ((orW ws).toNat : Nat)])) (g := .tmp 18) (ps := #[19]) (a := (loopU T0).assign) (b := (loopU T0).body) (r := loopU T0) (v := .tuple []) (σ2 := σ') (show evalO lawProg T0 (.tmp 18) = _ from w18) (by
        simp only [AMem.next_push, hn, Nat.reduceAdd]
        exact hc) (by simp only [AMem.next_push, hn, Nat.reduceAdd]; exact m3) (by intro h; cases h) rfl
      simp only [AMem.next_push, hn, Nat.reduceAdd] at hq
      refine ⟨T0, σ'.put 3 (.loop { loopU T0 with state := .exhausted }), ?_, w2, out, ?_, ?_⟩
      · subst hT0
        exact hq
      · rw [AMem.get_put, if_neg (by omega)]; exact m1
      · exact mg.same (by simp) fun r h1 h2 => by rw [AMem.get_put, if_neg (by omega)]
    have hone := cells_one mg.one
    simp only [runOps, runD, again, step1, wantA, opSem, evalO, evalL, evalOpt, evalParts, putA, ofConst, ofScalar, ofScalars, abin, abinInt, aun, convA, builtinA, oneTy, elemTy, loadA, storeA, storeCellsA, setAt, partA, fillA, placesA, isFn, TyI.isAgg, isSeq, isNum, sliceA, boundA, setParams, minL, minF, maxL, maxF, repZ, reduceIte, Nat.reduceLT, Nat.reduceLeDiff, Nat.reduceEqDiff, Nat.reduceAdd, Nat.reduceMul, Nat.reduceSub, Nat.reduceBEq, Int.reduceEq, Int.reduceLT, Int.reduceLE, Int.reduceToNat, reduceCtorEq, sx, fx23, v2, m1, mg.one, hone]
    refine ⟨_, _, out, rfl, ?_, mg.same (by simp) fun r h1 h2 => by rw [AMem.get_put, if_neg (by omega)]⟩
    simp only [Tryz.f23, resultsA, resultA, runOps, runD, again, step1, wantA, opSem, evalO, evalL, evalOpt, evalParts, putA, ofConst, ofScalar, ofScalars, abin, abinInt, aun, convA, builtinA, oneTy, elemTy, loadA, storeA, storeCellsA, setAt, partA, fillA, placesA, isFn, TyI.isAgg, isSeq, isNum, sliceA, boundA, setParams, minL, minF, maxL, maxF, repZ, reduceIte, Nat.reduceLT, Nat.reduceLeDiff, Nat.reduceEqDiff, Nat.reduceAdd, Nat.reduceMul, Nat.reduceSub, Nat.reduceBEq, Int.reduceEq, Int.reduceLT, Int.reduceLE, Int.reduceToNat, reduceCtorEq, sx, fx23, v2, mg.one]
  obtain ⟨T1, σ1, out, h2, h3, h4⟩ := run
  exact ⟨out, σ1, q_call (first := []) (caps := []) fn23 rfl (by simp [Tryz.f23]) h2 (by simp) h3, h4⟩
end Go.Proofs.YtoomnecfapihaaaGreatDoor
