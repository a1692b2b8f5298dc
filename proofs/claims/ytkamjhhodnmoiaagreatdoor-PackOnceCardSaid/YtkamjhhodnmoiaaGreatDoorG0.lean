/- Chunks: when one is right; copies. -/
import Derived.Test.YtkamjhhodnmoiaaGreatDoorA1
set_option maxRecDepth 100000
set_option linter.unusedSimpArgs false
set_option linter.unusedVariables false
namespace Go.Proofs.YtkamjhhodnmoiaaGreatDoor
open Go Go.Proofs.YtkamjhhodnmoiaaGreatDoor.Pale
variable {k : Nat} {σ : AMem}

/-- A chunk as a value. -/
def chunkV (name i of : Int) (vk : VK) (d : List Nat) : AVal := .agg [.int .i64 name, .int .i64 i, .int .i64 of, .vs vk (bytesV d)]
def OkC (name i of : Int) (d : List Nat) : Prop := (1 ≤ of ∧ of ≤ 200) ∧ (0 ≤ i ∧ i ≤ of - 1) ∧ (0 ≤ name ∧ name ≤ 65535) ∧ (1 ≤ (d.length : Int) ∧ (d.length : Int) ≤ 100)
instance (name i of : Int) (d : List Nat) : Decidable (OkC name i of d) := by unfold OkC; infer_instance

theorem isChunk_run (name i of : Int) (vk : VK) (d : List Nat) (hk : 1 ≤ k) : pureRun (callN lawProg (k + 1)) (.func 27 [] []) [chunkV name i of vk d] = some (.bool (decide (OkC name i of d)), true) := by
  have run : ∃ T1 σ1, execC lawProg (callN lawProg k) k 27 25 (bodyOf Tryz.f27) (initT 0 [.agg [.int .i64 name, .int .i64 i, .int .i64 of, .vs vk (bytesV d)]] .nil) AMem.empty = some (.ret, T1, σ1) ∧ T1.get 2 = some (.bool (decide (OkC name i of d))) := by
    by_cases h1 : 1 ≤ of ∧ of ≤ 200
    · have hw : IntKind.i64.wrap (of - 1) = of - 1 := i64_id (by omega) (by omega)
      by_cases h2 : 0 ≤ i ∧ i ≤ of - 1
      · by_cases h3 : 0 ≤ name ∧ name ≤ 65535
        · by_cases h4 : 1 ≤ (d.length : Int) ∧ (d.length : Int) ≤ 100
          · have hd : decide (OkC name i of d) = true := decide_eq_true ⟨h1, h2, h3, h4⟩
            rw [hd]
            simp only [bodyOf, Tryz.f27, Option.getD_some, initT, runOps, runD, again, step1, wantA, opSem, evalO, evalL, evalOpt, evalParts, putA, ofConst, ofScalar, ofScalars, abin, abinInt, aun, convA, builtinA, oneTy, elemTy, loadA, storeA, storeCellsA, setAt, partA, fillA, placesA, isFn, TyI.isAgg, isSeq, isNum, sliceA, boundA, setParams, minL, minF, maxL, maxF, repZ, reduceIte, Nat.reduceLT, Nat.reduceLeDiff, Nat.reduceEqDiff, Nat.reduceAdd, Nat.reduceMul, Nat.reduceSub, Nat.reduceBEq, Int.reduceEq, Int.reduceLT, Int.reduceLE, Int.reduceToNat, reduceCtorEq, sx, fx27, within_call _ _ _ hk, h1, h2, h3, h4, hw, bytesV_length]
            exact ⟨_, _, rfl, by simp only [Tr.get_set, Nat.reduceEqDiff, reduceIte]⟩
          · have hd : decide (OkC name i of d) = false := decide_eq_false (fun h => h4 h.2.2.2)
            rw [hd]
            simp only [bodyOf, Tryz.f27, Option.getD_some, initT, runOps, runD, again, step1, wantA, opSem, evalO, evalL, evalOpt, evalParts, putA, ofConst, ofScalar, ofScalars, abin, abinInt, aun, convA, builtinA, oneTy, elemTy, loadA, storeA, storeCellsA, setAt, partA, fillA, placesA, isFn, TyI.isAgg, isSeq, isNum, sliceA, boundA, setParams, minL, minF, maxL, maxF, repZ, reduceIte, Nat.reduceLT, Nat.reduceLeDiff, Nat.reduceEqDiff, Nat.reduceAdd, Nat.reduceMul, Nat.reduceSub, Nat.reduceBEq, Int.reduceEq, Int.reduceLT, Int.reduceLE, Int.reduceToNat, reduceCtorEq, sx, fx27, within_call _ _ _ hk, h1, h2, h3, h4, hw, bytesV_length]
            exact ⟨_, _, rfl, by simp only [Tr.get_set, Nat.reduceEqDiff, reduceIte]⟩
        · have hd : decide (OkC name i of d) = false := decide_eq_false (fun h => h3 h.2.2.1)
          rw [hd]
          simp only [bodyOf, Tryz.f27, Option.getD_some, initT, runOps, runD, again, step1, wantA, opSem, evalO, evalL, evalOpt, evalParts, putA, ofConst, ofScalar, ofScalars, abin, abinInt, aun, convA, builtinA, oneTy, elemTy, loadA, storeA, storeCellsA, setAt, partA, fillA, placesA, isFn, TyI.isAgg, isSeq, isNum, sliceA, boundA, setParams, minL, minF, maxL, maxF, repZ, reduceIte, Nat.reduceLT, Nat.reduceLeDiff, Nat.reduceEqDiff, Nat.reduceAdd, Nat.reduceMul, Nat.reduceSub, Nat.reduceBEq, Int.reduceEq, Int.reduceLT, Int.reduceLE, Int.reduceToNat, reduceCtorEq, sx, fx27, within_call _ _ _ hk, h1, h2, h3, hw, bytesV_length]
          exact ⟨_, _, rfl, by simp only [Tr.get_set, Nat.reduceEqDiff, reduceIte]⟩
      · have hd : decide (OkC name i of d) = false := decide_eq_false (fun h => h2 h.2.1)
        rw [hd]
        simp only [bodyOf, Tryz.f27, Option.getD_some, initT, runOps, runD, again, step1, wantA, opSem, evalO, evalL, evalOpt, evalParts, putA, ofConst, ofScalar, ofScalars, abin, abinInt, aun, convA, builtinA, oneTy, elemTy, loadA, storeA, storeCellsA, setAt, partA, fillA, placesA, isFn, TyI.isAgg, isSeq, isNum, sliceA, boundA, setParams, minL, minF, maxL, maxF, repZ, reduceIte, Nat.reduceLT, Nat.reduceLeDiff, Nat.reduceEqDiff, Nat.reduceAdd, Nat.reduceMul, Nat.reduceSub, Nat.reduceBEq, Int.reduceEq, Int.reduceLT, Int.reduceLE, Int.reduceToNat, reduceCtorEq, sx, fx27, within_call _ _ _ hk, h1, h2, hw, bytesV_length]
        exact ⟨_, _, rfl, by simp only [Tr.get_set, Nat.reduceEqDiff, reduceIte]⟩
    · have hd : decide (OkC name i of d) = false := decide_eq_false (fun h => h1 h.1)
      rw [hd]
      simp only [bodyOf, Tryz.f27, Option.getD_some, initT, runOps, runD, again, step1, wantA, opSem, evalO, evalL, evalOpt, evalParts, putA, ofConst, ofScalar, ofScalars, abin, abinInt, aun, convA, builtinA, oneTy, elemTy, loadA, storeA, storeCellsA, setAt, partA, fillA, placesA, isFn, TyI.isAgg, isSeq, isNum, sliceA, boundA, setParams, minL, minF, maxL, maxF, repZ, reduceIte, Nat.reduceLT, Nat.reduceLeDiff, Nat.reduceEqDiff, Nat.reduceAdd, Nat.reduceMul, Nat.reduceSub, Nat.reduceBEq, Int.reduceEq, Int.reduceLT, Int.reduceLE, Int.reduceToNat, reduceCtorEq, sx, fx27, within_call _ _ _ hk, h1, bytesV_length]
      exact ⟨_, _, rfl, by simp only [Tr.get_set, Nat.reduceEqDiff, reduceIte]⟩
  obtain ⟨T1, σ1, h1, h2⟩ := run
  exact pureRun_of fn27 rfl (by simp [Tryz.f27]) h1 (by simp) (res_one h2) rfl
theorem isChunk_call {x : AVal} {seen : List Nat} {name i of : Int} {vk : VK} {d : List Nat} (hx : snapF false σ snapDepth x = some (chunkV name i of vk d, seen)) (hk : 2 ≤ k) : pureCall lawProg (callN lawProg k) (.func 27 [] []) [x] σ = some (.bool (decide (OkC name i of d)), σ) := by
  obtain ⟨k, rfl⟩ : ∃ m, k = m + 1 := ⟨k - 1, by omega⟩
  have hs : snapL (snapF false σ snapDepth) [x] = some ([chunkV name i of vk d], seen ++ []) := by simp only [snapL, hx]
  exact pureCall_of hs (memo27 _) (isChunk_run name i of vk d (by omega))

theorem rIsChunk_run (name i of : Int) (vk : VK) (d : List Nat) (hk : 1 ≤ k) : pureRun (callN lawProg (k + 1)) (.func 13 [] []) [chunkV name i of vk d] = some (.bool (decide (OkC name i of d)), true) := by
  have run : ∃ T1 σ1, execC lawProg (callN lawProg k) k 13 25 (bodyOf Tryz.f13) (initT 0 [.agg [.int .i64 name, .int .i64 i, .int .i64 of, .vs vk (bytesV d)]] .nil) AMem.empty = some (.ret, T1, σ1) ∧ T1.get 2 = some (.bool (decide (OkC name i of d))) := by
    by_cases h1 : 1 ≤ of ∧ of ≤ 200
    · have hw : IntKind.i64.wrap (of - 1) = of - 1 := i64_id (by omega) (by omega)
      by_cases h2 : 0 ≤ i ∧ i ≤ of - 1
      · by_cases h3 : 0 ≤ name ∧ name ≤ 65535
        · by_cases h4 : 1 ≤ (d.length : Int) ∧ (d.length : Int) ≤ 100
          · have hd : decide (OkC name i of d) = true := decide_eq_true ⟨h1, h2, h3, h4⟩
            rw [hd]
            simp only [bodyOf, Tryz.f13, Option.getD_some, initT, runOps, runD, again, step1, wantA, opSem, evalO, evalL, evalOpt, evalParts, putA, ofConst, ofScalar, ofScalars, abin, abinInt, aun, convA, builtinA, oneTy, elemTy, loadA, storeA, storeCellsA, setAt, partA, fillA, placesA, isFn, TyI.isAgg, isSeq, isNum, sliceA, boundA, setParams, minL, minF, maxL, maxF, repZ, reduceIte, Nat.reduceLT, Nat.reduceLeDiff, Nat.reduceEqDiff, Nat.reduceAdd, Nat.reduceMul, Nat.reduceSub, Nat.reduceBEq, Int.reduceEq, Int.reduceLT, Int.reduceLE, Int.reduceToNat, reduceCtorEq, sx, fx13, in_call _ _ _ hk, h1, h2, h3, h4, hw, bytesV_length]
            exact ⟨_, _, rfl, by simp only [Tr.get_set, Nat.reduceEqDiff, reduceIte]⟩
          · have hd : decide (OkC name i of d) = false := decide_eq_false (fun h => h4 h.2.2.2)
            rw [hd]
            simp only [bodyOf, Tryz.f13, Option.getD_some, initT, runOps, runD, again, step1, wantA, opSem, evalO, evalL, evalOpt, evalParts, putA, ofConst, ofScalar, ofScalars, abin, abinInt, aun, convA, builtinA, oneTy, elemTy, loadA, storeA, storeCellsA, setAt, partA, fillA, placesA, isFn, TyI.isAgg, isSeq, isNum, sliceA, boundA, setParams, minL, minF, maxL, maxF, repZ, reduceIte, Nat.reduceLT, Nat.reduceLeDiff, Nat.reduceEqDiff, Nat.reduceAdd, Nat.reduceMul, Nat.reduceSub, Nat.reduceBEq, Int.reduceEq, Int.reduceLT, Int.reduceLE, Int.reduceToNat, reduceCtorEq, sx, fx13, in_call _ _ _ hk, h1, h2, h3, h4, hw, bytesV_length]
            exact ⟨_, _, rfl, by simp only [Tr.get_set, Nat.reduceEqDiff, reduceIte]⟩
        · have hd : decide (OkC name i of d) = false := decide_eq_false (fun h => h3 h.2.2.1)
          rw [hd]
          simp only [bodyOf, Tryz.f13, Option.getD_some, initT, runOps, runD, again, step1, wantA, opSem, evalO, evalL, evalOpt, evalParts, putA, ofConst, ofScalar, ofScalars, abin, abinInt, aun, convA, builtinA, oneTy, elemTy, loadA, storeA, storeCellsA, setAt, partA, fillA, placesA, isFn, TyI.isAgg, isSeq, isNum, sliceA, boundA, setParams, minL, minF, maxL, maxF, repZ, reduceIte, Nat.reduceLT, Nat.reduceLeDiff, Nat.reduceEqDiff, Nat.reduceAdd, Nat.reduceMul, Nat.reduceSub, Nat.reduceBEq, Int.reduceEq, Int.reduceLT, Int.reduceLE, Int.reduceToNat, reduceCtorEq, sx, fx13, in_call _ _ _ hk, h1, h2, h3, hw, bytesV_length]
          exact ⟨_, _, rfl, by simp only [Tr.get_set, Nat.reduceEqDiff, reduceIte]⟩
      · have hd : decide (OkC name i of d) = false := decide_eq_false (fun h => h2 h.2.1)
        rw [hd]
        simp only [bodyOf, Tryz.f13, Option.getD_some, initT, runOps, runD, again, step1, wantA, opSem, evalO, evalL, evalOpt, evalParts, putA, ofConst, ofScalar, ofScalars, abin, abinInt, aun, convA, builtinA, oneTy, elemTy, loadA, storeA, storeCellsA, setAt, partA, fillA, placesA, isFn, TyI.isAgg, isSeq, isNum, sliceA, boundA, setParams, minL, minF, maxL, maxF, repZ, reduceIte, Nat.reduceLT, Nat.reduceLeDiff, Nat.reduceEqDiff, Nat.reduceAdd, Nat.reduceMul, Nat.reduceSub, Nat.reduceBEq, Int.reduceEq, Int.reduceLT, Int.reduceLE, Int.reduceToNat, reduceCtorEq, sx, fx13, in_call _ _ _ hk, h1, h2, hw, bytesV_length]
        exact ⟨_, _, rfl, by simp only [Tr.get_set, Nat.reduceEqDiff, reduceIte]⟩
    · have hd : decide (OkC name i of d) = false := decide_eq_false (fun h => h1 h.1)
      rw [hd]
      simp only [bodyOf, Tryz.f13, Option.getD_some, initT, runOps, runD, again, step1, wantA, opSem, evalO, evalL, evalOpt, evalParts, putA, ofConst, ofScalar, ofScalars, abin, abinInt, aun, convA, builtinA, oneTy, elemTy, loadA, storeA, storeCellsA, setAt, partA, fillA, placesA, isFn, TyI.isAgg, isSeq, isNum, sliceA, boundA, setParams, minL, minF, maxL, maxF, repZ, reduceIte, Nat.reduceLT, Nat.reduceLeDiff, Nat.reduceEqDiff, Nat.reduceAdd, Nat.reduceMul, Nat.reduceSub, Nat.reduceBEq, Int.reduceEq, Int.reduceLT, Int.reduceLE, Int.reduceToNat, reduceCtorEq, sx, fx13, in_call _ _ _ hk, h1, bytesV_length]
      exact ⟨_, _, rfl, by simp only [Tr.get_set, Nat.reduceEqDiff, reduceIte]⟩
  obtain ⟨T1, σ1, h1, h2⟩ := run
  exact pureRun_of fn13 rfl (by simp [Tryz.f13]) h1 (by simp) (res_one h2) rfl
theorem rIsChunk_call {x : AVal} {seen : List Nat} {name i of : Int} {vk : VK} {d : List Nat} (hx : snapF false σ snapDepth x = some (chunkV name i of vk d, seen)) (hk : 2 ≤ k) : pureCall lawProg (callN lawProg k) (.func 13 [] []) [x] σ = some (.bool (decide (OkC name i of d)), σ) := by
  obtain ⟨k, rfl⟩ : ∃ m, k = m + 1 := ⟨k - 1, by omega⟩
  have hs : snapL (snapF false σ snapDepth) [x] = some ([chunkV name i of vk d], seen ++ []) := by simp only [snapL, hx]
  exact pureCall_of hs (memo13 _) (rIsChunk_run name i of vk d (by omega))

theorem copyChunk_run (name i of : Int) (vk : VK) (d : List Nat) (hd : d.length ≤ 1000) : ∃ b, pureRun (callN lawProg (k + 1)) (.func 11 [] []) [chunkV name i of vk d] = some (chunkV name i of .some d, b) := by
  let base : AMem := ((AMem.empty.push (.row 4 true [.int .i64 name, .int .i64 i, .int .i64 of, .vs vk (bytesV d)])).push (.row 4 true [.int .i64 0, .int .i64 0, .int .i64 0, .vs .nil []])).push (.row 1 false [])
  have happ := append_bytes (σ := base) (e := ⟨.int .u8, 1, 1, [.int .u8 0]⟩) (r := 2) (x := .vs vk (bytesV d)) (bs := d) rfl rfl rfl (source_bytes _ _ _) (by simp only [base, AMem.get_push, AMem.next_push, next_empty, Nat.reduceAdd, Nat.reduceEqDiff, reduceIte]) (by omega)
  have run : ∃ T1 σ1 x seen, execC lawProg (callN lawProg k) k 11 9 (bodyOf Tryz.f11) (initT 0 [.agg [.int .i64 name, .int .i64 i, .int .i64 of, .vs vk (bytesV d)]] .nil) AMem.empty = some (.ret, T1, σ1) ∧ resultsA lawProg T1 σ1 Tryz.f11.results.toList = some [x] ∧ snapF false σ1 12 x = some (chunkV name i of .some d, seen) := by
    by_cases h0 : d.length = 0
    · have hb : d = [] := List.eq_nil_of_length_eq_zero h0
      subst hb
      rw [if_pos h0, if_pos h0] at happ
      simp only [base] at happ
      have e : ∃ T1 σ1, execC lawProg (callN lawProg k) k 11 9 (bodyOf Tryz.f11) (initT 0 [.agg [.int .i64 name, .int .i64 i, .int .i64 of, .vs vk (bytesV [])]] .nil) AMem.empty = some (.ret, T1, σ1) ∧ resultsA lawProg T1 σ1 Tryz.f11.results.toList = some [.agg [.int .i64 name, .int .i64 i, .int .i64 of, .slice 2 0 0 (some 0) 1]] ∧ σ1.get 2 = some (.row 1 false (bytesV ([] ++ []))) := by
        simp only [bodyOf, Tryz.f11, Option.getD_some, initT, runOps, runD, again, step1, wantA, opSem, evalO, evalL, evalOpt, evalParts, putA, ofConst, ofScalar, ofScalars, abin, abinInt, aun, convA, builtinA, oneTy, elemTy, loadA, storeA, storeCellsA, setAt, partA, fillA, placesA, isFn, TyI.isAgg, isSeq, isNum, sliceA, boundA, setParams, minL, minF, maxL, maxF, repZ, reduceIte, Nat.reduceLT, Nat.reduceLeDiff, Nat.reduceEqDiff, Nat.reduceAdd, Nat.reduceMul, Nat.reduceSub, Nat.reduceBEq, Int.reduceEq, Int.reduceLT, Int.reduceLE, Int.reduceToNat, reduceCtorEq, sx, fx11, happ]
        exact ⟨_, _, rfl, by simp only [Tryz.f11, resultsA, resultA, runOps, runD, again, step1, wantA, opSem, evalO, evalL, evalOpt, evalParts, putA, ofConst, ofScalar, ofScalars, abin, abinInt, aun, convA, builtinA, oneTy, elemTy, loadA, storeA, storeCellsA, setAt, partA, fillA, placesA, isFn, TyI.isAgg, isSeq, isNum, sliceA, boundA, setParams, minL, minF, maxL, maxF, repZ, reduceIte, Nat.reduceLT, Nat.reduceLeDiff, Nat.reduceEqDiff, Nat.reduceAdd, Nat.reduceMul, Nat.reduceSub, Nat.reduceBEq, Int.reduceEq, Int.reduceLT, Int.reduceLE, Int.reduceToNat, reduceCtorEq, sx, fx11], by simp only [AMem.get_put, AMem.get_push, AMem.next_put, AMem.next_push, next_empty, Nat.reduceAdd, Nat.reduceEqDiff, reduceIte]; rfl⟩
      obtain ⟨T1, σ1, e1, e2, e3⟩ := e
      have hx : snapF false σ1 11 (.slice 2 0 0 (some 0) 1) = some (.vs .some [], [2]) := snap_bytes (d := 9) (bs := []) (more := []) rfl e3
      refine ⟨T1, σ1, _, [] ++ ([] ++ ([] ++ ([2] ++ []))), e1, e2, ?_⟩
      show (snapL (snapF false σ1 11) _).map (fun (l, a) => (AVal.agg l, a)) = _
      simp only [snapL, snap_int, hx, Option.map_some]
      rfl
    · rw [if_neg h0, if_neg h0] at happ
      simp only [base] at happ
      have e : ∃ T1 σ1, execC lawProg (callN lawProg k) k 11 9 (bodyOf Tryz.f11) (initT 0 [.agg [.int .i64 name, .int .i64 i, .int .i64 of, .vs vk (bytesV d)]] .nil) AMem.empty = some (.ret, T1, σ1) ∧ resultsA lawProg T1 σ1 Tryz.f11.results.toList = some [.agg [.int .i64 name, .int .i64 i, .int .i64 of, .slice 3 0 d.length none 1]] ∧ σ1.get 3 = some (.row 1 false (bytesV (d ++ []))) := by
        simp only [AMem.next_push, next_empty, Nat.reduceAdd] at happ
        simp only [bodyOf, Tryz.f11, Option.getD_some, initT, runOps, runD, again, step1, wantA, opSem, evalO, evalL, evalOpt, evalParts, putA, ofConst, ofScalar, ofScalars, abin, abinInt, aun, convA, builtinA, oneTy, elemTy, loadA, storeA, storeCellsA, setAt, partA, fillA, placesA, isFn, TyI.isAgg, isSeq, isNum, sliceA, boundA, setParams, minL, minF, maxL, maxF, repZ, reduceIte, Nat.reduceLT, Nat.reduceLeDiff, Nat.reduceEqDiff, Nat.reduceAdd, Nat.reduceMul, Nat.reduceSub, Nat.reduceBEq, Int.reduceEq, Int.reduceLT, Int.reduceLE, Int.reduceToNat, reduceCtorEq, sx, fx11, happ]
        exact ⟨_, _, rfl, by simp only [Tryz.f11, resultsA, resultA, runOps, runD, again, step1, wantA, opSem, evalO, evalL, evalOpt, evalParts, putA, ofConst, ofScalar, ofScalars, abin, abinInt, aun, convA, builtinA, oneTy, elemTy, loadA, storeA, storeCellsA, setAt, partA, fillA, placesA, isFn, TyI.isAgg, isSeq, isNum, sliceA, boundA, setParams, minL, minF, maxL, maxF, repZ, reduceIte, Nat.reduceLT, Nat.reduceLeDiff, Nat.reduceEqDiff, Nat.reduceAdd, Nat.reduceMul, Nat.reduceSub, Nat.reduceBEq, Int.reduceEq, Int.reduceLT, Int.reduceLE, Int.reduceToNat, reduceCtorEq, sx, fx11], by simp only [AMem.get_put, AMem.get_push, AMem.next_put, AMem.next_push, next_empty, Nat.reduceAdd, Nat.reduceEqDiff, reduceIte, List.append_nil]⟩
      obtain ⟨T1, σ1, e1, e2, e3⟩ := e
      have hx : snapF false σ1 11 (.slice 3 0 d.length none 1) = some (.vs .some (bytesV d), [3]) := snap_bytes (d := 9) (bs := d) (more := []) rfl e3
      refine ⟨T1, σ1, _, [] ++ ([] ++ ([] ++ ([3] ++ []))), e1, e2, ?_⟩
      show (snapL (snapF false σ1 11) _).map (fun (l, a) => (AVal.agg l, a)) = _
      simp only [snapL, snap_int, hx, Option.map_some]
      rfl
  obtain ⟨T1, σ1, x, seen, h1, h2, h3⟩ := run
  exact pureRun_any fn11 rfl (by simp [Tryz.f11]) h1 (by simp) h2 h3
theorem copyChunk_call (name i of : Int) (vk : VK) (d : List Nat) (hd : d.length ≤ 1000) (hk : 1 ≤ k) : pureCall lawProg (callN lawProg k) (.func 11 [] []) [.agg [.int .i64 name, .int .i64 i, .int .i64 of, .vs vk (bytesV d)]] σ = some (.agg [.int .i64 name, .int .i64 i, .int .i64 of, .vs .some (bytesV d)], σ) := by
  obtain ⟨k, rfl⟩ : ∃ m, k = m + 1 := ⟨k - 1, by omega⟩
  obtain ⟨b, h⟩ := copyChunk_run (k := k) name i of vk d hd
  exact pureCall_of0 (args' := [chunkV name i of vk d]) rfl (memo11 _) h

end Go.Proofs.YtkamjhhodnmoiaaGreatDoor
