/- Small functions on integers and bytes: what they give on every input. -/
import Derived.Test.YtkamjhhodnmoiaaGreatDoorFacts
set_option maxRecDepth 100000
set_option linter.unusedSimpArgs false
set_option linter.unusedVariables false
namespace Go.Proofs.YtkamjhhodnmoiaaGreatDoor
open Go Go.Proofs.YtkamjhhodnmoiaaGreatDoor.Pale
variable {k : Nat} {σ : AMem}

/-! ### between two numbers -/
theorem within_run (a b n : Int) : pureRun (callN lawProg (k + 1)) (.func 44 [] []) [.int .i64 a, .int .i64 b, .int .i64 n] = some (.bool (decide (a ≤ n ∧ n ≤ b)), true) := by
  have run : ∃ T1, execC lawProg (callN lawProg k) k 44 15 (bodyOf Tryz.f44) (initT 0 [.int .i64 a, .int .i64 b, .int .i64 n] .nil) AMem.empty = some (.ret, T1, AMem.empty) ∧ T1.get 6 = some (.bool (decide (a ≤ n ∧ n ≤ b))) := by
    by_cases h1 : a ≤ n
    · by_cases h2 : n ≤ b
      · simp only [bodyOf, Tryz.f44, Option.getD_some, initT, runOps, runD, again, step1, wantA, opSem, evalO, evalL, evalOpt, evalParts, putA, ofConst, ofScalar, ofScalars, abin, abinInt, aun, convA, builtinA, oneTy, elemTy, loadA, storeA, storeCellsA, setAt, partA, fillA, placesA, isFn, TyI.isAgg, isSeq, isNum, sliceA, boundA, setParams, minL, minF, maxL, maxF, repZ, reduceIte, Nat.reduceLT, Nat.reduceLeDiff, Nat.reduceEqDiff, Nat.reduceAdd, Nat.reduceMul, Nat.reduceSub, Nat.reduceBEq, Int.reduceEq, Int.reduceLT, Int.reduceLE, Int.reduceToNat, reduceCtorEq, sx, fx44, ge_iff_le, h1, h2]
        exact ⟨_, rfl, by simp only [Tr.get_set, Nat.reduceEqDiff, reduceIte]⟩
      · simp only [bodyOf, Tryz.f44, Option.getD_some, initT, runOps, runD, again, step1, wantA, opSem, evalO, evalL, evalOpt, evalParts, putA, ofConst, ofScalar, ofScalars, abin, abinInt, aun, convA, builtinA, oneTy, elemTy, loadA, storeA, storeCellsA, setAt, partA, fillA, placesA, isFn, TyI.isAgg, isSeq, isNum, sliceA, boundA, setParams, minL, minF, maxL, maxF, repZ, reduceIte, Nat.reduceLT, Nat.reduceLeDiff, Nat.reduceEqDiff, Nat.reduceAdd, Nat.reduceMul, Nat.reduceSub, Nat.reduceBEq, Int.reduceEq, Int.reduceLT, Int.reduceLE, Int.reduceToNat, reduceCtorEq, sx, fx44, ge_iff_le, h1, h2]
        exact ⟨_, rfl, by simp only [Tr.get_set, Nat.reduceEqDiff, reduceIte]⟩
    · simp only [bodyOf, Tryz.f44, Option.getD_some, initT, runOps, runD, again, step1, wantA, opSem, evalO, evalL, evalOpt, evalParts, putA, ofConst, ofScalar, ofScalars, abin, abinInt, aun, convA, builtinA, oneTy, elemTy, loadA, storeA, storeCellsA, setAt, partA, fillA, placesA, isFn, TyI.isAgg, isSeq, isNum, sliceA, boundA, setParams, minL, minF, maxL, maxF, repZ, reduceIte, Nat.reduceLT, Nat.reduceLeDiff, Nat.reduceEqDiff, Nat.reduceAdd, Nat.reduceMul, Nat.reduceSub, Nat.reduceBEq, Int.reduceEq, Int.reduceLT, Int.reduceLE, Int.reduceToNat, reduceCtorEq, sx, fx44, ge_iff_le, h1]
      exact ⟨_, rfl, by simp only [Tr.get_set, Nat.reduceEqDiff, reduceIte]⟩
  obtain ⟨T1, h1, h2⟩ := run
  exact pureRun_of fn44 rfl (by simp [Tryz.f44]) h1 (by simp) (res_one h2) rfl
theorem within_call (a b n : Int) (hk : 1 ≤ k) : pureCall lawProg (callN lawProg k) (.func 44 [] []) [.int .i64 a, .int .i64 b, .int .i64 n] σ = some (.bool (decide (a ≤ n ∧ n ≤ b)), σ) := by
  obtain ⟨k, rfl⟩ : ∃ m, k = m + 1 := ⟨k - 1, by omega⟩
  exact pureCall_of rfl (memo44 _) (within_run a b n)

theorem in_run (n a b : Int) : pureRun (callN lawProg (k + 1)) (.func 36 [] []) [.int .i64 n, .int .i64 a, .int .i64 b] = some (.bool (decide (a ≤ n ∧ n ≤ b)), true) := by
  have run : ∃ T1, execC lawProg (callN lawProg k) k 36 15 (bodyOf Tryz.f36) (initT 0 [.int .i64 n, .int .i64 a, .int .i64 b] .nil) AMem.empty = some (.ret, T1, AMem.empty) ∧ T1.get 6 = some (.bool (decide (a ≤ n ∧ n ≤ b))) := by
    by_cases h1 : a ≤ n
    · by_cases h2 : n ≤ b
      · simp only [bodyOf, Tryz.f36, Option.getD_some, initT, runOps, runD, again, step1, wantA, opSem, evalO, evalL, evalOpt, evalParts, putA, ofConst, ofScalar, ofScalars, abin, abinInt, aun, convA, builtinA, oneTy, elemTy, loadA, storeA, storeCellsA, setAt, partA, fillA, placesA, isFn, TyI.isAgg, isSeq, isNum, sliceA, boundA, setParams, minL, minF, maxL, maxF, repZ, reduceIte, Nat.reduceLT, Nat.reduceLeDiff, Nat.reduceEqDiff, Nat.reduceAdd, Nat.reduceMul, Nat.reduceSub, Nat.reduceBEq, Int.reduceEq, Int.reduceLT, Int.reduceLE, Int.reduceToNat, reduceCtorEq, sx, fx36, ge_iff_le, h1, h2]
        exact ⟨_, rfl, by simp only [Tr.get_set, Nat.reduceEqDiff, reduceIte]⟩
      · simp only [bodyOf, Tryz.f36, Option.getD_some, initT, runOps, runD, again, step1, wantA, opSem, evalO, evalL, evalOpt, evalParts, putA, ofConst, ofScalar, ofScalars, abin, abinInt, aun, convA, builtinA, oneTy, elemTy, loadA, storeA, storeCellsA, setAt, partA, fillA, placesA, isFn, TyI.isAgg, isSeq, isNum, sliceA, boundA, setParams, minL, minF, maxL, maxF, repZ, reduceIte, Nat.reduceLT, Nat.reduceLeDiff, Nat.reduceEqDiff, Nat.reduceAdd, Nat.reduceMul, Nat.reduceSub, Nat.reduceBEq, Int.reduceEq, Int.reduceLT, Int.reduceLE, Int.reduceToNat, reduceCtorEq, sx, fx36, ge_iff_le, h1, h2]
        exact ⟨_, rfl, by simp only [Tr.get_set, Nat.reduceEqDiff, reduceIte]⟩
    · simp only [bodyOf, Tryz.f36, Option.getD_some, initT, runOps, runD, again, step1, wantA, opSem, evalO, evalL, evalOpt, evalParts, putA, ofConst, ofScalar, ofScalars, abin, abinInt, aun, convA, builtinA, oneTy, elemTy, loadA, storeA, storeCellsA, setAt, partA, fillA, placesA, isFn, TyI.isAgg, isSeq, isNum, sliceA, boundA, setParams, minL, minF, maxL, maxF, repZ, reduceIte, Nat.reduceLT, Nat.reduceLeDiff, Nat.reduceEqDiff, Nat.reduceAdd, Nat.reduceMul, Nat.reduceSub, Nat.reduceBEq, Int.reduceEq, Int.reduceLT, Int.reduceLE, Int.reduceToNat, reduceCtorEq, sx, fx36, ge_iff_le, h1]
      exact ⟨_, rfl, by simp only [Tr.get_set, Nat.reduceEqDiff, reduceIte]⟩
  obtain ⟨T1, h1, h2⟩ := run
  exact pureRun_of fn36 rfl (by simp [Tryz.f36]) h1 (by simp) (res_one h2) rfl
theorem in_call (n a b : Int) (hk : 1 ≤ k) : pureCall lawProg (callN lawProg k) (.func 36 [] []) [.int .i64 n, .int .i64 a, .int .i64 b] σ = some (.bool (decide (a ≤ n ∧ n ≤ b)), σ) := by
  obtain ⟨k, rfl⟩ : ∃ m, k = m + 1 := ⟨k - 1, by omega⟩
  exact pureCall_of rfl (memo36 _) (in_run n a b)

/-! ### sums -/
def sumL (s : Int) : List Nat → Int
  | [] => s
  | c :: bs => sumL ((31 * s + c + 1) % 65521) bs
theorem sumL_snoc (s : Int) (bs : List Nat) (c : Nat) : sumL s (bs ++ [c]) = (31 * sumL s bs + c + 1) % 65521 := by
  induction bs generalizing s with
  | nil => rfl
  | cons b bs ih => exact ih _
theorem sumL_bounds (s : Int) (bs : List Nat) (h : 0 ≤ s ∧ s < 65521) : 0 ≤ sumL s bs ∧ sumL s bs < 65521 := by
  induction bs generalizing s with
  | nil => exact h
  | cons b bs ih => exact ih _ ⟨by omega, by omega⟩

theorem sum_run (bs : List Nat) (hb : ∀ b, b ∈ bs → b < 256) (vk : VK) (hn : bs.length < k) (hn2 : bs.length < 1000000) : pureRun (callN lawProg (k + 1)) (.func 26 [] []) [.vs vk (bytesV bs)] = some (.int .i64 (sumL 1 bs), true) := by
  have run : ∃ T1, execC lawProg (callN lawProg k) k 26 21 (bodyOf Tryz.f26) (initT 0 [.vs vk (bytesV bs)] .nil) AMem.empty = some (.ret, T1, AMem.empty) ∧ T1.get 2 = some (.int .i64 (sumL 1 bs)) := by
    simp only [bodyOf, Tryz.f26, Option.getD_some, initT, runOps, runD, again, step1, wantA, opSem, evalO, evalL, evalOpt, evalParts, putA, ofConst, ofScalar, ofScalars, abin, abinInt, aun, convA, builtinA, oneTy, elemTy, loadA, storeA, storeCellsA, setAt, partA, fillA, placesA, isFn, TyI.isAgg, isSeq, isNum, sliceA, boundA, setParams, minL, minF, maxL, maxF, repZ, reduceIte, Nat.reduceLT, Nat.reduceLeDiff, Nat.reduceEqDiff, Nat.reduceAdd, Nat.reduceMul, Nat.reduceSub, Nat.reduceBEq, Int.reduceEq, Int.reduceLT, Int.reduceLE, Int.reduceToNat, reduceCtorEq, sx, fx26, bytesV_length]
    generalize hL : execC _ _ _ _ _ (Code.loop _) _ _ = r
    obtain ⟨e, T', σ', rfl, _, rfl, rfl, h3⟩ : ∃ e T' σ', r = some (e, T', σ') ∧ e ≠ .normal ∧ (e = .exit 0 ∧ σ' = AMem.empty ∧ T'.get 3 = some (.int .i64 (sumL 1 bs))) := by
      rw [← hL]
      refine exec_loop (fun i T σ => σ = AMem.empty ∧ i ≤ bs.length ∧ T.get 6 = some (.vs vk (bytesV bs)) ∧ T.get 7 = some (.int .i64 bs.length) ∧ T.get 8 = some (.int .i64 i) ∧ T.get 3 = some (.int .i64 (sumL 1 (bs.take i)))) bs.length hn ?_ ?_ ?_
      · rintro i hi T σ ⟨rfl, _, h6, h7, h8, h3⟩
        have hlt : (i : Int) < bs.length := by omega
        have hbi : bs[i] < 256 := hb _ (List.getElem_mem hi)
        obtain ⟨s1, s2⟩ := sumL_bounds 1 (bs.take i) (by decide)
        refine ⟨_, _, by
          simp only [runOps, runD, again, step1, wantA, opSem, evalO, evalL, evalOpt, evalParts, putA, ofConst, ofScalar, ofScalars, abin, abinInt, aun, convA, builtinA, oneTy, elemTy, loadA, storeA, storeCellsA, setAt, partA, fillA, placesA, isFn, TyI.isAgg, isSeq, isNum, sliceA, boundA, setParams, minL, minF, maxL, maxF, repZ, reduceIte, Nat.reduceLT, Nat.reduceLeDiff, Nat.reduceEqDiff, Nat.reduceAdd, Nat.reduceMul, Nat.reduceSub, Nat.reduceBEq, Int.reduceEq, Int.reduceLT, Int.reduceLE, Int.reduceToNat, reduceCtorEq, sx, fx26, h6, h7, h8, h3, hlt, Int.natCast_nonneg, Int.toNat_natCast, bytesV_get hi]
          rfl, rfl, hi, ?_, ?_, ?_, ?_⟩
        all_goals simp only [Tr.get_set, Nat.reduceEqDiff, reduceIte, h6, h7, h8, h3]
        · rw [i64_id (by omega) (by omega)]; simp
        · rw [List.take_succ_eq_append_getElem hi, sumL_snoc]
          simp (disch := omega) only [i64_id]
          rw [Int.tmod_eq_emod_of_nonneg (by omega)]
      · rintro T σ ⟨rfl, _, h6, h7, h8, h3⟩
        refine ⟨_, _, _, by
          simp only [runOps, runD, again, step1, wantA, opSem, evalO, evalL, evalOpt, evalParts, putA, ofConst, ofScalar, ofScalars, abin, abinInt, aun, convA, builtinA, oneTy, elemTy, loadA, storeA, storeCellsA, setAt, partA, fillA, placesA, isFn, TyI.isAgg, isSeq, isNum, sliceA, boundA, setParams, minL, minF, maxL, maxF, repZ, reduceIte, Nat.reduceLT, Nat.reduceLeDiff, Nat.reduceEqDiff, Nat.reduceAdd, Nat.reduceMul, Nat.reduceSub, Nat.reduceBEq, Int.reduceEq, Int.reduceLT, Int.reduceLE, Int.reduceToNat, reduceCtorEq, sx, fx26, h6, h7, h8, h3, Int.lt_irrefl]
          rfl, by simp, rfl, rfl, ?_⟩
        simp only [Tr.get_set, Nat.reduceEqDiff, reduceIte, h3, List.take_length]
      · refine ⟨rfl, Nat.zero_le _, ?_, ?_, ?_, ?_⟩
        all_goals simp only [Tr.get_set, Nat.reduceEqDiff, reduceIte, List.take_zero, sumL]
        all_goals rfl
    simp only [runOps, runD, again, step1, wantA, opSem, evalO, evalL, evalOpt, evalParts, putA, ofConst, ofScalar, ofScalars, abin, abinInt, aun, convA, builtinA, oneTy, elemTy, loadA, storeA, storeCellsA, setAt, partA, fillA, placesA, isFn, TyI.isAgg, isSeq, isNum, sliceA, boundA, setParams, minL, minF, maxL, maxF, repZ, reduceIte, Nat.reduceLT, Nat.reduceLeDiff, Nat.reduceEqDiff, Nat.reduceAdd, Nat.reduceMul, Nat.reduceSub, Nat.reduceBEq, Int.reduceEq, Int.reduceLT, Int.reduceLE, Int.reduceToNat, reduceCtorEq, sx, fx26, h3]
    exact ⟨_, rfl, by simp only [Tr.get_set, Nat.reduceEqDiff, reduceIte]⟩
  obtain ⟨T1, h1, h2⟩ := run
  exact pureRun_of fn26 rfl (by simp [Tryz.f26]) h1 (by simp) (res_one h2) rfl

/-! ### copies of bytes -/
theorem clone_run (bs : List Nat) (vk : VK) (hk : vk ≠ .nil) (hn : bs.length ≤ 1000000) : pureRun (callN lawProg (k + 1)) (.func 31 [] []) [.vs vk (bytesV bs)] = some (.vs .some (bytesV bs), true) := by
  have hnil : eqNilS (.vs vk (bytesV bs)) (.vs .nil []) = some false := by cases vk <;> first | exact absurd rfl hk | rfl
  by_cases h0 : bs = []
  · subst h0
    have run : ∃ T1 σ1, execC lawProg (callN lawProg k) k 31 8 (bodyOf Tryz.f31) (initT 0 [.vs vk (bytesV [])] .nil) AMem.empty = some (.ret, T1, σ1) ∧ T1.get 2 = some (.slice 0 0 0 (some 0) 1) ∧ σ1.get 0 = some (.row 1 false (bytesV ([] ++ []))) := by
      simp only [bodyOf, Tryz.f31, Option.getD_some, initT, runOps, runD, again, step1, wantA, opSem, evalO, evalL, evalOpt, evalParts, putA, ofConst, ofScalar, ofScalars, abin, abinInt, aun, convA, builtinA, oneTy, elemTy, loadA, storeA, storeCellsA, setAt, partA, fillA, placesA, isFn, TyI.isAgg, isSeq, isNum, sliceA, boundA, setParams, minL, minF, maxL, maxF, repZ, reduceIte, Nat.reduceLT, Nat.reduceLeDiff, Nat.reduceEqDiff, Nat.reduceAdd, Nat.reduceMul, Nat.reduceSub, Nat.reduceBEq, Int.reduceEq, Int.reduceLT, Int.reduceLE, Int.reduceToNat, reduceCtorEq, sx, fx31, aeq, hnil, eqTy, repZ, appendA, source_bytes]
      exact ⟨_, _, rfl, by simp only [Tr.get_set, Nat.reduceEqDiff, reduceIte], rfl⟩
    obtain ⟨T1, σ1, h1, h2, h3⟩ := run
    exact pureRun_of fn31 rfl (by simp [Tryz.f31]) h1 (by simp) (res_one h2) (snap_bytes (bs := []) rfl h3)
  · have hpos : ¬ bs.length = 0 := fun e => h0 (List.eq_nil_of_length_eq_zero e)
    have hfit : ¬ bs.length ≤ 0 := by omega
    have hby : 0 + bs.length ≤ mostBytes := by unfold mostBytes; omega
    have run : ∃ T1 σ1, execC lawProg (callN lawProg k) k 31 8 (bodyOf Tryz.f31) (initT 0 [.vs vk (bytesV bs)] .nil) AMem.empty = some (.ret, T1, σ1) ∧ T1.get 2 = some (.slice 1 0 bs.length none 1) ∧ σ1.get 1 = some (.row 1 false (bytesV (bs ++ []))) := by
      simp only [bodyOf, Tryz.f31, Option.getD_some, initT, runOps, runD, again, step1, wantA, opSem, evalO, evalL, evalOpt, evalParts, putA, ofConst, ofScalar, ofScalars, abin, abinInt, aun, convA, builtinA, oneTy, elemTy, loadA, storeA, storeCellsA, setAt, partA, fillA, placesA, isFn, TyI.isAgg, isSeq, isNum, sliceA, boundA, setParams, minL, minF, maxL, maxF, repZ, reduceIte, Nat.reduceLT, Nat.reduceLeDiff, Nat.reduceEqDiff, Nat.reduceAdd, Nat.reduceMul, Nat.reduceSub, Nat.reduceBEq, Int.reduceEq, Int.reduceLT, Int.reduceLE, Int.reduceToNat, reduceCtorEq, sx, fx31, aeq, hnil, eqTy, repZ, appendA, source_bytes, hpos, hfit, Nat.zero_add, show bs.length ≤ mostBytes from by omega]
      exact ⟨_, _, rfl, by simp only [Tr.get_set, Nat.reduceEqDiff, reduceIte], by simp only [AMem.get_push, reduceIte, AMem.next_push, next_empty, List.append_nil]⟩
    obtain ⟨T1, σ1, h1, h2, h3⟩ := run
    exact pureRun_of fn31 rfl (by simp [Tryz.f31]) h1 (by simp) (res_one h2) (snap_bytes (more := []) rfl h3)
theorem clone_call (bs : List Nat) (vk : VK) (hv : vk ≠ .nil) (hn : bs.length ≤ 1000000) (hk : 1 ≤ k) : pureCall lawProg (callN lawProg k) (.func 31 [] []) [.vs vk (bytesV bs)] σ = some (.vs .some (bytesV bs), σ) := by
  obtain ⟨k, rfl⟩ : ∃ m, k = m + 1 := ⟨k - 1, by omega⟩
  exact pureCall_of rfl (memo31 _) (clone_run bs vk hv hn)
theorem awake_call (call : CallA) : pureCall lawProg call (.func 8 [] []) [] σ = some (.bool true, σ) := pureCall_memo (args := []) rfl memo8
end Go.Proofs.YtkamjhhodnmoiaaGreatDoor
