/- Sets of numbers as words: what upTo, between, TrailingZeros64 and In give. -/
import Derived.Test.YtoomnecfapihaaaGreatDoorN1
import Derived.Test.YtoomnecfapihaaaGreatDoorFacts
import Derived.Test.YtoomnecfapihaaaGreatDoorPaleRuns
set_option maxRecDepth 100000
set_option linter.unusedSimpArgs false
set_option linter.unusedVariables false
namespace Go.Proofs.YtoomnecfapihaaaGreatDoor
open Go Go.Proofs.YtoomnecfapihaaaGreatDoor.Pale
variable {k : Nat} {σ : AMem}

theorem rin_run (n a b : Int) : pureRun (callN lawProg (k + 1)) (.func 26 [] []) [.int .i64 n, .int .i64 a, .int .i64 b] = some (.bool (decide (a ≤ n ∧ n ≤ b)), true) := by
  have run : ∃ T1, execC lawProg (callN lawProg k) k 26 15 (bodyOf Tryz.f26) (initT 0 [.int .i64 n, .int .i64 a, .int .i64 b] .nil) AMem.empty = some (.ret, T1, AMem.empty) ∧ T1.get 6 = some (.bool (decide (a ≤ n ∧ n ≤ b))) := by
    by_cases h1 : a ≤ n
    · by_cases h2 : n ≤ b
      · simp only [bodyOf, Tryz.f26, Option.getD_some, initT, runOps, runD, again, step1, wantA, opSem, evalO, evalL, evalOpt, evalParts, putA, ofConst, ofScalar, ofScalars, abin, abinInt, aun, convA, builtinA, oneTy, elemTy, loadA, storeA, storeCellsA, setAt, partA, fillA, placesA, isFn, TyI.isAgg, isSeq, isNum, sliceA, boundA, setParams, minL, minF, maxL, maxF, repZ, reduceIte, Nat.reduceLT, Nat.reduceLeDiff, Nat.reduceEqDiff, Nat.reduceAdd, Nat.reduceMul, Nat.reduceSub, Nat.reduceBEq, Int.reduceEq, Int.reduceLT, Int.reduceLE, Int.reduceToNat, reduceCtorEq, sx, fx26, ge_iff_le, h1, h2]
        exact ⟨_, rfl, by simp only [Tr.get_set, Nat.reduceEqDiff, reduceIte]⟩
      · simp only [bodyOf, Tryz.f26, Option.getD_some, initT, runOps, runD, again, step1, wantA, opSem, evalO, evalL, evalOpt, evalParts, putA, ofConst, ofScalar, ofScalars, abin, abinInt, aun, convA, builtinA, oneTy, elemTy, loadA, storeA, storeCellsA, setAt, partA, fillA, placesA, isFn, TyI.isAgg, isSeq, isNum, sliceA, boundA, setParams, minL, minF, maxL, maxF, repZ, reduceIte, Nat.reduceLT, Nat.reduceLeDiff, Nat.reduceEqDiff, Nat.reduceAdd, Nat.reduceMul, Nat.reduceSub, Nat.reduceBEq, Int.reduceEq, Int.reduceLT, Int.reduceLE, Int.reduceToNat, reduceCtorEq, sx, fx26, ge_iff_le, h1, h2]
        exact ⟨_, rfl, by simp only [Tr.get_set, Nat.reduceEqDiff, reduceIte]⟩
    · simp only [bodyOf, Tryz.f26, Option.getD_some, initT, runOps, runD, again, step1, wantA, opSem, evalO, evalL, evalOpt, evalParts, putA, ofConst, ofScalar, ofScalars, abin, abinInt, aun, convA, builtinA, oneTy, elemTy, loadA, storeA, storeCellsA, setAt, partA, fillA, placesA, isFn, TyI.isAgg, isSeq, isNum, sliceA, boundA, setParams, minL, minF, maxL, maxF, repZ, reduceIte, Nat.reduceLT, Nat.reduceLeDiff, Nat.reduceEqDiff, Nat.reduceAdd, Nat.reduceMul, Nat.reduceSub, Nat.reduceBEq, Int.reduceEq, Int.reduceLT, Int.reduceLE, Int.reduceToNat, reduceCtorEq, sx, fx26, ge_iff_le, h1]
      exact ⟨_, rfl, by simp only [Tr.get_set, Nat.reduceEqDiff, reduceIte]⟩
  obtain ⟨T1, h1, h2⟩ := run
  exact pureRun_of fn26 rfl (by simp [Tryz.f26]) h1 (by simp) (res_one h2) rfl
theorem rin_call (n a b : Int) (hk : 1 ≤ k) : pureCall lawProg (callN lawProg k) (.func 26 [] []) [.int .i64 n, .int .i64 a, .int .i64 b] σ = some (.bool (decide (a ≤ n ∧ n ≤ b)), σ) := by
  obtain ⟨k, rfl⟩ : ∃ m, k = m + 1 := ⟨k - 1, by omega⟩
  exact pureCall_of rfl (memo26 _) (rin_run n a b)

theorem upTo_run {n : Nat} (hn : n ≤ 60) : pureRun (callN lawProg (k + 1)) (.func 24 [] []) [.int .i64 (n : Nat)] = some (.int .u64 ((upW n).toNat : Nat), true) := by
  have run : ∃ T1, execC lawProg (callN lawProg k) k 24 7 (bodyOf Tryz.f24) (initT 0 [.int .i64 (n : Nat)] .nil) AMem.empty = some (.ret, T1, AMem.empty) ∧ T1.get 2 = some (.int .u64 ((upW n).toNat : Nat)) := by
    have hw := i64_succ (i := n) (by omega)
    have h0 : ¬ ((n + 1 : Nat) : Int) < 0 := by omega
    have hu := upW_run n (by omega)
    simp only [bodyOf, Tryz.f24, Option.getD_some, initT, runOps, runD, again, step1, wantA, opSem, evalO, evalL, evalOpt, evalParts, putA, ofConst, ofScalar, ofScalars, abin, abinInt, aun, convA, builtinA, oneTy, elemTy, loadA, storeA, storeCellsA, setAt, partA, fillA, placesA, isFn, TyI.isAgg, isSeq, isNum, sliceA, boundA, setParams, minL, minF, maxL, maxF, repZ, reduceIte, Nat.reduceLT, Nat.reduceLeDiff, Nat.reduceEqDiff, Nat.reduceAdd, Nat.reduceMul, Nat.reduceSub, Nat.reduceBEq, Int.reduceEq, Int.reduceLT, Int.reduceLE, Int.reduceToNat, reduceCtorEq, sx, fx24, hw, h0, hu]
    exact ⟨_, rfl, by simp only [Tr.get_set, Nat.reduceEqDiff, reduceIte]⟩
  obtain ⟨T1, h1, h2⟩ := run
  exact pureRun_of fn24 rfl (by simp [Tryz.f24]) h1 (by simp) (res_one h2) rfl
theorem upTo_call {n : Nat} (hn : n ≤ 60) (hk : 1 ≤ k) : pureCall lawProg (callN lawProg k) (.func 24 [] []) [.int .i64 (n : Nat)] σ = some (.int .u64 ((upW n).toNat : Nat), σ) := by
  obtain ⟨k, rfl⟩ : ∃ m, k = m + 1 := ⟨k - 1, by omega⟩
  exact pureCall_of rfl (memo24 _) (upTo_run hn)

theorem between_run {f t : Nat} (hf : 1 ≤ f) (hf2 : f ≤ 60) (ht : t ≤ 60) : pureRun (callN lawProg (k + 2)) (.func 50 [] []) [.int .i64 (f : Nat), .int .i64 (t : Nat)] = some (.int .u64 ((betW f t).toNat : Nat), true) := by
  have run : ∃ T1, execC lawProg (callN lawProg (k + 1)) (k + 1) 50 11 (bodyOf Tryz.f50) (initT 0 [.int .i64 (f : Nat), .int .i64 (t : Nat)] .nil) AMem.empty = some (.ret, T1, AMem.empty) ∧ T1.get 4 = some (.int .u64 ((betW f t).toNat : Nat)) := by
    have hw : IntKind.i64.wrap (((f : Nat) : Int) - 1) = ((f - 1 : Nat) : Int) := by rw [i64_id (by omega) (by omega)]; omega
    have h1 := fun (σ : AMem) => upTo_call (k := k + 1) (σ := σ) ht (by omega)
    have h2 := fun (σ : AMem) => upTo_call (k := k + 1) (σ := σ) (n := f - 1) (by omega) (by omega)
    simp only [bodyOf, Tryz.f50, Option.getD_some, initT, runOps, runD, again, step1, wantA, opSem, evalO, evalL, evalOpt, evalParts, putA, ofConst, ofScalar, ofScalars, abin, abinInt, aun, convA, builtinA, oneTy, elemTy, loadA, storeA, storeCellsA, setAt, partA, fillA, placesA, isFn, TyI.isAgg, isSeq, isNum, sliceA, boundA, setParams, minL, minF, maxL, maxF, repZ, reduceIte, Nat.reduceLT, Nat.reduceLeDiff, Nat.reduceEqDiff, Nat.reduceAdd, Nat.reduceMul, Nat.reduceSub, Nat.reduceBEq, Int.reduceEq, Int.reduceLT, Int.reduceLE, Int.reduceToNat, reduceCtorEq, sx, fx50, hw, h1, h2, u64_andNot]
    exact ⟨_, rfl, by simp only [Tr.get_set, Nat.reduceEqDiff, reduceIte, betW]⟩
  obtain ⟨T1, h1, h2⟩ := run
  exact pureRun_of fn50 rfl (by simp [Tryz.f50]) h1 (by simp) (res_one h2) rfl
theorem between_call {f t : Nat} (hf : 1 ≤ f) (hf2 : f ≤ 60) (ht : t ≤ 60) (hk : 2 ≤ k) : pureCall lawProg (callN lawProg k) (.func 50 [] []) [.int .i64 (f : Nat), .int .i64 (t : Nat)] σ = some (.int .u64 ((betW f t).toNat : Nat), σ) := by
  obtain ⟨k, rfl⟩ : ∃ m, k = m + 2 := ⟨k - 2, by omega⟩
  exact pureCall_of rfl (memo50 _) (between_run hf hf2 ht)

/-! ### the lowest bit -/
def tabB : List Int := [0, 1, 56, 2, 57, 49, 28, 3, 61, 58, 42, 50, 38, 29, 17, 4, 62, 47, 59, 36, 45, 43, 51, 22, 53, 39, 33, 30, 24, 18, 12, 5, 63, 55, 48, 27, 60, 41, 37, 16, 46, 35, 44, 21, 52, 32, 23, 11, 54, 26, 40, 15, 34, 20, 31, 10, 25, 14, 19, 9, 13, 8, 7, 6]
theorem globB : lawProg.glob 0 = some (tabB.map fun i => AVal.int .u8 i) := by kernel_rfl
theorem tab_all : ∀ i, i < 64 → tabB[((BitVec.twoPow 64 i * 285870213051353865#64) >>> 58).toNat]? = some (i : Int) ∧ ((BitVec.twoPow 64 i * 285870213051353865#64) >>> 58).toNat < 64 := by decide +kernel
noncomputable def tzB : Code := bodyOf Tryz.f69
theorem tz_form : bodyOf Tryz.f69 = .seq (stmtC tzB 0) (.seq (.seq (stmtC tzB 1) (stmtC tzB 2)) (.seq (stmtC tzB 3) .ret)) := rfl
theorem tz_a {x0 : Int} {T : Tr AVal} (t0 : T.get 0 = some (.int .u64 x0)) : ∃ T1, execC lawProg (callN lawProg k) k 69 14 (stmtC tzB 0) T σ = some (.normal, T1, σ) ∧ T1.get 0 = some (.int .u64 x0) := by
  simp only [tzB, bodyOf, Tryz.f69, Option.getD_some, flatC, stmtC, List.append_assoc, runOps, runD, again, step1, wantA, opSem, evalO, evalL, evalOpt, evalParts, putA, ofConst, ofScalar, ofScalars, abin, abinInt, aun, convA, builtinA, oneTy, elemTy, loadA, storeA, storeCellsA, setAt, partA, fillA, placesA, isFn, TyI.isAgg, isSeq, isNum, sliceA, boundA, setParams, minL, minF, maxL, maxF, repZ, reduceIte, Nat.reduceLT, Nat.reduceLeDiff, Nat.reduceEqDiff, Nat.reduceAdd, Nat.reduceMul, Nat.reduceSub, Nat.reduceBEq, Int.reduceEq, Int.reduceLT, Int.reduceLE, Int.reduceToNat, reduceCtorEq, sx, fx69]
  exact ⟨_, rfl, by simp only [Tr.get_set, Nat.reduceEqDiff, reduceIte, t0]⟩
theorem tz_b {x0 : Int} {T : Tr AVal} (t0 : T.get 0 = some (.int .u64 x0)) (h0 : (x0 == 0) = false) : ∃ T1, execC lawProg (callN lawProg k) k 69 14 (.seq (stmtC tzB 1) (stmtC tzB 2)) T σ = some (.normal, T1, σ) ∧ T1.get 0 = some (.int .u64 x0) := by
  simp only [tzB, bodyOf, Tryz.f69, Option.getD_some, flatC, stmtC, List.append_assoc, runOps, runD, again, step1, wantA, opSem, evalO, evalL, evalOpt, evalParts, putA, ofConst, ofScalar, ofScalars, abin, abinInt, aun, convA, builtinA, oneTy, elemTy, loadA, storeA, storeCellsA, setAt, partA, fillA, placesA, isFn, TyI.isAgg, isSeq, isNum, sliceA, boundA, setParams, minL, minF, maxL, maxF, repZ, reduceIte, Nat.reduceLT, Nat.reduceLeDiff, Nat.reduceEqDiff, Nat.reduceAdd, Nat.reduceMul, Nat.reduceSub, Nat.reduceBEq, Int.reduceEq, Int.reduceLT, Int.reduceLE, Int.reduceToNat, reduceCtorEq, sx, fx69, t0, h0]
  exact ⟨_, rfl, by simp only [Tr.get_set, Nat.reduceEqDiff, reduceIte, t0]⟩
theorem tz_c {x0 xn xa xm : Int} {i j : Nat} {tab : List AVal} {T : Tr AVal} (t0 : T.get 0 = some (.int .u64 x0)) (hg : lawProg.glob 0 = some tab) (hn : IntKind.u64.wrap (0 - x0) = xn) (ha : IntKind.u64.wrap ((BitVec.ofInt IntKind.u64.bits x0 &&& BitVec.ofInt IntKind.u64.bits xn).toNat : Int) = xa) (hm : IntKind.u64.wrap (xa * 285870213051353865) = xm) (hs : xm.fdiv (2 ^ (min (58 : Int).toNat IntKind.u64.bits)) = (j : Nat)) (hj : ((j : Nat) : Int) < ((64 : Nat) : Int)) (hget : tab[j]? = some (.int .u8 (i : Nat))) (hw : IntKind.i64.wrap ((i : Nat) : Int) = ((i : Nat) : Int)) :
    ∃ T1, execC lawProg (callN lawProg k) k 69 14 (stmtC tzB 3) T σ = some (.normal, T1, σ) ∧ T1.get 2 = some (.int .i64 (i : Nat)) := by
  have h58 : ¬ (58 : Int) < 0 := by decide
  simp only [tzB, bodyOf, Tryz.f69, Option.getD_some, flatC, stmtC, List.append_assoc]
  simp only [List.getElem?_cons_zero, List.getElem?_cons_succ, List.cons_append, List.nil_append, Option.getD_some]
  generalize (285870213051353865 : Int) = C at hm ⊢
  generalize (58 : Int) = S at hs h58 ⊢
  simp only [runOps, runD, again, step1, wantA, opSem, evalO, evalL, evalOpt, evalParts, putA, ofConst, ofScalar, ofScalars, abin, abinInt, aun, convA, builtinA, oneTy, elemTy, loadA, storeA, storeCellsA, setAt, partA, fillA, placesA, isFn, TyI.isAgg, isSeq, isNum, sliceA, boundA, setParams, minL, minF, maxL, maxF, repZ, reduceIte, Nat.reduceLT, Nat.reduceLeDiff, Nat.reduceEqDiff, Nat.reduceAdd, Nat.reduceMul, Nat.reduceSub, Nat.reduceBEq, Int.reduceEq, Int.reduceLT, Int.reduceLE, Int.reduceToNat, reduceCtorEq, sx, fx69, t0, hn, ha, hm, hs, h58, hg, hj, Int.natCast_nonneg, Int.toNat_natCast, hget, hw]
  exact ⟨_, rfl, by simp only [Tr.get_set, Nat.reduceEqDiff, reduceIte]⟩
theorem tz_exec {x0 xn xa xm : Int} {i j : Nat} {tab : List AVal} (hg : lawProg.glob 0 = some tab) (h0 : (x0 == 0) = false) (hn : IntKind.u64.wrap (0 - x0) = xn) (ha : IntKind.u64.wrap ((BitVec.ofInt IntKind.u64.bits x0 &&& BitVec.ofInt IntKind.u64.bits xn).toNat : Int) = xa) (hm : IntKind.u64.wrap (xa * 285870213051353865) = xm) (hs : xm.fdiv (2 ^ (min (58 : Int).toNat IntKind.u64.bits)) = (j : Nat)) (hj : ((j : Nat) : Int) < ((64 : Nat) : Int)) (hget : tab[j]? = some (.int .u8 (i : Nat))) (hw : IntKind.i64.wrap ((i : Nat) : Int) = ((i : Nat) : Int)) :
    ∃ T1, execC lawProg (callN lawProg k) k 69 14 (bodyOf Tryz.f69) (initT 0 [.int .u64 x0] .nil) AMem.empty = some (.ret, T1, AMem.empty) ∧ T1.get 2 = some (.int .i64 (i : Nat)) := by
  obtain ⟨T1, a1, a0⟩ := tz_a (k := k) (σ := AMem.empty) (T := initT 0 [.int .u64 x0] .nil) (x0 := x0) rfl
  obtain ⟨T2, b1, b0⟩ := tz_b (k := k) (σ := AMem.empty) a0 h0
  obtain ⟨T3, c1, c0⟩ := tz_c (k := k) (σ := AMem.empty) b0 hg hn ha hm hs hj hget hw
  refine ⟨T3, ?_, c0⟩
  rw [tz_form, exec_seq a1, exec_seq b1, exec_seq c1, q_ret]
theorem tz_run {x : BitVec 64} {i : Nat} (h : Low x i) : pureRun (callN lawProg (k + 1)) (.func 69 [] []) [.int .u64 (x.toNat : Nat)] = some (.int .i64 (i : Nat), true) := by
  have h0 : (((x.toNat : Nat) : Int) == 0) = false := by
    rw [beq_eq_false_iff_ne]
    intro e
    apply low_ne h
    apply BitVec.eq_of_toNat_eq
    simp only [BitVec.toNat_ofNat]
    omega
  obtain ⟨htab, hlt⟩ := tab_all i h.1
  have hb : x &&& -x = BitVec.twoPow 64 i := low_bit h
  obtain ⟨y, hy⟩ : ∃ y, y = BitVec.twoPow 64 i := ⟨_, rfl⟩
  rw [← hy] at htab hlt hb
  have ha := u64_and x (-x)
  rw [hb] at ha
  obtain ⟨T1, h1, h2⟩ := tz_exec (k := k) globB h0 (u64_neg x) ha (u64_mul y 285870213051353865#64) (u64_shr (y * 285870213051353865#64) 58 (by omega)) (by omega) (by rw [List.getElem?_map, htab]; rfl) (i64_id (by omega) (by have := h.1; omega))
  exact pureRun_of fn69 rfl (by simp [Tryz.f69]) h1 (by simp) (res_one h2) rfl
theorem tz_call {x : BitVec 64} {i : Nat} (h : Low x i) (hk : 1 ≤ k) : pureCall lawProg (callN lawProg k) (.func 69 [] []) [.int .u64 (x.toNat : Nat)] σ = some (.int .i64 (i : Nat), σ) := by
  obtain ⟨k, rfl⟩ : ∃ m, k = m + 1 := ⟨k - 1, by omega⟩
  exact pureCall_of rfl (memo69 _) (tz_run h)
end Go.Proofs.YtoomnecfapihaaaGreatDoor
