/- Packets and nets: what they are as values; copies of packets. -/
import Derived.Test.YtikhidpcaefjiaaGreatDoorA1
import Derived.Test.YtikhidpcaefjiaaGreatDoorPaleList
set_option maxRecDepth 100000
set_option linter.unusedSimpArgs false
set_option linter.unusedVariables false
namespace Go.Proofs.YtikhidpcaefjiaaGreatDoor
open Go Go.Proofs.YtikhidpcaefjiaaGreatDoor.Pale
variable {k : Nat} {σ : AMem}

structure Pk where
  fr : Int
  to : Int
  vk : VK
  b : List Nat
def pkC (p : Pk) : List AVal := [.int .i64 p.fr, .int .i64 p.to, .vs p.vk (bytesV p.b)]
def pkV (p : Pk) : AVal := .agg (pkC p)
def cp (p : Pk) : Pk := { p with vk := .some }
def netV (h : Int) (vk : VK) (ps : List Pk) : AVal := .agg [.int .i64 h, .vs vk (ps.map pkV)]
/-- The cells of a packet whose bytes lie in a row. -/
def pkM (p : Pk) (r : Nat) : List AVal := [.int .i64 p.fr, .int .i64 p.to, .slice r 0 p.b.length (capOf p.b) 1]

theorem copyPacket_exec (p : Pk) (hn : p.b.length ≤ 1000000) : ∃ T1 σ1 r, execC lawProg (callN lawProg k) k 24 9 (bodyOf Tryz.f24) (initT 0 [pkV p] .nil) σ = some (.ret, T1, σ1) ∧
    resultsA lawProg T1 σ1 Tryz.f24.results.toList = some [.agg (pkM p r)] ∧ Ext σ σ1 ∧ σ.next ≤ r ∧ r < σ1.next ∧ σ1.get r = some (.row 1 false (bytesV p.b)) := by
  obtain ⟨fr, to, vk, b⟩ := p
  let base : AMem := (σ.push (.row 3 true [.int .i64 fr, .int .i64 to, .vs vk (bytesV b)])).push (.row 3 true [.int .i64 0, .int .i64 0, .vs .nil []])
  obtain ⟨r, σ', ha, hx, hr1, hr2, hr3⟩ := copy_at (σ := base) (.vs vk (bytesV b)) (fun σ => source_bytes σ vk b) hn
  have g0 : σ'.get σ.next = some (.row 3 true [.int .i64 fr, .int .i64 to, .vs vk (bytesV b)]) := by
    rw [hx.2 _ (by simp [base]; omega)]
    simp only [base, AMem.get_push, AMem.next_push, Nat.add_eq_left, Nat.reduceEqDiff, reduceIte]
  have g1 : σ'.get (σ.next + 1) = some (.row 3 true [.int .i64 0, .int .i64 0, .vs .nil []]) := by
    rw [hx.2 _ (by simp [base])]
    simp only [base, AMem.get_push, AMem.next_push, reduceIte]
  simp only [base, AMem.next_push, Nat.add_assoc, Nat.reduceAdd] at ha hr1
  have hq : ¬ (σ.next + 1 = σ.next) := by omega
  have hq2 : ¬ (σ.next = σ.next + 1) := by omega
  have hx2 := hx
  have e : ∃ T1, execC lawProg (callN lawProg k) k 24 9 (bodyOf Tryz.f24) (initT 0 [.agg [.int .i64 fr, .int .i64 to, .vs vk (bytesV b)]] .nil) σ = some (.ret, T1, (σ'.put σ.next (.row 3 true [.int .i64 fr, .int .i64 to, .slice r 0 b.length (capOf b) 1])).put (σ.next + 1) (.row 3 true [.int .i64 fr, .int .i64 to, .slice r 0 b.length (capOf b) 1])) ∧ T1.get 2 = some (.ptr (σ.next + 1) 0) := by
    simp only [bodyOf, Tryz.f24, Option.getD_some, initT, q_seq, q_cond, q_block, q_region, q_drawn, q_skip, q_exit, q_ret, runOps, runD, again, step1, wantA, opSem, evalO, evalL, evalOpt, evalParts, putA, ofConst, ofScalar, ofScalars, abin, abinInt, aun, convA, builtinA, oneTy, elemTy, lenB_vs, lenB_sl, lenB_str, loadA, storeA, storeCellsA, setAt, partA, fillA, placesA, isFn, TyI.isAgg, isSeq, isNum, sliceA, boundA, cells_bool, one_bool, cells_int, one_int, cells_str, one_str, cells_ptr, one_ptr, cells_nilptr, one_nilptr, cells_slice, one_slice, cells_vs, one_vs, cells_vptr, one_vptr, cells_func, one_func, cells_yield, one_yield, cells_nilfn, one_nilfn, cells_nilmap, one_nilmap, cells_map, one_map, cells_agg, setParams, Tr.get_set, AMem.get_put, AMem.get_push, AMem.next_put, AMem.next_push, AMem.get_empty, next_empty, Option.map_some, Option.map_none, Option.bind_some, reduceIte, Nat.reduceLT, Nat.reduceLeDiff, Nat.reduceEqDiff, Nat.reduceAdd, Nat.reduceMul, Nat.reduceSub, Nat.reduceBEq, Nat.zero_add, Nat.add_zero, Nat.mul_one, Nat.one_mul, Nat.zero_mul, and_self, and_true, true_and, false_and, and_false, Bool.and_true, Bool.true_and, Bool.and_false, Bool.false_and, if_true, if_false, Int.reduceEq, Int.reduceLT, Int.reduceLE, Int.reduceToNat, Bool.false_eq_true, Bool.not_true, Bool.not_false, BEq.rfl, beq_true_true, beq_true_false, beq_false_true, beq_false_false, List.length_cons, List.length_nil, List.all_cons, List.all_nil, List.getElem?_cons_zero, List.getElem?_cons_succ, List.getElem?_nil, List.getElem?_toArray, List.take_succ_cons, List.take_zero, List.drop_succ_cons, List.drop_zero, List.set_cons_zero, List.set_cons_succ, List.append_nil, List.nil_append, List.cons_append, decide_true, decide_false, decide_eq_true_eq, Option.isNone_none, Option.isNone_some, Option.isSome_none, Option.isSome_some, Bool.or_true, Bool.true_or, Bool.or_false, Bool.false_or, ne_eq, not_false_eq_true, not_true_eq_false, reduceCtorEq, eq_self, beq_refl, minL, minF, maxL, maxF, repZ, ty3, ty5, ty22, ty44, Nat.add_assoc, Nat.add_eq_left, Nat.left_eq_add, Nat.add_left_cancel_iff, ha, g0, g1]
    exact ⟨_, rfl, by simp only [Tr.get_set, Nat.reduceEqDiff, reduceIte]⟩
  obtain ⟨T1, e1, e2⟩ := e
  refine ⟨T1, _, r, e1, ?_, ?_, by omega, hr2, ?_⟩
  · simp only [Tryz.f24, resultsA, resultA, q_seq, q_cond, q_block, q_region, q_drawn, q_skip, q_exit, q_ret, runOps, runD, again, step1, wantA, opSem, evalO, evalL, evalOpt, evalParts, putA, ofConst, ofScalar, ofScalars, abin, abinInt, aun, convA, builtinA, oneTy, elemTy, lenB_vs, lenB_sl, lenB_str, loadA, storeA, storeCellsA, setAt, partA, fillA, placesA, isFn, TyI.isAgg, isSeq, isNum, sliceA, boundA, cells_bool, one_bool, cells_int, one_int, cells_str, one_str, cells_ptr, one_ptr, cells_nilptr, one_nilptr, cells_slice, one_slice, cells_vs, one_vs, cells_vptr, one_vptr, cells_func, one_func, cells_yield, one_yield, cells_nilfn, one_nilfn, cells_nilmap, one_nilmap, cells_map, one_map, cells_agg, setParams, Tr.get_set, AMem.get_put, AMem.get_push, AMem.next_put, AMem.next_push, AMem.get_empty, next_empty, Option.map_some, Option.map_none, Option.bind_some, reduceIte, Nat.reduceLT, Nat.reduceLeDiff, Nat.reduceEqDiff, Nat.reduceAdd, Nat.reduceMul, Nat.reduceSub, Nat.reduceBEq, Nat.zero_add, Nat.add_zero, Nat.mul_one, Nat.one_mul, Nat.zero_mul, and_self, and_true, true_and, false_and, and_false, Bool.and_true, Bool.true_and, Bool.and_false, Bool.false_and, if_true, if_false, Int.reduceEq, Int.reduceLT, Int.reduceLE, Int.reduceToNat, Bool.false_eq_true, Bool.not_true, Bool.not_false, BEq.rfl, beq_true_true, beq_true_false, beq_false_true, beq_false_false, List.length_cons, List.length_nil, List.all_cons, List.all_nil, List.getElem?_cons_zero, List.getElem?_cons_succ, List.getElem?_nil, List.getElem?_toArray, List.take_succ_cons, List.take_zero, List.drop_succ_cons, List.drop_zero, List.set_cons_zero, List.set_cons_succ, List.append_nil, List.nil_append, List.cons_append, decide_true, decide_false, decide_eq_true_eq, Option.isNone_none, Option.isNone_some, Option.isSome_none, Option.isSome_some, Bool.or_true, Bool.true_or, Bool.or_false, Bool.false_or, ne_eq, not_false_eq_true, not_true_eq_false, reduceCtorEq, eq_self, beq_refl, minL, minF, maxL, maxF, repZ, ty3, ty5, ty22, ty44, Nat.add_assoc, Nat.add_eq_left, Nat.left_eq_add, Nat.add_left_cancel_iff, e2]
    rfl
  · have h1 : Ext σ σ' := ((Ext.push _ _).trans (Ext.push _ _)).trans hx
    exact (h1.put _ _ (Nat.le_refl _)).put _ _ (by omega)
  · rw [AMem.get_put, if_neg (by omega), AMem.get_put, if_neg (by omega)]
    exact hr3
end Go.Proofs.YtikhidpcaefjiaaGreatDoor
