/- The loop of slices.Chunk, and pack.Split whole. -/
import Derived.Test.YtikhidpcaefjiaaGreatDoorA2
set_option maxRecDepth 100000
set_option linter.unusedSimpArgs false
set_option linter.unusedVariables false
namespace Go.Proofs.YtikhidpcaefjiaaGreatDoor
open Go Go.Proofs.YtikhidpcaefjiaaGreatDoor.Pale
variable {k : Nat} {σ : AMem}

/-- What stands in memory when j chunks are made. -/
def SplitMem (T0 : Tr AVal) (name : Int) (bs : List Nat) (s j : Nat) (σ : AMem) : Prop :=
  σ.get 0 = some (.row 1 false [.int .i64 name]) ∧ (∃ out, σ.get 1 = some (.row 1 false [out]) ∧ Grew 5 σ 4 true out j (chunksC name (fun _ => 0) bs s j)) ∧ σ.get 2 = some (.row 1 false [.vs .some (bytesV bs)]) ∧ σ.get 3 = some (.row 1 false [.int .i64 s]) ∧
    σ.get 4 = some (.loop (rfLoop Tryz.f10 10 T0)) ∧ 5 ≤ σ.next

theorem chunks_call {T0 : Tr AVal} {name : Int} {bs : List Nat} {s : Nat} (hT4 : T0.get 4 = some (.ptr 0 0)) (hT6 : T0.get 6 = some (.ptr 1 0)) (hs1 : 1 ≤ s) (hs2 : s ≤ 100) (hn : bs.length ≤ 3000) (hk : 4000 ≤ k) (h : SplitMem T0 name bs s 0 σ) :
    ∃ σ', callN lawProg k (.func 98 [] [.ptr 2 0, .ptr 3 0]) [.yield 4] σ = some (.tuple [], σ') ∧ SplitMem T0 name bs s (manyOf bs.length s) σ' := by
  obtain ⟨k, rfl⟩ : ∃ m, k = m + 2 := ⟨k - 2, by omega⟩
  have run : ∃ T1 σ1, execC lawProg (callN lawProg (k + 1)) (k + 1) 98 31 (bodyOf Tryz.f98) (initT 0 [.yield 4, .ptr 2 0, .ptr 3 0] .nil) σ = some (.normal, T1, σ1) ∧ SplitMem T0 name bs s (manyOf bs.length s) σ1 := by
    simp only [bodyOf, Tryz.f98, Option.getD_some, initT, q_seq, q_cond, q_block, q_region, q_drawn, q_skip, q_exit, q_ret, runOps, runD, again, step1, wantA, opSem, evalO, evalL, evalOpt, evalParts, putA, ofConst, ofScalar, ofScalars, abin, abinInt, aun, convA, builtinA, oneTy, elemTy, lenB_vs, lenB_sl, lenB_str, loadA, storeA, storeCellsA, setAt, partA, fillA, placesA, isFn, TyI.isAgg, isSeq, isNum, sliceA, boundA, cells_bool, one_bool, cells_int, one_int, cells_str, one_str, cells_ptr, one_ptr, cells_nilptr, one_nilptr, cells_slice, one_slice, cells_vs, one_vs, cells_vptr, one_vptr, cells_func, one_func, cells_yield, one_yield, cells_nilfn, one_nilfn, cells_nilmap, one_nilmap, cells_map, one_map, cells_agg, setParams, Tr.get_set, AMem.get_put, AMem.get_push, AMem.next_put, AMem.next_push, AMem.get_empty, next_empty, Option.map_some, Option.map_none, Option.bind_some, reduceIte, Nat.reduceLT, Nat.reduceLeDiff, Nat.reduceEqDiff, Nat.reduceAdd, Nat.reduceMul, Nat.reduceSub, Nat.reduceBEq, Nat.zero_add, Nat.add_zero, Nat.mul_one, Nat.one_mul, Nat.zero_mul, and_self, and_true, true_and, false_and, and_false, Bool.and_true, Bool.true_and, Bool.and_false, Bool.false_and, if_true, if_false, Int.reduceEq, Int.reduceLT, Int.reduceLE, Int.reduceToNat, Bool.false_eq_true, Bool.not_true, Bool.not_false, BEq.rfl, beq_true_true, beq_true_false, beq_false_true, beq_false_false, List.length_cons, List.length_nil, List.all_cons, List.all_nil, List.getElem?_cons_zero, List.getElem?_cons_succ, List.getElem?_nil, List.getElem?_toArray, List.take_succ_cons, List.take_zero, List.drop_succ_cons, List.drop_zero, List.set_cons_zero, List.set_cons_succ, List.append_nil, List.nil_append, List.cons_append, decide_true, decide_false, decide_eq_true_eq, Option.isNone_none, Option.isNone_some, Option.isSome_none, Option.isSome_some, Bool.or_true, Bool.true_or, Bool.or_false, Bool.false_or, ne_eq, not_false_eq_true, not_true_eq_false, reduceCtorEq, eq_self, beq_refl, minL, minF, maxL, maxF, repZ, ty3, ty4, ty5, ty22, ord98_3]
    generalize hL : execC _ _ _ _ _ (Code.loop _) _ _ = r
    obtain ⟨e, T', σ', rfl, _, rfl, hR⟩ : ∃ e T' σ', r = some (e, T', σ') ∧ e ≠ .normal ∧ (e = .exit 0 ∧ SplitMem T0 name bs s (manyOf bs.length s) σ') := by
      rw [← hL]
      have hmb : ∀ j, j ≤ manyOf bs.length s → j * s < 10000 := by
        intro j hj
        rcases Nat.eq_zero_or_pos j with rfl | hp
        · omega
        · have := (many_lt (n := bs.length) (s := s) (j := j - 1) hs1).1 (by omega)
          have h2 : (j - 1) * s + s = j * s := by rw [← Nat.succ_mul]; congr 1; omega
          omega
      have hm : manyOf bs.length s < k + 1 := by
        have := hmb _ (Nat.le_refl _)
        have h2 : manyOf bs.length s * 1 ≤ manyOf bs.length s * s := Nat.mul_le_mul_left _ hs1
        have h3 : manyOf bs.length s ≤ 3000 := by
          unfold manyOf
          rcases Nat.eq_zero_or_pos bs.length with h0 | h0
          · rw [h0]; simp; rw [Nat.div_eq_of_lt (by omega)]; omega
          · exact Nat.le_trans (Nat.div_le_of_le_mul (by
              have : bs.length + s - 1 ≤ s * bs.length := by
                obtain ⟨n, hn'⟩ : ∃ n, bs.length = n + 1 := ⟨bs.length - 1, by omega⟩
                rw [hn', Nat.mul_add, Nat.mul_one]
                have := Nat.mul_le_mul_right n hs1
                omega
              exact this)) hn
        omega
      refine exec_loop (fun j T σ => j ≤ manyOf bs.length s ∧ SplitMem T0 name bs s j σ ∧ T.get 0 = some (.yield 4) ∧ T.get 1 = some (.ptr 2 0) ∧ T.get 2 = some (.ptr 3 0) ∧ T.get 4 = some (.int .i64 ((j * s : Nat) : Int))) (manyOf bs.length s) hm ?_ ?_ ?_
      · rintro j hj T σ ⟨_, ⟨m0, ⟨out, m1, mg⟩, m2, m3, m4, m5⟩, h0, h1, h2, h4⟩
        have hlt := (many_lt (n := bs.length) hs1).1 hj
        have hjb := hmb j (by omega)
        have hj1 : j * 1 ≤ j * s := Nat.mul_le_mul_left _ hs1
        have hd1 : ((partOf bs s j).length) ≤ 1000000 := by rw [part_length hlt]; omega
        obtain ⟨σ', hround, r0, r1, r2, r3, r4, r5⟩ := split_round (k := k) (d := partOf bs s j) hT4 hT6 (by omega) hd1 (by omega) m4 m0 m1 mg m5 rfl
        have hyield : callN lawProg (k + 1) (.yield 4) [.vs .some (bytesV (partOf bs s j))] σ = some (.bool true, σ') := by simp only [callN]; exact hround
        let w := min s (bs.length - j * s)
        have hw1 : 1 ≤ w := by show 1 ≤ min s (bs.length - j * s); omega
        have hw2 : j * s + w ≤ bs.length := by show j * s + min s (bs.length - j * s) ≤ _; omega
        have hltI : (((j * s : Nat) : Int) < (bs.length : Int)) := by omega
        have hleI : (0 : Int) ≤ ((j * s : Nat) : Int) ∧ ((j * s : Nat) : Int) ≤ (bs.length : Int) := by omega
        have hmin : (if ((bs.length - j * s : Nat) : Int) < (s : Int) then ((bs.length - j * s : Nat) : Int) else (s : Int)) = (w : Int) := by
          show _ = ((min s (bs.length - j * s) : Nat) : Int)
          split <;> omega
        have hwrap : IntKind.i64.wrap (((j * s : Nat) : Int) + (w : Int)) = ((j * s + w : Nat) : Int) := by rw [i64_id (by omega) (by omega)]; omega
        have hb1 : (0 : Int) ≤ ((j * s + w : Nat) : Int) ∧ ((j * s + w : Nat) : Int) ≤ (bs.length : Int) := by omega
        have hb2 : (0 : Int) ≤ ((j * s + w : Nat) : Int) ∧ ((j * s + w : Nat) : Int) ≤ ((j * s + w : Nat) : Int) := by omega
        have hb3 : (0 : Int) ≤ ((j * s : Nat) : Int) ∧ ((j * s : Nat) : Int) ≤ ((j * s + w : Nat) : Int) := by omega
        have hne : (j * s + w == j * s) = false := by simp; omega
        have hpart : (bs.take (j * s + w)).drop (j * s) = partOf bs s j := by
          rw [List.drop_take]
          have : j * s + w - j * s = w := by omega
          rw [this]
          show (bs.drop (j * s)).take (min s (bs.length - j * s)) = (bs.drop (j * s)).take s
          rw [← List.length_drop, ← List.take_eq_take_min]
        have hwrap2 : IntKind.i64.wrap (((j * s : Nat) : Int) + (s : Int)) = (((j + 1) * s : Nat) : Int) := by
          rw [i64_id (by omega) (by omega), Nat.succ_mul]; omega
        refine ⟨_, _, by
          simp only [q_seq, q_cond, q_block, q_region, q_drawn, q_skip, q_exit, q_ret, runOps, runD, again, step1, wantA, opSem, evalO, evalL, evalOpt, evalParts, putA, ofConst, ofScalar, ofScalars, abin, abinInt, aun, convA, builtinA, oneTy, elemTy, lenB_vs, lenB_sl, lenB_str, loadA, storeA, storeCellsA, setAt, partA, fillA, placesA, isFn, TyI.isAgg, isSeq, isNum, sliceA, boundA, cells_bool, one_bool, cells_int, one_int, cells_str, one_str, cells_ptr, one_ptr, cells_nilptr, one_nilptr, cells_slice, one_slice, cells_vs, one_vs, cells_vptr, one_vptr, cells_func, one_func, cells_yield, one_yield, cells_nilfn, one_nilfn, cells_nilmap, one_nilmap, cells_map, one_map, cells_agg, setParams, Tr.get_set, AMem.get_put, AMem.get_push, AMem.next_put, AMem.next_push, AMem.get_empty, next_empty, Option.map_some, Option.map_none, Option.bind_some, reduceIte, Nat.reduceLT, Nat.reduceLeDiff, Nat.reduceEqDiff, Nat.reduceAdd, Nat.reduceMul, Nat.reduceSub, Nat.reduceBEq, Nat.zero_add, Nat.add_zero, Nat.mul_one, Nat.one_mul, Nat.zero_mul, and_self, and_true, true_and, false_and, and_false, Bool.and_true, Bool.true_and, Bool.and_false, Bool.false_and, if_true, if_false, Int.reduceEq, Int.reduceLT, Int.reduceLE, Int.reduceToNat, Bool.false_eq_true, Bool.not_true, Bool.not_false, BEq.rfl, beq_true_true, beq_true_false, beq_false_true, beq_false_false, List.length_cons, List.length_nil, List.all_cons, List.all_nil, List.getElem?_cons_zero, List.getElem?_cons_succ, List.getElem?_nil, List.getElem?_toArray, List.take_succ_cons, List.take_zero, List.drop_succ_cons, List.drop_zero, List.set_cons_zero, List.set_cons_succ, List.append_nil, List.nil_append, List.cons_append, decide_true, decide_false, decide_eq_true_eq, Option.isNone_none, Option.isNone_some, Option.isSome_none, Option.isSome_some, Bool.or_true, Bool.true_or, Bool.or_false, Bool.false_or, ne_eq, not_false_eq_true, not_true_eq_false, reduceCtorEq, eq_self, beq_refl, minL, minF, maxL, maxF, repZ, ty3, ty4, ty5, ty22, ord98_3, h0, h1, h2, h4, m2, m3, bytesV_length, hltI, bytesV_cells, hleI, Int.toNat_natCast, bytesV_take, bytesV_drop, List.length_drop, List.length_take, Nat.min_self, hmin, hwrap, hb1, hb2, hb3, hne, hpart]
          simp only [hyield, q_seq, q_cond, q_block, q_region, q_drawn, q_skip, q_exit, q_ret, runOps, runD, again, step1, wantA, opSem, evalO, evalL, evalOpt, evalParts, putA, ofConst, ofScalar, ofScalars, abin, abinInt, aun, convA, builtinA, oneTy, elemTy, lenB_vs, lenB_sl, lenB_str, loadA, storeA, storeCellsA, setAt, partA, fillA, placesA, isFn, TyI.isAgg, isSeq, isNum, sliceA, boundA, cells_bool, one_bool, cells_int, one_int, cells_str, one_str, cells_ptr, one_ptr, cells_nilptr, one_nilptr, cells_slice, one_slice, cells_vs, one_vs, cells_vptr, one_vptr, cells_func, one_func, cells_yield, one_yield, cells_nilfn, one_nilfn, cells_nilmap, one_nilmap, cells_map, one_map, cells_agg, setParams, Tr.get_set, AMem.get_put, AMem.get_push, AMem.next_put, AMem.next_push, AMem.get_empty, next_empty, Option.map_some, Option.map_none, Option.bind_some, reduceIte, Nat.reduceLT, Nat.reduceLeDiff, Nat.reduceEqDiff, Nat.reduceAdd, Nat.reduceMul, Nat.reduceSub, Nat.reduceBEq, Nat.zero_add, Nat.add_zero, Nat.mul_one, Nat.one_mul, Nat.zero_mul, and_self, and_true, true_and, false_and, and_false, Bool.and_true, Bool.true_and, Bool.and_false, Bool.false_and, if_true, if_false, Int.reduceEq, Int.reduceLT, Int.reduceLE, Int.reduceToNat, Bool.false_eq_true, Bool.not_true, Bool.not_false, BEq.rfl, beq_true_true, beq_true_false, beq_false_true, beq_false_false, List.length_cons, List.length_nil, List.all_cons, List.all_nil, List.getElem?_cons_zero, List.getElem?_cons_succ, List.getElem?_nil, List.getElem?_toArray, List.take_succ_cons, List.take_zero, List.drop_succ_cons, List.drop_zero, List.set_cons_zero, List.set_cons_succ, List.append_nil, List.nil_append, List.cons_append, decide_true, decide_false, decide_eq_true_eq, Option.isNone_none, Option.isNone_some, Option.isSome_none, Option.isSome_some, Bool.or_true, Bool.true_or, Bool.or_false, Bool.false_or, ne_eq, not_false_eq_true, not_true_eq_false, reduceCtorEq, eq_self, beq_refl, minL, minF, maxL, maxF, repZ, ty3, ty4, ty5, ty22, ord98_3, h2, h4, r3, m3, hwrap2]
          rfl, hj, ⟨r0, r1, by rw [r2]; exact m2, by rw [r3]; exact m3, by rw [r4]; exact m4, r5⟩, ?_, ?_, ?_, ?_⟩
        all_goals simp only [Tr.get_set, Nat.reduceEqDiff, reduceIte, h0, h1, h2]
      · rintro T σ ⟨_, hmem, h0, h1, h2, h4⟩
        have hge : ¬ ((manyOf bs.length s * s : Nat) : Int) < (bs.length : Int) := by
          have := (many_lt (n := bs.length) (j := manyOf bs.length s) hs1).2
          intro hc
          have := this (by omega)
          omega
        obtain ⟨m0, ⟨out, m1, mg⟩, m2, m3, m4, m5⟩ := id hmem
        exact ⟨_, _, _, by
          simp only [q_seq, q_cond, q_block, q_region, q_drawn, q_skip, q_exit, q_ret, runOps, runD, again, step1, wantA, opSem, evalO, evalL, evalOpt, evalParts, putA, ofConst, ofScalar, ofScalars, abin, abinInt, aun, convA, builtinA, oneTy, elemTy, lenB_vs, lenB_sl, lenB_str, loadA, storeA, storeCellsA, setAt, partA, fillA, placesA, isFn, TyI.isAgg, isSeq, isNum, sliceA, boundA, cells_bool, one_bool, cells_int, one_int, cells_str, one_str, cells_ptr, one_ptr, cells_nilptr, one_nilptr, cells_slice, one_slice, cells_vs, one_vs, cells_vptr, one_vptr, cells_func, one_func, cells_yield, one_yield, cells_nilfn, one_nilfn, cells_nilmap, one_nilmap, cells_map, one_map, cells_agg, setParams, Tr.get_set, AMem.get_put, AMem.get_push, AMem.next_put, AMem.next_push, AMem.get_empty, next_empty, Option.map_some, Option.map_none, Option.bind_some, reduceIte, Nat.reduceLT, Nat.reduceLeDiff, Nat.reduceEqDiff, Nat.reduceAdd, Nat.reduceMul, Nat.reduceSub, Nat.reduceBEq, Nat.zero_add, Nat.add_zero, Nat.mul_one, Nat.one_mul, Nat.zero_mul, and_self, and_true, true_and, false_and, and_false, Bool.and_true, Bool.true_and, Bool.and_false, Bool.false_and, if_true, if_false, Int.reduceEq, Int.reduceLT, Int.reduceLE, Int.reduceToNat, Bool.false_eq_true, Bool.not_true, Bool.not_false, BEq.rfl, beq_true_true, beq_true_false, beq_false_true, beq_false_false, List.length_cons, List.length_nil, List.all_cons, List.all_nil, List.getElem?_cons_zero, List.getElem?_cons_succ, List.getElem?_nil, List.getElem?_toArray, List.take_succ_cons, List.take_zero, List.drop_succ_cons, List.drop_zero, List.set_cons_zero, List.set_cons_succ, List.append_nil, List.nil_append, List.cons_append, decide_true, decide_false, decide_eq_true_eq, Option.isNone_none, Option.isNone_some, Option.isSome_none, Option.isSome_some, Bool.or_true, Bool.true_or, Bool.or_false, Bool.false_or, ne_eq, not_false_eq_true, not_true_eq_false, reduceCtorEq, eq_self, beq_refl, minL, minF, maxL, maxF, repZ, ty3, ty4, ty5, ty22, ord98_3, h0, h1, h2, h4, m2, m3, bytesV_length, hge]
          rfl, by simp, rfl, hmem⟩
      · refine ⟨Nat.zero_le _, h, ?_, ?_, ?_, ?_⟩
        all_goals simp only [Tr.get_set, Nat.reduceEqDiff, reduceIte, Nat.zero_mul]
        all_goals rfl
    simp only [q_seq, q_cond, q_block, q_region, q_drawn, q_skip, q_exit, q_ret, runOps, runD, again, step1, wantA, opSem, evalO, evalL, evalOpt, evalParts, putA, ofConst, ofScalar, ofScalars, abin, abinInt, aun, convA, builtinA, oneTy, elemTy, lenB_vs, lenB_sl, lenB_str, loadA, storeA, storeCellsA, setAt, partA, fillA, placesA, isFn, TyI.isAgg, isSeq, isNum, sliceA, boundA, cells_bool, one_bool, cells_int, one_int, cells_str, one_str, cells_ptr, one_ptr, cells_nilptr, one_nilptr, cells_slice, one_slice, cells_vs, one_vs, cells_vptr, one_vptr, cells_func, one_func, cells_yield, one_yield, cells_nilfn, one_nilfn, cells_nilmap, one_nilmap, cells_map, one_map, cells_agg, setParams, Tr.get_set, AMem.get_put, AMem.get_push, AMem.next_put, AMem.next_push, AMem.get_empty, next_empty, Option.map_some, Option.map_none, Option.bind_some, reduceIte, Nat.reduceLT, Nat.reduceLeDiff, Nat.reduceEqDiff, Nat.reduceAdd, Nat.reduceMul, Nat.reduceSub, Nat.reduceBEq, Nat.zero_add, Nat.add_zero, Nat.mul_one, Nat.one_mul, Nat.zero_mul, and_self, and_true, true_and, false_and, and_false, Bool.and_true, Bool.true_and, Bool.and_false, Bool.false_and, if_true, if_false, Int.reduceEq, Int.reduceLT, Int.reduceLE, Int.reduceToNat, Bool.false_eq_true, Bool.not_true, Bool.not_false, BEq.rfl, beq_true_true, beq_true_false, beq_false_true, beq_false_false, List.length_cons, List.length_nil, List.all_cons, List.all_nil, List.getElem?_cons_zero, List.getElem?_cons_succ, List.getElem?_nil, List.getElem?_toArray, List.take_succ_cons, List.take_zero, List.drop_succ_cons, List.drop_zero, List.set_cons_zero, List.set_cons_succ, List.append_nil, List.nil_append, List.cons_append, decide_true, decide_false, decide_eq_true_eq, Option.isNone_none, Option.isNone_some, Option.isSome_none, Option.isSome_some, Bool.or_true, Bool.true_or, Bool.or_false, Bool.false_or, ne_eq, not_false_eq_true, not_true_eq_false, reduceCtorEq, eq_self, beq_refl, minL, minF, maxL, maxF, repZ, ty3, ty4, ty5, ty22, ord98_3]
    exact ⟨_, _, rfl, hR⟩
  obtain ⟨T1, σ1, h2, h3⟩ := run
  exact ⟨σ1, q_call (first := []) (vs := []) fn98 rfl (by simp [Tryz.f98]) h2 (by simp) rfl, h3⟩
end Go.Proofs.YtikhidpcaefjiaaGreatDoor
