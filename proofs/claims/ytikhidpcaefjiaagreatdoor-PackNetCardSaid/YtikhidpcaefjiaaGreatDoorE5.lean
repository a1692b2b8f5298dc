/- The law PackNet on the abstract machine: true for every traffic. -/
import Derived.Test.YtikhidpcaefjiaaGreatDoorE4
import Derived.Test.YtikhidpcaefjiaaGreatDoorPaleRead
set_option maxRecDepth 100000
set_option linter.unusedSimpArgs false
set_option linter.unusedVariables false
namespace Go.Proofs.YtikhidpcaefjiaaGreatDoor
open Go Go.Proofs.YtikhidpcaefjiaaGreatDoor.Pale
variable {k : Nat} {σ : AMem}

theorem move_any {k1 k2 : VK} {L : List L3} {M : List M4} {i : Nat} {bad : Bool} {K : VK} {ps : List Pk} {l : List (Pk × Nat)} {T : Tr AVal} {σ : AMem} (st : NetSt k1 k2 L M i (i + 1) bad K ps l T σ) (hi : i < M.length) (hi80 : i < 80) (hM : ∀ t, t ∈ M → M4ok t) (h0 : 0 < ps.length) (hk : 5000 ≤ k) :
    Runs lawProg (callN lawProg k) k 7 225 codeB T σ fun e T σ => (e = .normal ∨ e = .exit 1) ∧ ∃ bad' K' ps', NetSt k1 k2 L M i (i + 1) bad' K' ps' l T σ := by
  have h4 := Nat.mod_lt M[i].1 (show 4 > 0 by decide)
  rcases (show M[i].1 % 4 = 0 ∨ M[i].1 % 4 = 1 ∨ M[i].1 % 4 = 2 ∨ M[i].1 % 4 = 3 by omega) with h | h | h | h
  · exact moveCome st hi hi80 hM h0 h hk
  · exact moveLose st hi hi80 hM h0 h hk
  · by_cases h60 : ps.length = 60
    · exact moveFull st hi hi80 hM h0 h h60 hk
    · exact moveTwice st hi hi80 hM h0 h h60 hk
  · exact moveSpoil st hi hi80 hM h0 h hk

def roundsN (L : List L3) (M : List M4) : Nat := (min (IntKind.i64.wrap ((L.length : Int) + (M.length : Int))) 80).toNat
theorem keep_of {T T' : Tr AVal} (h1 : T'.get 1 = T.get 1) (h3 : T'.get 3 = T.get 3) (h4 : T'.get 4 = T.get 4) (h5 : T'.get 5 = T.get 5) (h6 : T'.get 6 = T.get 6) (h7 : T'.get 7 = T.get 7) : ∀ t, t ∈ keepT → T'.get t = T.get t := by
  intro t ht
  simp only [keepT, List.mem_cons, List.not_mem_nil, or_false] at ht
  rcases ht with rfl | rfl | rfl | rfl | rfl | rfl <;> assumption
noncomputable def loopC : Code := innerC (innerC (stmtC (bodyOf Tryz.f7) 5))

theorem round_net {k1 k2 : VK} {L : List L3} {M : List M4} {i : Nat} {bad : Bool} {K : VK} {ps : List Pk} {l : List (Pk × Nat)} {T : Tr AVal} {σ : AMem} (st : NetSt k1 k2 L M i i bad K ps l T σ) (hL : ∀ t, t ∈ L → L3ok t) (hM : ∀ t, t ∈ M → M4ok t) (hin : i ≤ roundsN L M) (hk : 5000 ≤ k) :
    Runs lawProg (callN lawProg k) k 7 225 loopC T σ fun e T σ => (e = .normal ∧ i < roundsN L M ∧ ∃ bad' K' ps' l', NetSt k1 k2 L M (i + 1) (i + 1) bad' K' ps' l' T σ) ∨ (e ≠ .normal ∧ e = .exit 0) := by
  show Runs _ _ _ _ _ (.seq (.seq _ _) (.seq (.block 1 roundC) _)) T σ _
  have g0 := st.g0
  have t1 := st.t1
  have t7 := st.t7
  by_cases h : i < roundsN L M
  · have hw1 : (i : Int) < IntKind.i64.wrap ((L.length : Int) + (M.length : Int)) := by unfold roundsN at h; omega
    have hw2 : (i : Int) < 80 := by unfold roundsN at h; omega
    refine Runs.seq (P := fun T' σ' => σ' = σ ∧ ∀ t, t ∈ keepT → T'.get t = T.get t) ⟨.normal, _, _, by
      simp only [q_seq, q_cond, q_block, q_region, q_drawn, q_skip, q_exit, q_ret, runOps, runD, again, step1, wantA, opSem, evalO, evalL, evalOpt, evalParts, putA, ofConst, ofScalar, ofScalars, abin, abinInt, aun, convA, builtinA, oneTy, elemTy, lenB_vs, lenB_sl, lenB_str, loadA, storeA, storeCellsA, setAt, partA, fillA, placesA, isFn, TyI.isAgg, isSeq, isNum, sliceA, boundA, cells_bool, one_bool, cells_int, one_int, cells_str, one_str, cells_ptr, one_ptr, cells_nilptr, one_nilptr, cells_slice, one_slice, cells_vs, one_vs, cells_vptr, one_vptr, cells_func, one_func, cells_yield, one_yield, cells_nilfn, one_nilfn, cells_nilmap, one_nilmap, cells_map, one_map, cells_agg, setParams, Tr.get_set, AMem.get_put, AMem.get_push, AMem.next_put, AMem.next_push, AMem.get_empty, next_empty, Option.map_some, Option.map_none, Option.bind_some, reduceIte, Nat.reduceLT, Nat.reduceLeDiff, Nat.reduceEqDiff, Nat.reduceAdd, Nat.reduceMul, Nat.reduceSub, Nat.reduceBEq, Nat.zero_add, Nat.add_zero, Nat.mul_one, Nat.one_mul, Nat.zero_mul, and_self, and_true, true_and, false_and, and_false, Bool.and_true, Bool.true_and, Bool.and_false, Bool.false_and, if_true, if_false, Int.reduceEq, Int.reduceLT, Int.reduceLE, Int.reduceToNat, Bool.false_eq_true, Bool.not_true, Bool.not_false, BEq.rfl, beq_true_true, beq_true_false, beq_false_true, beq_false_false, List.length_cons, List.length_nil, List.all_cons, List.all_nil, List.getElem?_cons_zero, List.getElem?_cons_succ, List.getElem?_nil, List.getElem?_toArray, List.take_succ_cons, List.take_zero, List.drop_succ_cons, List.drop_zero, List.set_cons_zero, List.set_cons_succ, List.append_nil, List.nil_append, List.cons_append, decide_true, decide_false, decide_eq_true_eq, Option.isNone_none, Option.isNone_some, Option.isSome_none, Option.isSome_some, Bool.or_true, Bool.true_or, Bool.or_false, Bool.false_or, ne_eq, not_false_eq_true, not_true_eq_false, reduceCtorEq, eq_self, beq_refl, minL, minF, maxL, maxF, repZ, vp7_9, vp7_22, vp7_23, vp7_24, vp7_28, vp7_31, vp7_34, vp7_35, ty3, ty4, ty5, ty22, ty25, ty40, ty42, ty44, ty58, ty63, ty64, ty66, ty67, ty68, ord7_8, ord7_9, ord7_10, ord7_15, ord7_17, ord7_18, ord7_22, t1, t7, g0, List.length_map, hw1, hw2]
      rfl, rfl, rfl, keep_of ?_ ?_ ?_ ?_ ?_ ?_⟩ ?_
    iterate 6 (simp only [Tr.get_set, Nat.reduceEqDiff, reduceIte])
    rintro T1 σ1 ⟨rfl, hk1⟩
    have st1 := st.frame hk1
    refine Runs.seq (P := fun T' σ' => ∃ bad' K' ps' l', NetSt k1 k2 L M i (i + 1) bad' K' ps' l' T' σ') (Runs.block ?_) ?_
    · show Runs _ _ _ _ _ (.seq (.seq _ (.cond (.tmp 39) codeA .skip)) (.seq (.seq _ _) codeB)) T1 _ _
      refine Runs.seq (P := fun T' σ' => ∃ K' ps' l', NetSt k1 k2 L M i (i + 1) bad K' ps' l' T' σ') ?_ ?_
      · have t1 := st1.t1
        have t7 := st1.t7
        by_cases hA : i < L.length ∧ i < 20
        · have ha1 : (i : Int) < (L.length : Int) := by omega
          have ha2 : (i : Int) < 20 := by omega
          refine Runs.seq (P := fun T' σ' => σ' = σ1 ∧ (∀ t, t ∈ keepT → T'.get t = T1.get t) ∧ T'.get 39 = some (.bool true)) ⟨.normal, _, _, by
            simp only [q_seq, q_cond, q_block, q_region, q_drawn, q_skip, q_exit, q_ret, runOps, runD, again, step1, wantA, opSem, evalO, evalL, evalOpt, evalParts, putA, ofConst, ofScalar, ofScalars, abin, abinInt, aun, convA, builtinA, oneTy, elemTy, lenB_vs, lenB_sl, lenB_str, loadA, storeA, storeCellsA, setAt, partA, fillA, placesA, isFn, TyI.isAgg, isSeq, isNum, sliceA, boundA, cells_bool, one_bool, cells_int, one_int, cells_str, one_str, cells_ptr, one_ptr, cells_nilptr, one_nilptr, cells_slice, one_slice, cells_vs, one_vs, cells_vptr, one_vptr, cells_func, one_func, cells_yield, one_yield, cells_nilfn, one_nilfn, cells_nilmap, one_nilmap, cells_map, one_map, cells_agg, setParams, Tr.get_set, AMem.get_put, AMem.get_push, AMem.next_put, AMem.next_push, AMem.get_empty, next_empty, Option.map_some, Option.map_none, Option.bind_some, reduceIte, Nat.reduceLT, Nat.reduceLeDiff, Nat.reduceEqDiff, Nat.reduceAdd, Nat.reduceMul, Nat.reduceSub, Nat.reduceBEq, Nat.zero_add, Nat.add_zero, Nat.mul_one, Nat.one_mul, Nat.zero_mul, and_self, and_true, true_and, false_and, and_false, Bool.and_true, Bool.true_and, Bool.and_false, Bool.false_and, if_true, if_false, Int.reduceEq, Int.reduceLT, Int.reduceLE, Int.reduceToNat, Bool.false_eq_true, Bool.not_true, Bool.not_false, BEq.rfl, beq_true_true, beq_true_false, beq_false_true, beq_false_false, List.length_cons, List.length_nil, List.all_cons, List.all_nil, List.getElem?_cons_zero, List.getElem?_cons_succ, List.getElem?_nil, List.getElem?_toArray, List.take_succ_cons, List.take_zero, List.drop_succ_cons, List.drop_zero, List.set_cons_zero, List.set_cons_succ, List.append_nil, List.nil_append, List.cons_append, decide_true, decide_false, decide_eq_true_eq, Option.isNone_none, Option.isNone_some, Option.isSome_none, Option.isSome_some, Bool.or_true, Bool.true_or, Bool.or_false, Bool.false_or, ne_eq, not_false_eq_true, not_true_eq_false, reduceCtorEq, eq_self, beq_refl, minL, minF, maxL, maxF, repZ, vp7_9, vp7_22, vp7_23, vp7_24, vp7_28, vp7_31, vp7_34, vp7_35, ty3, ty4, ty5, ty22, ty25, ty40, ty42, ty44, ty58, ty63, ty64, ty66, ty67, ty68, ord7_8, ord7_9, ord7_10, ord7_15, ord7_17, ord7_18, ord7_22, t1, t7, g0, List.length_map, ha1, ha2]
            rfl, rfl, rfl, keep_of ?_ ?_ ?_ ?_ ?_ ?_, ?_⟩ ?_
          iterate 7 (simp only [Tr.get_set, Nat.reduceEqDiff, reduceIte])
          rintro T2 σ2 ⟨rfl, hk2, h39⟩
          exact Runs.cond (v := true) h39 (stageA (st1.frame hk2) hA.1 (by omega) hL h39 hk)
        · refine Runs.seq (P := fun T' σ' => σ' = σ1 ∧ (∀ t, t ∈ keepT → T'.get t = T1.get t) ∧ T'.get 39 = some (.bool false)) ?_ ?_
          · by_cases ha1 : (i : Int) < (L.length : Int)
            · have ha2 : ¬ (i : Int) < 20 := by omega
              refine ⟨.normal, _, _, by
                simp only [q_seq, q_cond, q_block, q_region, q_drawn, q_skip, q_exit, q_ret, runOps, runD, again, step1, wantA, opSem, evalO, evalL, evalOpt, evalParts, putA, ofConst, ofScalar, ofScalars, abin, abinInt, aun, convA, builtinA, oneTy, elemTy, lenB_vs, lenB_sl, lenB_str, loadA, storeA, storeCellsA, setAt, partA, fillA, placesA, isFn, TyI.isAgg, isSeq, isNum, sliceA, boundA, cells_bool, one_bool, cells_int, one_int, cells_str, one_str, cells_ptr, one_ptr, cells_nilptr, one_nilptr, cells_slice, one_slice, cells_vs, one_vs, cells_vptr, one_vptr, cells_func, one_func, cells_yield, one_yield, cells_nilfn, one_nilfn, cells_nilmap, one_nilmap, cells_map, one_map, cells_agg, setParams, Tr.get_set, AMem.get_put, AMem.get_push, AMem.next_put, AMem.next_push, AMem.get_empty, next_empty, Option.map_some, Option.map_none, Option.bind_some, reduceIte, Nat.reduceLT, Nat.reduceLeDiff, Nat.reduceEqDiff, Nat.reduceAdd, Nat.reduceMul, Nat.reduceSub, Nat.reduceBEq, Nat.zero_add, Nat.add_zero, Nat.mul_one, Nat.one_mul, Nat.zero_mul, and_self, and_true, true_and, false_and, and_false, Bool.and_true, Bool.true_and, Bool.and_false, Bool.false_and, if_true, if_false, Int.reduceEq, Int.reduceLT, Int.reduceLE, Int.reduceToNat, Bool.false_eq_true, Bool.not_true, Bool.not_false, BEq.rfl, beq_true_true, beq_true_false, beq_false_true, beq_false_false, List.length_cons, List.length_nil, List.all_cons, List.all_nil, List.getElem?_cons_zero, List.getElem?_cons_succ, List.getElem?_nil, List.getElem?_toArray, List.take_succ_cons, List.take_zero, List.drop_succ_cons, List.drop_zero, List.set_cons_zero, List.set_cons_succ, List.append_nil, List.nil_append, List.cons_append, decide_true, decide_false, decide_eq_true_eq, Option.isNone_none, Option.isNone_some, Option.isSome_none, Option.isSome_some, Bool.or_true, Bool.true_or, Bool.or_false, Bool.false_or, ne_eq, not_false_eq_true, not_true_eq_false, reduceCtorEq, eq_self, beq_refl, minL, minF, maxL, maxF, repZ, vp7_9, vp7_22, vp7_23, vp7_24, vp7_28, vp7_31, vp7_34, vp7_35, ty3, ty4, ty5, ty22, ty25, ty40, ty42, ty44, ty58, ty63, ty64, ty66, ty67, ty68, ord7_8, ord7_9, ord7_10, ord7_15, ord7_17, ord7_18, ord7_22, t1, t7, g0, List.length_map, ha1, ha2]
                rfl, rfl, rfl, keep_of ?_ ?_ ?_ ?_ ?_ ?_, ?_⟩
              all_goals simp only [Tr.get_set, Nat.reduceEqDiff, reduceIte]
            · refine ⟨.normal, _, _, by
                simp only [q_seq, q_cond, q_block, q_region, q_drawn, q_skip, q_exit, q_ret, runOps, runD, again, step1, wantA, opSem, evalO, evalL, evalOpt, evalParts, putA, ofConst, ofScalar, ofScalars, abin, abinInt, aun, convA, builtinA, oneTy, elemTy, lenB_vs, lenB_sl, lenB_str, loadA, storeA, storeCellsA, setAt, partA, fillA, placesA, isFn, TyI.isAgg, isSeq, isNum, sliceA, boundA, cells_bool, one_bool, cells_int, one_int, cells_str, one_str, cells_ptr, one_ptr, cells_nilptr, one_nilptr, cells_slice, one_slice, cells_vs, one_vs, cells_vptr, one_vptr, cells_func, one_func, cells_yield, one_yield, cells_nilfn, one_nilfn, cells_nilmap, one_nilmap, cells_map, one_map, cells_agg, setParams, Tr.get_set, AMem.get_put, AMem.get_push, AMem.next_put, AMem.next_push, AMem.get_empty, next_empty, Option.map_some, Option.map_none, Option.bind_some, reduceIte, Nat.reduceLT, Nat.reduceLeDiff, Nat.reduceEqDiff, Nat.reduceAdd, Nat.reduceMul, Nat.reduceSub, Nat.reduceBEq, Nat.zero_add, Nat.add_zero, Nat.mul_one, Nat.one_mul, Nat.zero_mul, and_self, and_true, true_and, false_and, and_false, Bool.and_true, Bool.true_and, Bool.and_false, Bool.false_and, if_true, if_false, Int.reduceEq, Int.reduceLT, Int.reduceLE, Int.reduceToNat, Bool.false_eq_true, Bool.not_true, Bool.not_false, BEq.rfl, beq_true_true, beq_true_false, beq_false_true, beq_false_false, List.length_cons, List.length_nil, List.all_cons, List.all_nil, List.getElem?_cons_zero, List.getElem?_cons_succ, List.getElem?_nil, List.getElem?_toArray, List.take_succ_cons, List.take_zero, List.drop_succ_cons, List.drop_zero, List.set_cons_zero, List.set_cons_succ, List.append_nil, List.nil_append, List.cons_append, decide_true, decide_false, decide_eq_true_eq, Option.isNone_none, Option.isNone_some, Option.isSome_none, Option.isSome_some, Bool.or_true, Bool.true_or, Bool.or_false, Bool.false_or, ne_eq, not_false_eq_true, not_true_eq_false, reduceCtorEq, eq_self, beq_refl, minL, minF, maxL, maxF, repZ, vp7_9, vp7_22, vp7_23, vp7_24, vp7_28, vp7_31, vp7_34, vp7_35, ty3, ty4, ty5, ty22, ty25, ty40, ty42, ty44, ty58, ty63, ty64, ty66, ty67, ty68, ord7_8, ord7_9, ord7_10, ord7_15, ord7_17, ord7_18, ord7_22, t1, t7, g0, List.length_map, ha1]
                rfl, rfl, rfl, keep_of ?_ ?_ ?_ ?_ ?_ ?_, ?_⟩
              all_goals simp only [Tr.get_set, Nat.reduceEqDiff, reduceIte]
          · rintro T2 σ2 ⟨rfl, hk2, h39⟩
            obtain ⟨a1, a2, a3, a4, a5, a6, b1, b2, b3, b4, b5, b6⟩ := st1.frame hk2
            exact Runs.cond (v := false) h39 (Runs.skip ⟨rfl, K, ps, l, a1, a2, a3, a4, a5, a6, b1, b2, b3, b4, b5, by omega⟩)
      · rintro T2 σ2 ⟨K2, ps2, l2, st2⟩
        have t1 := st2.t1
        have t7 := st2.t7
        have t3 := st2.t3
        have g0 := st2.g0
        have g1 := st2.g1
        by_cases hB : i < M.length ∧ 0 < ps2.length
        · have hb1 : ¬ (i : Int) ≥ (M.length : Int) := by omega
          have hb2 : (((ps2.length : Nat) : Int) == 0) = false := by rw [beq_eq_false_iff_ne]; omega
          refine Runs.seq (P := fun T' σ' => σ' = σ2 ∧ (∀ t, t ∈ keepT → T'.get t = T2.get t)) ⟨.normal, _, _, by
            simp only [q_seq, q_cond, q_block, q_region, q_drawn, q_skip, q_exit, q_ret, runOps, runD, again, step1, wantA, opSem, evalO, evalL, evalOpt, evalParts, putA, ofConst, ofScalar, ofScalars, abin, abinInt, aun, convA, builtinA, oneTy, elemTy, lenB_vs, lenB_sl, lenB_str, loadA, storeA, storeCellsA, setAt, partA, fillA, placesA, isFn, TyI.isAgg, isSeq, isNum, sliceA, boundA, cells_bool, one_bool, cells_int, one_int, cells_str, one_str, cells_ptr, one_ptr, cells_nilptr, one_nilptr, cells_slice, one_slice, cells_vs, one_vs, cells_vptr, one_vptr, cells_func, one_func, cells_yield, one_yield, cells_nilfn, one_nilfn, cells_nilmap, one_nilmap, cells_map, one_map, cells_agg, setParams, Tr.get_set, AMem.get_put, AMem.get_push, AMem.next_put, AMem.next_push, AMem.get_empty, next_empty, Option.map_some, Option.map_none, Option.bind_some, reduceIte, Nat.reduceLT, Nat.reduceLeDiff, Nat.reduceEqDiff, Nat.reduceAdd, Nat.reduceMul, Nat.reduceSub, Nat.reduceBEq, Nat.zero_add, Nat.add_zero, Nat.mul_one, Nat.one_mul, Nat.zero_mul, and_self, and_true, true_and, false_and, and_false, Bool.and_true, Bool.true_and, Bool.and_false, Bool.false_and, if_true, if_false, Int.reduceEq, Int.reduceLT, Int.reduceLE, Int.reduceToNat, Bool.false_eq_true, Bool.not_true, Bool.not_false, BEq.rfl, beq_true_true, beq_true_false, beq_false_true, beq_false_false, List.length_cons, List.length_nil, List.all_cons, List.all_nil, List.getElem?_cons_zero, List.getElem?_cons_succ, List.getElem?_nil, List.getElem?_toArray, List.take_succ_cons, List.take_zero, List.drop_succ_cons, List.drop_zero, List.set_cons_zero, List.set_cons_succ, List.append_nil, List.nil_append, List.cons_append, decide_true, decide_false, decide_eq_true_eq, Option.isNone_none, Option.isNone_some, Option.isSome_none, Option.isSome_some, Bool.or_true, Bool.true_or, Bool.or_false, Bool.false_or, ne_eq, not_false_eq_true, not_true_eq_false, reduceCtorEq, eq_self, beq_refl, minL, minF, maxL, maxF, repZ, vp7_9, vp7_22, vp7_23, vp7_24, vp7_28, vp7_31, vp7_34, vp7_35, ty3, ty4, ty5, ty22, ty25, ty40, ty42, ty44, ty58, ty63, ty64, ty66, ty67, ty68, ord7_8, ord7_9, ord7_10, ord7_15, ord7_17, ord7_18, ord7_22, t1, t3, t7, g0, g1, List.length_map, hb1, hb2]
            rfl, rfl, rfl, keep_of ?_ ?_ ?_ ?_ ?_ ?_⟩ ?_
          iterate 6 (simp only [Tr.get_set, Nat.reduceEqDiff, reduceIte])
          rintro T3 σ3 ⟨rfl, hk3⟩
          refine (move_any (st2.frame hk3) hB.1 (by omega) hM hB.2 hk).mono ?_
          rintro e T4 σ4 ⟨he, bad', K', ps', st4⟩
          refine ⟨?_, bad', K', ps', l2, st4⟩
          rcases he with rfl | rfl <;> simp
        · refine Runs.seq2 (P := fun _ _ => False) ?_ (fun _ _ h => h.elim)
          by_cases hb1 : (i : Int) ≥ (M.length : Int)
          · refine ⟨.exit 1, _, _, by
              simp only [q_seq, q_cond, q_block, q_region, q_drawn, q_skip, q_exit, q_ret, runOps, runD, again, step1, wantA, opSem, evalO, evalL, evalOpt, evalParts, putA, ofConst, ofScalar, ofScalars, abin, abinInt, aun, convA, builtinA, oneTy, elemTy, lenB_vs, lenB_sl, lenB_str, loadA, storeA, storeCellsA, setAt, partA, fillA, placesA, isFn, TyI.isAgg, isSeq, isNum, sliceA, boundA, cells_bool, one_bool, cells_int, one_int, cells_str, one_str, cells_ptr, one_ptr, cells_nilptr, one_nilptr, cells_slice, one_slice, cells_vs, one_vs, cells_vptr, one_vptr, cells_func, one_func, cells_yield, one_yield, cells_nilfn, one_nilfn, cells_nilmap, one_nilmap, cells_map, one_map, cells_agg, setParams, Tr.get_set, AMem.get_put, AMem.get_push, AMem.next_put, AMem.next_push, AMem.get_empty, next_empty, Option.map_some, Option.map_none, Option.bind_some, reduceIte, Nat.reduceLT, Nat.reduceLeDiff, Nat.reduceEqDiff, Nat.reduceAdd, Nat.reduceMul, Nat.reduceSub, Nat.reduceBEq, Nat.zero_add, Nat.add_zero, Nat.mul_one, Nat.one_mul, Nat.zero_mul, and_self, and_true, true_and, false_and, and_false, Bool.and_true, Bool.true_and, Bool.and_false, Bool.false_and, if_true, if_false, Int.reduceEq, Int.reduceLT, Int.reduceLE, Int.reduceToNat, Bool.false_eq_true, Bool.not_true, Bool.not_false, BEq.rfl, beq_true_true, beq_true_false, beq_false_true, beq_false_false, List.length_cons, List.length_nil, List.all_cons, List.all_nil, List.getElem?_cons_zero, List.getElem?_cons_succ, List.getElem?_nil, List.getElem?_toArray, List.take_succ_cons, List.take_zero, List.drop_succ_cons, List.drop_zero, List.set_cons_zero, List.set_cons_succ, List.append_nil, List.nil_append, List.cons_append, decide_true, decide_false, decide_eq_true_eq, Option.isNone_none, Option.isNone_some, Option.isSome_none, Option.isSome_some, Bool.or_true, Bool.true_or, Bool.or_false, Bool.false_or, ne_eq, not_false_eq_true, not_true_eq_false, reduceCtorEq, eq_self, beq_refl, minL, minF, maxL, maxF, repZ, vp7_9, vp7_22, vp7_23, vp7_24, vp7_28, vp7_31, vp7_34, vp7_35, ty3, ty4, ty5, ty22, ty25, ty40, ty42, ty44, ty58, ty63, ty64, ty66, ty67, ty68, ord7_8, ord7_9, ord7_10, ord7_15, ord7_17, ord7_18, ord7_22, t1, t3, t7, g0, g1, List.length_map, hb1]
              rfl, .inr ⟨by simp, by simp, bad, K2, ps2, l2, st2.frame (keep_of ?_ ?_ ?_ ?_ ?_ ?_)⟩⟩
            all_goals simp only [Tr.get_set, Nat.reduceEqDiff, reduceIte]
          · have hb2 : (((ps2.length : Nat) : Int) == 0) = true := by rw [beq_iff_eq]; omega
            refine ⟨.exit 1, _, _, by
              simp only [q_seq, q_cond, q_block, q_region, q_drawn, q_skip, q_exit, q_ret, runOps, runD, again, step1, wantA, opSem, evalO, evalL, evalOpt, evalParts, putA, ofConst, ofScalar, ofScalars, abin, abinInt, aun, convA, builtinA, oneTy, elemTy, lenB_vs, lenB_sl, lenB_str, loadA, storeA, storeCellsA, setAt, partA, fillA, placesA, isFn, TyI.isAgg, isSeq, isNum, sliceA, boundA, cells_bool, one_bool, cells_int, one_int, cells_str, one_str, cells_ptr, one_ptr, cells_nilptr, one_nilptr, cells_slice, one_slice, cells_vs, one_vs, cells_vptr, one_vptr, cells_func, one_func, cells_yield, one_yield, cells_nilfn, one_nilfn, cells_nilmap, one_nilmap, cells_map, one_map, cells_agg, setParams, Tr.get_set, AMem.get_put, AMem.get_push, AMem.next_put, AMem.next_push, AMem.get_empty, next_empty, Option.map_some, Option.map_none, Option.bind_some, reduceIte, Nat.reduceLT, Nat.reduceLeDiff, Nat.reduceEqDiff, Nat.reduceAdd, Nat.reduceMul, Nat.reduceSub, Nat.reduceBEq, Nat.zero_add, Nat.add_zero, Nat.mul_one, Nat.one_mul, Nat.zero_mul, and_self, and_true, true_and, false_and, and_false, Bool.and_true, Bool.true_and, Bool.and_false, Bool.false_and, if_true, if_false, Int.reduceEq, Int.reduceLT, Int.reduceLE, Int.reduceToNat, Bool.false_eq_true, Bool.not_true, Bool.not_false, BEq.rfl, beq_true_true, beq_true_false, beq_false_true, beq_false_false, List.length_cons, List.length_nil, List.all_cons, List.all_nil, List.getElem?_cons_zero, List.getElem?_cons_succ, List.getElem?_nil, List.getElem?_toArray, List.take_succ_cons, List.take_zero, List.drop_succ_cons, List.drop_zero, List.set_cons_zero, List.set_cons_succ, List.append_nil, List.nil_append, List.cons_append, decide_true, decide_false, decide_eq_true_eq, Option.isNone_none, Option.isNone_some, Option.isSome_none, Option.isSome_some, Bool.or_true, Bool.true_or, Bool.or_false, Bool.false_or, ne_eq, not_false_eq_true, not_true_eq_false, reduceCtorEq, eq_self, beq_refl, minL, minF, maxL, maxF, repZ, vp7_9, vp7_22, vp7_23, vp7_24, vp7_28, vp7_31, vp7_34, vp7_35, ty3, ty4, ty5, ty22, ty25, ty40, ty42, ty44, ty58, ty63, ty64, ty66, ty67, ty68, ord7_8, ord7_9, ord7_10, ord7_15, ord7_17, ord7_18, ord7_22, t1, t3, t7, g0, g1, List.length_map, hb1, hb2]
              rfl, .inr ⟨by simp, by simp, bad, K2, ps2, l2, st2.frame (keep_of ?_ ?_ ?_ ?_ ?_ ?_)⟩⟩
            all_goals simp only [Tr.get_set, Nat.reduceEqDiff, reduceIte]
    · rintro T2 σ2 ⟨bad', K', ps', l', a1, a2, a3, a4, a5, ⟨out, a6, a7⟩, b1, b2, b3, b4, b5, b6⟩
      have hw := i64_succ (i := i) (by omega)
      refine ⟨.normal, _, _, by
        simp only [q_seq, q_cond, q_block, q_region, q_drawn, q_skip, q_exit, q_ret, runOps, runD, again, step1, wantA, opSem, evalO, evalL, evalOpt, evalParts, putA, ofConst, ofScalar, ofScalars, abin, abinInt, aun, convA, builtinA, oneTy, elemTy, lenB_vs, lenB_sl, lenB_str, loadA, storeA, storeCellsA, setAt, partA, fillA, placesA, isFn, TyI.isAgg, isSeq, isNum, sliceA, boundA, cells_bool, one_bool, cells_int, one_int, cells_str, one_str, cells_ptr, one_ptr, cells_nilptr, one_nilptr, cells_slice, one_slice, cells_vs, one_vs, cells_vptr, one_vptr, cells_func, one_func, cells_yield, one_yield, cells_nilfn, one_nilfn, cells_nilmap, one_nilmap, cells_map, one_map, cells_agg, setParams, Tr.get_set, AMem.get_put, AMem.get_push, AMem.next_put, AMem.next_push, AMem.get_empty, next_empty, Option.map_some, Option.map_none, Option.bind_some, reduceIte, Nat.reduceLT, Nat.reduceLeDiff, Nat.reduceEqDiff, Nat.reduceAdd, Nat.reduceMul, Nat.reduceSub, Nat.reduceBEq, Nat.zero_add, Nat.add_zero, Nat.mul_one, Nat.one_mul, Nat.zero_mul, and_self, and_true, true_and, false_and, and_false, Bool.and_true, Bool.true_and, Bool.and_false, Bool.false_and, if_true, if_false, Int.reduceEq, Int.reduceLT, Int.reduceLE, Int.reduceToNat, Bool.false_eq_true, Bool.not_true, Bool.not_false, BEq.rfl, beq_true_true, beq_true_false, beq_false_true, beq_false_false, List.length_cons, List.length_nil, List.all_cons, List.all_nil, List.getElem?_cons_zero, List.getElem?_cons_succ, List.getElem?_nil, List.getElem?_toArray, List.take_succ_cons, List.take_zero, List.drop_succ_cons, List.drop_zero, List.set_cons_zero, List.set_cons_succ, List.append_nil, List.nil_append, List.cons_append, decide_true, decide_false, decide_eq_true_eq, Option.isNone_none, Option.isNone_some, Option.isSome_none, Option.isSome_some, Bool.or_true, Bool.true_or, Bool.or_false, Bool.false_or, ne_eq, not_false_eq_true, not_true_eq_false, reduceCtorEq, eq_self, beq_refl, minL, minF, maxL, maxF, repZ, vp7_9, vp7_22, vp7_23, vp7_24, vp7_28, vp7_31, vp7_34, vp7_35, ty3, ty4, ty5, ty22, ty25, ty40, ty42, ty44, ty58, ty63, ty64, ty66, ty67, ty68, ord7_8, ord7_9, ord7_10, ord7_15, ord7_17, ord7_18, ord7_22, a5, hw]
        rfl, .inl ⟨rfl, h, bad', K', ps', l', ?_, ?_, ?_, ?_, ?_, ⟨out, ?_, a7⟩, b1, b2, b3, b4, b5, b6⟩⟩
      all_goals simp only [Tr.get_set, Nat.reduceEqDiff, reduceIte, a1, a2, a3, a4, a6]
  · have hcase : ¬ (i : Int) < IntKind.i64.wrap ((L.length : Int) + (M.length : Int)) ∨ ((i : Int) < IntKind.i64.wrap ((L.length : Int) + (M.length : Int)) ∧ ¬ (i : Int) < 80) := by unfold roundsN at h; omega
    refine Runs.seq2 (P := fun _ _ => False) ?_ (fun _ _ h => h.elim)
    rcases hcase with hw1 | ⟨hw1, hw2⟩
    · exact ⟨.exit 0, _, _, by
        simp only [q_seq, q_cond, q_block, q_region, q_drawn, q_skip, q_exit, q_ret, runOps, runD, again, step1, wantA, opSem, evalO, evalL, evalOpt, evalParts, putA, ofConst, ofScalar, ofScalars, abin, abinInt, aun, convA, builtinA, oneTy, elemTy, lenB_vs, lenB_sl, lenB_str, loadA, storeA, storeCellsA, setAt, partA, fillA, placesA, isFn, TyI.isAgg, isSeq, isNum, sliceA, boundA, cells_bool, one_bool, cells_int, one_int, cells_str, one_str, cells_ptr, one_ptr, cells_nilptr, one_nilptr, cells_slice, one_slice, cells_vs, one_vs, cells_vptr, one_vptr, cells_func, one_func, cells_yield, one_yield, cells_nilfn, one_nilfn, cells_nilmap, one_nilmap, cells_map, one_map, cells_agg, setParams, Tr.get_set, AMem.get_put, AMem.get_push, AMem.next_put, AMem.next_push, AMem.get_empty, next_empty, Option.map_some, Option.map_none, Option.bind_some, reduceIte, Nat.reduceLT, Nat.reduceLeDiff, Nat.reduceEqDiff, Nat.reduceAdd, Nat.reduceMul, Nat.reduceSub, Nat.reduceBEq, Nat.zero_add, Nat.add_zero, Nat.mul_one, Nat.one_mul, Nat.zero_mul, and_self, and_true, true_and, false_and, and_false, Bool.and_true, Bool.true_and, Bool.and_false, Bool.false_and, if_true, if_false, Int.reduceEq, Int.reduceLT, Int.reduceLE, Int.reduceToNat, Bool.false_eq_true, Bool.not_true, Bool.not_false, BEq.rfl, beq_true_true, beq_true_false, beq_false_true, beq_false_false, List.length_cons, List.length_nil, List.all_cons, List.all_nil, List.getElem?_cons_zero, List.getElem?_cons_succ, List.getElem?_nil, List.getElem?_toArray, List.take_succ_cons, List.take_zero, List.drop_succ_cons, List.drop_zero, List.set_cons_zero, List.set_cons_succ, List.append_nil, List.nil_append, List.cons_append, decide_true, decide_false, decide_eq_true_eq, Option.isNone_none, Option.isNone_some, Option.isSome_none, Option.isSome_some, Bool.or_true, Bool.true_or, Bool.or_false, Bool.false_or, ne_eq, not_false_eq_true, not_true_eq_false, reduceCtorEq, eq_self, beq_refl, minL, minF, maxL, maxF, repZ, vp7_9, vp7_22, vp7_23, vp7_24, vp7_28, vp7_31, vp7_34, vp7_35, ty3, ty4, ty5, ty22, ty25, ty40, ty42, ty44, ty58, ty63, ty64, ty66, ty67, ty68, ord7_8, ord7_9, ord7_10, ord7_15, ord7_17, ord7_18, ord7_22, t1, t7, g0, List.length_map, hw1]
        rfl, .inr ⟨by simp, .inr ⟨by simp, rfl⟩⟩⟩
    · exact ⟨.exit 0, _, _, by
        simp only [q_seq, q_cond, q_block, q_region, q_drawn, q_skip, q_exit, q_ret, runOps, runD, again, step1, wantA, opSem, evalO, evalL, evalOpt, evalParts, putA, ofConst, ofScalar, ofScalars, abin, abinInt, aun, convA, builtinA, oneTy, elemTy, lenB_vs, lenB_sl, lenB_str, loadA, storeA, storeCellsA, setAt, partA, fillA, placesA, isFn, TyI.isAgg, isSeq, isNum, sliceA, boundA, cells_bool, one_bool, cells_int, one_int, cells_str, one_str, cells_ptr, one_ptr, cells_nilptr, one_nilptr, cells_slice, one_slice, cells_vs, one_vs, cells_vptr, one_vptr, cells_func, one_func, cells_yield, one_yield, cells_nilfn, one_nilfn, cells_nilmap, one_nilmap, cells_map, one_map, cells_agg, setParams, Tr.get_set, AMem.get_put, AMem.get_push, AMem.next_put, AMem.next_push, AMem.get_empty, next_empty, Option.map_some, Option.map_none, Option.bind_some, reduceIte, Nat.reduceLT, Nat.reduceLeDiff, Nat.reduceEqDiff, Nat.reduceAdd, Nat.reduceMul, Nat.reduceSub, Nat.reduceBEq, Nat.zero_add, Nat.add_zero, Nat.mul_one, Nat.one_mul, Nat.zero_mul, and_self, and_true, true_and, false_and, and_false, Bool.and_true, Bool.true_and, Bool.and_false, Bool.false_and, if_true, if_false, Int.reduceEq, Int.reduceLT, Int.reduceLE, Int.reduceToNat, Bool.false_eq_true, Bool.not_true, Bool.not_false, BEq.rfl, beq_true_true, beq_true_false, beq_false_true, beq_false_false, List.length_cons, List.length_nil, List.all_cons, List.all_nil, List.getElem?_cons_zero, List.getElem?_cons_succ, List.getElem?_nil, List.getElem?_toArray, List.take_succ_cons, List.take_zero, List.drop_succ_cons, List.drop_zero, List.set_cons_zero, List.set_cons_succ, List.append_nil, List.nil_append, List.cons_append, decide_true, decide_false, decide_eq_true_eq, Option.isNone_none, Option.isNone_some, Option.isSome_none, Option.isSome_some, Bool.or_true, Bool.true_or, Bool.or_false, Bool.false_or, ne_eq, not_false_eq_true, not_true_eq_false, reduceCtorEq, eq_self, beq_refl, minL, minF, maxL, maxF, repZ, vp7_9, vp7_22, vp7_23, vp7_24, vp7_28, vp7_31, vp7_34, vp7_35, ty3, ty4, ty5, ty22, ty25, ty40, ty42, ty44, ty58, ty63, ty64, ty66, ty67, ty68, ord7_8, ord7_9, ord7_10, ord7_15, ord7_17, ord7_18, ord7_22, t1, t7, g0, List.length_map, hw1, hw2]
        rfl, .inr ⟨by simp, .inr ⟨by simp, rfl⟩⟩⟩

theorem net_run (k1 k2 : VK) (L : List L3) (M : List M4) (hL : ∀ t, t ∈ L → L3ok t) (hM : ∀ t, t ∈ M → M4ok t) (hk : 6000 ≤ k) : ∃ σ', callN lawProg (k + 1) (.func 7 [] []) [.agg [.vs k1 (L.map l3V), .vs k2 (M.map m4V)]] AMem.empty = some (.bool true, σ') := by
  have run : ∃ T1 σ1, execC lawProg (callN lawProg k) k 7 225 (bodyOf Tryz.f7) (initT 0 [.agg [.vs k1 (L.map l3V), .vs k2 (M.map m4V)]] .nil) AMem.empty = some (.ret, T1, σ1) ∧ T1.get 2 = some (.bool true) := by
    simp only [bodyOf, Tryz.f7, Option.getD_some, initT, q_seq, q_cond, q_block, q_region, q_drawn, q_skip, q_exit, q_ret, runOps, runD, again, step1, wantA, opSem, evalO, evalL, evalOpt, evalParts, putA, ofConst, ofScalar, ofScalars, abin, abinInt, aun, convA, builtinA, oneTy, elemTy, lenB_vs, lenB_sl, lenB_str, loadA, storeA, storeCellsA, setAt, partA, fillA, placesA, isFn, TyI.isAgg, isSeq, isNum, sliceA, boundA, cells_bool, one_bool, cells_int, one_int, cells_str, one_str, cells_ptr, one_ptr, cells_nilptr, one_nilptr, cells_slice, one_slice, cells_vs, one_vs, cells_vptr, one_vptr, cells_func, one_func, cells_yield, one_yield, cells_nilfn, one_nilfn, cells_nilmap, one_nilmap, cells_map, one_map, cells_agg, setParams, Tr.get_set, AMem.get_put, AMem.get_push, AMem.next_put, AMem.next_push, AMem.get_empty, next_empty, Option.map_some, Option.map_none, Option.bind_some, reduceIte, Nat.reduceLT, Nat.reduceLeDiff, Nat.reduceEqDiff, Nat.reduceAdd, Nat.reduceMul, Nat.reduceSub, Nat.reduceBEq, Nat.zero_add, Nat.add_zero, Nat.mul_one, Nat.one_mul, Nat.zero_mul, and_self, and_true, true_and, false_and, and_false, Bool.and_true, Bool.true_and, Bool.and_false, Bool.false_and, if_true, if_false, Int.reduceEq, Int.reduceLT, Int.reduceLE, Int.reduceToNat, Bool.false_eq_true, Bool.not_true, Bool.not_false, BEq.rfl, beq_true_true, beq_true_false, beq_false_true, beq_false_false, List.length_cons, List.length_nil, List.all_cons, List.all_nil, List.getElem?_cons_zero, List.getElem?_cons_succ, List.getElem?_nil, List.getElem?_toArray, List.take_succ_cons, List.take_zero, List.drop_succ_cons, List.drop_zero, List.set_cons_zero, List.set_cons_succ, List.append_nil, List.nil_append, List.cons_append, decide_true, decide_false, decide_eq_true_eq, Option.isNone_none, Option.isNone_some, Option.isSome_none, Option.isSome_some, Bool.or_true, Bool.true_or, Bool.or_false, Bool.false_or, ne_eq, not_false_eq_true, not_true_eq_false, reduceCtorEq, eq_self, beq_refl, minL, minF, maxL, maxF, repZ, vp7_9, vp7_22, vp7_23, vp7_24, vp7_28, vp7_31, vp7_34, vp7_35, ty3, ty4, ty5, ty22, ty25, ty40, ty42, ty44, ty58, ty63, ty64, ty66, ty67, ty68, ord7_8, ord7_9, ord7_10, ord7_15, ord7_17, ord7_18, ord7_22]
    generalize hL2 : execC _ _ _ _ _ (Code.loop _) _ _ = q
    obtain ⟨e, T', σ', rfl, rfl⟩ : ∃ e T' σ', q = some (e, T', σ') ∧ e = .exit 0 := by
      rw [← hL2]
      refine Runs.loop (fun i T σ => ∃ bad K ps l, NetSt k1 k2 L M i i bad K ps l T σ) (roundsN L M) (by unfold roundsN; omega) ?_ ?_
      · rintro i T σ hi ⟨bad, K, ps, l, st⟩
        exact round_net st hL hM hi (by omega)
      · refine ⟨false, .nil, [], [], ?_, ?_, ?_, ?_, ?_, ⟨.vs .nil [], ?_, SentMem.nil _ _⟩, ?_, ?_, ?_, ⟨by decide, by simp, by simp⟩, by simp, by simp⟩
        · simp only [Tr.get_set, Nat.reduceEqDiff, reduceIte]
        · simp only [Tr.get_set, Nat.reduceEqDiff, reduceIte]
        · simp only [Tr.get_set, Nat.reduceEqDiff, reduceIte]; rfl
        · simp only [Tr.get_set, Nat.reduceEqDiff, reduceIte]
        · simp only [Tr.get_set, Nat.reduceEqDiff, reduceIte]; rfl
        · simp only [Tr.get_set, Nat.reduceEqDiff, reduceIte]
        · simp only [AMem.get_put, AMem.get_push, AMem.next_push, next_empty, Nat.reduceAdd, Nat.reduceEqDiff, reduceIte]
        · simp only [AMem.get_put, AMem.get_push, AMem.next_push, next_empty, Nat.reduceAdd, Nat.reduceEqDiff, reduceIte]; rfl
        · simp [next_empty]
    simp only [q_seq, q_cond, q_block, q_region, q_drawn, q_skip, q_exit, q_ret, runOps, runD, again, step1, wantA, opSem, evalO, evalL, evalOpt, evalParts, putA, ofConst, ofScalar, ofScalars, abin, abinInt, aun, convA, builtinA, oneTy, elemTy, lenB_vs, lenB_sl, lenB_str, loadA, storeA, storeCellsA, setAt, partA, fillA, placesA, isFn, TyI.isAgg, isSeq, isNum, sliceA, boundA, cells_bool, one_bool, cells_int, one_int, cells_str, one_str, cells_ptr, one_ptr, cells_nilptr, one_nilptr, cells_slice, one_slice, cells_vs, one_vs, cells_vptr, one_vptr, cells_func, one_func, cells_yield, one_yield, cells_nilfn, one_nilfn, cells_nilmap, one_nilmap, cells_map, one_map, cells_agg, setParams, Tr.get_set, AMem.get_put, AMem.get_push, AMem.next_put, AMem.next_push, AMem.get_empty, next_empty, Option.map_some, Option.map_none, Option.bind_some, reduceIte, Nat.reduceLT, Nat.reduceLeDiff, Nat.reduceEqDiff, Nat.reduceAdd, Nat.reduceMul, Nat.reduceSub, Nat.reduceBEq, Nat.zero_add, Nat.add_zero, Nat.mul_one, Nat.one_mul, Nat.zero_mul, and_self, and_true, true_and, false_and, and_false, Bool.and_true, Bool.true_and, Bool.and_false, Bool.false_and, if_true, if_false, Int.reduceEq, Int.reduceLT, Int.reduceLE, Int.reduceToNat, Bool.false_eq_true, Bool.not_true, Bool.not_false, BEq.rfl, beq_true_true, beq_true_false, beq_false_true, beq_false_false, List.length_cons, List.length_nil, List.all_cons, List.all_nil, List.getElem?_cons_zero, List.getElem?_cons_succ, List.getElem?_nil, List.getElem?_toArray, List.take_succ_cons, List.take_zero, List.drop_succ_cons, List.drop_zero, List.set_cons_zero, List.set_cons_succ, List.append_nil, List.nil_append, List.cons_append, decide_true, decide_false, decide_eq_true_eq, Option.isNone_none, Option.isNone_some, Option.isSome_none, Option.isSome_some, Bool.or_true, Bool.true_or, Bool.or_false, Bool.false_or, ne_eq, not_false_eq_true, not_true_eq_false, reduceCtorEq, eq_self, beq_refl, minL, minF, maxL, maxF, repZ, vp7_9, vp7_22, vp7_23, vp7_24, vp7_28, vp7_31, vp7_34, vp7_35, ty3, ty4, ty5, ty22, ty25, ty40, ty42, ty44, ty58, ty63, ty64, ty66, ty67, ty68, ord7_8, ord7_9, ord7_10, ord7_15, ord7_17, ord7_18, ord7_22, awake_call]
    exact ⟨_, _, rfl, by simp only [Tr.get_set, Nat.reduceEqDiff, reduceIte]⟩
  obtain ⟨T1, σ1, h1, h2⟩ := run
  exact ⟨σ1, q_call (first := []) (caps := []) fn7 rfl (by simp [Tryz.f7]) h1 (by simp) (res_one h2)⟩

variable {P : Program}
theorem elem_three {n ta tu : Nat} {x : AVal} (ha : rkOf P ta = .agg [(tu, 0), (tu, 1), (tu, 2)]) (ca : P.cellsOf ta = 3) (cu : P.cellsOf tu = 1) (hu : rkOf P tu = .int .u8) (h : ElemFit P n ta x) : ∃ t : L3, x = l3V t ∧ L3ok t := by
  obtain ⟨cs, q, rfl, hlen, hall⟩ := elem_agg ha h
  rw [ca] at hlen
  obtain ⟨a, b, c, rfl⟩ : ∃ a b c, cs = [a, b, c] := by
    match cs, hlen with
    | [a, b, c], _ => exact ⟨a, b, c, rfl⟩
  have h0 := hall (tu, 0) (by simp)
  have h1 := hall (tu, 1) (by simp)
  have h2 := hall (tu, 2) (by simp)
  simp only [cu, List.drop_zero, List.drop_succ_cons, List.take_succ_cons, List.take_zero] at h0 h1 h2
  obtain ⟨x, e0, w0⟩ := fit_int hu h0
  obtain ⟨y, e1, w1⟩ := fit_int hu h1
  obtain ⟨z, e2, w2⟩ := fit_int hu h2
  simp only [List.cons.injEq, and_true] at e0 e1 e2
  subst e0; subst e1; subst e2
  have v0 := u8_range w0
  have v1 := u8_range w1
  have v2 := u8_range w2
  refine ⟨(x.toNat, y.toNat, z.toNat), ?_, ?_, ?_, ?_⟩
  · simp only [l3V, Int.toNat_of_nonneg v0.1, Int.toNat_of_nonneg v1.1, Int.toNat_of_nonneg v2.1]
  · simp only; omega
  · simp only; omega
  · simp only; omega
theorem elem_four {n ta tu : Nat} {x : AVal} (ha : rkOf P ta = .agg [(tu, 0), (tu, 1), (tu, 2), (tu, 3)]) (ca : P.cellsOf ta = 4) (cu : P.cellsOf tu = 1) (hu : rkOf P tu = .int .u8) (h : ElemFit P n ta x) : ∃ t : M4, x = m4V t ∧ M4ok t := by
  obtain ⟨cs, q, rfl, hlen, hall⟩ := elem_agg ha h
  rw [ca] at hlen
  obtain ⟨a, b, c, d, rfl⟩ : ∃ a b c d, cs = [a, b, c, d] := by
    match cs, hlen with
    | [a, b, c, d], _ => exact ⟨a, b, c, d, rfl⟩
  have h0 := hall (tu, 0) (by simp)
  have h1 := hall (tu, 1) (by simp)
  have h2 := hall (tu, 2) (by simp)
  have h3 := hall (tu, 3) (by simp)
  simp only [cu, List.drop_zero, List.drop_succ_cons, List.take_succ_cons, List.take_zero] at h0 h1 h2 h3
  obtain ⟨x, e0, w0⟩ := fit_int hu h0
  obtain ⟨y, e1, w1⟩ := fit_int hu h1
  obtain ⟨z, e2, w2⟩ := fit_int hu h2
  obtain ⟨w, e3, w3⟩ := fit_int hu h3
  simp only [List.cons.injEq, and_true] at e0 e1 e2 e3
  subst e0; subst e1; subst e2; subst e3
  have v0 := u8_range w0
  have v1 := u8_range w1
  have v2 := u8_range w2
  have v3 := u8_range w3
  refine ⟨(x.toNat, y.toNat, z.toNat, w.toNat), ?_, ?_, ?_, ?_, ?_⟩
  · simp only [m4V, Int.toNat_of_nonneg v0.1, Int.toNat_of_nonneg v1.1, Int.toNat_of_nonneg v2.1, Int.toNat_of_nonneg v3.1]
  · simp only; omega
  · simp only; omega
  · simp only; omega
  · simp only; omega
theorem elem_traffic {n tx tl tm ta tb tu : Nat} {x : AVal} (hx : rkOf P tx = .agg [(tl, 0), (tm, 1)]) (cx : P.cellsOf tx = 2) (cl : P.cellsOf tl = 1) (cm : P.cellsOf tm = 1) (hl : rkOf P tl = .slice ta) (hm : rkOf P tm = .slice tb) (ha : rkOf P ta = .agg [(tu, 0), (tu, 1), (tu, 2)]) (ca : P.cellsOf ta = 3) (hb : rkOf P tb = .agg [(tu, 0), (tu, 1), (tu, 2), (tu, 3)]) (cb : P.cellsOf tb = 4) (cu : P.cellsOf tu = 1) (hu : rkOf P tu = .int .u8) (h : ElemFit P n tx x) :
    ∃ (k1 k2 : VK) (L : List L3) (M : List M4), x = .agg [.vs k1 (L.map l3V), .vs k2 (M.map m4V)] ∧ (∀ t, t ∈ L → L3ok t) ∧ ∀ t, t ∈ M → M4ok t := by
  obtain ⟨cs, q, rfl, hlen, hall⟩ := elem_agg hx h
  rw [cx] at hlen
  obtain ⟨a, b, rfl⟩ : ∃ a b, cs = [a, b] := by
    match cs, hlen with
    | [a, b], _ => exact ⟨a, b, rfl⟩
  have h0 := hall (tl, 0) (by simp)
  have h1 := hall (tm, 1) (by simp)
  simp only [cl, cm, List.drop_zero, List.drop_succ_cons, List.take_succ_cons, List.take_zero] at h0 h1
  obtain ⟨_, k1, es, e0, _, _, _, g0⟩ := fit_slice hl h0
  obtain ⟨_, k2, fs, e1, _, _, _, g1⟩ := fit_slice hm h1
  simp only [List.cons.injEq, and_true] at e0 e1
  subst e0; subst e1
  obtain ⟨L, rfl, hL⟩ := list_form (f := l3V) (Q := L3ok) es (fun x hx => elem_three ha ca cu hu (g0 x hx))
  obtain ⟨M, rfl, hM⟩ := list_form (f := m4V) (Q := M4ok) fs (fun x hx => elem_four hb cb cu hu (g1 x hx))
  exact ⟨k1, k2, L, M, rfl, hL, hM⟩
end Go.Proofs.YtikhidpcaefjiaaGreatDoor
