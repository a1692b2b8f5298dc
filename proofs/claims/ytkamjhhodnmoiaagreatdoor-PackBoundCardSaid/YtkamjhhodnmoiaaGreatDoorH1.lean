/- ref.Copy: what it gives. -/
import Derived.Test.YtkamjhhodnmoiaaGreatDoorF4
import Derived.Test.YtkamjhhodnmoiaaGreatDoorPaleDeep
set_option maxRecDepth 100000
set_option linter.unusedSimpArgs false
set_option linter.unusedVariables false
namespace Go.Proofs.YtkamjhhodnmoiaaGreatDoor
open Go Go.Proofs.YtkamjhhodnmoiaaGreatDoor.Pale
variable {k : Nat} {σ : AMem}

def prtN (p : Part) : AVal := .vs .some (bytesV p.2)
def shN (s : Sh) : List AVal := [.int .i64 s.name, .vs (lkOf s.data.length) (s.data.map prtN)]
def normS (s : Sh) : Sh := { name := s.name, dk := lkOf s.data.length, data := s.data.map fun p => (.some, p.2) }
theorem shN_norm (s : Sh) : AVal.agg (shN s) = shV (normS s) := by
  simp only [shN, shV, shC, normS, List.map_map]
  rfl
theorem prtN_one (l : List Part) : (l.map prtN).all AVal.oneCell = true := by
  rw [List.all_eq_true]
  intro v hv
  obtain ⟨p, _, rfl⟩ := List.mem_map.1 hv
  rfl
theorem Deep.one' {d low : Nat} {σ : AMem} {sz : Nat} {g : Bool} {out : AVal} {j : Nat} {cells ys : List AVal} (h : Deep d low σ sz g out j cells ys) : out.oneCell = true := h.1.oneC

theorem rcopy_exec (d : Nat) (lk : VK) (shs : List Sh) (hn : shs.length ≤ 1000) (hd : ∀ s, s ∈ shs → s.data.length ≤ 1000 ∧ ∀ p, p ∈ s.data → p.2.length ≤ 1000) (hk : 3000 ≤ k) :
    ∃ T1 σ1 out ls, execC lawProg (callN lawProg k) k 10 56 (bodyOf Tryz.f10) (initT 0 [.agg [.vs lk (shs.map shV)]] .nil) σ = some (.ret, T1, σ1) ∧ resultsA lawProg T1 σ1 Tryz.f10.results.toList = some [.agg [out]] ∧ Ext σ σ1 ∧ Deep (d + 3) (σ.next + 3) σ1 2 true out shs.length (ls : List (List AVal)).flatten (shs.map shN).flatten ∧ ls.length = shs.length ∧ (∀ l, l ∈ ls → l.length = 2) ∧ (shs.length = 0 → out = .vs .nil []) := by
  obtain ⟨b, hbn⟩ : ∃ b, b = σ.next := ⟨_, rfl⟩
  simp only [bodyOf, Tryz.f10, Option.getD_some, initT, q_seq, q_cond, q_block, q_region, q_drawn, q_skip, q_exit, q_ret, runOps, runD, again, step1, wantA, opSem, evalO, evalL, evalOpt, evalParts, putA, ofConst, ofScalar, ofScalars, abin, abinInt, aun, convA, builtinA, oneTy, elemTy, lenB_vs, lenB_sl, lenB_str, loadA, storeA, storeCellsA, setAt, partA, fillA, placesA, isFn, TyI.isAgg, isSeq, isNum, sliceA, boundA, cells_bool, one_bool, cells_int, one_int, cells_str, one_str, cells_ptr, one_ptr, cells_nilptr, one_nilptr, cells_slice, one_slice, cells_vs, one_vs, cells_vptr, one_vptr, cells_func, one_func, cells_yield, one_yield, cells_nilfn, one_nilfn, cells_nilmap, one_nilmap, cells_map, one_map, cells_agg, setParams, Tr.get_set, AMem.get_put, AMem.get_push, AMem.next_put, AMem.next_push, AMem.get_empty, next_empty, Option.map_some, Option.map_none, Option.bind_some, reduceIte, Nat.reduceLT, Nat.reduceLeDiff, Nat.reduceEqDiff, Nat.reduceAdd, Nat.reduceMul, Nat.reduceSub, Nat.reduceBEq, Nat.zero_add, Nat.add_zero, Nat.mul_one, Nat.one_mul, Nat.zero_mul, and_self, and_true, true_and, false_and, and_false, Bool.and_true, Bool.true_and, Bool.and_false, Bool.false_and, if_true, if_false, Int.reduceEq, Int.reduceLT, Int.reduceLE, Int.reduceToNat, Bool.false_eq_true, Bool.not_true, Bool.not_false, BEq.rfl, beq_true_true, beq_true_false, beq_false_true, beq_false_false, List.length_cons, List.length_nil, List.all_cons, List.all_nil, List.getElem?_cons_zero, List.getElem?_cons_succ, List.getElem?_nil, List.getElem?_toArray, List.take_succ_cons, List.take_zero, List.drop_succ_cons, List.drop_zero, List.set_cons_zero, List.set_cons_succ, List.append_nil, List.nil_append, List.cons_append, decide_true, decide_false, decide_eq_true_eq, Option.isNone_none, Option.isNone_some, Option.isSome_none, Option.isSome_some, Bool.or_true, Bool.true_or, Bool.or_false, Bool.false_or, ne_eq, not_false_eq_true, not_true_eq_false, reduceCtorEq, eq_self, beq_refl, minL, minF, maxL, maxF, repZ, ty3, ty5, ty22, ty24, ty25, ty41, ty53, ord10_9, Nat.add_assoc, Nat.add_eq_left, Nat.left_eq_add, Nat.add_left_cancel_iff, ← hbn]
  generalize hL : execC _ _ _ _ _ (Code.loop _) _ _ = r
  obtain ⟨e, T', σ', rfl, _, rfl, f2, f3, out, ls, m1, m2, m3, m4, m5, m6, m7, m8⟩ : ∃ e T' σ', r = some (e, T', σ') ∧ e ≠ .normal ∧ (e = .exit 0 ∧ T'.get 2 = some (.ptr (b + 1) 0) ∧ T'.get 3 = some (.ptr (b + 2) 0) ∧ ∃ out ls, σ'.get (b + 1) = some (.row 1 true [.vs .nil []]) ∧ σ'.get (b + 2) = some (.row 1 true [out]) ∧ Ext σ σ' ∧ b + 3 ≤ σ'.next ∧ Deep (d + 3) (b + 3) σ' 2 true out shs.length (ls : List (List AVal)).flatten (shs.map shN).flatten ∧ ls.length = shs.length ∧ (∀ l, l ∈ ls → l.length = 2) ∧ (shs.length = 0 → out = .vs .nil [])) := by
    rw [← hL]
    refine exec_loop (fun i T σ' => i ≤ shs.length ∧ T.get 1 = some (.ptr b 0) ∧ T.get 2 = some (.ptr (b + 1) 0) ∧ T.get 3 = some (.ptr (b + 2) 0) ∧ T.get 4 = some (.int .i64 i) ∧ ∃ out ls, σ'.get b = some (.row 1 true [.vs lk (shs.map shV)]) ∧ σ'.get (b + 1) = some (.row 1 true [.vs .nil []]) ∧ σ'.get (b + 2) = some (.row 1 true [out]) ∧ Ext σ σ' ∧ b + 3 ≤ σ'.next ∧ Deep (d + 3) (b + 3) σ' 2 true out i (ls : List (List AVal)).flatten ((shs.take i).map shN).flatten ∧ ls.length = i ∧ (∀ l, l ∈ ls → l.length = 2) ∧ (i = 0 → out = .vs .nil [])) shs.length (by omega) ?_ ?_ ?_
    · rintro i hi T σ' ⟨_, t1, t2, t3, t4, out, ls, m0, m1, m2, m3, m4, m5, m6, m7, m8⟩
      have hli : (i : Int) < shs.length := by omega
      obtain ⟨d1, d2⟩ := hd _ (List.getElem_mem hi)
      have hw := i64_succ (i := i) (by omega)
      obtain ⟨y, hy⟩ : ∃ y, y = σ'.next := ⟨_, rfl⟩
      have qb : ¬ y = b := by omega
      have qb1 : ¬ y = b + 1 := by omega
      have qb2 : ¬ y = b + 2 := by omega
      simp only [q_seq, q_cond, q_block, q_region, q_drawn, q_skip, q_exit, q_ret, runOps, runD, again, step1, wantA, opSem, evalO, evalL, evalOpt, evalParts, putA, ofConst, ofScalar, ofScalars, abin, abinInt, aun, convA, builtinA, oneTy, elemTy, lenB_vs, lenB_sl, lenB_str, loadA, storeA, storeCellsA, setAt, partA, fillA, placesA, isFn, TyI.isAgg, isSeq, isNum, sliceA, boundA, cells_bool, one_bool, cells_int, one_int, cells_str, one_str, cells_ptr, one_ptr, cells_nilptr, one_nilptr, cells_slice, one_slice, cells_vs, one_vs, cells_vptr, one_vptr, cells_func, one_func, cells_yield, one_yield, cells_nilfn, one_nilfn, cells_nilmap, one_nilmap, cells_map, one_map, cells_agg, setParams, Tr.get_set, AMem.get_put, AMem.get_push, AMem.next_put, AMem.next_push, AMem.get_empty, next_empty, Option.map_some, Option.map_none, Option.bind_some, reduceIte, Nat.reduceLT, Nat.reduceLeDiff, Nat.reduceEqDiff, Nat.reduceAdd, Nat.reduceMul, Nat.reduceSub, Nat.reduceBEq, Nat.zero_add, Nat.add_zero, Nat.mul_one, Nat.one_mul, Nat.zero_mul, and_self, and_true, true_and, false_and, and_false, Bool.and_true, Bool.true_and, Bool.and_false, Bool.false_and, if_true, if_false, Int.reduceEq, Int.reduceLT, Int.reduceLE, Int.reduceToNat, Bool.false_eq_true, Bool.not_true, Bool.not_false, BEq.rfl, beq_true_true, beq_true_false, beq_false_true, beq_false_false, List.length_cons, List.length_nil, List.all_cons, List.all_nil, List.getElem?_cons_zero, List.getElem?_cons_succ, List.getElem?_nil, List.getElem?_toArray, List.take_succ_cons, List.take_zero, List.drop_succ_cons, List.drop_zero, List.set_cons_zero, List.set_cons_succ, List.append_nil, List.nil_append, List.cons_append, decide_true, decide_false, decide_eq_true_eq, Option.isNone_none, Option.isNone_some, Option.isSome_none, Option.isSome_some, Bool.or_true, Bool.true_or, Bool.or_false, Bool.false_or, ne_eq, not_false_eq_true, not_true_eq_false, reduceCtorEq, eq_self, beq_refl, minL, minF, maxL, maxF, repZ, ty3, ty5, ty22, ty24, ty25, ty41, ty53, ord10_9, Nat.add_assoc, Nat.add_eq_left, Nat.left_eq_add, Nat.add_left_cancel_iff, t1, t2, t3, t4, m0, m1, m2, hli, Int.natCast_nonneg, Int.toNat_natCast, sh_get hi, List.length_map, ← hy, qb, qb1, qb2]
      generalize hL2 : execC _ _ _ _ _ (Code.loop _) _ _ = r2
      obtain ⟨e, T2, σ2, rfl, _, rfl, u1, u2, u3, u4, u5, oi, cs, n1, n2, n3, n4, n5⟩ : ∃ e T' σ2, r2 = some (e, T', σ2) ∧ e ≠ .normal ∧ (e = .exit 2 ∧ T'.get 1 = some (.ptr b 0) ∧ T'.get 2 = some (.ptr (b + 1) 0) ∧ T'.get 3 = some (.ptr (b + 2) 0) ∧ T'.get 4 = some (.int .i64 i) ∧ T'.get 5 = some (.ptr y 0) ∧ ∃ oi cs, σ2.get y = some (.row 2 true [.int .i64 shs[i].name, oi]) ∧ y + 1 ≤ σ2.next ∧ (∀ s, s < y → σ2.get s = σ'.get s) ∧ Deep (d + 2) (y + 1) σ2 1 false oi shs[i].data.length cs (shs[i].data.map prtN) ∧ (shs[i].data.length = 0 → oi = .vs .nil [])) := by
        rw [← hL2]
        refine exec_loop (fun j T σ2 => j ≤ shs[i].data.length ∧ T.get 1 = some (.ptr b 0) ∧ T.get 2 = some (.ptr (b + 1) 0) ∧ T.get 3 = some (.ptr (b + 2) 0) ∧ T.get 4 = some (.int .i64 i) ∧ T.get 5 = some (.ptr y 0) ∧ T.get 6 = some (.int .i64 j) ∧ ∃ oi cs, σ2.get y = some (.row 2 true [.int .i64 shs[i].name, oi]) ∧ y + 1 ≤ σ2.next ∧ (∀ s, s < y → σ2.get s = σ'.get s) ∧ Deep (d + 2) (y + 1) σ2 1 false oi j cs ((shs[i].data.take j).map prtN) ∧ (j = 0 → oi = .vs .nil [])) shs[i].data.length (by omega) ?_ ?_ ?_
        · rintro j hj T σ2 ⟨_, t1, t2, t3, t4, t5, t6, oi, cs, n1, n2, n3, n4, n5⟩
          have hlt : (j : Int) < shs[i].data.length := by omega
          have hw := i64_succ (i := j) (by omega)
          have g0 : σ2.get b = some (.row 1 true [.vs lk (shs.map shV)]) := by rw [n3 b (by omega)]; exact m0
          have hg := part_get hj
          obtain ⟨rp, σ3, c1, c2, c3, c4, c5⟩ := copy_at (σ := σ2) (.vs shs[i].data[j].1 (bytesV shs[i].data[j].2)) (bs := shs[i].data[j].2) (fun σ => source_bytes σ _ _) (by have := d2 _ (List.getElem_mem hj); omega)
          have n4' : Deep (d + 2) (y + 1) σ3 1 false oi j cs ((shs[i].data.take j).map prtN) := n4.same c2.1 fun s _ h => c2.2 s h
          have hx : ReadsL (d + 2) (y + 1) σ3 (rowOf oi) [.slice rp 0 shs[i].data[j].2.length (capOf shs[i].data[j].2) 1] [prtN shs[i].data[j]] := by
            refine ⟨[rp] ++ [], ?_, fun s hs => ?_⟩
            · have := snap_bytes (fr := false) (σ := σ3) (d := d) (r := rp) (bs := shs[i].data[j].2) (more := []) (cap := capOf shs[i].data[j].2) rfl (by rw [List.append_nil]; exact c5)
              simp only [snapL, this, prtN]
            · simp only [List.append_nil, List.mem_singleton] at hs
              subst hs
              exact ⟨by omega, c4, fun h => by have := (n4.1.rows _ h).2.1; omega⟩
          obtain ⟨σ4, a1, a2, a3, a4⟩ := Deep.one (e := tyPart) n4' hx (by have := c2.1; omega) rfl (by decide) (by decide) (by decide) (by simp only [tyPart, mostBytes]; omega) rfl
          simp only [tyPart, TyI.isAgg] at a1 a2
          have k1 : σ4.get y = some (.row 2 true [.int .i64 shs[i].name, oi]) := by rw [a4 y (by omega), c2.2 y (by omega)]; exact n1
          have k0 : σ3.get y = some (.row 2 true [.int .i64 shs[i].name, oi]) := by rw [c2.2 y (by omega)]; exact n1
          have qy : ¬ σ2.next = y := by omega
          have qy0 : ¬ σ2.next = b := by omega
          refine ⟨_, _, by
            simp only [q_seq, q_cond, q_block, q_region, q_drawn, q_skip, q_exit, q_ret, runOps, runD, again, step1, wantA, opSem, evalO, evalL, evalOpt, evalParts, putA, ofConst, ofScalar, ofScalars, abin, abinInt, aun, convA, builtinA, oneTy, elemTy, lenB_vs, lenB_sl, lenB_str, loadA, storeA, storeCellsA, setAt, partA, fillA, placesA, isFn, TyI.isAgg, isSeq, isNum, sliceA, boundA, cells_bool, one_bool, cells_int, one_int, cells_str, one_str, cells_ptr, one_ptr, cells_nilptr, one_nilptr, cells_slice, one_slice, cells_vs, one_vs, cells_vptr, one_vptr, cells_func, one_func, cells_yield, one_yield, cells_nilfn, one_nilfn, cells_nilmap, one_nilmap, cells_map, one_map, cells_agg, setParams, Tr.get_set, AMem.get_put, AMem.get_push, AMem.next_put, AMem.next_push, AMem.get_empty, next_empty, Option.map_some, Option.map_none, Option.bind_some, reduceIte, Nat.reduceLT, Nat.reduceLeDiff, Nat.reduceEqDiff, Nat.reduceAdd, Nat.reduceMul, Nat.reduceSub, Nat.reduceBEq, Nat.zero_add, Nat.add_zero, Nat.mul_one, Nat.one_mul, Nat.zero_mul, and_self, and_true, true_and, false_and, and_false, Bool.and_true, Bool.true_and, Bool.and_false, Bool.false_and, if_true, if_false, Int.reduceEq, Int.reduceLT, Int.reduceLE, Int.reduceToNat, Bool.false_eq_true, Bool.not_true, Bool.not_false, BEq.rfl, beq_true_true, beq_true_false, beq_false_true, beq_false_false, List.length_cons, List.length_nil, List.all_cons, List.all_nil, List.getElem?_cons_zero, List.getElem?_cons_succ, List.getElem?_nil, List.getElem?_toArray, List.take_succ_cons, List.take_zero, List.drop_succ_cons, List.drop_zero, List.set_cons_zero, List.set_cons_succ, List.append_nil, List.nil_append, List.cons_append, decide_true, decide_false, decide_eq_true_eq, Option.isNone_none, Option.isNone_some, Option.isSome_none, Option.isSome_some, Bool.or_true, Bool.true_or, Bool.or_false, Bool.false_or, ne_eq, not_false_eq_true, not_true_eq_false, reduceCtorEq, eq_self, beq_refl, minL, minF, maxL, maxF, repZ, ty3, ty5, ty22, ty24, ty25, ty41, ty53, ord10_9, Nat.add_assoc, Nat.add_eq_left, Nat.left_eq_add, Nat.add_left_cancel_iff, t1, t2, t3, t4, t5, t6, hli, hlt, Int.natCast_nonneg, Int.toNat_natCast, g0, sh_get hi, List.length_map, hg, n1, qy, qy0, c1, a1, k0, k1, hw]
            rfl, hj, ?_, ?_, ?_, ?_, ?_, ?_, .slice (σ3.next + 1) 0 (j + 1) none 1, cs ++ [.slice rp 0 shs[i].data[j].2.length (capOf shs[i].data[j].2) 1], ?_, ?_, ?_, ?_, fun h => by simp at h⟩
          · simp only [Tr.get_set, Nat.reduceEqDiff, reduceIte, t1]
          · simp only [Tr.get_set, Nat.reduceEqDiff, reduceIte, t2]
          · simp only [Tr.get_set, Nat.reduceEqDiff, reduceIte, t3]
          · simp only [Tr.get_set, Nat.reduceEqDiff, reduceIte, t4]
          · simp only [Tr.get_set, Nat.reduceEqDiff, reduceIte, t5]
          · simp only [Tr.get_set, Nat.reduceEqDiff, reduceIte]
          · rw [AMem.get_put, if_pos rfl]
          · simp only [AMem.next_put]; have := c2.1; omega
          · intro s h1
            rw [AMem.get_put, if_neg (by omega), a4 s (by omega), c2.2 s (by omega), n3 s h1]
          · rw [List.take_succ_eq_append_getElem hj, List.map_append]
            exact a2.same (by simp) fun s h1 h2 => by rw [AMem.get_put, if_neg (by omega)]
        · rintro T σ2 ⟨_, t1, t2, t3, t4, t5, t6, oi, cs, n1, n2, n3, n4, n5⟩
          rw [List.take_length] at n4
          have g0 : σ2.get b = some (.row 1 true [.vs lk (shs.map shV)]) := by rw [n3 b (by omega)]; exact m0
          exact ⟨_, _, _, by
            simp only [q_seq, q_cond, q_block, q_region, q_drawn, q_skip, q_exit, q_ret, runOps, runD, again, step1, wantA, opSem, evalO, evalL, evalOpt, evalParts, putA, ofConst, ofScalar, ofScalars, abin, abinInt, aun, convA, builtinA, oneTy, elemTy, lenB_vs, lenB_sl, lenB_str, loadA, storeA, storeCellsA, setAt, partA, fillA, placesA, isFn, TyI.isAgg, isSeq, isNum, sliceA, boundA, cells_bool, one_bool, cells_int, one_int, cells_str, one_str, cells_ptr, one_ptr, cells_nilptr, one_nilptr, cells_slice, one_slice, cells_vs, one_vs, cells_vptr, one_vptr, cells_func, one_func, cells_yield, one_yield, cells_nilfn, one_nilfn, cells_nilmap, one_nilmap, cells_map, one_map, cells_agg, setParams, Tr.get_set, AMem.get_put, AMem.get_push, AMem.next_put, AMem.next_push, AMem.get_empty, next_empty, Option.map_some, Option.map_none, Option.bind_some, reduceIte, Nat.reduceLT, Nat.reduceLeDiff, Nat.reduceEqDiff, Nat.reduceAdd, Nat.reduceMul, Nat.reduceSub, Nat.reduceBEq, Nat.zero_add, Nat.add_zero, Nat.mul_one, Nat.one_mul, Nat.zero_mul, and_self, and_true, true_and, false_and, and_false, Bool.and_true, Bool.true_and, Bool.and_false, Bool.false_and, if_true, if_false, Int.reduceEq, Int.reduceLT, Int.reduceLE, Int.reduceToNat, Bool.false_eq_true, Bool.not_true, Bool.not_false, BEq.rfl, beq_true_true, beq_true_false, beq_false_true, beq_false_false, List.length_cons, List.length_nil, List.all_cons, List.all_nil, List.getElem?_cons_zero, List.getElem?_cons_succ, List.getElem?_nil, List.getElem?_toArray, List.take_succ_cons, List.take_zero, List.drop_succ_cons, List.drop_zero, List.set_cons_zero, List.set_cons_succ, List.append_nil, List.nil_append, List.cons_append, decide_true, decide_false, decide_eq_true_eq, Option.isNone_none, Option.isNone_some, Option.isSome_none, Option.isSome_some, Bool.or_true, Bool.true_or, Bool.or_false, Bool.false_or, ne_eq, not_false_eq_true, not_true_eq_false, reduceCtorEq, eq_self, beq_refl, minL, minF, maxL, maxF, repZ, ty3, ty5, ty22, ty24, ty25, ty41, ty53, ord10_9, Nat.add_assoc, Nat.add_eq_left, Nat.left_eq_add, Nat.add_left_cancel_iff, t1, t2, t3, t4, t5, t6, hli, Int.natCast_nonneg, Int.toNat_natCast, g0, sh_get hi, List.length_map, Int.lt_irrefl]
            rfl, by simp, rfl, by simp only [Tr.get_set, Nat.reduceEqDiff, reduceIte, t1], by simp only [Tr.get_set, Nat.reduceEqDiff, reduceIte, t2], by simp only [Tr.get_set, Nat.reduceEqDiff, reduceIte, t3], by simp only [Tr.get_set, Nat.reduceEqDiff, reduceIte, t4], by simp only [Tr.get_set, Nat.reduceEqDiff, reduceIte, t5], oi, cs, n1, n2, n3, n4, n5⟩
        · refine ⟨Nat.zero_le _, ?_, ?_, ?_, ?_, ?_, ?_, .vs .nil [], [], ?_, ?_, ?_, Deep.start _ _ _ _ _, fun _ => rfl⟩
          · simp only [Tr.get_set, Nat.reduceEqDiff, reduceIte, t1]
          · simp only [Tr.get_set, Nat.reduceEqDiff, reduceIte, t2]
          · simp only [Tr.get_set, Nat.reduceEqDiff, reduceIte, t3]
          · simp only [Tr.get_set, Nat.reduceEqDiff, reduceIte, t4]
          · simp only [Tr.get_set, Nat.reduceEqDiff, reduceIte]
          · simp only [Tr.get_set, Nat.reduceEqDiff, reduceIte]; rfl
          · simp only [AMem.get_put, AMem.get_push, AMem.next_put, AMem.next_push, ← hy, reduceIte]
          · simp only [AMem.next_put, AMem.next_push]; omega
          · intro s h1
            simp only [AMem.get_put, AMem.get_push, AMem.next_put, AMem.next_push, ← hy, show ¬ y = s by omega, if_false]
      have hro := n4.1.oneC
      have hrows := m5.1.rows
      have m5' : Deep (d + 3) (b + 3) σ2 2 true out i ls.flatten ((shs.take i).map shN).flatten := m5.same (by omega) fun s _ h => n3 s (by omega)
      have hx : ReadsL (d + 3) (b + 3) σ2 (rowOf out) [.int .i64 shs[i].name, oi] (shN shs[i]) := by
        have h1 : ReadsL (d + 3) (b + 3) σ2 (rowOf out) [.int .i64 shs[i].name] [.int .i64 shs[i].name] := ReadsL.pure rfl
        have h2 := Deep.ones (d := d + 1) n4 n5 (prtN_one _) (rowOf out) (fun s hs => by have := (hrows s hs).2.1; omega)
        exact h1.append (h2.same (low' := b + 3) (by omega) (Nat.le_refl _) (fun _ _ _ _ => rfl) fun _ _ _ h => h)
      obtain ⟨σ3, a1, a2, a3, a4⟩ := Deep.one (e := tySh) m5' hx (by omega) rfl (by decide) (by decide) (by decide) (by simp only [tySh, mostBytes]; omega) (by simp only [List.all_cons, List.all_nil, hro]; rfl)
      simp only [tySh, TyI.isAgg] at a1 a2
      have k2 : σ2.get (b + 2) = some (.row 1 true [out]) := by rw [n3 _ (by omega)]; exact m2
      have k3 : σ3.get (b + 2) = some (.row 1 true [out]) := by rw [a4 _ (by omega)]; exact k2
      have k1 : σ3.get (b + 1) = some (.row 1 true [.vs .nil []]) := by rw [a4 _ (by omega), n3 _ (by omega)]; exact m1
      have k0 : σ3.get b = some (.row 1 true [.vs lk (shs.map shV)]) := by rw [a4 _ (by omega), n3 _ (by omega)]; exact m0
      have ho := m5.1.oneC
      simp only [q_seq, q_cond, q_block, q_region, q_drawn, q_skip, q_exit, q_ret, runOps, runD, again, step1, wantA, opSem, evalO, evalL, evalOpt, evalParts, putA, ofConst, ofScalar, ofScalars, abin, abinInt, aun, convA, builtinA, oneTy, elemTy, lenB_vs, lenB_sl, lenB_str, loadA, storeA, storeCellsA, setAt, partA, fillA, placesA, isFn, TyI.isAgg, isSeq, isNum, sliceA, boundA, cells_bool, one_bool, cells_int, one_int, cells_str, one_str, cells_ptr, one_ptr, cells_nilptr, one_nilptr, cells_slice, one_slice, cells_vs, one_vs, cells_vptr, one_vptr, cells_func, one_func, cells_yield, one_yield, cells_nilfn, one_nilfn, cells_nilmap, one_nilmap, cells_map, one_map, cells_agg, setParams, Tr.get_set, AMem.get_put, AMem.get_push, AMem.next_put, AMem.next_push, AMem.get_empty, next_empty, Option.map_some, Option.map_none, Option.bind_some, reduceIte, Nat.reduceLT, Nat.reduceLeDiff, Nat.reduceEqDiff, Nat.reduceAdd, Nat.reduceMul, Nat.reduceSub, Nat.reduceBEq, Nat.zero_add, Nat.add_zero, Nat.mul_one, Nat.one_mul, Nat.zero_mul, and_self, and_true, true_and, false_and, and_false, Bool.and_true, Bool.true_and, Bool.and_false, Bool.false_and, if_true, if_false, Int.reduceEq, Int.reduceLT, Int.reduceLE, Int.reduceToNat, Bool.false_eq_true, Bool.not_true, Bool.not_false, BEq.rfl, beq_true_true, beq_true_false, beq_false_true, beq_false_false, List.length_cons, List.length_nil, List.all_cons, List.all_nil, List.getElem?_cons_zero, List.getElem?_cons_succ, List.getElem?_nil, List.getElem?_toArray, List.take_succ_cons, List.take_zero, List.drop_succ_cons, List.drop_zero, List.set_cons_zero, List.set_cons_succ, List.append_nil, List.nil_append, List.cons_append, decide_true, decide_false, decide_eq_true_eq, Option.isNone_none, Option.isNone_some, Option.isSome_none, Option.isSome_some, Bool.or_true, Bool.true_or, Bool.or_false, Bool.false_or, ne_eq, not_false_eq_true, not_true_eq_false, reduceCtorEq, eq_self, beq_refl, minL, minF, maxL, maxF, repZ, ty3, ty5, ty22, ty24, ty25, ty41, ty53, ord10_9, Nat.add_assoc, Nat.add_eq_left, Nat.left_eq_add, Nat.add_left_cancel_iff, u1, u2, u3, u4, u5, n1, k2, k3, a1, ho, hw]
      refine ⟨_, _, rfl, hi, ?_, ?_, ?_, ?_, .slice (σ2.next + 1) 0 (i + 1) none 2, ls ++ [[.int .i64 shs[i].name, oi]], ?_, ?_, ?_, ?_, ?_, ?_, ?_, ?_, fun h => by simp at h⟩
      · simp only [Tr.get_set, Nat.reduceEqDiff, reduceIte, u1]
      · simp only [Tr.get_set, Nat.reduceEqDiff, reduceIte, u2]
      · simp only [Tr.get_set, Nat.reduceEqDiff, reduceIte, u3]
      · simp only [Tr.get_set, Nat.reduceEqDiff, reduceIte]
      · rw [AMem.get_put, if_neg (by omega)]; exact k0
      · rw [AMem.get_put, if_neg (by omega)]; exact k1
      · rw [AMem.get_put, if_pos rfl]
      · refine Ext.put ⟨by have := m3.1; omega, fun s hs => ?_⟩ _ _ (by omega)
        rw [a4 s (by omega), n3 s (by omega)]
        exact m3.2 s hs
      · simp only [AMem.next_put]; omega
      · rw [List.take_succ_eq_append_getElem hi, List.map_append, List.flatten_append, List.flatten_append]
        simp only [List.map_cons, List.map_nil, List.flatten_cons, List.flatten_nil, List.append_nil]
        exact a2.same (by simp) fun s h1 h2 => by rw [AMem.get_put, if_neg (by omega)]
      · simp [m6]
      · intro l hl
        rcases List.mem_append.1 hl with h | h
        · exact m7 l h
        · rw [List.mem_singleton.1 h]; rfl
    · rintro T σ' ⟨_, t1, t2, t3, t4, out, ls, m0, m1, m2, m3, m4, m5, m6, m7, m8⟩
      rw [List.take_length] at m5
      refine ⟨_, _, _, by
        simp only [q_seq, q_cond, q_block, q_region, q_drawn, q_skip, q_exit, q_ret, runOps, runD, again, step1, wantA, opSem, evalO, evalL, evalOpt, evalParts, putA, ofConst, ofScalar, ofScalars, abin, abinInt, aun, convA, builtinA, oneTy, elemTy, lenB_vs, lenB_sl, lenB_str, loadA, storeA, storeCellsA, setAt, partA, fillA, placesA, isFn, TyI.isAgg, isSeq, isNum, sliceA, boundA, cells_bool, one_bool, cells_int, one_int, cells_str, one_str, cells_ptr, one_ptr, cells_nilptr, one_nilptr, cells_slice, one_slice, cells_vs, one_vs, cells_vptr, one_vptr, cells_func, one_func, cells_yield, one_yield, cells_nilfn, one_nilfn, cells_nilmap, one_nilmap, cells_map, one_map, cells_agg, setParams, Tr.get_set, AMem.get_put, AMem.get_push, AMem.next_put, AMem.next_push, AMem.get_empty, next_empty, Option.map_some, Option.map_none, Option.bind_some, reduceIte, Nat.reduceLT, Nat.reduceLeDiff, Nat.reduceEqDiff, Nat.reduceAdd, Nat.reduceMul, Nat.reduceSub, Nat.reduceBEq, Nat.zero_add, Nat.add_zero, Nat.mul_one, Nat.one_mul, Nat.zero_mul, and_self, and_true, true_and, false_and, and_false, Bool.and_true, Bool.true_and, Bool.and_false, Bool.false_and, if_true, if_false, Int.reduceEq, Int.reduceLT, Int.reduceLE, Int.reduceToNat, Bool.false_eq_true, Bool.not_true, Bool.not_false, BEq.rfl, beq_true_true, beq_true_false, beq_false_true, beq_false_false, List.length_cons, List.length_nil, List.all_cons, List.all_nil, List.getElem?_cons_zero, List.getElem?_cons_succ, List.getElem?_nil, List.getElem?_toArray, List.take_succ_cons, List.take_zero, List.drop_succ_cons, List.drop_zero, List.set_cons_zero, List.set_cons_succ, List.append_nil, List.nil_append, List.cons_append, decide_true, decide_false, decide_eq_true_eq, Option.isNone_none, Option.isNone_some, Option.isSome_none, Option.isSome_some, Bool.or_true, Bool.true_or, Bool.or_false, Bool.false_or, ne_eq, not_false_eq_true, not_true_eq_false, reduceCtorEq, eq_self, beq_refl, minL, minF, maxL, maxF, repZ, ty3, ty5, ty22, ty24, ty25, ty41, ty53, ord10_9, Nat.add_assoc, Nat.add_eq_left, Nat.left_eq_add, Nat.add_left_cancel_iff, t1, t2, t3, t4, m0, m1, m2, List.length_map, Int.lt_irrefl]
        rfl, by simp, rfl, ?_, ?_, out, ls, m1, m2, m3, m4, m5, m6, m7, m8⟩
      · simp only [Tr.get_set, Nat.reduceEqDiff, reduceIte, t2]
      · simp only [Tr.get_set, Nat.reduceEqDiff, reduceIte, t3]
    · refine ⟨Nat.zero_le _, ?_, ?_, ?_, ?_, .vs .nil [], [], ?_, ?_, ?_, ?_, ?_, Deep.start _ _ _ _ _, rfl, by simp, fun _ => rfl⟩
      · simp only [Tr.get_set, Nat.reduceEqDiff, reduceIte]
      · simp only [Tr.get_set, Nat.reduceEqDiff, reduceIte]
      · simp only [Tr.get_set, Nat.reduceEqDiff, reduceIte]
      · simp only [Tr.get_set, Nat.reduceEqDiff, reduceIte]; rfl
      · simp only [AMem.get_put, AMem.get_push, AMem.next_push, AMem.next_put, ← hbn, Nat.add_assoc, Nat.reduceAdd, Nat.add_eq_left, Nat.left_eq_add, Nat.add_left_cancel_iff, Nat.reduceEqDiff, reduceIte]
      · simp only [AMem.get_put, AMem.get_push, AMem.next_push, AMem.next_put, ← hbn, Nat.add_assoc, Nat.reduceAdd, Nat.add_eq_left, Nat.left_eq_add, Nat.add_left_cancel_iff, Nat.reduceEqDiff, reduceIte]
      · simp only [AMem.get_put, AMem.get_push, AMem.next_push, AMem.next_put, ← hbn, Nat.add_assoc, Nat.reduceAdd, Nat.add_eq_left, Nat.left_eq_add, Nat.add_left_cancel_iff, Nat.reduceEqDiff, reduceIte]
      · exact (((Ext.push _ _).trans (Ext.push _ _)).trans (Ext.push _ _)).put _ _ (by omega)
      · simp [← hbn]
  have ho := m5.1.oneC
  simp only [q_seq, q_cond, q_block, q_region, q_drawn, q_skip, q_exit, q_ret, runOps, runD, again, step1, wantA, opSem, evalO, evalL, evalOpt, evalParts, putA, ofConst, ofScalar, ofScalars, abin, abinInt, aun, convA, builtinA, oneTy, elemTy, lenB_vs, lenB_sl, lenB_str, loadA, storeA, storeCellsA, setAt, partA, fillA, placesA, isFn, TyI.isAgg, isSeq, isNum, sliceA, boundA, cells_bool, one_bool, cells_int, one_int, cells_str, one_str, cells_ptr, one_ptr, cells_nilptr, one_nilptr, cells_slice, one_slice, cells_vs, one_vs, cells_vptr, one_vptr, cells_func, one_func, cells_yield, one_yield, cells_nilfn, one_nilfn, cells_nilmap, one_nilmap, cells_map, one_map, cells_agg, setParams, Tr.get_set, AMem.get_put, AMem.get_push, AMem.next_put, AMem.next_push, AMem.get_empty, next_empty, Option.map_some, Option.map_none, Option.bind_some, reduceIte, Nat.reduceLT, Nat.reduceLeDiff, Nat.reduceEqDiff, Nat.reduceAdd, Nat.reduceMul, Nat.reduceSub, Nat.reduceBEq, Nat.zero_add, Nat.add_zero, Nat.mul_one, Nat.one_mul, Nat.zero_mul, and_self, and_true, true_and, false_and, and_false, Bool.and_true, Bool.true_and, Bool.and_false, Bool.false_and, if_true, if_false, Int.reduceEq, Int.reduceLT, Int.reduceLE, Int.reduceToNat, Bool.false_eq_true, Bool.not_true, Bool.not_false, BEq.rfl, beq_true_true, beq_true_false, beq_false_true, beq_false_false, List.length_cons, List.length_nil, List.all_cons, List.all_nil, List.getElem?_cons_zero, List.getElem?_cons_succ, List.getElem?_nil, List.getElem?_toArray, List.take_succ_cons, List.take_zero, List.drop_succ_cons, List.drop_zero, List.set_cons_zero, List.set_cons_succ, List.append_nil, List.nil_append, List.cons_append, decide_true, decide_false, decide_eq_true_eq, Option.isNone_none, Option.isNone_some, Option.isSome_none, Option.isSome_some, Bool.or_true, Bool.true_or, Bool.or_false, Bool.false_or, ne_eq, not_false_eq_true, not_true_eq_false, reduceCtorEq, eq_self, beq_refl, minL, minF, maxL, maxF, repZ, ty3, ty5, ty22, ty24, ty25, ty41, ty53, ord10_9, Nat.add_assoc, Nat.add_eq_left, Nat.left_eq_add, Nat.add_left_cancel_iff, f2, f3, m1, m2, ho]
  refine ⟨_, _, out, ls, rfl, ?_, m3.put (b + 1) _ (by omega), m5.same (by simp) fun s h1 h2 => by rw [AMem.get_put, if_neg (by omega)], m6, m7, m8⟩
  simp only [Tryz.f10, resultsA, resultA, q_seq, q_cond, q_block, q_region, q_drawn, q_skip, q_exit, q_ret, runOps, runD, again, step1, wantA, opSem, evalO, evalL, evalOpt, evalParts, putA, ofConst, ofScalar, ofScalars, abin, abinInt, aun, convA, builtinA, oneTy, elemTy, lenB_vs, lenB_sl, lenB_str, loadA, storeA, storeCellsA, setAt, partA, fillA, placesA, isFn, TyI.isAgg, isSeq, isNum, sliceA, boundA, cells_bool, one_bool, cells_int, one_int, cells_str, one_str, cells_ptr, one_ptr, cells_nilptr, one_nilptr, cells_slice, one_slice, cells_vs, one_vs, cells_vptr, one_vptr, cells_func, one_func, cells_yield, one_yield, cells_nilfn, one_nilfn, cells_nilmap, one_nilmap, cells_map, one_map, cells_agg, setParams, Tr.get_set, AMem.get_put, AMem.get_push, AMem.next_put, AMem.next_push, AMem.get_empty, next_empty, Option.map_some, Option.map_none, Option.bind_some, reduceIte, Nat.reduceLT, Nat.reduceLeDiff, Nat.reduceEqDiff, Nat.reduceAdd, Nat.reduceMul, Nat.reduceSub, Nat.reduceBEq, Nat.zero_add, Nat.add_zero, Nat.mul_one, Nat.one_mul, Nat.zero_mul, and_self, and_true, true_and, false_and, and_false, Bool.and_true, Bool.true_and, Bool.and_false, Bool.false_and, if_true, if_false, Int.reduceEq, Int.reduceLT, Int.reduceLE, Int.reduceToNat, Bool.false_eq_true, Bool.not_true, Bool.not_false, BEq.rfl, beq_true_true, beq_true_false, beq_false_true, beq_false_false, List.length_cons, List.length_nil, List.all_cons, List.all_nil, List.getElem?_cons_zero, List.getElem?_cons_succ, List.getElem?_nil, List.getElem?_toArray, List.take_succ_cons, List.take_zero, List.drop_succ_cons, List.drop_zero, List.set_cons_zero, List.set_cons_succ, List.append_nil, List.nil_append, List.cons_append, decide_true, decide_false, decide_eq_true_eq, Option.isNone_none, Option.isNone_some, Option.isSome_none, Option.isSome_some, Bool.or_true, Bool.true_or, Bool.or_false, Bool.false_or, ne_eq, not_false_eq_true, not_true_eq_false, reduceCtorEq, eq_self, beq_refl, minL, minF, maxL, maxF, repZ, ty3, ty5, ty22, ty24, ty25, ty41, ty53, ord10_9, Nat.add_assoc, Nat.add_eq_left, Nat.left_eq_add, Nat.add_left_cancel_iff, f2]
theorem rcopy_call (lk : VK) (shs : List Sh) (hn : shs.length ≤ 1000) (hd : ∀ s, s ∈ shs → s.data.length ≤ 1000 ∧ ∀ p, p ∈ s.data → p.2.length ≤ 1000) (hk : 3001 ≤ k) : pureCall lawProg (callN lawProg k) (.func 10 [] []) [.agg [.vs lk (shs.map shV)]] σ = some (.agg [.vs (lkOf shs.length) ((shs.map normS).map shV)], σ) := by
  obtain ⟨k, rfl⟩ : ∃ m, k = m + 1 := ⟨k - 1, by omega⟩
  obtain ⟨T1, σ1, out, ls, h1, h2, h3, h4, h5, h6, h7⟩ := rcopy_exec (k := k) (σ := AMem.empty) 7 lk shs hn hd (by omega)
  obtain ⟨S, hs⟩ := Deep.recs (d := 9) (ps := shs.map shN) h4 h7 h5.symm (by decide) (by simp [h5]) h6 (fun l hl => by
    obtain ⟨s, _, rfl⟩ := List.mem_map.1 hl
    rfl)
  have hs2 : snapF false σ1 12 (.agg [out]) = some (.agg [.vs (lkOf shs.length) ((shs.map normS).map shV)], S ++ []) := by
    show (snapL (snapF false σ1 11) [out]).map (fun (l, a) => (AVal.agg l, a)) = _
    simp only [snapL, hs, Option.map_some, List.map_map]
    rw [show (AVal.agg ∘ shN) = (shV ∘ normS) from funext fun s => shN_norm s]
  obtain ⟨b, h⟩ := pureRun_any fn10 rfl (by simp [Tryz.f10]) h1 (by simp) h2 hs2
  exact pureCall_of0 (args' := [.agg [.vs lk (shs.map shV)]]) rfl (memo10 _) h
end Go.Proofs.YtkamjhhodnmoiaaGreatDoor
