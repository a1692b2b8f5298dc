/- pack.Do: a packet that is lost, comes, or is there twice. -/
import Derived.Test.YtikhidpcaefjiaaGreatDoorD4
set_option maxRecDepth 100000
set_option linter.unusedSimpArgs false
set_option linter.unusedVariables false
namespace Go.Proofs.YtikhidpcaefjiaaGreatDoor
open Go Go.Proofs.YtikhidpcaefjiaaGreatDoor.Pale
variable {k : Nat} {σ : AMem}

theorem do_lose (h : Int) (vk : VK) (ps : List Pk) (i : Nat) (hn : ps.length ≤ 1000) (hv : ∀ q, q ∈ ps → q.vk = .some) (hb : ∀ q, q ∈ ps → q.b.length ≤ 1000000) (h1 : NetOk h ps) (h2 : moveB ps ⟨2, i, 0, 0⟩ = true) (hi : i < ps.length) (hk : 3000 ≤ k) :
    ∃ T1 σ1 y seen, execC lawProg (callN lawProg k) k 31 95 (bodyOf Tryz.f31) (initT 0 [.agg [.int .i64 h, .vs vk (ps.map pkV)], .agg [.int .u8 2, .int .i64 (i : Nat), .int .i64 0, .int .i64 0]] .nil) AMem.empty = some (.ret, T1, σ1) ∧
      resultsA lawProg T1 σ1 Tryz.f31.results.toList = some [y, .vs .nil [], .int .i64 0] ∧ snapF false σ1 11 y = some (netV h .some ((ps.eraseIdx i).map cp), seen) := by
  have hcn := fun (σ : AMem) => checkNet_call (k := k) (σ := σ) h vk ps hn (by omega)
  rw [if_pos h1] at hcn
  have hmv := fun (σ : AMem) => isMove_call (k := k) (σ := σ) h vk ps ⟨2, i, 0, 0⟩ hn hb (by omega)
  simp only [h2] at hmv
  obtain ⟨out, l, σ1, c1, c2, c3, c4⟩ := pnet_callN (k := k) (σ := ((AMem.empty.push (.row 2 true [.int .i64 h, .vs vk (ps.map pkV)])).push (.row 4 true [.int .u8 2, .int .i64 (i : Nat), .int .i64 0, .int .i64 0])).push (.row 2 true [.int .i64 0, .vs .nil []])) h vk ps hn hv hb (by omega)
  obtain ⟨o1, o2, o3, o4, g0, g1, g2⟩ := opened_of c2 c3 c4
  have hil : i < l.length := by omega
  obtain ⟨ro, r1, r2, rfl, r4⟩ := o1.row (by omega)
  obtain ⟨σ3, d1, d2, d3, d4⟩ := delete_callN (k := k) (σ := (σ1.push (.row 2 true [.int .i64 0, .vs .nil []])).put σ1.next (.row 2 true [.int .i64 h, .slice ro 0 l.length none 3])) (r := ro) (n := l.length) (i := i) (ls := l.map fun x => pkM x.1 x.2) (by simp) (by simpa using hil) (pkM_three l) (pkM_one l) (by simp; omega) (by rw [AMem.get_put, if_neg (by omega), AMem.get_push, if_neg (by omega)]; exact r4) (by omega)
  have k2 : σ3.get 2 = some (.row 2 true [.int .i64 0, .vs .nil []]) := by rw [d4 2 (by omega), AMem.get_put, if_neg (by omega), AMem.get_push, if_neg (by omega)]; exact g2
  have kq : σ3.get σ1.next = some (.row 2 true [.int .i64 h, .slice ro 0 l.length none 3]) := by rw [d4 _ (by omega), AMem.get_put, if_pos rfl]
  have hw := i64_succ (i := i) (by omega)
  have q6 : ¬ σ1.next = 0 := by omega
  have q7 : ¬ σ1.next = 1 := by omega
  have q8 : ¬ σ1.next = 2 := by omega
  have q9 : ¬ 2 = σ1.next := by omega
  have e : ∃ T1 σ5, execC lawProg (callN lawProg k) k 31 95 (bodyOf Tryz.f31) (initT 0 [.agg [.int .i64 h, .vs vk (ps.map pkV)], .agg [.int .u8 2, .int .i64 (i : Nat), .int .i64 0, .int .i64 0]] .nil) AMem.empty = some (.ret, T1, σ5) ∧
      resultsA lawProg T1 σ5 Tryz.f31.results.toList = some [.agg [.int .i64 h, .slice ro 0 (l.length - 1) none 3], .vs .nil [], .int .i64 0] ∧ ∀ s, s ≠ 2 → s ≠ σ1.next → σ5.get s = σ3.get s := by
    simp only [bodyOf, Tryz.f31, Option.getD_some, initT, q_seq, q_cond, q_block, q_region, q_drawn, q_skip, q_exit, q_ret, runOps, runD, again, step1, wantA, opSem, evalO, evalL, evalOpt, evalParts, putA, ofConst, ofScalar, ofScalars, abin, abinInt, aun, convA, builtinA, oneTy, elemTy, lenB_vs, lenB_sl, lenB_str, loadA, storeA, storeCellsA, setAt, partA, fillA, placesA, isFn, TyI.isAgg, isSeq, isNum, sliceA, boundA, cells_bool, one_bool, cells_int, one_int, cells_str, one_str, cells_ptr, one_ptr, cells_nilptr, one_nilptr, cells_slice, one_slice, cells_vs, one_vs, cells_vptr, one_vptr, cells_func, one_func, cells_yield, one_yield, cells_nilfn, one_nilfn, cells_nilmap, one_nilmap, cells_map, one_map, cells_agg, setParams, Tr.get_set, AMem.get_put, AMem.get_push, AMem.next_put, AMem.next_push, AMem.get_empty, next_empty, Option.map_some, Option.map_none, Option.bind_some, reduceIte, Nat.reduceLT, Nat.reduceLeDiff, Nat.reduceEqDiff, Nat.reduceAdd, Nat.reduceMul, Nat.reduceSub, Nat.reduceBEq, Nat.zero_add, Nat.add_zero, Nat.mul_one, Nat.one_mul, Nat.zero_mul, and_self, and_true, true_and, false_and, and_false, Bool.and_true, Bool.true_and, Bool.and_false, Bool.false_and, if_true, if_false, Int.reduceEq, Int.reduceLT, Int.reduceLE, Int.reduceToNat, Bool.false_eq_true, Bool.not_true, Bool.not_false, BEq.rfl, beq_true_true, beq_true_false, beq_false_true, beq_false_false, List.length_cons, List.length_nil, List.all_cons, List.all_nil, List.getElem?_cons_zero, List.getElem?_cons_succ, List.getElem?_nil, List.getElem?_toArray, List.take_succ_cons, List.take_zero, List.drop_succ_cons, List.drop_zero, List.set_cons_zero, List.set_cons_succ, List.append_nil, List.nil_append, List.cons_append, decide_true, decide_false, decide_eq_true_eq, Option.isNone_none, Option.isNone_some, Option.isSome_none, Option.isSome_some, Bool.or_true, Bool.true_or, Bool.or_false, Bool.false_or, ne_eq, not_false_eq_true, not_true_eq_false, reduceCtorEq, eq_self, beq_refl, minL, minF, maxL, maxF, repZ, vp31_29, vp31_63, vp31_64, vp31_68, vp31_69, ty3, ty4, ty5, ty22, ty25, ty40, ty42, ty44, ty58, ord31_15, ord31_16, Nat.add_assoc, Nat.add_eq_left, Nat.left_eq_add, Nat.add_left_cancel_iff, List.length_map, hcn, hmv, bne_self_eq_false, c1, g0, g1, g2, q6, q7, q8, q9, hw, d1, kq, k2, show ((2 : Int) == 1) = false from rfl, show ((2 : Int) == 2) = true from rfl, show ((2 : Int) == 3) = false from rfl, show ((2 : Int) == 4) = false from rfl]
    refine ⟨_, _, rfl, by simp only [Tryz.f31, resultsA, resultA, q_seq, q_cond, q_block, q_region, q_drawn, q_skip, q_exit, q_ret, runOps, runD, again, step1, wantA, opSem, evalO, evalL, evalOpt, evalParts, putA, ofConst, ofScalar, ofScalars, abin, abinInt, aun, convA, builtinA, oneTy, elemTy, lenB_vs, lenB_sl, lenB_str, loadA, storeA, storeCellsA, setAt, partA, fillA, placesA, isFn, TyI.isAgg, isSeq, isNum, sliceA, boundA, cells_bool, one_bool, cells_int, one_int, cells_str, one_str, cells_ptr, one_ptr, cells_nilptr, one_nilptr, cells_slice, one_slice, cells_vs, one_vs, cells_vptr, one_vptr, cells_func, one_func, cells_yield, one_yield, cells_nilfn, one_nilfn, cells_nilmap, one_nilmap, cells_map, one_map, cells_agg, setParams, Tr.get_set, AMem.get_put, AMem.get_push, AMem.next_put, AMem.next_push, AMem.get_empty, next_empty, Option.map_some, Option.map_none, Option.bind_some, reduceIte, Nat.reduceLT, Nat.reduceLeDiff, Nat.reduceEqDiff, Nat.reduceAdd, Nat.reduceMul, Nat.reduceSub, Nat.reduceBEq, Nat.zero_add, Nat.add_zero, Nat.mul_one, Nat.one_mul, Nat.zero_mul, and_self, and_true, true_and, false_and, and_false, Bool.and_true, Bool.true_and, Bool.and_false, Bool.false_and, if_true, if_false, Int.reduceEq, Int.reduceLT, Int.reduceLE, Int.reduceToNat, Bool.false_eq_true, Bool.not_true, Bool.not_false, BEq.rfl, beq_true_true, beq_true_false, beq_false_true, beq_false_false, List.length_cons, List.length_nil, List.all_cons, List.all_nil, List.getElem?_cons_zero, List.getElem?_cons_succ, List.getElem?_nil, List.getElem?_toArray, List.take_succ_cons, List.take_zero, List.drop_succ_cons, List.drop_zero, List.set_cons_zero, List.set_cons_succ, List.append_nil, List.nil_append, List.cons_append, decide_true, decide_false, decide_eq_true_eq, Option.isNone_none, Option.isNone_some, Option.isSome_none, Option.isSome_some, Bool.or_true, Bool.true_or, Bool.or_false, Bool.false_or, ne_eq, not_false_eq_true, not_true_eq_false, reduceCtorEq, eq_self, beq_refl, minL, minF, maxL, maxF, repZ, vp31_29, vp31_63, vp31_64, vp31_68, vp31_69, ty3, ty4, ty5, ty22, ty25, ty40, ty42, ty44, ty58, ord31_15, ord31_16], fun s h1 h2 => ?_⟩
    rw [AMem.get_put, if_neg (Ne.symm h1), AMem.get_put, if_neg (Ne.symm h2)]
  obtain ⟨T1, σ5, e1, e2, e5⟩ := e
  have keep : ∀ s, 3 ≤ s → s < σ1.next → s ≠ ro → σ5.get s = σ1.get s := fun s a b c => by
    rw [e5 s (by omega) (by omega), d4 s c, AMem.get_put, if_neg (by omega), AMem.get_push, if_neg (by omega)]
  obtain ⟨seen, hs⟩ := snap_deleted (σ' := σ5) (d := 7) o1 hil (by rw [e5 ro (by omega) (by omega)]; exact d2) (fun x hx => by
    have := o1.2.2.2 x hx
    exact keep _ this.1 this.2.1 (fun e => this.2.2.2 l.length none 3 (by rw [e])))
  rw [c4] at hs
  exact ⟨T1, σ5, _, _, e1, e2, (agg_two (d := 9) hs).trans (by rw [netV_two])⟩

theorem do_come (h : Int) (vk : VK) (ps : List Pk) (i : Nat) (hn : ps.length ≤ 1000) (hv : ∀ q, q ∈ ps → q.vk = .some) (hb : ∀ q, q ∈ ps → q.b.length ≤ 1000000) (h1 : NetOk h ps) (h2 : moveB ps ⟨1, i, 0, 0⟩ = true) (hi : i < ps.length) (hk : 3000 ≤ k) :
    ∃ T1 σ1 y z seen seen2, execC lawProg (callN lawProg k) k 31 95 (bodyOf Tryz.f31) (initT 0 [.agg [.int .i64 h, .vs vk (ps.map pkV)], .agg [.int .u8 1, .int .i64 (i : Nat), .int .i64 0, .int .i64 0]] .nil) AMem.empty = some (.ret, T1, σ1) ∧
      resultsA lawProg T1 σ1 Tryz.f31.results.toList = some [y, z, .int .i64 0] ∧ snapF false σ1 11 y = some (netV h .some ((ps.eraseIdx i).map cp), seen) ∧ snapF false σ1 11 z = some (.vs .some [pkV (cp ps[i])], seen2) := by
  have hcn := fun (σ : AMem) => checkNet_call (k := k) (σ := σ) h vk ps hn (by omega)
  rw [if_pos h1] at hcn
  have hmv := fun (σ : AMem) => isMove_call (k := k) (σ := σ) h vk ps ⟨1, i, 0, 0⟩ hn hb (by omega)
  simp only [h2] at hmv
  obtain ⟨out, l, σ1, c1, c2, c3, c4⟩ := pnet_callN (k := k) (σ := ((AMem.empty.push (.row 2 true [.int .i64 h, .vs vk (ps.map pkV)])).push (.row 4 true [.int .u8 1, .int .i64 (i : Nat), .int .i64 0, .int .i64 0])).push (.row 2 true [.int .i64 0, .vs .nil []])) h vk ps hn hv hb (by omega)
  obtain ⟨o1, o2, o3, o4, g0, g1, g2⟩ := opened_of c2 c3 c4
  have hil : i < l.length := by omega
  obtain ⟨ro, r1, r2, rfl, r4⟩ := o1.row (by omega)
  have hpv : ps[i].vk = .some := hv _ (List.getElem_mem hi)
  obtain ⟨rp, σ3, p1, p2, p3, p4, p5⟩ := pclone_callN (k := k) (σ := (σ1.push (.row 2 true [.int .i64 0, .vs .nil []])).put σ1.next (.row 2 true [.int .i64 h, .slice ro 0 l.length none 3])) ps[i] hpv (hb _ (List.getElem_mem hi)) (by omega)
  have pn : σ1.next + 1 ≤ rp := p3
  have pn2 : σ1.next + 1 ≤ σ3.next := p2.1
  have pk : ∀ s, s < σ1.next + 1 → σ3.get s = ((σ1.push (.row 2 true [.int .i64 0, .vs .nil []])).put σ1.next (.row 2 true [.int .i64 h, .slice ro 0 l.length none 3])).get s := fun s hs => p2.2 s hs
  obtain ⟨σ4, a1, a2, a3, a4, a5⟩ := NetMem.add2 (NetMem.nil (σ1.next + 1) ((σ1.push (.row 2 true [.int .i64 0, .vs .nil []])).put σ1.next (.row 2 true [.int .i64 h, .slice ro 0 l.length none 3]))) (by simp) p2 pn p4 p5 (by simp)
  simp only [tyPk, pkM, List.length_nil, Nat.zero_add, List.nil_append] at a1 a2
  have kr : σ4.get ro = some (.row 3 true (l.map fun x => pkM x.1 x.2).flatten) := by rw [a4 ro (by omega), pk ro (by omega), AMem.get_put, if_neg (by omega), AMem.get_push, if_neg (by omega)]; exact r4
  obtain ⟨σ6, d1, d2, d3, d4⟩ := delete_callN (k := k) (σ := σ4) (r := ro) (n := l.length) (i := i) (ls := l.map fun x => pkM x.1 x.2) (by simp) (by simpa using hil) (pkM_three l) (pkM_one l) (by simp; omega) kr (by omega)
  have m40 : ∀ s, s < σ1.next + 1 → σ4.get s = ((σ1.push (.row 2 true [.int .i64 0, .vs .nil []])).put σ1.next (.row 2 true [.int .i64 h, .slice ro 0 l.length none 3])).get s := fun s hs => by rw [a4 s hs, pk s hs]
  have n0 : σ3.get 0 = some (.row 2 true [.int .i64 h, .vs vk (ps.map pkV)]) := by rw [pk 0 (by omega), AMem.get_put, if_neg (by omega), AMem.get_push, if_neg (by omega)]; exact g0
  have n1 : σ4.get 1 = some (.row 4 true [.int .u8 1, .int .i64 (i : Nat), .int .i64 0, .int .i64 0]) := by rw [m40 1 (by omega), AMem.get_put, if_neg (by omega), AMem.get_push, if_neg (by omega)]; exact g1
  have nq : σ4.get σ1.next = some (.row 2 true [.int .i64 h, .slice ro 0 l.length none 3]) := by rw [m40 _ (by omega), AMem.get_put, if_pos rfl]
  have k2 : σ6.get 2 = some (.row 2 true [.int .i64 0, .vs .nil []]) := by rw [d4 2 (by omega), m40 2 (by omega), AMem.get_put, if_neg (by omega), AMem.get_push, if_neg (by omega)]; exact g2
  have kq : σ6.get σ1.next = some (.row 2 true [.int .i64 h, .slice ro 0 l.length none 3]) := by rw [d4 _ (by omega)]; exact nq
  have hw := i64_succ (i := i) (by omega)
  have hget := pk_get hi
  rw [hpv] at hget
  have hil3 : (i : Int) < (ps.length : Int) := by omega
  have q6 : ¬ σ1.next = 0 := by omega
  have q7 : ¬ σ1.next = 1 := by omega
  have q8 : ¬ σ1.next = 2 := by omega
  have q9 : ¬ 2 = σ1.next := by omega
  have e : ∃ T1 σ5, execC lawProg (callN lawProg k) k 31 95 (bodyOf Tryz.f31) (initT 0 [.agg [.int .i64 h, .vs vk (ps.map pkV)], .agg [.int .u8 1, .int .i64 (i : Nat), .int .i64 0, .int .i64 0]] .nil) AMem.empty = some (.ret, T1, σ5) ∧
      resultsA lawProg T1 σ5 Tryz.f31.results.toList = some [.agg [.int .i64 h, .slice ro 0 (l.length - 1) none 3], .slice (σ3.next + 1) 0 1 none 3, .int .i64 0] ∧ σ5.next = σ6.next ∧ ∀ s, s ≠ 2 → s ≠ σ1.next → σ5.get s = σ6.get s := by
    simp only [bodyOf, Tryz.f31, Option.getD_some, initT, q_seq, q_cond, q_block, q_region, q_drawn, q_skip, q_exit, q_ret, runOps, runD, again, step1, wantA, opSem, evalO, evalL, evalOpt, evalParts, putA, ofConst, ofScalar, ofScalars, abin, abinInt, aun, convA, builtinA, oneTy, elemTy, lenB_vs, lenB_sl, lenB_str, loadA, storeA, storeCellsA, setAt, partA, fillA, placesA, isFn, TyI.isAgg, isSeq, isNum, sliceA, boundA, cells_bool, one_bool, cells_int, one_int, cells_str, one_str, cells_ptr, one_ptr, cells_nilptr, one_nilptr, cells_slice, one_slice, cells_vs, one_vs, cells_vptr, one_vptr, cells_func, one_func, cells_yield, one_yield, cells_nilfn, one_nilfn, cells_nilmap, one_nilmap, cells_map, one_map, cells_agg, setParams, Tr.get_set, AMem.get_put, AMem.get_push, AMem.next_put, AMem.next_push, AMem.get_empty, next_empty, Option.map_some, Option.map_none, Option.bind_some, reduceIte, Nat.reduceLT, Nat.reduceLeDiff, Nat.reduceEqDiff, Nat.reduceAdd, Nat.reduceMul, Nat.reduceSub, Nat.reduceBEq, Nat.zero_add, Nat.add_zero, Nat.mul_one, Nat.one_mul, Nat.zero_mul, and_self, and_true, true_and, false_and, and_false, Bool.and_true, Bool.true_and, Bool.and_false, Bool.false_and, if_true, if_false, Int.reduceEq, Int.reduceLT, Int.reduceLE, Int.reduceToNat, Bool.false_eq_true, Bool.not_true, Bool.not_false, BEq.rfl, beq_true_true, beq_true_false, beq_false_true, beq_false_false, List.length_cons, List.length_nil, List.all_cons, List.all_nil, List.getElem?_cons_zero, List.getElem?_cons_succ, List.getElem?_nil, List.getElem?_toArray, List.take_succ_cons, List.take_zero, List.drop_succ_cons, List.drop_zero, List.set_cons_zero, List.set_cons_succ, List.append_nil, List.nil_append, List.cons_append, decide_true, decide_false, decide_eq_true_eq, Option.isNone_none, Option.isNone_some, Option.isSome_none, Option.isSome_some, Bool.or_true, Bool.true_or, Bool.or_false, Bool.false_or, ne_eq, not_false_eq_true, not_true_eq_false, reduceCtorEq, eq_self, beq_refl, minL, minF, maxL, maxF, repZ, vp31_29, vp31_63, vp31_64, vp31_68, vp31_69, ty3, ty4, ty5, ty22, ty25, ty40, ty42, ty44, ty58, ord31_15, ord31_16, Nat.add_assoc, Nat.add_eq_left, Nat.left_eq_add, Nat.add_left_cancel_iff, List.length_map, hcn, hmv, bne_self_eq_false, c1, g0, g1, g2, hget, hil3, Int.natCast_nonneg, Int.toNat_natCast, p1, pkM, a1, n1, nq, q6, q7, q8, q9, hw, d1, kq, k2, show ((1 : Int) == 1) = true from rfl, show ((1 : Int) == 2) = false from rfl, show ((1 : Int) == 3) = false from rfl, show ((1 : Int) == 4) = false from rfl]
    refine ⟨_, _, rfl, by simp only [Tryz.f31, resultsA, resultA, q_seq, q_cond, q_block, q_region, q_drawn, q_skip, q_exit, q_ret, runOps, runD, again, step1, wantA, opSem, evalO, evalL, evalOpt, evalParts, putA, ofConst, ofScalar, ofScalars, abin, abinInt, aun, convA, builtinA, oneTy, elemTy, lenB_vs, lenB_sl, lenB_str, loadA, storeA, storeCellsA, setAt, partA, fillA, placesA, isFn, TyI.isAgg, isSeq, isNum, sliceA, boundA, cells_bool, one_bool, cells_int, one_int, cells_str, one_str, cells_ptr, one_ptr, cells_nilptr, one_nilptr, cells_slice, one_slice, cells_vs, one_vs, cells_vptr, one_vptr, cells_func, one_func, cells_yield, one_yield, cells_nilfn, one_nilfn, cells_nilmap, one_nilmap, cells_map, one_map, cells_agg, setParams, Tr.get_set, AMem.get_put, AMem.get_push, AMem.next_put, AMem.next_push, AMem.get_empty, next_empty, Option.map_some, Option.map_none, Option.bind_some, reduceIte, Nat.reduceLT, Nat.reduceLeDiff, Nat.reduceEqDiff, Nat.reduceAdd, Nat.reduceMul, Nat.reduceSub, Nat.reduceBEq, Nat.zero_add, Nat.add_zero, Nat.mul_one, Nat.one_mul, Nat.zero_mul, and_self, and_true, true_and, false_and, and_false, Bool.and_true, Bool.true_and, Bool.and_false, Bool.false_and, if_true, if_false, Int.reduceEq, Int.reduceLT, Int.reduceLE, Int.reduceToNat, Bool.false_eq_true, Bool.not_true, Bool.not_false, BEq.rfl, beq_true_true, beq_true_false, beq_false_true, beq_false_false, List.length_cons, List.length_nil, List.all_cons, List.all_nil, List.getElem?_cons_zero, List.getElem?_cons_succ, List.getElem?_nil, List.getElem?_toArray, List.take_succ_cons, List.take_zero, List.drop_succ_cons, List.drop_zero, List.set_cons_zero, List.set_cons_succ, List.append_nil, List.nil_append, List.cons_append, decide_true, decide_false, decide_eq_true_eq, Option.isNone_none, Option.isNone_some, Option.isSome_none, Option.isSome_some, Bool.or_true, Bool.true_or, Bool.or_false, Bool.false_or, ne_eq, not_false_eq_true, not_true_eq_false, reduceCtorEq, eq_self, beq_refl, minL, minF, maxL, maxF, repZ, vp31_29, vp31_63, vp31_64, vp31_68, vp31_69, ty3, ty4, ty5, ty22, ty25, ty40, ty42, ty44, ty58, ord31_15, ord31_16], rfl, fun s h1 h2 => ?_⟩
    rw [AMem.get_put, if_neg (Ne.symm h1), AMem.get_put, if_neg (Ne.symm h2)]
  obtain ⟨T1, σ5, e1, e2, e3, e5⟩ := e
  have keep : ∀ s, 3 ≤ s → s < σ1.next → s ≠ ro → σ5.get s = σ1.get s := fun s a b c => by
    rw [e5 s (by omega) (by omega), d4 s c, m40 s (by omega), AMem.get_put, if_neg (by omega), AMem.get_push, if_neg (by omega)]
  obtain ⟨seen, hs⟩ := snap_deleted (σ' := σ5) (d := 7) o1 hil (by rw [e5 ro (by omega) (by omega)]; exact d2) (fun x hx => by
    have := o1.2.2.2 x hx
    exact keep _ this.1 this.2.1 (fun e => this.2.2.2 l.length none 3 (by rw [e])))
  rw [c4] at hs
  have hm5 := a2.only (σ' := σ5) (by omega) (fun q n c z hq => by
    simp only [AVal.slice.injEq] at hq
    rw [e5 q (by omega) (by omega), d4 q (by omega)]) (fun y hy => by
    simp only [List.mem_singleton] at hy
    subst hy
    show σ5.get rp = σ4.get rp
    rw [e5 rp (by omega) (by omega), d4 rp (by omega)])
  obtain ⟨seen2, hs2⟩ := hm5.snap 8
  exact ⟨T1, σ5, _, _, _, seen2, e1, e2, (agg_two (d := 9) hs).trans (by rw [netV_two]), hs2⟩

theorem do_twice (h : Int) (vk : VK) (ps : List Pk) (i : Nat) (hn : ps.length ≤ 1000) (hv : ∀ q, q ∈ ps → q.vk = .some) (hb : ∀ q, q ∈ ps → q.b.length ≤ 1000000) (h1 : NetOk h ps) (h2 : moveB ps ⟨3, i, 0, 0⟩ = true) (hi : i < ps.length) (h3 : ps.length ≠ 60) (hk : 3000 ≤ k) :
    ∃ T1 σ1 y seen, execC lawProg (callN lawProg k) k 31 95 (bodyOf Tryz.f31) (initT 0 [.agg [.int .i64 h, .vs vk (ps.map pkV)], .agg [.int .u8 3, .int .i64 (i : Nat), .int .i64 0, .int .i64 0]] .nil) AMem.empty = some (.ret, T1, σ1) ∧
      resultsA lawProg T1 σ1 Tryz.f31.results.toList = some [y, .vs .nil [], .int .i64 0] ∧ snapF false σ1 11 y = some (netV h .some ((ps ++ [ps[i]]).map cp), seen) := by
  have hcn := fun (σ : AMem) => checkNet_call (k := k) (σ := σ) h vk ps hn (by omega)
  rw [if_pos h1] at hcn
  have hmv := fun (σ : AMem) => isMove_call (k := k) (σ := σ) h vk ps ⟨3, i, 0, 0⟩ hn hb (by omega)
  simp only [h2] at hmv
  have hbq : (((ps.length : Nat) : Int) == 60) = false := by simp; omega
  obtain ⟨out, l, σ1, c1, c2, c3, c4⟩ := pnet_callN (k := k) (σ := ((AMem.empty.push (.row 2 true [.int .i64 h, .vs vk (ps.map pkV)])).push (.row 4 true [.int .u8 3, .int .i64 (i : Nat), .int .i64 0, .int .i64 0])).push (.row 2 true [.int .i64 0, .vs .nil []])) h vk ps hn hv hb (by omega)
  obtain ⟨o1, o2, o3, o4, g0, g1, g2⟩ := opened_of c2 c3 c4
  have hil : i < l.length := by omega
  obtain ⟨ro, r1, r2, rfl, r4⟩ := o1.row (by omega)
  have hpv : ps[i].vk = .some := hv _ (List.getElem_mem hi)
  let σ2 : AMem := (σ1.push (.row 2 true [.int .i64 0, .vs .nil []])).put σ1.next (.row 2 true [.int .i64 h, .slice ro 0 l.length none 3])
  have hn2 : σ2.next = σ1.next + 1 := rfl
  have x12 : Ext σ1 σ2 := (Ext.push _ _).put _ _ (Nat.le_refl _)
  obtain ⟨rp, σ3, p1, p2, p3, p4, p5⟩ := pclone_callN (k := k) (σ := σ2) ps[i] hpv (hb _ (List.getElem_mem hi)) (by omega)
  obtain ⟨σ4, a1, a2, a3, a4, a5⟩ := NetMem.add2 o1 (by omega) (x12.trans p2) (by omega) p4 p5 (by omega)
  have pn2 : σ1.next + 1 ≤ σ3.next := p2.1
  have pk : ∀ s, s < σ1.next + 1 → σ3.get s = σ2.get s := fun s hs => p2.2 s hs
  have s2 : ∀ s, s < σ1.next → σ2.get s = σ1.get s := fun s hs => by simp only [σ2]; rw [AMem.get_put, if_neg (by omega), AMem.get_push, if_neg (by omega)]
  have hne : AVal.slice ro 0 l.length none 3 ≠ .slice σ1.next 0 l.length none 3 := fun e => by simp only [AVal.slice.injEq] at e; omega
  have n0 : σ3.get 0 = some (.row 2 true [.int .i64 h, .vs vk (ps.map pkV)]) := by rw [pk 0 (by omega), s2 0 (by omega)]; exact g0
  have n1 : σ3.get 1 = some (.row 4 true [.int .u8 3, .int .i64 (i : Nat), .int .i64 0, .int .i64 0]) := by rw [pk 1 (by omega), s2 1 (by omega)]; exact g1
  have nq : σ3.get σ1.next = some (.row 2 true [.int .i64 h, .slice ro 0 l.length none 3]) := by rw [pk _ (by omega)]; simp only [σ2]; rw [AMem.get_put, if_pos rfl]
  have k2 : σ4.get 2 = some (.row 2 true [.int .i64 0, .vs .nil []]) := by rw [a4 2 (by omega), pk 2 (by omega), s2 2 (by omega)]; exact g2
  have kq : σ4.get σ1.next = some (.row 2 true [.int .i64 h, .slice ro 0 l.length none 3]) := by rw [a5 _ (by omega) hne]; exact nq
  have hget := pk_get hi
  rw [hpv] at hget
  have hil3 : (i : Int) < (ps.length : Int) := by omega
  have q6 : ¬ σ1.next = 0 := by omega
  have q7 : ¬ σ1.next = 1 := by omega
  have q8 : ¬ σ1.next = 2 := by omega
  have q9 : ¬ 2 = σ1.next := by omega
  simp only [tyPk, pkM] at a1
  simp only [σ2] at p1
  have e : ∃ T1 σ5, execC lawProg (callN lawProg k) k 31 95 (bodyOf Tryz.f31) (initT 0 [.agg [.int .i64 h, .vs vk (ps.map pkV)], .agg [.int .u8 3, .int .i64 (i : Nat), .int .i64 0, .int .i64 0]] .nil) AMem.empty = some (.ret, T1, σ5) ∧
      resultsA lawProg T1 σ5 Tryz.f31.results.toList = some [.agg [.int .i64 h, .slice (σ3.next + 1) 0 (l.length + 1) none 3], .vs .nil [], .int .i64 0] ∧ σ5.next = σ4.next ∧ ∀ s, s ≠ 2 → s ≠ σ1.next → σ5.get s = σ4.get s := by
    simp only [bodyOf, Tryz.f31, Option.getD_some, initT, q_seq, q_cond, q_block, q_region, q_drawn, q_skip, q_exit, q_ret, runOps, runD, again, step1, wantA, opSem, evalO, evalL, evalOpt, evalParts, putA, ofConst, ofScalar, ofScalars, abin, abinInt, aun, convA, builtinA, oneTy, elemTy, lenB_vs, lenB_sl, lenB_str, loadA, storeA, storeCellsA, setAt, partA, fillA, placesA, isFn, TyI.isAgg, isSeq, isNum, sliceA, boundA, cells_bool, one_bool, cells_int, one_int, cells_str, one_str, cells_ptr, one_ptr, cells_nilptr, one_nilptr, cells_slice, one_slice, cells_vs, one_vs, cells_vptr, one_vptr, cells_func, one_func, cells_yield, one_yield, cells_nilfn, one_nilfn, cells_nilmap, one_nilmap, cells_map, one_map, cells_agg, setParams, Tr.get_set, AMem.get_put, AMem.get_push, AMem.next_put, AMem.next_push, AMem.get_empty, next_empty, Option.map_some, Option.map_none, Option.bind_some, reduceIte, Nat.reduceLT, Nat.reduceLeDiff, Nat.reduceEqDiff, Nat.reduceAdd, Nat.reduceMul, Nat.reduceSub, Nat.reduceBEq, Nat.zero_add, Nat.add_zero, Nat.mul_one, Nat.one_mul, Nat.zero_mul, and_self, and_true, true_and, false_and, and_false, Bool.and_true, Bool.true_and, Bool.and_false, Bool.false_and, if_true, if_false, Int.reduceEq, Int.reduceLT, Int.reduceLE, Int.reduceToNat, Bool.false_eq_true, Bool.not_true, Bool.not_false, BEq.rfl, beq_true_true, beq_true_false, beq_false_true, beq_false_false, List.length_cons, List.length_nil, List.all_cons, List.all_nil, List.getElem?_cons_zero, List.getElem?_cons_succ, List.getElem?_nil, List.getElem?_toArray, List.take_succ_cons, List.take_zero, List.drop_succ_cons, List.drop_zero, List.set_cons_zero, List.set_cons_succ, List.append_nil, List.nil_append, List.cons_append, decide_true, decide_false, decide_eq_true_eq, Option.isNone_none, Option.isNone_some, Option.isSome_none, Option.isSome_some, Bool.or_true, Bool.true_or, Bool.or_false, Bool.false_or, ne_eq, not_false_eq_true, not_true_eq_false, reduceCtorEq, eq_self, beq_refl, minL, minF, maxL, maxF, repZ, vp31_29, vp31_63, vp31_64, vp31_68, vp31_69, ty3, ty4, ty5, ty22, ty25, ty40, ty42, ty44, ty58, ord31_15, ord31_16, Nat.add_assoc, Nat.add_eq_left, Nat.left_eq_add, Nat.add_left_cancel_iff, List.length_map, hcn, hmv, hbq, bne_self_eq_false, c1, g0, g1, g2, hget, hil3, Int.natCast_nonneg, Int.toNat_natCast, p1, pkM, n0, n1, nq, a1, q6, q7, q8, q9, kq, k2, show ((3 : Int) == 1) = false from rfl, show ((3 : Int) == 2) = false from rfl, show ((3 : Int) == 3) = true from rfl, show ((3 : Int) == 4) = false from rfl]
    refine ⟨_, _, rfl, by simp only [Tryz.f31, resultsA, resultA, q_seq, q_cond, q_block, q_region, q_drawn, q_skip, q_exit, q_ret, runOps, runD, again, step1, wantA, opSem, evalO, evalL, evalOpt, evalParts, putA, ofConst, ofScalar, ofScalars, abin, abinInt, aun, convA, builtinA, oneTy, elemTy, lenB_vs, lenB_sl, lenB_str, loadA, storeA, storeCellsA, setAt, partA, fillA, placesA, isFn, TyI.isAgg, isSeq, isNum, sliceA, boundA, cells_bool, one_bool, cells_int, one_int, cells_str, one_str, cells_ptr, one_ptr, cells_nilptr, one_nilptr, cells_slice, one_slice, cells_vs, one_vs, cells_vptr, one_vptr, cells_func, one_func, cells_yield, one_yield, cells_nilfn, one_nilfn, cells_nilmap, one_nilmap, cells_map, one_map, cells_agg, setParams, Tr.get_set, AMem.get_put, AMem.get_push, AMem.next_put, AMem.next_push, AMem.get_empty, next_empty, Option.map_some, Option.map_none, Option.bind_some, reduceIte, Nat.reduceLT, Nat.reduceLeDiff, Nat.reduceEqDiff, Nat.reduceAdd, Nat.reduceMul, Nat.reduceSub, Nat.reduceBEq, Nat.zero_add, Nat.add_zero, Nat.mul_one, Nat.one_mul, Nat.zero_mul, and_self, and_true, true_and, false_and, and_false, Bool.and_true, Bool.true_and, Bool.and_false, Bool.false_and, if_true, if_false, Int.reduceEq, Int.reduceLT, Int.reduceLE, Int.reduceToNat, Bool.false_eq_true, Bool.not_true, Bool.not_false, BEq.rfl, beq_true_true, beq_true_false, beq_false_true, beq_false_false, List.length_cons, List.length_nil, List.all_cons, List.all_nil, List.getElem?_cons_zero, List.getElem?_cons_succ, List.getElem?_nil, List.getElem?_toArray, List.take_succ_cons, List.take_zero, List.drop_succ_cons, List.drop_zero, List.set_cons_zero, List.set_cons_succ, List.append_nil, List.nil_append, List.cons_append, decide_true, decide_false, decide_eq_true_eq, Option.isNone_none, Option.isNone_some, Option.isSome_none, Option.isSome_some, Bool.or_true, Bool.true_or, Bool.or_false, Bool.false_or, ne_eq, not_false_eq_true, not_true_eq_false, reduceCtorEq, eq_self, beq_refl, minL, minF, maxL, maxF, repZ, vp31_29, vp31_63, vp31_64, vp31_68, vp31_69, ty3, ty4, ty5, ty22, ty25, ty40, ty42, ty44, ty58, ord31_15, ord31_16], rfl, fun s h1 h2 => ?_⟩
    rw [AMem.get_put, if_neg (Ne.symm h1), AMem.get_put, if_neg (Ne.symm h2)]
  obtain ⟨T1, σ5, e1, e2, e3, e5⟩ := e
  have hm := a2.only (σ' := σ5) (by omega) (fun q n c z hq => by
    simp only [AVal.slice.injEq] at hq
    exact e5 q (by omega) (by omega)) (fun x hx => by
    rcases List.mem_append.1 hx with hx | hx
    · have := o1.2.2.2 x hx
      exact e5 _ (by omega) (by omega)
    · simp only [List.mem_singleton] at hx
      subst hx
      exact e5 _ (by simp only; omega) (by simp only; omega))
  obtain ⟨seen, hs⟩ := snap_net (ps := ps ++ [ps[i]]) 7 h hm (by rw [List.map_append, c4]; rfl)
  exact ⟨T1, σ5, _, seen, e1, e2, hs.trans (by rw [netV_some])⟩
end Go.Proofs.YtikhidpcaefjiaaGreatDoor
