/- A net after a move, by the reference: a packet twice; a byte that is another one; all of it. -/
import Derived.Test.YtikhidpcaefjiaaGreatDoorD7
set_option maxRecDepth 100000
set_option linter.unusedSimpArgs false
set_option linter.unusedVariables false
namespace Go.Proofs.YtikhidpcaefjiaaGreatDoor
open Go Go.Proofs.YtikhidpcaefjiaaGreatDoor.Pale
variable {k : Nat} {σ : AMem}

theorem rdo_twice (h : Int) (vk : VK) (ps : List Pk) (i : Nat) (hn : ps.length ≤ 1000) (hb : ∀ q, q ∈ ps → q.b.length ≤ 1000000) (h1 : NetOk h ps) (h2 : moveB ps ⟨3, i, 0, 0⟩ = true) (hi : i < ps.length) (h3 : ps.length ≠ 60) (hk : 3000 ≤ k) :
    ∃ T1 σ1 y seen, execC lawProg (callN lawProg k) k 32 90 (bodyOf Tryz.f32) (initT 0 [.agg [.int .i64 h, .vs vk (ps.map pkV)], .agg [.int .u8 3, .int .i64 (i : Nat), .int .i64 0, .int .i64 0]] .nil) AMem.empty = some (.ret, T1, σ1) ∧
      resultsA lawProg T1 σ1 Tryz.f32.results.toList = some [y, .vs .nil [], .int .i64 0] ∧ snapF false σ1 11 y = some (netV h .some ((ps ++ [ps[i]]).map cp), seen) := by
  have hcn := fun (σ : AMem) => isNet_call (k := k) (σ := σ) h vk ps hn (by omega)
  simp only [decide_eq_true h1] at hcn
  have hmv := fun (σ : AMem) => risMove_call (k := k) (σ := σ) h vk ps ⟨3, i, 0, 0⟩ hn hb (by simp only; omega) (by omega)
  simp only [h2] at hmv
  have hbq : (((ps.length : Nat) : Int) == 60) = false := by simp; omega
  obtain ⟨σ1, σ3, ro, rp, l, ro_⟩ := ropened_of (k := k) h vk ps [.int .u8 3, .int .i64 (i : Nat), .int .i64 0, .int .i64 0] i hi hn hb hk
  obtain ⟨c1, p1, ⟨o1, o2, o3, o4, g0, g1, g2⟩, r1, r2, r4, nx, keep, kq, rp1, rp2, rp3⟩ := ro_
  have hil : i < l.length := by omega
  have n0 : σ3.get 0 = some (.row 2 true [.int .i64 h, .vs vk (ps.map pkV)]) := by rw [keep 0 (by omega)]; exact g0
  have n1 : σ3.get 1 = some (.row 4 true [.int .u8 3, .int .i64 (i : Nat), .int .i64 0, .int .i64 0]) := by rw [keep 1 (by omega)]; exact g1
  have n2 : σ3.get 2 = some (.row 2 true [.int .i64 0, .vs .nil []]) := by rw [keep 2 (by omega)]; exact g2
  let σ4 : AMem := (σ3.push (.row 3 true [.int .i64 0, .int .i64 0, .vs .nil []])).put σ3.next (.row 3 true (pkM ps[i] rp))
  have k4 : ∀ s, s < σ3.next → σ4.get s = σ3.get s := fun s hs => by simp only [σ4]; rw [AMem.get_put, if_neg (by omega), AMem.get_push, if_neg (by omega)]
  have hn4 : σ4.next = σ3.next + 1 := rfl
  have x14 : Ext σ1 σ4 := ⟨by omega, fun s hs => by rw [k4 s (by omega), keep s hs]⟩
  obtain ⟨σ5, a1, a2, a3, a4, a5⟩ := NetMem.add2 o1 (by omega) x14 (show σ1.next ≤ rp by omega) (by omega) ((k4 rp rp2).trans rp3) (by omega)
  have hne : ∀ q, σ1.next ≤ q → AVal.slice ro 0 l.length none 3 ≠ .slice q 0 l.length none 3 := fun q hq e => by simp only [AVal.slice.injEq] at e; omega
  have m2 : σ5.get 2 = some (.row 2 true [.int .i64 0, .vs .nil []]) := by rw [a4 2 (by omega), k4 2 (by omega)]; exact n2
  have mq : σ5.get σ1.next = some (.row 2 true [.int .i64 h, .slice ro 0 l.length none 3]) := by rw [a5 _ (by omega) (hne _ (by omega)), k4 _ (by omega)]; exact kq
  have hget := pk_get hi
  have hil3 : (i : Int) < (ps.length : Int) := by omega
  have q6 : ¬ σ1.next = 0 := by omega
  have q7 : ¬ σ1.next = 1 := by omega
  have q8 : ¬ σ1.next = 2 := by omega
  have q9 : ¬ 2 = σ1.next := by omega
  have t6 : ¬ σ3.next = 0 := by omega
  have t7 : ¬ σ3.next = 1 := by omega
  have t8 : ¬ σ3.next = 2 := by omega
  have t9 : ¬ σ3.next = σ1.next := by omega
  have t10 : ¬ σ1.next = σ3.next := by omega
  have t11 : ¬ 2 = σ3.next := by omega
  simp only [tyPk, σ4, pkM, AMem.next_put, AMem.next_push] at a1
  simp only [pkM] at p1
  have e : ∃ T1 σ6, execC lawProg (callN lawProg k) k 32 90 (bodyOf Tryz.f32) (initT 0 [.agg [.int .i64 h, .vs vk (ps.map pkV)], .agg [.int .u8 3, .int .i64 (i : Nat), .int .i64 0, .int .i64 0]] .nil) AMem.empty = some (.ret, T1, σ6) ∧
      resultsA lawProg T1 σ6 Tryz.f32.results.toList = some [.agg [.int .i64 h, .slice (σ4.next + 1) 0 (l.length + 1) none 3], .vs .nil [], .int .i64 0] ∧ σ6.next = σ5.next ∧ ∀ s, s ≠ 2 → s ≠ σ1.next → σ6.get s = σ5.get s := by
    simp only [hn4]
    simp only [bodyOf, Tryz.f32, Option.getD_some, initT, q_seq, q_cond, q_block, q_region, q_drawn, q_skip, q_exit, q_ret, runOps, runD, again, step1, wantA, opSem, evalO, evalL, evalOpt, evalParts, putA, ofConst, ofScalar, ofScalars, abin, abinInt, aun, convA, builtinA, oneTy, elemTy, lenB_vs, lenB_sl, lenB_str, loadA, storeA, storeCellsA, setAt, partA, fillA, placesA, isFn, TyI.isAgg, isSeq, isNum, sliceA, boundA, cells_bool, one_bool, cells_int, one_int, cells_str, one_str, cells_ptr, one_ptr, cells_nilptr, one_nilptr, cells_slice, one_slice, cells_vs, one_vs, cells_vptr, one_vptr, cells_func, one_func, cells_yield, one_yield, cells_nilfn, one_nilfn, cells_nilmap, one_nilmap, cells_map, one_map, cells_agg, setParams, Tr.get_set, AMem.get_put, AMem.get_push, AMem.next_put, AMem.next_push, AMem.get_empty, next_empty, Option.map_some, Option.map_none, Option.bind_some, reduceIte, Nat.reduceLT, Nat.reduceLeDiff, Nat.reduceEqDiff, Nat.reduceAdd, Nat.reduceMul, Nat.reduceSub, Nat.reduceBEq, Nat.zero_add, Nat.add_zero, Nat.mul_one, Nat.one_mul, Nat.zero_mul, and_self, and_true, true_and, false_and, and_false, Bool.and_true, Bool.true_and, Bool.and_false, Bool.false_and, if_true, if_false, Int.reduceEq, Int.reduceLT, Int.reduceLE, Int.reduceToNat, Bool.false_eq_true, Bool.not_true, Bool.not_false, BEq.rfl, beq_true_true, beq_true_false, beq_false_true, beq_false_false, List.length_cons, List.length_nil, List.all_cons, List.all_nil, List.getElem?_cons_zero, List.getElem?_cons_succ, List.getElem?_nil, List.getElem?_toArray, List.take_succ_cons, List.take_zero, List.drop_succ_cons, List.drop_zero, List.set_cons_zero, List.set_cons_succ, List.append_nil, List.nil_append, List.cons_append, decide_true, decide_false, decide_eq_true_eq, Option.isNone_none, Option.isNone_some, Option.isSome_none, Option.isSome_some, Bool.or_true, Bool.true_or, Bool.or_false, Bool.false_or, ne_eq, not_false_eq_true, not_true_eq_false, reduceCtorEq, eq_self, beq_refl, minL, minF, maxL, maxF, repZ, vp32_23, vp32_24, vp32_28, vp32_70, ty3, ty4, ty5, ty22, ty40, ty42, ty44, ty58, ord32_14, ord32_16, ord32_19, Nat.add_assoc, Nat.add_eq_left, Nat.left_eq_add, Nat.add_left_cancel_iff, List.length_map, hcn, hmv, hbq, bne_self_eq_false, c1, g0, g1, g2, n0, n1, n2, kq, hget, hil3, Int.natCast_nonneg, Int.toNat_natCast, p1, a1, m2, mq, q6, q7, q8, q9, t6, t7, t8, t9, t10, t11, show ((3 : Int) == 1) = false from rfl, show ((3 : Int) == 2) = false from rfl, show ((3 : Int) == 3) = true from rfl, show ((3 : Int) == 4) = false from rfl]
    refine ⟨_, _, rfl, by simp only [Tryz.f32, resultsA, resultA, q_seq, q_cond, q_block, q_region, q_drawn, q_skip, q_exit, q_ret, runOps, runD, again, step1, wantA, opSem, evalO, evalL, evalOpt, evalParts, putA, ofConst, ofScalar, ofScalars, abin, abinInt, aun, convA, builtinA, oneTy, elemTy, lenB_vs, lenB_sl, lenB_str, loadA, storeA, storeCellsA, setAt, partA, fillA, placesA, isFn, TyI.isAgg, isSeq, isNum, sliceA, boundA, cells_bool, one_bool, cells_int, one_int, cells_str, one_str, cells_ptr, one_ptr, cells_nilptr, one_nilptr, cells_slice, one_slice, cells_vs, one_vs, cells_vptr, one_vptr, cells_func, one_func, cells_yield, one_yield, cells_nilfn, one_nilfn, cells_nilmap, one_nilmap, cells_map, one_map, cells_agg, setParams, Tr.get_set, AMem.get_put, AMem.get_push, AMem.next_put, AMem.next_push, AMem.get_empty, next_empty, Option.map_some, Option.map_none, Option.bind_some, reduceIte, Nat.reduceLT, Nat.reduceLeDiff, Nat.reduceEqDiff, Nat.reduceAdd, Nat.reduceMul, Nat.reduceSub, Nat.reduceBEq, Nat.zero_add, Nat.add_zero, Nat.mul_one, Nat.one_mul, Nat.zero_mul, and_self, and_true, true_and, false_and, and_false, Bool.and_true, Bool.true_and, Bool.and_false, Bool.false_and, if_true, if_false, Int.reduceEq, Int.reduceLT, Int.reduceLE, Int.reduceToNat, Bool.false_eq_true, Bool.not_true, Bool.not_false, BEq.rfl, beq_true_true, beq_true_false, beq_false_true, beq_false_false, List.length_cons, List.length_nil, List.all_cons, List.all_nil, List.getElem?_cons_zero, List.getElem?_cons_succ, List.getElem?_nil, List.getElem?_toArray, List.take_succ_cons, List.take_zero, List.drop_succ_cons, List.drop_zero, List.set_cons_zero, List.set_cons_succ, List.append_nil, List.nil_append, List.cons_append, decide_true, decide_false, decide_eq_true_eq, Option.isNone_none, Option.isNone_some, Option.isSome_none, Option.isSome_some, Bool.or_true, Bool.true_or, Bool.or_false, Bool.false_or, ne_eq, not_false_eq_true, not_true_eq_false, reduceCtorEq, eq_self, beq_refl, minL, minF, maxL, maxF, repZ, vp32_23, vp32_24, vp32_28, vp32_70, ty3, ty4, ty5, ty22, ty40, ty42, ty44, ty58, ord32_14, ord32_16, ord32_19], rfl, fun s h1 h2 => ?_⟩
    simp only [AMem.get_put, show ¬ 2 = s from Ne.symm h1, show ¬ σ1.next = s from Ne.symm h2, if_false]
  obtain ⟨T1, σ6, e1, e2, e3, e5⟩ := e
  have hm := a2.only (σ' := σ6) (by omega) (fun q n c z hq => by
    simp only [AVal.slice.injEq] at hq
    exact e5 q (by omega) (by omega)) (fun x hx => by
    rcases List.mem_append.1 hx with hx | hx
    · have := o1.2.2.2 x hx
      exact e5 _ (by omega) (by omega)
    · simp only [List.mem_singleton] at hx
      subst hx
      exact e5 _ (by simp only; omega) (by simp only; omega))
  obtain ⟨seen, hs⟩ := snap_net (ps := ps ++ [ps[i]]) 7 h hm (by rw [List.map_append, o3]; rfl)
  exact ⟨T1, σ6, _, seen, e1, e2, hs.trans (by rw [netV_some])⟩

theorem rdo_spoil (h : Int) (vk : VK) (ps : List Pk) (i a : Nat) (x : Int) (hn : ps.length ≤ 1000) (hb : ∀ q, q ∈ ps → q.b.length ≤ 1000000) (h1 : NetOk h ps) (h2 : moveB ps ⟨4, i, a, x⟩ = true) (hi : i < ps.length) (ha : a < ps[i].b.length) (hk : 3000 ≤ k) :
    ∃ T1 σ1 y seen, execC lawProg (callN lawProg k) k 32 90 (bodyOf Tryz.f32) (initT 0 [.agg [.int .i64 h, .vs vk (ps.map pkV)], .agg [.int .u8 4, .int .i64 (i : Nat), .int .i64 (a : Nat), .int .i64 x]] .nil) AMem.empty = some (.ret, T1, σ1) ∧
      resultsA lawProg T1 σ1 Tryz.f32.results.toList = some [y, .vs .nil [], .int .i64 0] ∧ snapF false σ1 11 y = some (netV h .some ((ps.set i { ps[i] with b := ps[i].b.set a (xr ((ps[i].b[a] : Nat) : Int) x) }).map cp), seen) := by
  have hcn := fun (σ : AMem) => isNet_call (k := k) (σ := σ) h vk ps hn (by omega)
  simp only [decide_eq_true h1] at hcn
  have hmv := fun (σ : AMem) => risMove_call (k := k) (σ := σ) h vk ps ⟨4, i, a, x⟩ hn hb (by simp only; omega) (by omega)
  simp only [h2] at hmv
  obtain ⟨σ1, σ3, ro, rp, l, ro_⟩ := ropened_of (k := k) h vk ps [.int .u8 4, .int .i64 (i : Nat), .int .i64 (a : Nat), .int .i64 x] i hi hn hb hk
  obtain ⟨c1, p1, ⟨o1, o2, o3, o4, g0, g1, g2⟩, r1, r2, r4, nx, keep, kq, rp1, rp2, rp3⟩ := ro_
  have hil : i < l.length := by omega
  have n0 : σ3.get 0 = some (.row 2 true [.int .i64 h, .vs vk (ps.map pkV)]) := by rw [keep 0 (by omega)]; exact g0
  have n1 : σ3.get 1 = some (.row 4 true [.int .u8 4, .int .i64 (i : Nat), .int .i64 (a : Nat), .int .i64 x]) := by rw [keep 1 (by omega)]; exact g1
  have n2 : σ3.get 2 = some (.row 2 true [.int .i64 0, .vs .nil []]) := by rw [keep 2 (by omega)]; exact g2
  have hli : l[i].1 = ps[i] := by simp only [← o3, List.getElem_map]
  obtain ⟨b1, b2, b3, b4⟩ := o1.2.2.2 _ (List.getElem_mem hil)
  have hcell : (l.map fun x => pkM x.1 x.2).flatten[i * 3 + 2]? = some (.slice l[i].2 0 ps[i].b.length (capOf ps[i].b) 1) := by
    have := flat_get (sz := 3) (j := 2) (more := []) (pkM_three l) (by simpa using hil) (by omega)
    rw [List.append_nil] at this
    rw [this, List.getElem_map, hli]
    rfl
  rw [hli] at b3
  have hrr : ¬ ro = l[i].2 := fun e => b4 l.length none 3 (by rw [e])
  have w1 : σ3.get ro = some (.row 3 true (l.map fun x => pkM x.1 x.2).flatten) := by rw [keep ro r2]; exact r4
  have w2 : σ3.get l[i].2 = some (.row 1 false (bytesV ps[i].b)) := by rw [keep _ b2]; exact b3
  have hget := pk_get hi
  have hil3 : (i : Int) < (ps.length : Int) := by omega
  have hil2 : (i : Int) < (l.length : Int) := by omega
  have hal : (a : Int) < (ps[i].b.length : Int) := by omega
  have hxr : IntKind.u8.wrap ((BitVec.ofInt IntKind.u8.bits ((ps[i].b[a] : Nat) : Int) ^^^ BitVec.ofInt IntKind.u8.bits (IntKind.u8.wrap x)).toNat : Int) = ((xr ((ps[i].b[a] : Nat) : Int) x : Nat) : Int) := u8_nat _
  have hst : (bytesV ps[i].b).set a (.int .u8 ((xr ((ps[i].b[a] : Nat) : Int) x : Nat) : Int)) = bytesV (ps[i].b.set a (xr ((ps[i].b[a] : Nat) : Int) x)) := by simp only [bytesV, List.map_set]
  have hal2 : a + 1 ≤ ps[i].b.length := by omega
  have q6 : ¬ σ1.next = 0 := by omega
  have q7 : ¬ σ1.next = 1 := by omega
  have q8 : ¬ σ1.next = 2 := by omega
  have q9 : ¬ 2 = σ1.next := by omega
  have t6 : ¬ σ3.next = 0 := by omega
  have t7 : ¬ σ3.next = 1 := by omega
  have t8 : ¬ σ3.next = 2 := by omega
  have t9 : ¬ σ3.next = σ1.next := by omega
  have t10 : ¬ σ1.next = σ3.next := by omega
  have t11 : ¬ 2 = σ3.next := by omega
  have t12 : ¬ σ3.next = ro := by omega
  have t13 : ¬ σ3.next = l[i].2 := by omega
  have v0 : ¬ l[i].2 = 0 := by omega
  have v1 : ¬ l[i].2 = 1 := by omega
  have v2 : ¬ l[i].2 = 2 := by omega
  have v3 : ¬ l[i].2 = σ1.next := by omega
  have v4 : ¬ l[i].2 = σ3.next := by omega
  simp only [pkM] at p1
  have e : ∃ T1 σ6, execC lawProg (callN lawProg k) k 32 90 (bodyOf Tryz.f32) (initT 0 [.agg [.int .i64 h, .vs vk (ps.map pkV)], .agg [.int .u8 4, .int .i64 (i : Nat), .int .i64 (a : Nat), .int .i64 x]] .nil) AMem.empty = some (.ret, T1, σ6) ∧
      resultsA lawProg T1 σ6 Tryz.f32.results.toList = some [.agg [.int .i64 h, .slice ro 0 l.length none 3], .vs .nil [], .int .i64 0] ∧ σ6.next = σ3.next + 1 ∧ σ6.get l[i].2 = some (.row 1 false (bytesV (ps[i].b.set a (xr ((ps[i].b[a] : Nat) : Int) x)))) ∧ ∀ s, s < σ1.next → s ≠ 2 → s ≠ l[i].2 → σ6.get s = σ3.get s := by
    simp only [bodyOf, Tryz.f32, Option.getD_some, initT, q_seq, q_cond, q_block, q_region, q_drawn, q_skip, q_exit, q_ret, runOps, runD, again, step1, wantA, opSem, evalO, evalL, evalOpt, evalParts, putA, ofConst, ofScalar, ofScalars, abin, abinInt, aun, convA, builtinA, oneTy, elemTy, lenB_vs, lenB_sl, lenB_str, loadA, storeA, storeCellsA, setAt, partA, fillA, placesA, isFn, TyI.isAgg, isSeq, isNum, sliceA, boundA, cells_bool, one_bool, cells_int, one_int, cells_str, one_str, cells_ptr, one_ptr, cells_nilptr, one_nilptr, cells_slice, one_slice, cells_vs, one_vs, cells_vptr, one_vptr, cells_func, one_func, cells_yield, one_yield, cells_nilfn, one_nilfn, cells_nilmap, one_nilmap, cells_map, one_map, cells_agg, setParams, Tr.get_set, AMem.get_put, AMem.get_push, AMem.next_put, AMem.next_push, AMem.get_empty, next_empty, Option.map_some, Option.map_none, Option.bind_some, reduceIte, Nat.reduceLT, Nat.reduceLeDiff, Nat.reduceEqDiff, Nat.reduceAdd, Nat.reduceMul, Nat.reduceSub, Nat.reduceBEq, Nat.zero_add, Nat.add_zero, Nat.mul_one, Nat.one_mul, Nat.zero_mul, and_self, and_true, true_and, false_and, and_false, Bool.and_true, Bool.true_and, Bool.and_false, Bool.false_and, if_true, if_false, Int.reduceEq, Int.reduceLT, Int.reduceLE, Int.reduceToNat, Bool.false_eq_true, Bool.not_true, Bool.not_false, BEq.rfl, beq_true_true, beq_true_false, beq_false_true, beq_false_false, List.length_cons, List.length_nil, List.all_cons, List.all_nil, List.getElem?_cons_zero, List.getElem?_cons_succ, List.getElem?_nil, List.getElem?_toArray, List.take_succ_cons, List.take_zero, List.drop_succ_cons, List.drop_zero, List.set_cons_zero, List.set_cons_succ, List.append_nil, List.nil_append, List.cons_append, decide_true, decide_false, decide_eq_true_eq, Option.isNone_none, Option.isNone_some, Option.isSome_none, Option.isSome_some, Bool.or_true, Bool.true_or, Bool.or_false, Bool.false_or, ne_eq, not_false_eq_true, not_true_eq_false, reduceCtorEq, eq_self, beq_refl, minL, minF, maxL, maxF, repZ, vp32_23, vp32_24, vp32_28, vp32_70, ty3, ty4, ty5, ty22, ty40, ty42, ty44, ty58, ord32_14, ord32_16, ord32_19, Nat.add_assoc, Nat.add_eq_left, Nat.left_eq_add, Nat.add_left_cancel_iff, List.length_map, hcn, hmv, bne_self_eq_false, c1, g0, g1, g2, n0, n1, n2, kq, w1, w2, hcell, hrr, hget, hil2, hil3, hal, hal2, Int.natCast_nonneg, Int.toNat_natCast, bytesV_length, bytesV_get ha, hxr, hst, p1, q6, q7, q8, q9, t6, t7, t8, t9, t10, t11, t12, t13, v0, v1, v2, v3, v4, show ((4 : Int) == 1) = false from rfl, show ((4 : Int) == 2) = false from rfl, show ((4 : Int) == 3) = false from rfl, show ((4 : Int) == 4) = true from rfl]
    refine ⟨_, _, rfl, by simp only [Tryz.f32, resultsA, resultA, q_seq, q_cond, q_block, q_region, q_drawn, q_skip, q_exit, q_ret, runOps, runD, again, step1, wantA, opSem, evalO, evalL, evalOpt, evalParts, putA, ofConst, ofScalar, ofScalars, abin, abinInt, aun, convA, builtinA, oneTy, elemTy, lenB_vs, lenB_sl, lenB_str, loadA, storeA, storeCellsA, setAt, partA, fillA, placesA, isFn, TyI.isAgg, isSeq, isNum, sliceA, boundA, cells_bool, one_bool, cells_int, one_int, cells_str, one_str, cells_ptr, one_ptr, cells_nilptr, one_nilptr, cells_slice, one_slice, cells_vs, one_vs, cells_vptr, one_vptr, cells_func, one_func, cells_yield, one_yield, cells_nilfn, one_nilfn, cells_nilmap, one_nilmap, cells_map, one_map, cells_agg, setParams, Tr.get_set, AMem.get_put, AMem.get_push, AMem.next_put, AMem.next_push, AMem.get_empty, next_empty, Option.map_some, Option.map_none, Option.bind_some, reduceIte, Nat.reduceLT, Nat.reduceLeDiff, Nat.reduceEqDiff, Nat.reduceAdd, Nat.reduceMul, Nat.reduceSub, Nat.reduceBEq, Nat.zero_add, Nat.add_zero, Nat.mul_one, Nat.one_mul, Nat.zero_mul, and_self, and_true, true_and, false_and, and_false, Bool.and_true, Bool.true_and, Bool.and_false, Bool.false_and, if_true, if_false, Int.reduceEq, Int.reduceLT, Int.reduceLE, Int.reduceToNat, Bool.false_eq_true, Bool.not_true, Bool.not_false, BEq.rfl, beq_true_true, beq_true_false, beq_false_true, beq_false_false, List.length_cons, List.length_nil, List.all_cons, List.all_nil, List.getElem?_cons_zero, List.getElem?_cons_succ, List.getElem?_nil, List.getElem?_toArray, List.take_succ_cons, List.take_zero, List.drop_succ_cons, List.drop_zero, List.set_cons_zero, List.set_cons_succ, List.append_nil, List.nil_append, List.cons_append, decide_true, decide_false, decide_eq_true_eq, Option.isNone_none, Option.isNone_some, Option.isSome_none, Option.isSome_some, Bool.or_true, Bool.true_or, Bool.or_false, Bool.false_or, ne_eq, not_false_eq_true, not_true_eq_false, reduceCtorEq, eq_self, beq_refl, minL, minF, maxL, maxF, repZ, vp32_23, vp32_24, vp32_28, vp32_70, ty3, ty4, ty5, ty22, ty40, ty42, ty44, ty58, ord32_14, ord32_16, ord32_19], rfl, ?_, fun s h1 h2 h3 => ?_⟩
    · rw [AMem.get_put, if_neg (Ne.symm v2), AMem.get_put, if_pos rfl]
    · simp only [AMem.get_put, AMem.get_push, AMem.next_put, AMem.next_push, show ¬ 2 = s from Ne.symm h2, show ¬ l[i].2 = s from Ne.symm h3, show ¬ σ1.next = s by omega, show ¬ σ3.next = s by omega, if_false]
  obtain ⟨T1, σ5, e1, e2, e3, e4, e5⟩ := e
  have e6 : ∀ s, s < σ1.next → s ≠ 2 → s ≠ l[i].2 → σ5.get s = σ1.get s := fun s a b c => by rw [e5 s a b c, keep s a]
  have hm := o1.spoil (a := a) (v := xr ((ps[i].b[a] : Nat) : Int) x) hil
  rw [hli] at hm
  have hm5 := hm.only (σ' := σ5) (by rw [e3]; simp; omega) (fun q n c z hq => by
    simp only [AVal.slice.injEq] at hq
    rw [AMem.get_put, if_neg (by omega)]
    exact e6 q (by omega) (by omega) (by omega)) (fun y hy => by
    by_cases hq : y.2 = l[i].2
    · rw [hq, e4, AMem.get_put, if_pos rfl]
    · have hmem : ∃ z, z ∈ l ∧ z.2 = y.2 := by
        rcases List.mem_or_eq_of_mem_set hy with hy | rfl
        · exact ⟨y, hy, rfl⟩
        · exact absurd rfl hq
      obtain ⟨z, hz, hz2⟩ := hmem
      have := o1.2.2.2 z hz
      rw [AMem.get_put, if_neg (Ne.symm hq)]
      exact e6 _ (by omega) (by omega) hq)
  have hfst : (l.set i ({ ps[i] with b := ps[i].b.set a (xr ((ps[i].b[a] : Nat) : Int) x) }, l[i].2)).map (·.1) = ps.set i { ps[i] with b := ps[i].b.set a (xr ((ps[i].b[a] : Nat) : Int) x) } := by
    rw [List.map_set, o3]
  obtain ⟨seen, hs⟩ := snap_net (ps := ps.set i { ps[i] with b := ps[i].b.set a (xr ((ps[i].b[a] : Nat) : Int) x) }) 7 h hm5 hfst
  refine ⟨T1, σ5, _, seen, e1, e2, hs.trans ?_⟩
  rw [netV_two, show lkOf (ps.set i { ps[i] with b := ps[i].b.set a (xr ((ps[i].b[a] : Nat) : Int) x) }).length = .some by unfold lkOf; rw [if_neg (by rw [List.length_set]; omega)]]

theorem rdo_call (h : Int) (vk : VK) (ps : List Pk) (m : Mv) (hn : ps.length ≤ 1000) (hb : ∀ q, q ∈ ps → q.b.length ≤ 1000000) (hm8 : 0 ≤ m.kd ∧ m.kd ≤ 255) (hk : 3001 ≤ k) :
    pureCall lawProg (callN lawProg k) (.func 32 [] []) [.agg [.int .i64 h, .vs vk (ps.map pkV)], .agg [.int .u8 m.kd, .int .i64 m.n, .int .i64 m.at_, .int .i64 m.x]] σ = some (.tuple [(doV h ps m).1, (doV h ps m).2, .int .i64 (doE h ps m)], σ) := by
  obtain ⟨k, rfl⟩ : ∃ m, k = m + 1 := ⟨k - 1, by omega⟩
  have run : ∃ T1 σ1 x y sx sy, execC lawProg (callN lawProg k) k 32 90 (bodyOf Tryz.f32) (initT 0 [.agg [.int .i64 h, .vs vk (ps.map pkV)], .agg [.int .u8 m.kd, .int .i64 m.n, .int .i64 m.at_, .int .i64 m.x]] .nil) AMem.empty = some (.ret, T1, σ1) ∧
      resultsA lawProg T1 σ1 Tryz.f32.results.toList = some [x, y, .int .i64 (doE h ps m)] ∧ snapF false σ1 11 x = some ((doV h ps m).1, sx) ∧ snapF false σ1 11 y = some ((doV h ps m).2, sy) := by
    have hcn := fun (σ : AMem) => isNet_call (k := k) (σ := σ) h vk ps hn (by omega)
    have hmt : ∀ σ : AMem, snapF false σ 11 (.agg [.int .i64 0, .vs .nil []]) = some (netV 0 .nil [], []) := fun σ => rfl
    have hm0 : ∀ σ : AMem, snapF false σ 11 (.vs .nil []) = some (.vs .nil [], []) := fun σ => rfl
    by_cases h1 : NetOk h ps
    · simp only [decide_eq_true h1] at hcn
      have hmv := fun (σ : AMem) => risMove_call (k := k) (σ := σ) h vk ps m hn hb hm8 (by omega)
      cases h2 : moveB ps m with
      | false =>
        obtain ⟨e1, e2⟩ := do_mv h1 h2
        rw [e1, e2]
        simp only [h2] at hmv
        simp only [bodyOf, Tryz.f32, Option.getD_some, initT, q_seq, q_cond, q_block, q_region, q_drawn, q_skip, q_exit, q_ret, runOps, runD, again, step1, wantA, opSem, evalO, evalL, evalOpt, evalParts, putA, ofConst, ofScalar, ofScalars, abin, abinInt, aun, convA, builtinA, oneTy, elemTy, lenB_vs, lenB_sl, lenB_str, loadA, storeA, storeCellsA, setAt, partA, fillA, placesA, isFn, TyI.isAgg, isSeq, isNum, sliceA, boundA, cells_bool, one_bool, cells_int, one_int, cells_str, one_str, cells_ptr, one_ptr, cells_nilptr, one_nilptr, cells_slice, one_slice, cells_vs, one_vs, cells_vptr, one_vptr, cells_func, one_func, cells_yield, one_yield, cells_nilfn, one_nilfn, cells_nilmap, one_nilmap, cells_map, one_map, cells_agg, setParams, Tr.get_set, AMem.get_put, AMem.get_push, AMem.next_put, AMem.next_push, AMem.get_empty, next_empty, Option.map_some, Option.map_none, Option.bind_some, reduceIte, Nat.reduceLT, Nat.reduceLeDiff, Nat.reduceEqDiff, Nat.reduceAdd, Nat.reduceMul, Nat.reduceSub, Nat.reduceBEq, Nat.zero_add, Nat.add_zero, Nat.mul_one, Nat.one_mul, Nat.zero_mul, and_self, and_true, true_and, false_and, and_false, Bool.and_true, Bool.true_and, Bool.and_false, Bool.false_and, if_true, if_false, Int.reduceEq, Int.reduceLT, Int.reduceLE, Int.reduceToNat, Bool.false_eq_true, Bool.not_true, Bool.not_false, BEq.rfl, beq_true_true, beq_true_false, beq_false_true, beq_false_false, List.length_cons, List.length_nil, List.all_cons, List.all_nil, List.getElem?_cons_zero, List.getElem?_cons_succ, List.getElem?_nil, List.getElem?_toArray, List.take_succ_cons, List.take_zero, List.drop_succ_cons, List.drop_zero, List.set_cons_zero, List.set_cons_succ, List.append_nil, List.nil_append, List.cons_append, decide_true, decide_false, decide_eq_true_eq, Option.isNone_none, Option.isNone_some, Option.isSome_none, Option.isSome_some, Bool.or_true, Bool.true_or, Bool.or_false, Bool.false_or, ne_eq, not_false_eq_true, not_true_eq_false, reduceCtorEq, eq_self, beq_refl, minL, minF, maxL, maxF, repZ, vp32_23, vp32_24, vp32_28, vp32_70, ty3, ty4, ty5, ty22, ty40, ty42, ty44, ty58, ord32_14, ord32_16, ord32_19, List.length_map, hcn, hmv, bne_self_eq_false]
        exact ⟨_, _, .agg [.int .i64 0, .vs .nil []], .vs .nil [], _, _, rfl, by simp only [Tryz.f32, resultsA, resultA, q_seq, q_cond, q_block, q_region, q_drawn, q_skip, q_exit, q_ret, runOps, runD, again, step1, wantA, opSem, evalO, evalL, evalOpt, evalParts, putA, ofConst, ofScalar, ofScalars, abin, abinInt, aun, convA, builtinA, oneTy, elemTy, lenB_vs, lenB_sl, lenB_str, loadA, storeA, storeCellsA, setAt, partA, fillA, placesA, isFn, TyI.isAgg, isSeq, isNum, sliceA, boundA, cells_bool, one_bool, cells_int, one_int, cells_str, one_str, cells_ptr, one_ptr, cells_nilptr, one_nilptr, cells_slice, one_slice, cells_vs, one_vs, cells_vptr, one_vptr, cells_func, one_func, cells_yield, one_yield, cells_nilfn, one_nilfn, cells_nilmap, one_nilmap, cells_map, one_map, cells_agg, setParams, Tr.get_set, AMem.get_put, AMem.get_push, AMem.next_put, AMem.next_push, AMem.get_empty, next_empty, Option.map_some, Option.map_none, Option.bind_some, reduceIte, Nat.reduceLT, Nat.reduceLeDiff, Nat.reduceEqDiff, Nat.reduceAdd, Nat.reduceMul, Nat.reduceSub, Nat.reduceBEq, Nat.zero_add, Nat.add_zero, Nat.mul_one, Nat.one_mul, Nat.zero_mul, and_self, and_true, true_and, false_and, and_false, Bool.and_true, Bool.true_and, Bool.and_false, Bool.false_and, if_true, if_false, Int.reduceEq, Int.reduceLT, Int.reduceLE, Int.reduceToNat, Bool.false_eq_true, Bool.not_true, Bool.not_false, BEq.rfl, beq_true_true, beq_true_false, beq_false_true, beq_false_false, List.length_cons, List.length_nil, List.all_cons, List.all_nil, List.getElem?_cons_zero, List.getElem?_cons_succ, List.getElem?_nil, List.getElem?_toArray, List.take_succ_cons, List.take_zero, List.drop_succ_cons, List.drop_zero, List.set_cons_zero, List.set_cons_succ, List.append_nil, List.nil_append, List.cons_append, decide_true, decide_false, decide_eq_true_eq, Option.isNone_none, Option.isNone_some, Option.isSome_none, Option.isSome_some, Bool.or_true, Bool.true_or, Bool.or_false, Bool.false_or, ne_eq, not_false_eq_true, not_true_eq_false, reduceCtorEq, eq_self, beq_refl, minL, minF, maxL, maxF, repZ, vp32_23, vp32_24, vp32_28, vp32_70, ty3, ty4, ty5, ty22, ty40, ty42, ty44, ty58, ord32_14, ord32_16, ord32_19], hmt _, hm0 _⟩
      | true =>
        obtain ⟨i, hi, hi2, hcase⟩ := move_ok h2
        by_cases h3 : m.kd = 3 ∧ ps.length = 60
        · obtain ⟨e1, e2⟩ := do_full h1 h2 h3
          rw [e1, e2]
          obtain ⟨kd, n, a, x⟩ := m
          simp only at h3
          obtain ⟨rfl, h3⟩ := h3
          simp only [h2] at hmv
          have hbq : (((ps.length : Nat) : Int) == 60) = true := by rw [h3]; rfl
          simp only [bodyOf, Tryz.f32, Option.getD_some, initT, q_seq, q_cond, q_block, q_region, q_drawn, q_skip, q_exit, q_ret, runOps, runD, again, step1, wantA, opSem, evalO, evalL, evalOpt, evalParts, putA, ofConst, ofScalar, ofScalars, abin, abinInt, aun, convA, builtinA, oneTy, elemTy, lenB_vs, lenB_sl, lenB_str, loadA, storeA, storeCellsA, setAt, partA, fillA, placesA, isFn, TyI.isAgg, isSeq, isNum, sliceA, boundA, cells_bool, one_bool, cells_int, one_int, cells_str, one_str, cells_ptr, one_ptr, cells_nilptr, one_nilptr, cells_slice, one_slice, cells_vs, one_vs, cells_vptr, one_vptr, cells_func, one_func, cells_yield, one_yield, cells_nilfn, one_nilfn, cells_nilmap, one_nilmap, cells_map, one_map, cells_agg, setParams, Tr.get_set, AMem.get_put, AMem.get_push, AMem.next_put, AMem.next_push, AMem.get_empty, next_empty, Option.map_some, Option.map_none, Option.bind_some, reduceIte, Nat.reduceLT, Nat.reduceLeDiff, Nat.reduceEqDiff, Nat.reduceAdd, Nat.reduceMul, Nat.reduceSub, Nat.reduceBEq, Nat.zero_add, Nat.add_zero, Nat.mul_one, Nat.one_mul, Nat.zero_mul, and_self, and_true, true_and, false_and, and_false, Bool.and_true, Bool.true_and, Bool.and_false, Bool.false_and, if_true, if_false, Int.reduceEq, Int.reduceLT, Int.reduceLE, Int.reduceToNat, Bool.false_eq_true, Bool.not_true, Bool.not_false, BEq.rfl, beq_true_true, beq_true_false, beq_false_true, beq_false_false, List.length_cons, List.length_nil, List.all_cons, List.all_nil, List.getElem?_cons_zero, List.getElem?_cons_succ, List.getElem?_nil, List.getElem?_toArray, List.take_succ_cons, List.take_zero, List.drop_succ_cons, List.drop_zero, List.set_cons_zero, List.set_cons_succ, List.append_nil, List.nil_append, List.cons_append, decide_true, decide_false, decide_eq_true_eq, Option.isNone_none, Option.isNone_some, Option.isSome_none, Option.isSome_some, Bool.or_true, Bool.true_or, Bool.or_false, Bool.false_or, ne_eq, not_false_eq_true, not_true_eq_false, reduceCtorEq, eq_self, beq_refl, minL, minF, maxL, maxF, repZ, vp32_23, vp32_24, vp32_28, vp32_70, ty3, ty4, ty5, ty22, ty40, ty42, ty44, ty58, ord32_14, ord32_16, ord32_19, List.length_map, hcn, hmv, hbq, bne_self_eq_false, show ((3 : Int) == 3) = true from rfl]
          exact ⟨_, _, .agg [.int .i64 0, .vs .nil []], .vs .nil [], _, _, rfl, by simp only [Tryz.f32, resultsA, resultA, q_seq, q_cond, q_block, q_region, q_drawn, q_skip, q_exit, q_ret, runOps, runD, again, step1, wantA, opSem, evalO, evalL, evalOpt, evalParts, putA, ofConst, ofScalar, ofScalars, abin, abinInt, aun, convA, builtinA, oneTy, elemTy, lenB_vs, lenB_sl, lenB_str, loadA, storeA, storeCellsA, setAt, partA, fillA, placesA, isFn, TyI.isAgg, isSeq, isNum, sliceA, boundA, cells_bool, one_bool, cells_int, one_int, cells_str, one_str, cells_ptr, one_ptr, cells_nilptr, one_nilptr, cells_slice, one_slice, cells_vs, one_vs, cells_vptr, one_vptr, cells_func, one_func, cells_yield, one_yield, cells_nilfn, one_nilfn, cells_nilmap, one_nilmap, cells_map, one_map, cells_agg, setParams, Tr.get_set, AMem.get_put, AMem.get_push, AMem.next_put, AMem.next_push, AMem.get_empty, next_empty, Option.map_some, Option.map_none, Option.bind_some, reduceIte, Nat.reduceLT, Nat.reduceLeDiff, Nat.reduceEqDiff, Nat.reduceAdd, Nat.reduceMul, Nat.reduceSub, Nat.reduceBEq, Nat.zero_add, Nat.add_zero, Nat.mul_one, Nat.one_mul, Nat.zero_mul, and_self, and_true, true_and, false_and, and_false, Bool.and_true, Bool.true_and, Bool.and_false, Bool.false_and, if_true, if_false, Int.reduceEq, Int.reduceLT, Int.reduceLE, Int.reduceToNat, Bool.false_eq_true, Bool.not_true, Bool.not_false, BEq.rfl, beq_true_true, beq_true_false, beq_false_true, beq_false_false, List.length_cons, List.length_nil, List.all_cons, List.all_nil, List.getElem?_cons_zero, List.getElem?_cons_succ, List.getElem?_nil, List.getElem?_toArray, List.take_succ_cons, List.take_zero, List.drop_succ_cons, List.drop_zero, List.set_cons_zero, List.set_cons_succ, List.append_nil, List.nil_append, List.cons_append, decide_true, decide_false, decide_eq_true_eq, Option.isNone_none, Option.isNone_some, Option.isSome_none, Option.isSome_some, Bool.or_true, Bool.true_or, Bool.or_false, Bool.false_or, ne_eq, not_false_eq_true, not_true_eq_false, reduceCtorEq, eq_self, beq_refl, minL, minF, maxL, maxF, repZ, vp32_23, vp32_24, vp32_28, vp32_70, ty3, ty4, ty5, ty22, ty40, ty42, ty44, ty58, ord32_14, ord32_16, ord32_19], hmt _, hm0 _⟩
        · obtain ⟨e1, e2⟩ := do_ok h1 h2 h3 hi hi2
          rw [e1, e2]
          obtain ⟨kd, n, a, x⟩ := m
          simp only at hi2 hcase h3
          subst hi2
          rcases hcase with ⟨hkd, rfl, rfl⟩ | ⟨rfl, a', ha, rfl, _, _⟩
          · by_cases hkd3 : kd = 3
            · subst hkd3
              obtain ⟨T1, σ1, y, s1, r1, r2, r3⟩ := rdo_twice (k := k) h vk ps i hn hb h1 h2 hi (fun e => h3 ⟨rfl, e⟩) (by omega)
              exact ⟨T1, σ1, y, _, s1, _, r1, r2, by rw [doL_three]; exact r3, hm0 _⟩
            · have hkd2 : kd = 1 ∨ kd = 2 := by omega
              obtain ⟨T1, σ1, y, z, s1, s2, r1, r2, r3, r4⟩ := rdo_lose (k := k) h vk ps i kd hkd2 hn hb h1 h2 hi (by omega)
              exact ⟨T1, σ1, y, z, s1, s2, r1, r2, by rw [doL_one hkd2]; exact r3, r4⟩
          · obtain ⟨T1, σ1, y, s1, r1, r2, r3⟩ := rdo_spoil (k := k) h vk ps i a' x hn hb h1 h2 hi ha (by omega)
            exact ⟨T1, σ1, y, _, s1, _, r1, r2, by rw [doL_four ha]; exact r3, hm0 _⟩
    · obtain ⟨e1, e2⟩ := do_net (m := m) h1
      rw [e1, e2]
      simp only [decide_eq_false h1] at hcn
      simp only [bodyOf, Tryz.f32, Option.getD_some, initT, q_seq, q_cond, q_block, q_region, q_drawn, q_skip, q_exit, q_ret, runOps, runD, again, step1, wantA, opSem, evalO, evalL, evalOpt, evalParts, putA, ofConst, ofScalar, ofScalars, abin, abinInt, aun, convA, builtinA, oneTy, elemTy, lenB_vs, lenB_sl, lenB_str, loadA, storeA, storeCellsA, setAt, partA, fillA, placesA, isFn, TyI.isAgg, isSeq, isNum, sliceA, boundA, cells_bool, one_bool, cells_int, one_int, cells_str, one_str, cells_ptr, one_ptr, cells_nilptr, one_nilptr, cells_slice, one_slice, cells_vs, one_vs, cells_vptr, one_vptr, cells_func, one_func, cells_yield, one_yield, cells_nilfn, one_nilfn, cells_nilmap, one_nilmap, cells_map, one_map, cells_agg, setParams, Tr.get_set, AMem.get_put, AMem.get_push, AMem.next_put, AMem.next_push, AMem.get_empty, next_empty, Option.map_some, Option.map_none, Option.bind_some, reduceIte, Nat.reduceLT, Nat.reduceLeDiff, Nat.reduceEqDiff, Nat.reduceAdd, Nat.reduceMul, Nat.reduceSub, Nat.reduceBEq, Nat.zero_add, Nat.add_zero, Nat.mul_one, Nat.one_mul, Nat.zero_mul, and_self, and_true, true_and, false_and, and_false, Bool.and_true, Bool.true_and, Bool.and_false, Bool.false_and, if_true, if_false, Int.reduceEq, Int.reduceLT, Int.reduceLE, Int.reduceToNat, Bool.false_eq_true, Bool.not_true, Bool.not_false, BEq.rfl, beq_true_true, beq_true_false, beq_false_true, beq_false_false, List.length_cons, List.length_nil, List.all_cons, List.all_nil, List.getElem?_cons_zero, List.getElem?_cons_succ, List.getElem?_nil, List.getElem?_toArray, List.take_succ_cons, List.take_zero, List.drop_succ_cons, List.drop_zero, List.set_cons_zero, List.set_cons_succ, List.append_nil, List.nil_append, List.cons_append, decide_true, decide_false, decide_eq_true_eq, Option.isNone_none, Option.isNone_some, Option.isSome_none, Option.isSome_some, Bool.or_true, Bool.true_or, Bool.or_false, Bool.false_or, ne_eq, not_false_eq_true, not_true_eq_false, reduceCtorEq, eq_self, beq_refl, minL, minF, maxL, maxF, repZ, vp32_23, vp32_24, vp32_28, vp32_70, ty3, ty4, ty5, ty22, ty40, ty42, ty44, ty58, ord32_14, ord32_16, ord32_19, List.length_map, hcn]
      exact ⟨_, _, .agg [.int .i64 0, .vs .nil []], .vs .nil [], _, _, rfl, by simp only [Tryz.f32, resultsA, resultA, q_seq, q_cond, q_block, q_region, q_drawn, q_skip, q_exit, q_ret, runOps, runD, again, step1, wantA, opSem, evalO, evalL, evalOpt, evalParts, putA, ofConst, ofScalar, ofScalars, abin, abinInt, aun, convA, builtinA, oneTy, elemTy, lenB_vs, lenB_sl, lenB_str, loadA, storeA, storeCellsA, setAt, partA, fillA, placesA, isFn, TyI.isAgg, isSeq, isNum, sliceA, boundA, cells_bool, one_bool, cells_int, one_int, cells_str, one_str, cells_ptr, one_ptr, cells_nilptr, one_nilptr, cells_slice, one_slice, cells_vs, one_vs, cells_vptr, one_vptr, cells_func, one_func, cells_yield, one_yield, cells_nilfn, one_nilfn, cells_nilmap, one_nilmap, cells_map, one_map, cells_agg, setParams, Tr.get_set, AMem.get_put, AMem.get_push, AMem.next_put, AMem.next_push, AMem.get_empty, next_empty, Option.map_some, Option.map_none, Option.bind_some, reduceIte, Nat.reduceLT, Nat.reduceLeDiff, Nat.reduceEqDiff, Nat.reduceAdd, Nat.reduceMul, Nat.reduceSub, Nat.reduceBEq, Nat.zero_add, Nat.add_zero, Nat.mul_one, Nat.one_mul, Nat.zero_mul, and_self, and_true, true_and, false_and, and_false, Bool.and_true, Bool.true_and, Bool.and_false, Bool.false_and, if_true, if_false, Int.reduceEq, Int.reduceLT, Int.reduceLE, Int.reduceToNat, Bool.false_eq_true, Bool.not_true, Bool.not_false, BEq.rfl, beq_true_true, beq_true_false, beq_false_true, beq_false_false, List.length_cons, List.length_nil, List.all_cons, List.all_nil, List.getElem?_cons_zero, List.getElem?_cons_succ, List.getElem?_nil, List.getElem?_toArray, List.take_succ_cons, List.take_zero, List.drop_succ_cons, List.drop_zero, List.set_cons_zero, List.set_cons_succ, List.append_nil, List.nil_append, List.cons_append, decide_true, decide_false, decide_eq_true_eq, Option.isNone_none, Option.isNone_some, Option.isSome_none, Option.isSome_some, Bool.or_true, Bool.true_or, Bool.or_false, Bool.false_or, ne_eq, not_false_eq_true, not_true_eq_false, reduceCtorEq, eq_self, beq_refl, minL, minF, maxL, maxF, repZ, vp32_23, vp32_24, vp32_28, vp32_70, ty3, ty4, ty5, ty22, ty40, ty42, ty44, ty58, ord32_14, ord32_16, ord32_19], hmt _, hm0 _⟩
  obtain ⟨T1, σ1, x, y, sx, sy, h1, h2, h3, h4⟩ := run
  obtain ⟨b, h⟩ := pureRun_any (seen := sx ++ (sy ++ ([] ++ []))) fn32 rfl (by simp [Tryz.f32]) h1 (by simp) h2 (tuple_three (d := 11) h3 h4 rfl)
  exact pureCall_of0 rfl (memo32 _) h
end Go.Proofs.YtikhidpcaefjiaaGreatDoor
