/- A net after a move, by the reference. -/
import Derived.Test.YtikhidpcaefjiaaGreatDoorD6
set_option maxRecDepth 100000
set_option linter.unusedSimpArgs false
set_option linter.unusedVariables false
namespace Go.Proofs.YtikhidpcaefjiaaGreatDoor
open Go Go.Proofs.YtikhidpcaefjiaaGreatDoor.Pale
variable {k : Nat} {σ : AMem}

/-- The memory of the reference when a net and the packet were copied. -/
structure ROpened (h : Int) (vk : VK) (ps : List Pk) (mv : List AVal) (i : Nat) (hi : i < ps.length) (k : Nat) (σ1 σ3 : AMem) (ro rp : Nat) (l : List (Pk × Nat)) : Prop where
  call1 : callN lawProg k (.func 23 [] []) [.agg [.int .i64 h, .vs vk (ps.map pkV)]] (((AMem.empty.push (.row 2 true [.int .i64 h, .vs vk (ps.map pkV)])).push (.row 4 true mv)).push (.row 2 true [.int .i64 0, .vs .nil []])) = some (.agg [.int .i64 h, .slice ro 0 l.length none 3], σ1)
  call2 : callN lawProg k (.func 24 [] []) [.agg [.int .i64 ps[i].fr, .int .i64 ps[i].to, .vs ps[i].vk (bytesV ps[i].b)]] ((σ1.push (.row 2 true [.int .i64 0, .vs .nil []])).put σ1.next (.row 2 true [.int .i64 h, .slice ro 0 l.length none 3])) = some (.agg (pkM ps[i] rp), σ3)
  op : Opened h vk ps (.row 4 true mv) σ1 (.slice ro 0 l.length none 3) l
  ro1 : 3 ≤ ro
  ro2 : ro < σ1.next
  row : σ1.get ro = some (.row 3 true (l.map fun x => pkM x.1 x.2).flatten)
  nx : σ1.next + 1 ≤ σ3.next
  keep : ∀ s, s < σ1.next → σ3.get s = σ1.get s
  kq : σ3.get σ1.next = some (.row 2 true [.int .i64 h, .slice ro 0 l.length none 3])
  rp1 : σ1.next + 1 ≤ rp
  rp2 : rp < σ3.next
  rp3 : σ3.get rp = some (.row 1 false (bytesV ps[i].b))
theorem ropened_of (h : Int) (vk : VK) (ps : List Pk) (mv : List AVal) (i : Nat) (hi : i < ps.length) (hn : ps.length ≤ 1000) (hb : ∀ q, q ∈ ps → q.b.length ≤ 1000000) (hk : 3000 ≤ k) : ∃ σ1 σ3 ro rp l, ROpened h vk ps mv i hi k σ1 σ3 ro rp l := by
  obtain ⟨out, l, σ1, c1, c2, c3, c4⟩ := copyNet_callN (k := k) (σ := ((AMem.empty.push (.row 2 true [.int .i64 h, .vs vk (ps.map pkV)])).push (.row 4 true mv)).push (.row 2 true [.int .i64 0, .vs .nil []])) h vk ps hn hb (by omega)
  have op := opened_of c2 c3 c4
  obtain ⟨ro, r1, r2, rfl, r4⟩ := op.net.row (by have := op.len; omega)
  obtain ⟨rp, σ3, p1, p2, p3, p4, p5⟩ := copyPacket_callN (k := k) (σ := (σ1.push (.row 2 true [.int .i64 0, .vs .nil []])).put σ1.next (.row 2 true [.int .i64 h, .slice ro 0 l.length none 3])) ps[i] (hb _ (List.getElem_mem hi)) (by omega)
  refine ⟨σ1, σ3, ro, rp, l, c1, p1, op, r1, r2, r4, p2.1, fun s hs => ?_, ?_, p3, p4, p5⟩
  · rw [p2.2 s (by simp; omega), AMem.get_put, if_neg (by omega), AMem.get_push, if_neg (by omega)]
  · rw [p2.2 _ (by simp), AMem.get_put, if_pos rfl]

theorem rdo_lose (h : Int) (vk : VK) (ps : List Pk) (i : Nat) (kd : Int) (hkd : kd = 1 ∨ kd = 2) (hn : ps.length ≤ 1000) (hb : ∀ q, q ∈ ps → q.b.length ≤ 1000000) (h1 : NetOk h ps) (h2 : moveB ps ⟨kd, i, 0, 0⟩ = true) (hi : i < ps.length) (hk : 3000 ≤ k) :
    ∃ T1 σ1 y z seen seen2, execC lawProg (callN lawProg k) k 32 90 (bodyOf Tryz.f32) (initT 0 [.agg [.int .i64 h, .vs vk (ps.map pkV)], .agg [.int .u8 kd, .int .i64 (i : Nat), .int .i64 0, .int .i64 0]] .nil) AMem.empty = some (.ret, T1, σ1) ∧
      resultsA lawProg T1 σ1 Tryz.f32.results.toList = some [y, z, .int .i64 0] ∧ snapF false σ1 11 y = some (netV h .some ((ps.eraseIdx i).map cp), seen) ∧ snapF false σ1 11 z = some (doC ⟨kd, i, 0, 0⟩ ps[i], seen2) := by
  have hcn := fun (σ : AMem) => isNet_call (k := k) (σ := σ) h vk ps hn (by omega)
  simp only [decide_eq_true h1] at hcn
  have hmv := fun (σ : AMem) => risMove_call (k := k) (σ := σ) h vk ps ⟨kd, i, 0, 0⟩ hn hb (by simp only; omega) (by omega)
  simp only [h2] at hmv
  obtain ⟨σ1, σ3, ro, rp, l, ro_⟩ := ropened_of (k := k) h vk ps [.int .u8 kd, .int .i64 (i : Nat), .int .i64 0, .int .i64 0] i hi hn hb hk
  obtain ⟨c1, p1, ⟨o1, o2, o3, o4, g0, g1, g2⟩, r1, r2, r4, nx, keep, kq, rp1, rp2, rp3⟩ := ro_
  have hil : i < l.length := by omega
  have n0 : σ3.get 0 = some (.row 2 true [.int .i64 h, .vs vk (ps.map pkV)]) := by rw [keep 0 (by omega)]; exact g0
  have n1 : σ3.get 1 = some (.row 4 true [.int .u8 kd, .int .i64 (i : Nat), .int .i64 0, .int .i64 0]) := by rw [keep 1 (by omega)]; exact g1
  have n2 : σ3.get 2 = some (.row 2 true [.int .i64 0, .vs .nil []]) := by rw [keep 2 (by omega)]; exact g2
  let σ4 : AMem := (σ3.push (.row 3 true [.int .i64 0, .int .i64 0, .vs .nil []])).put σ3.next (.row 3 true (pkM ps[i] rp))
  have k4 : ∀ s, s < σ3.next → σ4.get s = σ3.get s := fun s hs => by simp only [σ4]; rw [AMem.get_put, if_neg (by omega), AMem.get_push, if_neg (by omega)]
  have kr : σ4.get ro = some (.row 3 true ((l.map fun x => pkM x.1 x.2).flatten ++ [])) := by rw [k4 ro (by omega), keep ro r2, List.append_nil]; exact r4
  obtain ⟨σ5, last, a1, a2, a3, a4, a5⟩ := append_down (σ := σ4) (e := tyPk) (r := ro) (i := i) (n := l.length - (i + 1)) (ls := l.map (fun x : Pk × Nat => pkM x.1 x.2)) (more := []) (pkM_three l) (by simpa using hil) (by simp) kr (pkM_one l) (by decide) (by decide) (by decide) (by simp only [tyPk, mostBytes, List.length_map]; omega)
  have s2 := slice_to (σ := σ4) (sz := 3) (r := ro) (off := 0) (n := l.length) (i := i) (z := 3) (k := .i64) (by omega)
  have s3 := slice_from (σ := σ4) (sz := 3) (r := ro) (off := 0) (n := l.length) (i := i + 1) (z := 3) (k := .i64) (by omega)
  have hw := i64_succ (i := i) (by omega)
  have m1 : σ5.get 1 = some (.row 4 true [.int .u8 kd, .int .i64 (i : Nat), .int .i64 0, .int .i64 0]) := by rw [a5 1 (by omega), k4 1 (by omega)]; exact n1
  have m2 : σ5.get 2 = some (.row 2 true [.int .i64 0, .vs .nil []]) := by rw [a5 2 (by omega), k4 2 (by omega)]; exact n2
  have mq : σ5.get σ1.next = some (.row 2 true [.int .i64 h, .slice ro 0 l.length none 3]) := by rw [a5 _ (by omega), k4 _ (by omega)]; exact kq
  have mp : σ5.get σ3.next = some (.row 3 true (pkM ps[i] rp)) := by rw [a5 _ (by omega)]; simp only [σ4]; rw [AMem.get_put, if_pos rfl]
  have hget := pk_get hi
  have hil3 : (i : Int) < (ps.length : Int) := by omega
  have q6 : ¬ σ1.next = 0 := by omega
  have q7 : ¬ σ1.next = 1 := by omega
  have q8 : ¬ σ1.next = 2 := by omega
  have q9 : ¬ 2 = σ1.next := by omega
  have t6 : ¬ σ3.next = 0 := by omega
  have t7 : ¬ σ3.next = 1 := by omega
  have t8 : ¬ σ3.next = 2 := by omega
  have t9 : ¬ σ3.next = σ1.next := by omega
  have t10 : ¬ σ1.next = σ3.next := by omega
  have t11 : ¬ 2 = σ3.next := by omega
  have u0 : ¬ σ5.next = 2 := by rw [a4]; simp only [σ4, AMem.next_put, AMem.next_push]; omega
  have u1 : ¬ σ5.next = σ1.next := by rw [a4]; simp only [σ4, AMem.next_put, AMem.next_push]; omega
  have u2 : ¬ σ5.next = σ3.next := by rw [a4]; simp only [σ4, AMem.next_put, AMem.next_push]; omega
  have u3 : ¬ 2 = σ5.next := fun e => u0 e.symm
  have u4 : ¬ σ1.next = σ5.next := fun e => u1 e.symm
  have hn5 : σ5.next = σ3.next + 1 := by rw [a4]; rfl
  simp only [tyPk, TyI.isAgg, List.length_map, σ4, pkM] at a1 s2 s3
  rw [Nat.zero_add] at s3
  simp only [pkM] at p1 mp
  have b4 : (kd == 3) = false := by simp; omega
  have b5 : (kd == 4) = false := by simp; omega
  have e : ∃ T1 σ6, execC lawProg (callN lawProg k) k 32 90 (bodyOf Tryz.f32) (initT 0 [.agg [.int .i64 h, .vs vk (ps.map pkV)], .agg [.int .u8 kd, .int .i64 (i : Nat), .int .i64 0, .int .i64 0]] .nil) AMem.empty = some (.ret, T1, σ6) ∧
      resultsA lawProg T1 σ6 Tryz.f32.results.toList = some [.agg [.int .i64 h, .slice ro 0 (l.length - 1) none 3], if kd = 2 then .vs .nil [] else .slice σ5.next 0 1 (some 1) 3, .int .i64 0] ∧ (kd = 1 → σ6.get σ5.next = some (.row 3 true (pkM ps[i] rp))) ∧ ∀ s, s < σ5.next → s ≠ 2 → s ≠ σ1.next → σ6.get s = σ5.get s := by
    rcases hkd with rfl | rfl
    · simp only [bodyOf, Tryz.f32, Option.getD_some, initT, q_seq, q_cond, q_block, q_region, q_drawn, q_skip, q_exit, q_ret, runOps, runD, again, step1, wantA, opSem, evalO, evalL, evalOpt, evalParts, putA, ofConst, ofScalar, ofScalars, abin, abinInt, aun, convA, builtinA, oneTy, elemTy, lenB_vs, lenB_sl, lenB_str, loadA, storeA, storeCellsA, setAt, partA, fillA, placesA, isFn, TyI.isAgg, isSeq, isNum, sliceA, boundA, cells_bool, one_bool, cells_int, one_int, cells_str, one_str, cells_ptr, one_ptr, cells_nilptr, one_nilptr, cells_slice, one_slice, cells_vs, one_vs, cells_vptr, one_vptr, cells_func, one_func, cells_yield, one_yield, cells_nilfn, one_nilfn, cells_nilmap, one_nilmap, cells_map, one_map, cells_agg, setParams, Tr.get_set, AMem.get_put, AMem.get_push, AMem.next_put, AMem.next_push, AMem.get_empty, next_empty, Option.map_some, Option.map_none, Option.bind_some, reduceIte, Nat.reduceLT, Nat.reduceLeDiff, Nat.reduceEqDiff, Nat.reduceAdd, Nat.reduceMul, Nat.reduceSub, Nat.reduceBEq, Nat.zero_add, Nat.add_zero, Nat.mul_one, Nat.one_mul, Nat.zero_mul, and_self, and_true, true_and, false_and, and_false, Bool.and_true, Bool.true_and, Bool.and_false, Bool.false_and, if_true, if_false, Int.reduceEq, Int.reduceLT, Int.reduceLE, Int.reduceToNat, Bool.false_eq_true, Bool.not_true, Bool.not_false, BEq.rfl, beq_true_true, beq_true_false, beq_false_true, beq_false_false, List.length_cons, List.length_nil, List.all_cons, List.all_nil, List.getElem?_cons_zero, List.getElem?_cons_succ, List.getElem?_nil, List.getElem?_toArray, List.take_succ_cons, List.take_zero, List.drop_succ_cons, List.drop_zero, List.set_cons_zero, List.set_cons_succ, List.append_nil, List.nil_append, List.cons_append, decide_true, decide_false, decide_eq_true_eq, Option.isNone_none, Option.isNone_some, Option.isSome_none, Option.isSome_some, Bool.or_true, Bool.true_or, Bool.or_false, Bool.false_or, ne_eq, not_false_eq_true, not_true_eq_false, reduceCtorEq, eq_self, beq_refl, minL, minF, maxL, maxF, repZ, vp32_23, vp32_24, vp32_28, vp32_70, ty3, ty4, ty5, ty22, ty40, ty42, ty44, ty58, ord32_14, ord32_16, ord32_19, Nat.add_assoc, Nat.add_eq_left, Nat.left_eq_add, Nat.add_left_cancel_iff, List.length_map, hcn, hmv, bne_self_eq_false, c1, g0, g1, g2, n0, n1, n2, kq, hget, hil3, Int.natCast_nonneg, Int.toNat_natCast, p1, s2, s3, a1, m1, m2, mq, mp, q6, q7, q8, q9, t6, t7, t8, t9, t10, t11, u0, u1, u2, u3, u4, hw, show ((1 : Int) == 1) = true from rfl, show ((1 : Int) == 2) = false from rfl, show ((1 : Int) == 3) = false from rfl, show ((1 : Int) == 4) = false from rfl]
      refine ⟨_, _, rfl, by simp only [Tryz.f32, resultsA, resultA, q_seq, q_cond, q_block, q_region, q_drawn, q_skip, q_exit, q_ret, runOps, runD, again, step1, wantA, opSem, evalO, evalL, evalOpt, evalParts, putA, ofConst, ofScalar, ofScalars, abin, abinInt, aun, convA, builtinA, oneTy, elemTy, lenB_vs, lenB_sl, lenB_str, loadA, storeA, storeCellsA, setAt, partA, fillA, placesA, isFn, TyI.isAgg, isSeq, isNum, sliceA, boundA, cells_bool, one_bool, cells_int, one_int, cells_str, one_str, cells_ptr, one_ptr, cells_nilptr, one_nilptr, cells_slice, one_slice, cells_vs, one_vs, cells_vptr, one_vptr, cells_func, one_func, cells_yield, one_yield, cells_nilfn, one_nilfn, cells_nilmap, one_nilmap, cells_map, one_map, cells_agg, setParams, Tr.get_set, AMem.get_put, AMem.get_push, AMem.next_put, AMem.next_push, AMem.get_empty, next_empty, Option.map_some, Option.map_none, Option.bind_some, reduceIte, Nat.reduceLT, Nat.reduceLeDiff, Nat.reduceEqDiff, Nat.reduceAdd, Nat.reduceMul, Nat.reduceSub, Nat.reduceBEq, Nat.zero_add, Nat.add_zero, Nat.mul_one, Nat.one_mul, Nat.zero_mul, and_self, and_true, true_and, false_and, and_false, Bool.and_true, Bool.true_and, Bool.and_false, Bool.false_and, if_true, if_false, Int.reduceEq, Int.reduceLT, Int.reduceLE, Int.reduceToNat, Bool.false_eq_true, Bool.not_true, Bool.not_false, BEq.rfl, beq_true_true, beq_true_false, beq_false_true, beq_false_false, List.length_cons, List.length_nil, List.all_cons, List.all_nil, List.getElem?_cons_zero, List.getElem?_cons_succ, List.getElem?_nil, List.getElem?_toArray, List.take_succ_cons, List.take_zero, List.drop_succ_cons, List.drop_zero, List.set_cons_zero, List.set_cons_succ, List.append_nil, List.nil_append, List.cons_append, decide_true, decide_false, decide_eq_true_eq, Option.isNone_none, Option.isNone_some, Option.isSome_none, Option.isSome_some, Bool.or_true, Bool.true_or, Bool.or_false, Bool.false_or, ne_eq, not_false_eq_true, not_true_eq_false, reduceCtorEq, eq_self, beq_refl, minL, minF, maxL, maxF, repZ, vp32_23, vp32_24, vp32_28, vp32_70, ty3, ty4, ty5, ty22, ty40, ty42, ty44, ty58, ord32_14, ord32_16, ord32_19], fun _ => ?_, fun s h0 h1 h2 => ?_⟩
      · simp only [AMem.get_put, AMem.get_push, AMem.next_put, AMem.next_push, u0, u1, u3, u4, reduceIte, pkM]
      · simp only [AMem.get_put, AMem.get_push, AMem.next_put, AMem.next_push, show ¬ 2 = s from Ne.symm h1, show ¬ σ1.next = s from Ne.symm h2, show ¬ σ5.next = s from by omega, if_false]
    · simp only [bodyOf, Tryz.f32, Option.getD_some, initT, q_seq, q_cond, q_block, q_region, q_drawn, q_skip, q_exit, q_ret, runOps, runD, again, step1, wantA, opSem, evalO, evalL, evalOpt, evalParts, putA, ofConst, ofScalar, ofScalars, abin, abinInt, aun, convA, builtinA, oneTy, elemTy, lenB_vs, lenB_sl, lenB_str, loadA, storeA, storeCellsA, setAt, partA, fillA, placesA, isFn, TyI.isAgg, isSeq, isNum, sliceA, boundA, cells_bool, one_bool, cells_int, one_int, cells_str, one_str, cells_ptr, one_ptr, cells_nilptr, one_nilptr, cells_slice, one_slice, cells_vs, one_vs, cells_vptr, one_vptr, cells_func, one_func, cells_yield, one_yield, cells_nilfn, one_nilfn, cells_nilmap, one_nilmap, cells_map, one_map, cells_agg, setParams, Tr.get_set, AMem.get_put, AMem.get_push, AMem.next_put, AMem.next_push, AMem.get_empty, next_empty, Option.map_some, Option.map_none, Option.bind_some, reduceIte, Nat.reduceLT, Nat.reduceLeDiff, Nat.reduceEqDiff, Nat.reduceAdd, Nat.reduceMul, Nat.reduceSub, Nat.reduceBEq, Nat.zero_add, Nat.add_zero, Nat.mul_one, Nat.one_mul, Nat.zero_mul, and_self, and_true, true_and, false_and, and_false, Bool.and_true, Bool.true_and, Bool.and_false, Bool.false_and, if_true, if_false, Int.reduceEq, Int.reduceLT, Int.reduceLE, Int.reduceToNat, Bool.false_eq_true, Bool.not_true, Bool.not_false, BEq.rfl, beq_true_true, beq_true_false, beq_false_true, beq_false_false, List.length_cons, List.length_nil, List.all_cons, List.all_nil, List.getElem?_cons_zero, List.getElem?_cons_succ, List.getElem?_nil, List.getElem?_toArray, List.take_succ_cons, List.take_zero, List.drop_succ_cons, List.drop_zero, List.set_cons_zero, List.set_cons_succ, List.append_nil, List.nil_append, List.cons_append, decide_true, decide_false, decide_eq_true_eq, Option.isNone_none, Option.isNone_some, Option.isSome_none, Option.isSome_some, Bool.or_true, Bool.true_or, Bool.or_false, Bool.false_or, ne_eq, not_false_eq_true, not_true_eq_false, reduceCtorEq, eq_self, beq_refl, minL, minF, maxL, maxF, repZ, vp32_23, vp32_24, vp32_28, vp32_70, ty3, ty4, ty5, ty22, ty40, ty42, ty44, ty58, ord32_14, ord32_16, ord32_19, Nat.add_assoc, Nat.add_eq_left, Nat.left_eq_add, Nat.add_left_cancel_iff, List.length_map, hcn, hmv, bne_self_eq_false, c1, g0, g1, g2, n0, n1, n2, kq, hget, hil3, Int.natCast_nonneg, Int.toNat_natCast, p1, s2, s3, a1, m1, m2, mq, mp, q6, q7, q8, q9, t6, t7, t8, t9, t10, t11, u0, u1, u2, u3, u4, hw, show ((2 : Int) == 1) = false from rfl, show ((2 : Int) == 2) = true from rfl, show ((2 : Int) == 3) = false from rfl, show ((2 : Int) == 4) = false from rfl]
      refine ⟨_, _, rfl, by simp only [Tryz.f32, resultsA, resultA, q_seq, q_cond, q_block, q_region, q_drawn, q_skip, q_exit, q_ret, runOps, runD, again, step1, wantA, opSem, evalO, evalL, evalOpt, evalParts, putA, ofConst, ofScalar, ofScalars, abin, abinInt, aun, convA, builtinA, oneTy, elemTy, lenB_vs, lenB_sl, lenB_str, loadA, storeA, storeCellsA, setAt, partA, fillA, placesA, isFn, TyI.isAgg, isSeq, isNum, sliceA, boundA, cells_bool, one_bool, cells_int, one_int, cells_str, one_str, cells_ptr, one_ptr, cells_nilptr, one_nilptr, cells_slice, one_slice, cells_vs, one_vs, cells_vptr, one_vptr, cells_func, one_func, cells_yield, one_yield, cells_nilfn, one_nilfn, cells_nilmap, one_nilmap, cells_map, one_map, cells_agg, setParams, Tr.get_set, AMem.get_put, AMem.get_push, AMem.next_put, AMem.next_push, AMem.get_empty, next_empty, Option.map_some, Option.map_none, Option.bind_some, reduceIte, Nat.reduceLT, Nat.reduceLeDiff, Nat.reduceEqDiff, Nat.reduceAdd, Nat.reduceMul, Nat.reduceSub, Nat.reduceBEq, Nat.zero_add, Nat.add_zero, Nat.mul_one, Nat.one_mul, Nat.zero_mul, and_self, and_true, true_and, false_and, and_false, Bool.and_true, Bool.true_and, Bool.and_false, Bool.false_and, if_true, if_false, Int.reduceEq, Int.reduceLT, Int.reduceLE, Int.reduceToNat, Bool.false_eq_true, Bool.not_true, Bool.not_false, BEq.rfl, beq_true_true, beq_true_false, beq_false_true, beq_false_false, List.length_cons, List.length_nil, List.all_cons, List.all_nil, List.getElem?_cons_zero, List.getElem?_cons_succ, List.getElem?_nil, List.getElem?_toArray, List.take_succ_cons, List.take_zero, List.drop_succ_cons, List.drop_zero, List.set_cons_zero, List.set_cons_succ, List.append_nil, List.nil_append, List.cons_append, decide_true, decide_false, decide_eq_true_eq, Option.isNone_none, Option.isNone_some, Option.isSome_none, Option.isSome_some, Bool.or_true, Bool.true_or, Bool.or_false, Bool.false_or, ne_eq, not_false_eq_true, not_true_eq_false, reduceCtorEq, eq_self, beq_refl, minL, minF, maxL, maxF, repZ, vp32_23, vp32_24, vp32_28, vp32_70, ty3, ty4, ty5, ty22, ty40, ty42, ty44, ty58, ord32_14, ord32_16, ord32_19], fun h => absurd h (by decide), fun s h0 h1 h2 => ?_⟩
      simp only [AMem.get_put, show ¬ 2 = s from Ne.symm h1, show ¬ σ1.next = s from Ne.symm h2, if_false]
  obtain ⟨T1, σ6, e1, e2, e3, e5⟩ := e
  have same : ∀ s, 3 ≤ s → s < σ1.next → s ≠ ro → σ6.get s = σ1.get s := fun s a b c => by
    rw [e5 s (by omega) (by omega) (by omega), a5 s c, k4 s (by omega), keep s b]
  have a3' : σ6.get ro = some (.row 3 true (((l.map fun x => pkM x.1 x.2).eraseIdx i).flatten ++ last)) := by
    rw [e5 ro (by omega) (by omega) (by omega), a3, List.append_nil]; rfl
  have hsd : ∃ seen, snapF false σ6 10 (.slice ro 0 (l.length - 1) none 3) = some (.vs .some (((l.map (·.1)).eraseIdx i).map fun p => pkV (cp p)), seen) := snap_deleted2 (σ' := σ6) (d := 7) o1 hil a3' (fun x hx => by
    have := o1.2.2.2 x hx
    exact same _ this.1 this.2.1 (fun e => this.2.2.2 l.length none 3 (by rw [e])))
  obtain ⟨seen, hs⟩ := hsd
  rw [o3] at hs
  rcases hkd with rfl | rfl
  · have hrp : σ6.get rp = some (.row 1 false (bytesV ps[i].b)) := by rw [e5 rp (by omega) (by omega) (by omega), a5 rp (by omega), k4 rp rp2]; exact rp3
    have hsn := netMem_snapL (low := 0) (σ := σ6) 8 [(ps[i], rp)] (by intro x hx; simp only [List.mem_singleton] at hx; subst hx; exact hrp)
    have h3 : ∀ c, c ∈ [pkM ps[i] rp] → c.length = 3 := fun c hc => by simp only [List.mem_singleton] at hc; subst hc; rfl
    have h4 : ∀ c, c ∈ [pkC (cp ps[i])] → c.length = 3 := fun c hc => by simp only [List.mem_singleton] at hc; subst hc; rfl
    have hs2 := snap_structs_more (σ := σ6) (fr := false) (d := 9) (r := σ5.next) (n := 1) (cap := some 1) (ls := [pkM ps[i] rp]) (ps := [pkC (cp ps[i])]) (more := []) (S := [rp]) (by decide) rfl rfl h3 h4 (by rw [e3 rfl]; simp) (by simpa using hsn)
    exact ⟨T1, σ6, _, _, _, _, e1, e2, (agg_two (d := 9) hs).trans (by rw [netV_two]), hs2⟩
  · exact ⟨T1, σ6, _, _, _, [], e1, e2, (agg_two (d := 9) hs).trans (by rw [netV_two]), rfl⟩
end Go.Proofs.YtikhidpcaefjiaaGreatDoor
