/- pack.Do: what it gives. -/
import Derived.Test.YtikhidpcaefjiaaGreatDoorD3
set_option maxRecDepth 100000
set_option linter.unusedSimpArgs false
set_option linter.unusedVariables false
namespace Go.Proofs.YtikhidpcaefjiaaGreatDoor
open Go Go.Proofs.YtikhidpcaefjiaaGreatDoor.Pale
variable {k : Nat} {σ : AMem}

/-- The memory when a net was copied for a change. -/
structure Opened (h : Int) (vk : VK) (ps : List Pk) (mrow : AObj) (σ1 : AMem) (out : AVal) (l : List (Pk × Nat)) : Prop where
  net : NetMem 3 σ1 out l
  len : l.length = ps.length
  fst : l.map (·.1) = ps
  nx : 3 ≤ σ1.next
  g0 : σ1.get 0 = some (.row 2 true [.int .i64 h, .vs vk (ps.map pkV)])
  g1 : σ1.get 1 = some mrow
  g2 : σ1.get 2 = some (.row 2 true [.int .i64 0, .vs .nil []])
theorem opened_of {h : Int} {vk : VK} {ps : List Pk} {mrow : AObj} {σ1 : AMem} {out : AVal} {l : List (Pk × Nat)} (hx : Ext (((AMem.empty.push (.row 2 true [.int .i64 h, .vs vk (ps.map pkV)])).push mrow).push (.row 2 true [.int .i64 0, .vs .nil []])) σ1) (hm : NetMem 3 σ1 out l) (hl : l.map (·.1) = ps) : Opened h vk ps mrow σ1 out l := by
  have hn : 3 ≤ σ1.next := hx.1
  refine ⟨hm, by rw [← hl, List.length_map], hl, hn, ?_, ?_, ?_⟩
  · rw [hx.2 0 (by simp [next_empty])]; rfl
  · rw [hx.2 1 (by simp [next_empty])]; simp only [AMem.get_push, AMem.next_push, next_empty, Nat.reduceAdd, Nat.reduceEqDiff, reduceIte]
  · rw [hx.2 2 (by simp [next_empty])]; simp only [AMem.get_push, AMem.next_push, next_empty, Nat.reduceAdd, Nat.reduceEqDiff, reduceIte]
theorem netV_two (h : Int) (L : List Pk) : netV h .some (L.map cp) = .agg [.int .i64 h, .vs .some (L.map fun p => pkV (cp p))] := by
  rw [netV, List.map_map]; rfl
theorem agg_two {σ : AMem} {d : Nat} {h : Int} {y w : AVal} {s2 : List Nat} (h2 : snapF false σ (d + 1) y = some (w, s2)) : snapF false σ (d + 2) (.agg [.int .i64 h, y]) = some (.agg [.int .i64 h, w], s2 ++ []) := by
  show (snapL (snapF false σ (d + 1)) [.int .i64 h, y]).map (fun (l, a) => (AVal.agg l, a)) = _
  simp only [snapL, snap_int, h2, Option.map_some]
  rfl

/-- One byte of a packet in memory is another one: what the program's memory is then. -/
theorem do_spoil (h : Int) (vk : VK) (ps : List Pk) (i a : Nat) (x : Int) (hn : ps.length ≤ 1000) (hv : ∀ q, q ∈ ps → q.vk = .some) (hb : ∀ q, q ∈ ps → q.b.length ≤ 1000000) (h1 : NetOk h ps) (h2 : moveB ps ⟨4, i, a, x⟩ = true) (hi : i < ps.length) (ha : a < ps[i].b.length) (hk : 3000 ≤ k) :
    ∃ T1 σ1 y seen, execC lawProg (callN lawProg k) k 31 95 (bodyOf Tryz.f31) (initT 0 [.agg [.int .i64 h, .vs vk (ps.map pkV)], .agg [.int .u8 4, .int .i64 (i : Nat), .int .i64 (a : Nat), .int .i64 x]] .nil) AMem.empty = some (.ret, T1, σ1) ∧
      resultsA lawProg T1 σ1 Tryz.f31.results.toList = some [y, .vs .nil [], .int .i64 0] ∧ snapF false σ1 11 y = some (netV h .some ((ps.set i { ps[i] with b := ps[i].b.set a (xr ((ps[i].b[a] : Nat) : Int) x) }).map cp), seen) := by
  have hcn := fun (σ : AMem) => checkNet_call (k := k) (σ := σ) h vk ps hn (by omega)
  rw [if_pos h1] at hcn
  have hmv := fun (σ : AMem) => isMove_call (k := k) (σ := σ) h vk ps ⟨4, i, a, x⟩ hn hb (by omega)
  simp only [h2] at hmv
  obtain ⟨out, l, σ1, c1, c2, c3, c4⟩ := pnet_callN (k := k) (σ := ((AMem.empty.push (.row 2 true [.int .i64 h, .vs vk (ps.map pkV)])).push (.row 4 true [.int .u8 4, .int .i64 (i : Nat), .int .i64 (a : Nat), .int .i64 x])).push (.row 2 true [.int .i64 0, .vs .nil []])) h vk ps hn hv hb (by omega)
  obtain ⟨o1, o2, o3, o4, g0, g1, g2⟩ := opened_of c2 c3 c4
  have hil : i < l.length := by omega
  obtain ⟨ro, r1, r2, rfl, r4⟩ := o1.row (by omega)
  have hli : l[i].1 = ps[i] := by simp only [← c4, List.getElem_map]
  obtain ⟨b1, b2, b3, b4⟩ := o1.2.2.2 _ (List.getElem_mem hil)
  have hcell : (l.map fun x => pkM x.1 x.2).flatten[i * 3 + 2]? = some (.slice l[i].2 0 ps[i].b.length (capOf ps[i].b) 1) := by
    have := flat_get (sz := 3) (j := 2) (more := []) (pkM_three l) (by simpa using hil) (by omega)
    rw [List.append_nil] at this
    rw [this, List.getElem_map, hli]
    rfl
  rw [hli] at b3
  have hrr : ¬ ro = l[i].2 := fun e => b4 l.length none 3 (by rw [e])
  have q0 : ¬ l[i].2 = 0 := by omega
  have q1 : ¬ l[i].2 = 1 := by omega
  have q2 : ¬ l[i].2 = 2 := by omega
  have q3 : ¬ σ1.next = l[i].2 := by omega
  have q4 : ¬ l[i].2 = σ1.next := by omega
  have q5 : ¬ σ1.next = ro := by omega
  have q6 : ¬ σ1.next = 0 := by omega
  have q7 : ¬ σ1.next = 1 := by omega
  have q8 : ¬ σ1.next = 2 := by omega
  have q9 : ¬ 2 = σ1.next := by omega
  have hil2 : (i : Int) < (l.length : Int) := by omega
  have hil3 : (i : Int) < (ps.length : Int) := by omega
  have hal : (a : Int) < (ps[i].b.length : Int) := by omega
  have hxr : IntKind.u8.wrap ((BitVec.ofInt IntKind.u8.bits ((ps[i].b[a] : Nat) : Int) ^^^ BitVec.ofInt IntKind.u8.bits (IntKind.u8.wrap x)).toNat : Int) = ((xr ((ps[i].b[a] : Nat) : Int) x : Nat) : Int) := u8_nat _
  have hst : (bytesV ps[i].b).set a (.int .u8 ((xr ((ps[i].b[a] : Nat) : Int) x : Nat) : Int)) = bytesV (ps[i].b.set a (xr ((ps[i].b[a] : Nat) : Int) x)) := by simp only [bytesV, List.map_set]
  have hal2 : a + 1 ≤ ps[i].b.length := by omega
  have e : ∃ T1 σ5, execC lawProg (callN lawProg k) k 31 95 (bodyOf Tryz.f31) (initT 0 [.agg [.int .i64 h, .vs vk (ps.map pkV)], .agg [.int .u8 4, .int .i64 (i : Nat), .int .i64 (a : Nat), .int .i64 x]] .nil) AMem.empty = some (.ret, T1, σ5) ∧
      resultsA lawProg T1 σ5 Tryz.f31.results.toList = some [.agg [.int .i64 h, .slice ro 0 l.length none 3], .vs .nil [], .int .i64 0] ∧ σ5.next = σ1.next + 1 ∧ σ5.get l[i].2 = some (.row 1 false (bytesV (ps[i].b.set a (xr ((ps[i].b[a] : Nat) : Int) x)))) ∧ ∀ s, s ≠ 2 → s ≠ l[i].2 → s ≠ σ1.next → σ5.get s = σ1.get s := by
    simp only [bodyOf, Tryz.f31, Option.getD_some, initT, q_seq, q_cond, q_block, q_region, q_drawn, q_skip, q_exit, q_ret, runOps, runD, again, step1, wantA, opSem, evalO, evalL, evalOpt, evalParts, putA, ofConst, ofScalar, ofScalars, abin, abinInt, aun, convA, builtinA, oneTy, elemTy, lenB_vs, lenB_sl, lenB_str, loadA, storeA, storeCellsA, setAt, partA, fillA, placesA, isFn, TyI.isAgg, isSeq, isNum, sliceA, boundA, cells_bool, one_bool, cells_int, one_int, cells_str, one_str, cells_ptr, one_ptr, cells_nilptr, one_nilptr, cells_slice, one_slice, cells_vs, one_vs, cells_vptr, one_vptr, cells_func, one_func, cells_yield, one_yield, cells_nilfn, one_nilfn, cells_nilmap, one_nilmap, cells_map, one_map, cells_agg, setParams, Tr.get_set, AMem.get_put, AMem.get_push, AMem.next_put, AMem.next_push, AMem.get_empty, next_empty, Option.map_some, Option.map_none, Option.bind_some, reduceIte, Nat.reduceLT, Nat.reduceLeDiff, Nat.reduceEqDiff, Nat.reduceAdd, Nat.reduceMul, Nat.reduceSub, Nat.reduceBEq, Nat.zero_add, Nat.add_zero, Nat.mul_one, Nat.one_mul, Nat.zero_mul, and_self, and_true, true_and, false_and, and_false, Bool.and_true, Bool.true_and, Bool.and_false, Bool.false_and, if_true, if_false, Int.reduceEq, Int.reduceLT, Int.reduceLE, Int.reduceToNat, Bool.false_eq_true, Bool.not_true, Bool.not_false, BEq.rfl, beq_true_true, beq_true_false, beq_false_true, beq_false_false, List.length_cons, List.length_nil, List.all_cons, List.all_nil, List.getElem?_cons_zero, List.getElem?_cons_succ, List.getElem?_nil, List.getElem?_toArray, List.take_succ_cons, List.take_zero, List.drop_succ_cons, List.drop_zero, List.set_cons_zero, List.set_cons_succ, List.append_nil, List.nil_append, List.cons_append, decide_true, decide_false, decide_eq_true_eq, Option.isNone_none, Option.isNone_some, Option.isSome_none, Option.isSome_some, Bool.or_true, Bool.true_or, Bool.or_false, Bool.false_or, ne_eq, not_false_eq_true, not_true_eq_false, reduceCtorEq, eq_self, beq_refl, minL, minF, maxL, maxF, repZ, vp31_29, vp31_63, vp31_64, vp31_68, vp31_69, ty3, ty4, ty5, ty22, ty25, ty40, ty42, ty44, ty58, ord31_15, ord31_16, Nat.add_assoc, Nat.add_eq_left, Nat.left_eq_add, Nat.add_left_cancel_iff, List.length_map, hcn, hmv, bne_self_eq_false, c1, g0, g1, g2, r4, b3, hcell, hrr, q0, q1, q2, q3, q4, q5, q6, q7, q8, q9, hil2, hil3, hal, hal2, Int.natCast_nonneg, Int.toNat_natCast, bytesV_length, bytesV_get ha, hxr, hst, show ((4 : Int) == 1) = false from rfl, show ((4 : Int) == 2) = false from rfl, show ((4 : Int) == 3) = false from rfl, show ((4 : Int) == 4) = true from rfl]
    refine ⟨_, _, rfl, by simp only [Tryz.f31, resultsA, resultA, q_seq, q_cond, q_block, q_region, q_drawn, q_skip, q_exit, q_ret, runOps, runD, again, step1, wantA, opSem, evalO, evalL, evalOpt, evalParts, putA, ofConst, ofScalar, ofScalars, abin, abinInt, aun, convA, builtinA, oneTy, elemTy, lenB_vs, lenB_sl, lenB_str, loadA, storeA, storeCellsA, setAt, partA, fillA, placesA, isFn, TyI.isAgg, isSeq, isNum, sliceA, boundA, cells_bool, one_bool, cells_int, one_int, cells_str, one_str, cells_ptr, one_ptr, cells_nilptr, one_nilptr, cells_slice, one_slice, cells_vs, one_vs, cells_vptr, one_vptr, cells_func, one_func, cells_yield, one_yield, cells_nilfn, one_nilfn, cells_nilmap, one_nilmap, cells_map, one_map, cells_agg, setParams, Tr.get_set, AMem.get_put, AMem.get_push, AMem.next_put, AMem.next_push, AMem.get_empty, next_empty, Option.map_some, Option.map_none, Option.bind_some, reduceIte, Nat.reduceLT, Nat.reduceLeDiff, Nat.reduceEqDiff, Nat.reduceAdd, Nat.reduceMul, Nat.reduceSub, Nat.reduceBEq, Nat.zero_add, Nat.add_zero, Nat.mul_one, Nat.one_mul, Nat.zero_mul, and_self, and_true, true_and, false_and, and_false, Bool.and_true, Bool.true_and, Bool.and_false, Bool.false_and, if_true, if_false, Int.reduceEq, Int.reduceLT, Int.reduceLE, Int.reduceToNat, Bool.false_eq_true, Bool.not_true, Bool.not_false, BEq.rfl, beq_true_true, beq_true_false, beq_false_true, beq_false_false, List.length_cons, List.length_nil, List.all_cons, List.all_nil, List.getElem?_cons_zero, List.getElem?_cons_succ, List.getElem?_nil, List.getElem?_toArray, List.take_succ_cons, List.take_zero, List.drop_succ_cons, List.drop_zero, List.set_cons_zero, List.set_cons_succ, List.append_nil, List.nil_append, List.cons_append, decide_true, decide_false, decide_eq_true_eq, Option.isNone_none, Option.isNone_some, Option.isSome_none, Option.isSome_some, Bool.or_true, Bool.true_or, Bool.or_false, Bool.false_or, ne_eq, not_false_eq_true, not_true_eq_false, reduceCtorEq, eq_self, beq_refl, minL, minF, maxL, maxF, repZ, vp31_29, vp31_63, vp31_64, vp31_68, vp31_69, ty3, ty4, ty5, ty22, ty25, ty40, ty42, ty44, ty58, ord31_15, ord31_16], rfl, ?_, fun s h1 h2 h3 => ?_⟩
    · rw [AMem.get_put, if_neg (Ne.symm q2), AMem.get_put, if_pos rfl]
    · rw [AMem.get_put, if_neg (Ne.symm h1), AMem.get_put, if_neg (Ne.symm h2), AMem.get_put, if_neg (Ne.symm h3), AMem.get_push, if_neg (Ne.symm h3)]
  obtain ⟨T1, σ5, e1, e2, e3, e4, e5⟩ := e
  have hm := o1.spoil (a := a) (v := xr ((ps[i].b[a] : Nat) : Int) x) hil
  rw [hli] at hm
  have hm5 := hm.only (σ' := σ5) (by rw [e3]; simp) (fun q n c z hq => by
    simp only [AVal.slice.injEq] at hq
    rw [AMem.get_put, if_neg (by omega)]
    exact e5 q (by omega) (by omega) (by omega)) (fun y hy => by
    by_cases hq : y.2 = l[i].2
    · rw [hq, e4, AMem.get_put, if_pos rfl]
    · have hmem : ∃ z, z ∈ l ∧ z.2 = y.2 := by
        rcases List.mem_or_eq_of_mem_set hy with hy | rfl
        · exact ⟨y, hy, rfl⟩
        · exact absurd rfl hq
      obtain ⟨z, hz, hz2⟩ := hmem
      have := o1.2.2.2 z hz
      rw [AMem.get_put, if_neg (Ne.symm hq)]
      exact e5 _ (by omega) hq (by omega))
  have hfst : (l.set i ({ ps[i] with b := ps[i].b.set a (xr ((ps[i].b[a] : Nat) : Int) x) }, l[i].2)).map (·.1) = ps.set i { ps[i] with b := ps[i].b.set a (xr ((ps[i].b[a] : Nat) : Int) x) } := by
    rw [List.map_set, c4]
  obtain ⟨seen, hs⟩ := snap_net (ps := ps.set i { ps[i] with b := ps[i].b.set a (xr ((ps[i].b[a] : Nat) : Int) x) }) 7 h hm5 hfst
  refine ⟨T1, σ5, _, seen, e1, e2, hs.trans ?_⟩
  rw [netV_two, show lkOf (ps.set i { ps[i] with b := ps[i].b.set a (xr ((ps[i].b[a] : Nat) : Int) x) }).length = .some by unfold lkOf; rw [if_neg (by rw [List.length_set]; omega)]]
end Go.Proofs.YtikhidpcaefjiaaGreatDoor
