/- The law PackDoes on the abstract machine: true for every net and move. -/
import Derived.Test.YtikhidpcaefjiaaGreatDoorD8
import Derived.Test.YtikhidpcaefjiaaGreatDoorC8
import Derived.Test.YtikhidpcaefjiaaGreatDoorC9
set_option maxRecDepth 100000
set_option linter.unusedSimpArgs false
set_option linter.unusedVariables false
namespace Go.Proofs.YtikhidpcaefjiaaGreatDoor
open Go Go.Proofs.YtikhidpcaefjiaaGreatDoor.Pale
variable {k : Nat} {σ : AMem}

theorem moveB_cp (ps : List Pk) (m : Mv) : moveB (ps.map cp) m = moveB ps m := by
  unfold moveB
  simp only [List.length_map, List.getElem?_map]
  cases ps[m.n.toNat]? <;> rfl
theorem doE_cp (h : Int) (ps : List Pk) (m : Mv) : doE h (ps.map cp) m = doE h ps m := by
  unfold doE
  simp only [netOk_cp, moveB_cp, List.length_map]
theorem eraseIdx_map' {α β : Type} (f : α → β) (l : List α) (i : Nat) : (l.map f).eraseIdx i = (l.eraseIdx i).map f := by
  rw [List.eraseIdx_eq_take_drop_succ, List.eraseIdx_eq_take_drop_succ, List.map_append, List.map_take, List.map_drop]
theorem doL_cp (ps : List Pk) (m : Mv) (p : Pk) : (doL (ps.map cp) m (cp p)).map cp = (doL ps m p).map cp := by
  have hc : ∀ l : List Pk, (l.map cp).map cp = l.map cp := fun l => by rw [List.map_map]; rfl
  unfold doL
  split
  · simp only [List.map_append, hc]; rfl
  · split
    · rw [List.map_set, List.map_set, hc]; rfl
    · rw [eraseIdx_map', hc]
theorem doV_cp (h : Int) (ps : List Pk) (m : Mv) : doV h (ps.map cp) m = doV h ps m := by
  unfold doV
  rw [doE_cp, List.getElem?_map]
  cases ps[m.n.toNat]? with
  | none => rfl
  | some p => simp only [Option.map_some, doL_cp]; rfl
theorem doL_length (ps : List Pk) (m : Mv) (p : Pk) : (doL ps m p).length ≤ ps.length + 1 := by
  unfold doL
  split
  · simp
  · split
    · simp
    · rw [List.length_eraseIdx]; split <;> omega
theorem doV_form (h : Int) (ps : List Pk) (m : Mv) (hn : ps.length ≤ 900) : ∃ (H : Int) (K K2 : VK) (L L2 : List Pk), doV h ps m = (.agg [.int .i64 H, .vs K (L.map pkV)], .vs K2 (L2.map pkV)) ∧ L.length ≤ 1000 ∧ L2.length ≤ 1000 := by
  have bad : ∃ (H : Int) (K K2 : VK) (L L2 : List Pk), (netV 0 .nil [], AVal.vs .nil []) = (AVal.agg [.int .i64 H, .vs K (L.map pkV)], .vs K2 (L2.map pkV)) ∧ L.length ≤ 1000 ∧ L2.length ≤ 1000 := ⟨0, .nil, .nil, [], [], rfl, by simp, by simp⟩
  unfold doV
  split
  · cases ps[m.n.toNat]? with
    | none => exact bad
    | some p =>
      have := doL_length ps m p
      unfold doC
      by_cases hk : m.kd = 1
      · exact ⟨h, .some, .some, (doL ps m p).map cp, [cp p], by simp only [if_pos hk]; rfl, by simp; omega, by simp⟩
      · exact ⟨h, .some, .nil, (doL ps m p).map cp, [], by simp only [if_neg hk]; rfl, by simp; omega, by simp⟩
  · exact bad

theorem does_run (h : Int) (vk : VK) (ps : List Pk) (m : Mv) (hm8 : 0 ≤ m.kd ∧ m.kd ≤ 255) (hk : 4000 ≤ k) : ∃ σ', callN lawProg (k + 1) (.func 6 [] []) [.agg [.int .i64 h, .vs vk (ps.map pkV)], .agg [.int .u8 m.kd, .int .i64 m.n, .int .i64 m.at_, .int .i64 m.x]] AMem.empty = some (.bool true, σ') := by
  have run : ∃ T1 σ1, execC lawProg (callN lawProg k) k 6 46 (bodyOf Tryz.f6) (initT 0 [.agg [.int .i64 h, .vs vk (ps.map pkV)], .agg [.int .u8 m.kd, .int .i64 m.n, .int .i64 m.at_, .int .i64 m.x]] .nil) AMem.empty = some (.ret, T1, σ1) ∧ T1.get 4 = some (.bool true) := by
    obtain ⟨b, hthin, ht⟩ := thinNet_call (k := k) h vk ps (by omega)
    cases b with
    | false =>
      simp only [bodyOf, Tryz.f6, Option.getD_some, initT, q_seq, q_cond, q_block, q_region, q_drawn, q_skip, q_exit, q_ret, runOps, runD, again, step1, wantA, opSem, evalO, evalL, evalOpt, evalParts, putA, ofConst, ofScalar, ofScalars, abin, abinInt, aun, convA, builtinA, oneTy, elemTy, lenB_vs, lenB_sl, lenB_str, loadA, storeA, storeCellsA, setAt, partA, fillA, placesA, isFn, TyI.isAgg, isSeq, isNum, sliceA, boundA, cells_bool, one_bool, cells_int, one_int, cells_str, one_str, cells_ptr, one_ptr, cells_nilptr, one_nilptr, cells_slice, one_slice, cells_vs, one_vs, cells_vptr, one_vptr, cells_func, one_func, cells_yield, one_yield, cells_nilfn, one_nilfn, cells_nilmap, one_nilmap, cells_map, one_map, cells_agg, setParams, Tr.get_set, AMem.get_put, AMem.get_push, AMem.next_put, AMem.next_push, AMem.get_empty, next_empty, Option.map_some, Option.map_none, Option.bind_some, reduceIte, Nat.reduceLT, Nat.reduceLeDiff, Nat.reduceEqDiff, Nat.reduceAdd, Nat.reduceMul, Nat.reduceSub, Nat.reduceBEq, Nat.zero_add, Nat.add_zero, Nat.mul_one, Nat.one_mul, Nat.zero_mul, and_self, and_true, true_and, false_and, and_false, Bool.and_true, Bool.true_and, Bool.and_false, Bool.false_and, if_true, if_false, Int.reduceEq, Int.reduceLT, Int.reduceLE, Int.reduceToNat, Bool.false_eq_true, Bool.not_true, Bool.not_false, BEq.rfl, beq_true_true, beq_true_false, beq_false_true, beq_false_false, List.length_cons, List.length_nil, List.all_cons, List.all_nil, List.getElem?_cons_zero, List.getElem?_cons_succ, List.getElem?_nil, List.getElem?_toArray, List.take_succ_cons, List.take_zero, List.drop_succ_cons, List.drop_zero, List.set_cons_zero, List.set_cons_succ, List.append_nil, List.nil_append, List.cons_append, decide_true, decide_false, decide_eq_true_eq, Option.isNone_none, Option.isNone_some, Option.isSome_none, Option.isSome_some, Bool.or_true, Bool.true_or, Bool.or_false, Bool.false_or, ne_eq, not_false_eq_true, not_true_eq_false, reduceCtorEq, eq_self, beq_refl, minL, minF, maxL, maxF, repZ, vp6_9, vp6_21, vp6_23, vp6_27, vp6_31, vp6_32, vp6_33, ty3, ty4, ty5, ty22, ty25, ty40, ty42, ty44, ty58, ord6_3, hthin, awake_call]
      exact ⟨_, _, rfl, by simp only [Tr.get_set, Nat.reduceEqDiff, reduceIte]⟩
    | true =>
      obtain ⟨ht1, ht2⟩ := ht rfl
      have hb : ∀ q, q ∈ ps → q.b.length ≤ 1000000 := fun q hq => by have := ht2 q hq; omega
      have hcn := fun (σ : AMem) => copyNet_call (k := k) (σ := σ) h vk ps (by omega) hb (by omega)
      have hs : ∀ σ : AMem, pureCall lawProg (callN lawProg k) (.func 31 [] []) [.agg [.int .i64 h, .vs (lkOf ps.length) ((ps.map cp).map pkV)], .agg [.int .u8 m.kd, .int .i64 m.n, .int .i64 m.at_, .int .i64 m.x]] σ = some (.tuple [(doV h ps m).1, (doV h ps m).2, .int .i64 (doE h ps m)], σ) := fun σ => by
        have := do_call (k := k) (σ := σ) h (lkOf ps.length) (ps.map cp) m (by simp; omega) (fun q hq => by obtain ⟨q', _, rfl⟩ := List.mem_map.1 hq; rfl) (fun q hq => by obtain ⟨q', hq', rfl⟩ := List.mem_map.1 hq; exact hb q' hq') (by omega)
        rw [doV_cp, doE_cp] at this
        exact this
      have hrs := fun (σ : AMem) => rdo_call (k := k) (σ := σ) h vk ps m (by omega) hb hm8 (by omega)
      obtain ⟨H, K, K2, L, L2, hS, hL, hL2⟩ := doV_form h ps m (by omega)
      simp only [hS] at hs hrs
      have hsn := fun (σ : AMem) => sameNet_call (k := k) (σ := σ) H K L hL (by omega)
      have hsp := fun (σ : AMem) => samePackets_call (k := k) (σ := σ) K2 L2 hL2 (by omega)
      generalize doE h ps m = E at hs hrs
      simp only [bodyOf, Tryz.f6, Option.getD_some, initT, q_seq, q_cond, q_block, q_region, q_drawn, q_skip, q_exit, q_ret, runOps, runD, again, step1, wantA, opSem, evalO, evalL, evalOpt, evalParts, putA, ofConst, ofScalar, ofScalars, abin, abinInt, aun, convA, builtinA, oneTy, elemTy, lenB_vs, lenB_sl, lenB_str, loadA, storeA, storeCellsA, setAt, partA, fillA, placesA, isFn, TyI.isAgg, isSeq, isNum, sliceA, boundA, cells_bool, one_bool, cells_int, one_int, cells_str, one_str, cells_ptr, one_ptr, cells_nilptr, one_nilptr, cells_slice, one_slice, cells_vs, one_vs, cells_vptr, one_vptr, cells_func, one_func, cells_yield, one_yield, cells_nilfn, one_nilfn, cells_nilmap, one_nilmap, cells_map, one_map, cells_agg, setParams, Tr.get_set, AMem.get_put, AMem.get_push, AMem.next_put, AMem.next_push, AMem.get_empty, next_empty, Option.map_some, Option.map_none, Option.bind_some, reduceIte, Nat.reduceLT, Nat.reduceLeDiff, Nat.reduceEqDiff, Nat.reduceAdd, Nat.reduceMul, Nat.reduceSub, Nat.reduceBEq, Nat.zero_add, Nat.add_zero, Nat.mul_one, Nat.one_mul, Nat.zero_mul, and_self, and_true, true_and, false_and, and_false, Bool.and_true, Bool.true_and, Bool.and_false, Bool.false_and, if_true, if_false, Int.reduceEq, Int.reduceLT, Int.reduceLE, Int.reduceToNat, Bool.false_eq_true, Bool.not_true, Bool.not_false, BEq.rfl, beq_true_true, beq_true_false, beq_false_true, beq_false_false, List.length_cons, List.length_nil, List.all_cons, List.all_nil, List.getElem?_cons_zero, List.getElem?_cons_succ, List.getElem?_nil, List.getElem?_toArray, List.take_succ_cons, List.take_zero, List.drop_succ_cons, List.drop_zero, List.set_cons_zero, List.set_cons_succ, List.append_nil, List.nil_append, List.cons_append, decide_true, decide_false, decide_eq_true_eq, Option.isNone_none, Option.isNone_some, Option.isSome_none, Option.isSome_some, Bool.or_true, Bool.true_or, Bool.or_false, Bool.false_or, ne_eq, not_false_eq_true, not_true_eq_false, reduceCtorEq, eq_self, beq_refl, minL, minF, maxL, maxF, repZ, vp6_9, vp6_21, vp6_23, vp6_27, vp6_31, vp6_32, vp6_33, ty3, ty4, ty5, ty22, ty25, ty40, ty42, ty44, ty58, ord6_3, hthin, hcn, hs, hrs, hsn, hsp, beq_self_eq_true, awake_call]
      exact ⟨_, _, rfl, by simp only [Tr.get_set, Nat.reduceEqDiff, reduceIte]⟩
  obtain ⟨T1, σ1, h1, h2⟩ := run
  exact ⟨σ1, q_call (first := []) (caps := []) fn6 rfl (by simp [Tryz.f6]) h1 (by simp) (res_one h2)⟩

variable {P : Program}
theorem elem_move {n tm tu ti : Nat} {x : AVal} (hm : rkOf P tm = .agg [(tu, 0), (ti, 1), (ti, 2), (ti, 3)]) (cm : P.cellsOf tm = 4) (cu : P.cellsOf tu = 1) (ci : P.cellsOf ti = 1) (hu : rkOf P tu = .int .u8) (hi : rkOf P ti = .int .i64) (h : ElemFit P n tm x) : ∃ m : Mv, x = mvV m ∧ 0 ≤ m.kd ∧ m.kd ≤ 255 := by
  obtain ⟨cs, q, rfl, hlen, hall⟩ := elem_agg hm h
  rw [cm] at hlen
  obtain ⟨a, b, c, d, rfl⟩ : ∃ a b c d, cs = [a, b, c, d] := by
    match cs, hlen with
    | [a, b, c, d], _ => exact ⟨a, b, c, d, rfl⟩
  have h0 := hall (tu, 0) (by simp)
  have h1 := hall (ti, 1) (by simp)
  have h2 := hall (ti, 2) (by simp)
  have h3 := hall (ti, 3) (by simp)
  simp only [ci, cu, List.drop_zero, List.drop_succ_cons, List.take_succ_cons, List.take_zero] at h0 h1 h2 h3
  obtain ⟨w, e0, hw⟩ := fit_int hu h0
  obtain ⟨x, e1, _⟩ := fit_int hi h1
  obtain ⟨y, e2, _⟩ := fit_int hi h2
  obtain ⟨z, e3, _⟩ := fit_int hi h3
  simp only [List.cons.injEq, and_true] at e0 e1 e2 e3
  subst e0; subst e1; subst e2; subst e3
  have := u8_range hw
  exact ⟨⟨w, x, y, z⟩, rfl, this.1, this.2⟩
end Go.Proofs.YtikhidpcaefjiaaGreatDoor
