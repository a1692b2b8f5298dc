/- pack.Split: what it gives on every message. -/
import Derived.Test.YtikhidpcaefjiaaGreatDoorA1
set_option maxRecDepth 100000
set_option linter.unusedSimpArgs false
set_option linter.unusedVariables false
namespace Go.Proofs.YtikhidpcaefjiaaGreatDoor
open Go Go.Proofs.YtikhidpcaefjiaaGreatDoor.Pale
variable {k : Nat} {σ : AMem}

/-! ### the pieces of a message -/
def manyOf (n s : Nat) : Nat := (n + s - 1) / s
def partOf (bs : List Nat) (s i : Nat) : List Nat := (bs.drop (i * s)).take s
def chunkC (name : Int) (of i : Nat) (d : List Nat) : List AVal := [.int .i64 name, .int .i64 i, .int .i64 of, .vs .some (bytesV d)]
/-- The cells of the first j chunks; of some the field Of is known. -/
def chunksC (name : Int) (of : Nat → Nat) (bs : List Nat) (s : Nat) : Nat → List AVal
  | 0 => []
  | j + 1 => chunksC name of bs s j ++ chunkC name (of j) j (partOf bs s j)
theorem chunksC_length (name : Int) (of : Nat → Nat) (bs : List Nat) (s j : Nat) : (chunksC name of bs s j).length = j * 4 := by
  induction j with
  | zero => rfl
  | succ j ih => simp [chunksC, ih, chunkC]; omega
theorem many_lt {n s j : Nat} (hs : 1 ≤ s) : j < manyOf n s ↔ j * s < n := by
  unfold manyOf
  rw [Nat.lt_div_iff_mul_lt (by omega)]
  omega
theorem part_length {bs : List Nat} {s j : Nat} (h : j * s < bs.length) : (partOf bs s j).length = min s (bs.length - j * s) := by simp [partOf]
theorem part_pos {bs : List Nat} {s j : Nat} (hs : 1 ≤ s) (h : j * s < bs.length) : 0 < (partOf bs s j).length := by rw [part_length h]; omega

/-! ### slices.Chunk -/
theorem chunk_call (v : AVal) (size : Int) (h1 : 1 ≤ size) (hk : 1 ≤ k) : callN lawProg k (.func 50 [] []) [v, .int .i64 size] σ =
    some (.func 98 [] [.ptr σ.next 0, .ptr (σ.next + 1) 0], (σ.push (.row 1 false v.cells)).push (.row 1 false [.int .i64 size])) := by
  obtain ⟨k, rfl⟩ : ∃ m, k = m + 1 := ⟨k - 1, by omega⟩
  have hlt : ¬ size < 1 := by omega
  have run : ∃ T1, execC lawProg (callN lawProg k) k 50 9 (bodyOf Tryz.f50) (initT 0 [v, .int .i64 size] .nil) σ = some (.ret, T1, (σ.push (.row 1 false v.cells)).push (.row 1 false [.int .i64 size])) ∧ T1.get 4 = some (.func 98 [] [.ptr σ.next 0, .ptr (σ.next + 1) 0]) := by
    simp only [bodyOf, Tryz.f50, Option.getD_some, initT, q_seq, q_cond, q_block, q_region, q_drawn, q_skip, q_exit, q_ret, runOps, runD, again, step1, wantA, opSem, evalO, evalL, evalOpt, evalParts, putA, ofConst, ofScalar, ofScalars, abin, abinInt, aun, convA, builtinA, oneTy, elemTy, lenB_vs, lenB_sl, lenB_str, loadA, storeA, storeCellsA, setAt, partA, fillA, placesA, isFn, TyI.isAgg, isSeq, isNum, sliceA, boundA, cells_bool, one_bool, cells_int, one_int, cells_str, one_str, cells_ptr, one_ptr, cells_nilptr, one_nilptr, cells_slice, one_slice, cells_vs, one_vs, cells_vptr, one_vptr, cells_func, one_func, cells_yield, one_yield, cells_nilfn, one_nilfn, cells_nilmap, one_nilmap, cells_map, one_map, cells_agg, setParams, Tr.get_set, AMem.get_put, AMem.get_push, AMem.next_put, AMem.next_push, AMem.get_empty, next_empty, Option.map_some, Option.map_none, Option.bind_some, reduceIte, Nat.reduceLT, Nat.reduceLeDiff, Nat.reduceEqDiff, Nat.reduceAdd, Nat.reduceMul, Nat.reduceSub, Nat.reduceBEq, Nat.zero_add, Nat.add_zero, Nat.mul_one, Nat.one_mul, Nat.zero_mul, and_self, and_true, true_and, false_and, and_false, Bool.and_true, Bool.true_and, Bool.and_false, Bool.false_and, if_true, if_false, Int.reduceEq, Int.reduceLT, Int.reduceLE, Int.reduceToNat, Bool.false_eq_true, Bool.not_true, Bool.not_false, BEq.rfl, beq_true_true, beq_true_false, beq_false_true, beq_false_false, List.length_cons, List.length_nil, List.all_cons, List.all_nil, List.getElem?_cons_zero, List.getElem?_cons_succ, List.getElem?_nil, List.getElem?_toArray, List.take_succ_cons, List.take_zero, List.drop_succ_cons, List.drop_zero, List.set_cons_zero, List.set_cons_succ, List.append_nil, List.nil_append, List.cons_append, decide_true, decide_false, decide_eq_true_eq, Option.isNone_none, Option.isNone_some, Option.isSome_none, Option.isSome_some, Bool.or_true, Bool.true_or, Bool.or_false, Bool.false_or, ne_eq, not_false_eq_true, not_true_eq_false, reduceCtorEq, eq_self, beq_refl, minL, minF, maxL, maxF, repZ, ty3, ty5, ty22, hlt]
    exact ⟨_, rfl, by simp only [Tr.get_set, Nat.reduceEqDiff, reduceIte]⟩
  obtain ⟨T1, h2, h3⟩ := run
  exact q_call (first := []) (caps := []) fn50 rfl (by simp [Tryz.f50]) h2 (by simp) (res_one h3)

/-! ### one round of pack.Split's loop -/
theorem split_round {T0 : Tr AVal} {name : Int} {bs : List Nat} {s j : Nat} {out : AVal} {d : List Nat} (hT4 : T0.get 4 = some (.ptr 0 0)) (hT6 : T0.get 6 = some (.ptr 1 0)) (hk : 2 ≤ k) (hd : d.length ≤ 1000000) (hj : j < 100000)
    (hl : σ.get 4 = some (.loop (rfLoop Tryz.f10 10 T0))) (h0 : σ.get 0 = some (.row 1 false [.int .i64 name])) (h1 : σ.get 1 = some (.row 1 false [out])) (hout : Grew 5 σ 4 true out j (chunksC name (fun _ => 0) bs s j)) (h5 : 5 ≤ σ.next) (hd2 : d = partOf bs s j) :
    ∃ σ', roundA lawProg (callN lawProg k) k 4 [.vs .some (bytesV d)] σ = some (.bool true, σ') ∧ σ'.get 0 = some (.row 1 false [.int .i64 name]) ∧ (∃ out', σ'.get 1 = some (.row 1 false [out']) ∧ Grew 5 σ' 4 true out' (j + 1) (chunksC name (fun _ => 0) bs s (j + 1))) ∧
      σ'.get 2 = σ.get 2 ∧ σ'.get 3 = σ.get 3 ∧ σ'.get 4 = σ.get 4 ∧ 5 ≤ σ'.next := by
  obtain ⟨hcl, hcase⟩ := hout
  have hlen : lenB ⟨.slice 32, 1, 24, [.vs .nil []]⟩ out = some (.int .i64 j) := by
    rcases hcase with ⟨rfl, rfl⟩ | ⟨r, _, _, rfl, _⟩ <;> rfl
  have hone : out.oneCell = true := by rcases hcase with ⟨_, rfl⟩ | ⟨r, _, _, rfl, _⟩ <;> rfl
  have hbusy : Grew 5 ((σ.put 4 (.loop (busyOf (rfLoop Tryz.f10 10 T0)))).push (.row 4 true [.int .i64 name, .int .i64 j, .int .i64 0, .vs .some (bytesV d)])) 4 true out j (chunksC name (fun _ => 0) bs s j) := by
    refine ⟨hcl, ?_⟩
    rcases hcase with h | ⟨r, h6, h7, h8, h9⟩
    · exact .inl h
    · refine .inr ⟨r, h6, by simp; omega, h8, ?_⟩
      rw [AMem.get_push, if_neg (by simp; omega), AMem.get_put, if_neg (by omega)]; exact h9
  obtain ⟨out', σ', happ, hgrew, hnext, hlow, hone'⟩ := Grew.append (e := ⟨.struct [(0, 3), (1, 3), (2, 3), (3, 22)], 4, 48, [.int .i64 0, .int .i64 0, .int .i64 0, .vs .nil []]⟩) (n := 1) (x := .slice σ.next 0 1 (some 1) 4) (xs := [.int .i64 name, .int .i64 j, .int .i64 0, .vs .some (bytesV d)]) hbusy (by simp; omega)
    (by simp only [sourceA, AMem.get_push, AMem.next_put, reduceIte, List.length_cons, List.length_nil, Nat.reduceAdd, Nat.reduceMul, Nat.reduceLeDiff, List.drop_zero, List.take_succ_cons, List.take_zero]) rfl (by simp) (by simp) (by simp) (by simp) (by show (j + 1) * 48 ≤ 1099511627776; omega) rfl
  generalize hB : busyOf (rfLoop Tryz.f10 10 T0) = B at hbusy happ hgrew hnext hlow
  refine ⟨(σ'.put 1 (.row 1 false [out'])).put 4 (.loop (rfLoop Tryz.f10 10 T0)), ?_, ?_, ?_, ?_, ?_, ?_, ?_⟩
  · have g1 : σ'.get 1 = some (.row 1 false [out]) := by rw [hlow 1 (by omega), AMem.get_push, if_neg (by simp; omega), AMem.get_put, if_neg (by omega)]; exact h1
    have hcells := cells_one hone'
    have hbody : ∃ T2, execC lawProg (callN lawProg k) k 10 56 (rfLoop Tryz.f10 10 T0).body ((T0.set 33 (.vs .some (bytesV d))).set 8 (.vs .some (bytesV d))) (σ.put 4 (.loop B)) =
        some (.normal, T2, σ'.put 1 (.row 1 false [out'])) := by
      simp only [rfLoop, bodyOf, Tryz.f10, Option.getD_some, rfOf] 
      simp only [q_seq, q_cond, q_block, q_region, q_drawn, q_skip, q_exit, q_ret, runOps, runD, again, step1, wantA, opSem, evalO, evalL, evalOpt, evalParts, putA, ofConst, ofScalar, ofScalars, abin, abinInt, aun, convA, builtinA, oneTy, elemTy, lenB_vs, lenB_sl, lenB_str, loadA, storeA, storeCellsA, setAt, partA, fillA, placesA, isFn, TyI.isAgg, isSeq, isNum, sliceA, boundA, cells_bool, one_bool, cells_int, one_int, cells_str, one_str, cells_ptr, one_ptr, cells_nilptr, one_nilptr, cells_slice, one_slice, cells_vs, one_vs, cells_vptr, one_vptr, cells_func, one_func, cells_yield, one_yield, cells_nilfn, one_nilfn, cells_nilmap, one_nilmap, cells_map, one_map, cells_agg, setParams, Tr.get_set, AMem.get_put, AMem.get_push, AMem.next_put, AMem.next_push, AMem.get_empty, next_empty, Option.map_some, Option.map_none, Option.bind_some, reduceIte, Nat.reduceLT, Nat.reduceLeDiff, Nat.reduceEqDiff, Nat.reduceAdd, Nat.reduceMul, Nat.reduceSub, Nat.reduceBEq, Nat.zero_add, Nat.add_zero, Nat.mul_one, Nat.one_mul, Nat.zero_mul, and_self, and_true, true_and, false_and, and_false, Bool.and_true, Bool.true_and, Bool.and_false, Bool.false_and, if_true, if_false, Int.reduceEq, Int.reduceLT, Int.reduceLE, Int.reduceToNat, Bool.false_eq_true, Bool.not_true, Bool.not_false, BEq.rfl, beq_true_true, beq_true_false, beq_false_true, beq_false_false, List.length_cons, List.length_nil, List.all_cons, List.all_nil, List.getElem?_cons_zero, List.getElem?_cons_succ, List.getElem?_nil, List.getElem?_toArray, List.take_succ_cons, List.take_zero, List.drop_succ_cons, List.drop_zero, List.set_cons_zero, List.set_cons_succ, List.append_nil, List.nil_append, List.cons_append, decide_true, decide_false, decide_eq_true_eq, Option.isNone_none, Option.isNone_some, Option.isSome_none, Option.isSome_some, Bool.or_true, Bool.true_or, Bool.or_false, Bool.false_or, ne_eq, not_false_eq_true, not_true_eq_false, reduceCtorEq, eq_self, beq_refl, minL, minF, maxL, maxF, repZ, val49, val50, val51, ty3, ty4, ty5, ty22, ty24, ty32, ord10_9, hT4, hT6, h0, h1, hlen, clone_call d .some (by decide) hd (show 1 ≤ k by omega)]
      simp only [q_seq, q_cond, q_block, q_region, q_drawn, q_skip, q_exit, q_ret, runOps, runD, again, step1, wantA, opSem, evalO, evalL, evalOpt, evalParts, putA, ofConst, ofScalar, ofScalars, abin, abinInt, aun, convA, builtinA, oneTy, elemTy, lenB_vs, lenB_sl, lenB_str, loadA, storeA, storeCellsA, setAt, partA, fillA, placesA, isFn, TyI.isAgg, isSeq, isNum, sliceA, boundA, cells_bool, one_bool, cells_int, one_int, cells_str, one_str, cells_ptr, one_ptr, cells_nilptr, one_nilptr, cells_slice, one_slice, cells_vs, one_vs, cells_vptr, one_vptr, cells_func, one_func, cells_yield, one_yield, cells_nilfn, one_nilfn, cells_nilmap, one_nilmap, cells_map, one_map, cells_agg, setParams, Tr.get_set, AMem.get_put, AMem.get_push, AMem.next_put, AMem.next_push, AMem.get_empty, next_empty, Option.map_some, Option.map_none, Option.bind_some, reduceIte, Nat.reduceLT, Nat.reduceLeDiff, Nat.reduceEqDiff, Nat.reduceAdd, Nat.reduceMul, Nat.reduceSub, Nat.reduceBEq, Nat.zero_add, Nat.add_zero, Nat.mul_one, Nat.one_mul, Nat.zero_mul, and_self, and_true, true_and, false_and, and_false, Bool.and_true, Bool.true_and, Bool.and_false, Bool.false_and, if_true, if_false, Int.reduceEq, Int.reduceLT, Int.reduceLE, Int.reduceToNat, Bool.false_eq_true, Bool.not_true, Bool.not_false, BEq.rfl, beq_true_true, beq_true_false, beq_false_true, beq_false_false, List.length_cons, List.length_nil, List.all_cons, List.all_nil, List.getElem?_cons_zero, List.getElem?_cons_succ, List.getElem?_nil, List.getElem?_toArray, List.take_succ_cons, List.take_zero, List.drop_succ_cons, List.drop_zero, List.set_cons_zero, List.set_cons_succ, List.append_nil, List.nil_append, List.cons_append, decide_true, decide_false, decide_eq_true_eq, Option.isNone_none, Option.isNone_some, Option.isSome_none, Option.isSome_some, Bool.or_true, Bool.true_or, Bool.or_false, Bool.false_or, ne_eq, not_false_eq_true, not_true_eq_false, reduceCtorEq, eq_self, beq_refl, minL, minF, maxL, maxF, repZ, val49, val50, val51, ty3, ty4, ty5, ty22, ty24, ty32, ord10_9, happ, hT6, g1, hcells, hone']
      exact ⟨_, rfl⟩
    obtain ⟨T2, hbody⟩ := hbody
    have hlo : σ'.get 4 = some (.loop B) := by rw [hlow 4 (by omega), AMem.get_push, if_neg (by simp; omega), AMem.get_put, if_pos rfl]
    rw [← hB] at hbody hlo
    have := round_of (A := lawProg) (call := callN lawProg k) (k := k) (l := 4) (args := [.vs .some (bytesV d)]) (T1 := (T0.set 33 (.vs .some (bytesV d))).set 8 (.vs .some (bytesV d))) (T2 := T2) hl rfl rfl rfl
      (by simp only [rfLoop, bodyOf, Tryz.f10, Option.getD_some, rfOf]; simp only [q_seq, q_cond, q_block, q_region, q_drawn, q_skip, q_exit, q_ret, runOps, runD, again, step1, wantA, opSem, evalO, evalL, evalOpt, evalParts, putA, ofConst, ofScalar, ofScalars, abin, abinInt, aun, convA, builtinA, oneTy, elemTy, lenB_vs, lenB_sl, lenB_str, loadA, storeA, storeCellsA, setAt, partA, fillA, placesA, isFn, TyI.isAgg, isSeq, isNum, sliceA, boundA, cells_bool, one_bool, cells_int, one_int, cells_str, one_str, cells_ptr, one_ptr, cells_nilptr, one_nilptr, cells_slice, one_slice, cells_vs, one_vs, cells_vptr, one_vptr, cells_func, one_func, cells_yield, one_yield, cells_nilfn, one_nilfn, cells_nilmap, one_nilmap, cells_map, one_map, cells_agg, setParams, Tr.get_set, AMem.get_put, AMem.get_push, AMem.next_put, AMem.next_push, AMem.get_empty, next_empty, Option.map_some, Option.map_none, Option.bind_some, reduceIte, Nat.reduceLT, Nat.reduceLeDiff, Nat.reduceEqDiff, Nat.reduceAdd, Nat.reduceMul, Nat.reduceSub, Nat.reduceBEq, Nat.zero_add, Nat.add_zero, Nat.mul_one, Nat.one_mul, Nat.zero_mul, and_self, and_true, true_and, false_and, and_false, Bool.and_true, Bool.true_and, Bool.and_false, Bool.false_and, if_true, if_false, Int.reduceEq, Int.reduceLT, Int.reduceLE, Int.reduceToNat, Bool.false_eq_true, Bool.not_true, Bool.not_false, BEq.rfl, beq_true_true, beq_true_false, beq_false_true, beq_false_false, List.length_cons, List.length_nil, List.all_cons, List.all_nil, List.getElem?_cons_zero, List.getElem?_cons_succ, List.getElem?_nil, List.getElem?_toArray, List.take_succ_cons, List.take_zero, List.drop_succ_cons, List.drop_zero, List.set_cons_zero, List.set_cons_succ, List.append_nil, List.nil_append, List.cons_append, decide_true, decide_false, decide_eq_true_eq, Option.isNone_none, Option.isNone_some, Option.isSome_none, Option.isSome_some, Bool.or_true, Bool.true_or, Bool.or_false, Bool.false_or, ne_eq, not_false_eq_true, not_true_eq_false, reduceCtorEq, eq_self, beq_refl, minL, minF, maxL, maxF, repZ, val49, val50, val51, ty3, ty4, ty5, ty22, ty24, ty32, ord10_9]) hbody (r2 := busyOf (rfLoop Tryz.f10 10 T0)) (by rw [AMem.get_put, if_neg (by omega)]; exact hlo)
    exact this
  · rw [AMem.get_put, if_neg (by omega), AMem.get_put, if_neg (by omega), hlow 0 (by omega), AMem.get_push, if_neg (by simp; omega), AMem.get_put, if_neg (by omega)]; exact h0
  · refine ⟨out', by rw [AMem.get_put, if_neg (by omega), AMem.get_put, if_pos rfl], ?_⟩
    obtain ⟨c1, c2⟩ := hgrew
    subst hd2
    refine ⟨c1, ?_⟩
    rcases c2 with ⟨h, _⟩ | ⟨r, c3, c4, c5, c6⟩
    · omega
    · exact .inr ⟨r, c3, c4, c5, by rw [AMem.get_put, if_neg (by omega), AMem.get_put, if_neg (by omega)]; exact c6⟩
  · rw [AMem.get_put, if_neg (by omega), AMem.get_put, if_neg (by omega), hlow 2 (by omega), AMem.get_push, if_neg (by simp; omega), AMem.get_put, if_neg (by omega)]
  · rw [AMem.get_put, if_neg (by omega), AMem.get_put, if_neg (by omega), hlow 3 (by omega), AMem.get_push, if_neg (by simp; omega), AMem.get_put, if_neg (by omega)]
  · rw [AMem.get_put, if_pos rfl]; exact hl.symm
  · simp only [AMem.next_put, AMem.next_push] at hnext ⊢; omega

end Go.Proofs.YtikhidpcaefjiaaGreatDoor
