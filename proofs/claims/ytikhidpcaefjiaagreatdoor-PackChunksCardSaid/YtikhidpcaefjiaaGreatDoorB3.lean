/- The bytes of a chunk: the program's and the reference's. -/
import Derived.Test.YtikhidpcaefjiaaGreatDoorB2
set_option maxRecDepth 100000
set_option linter.unusedSimpArgs false
set_option linter.unusedVariables false
namespace Go.Proofs.YtikhidpcaefjiaaGreatDoor
open Go Go.Proofs.YtikhidpcaefjiaaGreatDoor.Pale
variable {k : Nat} {σ : AMem}

def headB (name i of : Nat) (d : List Nat) : List Nat := [81] ++ [name / 256, name % 256] ++ [i, of, d.length] ++ d
/-- The bytes of a right chunk. -/
def encC (name i of : Nat) (d : List Nat) : List Nat := sealB (headB name i of d)

theorem chunkBytes_bad (name i of : Int) (vk : VK) (d : List Nat) (hbad : ¬ OkC name i of d) (hk : 5 ≤ k) : pureRun (callN lawProg (k + 1)) (.func 15 [] []) [chunkV name i of vk d] = some (.tuple [.vs .nil [], .int .i64 4], true) := by
  have hc : ∀ σ : AMem, pureCall lawProg (callN lawProg k) (.func 53 [] []) [.agg [.int .i64 name, .int .i64 i, .int .i64 of, .vs vk (bytesV d)]] σ = some (.bool false, σ) := fun σ => by
    have := isChunk_call (k := k) (σ := σ) (x := .agg [.int .i64 name, .int .i64 i, .int .i64 of, .vs vk (bytesV d)]) (name := name) (i := i) (of := of) (vk := vk) (d := d) rfl (by omega)
    rwa [decide_eq_false hbad] at this
  have run : ∃ T1 σ1, execC lawProg (callN lawProg k) k 15 36 (bodyOf Tryz.f15) (initT 0 [.agg [.int .i64 name, .int .i64 i, .int .i64 of, .vs vk (bytesV d)]] .nil) AMem.empty = some (.ret, T1, σ1) ∧ T1.get 2 = some (.vs .nil []) ∧ T1.get 3 = some (.int .i64 4) := by
    simp only [bodyOf, Tryz.f15, Option.getD_some, initT, q_seq, q_cond, q_block, q_region, q_drawn, q_skip, q_exit, q_ret, runOps, runD, again, step1, wantA, opSem, evalO, evalL, evalOpt, evalParts, putA, ofConst, ofScalar, ofScalars, abin, abinInt, aun, convA, builtinA, oneTy, elemTy, lenB_vs, lenB_sl, lenB_str, loadA, storeA, storeCellsA, setAt, partA, fillA, placesA, isFn, TyI.isAgg, isSeq, isNum, sliceA, boundA, cells_bool, one_bool, cells_int, one_int, cells_str, one_str, cells_ptr, one_ptr, cells_nilptr, one_nilptr, cells_slice, one_slice, cells_vs, one_vs, cells_vptr, one_vptr, cells_func, one_func, cells_yield, one_yield, cells_nilfn, one_nilfn, cells_nilmap, one_nilmap, cells_map, one_map, cells_agg, setParams, Tr.get_set, AMem.get_put, AMem.get_push, AMem.next_put, AMem.next_push, AMem.get_empty, next_empty, Option.map_some, Option.map_none, Option.bind_some, reduceIte, Nat.reduceLT, Nat.reduceLeDiff, Nat.reduceEqDiff, Nat.reduceAdd, Nat.reduceMul, Nat.reduceSub, Nat.reduceBEq, Nat.zero_add, Nat.add_zero, Nat.mul_one, Nat.one_mul, Nat.zero_mul, and_self, and_true, true_and, false_and, and_false, Bool.and_true, Bool.true_and, Bool.and_false, Bool.false_and, if_true, if_false, Int.reduceEq, Int.reduceLT, Int.reduceLE, Int.reduceToNat, Bool.false_eq_true, Bool.not_true, Bool.not_false, BEq.rfl, beq_true_true, beq_true_false, beq_false_true, beq_false_false, List.length_cons, List.length_nil, List.all_cons, List.all_nil, List.getElem?_cons_zero, List.getElem?_cons_succ, List.getElem?_nil, List.getElem?_toArray, List.take_succ_cons, List.take_zero, List.drop_succ_cons, List.drop_zero, List.set_cons_zero, List.set_cons_succ, List.append_nil, List.nil_append, List.cons_append, decide_true, decide_false, decide_eq_true_eq, Option.isNone_none, Option.isNone_some, Option.isSome_none, Option.isSome_some, Bool.or_true, Bool.true_or, Bool.or_false, Bool.false_or, ne_eq, not_false_eq_true, not_true_eq_false, reduceCtorEq, eq_self, beq_refl, minL, minF, maxL, maxF, repZ, val53, val54, val55, val56, ty3, ty4, ty5, ty22, ty32, ty111, hc]
    exact ⟨_, _, rfl, by simp only [Tr.get_set, Nat.reduceEqDiff, reduceIte], by simp only [Tr.get_set, Nat.reduceEqDiff, reduceIte]⟩
  obtain ⟨T1, σ1, h1, h2, h3⟩ := run
  exact pureRun_of fn15 rfl (by simp [Tryz.f15]) h1 (by simp) (res_two h2 h3) rfl

theorem chunkBytes_ok (name i of : Nat) (vk : VK) (d : List Nat) (hok : OkC name i of d) (hd : ∀ b, b ∈ d → b < 256) (hk : 7000 ≤ k) : ∃ b, pureRun (callN lawProg (k + 1)) (.func 15 [] []) [chunkV name i of vk d] = some (.tuple [.vs .some (bytesV (encC name i of d)), .int .i64 0], b) := by
  obtain ⟨⟨o1, o2⟩, ⟨o3, o4⟩, ⟨o5, o6⟩, o7, o8⟩ := id hok
  have hc : ∀ σ : AMem, pureCall lawProg (callN lawProg k) (.func 53 [] []) [.agg [.int .i64 name, .int .i64 i, .int .i64 of, .vs vk (bytesV d)]] σ = some (.bool true, σ) := fun σ => by
    have := isChunk_call (k := k) (σ := σ) (x := .agg [.int .i64 name, .int .i64 i, .int .i64 of, .vs vk (bytesV d)]) (name := name) (i := i) (of := of) (vk := vk) (d := d) rfl (by omega)
    rwa [decide_eq_true hok] at this
  let σ1 : AMem := (AMem.empty.push (.row 4 true [.int .i64 name, .int .i64 i, .int .i64 of, .vs vk (bytesV d)])).push (.row 1 true [.vs .nil []])
  have w1 : Writes 2 1 [] (σ1.push (.row 1 false [.int .u8 81])) := ⟨.vs .nil [], by simp only [σ1, AMem.get_push, AMem.next_push, next_empty, Nat.reduceAdd, Nat.reduceEqDiff, reduceIte], ⟨rfl, .inl ⟨rfl, rfl⟩⟩, by simp [σ1, next_empty]⟩
  obtain ⟨σa, pa, wa, ka⟩ := put_call (k := k) (more := [81]) (x := .slice 2 0 1 (some 1) 1) w1 (by omega) (by simp only [σ1, sourceA, AMem.get_push, AMem.next_push, next_empty, Nat.reduceAdd, reduceIte, List.length_cons, List.length_nil, Nat.reduceMul, Nat.reduceLeDiff, List.drop_zero, List.take_succ_cons, List.take_zero]; rfl) (by simp) (by simp) (by omega)
  have ra : σa.get 0 = some (.row 4 true [.int .i64 name, .int .i64 i, .int .i64 of, .vs vk (bytesV d)]) := by
    rw [ka 0 (by omega) (by omega)]; simp only [σ1, AMem.get_push, AMem.next_push, next_empty, Nat.reduceAdd, Nat.reduceEqDiff, reduceIte]
  obtain ⟨σb, pb, wb, kb⟩ := wpair_call (k := k) (n := name) wa (by omega) (by omega) (by simp) (by omega)
  have rb : σb.get 0 = some (.row 4 true [.int .i64 name, .int .i64 i, .int .i64 of, .vs vk (bytesV d)]) := by rw [kb 0 (by omega) (by omega)]; exact ra
  obtain ⟨σc, pc, wc, kc⟩ := put_call (k := k) (σ := σb.push (.row 1 false [.int .u8 (i : Int), .int .u8 (of : Int), .int .u8 (d.length : Int)])) (more := [i, of, d.length]) (x := .slice σb.next 0 3 (some 3) 1) (wb.push (by omega)) (by omega) (by simp only [sourceA, AMem.get_push, reduceIte, List.length_cons, List.length_nil, Nat.reduceAdd, Nat.reduceMul, Nat.reduceLeDiff, List.drop_zero, List.take_succ_cons, List.take_zero]; rfl) (by simp) (by simp) (by omega)
  have wlow : 2 ≤ σb.next := by obtain ⟨_, _, _, h⟩ := wb; exact h
  have rc : σc.get 0 = some (.row 4 true [.int .i64 name, .int .i64 i, .int .i64 of, .vs vk (bytesV d)]) := by rw [kc 0 (by omega) (by omega), AMem.get_push, if_neg (by omega)]; exact rb
  obtain ⟨σd, pd, wd, kd⟩ := put_call (k := k) (more := d) (x := .vs vk (bytesV d)) wc (by omega) (source_bytes _ _ _) (by omega) (by simp; omega) (by omega)
  have hall : ∀ b, b ∈ headB name i of d → b < 256 := by
    intro b hb
    simp only [headB, List.cons_append, List.nil_append, List.append_assoc, List.mem_cons] at hb
    rcases hb with rfl | rfl | rfl | rfl | rfl | rfl | h
    all_goals first | omega | exact hd b h
  obtain ⟨σe, q, pe, qe, ke⟩ := sealed_call (k := k) (bs := headB name i of d) wd (by omega) (by simp [headB]) (by simp [headB]; omega) hall (by omega)
  have c1 : IntKind.u8.wrap (i : Int) = (i : Int) := u8_id (by omega)
  have c2 : IntKind.u8.wrap (of : Int) = (of : Int) := u8_id (by omega)
  have c3 : IntKind.u8.wrap (d.length : Int) = (d.length : Int) := u8_id (by omega)
  have run : ∃ T1, execC lawProg (callN lawProg k) k 15 36 (bodyOf Tryz.f15) (initT 0 [.agg [.int .i64 name, .int .i64 i, .int .i64 of, .vs vk (bytesV d)]] .nil) AMem.empty = some (.ret, T1, σe) ∧ T1.get 2 = some (.slice q 0 (sealB (headB name i of d)).length none 1) ∧ T1.get 3 = some (.int .i64 0) := by
    simp only [σ1] at pa
    simp only [bodyOf, Tryz.f15, Option.getD_some, initT, q_seq, q_cond, q_block, q_region, q_drawn, q_skip, q_exit, q_ret, runOps, runD, again, step1, wantA, opSem, evalO, evalL, evalOpt, evalParts, putA, ofConst, ofScalar, ofScalars, abin, abinInt, aun, convA, builtinA, oneTy, elemTy, lenB_vs, lenB_sl, lenB_str, loadA, storeA, storeCellsA, setAt, partA, fillA, placesA, isFn, TyI.isAgg, isSeq, isNum, sliceA, boundA, cells_bool, one_bool, cells_int, one_int, cells_str, one_str, cells_ptr, one_ptr, cells_nilptr, one_nilptr, cells_slice, one_slice, cells_vs, one_vs, cells_vptr, one_vptr, cells_func, one_func, cells_yield, one_yield, cells_nilfn, one_nilfn, cells_nilmap, one_nilmap, cells_map, one_map, cells_agg, setParams, Tr.get_set, AMem.get_put, AMem.get_push, AMem.next_put, AMem.next_push, AMem.get_empty, next_empty, Option.map_some, Option.map_none, Option.bind_some, reduceIte, Nat.reduceLT, Nat.reduceLeDiff, Nat.reduceEqDiff, Nat.reduceAdd, Nat.reduceMul, Nat.reduceSub, Nat.reduceBEq, Nat.zero_add, Nat.add_zero, Nat.mul_one, Nat.one_mul, Nat.zero_mul, and_self, and_true, true_and, false_and, and_false, Bool.and_true, Bool.true_and, Bool.and_false, Bool.false_and, if_true, if_false, Int.reduceEq, Int.reduceLT, Int.reduceLE, Int.reduceToNat, Bool.false_eq_true, Bool.not_true, Bool.not_false, BEq.rfl, beq_true_true, beq_true_false, beq_false_true, beq_false_false, List.length_cons, List.length_nil, List.all_cons, List.all_nil, List.getElem?_cons_zero, List.getElem?_cons_succ, List.getElem?_nil, List.getElem?_toArray, List.take_succ_cons, List.take_zero, List.drop_succ_cons, List.drop_zero, List.set_cons_zero, List.set_cons_succ, List.append_nil, List.nil_append, List.cons_append, decide_true, decide_false, decide_eq_true_eq, Option.isNone_none, Option.isNone_some, Option.isSome_none, Option.isSome_some, Bool.or_true, Bool.true_or, Bool.or_false, Bool.false_or, ne_eq, not_false_eq_true, not_true_eq_false, reduceCtorEq, eq_self, beq_refl, minL, minF, maxL, maxF, repZ, val53, val54, val55, val56, ty3, ty4, ty5, ty22, ty32, ty111, hc, pa, ra, pb, rb, c1, c2, c3, bytesV_length, pc, rc, pd, pe]
    exact ⟨_, rfl, by simp only [Tr.get_set, Nat.reduceEqDiff, reduceIte], by simp only [Tr.get_set, Nat.reduceEqDiff, reduceIte]⟩
  obtain ⟨T1, h1, h2, h3⟩ := run
  exact pureRun_any (seen := [q] ++ ([] ++ [])) fn15 rfl (by simp [Tryz.f15]) h1 (by simp) (res_two h2 h3) (by
    show (snapL (snapF false σe 11) [.slice q 0 (sealB (headB name i of d)).length none 1, .int .i64 0]).map (fun (l, a) => (AVal.tuple l, a)) = _
    simp only [snapL, snap_bytes (d := 9) (bs := sealB (headB name i of d)) (more := []) (cap := none) rfl (by rw [List.append_nil]; exact qe), snap_int, Option.map_some]
    rfl)
end Go.Proofs.YtikhidpcaefjiaaGreatDoor
