/- The writer of bytes, and the bytes of a chunk. -/
import Derived.Test.YtikhidpcaefjiaaGreatDoorB1
set_option maxRecDepth 100000
set_option linter.unusedSimpArgs false
set_option linter.unusedVariables false
namespace Go.Proofs.YtikhidpcaefjiaaGreatDoor
open Go Go.Proofs.YtikhidpcaefjiaaGreatDoor.Pale
variable {k : Nat} {σ : AMem}

theorem u8_id {n : Nat} (h : n < 256) : IntKind.u8.wrap (n : Int) = (n : Int) := by rw [u8_nat, Nat.mod_eq_of_lt h]

/-- A writer: its row holds what it wrote so far; rows below are kept. -/
def Writes (low r : Nat) (bs : List Nat) (σ : AMem) : Prop := ∃ out, σ.get r = some (.row 1 true [out]) ∧ Grew low σ 1 false out bs.length (bytesV bs) ∧ low ≤ σ.next
def Keeps (low r : Nat) (σ σ' : AMem) : Prop := ∀ s, s < low → s ≠ r → σ'.get s = σ.get s
theorem Writes.push {low r : Nat} {bs : List Nat} {o : AObj} (h : Writes low r bs σ) (hr : r < low) : Writes low r bs (σ.push o) := by
  obtain ⟨out, h1, ⟨h2, h3⟩, h4⟩ := h
  refine ⟨out, by rw [AMem.get_push, if_neg (by omega)]; exact h1, ⟨h2, ?_⟩, by simp; omega⟩
  rcases h3 with h | ⟨q, h5, h6, h7, h8⟩
  · exact .inl h
  · exact .inr ⟨q, h5, by simp; omega, h7, by rw [AMem.get_push, if_neg (by omega)]; exact h8⟩

theorem put_call {low r : Nat} {bs more : List Nat} {x : AVal} (h : Writes low r bs σ) (hr : r < low) (hsrc : sourceA 1 σ x = some (bytesV more, more.length)) (hm : more.length ≠ 0) (hb : bs.length + more.length ≤ 100000) (hk : 1 ≤ k) :
    ∃ σ', callN lawProg k (.func 54 [] []) [.ptr r 0, x] σ = some (.tuple [], σ') ∧ Writes low r (bs ++ more) σ' ∧ Keeps low r σ σ' := by
  obtain ⟨k, rfl⟩ : ∃ m, k = m + 1 := ⟨k - 1, by omega⟩
  obtain ⟨out, h1, hg, h4⟩ := h
  obtain ⟨out', σ1, happ, hgrew, hnext, hlow, hone⟩ := Grew.append (e := ⟨.int .u8, 1, 1, [.int .u8 0]⟩) (n := more.length) (x := x) (xs := bytesV more) hg h4 hsrc (by rw [bytesV_length]; simp) hm (by simp) (by simp) (by simp) (by show (bs.length + more.length) * 1 ≤ 1099511627776; omega) (bytesV_all _)
  have g1 : σ1.get r = some (.row 1 true [out]) := by rw [hlow r hr]; exact h1
  have hcells := cells_one hone
  have run : ∃ T1, execC lawProg (callN lawProg k) k 54 13 (bodyOf Tryz.f54) (initT 0 [.ptr r 0, x] .nil) σ = some (.normal, T1, σ1.put r (.row 1 true [out'])) := by
    simp only [bodyOf, Tryz.f54, Option.getD_some, initT, q_seq, q_cond, q_block, q_region, q_drawn, q_skip, q_exit, q_ret, runOps, runD, again, step1, wantA, opSem, evalO, evalL, evalOpt, evalParts, putA, ofConst, ofScalar, ofScalars, abin, abinInt, aun, convA, builtinA, oneTy, elemTy, lenB_vs, lenB_sl, lenB_str, loadA, storeA, storeCellsA, setAt, partA, fillA, placesA, isFn, TyI.isAgg, isSeq, isNum, sliceA, boundA, cells_bool, one_bool, cells_int, one_int, cells_str, one_str, cells_ptr, one_ptr, cells_nilptr, one_nilptr, cells_slice, one_slice, cells_vs, one_vs, cells_vptr, one_vptr, cells_func, one_func, cells_yield, one_yield, cells_nilfn, one_nilfn, cells_nilmap, one_nilmap, cells_map, one_map, cells_agg, setParams, Tr.get_set, AMem.get_put, AMem.get_push, AMem.next_put, AMem.next_push, AMem.get_empty, next_empty, Option.map_some, Option.map_none, Option.bind_some, reduceIte, Nat.reduceLT, Nat.reduceLeDiff, Nat.reduceEqDiff, Nat.reduceAdd, Nat.reduceMul, Nat.reduceSub, Nat.reduceBEq, Nat.zero_add, Nat.add_zero, Nat.mul_one, Nat.one_mul, Nat.zero_mul, and_self, and_true, true_and, false_and, and_false, Bool.and_true, Bool.true_and, Bool.and_false, Bool.false_and, if_true, if_false, Int.reduceEq, Int.reduceLT, Int.reduceLE, Int.reduceToNat, Bool.false_eq_true, Bool.not_true, Bool.not_false, BEq.rfl, beq_true_true, beq_true_false, beq_false_true, beq_false_false, List.length_cons, List.length_nil, List.all_cons, List.all_nil, List.getElem?_cons_zero, List.getElem?_cons_succ, List.getElem?_nil, List.getElem?_toArray, List.take_succ_cons, List.take_zero, List.drop_succ_cons, List.drop_zero, List.set_cons_zero, List.set_cons_succ, List.append_nil, List.nil_append, List.cons_append, decide_true, decide_false, decide_eq_true_eq, Option.isNone_none, Option.isNone_some, Option.isSome_none, Option.isSome_some, Bool.or_true, Bool.true_or, Bool.or_false, Bool.false_or, ne_eq, not_false_eq_true, not_true_eq_false, reduceCtorEq, eq_self, beq_refl, minL, minF, maxL, maxF, repZ, ty5, ty22, ty111, h1, happ, g1, hcells, hone]
    exact ⟨_, rfl⟩
  obtain ⟨T1, h2⟩ := run
  refine ⟨_, q_call (first := []) (caps := []) (vs := []) fn54 rfl (by simp [Tryz.f54]) h2 (by simp) rfl, ⟨out', by rw [AMem.get_put, if_pos rfl], ?_, by simp; omega⟩, fun s hs hne => by rw [AMem.get_put, if_neg (Ne.symm hne)]; exact hlow s hs⟩
  obtain ⟨c1, c2⟩ := hgrew
  rw [List.length_append, ← bytesV_append]
  refine ⟨c1, ?_⟩
  rcases c2 with ⟨h, _⟩ | ⟨q, h5, h6, h7, h8⟩
  · omega
  · exact .inr ⟨q, h5, h6, h7, by rw [AMem.get_put, if_neg (by omega)]; exact h8⟩

theorem wpair_call {low r : Nat} {bs : List Nat} {n : Nat} (h : Writes low r bs σ) (hr : r < low) (hn : n < 65536) (hb : bs.length ≤ 10000) (hk : 2 ≤ k) :
    ∃ σ', callN lawProg k (.func 55 [] []) [.ptr r 0, .int .i64 n] σ = some (.tuple [], σ') ∧ Writes low r (bs ++ [n / 256, n % 256]) σ' ∧ Keeps low r σ σ' := by
  obtain ⟨k, rfl⟩ : ∃ m, k = m + 1 := ⟨k - 1, by omega⟩
  obtain ⟨out, o1, o2, o3⟩ := id h
  obtain ⟨σ', hp, hw, hkeep⟩ := put_call (k := k) (σ := σ.push (.row 1 false [.int .u8 ((n / 256 : Nat) : Int), .int .u8 ((n % 256 : Nat) : Int)])) (more := [n / 256, n % 256]) (x := .slice σ.next 0 2 (some 2) 1) (h.push hr) hr (by
      simp only [sourceA, AMem.get_push, reduceIte, List.length_cons, List.length_nil, Nat.reduceAdd, Nat.reduceMul, Nat.reduceLeDiff, List.drop_zero, List.take_succ_cons, List.take_zero]; rfl) (by simp) (by simp; omega) (by omega)
  have e1 : ((n : Nat) : Int).tdiv 256 = ((n / 256 : Nat) : Int) := rfl
  have e2 : ((n : Nat) : Int).tmod 256 = ((n % 256 : Nat) : Int) := rfl
  have e3 : IntKind.i64.wrap ((n / 256 : Nat) : Int) = ((n / 256 : Nat) : Int) := i64_id (by omega) (by omega)
  have e4 : IntKind.u8.wrap ((n / 256 : Nat) : Int) = ((n / 256 : Nat) : Int) := u8_id (by omega)
  have e5 : IntKind.u8.wrap ((n % 256 : Nat) : Int) = ((n % 256 : Nat) : Int) := u8_id (by omega)
  have run : ∃ T1, execC lawProg (callN lawProg k) k 55 13 (bodyOf Tryz.f55) (initT 0 [.ptr r 0, .int .i64 n] .nil) σ = some (.normal, T1, σ') := by
    simp only [bodyOf, Tryz.f55, Option.getD_some, initT, q_seq, q_cond, q_block, q_region, q_drawn, q_skip, q_exit, q_ret, runOps, runD, again, step1, wantA, opSem, evalO, evalL, evalOpt, evalParts, putA, ofConst, ofScalar, ofScalars, abin, abinInt, aun, convA, builtinA, oneTy, elemTy, lenB_vs, lenB_sl, lenB_str, loadA, storeA, storeCellsA, setAt, partA, fillA, placesA, isFn, TyI.isAgg, isSeq, isNum, sliceA, boundA, cells_bool, one_bool, cells_int, one_int, cells_str, one_str, cells_ptr, one_ptr, cells_nilptr, one_nilptr, cells_slice, one_slice, cells_vs, one_vs, cells_vptr, one_vptr, cells_func, one_func, cells_yield, one_yield, cells_nilfn, one_nilfn, cells_nilmap, one_nilmap, cells_map, one_map, cells_agg, setParams, Tr.get_set, AMem.get_put, AMem.get_push, AMem.next_put, AMem.next_push, AMem.get_empty, next_empty, Option.map_some, Option.map_none, Option.bind_some, reduceIte, Nat.reduceLT, Nat.reduceLeDiff, Nat.reduceEqDiff, Nat.reduceAdd, Nat.reduceMul, Nat.reduceSub, Nat.reduceBEq, Nat.zero_add, Nat.add_zero, Nat.mul_one, Nat.one_mul, Nat.zero_mul, and_self, and_true, true_and, false_and, and_false, Bool.and_true, Bool.true_and, Bool.and_false, Bool.false_and, if_true, if_false, Int.reduceEq, Int.reduceLT, Int.reduceLE, Int.reduceToNat, Bool.false_eq_true, Bool.not_true, Bool.not_false, BEq.rfl, beq_true_true, beq_true_false, beq_false_true, beq_false_false, List.length_cons, List.length_nil, List.all_cons, List.all_nil, List.getElem?_cons_zero, List.getElem?_cons_succ, List.getElem?_nil, List.getElem?_toArray, List.take_succ_cons, List.take_zero, List.drop_succ_cons, List.drop_zero, List.set_cons_zero, List.set_cons_succ, List.append_nil, List.nil_append, List.cons_append, decide_true, decide_false, decide_eq_true_eq, Option.isNone_none, Option.isNone_some, Option.isSome_none, Option.isSome_some, Bool.or_true, Bool.true_or, Bool.or_false, Bool.false_or, ne_eq, not_false_eq_true, not_true_eq_false, reduceCtorEq, eq_self, beq_refl, minL, minF, maxL, maxF, repZ, val54, ty3, ty5, ty22, e1, e2, e3, e4, e5, hp]
    exact ⟨_, rfl⟩
  obtain ⟨T1, h2⟩ := run
  exact ⟨_, q_call (first := []) (caps := []) (vs := []) fn55 rfl (by simp [Tryz.f55]) h2 (by simp) rfl, hw, fun s hs hne => by rw [hkeep s hs hne, AMem.get_push, if_neg (by omega)]⟩

/-- Bytes with their sum behind them. -/
def sealB (bs : List Nat) : List Nat := bs ++ [(sumL 1 bs).toNat / 256, (sumL 1 bs).toNat % 256]
theorem sealed_call {low r : Nat} {bs : List Nat} (h : Writes low r bs σ) (hr : r < low) (hne : bs.length ≠ 0) (hb : bs.length ≤ 2000) (hbb : ∀ b, b ∈ bs → b < 256) (hk : 6000 ≤ k) :
    ∃ σ' q, callN lawProg k (.func 56 [] []) [.ptr r 0] σ = some (.slice q 0 (sealB bs).length none 1, σ') ∧ σ'.get q = some (.row 1 false (bytesV (sealB bs))) ∧ Keeps low r σ σ' := by
  obtain ⟨k, rfl⟩ : ∃ m, k = m + 1 := ⟨k - 1, by omega⟩
  obtain ⟨s1, s2⟩ := sumL_bounds 1 bs (by decide)
  obtain ⟨n, hn⟩ : ∃ n : Nat, sumL 1 bs = (n : Int) := ⟨(sumL 1 bs).toNat, by omega⟩
  obtain ⟨σ', hp, hw, hkeep⟩ := wpair_call (k := k) (n := n) h hr (by omega) (by omega) (by omega)
  obtain ⟨out, o1, ⟨o2, o3⟩, o4⟩ := h
  rcases o3 with ⟨h0, _⟩ | ⟨q, q1, q2, rfl, q4⟩
  · exact absurd h0 hne
  have hsum := sum_call (k := k) (σ := σ) (x := .slice q 0 bs.length none 1) bs hbb (snap_bytes (d := 10) (bs := bs) (more := []) rfl (by rw [List.append_nil]; exact q4)) (by omega) (by omega)
  rw [hn] at hsum
  obtain ⟨out', p1, ⟨p2, p3⟩, p4⟩ := hw
  rcases p3 with ⟨h0, _⟩ | ⟨q', q1', q2', rfl, q4'⟩
  · simp at h0
  have hs : sealB bs = bs ++ [n / 256, n % 256] := by unfold sealB; rw [hn]; rfl
  have run : ∃ T1, execC lawProg (callN lawProg k) k 56 14 (bodyOf Tryz.f56) (initT 0 [.ptr r 0] .nil) σ = some (.ret, T1, σ') ∧ T1.get 2 = some (.slice q' 0 (bs ++ [n / 256, n % 256]).length none 1) := by
    simp only [bodyOf, Tryz.f56, Option.getD_some, initT, q_seq, q_cond, q_block, q_region, q_drawn, q_skip, q_exit, q_ret, runOps, runD, again, step1, wantA, opSem, evalO, evalL, evalOpt, evalParts, putA, ofConst, ofScalar, ofScalars, abin, abinInt, aun, convA, builtinA, oneTy, elemTy, lenB_vs, lenB_sl, lenB_str, loadA, storeA, storeCellsA, setAt, partA, fillA, placesA, isFn, TyI.isAgg, isSeq, isNum, sliceA, boundA, cells_bool, one_bool, cells_int, one_int, cells_str, one_str, cells_ptr, one_ptr, cells_nilptr, one_nilptr, cells_slice, one_slice, cells_vs, one_vs, cells_vptr, one_vptr, cells_func, one_func, cells_yield, one_yield, cells_nilfn, one_nilfn, cells_nilmap, one_nilmap, cells_map, one_map, cells_agg, setParams, Tr.get_set, AMem.get_put, AMem.get_push, AMem.next_put, AMem.next_push, AMem.get_empty, next_empty, Option.map_some, Option.map_none, Option.bind_some, reduceIte, Nat.reduceLT, Nat.reduceLeDiff, Nat.reduceEqDiff, Nat.reduceAdd, Nat.reduceMul, Nat.reduceSub, Nat.reduceBEq, Nat.zero_add, Nat.add_zero, Nat.mul_one, Nat.one_mul, Nat.zero_mul, and_self, and_true, true_and, false_and, and_false, Bool.and_true, Bool.true_and, Bool.and_false, Bool.false_and, if_true, if_false, Int.reduceEq, Int.reduceLT, Int.reduceLE, Int.reduceToNat, Bool.false_eq_true, Bool.not_true, Bool.not_false, BEq.rfl, beq_true_true, beq_true_false, beq_false_true, beq_false_false, List.length_cons, List.length_nil, List.all_cons, List.all_nil, List.getElem?_cons_zero, List.getElem?_cons_succ, List.getElem?_nil, List.getElem?_toArray, List.take_succ_cons, List.take_zero, List.drop_succ_cons, List.drop_zero, List.set_cons_zero, List.set_cons_succ, List.append_nil, List.nil_append, List.cons_append, decide_true, decide_false, decide_eq_true_eq, Option.isNone_none, Option.isNone_some, Option.isSome_none, Option.isSome_some, Bool.or_true, Bool.true_or, Bool.or_false, Bool.false_or, ne_eq, not_false_eq_true, not_true_eq_false, reduceCtorEq, eq_self, beq_refl, minL, minF, maxL, maxF, repZ, val12, val55, ty5, ty22, ty111, o1, hsum, hp, p1]
    exact ⟨_, rfl, by simp only [Tr.get_set, Nat.reduceEqDiff, reduceIte]⟩
  obtain ⟨T1, h1, h2⟩ := run
  exact ⟨σ', q', by rw [hs]; exact q_call (first := []) (caps := []) fn56 rfl (by simp [Tryz.f56]) h1 (by simp) (res_one h2), by rw [hs]; exact q4', hkeep⟩
end Go.Proofs.YtikhidpcaefjiaaGreatDoor
