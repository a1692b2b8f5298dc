/- The law PackSplits on the abstract machine: true for every message, name and size. -/
import Derived.Test.YtikhidpcaefjiaaGreatDoorA6
set_option maxRecDepth 100000
set_option linter.unusedSimpArgs false
set_option linter.unusedVariables false
namespace Go.Proofs.YtikhidpcaefjiaaGreatDoor
open Go Go.Proofs.YtikhidpcaefjiaaGreatDoor.Pale
variable {k : Nat} {σ : AMem}

theorem awake_call (call : CallA) : pureCall lawProg call (.func 9 [] []) [] σ = some (.bool true, σ) := pureCall_memo (args := []) rfl memo9

theorem copy_bytes (vk : VK) {bs : List Nat} (hn : bs.length ≤ 1000000) : ∃ x σ1 seen, appendA ⟨.int .u8, 1, 1, [.int .u8 0]⟩ (σ.push (.row 1 false [])) (.slice σ.next 0 0 (some 0) 1) (.vs vk (bytesV bs)) = some (x, σ1) ∧ snapF false σ1 snapDepth x = some (.vs .some (bytesV bs), seen) := by
  have h := append_bytes (σ := σ.push (.row 1 false [])) (e := ⟨.int .u8, 1, 1, [.int .u8 0]⟩) (r := σ.next) (x := .vs vk (bytesV bs)) (bs := bs) rfl rfl rfl (source_bytes _ _ _) (by rw [AMem.get_push, if_pos rfl]) hn
  by_cases h0 : bs.length = 0
  · have hb : bs = [] := List.eq_nil_of_length_eq_zero h0
    subst hb
    rw [if_pos h0, if_pos h0] at h
    exact ⟨_, _, [σ.next], h, snap_bytes (d := 10) (bs := []) (more := []) rfl (by rw [AMem.get_push, if_pos rfl]; rfl)⟩
  · rw [if_neg h0, if_neg h0] at h
    exact ⟨_, _, [(σ.push (.row 1 false [])).next], h, snap_bytes (d := 10) (bs := bs) (more := []) rfl (by rw [AMem.get_push, if_pos rfl, List.append_nil])⟩

theorem split_call {x : AVal} {seen : List Nat} (bs : List Nat) (name size : Int) (hx : snapF false σ snapDepth x = some (.vs .some (bytesV bs), seen)) (hn : bs.length ≤ 3000) (hk : 5000 ≤ k) : ∃ σ', pureCall lawProg (callN lawProg k) (.func 10 [] []) [x, .int .i64 name, .int .i64 size] σ = some (.tuple [(splitR bs name size).1, .int .i64 (splitR bs name size).2], σ') := by
  obtain ⟨k, rfl⟩ : ∃ m, k = m + 1 := ⟨k - 1, by omega⟩
  obtain ⟨b, hr⟩ := split_run (k := k) bs name size hn (by omega)
  have hs : snapL (snapF false σ snapDepth) [x, .int .i64 name, .int .i64 size] = some ([.vs .some (bytesV bs), .int .i64 name, .int .i64 size], seen ++ ([] ++ ([] ++ []))) := by
    simp only [snapL, hx]; rfl
  exact ⟨if b then σ else delAll σ (seen ++ ([] ++ ([] ++ []))), by simp only [pureCall, hs, memoRun, isFn, memo10, hr]⟩
theorem rsplit_call (vk : VK) (bs : List Nat) (name size : Int) (hn : bs.length ≤ 3000) (hk : 5000 ≤ k) : pureCall lawProg (callN lawProg k) (.func 11 [] []) [.vs vk (bytesV bs), .int .i64 name, .int .i64 size] σ = some (.tuple [(splitR bs name size).1, .int .i64 (splitR bs name size).2], σ) := by
  obtain ⟨k, rfl⟩ : ∃ m, k = m + 1 := ⟨k - 1, by omega⟩
  obtain ⟨b, hr⟩ := rsplit_run (k := k) vk bs name size hn (by omega)
  exact pureCall_of0 rfl (memo11 _) hr
theorem sum_call {x : AVal} {seen : List Nat} (bs : List Nat) (hb : ∀ b, b ∈ bs → b < 256) (hx : snapF false σ snapDepth x = some (.vs .some (bytesV bs), seen)) (hn : bs.length ≤ 3000) (hk : 5000 ≤ k) : pureCall lawProg (callN lawProg k) (.func 12 [] []) [x] σ = some (.int .i64 (sumL 1 bs), σ) := by
  obtain ⟨k, rfl⟩ : ∃ m, k = m + 1 := ⟨k - 1, by omega⟩
  have hs : snapL (snapF false σ snapDepth) [x] = some ([.vs .some (bytesV bs)], seen ++ []) := by simp only [snapL, hx]
  exact pureCall_of hs (memo12 _) (sum_run bs hb .some (by omega) (by omega))
theorem rsum_call (vk : VK) (bs : List Nat) (hb : ∀ b, b ∈ bs → b < 256) (hn : bs.length ≤ 3000) (hk : 5000 ≤ k) : pureCall lawProg (callN lawProg k) (.func 13 [] []) [.vs vk (bytesV bs)] σ = some (.int .i64 (sumL 1 bs), σ) := by
  obtain ⟨k, rfl⟩ : ∃ m, k = m + 1 := ⟨k - 1, by omega⟩
  exact pureCall_of rfl (memo13 _) (rsum_run bs hb vk (by omega) (by omega))
theorem split_shape (bs : List Nat) (name size : Int) : ∃ vk es, (splitR bs name size).1 = .vs vk es ∧ AreChunks es ∧ es.length ≤ 1000 := by
  unfold splitR
  split
  · exact ⟨_, _, rfl, by intro j v h; simp at h, by simp⟩
  · split
    · exact ⟨_, _, rfl, by intro j v h; simp at h, by simp⟩
    · split
      · exact ⟨_, _, rfl, by intro j v h; simp at h, by simp⟩
      · rename_i h
        refine ⟨_, _, rfl, ?_, by simp [chunkL]; omega⟩
        intro j v hv
        simp only [chunkL, List.map_map, List.getElem?_map, Option.map_eq_some_iff] at hv
        obtain ⟨i, _, rfl⟩ := hv
        exact ⟨_, _, _, _, rfl⟩
theorem samechunks_call (vk : VK) (es : List AVal) (hes : AreChunks es) (hn : es.length ≤ 1000) (hk : 5000 ≤ k) : pureCall lawProg (callN lawProg k) (.func 14 [] []) [.vs vk es, .vs vk es] σ = some (.bool true, σ) := by
  obtain ⟨k, rfl⟩ : ∃ m, k = m + 1 := ⟨k - 1, by omega⟩
  exact pureCall_of rfl (memo14 _) (samechunks_run vk es hes hn (by omega))

theorem law_run (vk : VK) (bs : List Nat) (hb : ∀ b, b ∈ bs → b < 256) (name size : Int) (hk : 5000 ≤ k) : ∃ σ', callN lawProg (k + 1) (.func 3 [] []) [.vs vk (bytesV bs), .int .i64 name, .int .i64 size] AMem.empty = some (.bool true, σ') := by
  have run : ∃ T1 σ1, execC lawProg (callN lawProg k) k 3 51 (bodyOf Tryz.f3) (initT 0 [.vs vk (bytesV bs), .int .i64 name, .int .i64 size] .nil) AMem.empty = some (.ret, T1, σ1) ∧ T1.get 6 = some (.bool true) := by
    by_cases hlen : (bs.length : Int) > 3000
    · simp only [bodyOf, Tryz.f3, Option.getD_some, initT, q_seq, q_cond, q_block, q_region, q_drawn, q_skip, q_exit, q_ret, runOps, runD, again, step1, wantA, opSem, evalO, evalL, evalOpt, evalParts, putA, ofConst, ofScalar, ofScalars, abin, abinInt, aun, convA, builtinA, oneTy, elemTy, lenB_vs, lenB_sl, lenB_str, loadA, storeA, storeCellsA, setAt, partA, fillA, placesA, isFn, TyI.isAgg, isSeq, isNum, sliceA, boundA, cells_bool, one_bool, cells_int, one_int, cells_str, one_str, cells_ptr, one_ptr, cells_nilptr, one_nilptr, cells_slice, one_slice, cells_vs, one_vs, cells_vptr, one_vptr, cells_func, one_func, cells_yield, one_yield, cells_nilfn, one_nilfn, cells_nilmap, one_nilmap, cells_map, one_map, cells_agg, setParams, Tr.get_set, AMem.get_put, AMem.get_push, AMem.next_put, AMem.next_push, AMem.get_empty, next_empty, Option.map_some, Option.map_none, Option.bind_some, reduceIte, Nat.reduceLT, Nat.reduceLeDiff, Nat.reduceEqDiff, Nat.reduceAdd, Nat.reduceMul, Nat.reduceSub, Nat.reduceBEq, Nat.zero_add, Nat.add_zero, Nat.mul_one, Nat.one_mul, Nat.zero_mul, and_self, and_true, true_and, false_and, and_false, Bool.and_true, Bool.true_and, Bool.and_false, Bool.false_and, if_true, if_false, Int.reduceEq, Int.reduceLT, Int.reduceLE, Int.reduceToNat, Bool.false_eq_true, Bool.not_true, Bool.not_false, BEq.rfl, beq_true_true, beq_true_false, beq_false_true, beq_false_false, List.length_cons, List.length_nil, List.all_cons, List.all_nil, List.getElem?_cons_zero, List.getElem?_cons_succ, List.getElem?_nil, List.getElem?_toArray, List.take_succ_cons, List.take_zero, List.drop_succ_cons, List.drop_zero, List.set_cons_zero, List.set_cons_succ, List.append_nil, List.nil_append, List.cons_append, decide_true, decide_false, decide_eq_true_eq, Option.isNone_none, Option.isNone_some, Option.isSome_none, Option.isSome_some, Bool.or_true, Bool.true_or, Bool.or_false, Bool.false_or, ne_eq, not_false_eq_true, not_true_eq_false, reduceCtorEq, eq_self, beq_refl, minL, minF, maxL, maxF, repZ, val9, val10, val11, val12, val13, val14, ty3, ty5, ty22, ty25, bytesV_length, hlen, awake_call]
      exact ⟨_, _, rfl, by simp only [Tr.get_set, Nat.reduceEqDiff, reduceIte]⟩
    · have hn : bs.length ≤ 3000 := by omega
      obtain ⟨x, σ1, seen, ha, hx⟩ := copy_bytes (σ := AMem.empty) vk (bs := bs) (by omega)
      obtain ⟨σ2, hsp⟩ := split_call (k := k) bs name size hx hn hk
      obtain ⟨x2, σ3, seen2, ha2, hx2⟩ := copy_bytes (σ := σ2) vk (bs := bs) (by omega)
      have hsum := sum_call (k := k) bs hb hx2 hn hk
      obtain ⟨vk2, es, hv, hes, hel⟩ := split_shape bs name size
      rw [hv] at hsp
      have hrs := fun (σ : AMem) => rsplit_call (σ := σ) vk bs name size hn hk
      simp only [hv] at hrs
      simp only [next_empty] at ha
      simp only [bodyOf, Tryz.f3, Option.getD_some, initT, q_seq, q_cond, q_block, q_region, q_drawn, q_skip, q_exit, q_ret, runOps, runD, again, step1, wantA, opSem, evalO, evalL, evalOpt, evalParts, putA, ofConst, ofScalar, ofScalars, abin, abinInt, aun, convA, builtinA, oneTy, elemTy, lenB_vs, lenB_sl, lenB_str, loadA, storeA, storeCellsA, setAt, partA, fillA, placesA, isFn, TyI.isAgg, isSeq, isNum, sliceA, boundA, cells_bool, one_bool, cells_int, one_int, cells_str, one_str, cells_ptr, one_ptr, cells_nilptr, one_nilptr, cells_slice, one_slice, cells_vs, one_vs, cells_vptr, one_vptr, cells_func, one_func, cells_yield, one_yield, cells_nilfn, one_nilfn, cells_nilmap, one_nilmap, cells_map, one_map, cells_agg, setParams, Tr.get_set, AMem.get_put, AMem.get_push, AMem.next_put, AMem.next_push, AMem.get_empty, next_empty, Option.map_some, Option.map_none, Option.bind_some, reduceIte, Nat.reduceLT, Nat.reduceLeDiff, Nat.reduceEqDiff, Nat.reduceAdd, Nat.reduceMul, Nat.reduceSub, Nat.reduceBEq, Nat.zero_add, Nat.add_zero, Nat.mul_one, Nat.one_mul, Nat.zero_mul, and_self, and_true, true_and, false_and, and_false, Bool.and_true, Bool.true_and, Bool.and_false, Bool.false_and, if_true, if_false, Int.reduceEq, Int.reduceLT, Int.reduceLE, Int.reduceToNat, Bool.false_eq_true, Bool.not_true, Bool.not_false, BEq.rfl, beq_true_true, beq_true_false, beq_false_true, beq_false_false, List.length_cons, List.length_nil, List.all_cons, List.all_nil, List.getElem?_cons_zero, List.getElem?_cons_succ, List.getElem?_nil, List.getElem?_toArray, List.take_succ_cons, List.take_zero, List.drop_succ_cons, List.drop_zero, List.set_cons_zero, List.set_cons_succ, List.append_nil, List.nil_append, List.cons_append, decide_true, decide_false, decide_eq_true_eq, Option.isNone_none, Option.isNone_some, Option.isSome_none, Option.isSome_some, Bool.or_true, Bool.true_or, Bool.or_false, Bool.false_or, ne_eq, not_false_eq_true, not_true_eq_false, reduceCtorEq, eq_self, beq_refl, minL, minF, maxL, maxF, repZ, val9, val10, val11, val12, val13, val14, ty3, ty5, ty22, ty25, bytesV_length, hlen, ha, hsp, hrs, ha2, hsum, rsum_call vk bs hb hn hk, samechunks_call vk2 es hes hel hk, awake_call]
      exact ⟨_, _, rfl, by simp only [Tr.get_set, Nat.reduceEqDiff, reduceIte]⟩
  obtain ⟨T1, σ1, h1, h2⟩ := run
  exact ⟨σ1, q_call (first := []) (caps := []) fn3 rfl (by simp [Tryz.f3]) h1 (by simp) (res_one h2)⟩
end Go.Proofs.YtikhidpcaefjiaaGreatDoor
