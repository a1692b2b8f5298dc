/- The reference's bytes of a chunk and its reading; copies and comparison of chunks. -/
import Derived.Test.YtikhidpcaefjiaaGreatDoorB4
set_option maxRecDepth 100000
set_option linter.unusedSimpArgs false
set_option linter.unusedVariables false
namespace Go.Proofs.YtikhidpcaefjiaaGreatDoor
open Go Go.Proofs.YtikhidpcaefjiaaGreatDoor.Pale
variable {k : Nat} {σ : AMem}

theorem rsealed_call {low q : Nat} {bs : List Nat} (hg : Grew low σ 1 false (.slice q 0 bs.length none 1) bs.length (bytesV bs)) (hlow : low ≤ σ.next) (hq : σ.get q = some (.row 1 false (bytesV bs))) (hb : bs.length ≤ 2000) (hbb : ∀ b, b ∈ bs → b < 256) (hk : 6000 ≤ k) :
    ∃ σ' q', callN lawProg k (.func 61 [] []) [.slice q 0 bs.length none 1] σ = some (.slice q' 0 (sealB bs).length none 1, σ') ∧ σ'.get q' = some (.row 1 false (bytesV (sealB bs))) := by
  obtain ⟨k, rfl⟩ : ∃ m, k = m + 1 := ⟨k - 1, by omega⟩
  obtain ⟨s1, s2⟩ := sumL_bounds 1 bs (by decide)
  obtain ⟨n, hn⟩ : ∃ n : Nat, sumL 1 bs = (n : Int) := ⟨(sumL 1 bs).toNat, by omega⟩
  have hs : sealB bs = bs ++ [n / 256, n % 256] := by unfold sealB; rw [hn]; rfl
  have hsum : pureCall lawProg (callN lawProg k) (.func 13 [] []) [.slice q 0 bs.length none 1] σ = some (.int .i64 (n : Int), σ) := by
    obtain ⟨k, rfl⟩ : ∃ m, k = m + 1 := ⟨k - 1, by omega⟩
    have hx := snap_bytes (fr := false) (d := 10) (bs := bs) (more := []) (cap := none) (n := bs.length) rfl (by rw [List.append_nil]; exact hq)
    have hsn : snapL (snapF false σ snapDepth) [.slice q 0 bs.length none 1] = some ([.vs .some (bytesV bs)], [q] ++ []) := by
      show snapL (snapF false σ (10 + 2)) _ = _
      simp only [snapL, hx]
    rw [← hn]
    exact pureCall_of hsn (memo13 _) (rsum_run bs hbb .some (by omega) (by omega))
  have hg1 : Grew low (σ.push (.row 1 false [.int .u8 ((n / 256 : Nat) : Int), .int .u8 ((n % 256 : Nat) : Int)])) 1 false (.slice q 0 bs.length none 1) bs.length (bytesV bs) := by
    obtain ⟨g1, g2⟩ := hg
    refine ⟨g1, ?_⟩
    rcases g2 with h | ⟨r, h5, h6, h7, h8⟩
    · exact .inl h
    · exact .inr ⟨r, h5, by simp; omega, h7, by rw [AMem.get_push, if_neg (by omega)]; exact h8⟩
  obtain ⟨σ', happ, hgrew, hnext, _⟩ := Grew.append2 (e := ⟨.int .u8, 1, 1, [.int .u8 0]⟩) (n := 2) (x := .slice σ.next 0 2 (some 2) 1) (xs := bytesV [n / 256, n % 256]) hg1 (by simp; omega)
    (by simp only [sourceA, AMem.get_push, reduceIte, List.length_cons, List.length_nil, Nat.reduceAdd, Nat.reduceMul, Nat.reduceLeDiff, List.drop_zero, List.take_succ_cons, List.take_zero]; rfl) rfl (by simp) (by simp) (by simp) (by simp) (by show (bs.length + 2) * 1 ≤ 1099511627776; omega) rfl
  have e1 : ((n : Nat) : Int).tdiv 256 = ((n / 256 : Nat) : Int) := rfl
  have e2 : ((n : Nat) : Int).tmod 256 = ((n % 256 : Nat) : Int) := rfl
  have e3 : IntKind.i64.wrap ((n / 256 : Nat) : Int) = ((n / 256 : Nat) : Int) := i64_id (by omega) (by omega)
  have e4 : IntKind.u8.wrap ((n / 256 : Nat) : Int) = ((n / 256 : Nat) : Int) := u8_id (by omega)
  have e5 : IntKind.u8.wrap ((n % 256 : Nat) : Int) = ((n % 256 : Nat) : Int) := u8_id (by omega)
  obtain ⟨g1, g2⟩ := hgrew
  rcases g2 with ⟨h, _⟩ | ⟨r, h5, h6, h7, h8⟩
  · omega
  simp only [AVal.slice.injEq] at h7
  have run : ∃ T1, execC lawProg (callN lawProg k) k 61 15 (bodyOf Tryz.f61) (initT 0 [.slice q 0 bs.length none 1] .nil) σ = some (.ret, T1, σ') ∧ T1.get 2 = some (.slice (σ.next + 1) 0 (bs.length + 2) none 1) := by
    simp only [AMem.next_push] at happ
    simp only [bodyOf, Tryz.f61, Option.getD_some, initT, q_seq, q_cond, q_block, q_region, q_drawn, q_skip, q_exit, q_ret, runOps, runD, again, step1, wantA, opSem, evalO, evalL, evalOpt, evalParts, putA, ofConst, ofScalar, ofScalars, abin, abinInt, aun, convA, builtinA, oneTy, elemTy, lenB_vs, lenB_sl, lenB_str, loadA, storeA, storeCellsA, setAt, partA, fillA, placesA, isFn, TyI.isAgg, isSeq, isNum, sliceA, boundA, cells_bool, one_bool, cells_int, one_int, cells_str, one_str, cells_ptr, one_ptr, cells_nilptr, one_nilptr, cells_slice, one_slice, cells_vs, one_vs, cells_vptr, one_vptr, cells_func, one_func, cells_yield, one_yield, cells_nilfn, one_nilfn, cells_nilmap, one_nilmap, cells_map, one_map, cells_agg, setParams, Tr.get_set, AMem.get_put, AMem.get_push, AMem.next_put, AMem.next_push, AMem.get_empty, next_empty, Option.map_some, Option.map_none, Option.bind_some, reduceIte, Nat.reduceLT, Nat.reduceLeDiff, Nat.reduceEqDiff, Nat.reduceAdd, Nat.reduceMul, Nat.reduceSub, Nat.reduceBEq, Nat.zero_add, Nat.add_zero, Nat.mul_one, Nat.one_mul, Nat.zero_mul, and_self, and_true, true_and, false_and, and_false, Bool.and_true, Bool.true_and, Bool.and_false, Bool.false_and, if_true, if_false, Int.reduceEq, Int.reduceLT, Int.reduceLE, Int.reduceToNat, Bool.false_eq_true, Bool.not_true, Bool.not_false, BEq.rfl, beq_true_true, beq_true_false, beq_false_true, beq_false_false, List.length_cons, List.length_nil, List.all_cons, List.all_nil, List.getElem?_cons_zero, List.getElem?_cons_succ, List.getElem?_nil, List.getElem?_toArray, List.take_succ_cons, List.take_zero, List.drop_succ_cons, List.drop_zero, List.set_cons_zero, List.set_cons_succ, List.append_nil, List.nil_append, List.cons_append, decide_true, decide_false, decide_eq_true_eq, Option.isNone_none, Option.isNone_some, Option.isSome_none, Option.isSome_some, Bool.or_true, Bool.true_or, Bool.or_false, Bool.false_or, ne_eq, not_false_eq_true, not_true_eq_false, reduceCtorEq, eq_self, beq_refl, minL, minF, maxL, maxF, repZ, val13, ty3, ty5, ty22, hsum, e1, e2, e3, e4, e5, happ]
    exact ⟨_, rfl, by simp only [Tr.get_set, Nat.reduceEqDiff, reduceIte]⟩
  obtain ⟨T1, h1, h2⟩ := run
  have hlen : (sealB bs).length = bs.length + 2 := by rw [hs]; simp
  refine ⟨σ', σ.next + 1, by rw [hlen]; exact q_call (first := []) (caps := []) fn61 rfl (by simp [Tryz.f61]) h1 (by simp) (res_one h2), ?_⟩
  rw [hs, ← bytesV_append]
  have : r = σ.next + 1 := h7.1.symm
  rw [← this]; exact h8

theorem append_full {e : TyI} {r m : Nat} {x : AVal} {cells xs : List AVal} {n : Nat} (he : e.size = 1) (hg : e.isAgg = false) (hb : e.bytes = 1) (hsrc : sourceA 1 σ x = some (xs, n)) (hn : n ≠ 0) (hr : σ.get r = some (.row 1 false cells)) (hc : cells.length = m) (hsz : m + n ≤ 100000) :
    appendA e σ (.slice r 0 m (some m) 1) x = some (.slice σ.next 0 (m + n) none 1, σ.push (.row 1 false (cells ++ xs))) := by
  have hby : (m + n) * 1 ≤ mostBytes := by unfold mostBytes; omega
  simp only [appendA, he, hsrc, if_neg hn, hr, hb, hg]
  rw [if_neg (by simp), if_pos hby, if_pos trivial, if_neg (by omega), if_pos (by omega)]
  have : (cells.drop 0).take (m * 1) = cells := by rw [List.drop_zero, Nat.mul_one, ← hc, List.take_length]
  rw [this]

theorem rChunkBytes_bad (name i of : Int) (vk : VK) (d : List Nat) (hbad : ¬ OkC name i of d) (hk : 5 ≤ k) : pureRun (callN lawProg (k + 1)) (.func 18 [] []) [chunkV name i of vk d] = some (.tuple [.vs .some [], .int .i64 4], true) := by
  have hc : ∀ σ : AMem, pureCall lawProg (callN lawProg k) (.func 40 [] []) [.agg [.int .i64 name, .int .i64 i, .int .i64 of, .vs vk (bytesV d)]] σ = some (.bool false, σ) := fun σ => by
    have := rIsChunk_call (k := k) (σ := σ) (x := .agg [.int .i64 name, .int .i64 i, .int .i64 of, .vs vk (bytesV d)]) (name := name) (i := i) (of := of) (vk := vk) (d := d) rfl (by omega)
    rwa [decide_eq_false hbad] at this
  have run : ∃ T1 σ1, execC lawProg (callN lawProg k) k 18 31 (bodyOf Tryz.f18) (initT 0 [.agg [.int .i64 name, .int .i64 i, .int .i64 of, .vs vk (bytesV d)]] .nil) AMem.empty = some (.ret, T1, σ1) ∧ T1.get 2 = some (.slice 1 0 0 (some 0) 1) ∧ T1.get 3 = some (.int .i64 4) ∧ σ1.get 1 = some (.row 1 false (bytesV ([] ++ []))) := by
    simp only [bodyOf, Tryz.f18, Option.getD_some, initT, q_seq, q_cond, q_block, q_region, q_drawn, q_skip, q_exit, q_ret, runOps, runD, again, step1, wantA, opSem, evalO, evalL, evalOpt, evalParts, putA, ofConst, ofScalar, ofScalars, abin, abinInt, aun, convA, builtinA, oneTy, elemTy, lenB_vs, lenB_sl, lenB_str, loadA, storeA, storeCellsA, setAt, partA, fillA, placesA, isFn, TyI.isAgg, isSeq, isNum, sliceA, boundA, cells_bool, one_bool, cells_int, one_int, cells_str, one_str, cells_ptr, one_ptr, cells_nilptr, one_nilptr, cells_slice, one_slice, cells_vs, one_vs, cells_vptr, one_vptr, cells_func, one_func, cells_yield, one_yield, cells_nilfn, one_nilfn, cells_nilmap, one_nilmap, cells_map, one_map, cells_agg, setParams, Tr.get_set, AMem.get_put, AMem.get_push, AMem.next_put, AMem.next_push, AMem.get_empty, next_empty, Option.map_some, Option.map_none, Option.bind_some, reduceIte, Nat.reduceLT, Nat.reduceLeDiff, Nat.reduceEqDiff, Nat.reduceAdd, Nat.reduceMul, Nat.reduceSub, Nat.reduceBEq, Nat.zero_add, Nat.add_zero, Nat.mul_one, Nat.one_mul, Nat.zero_mul, and_self, and_true, true_and, false_and, and_false, Bool.and_true, Bool.true_and, Bool.and_false, Bool.false_and, if_true, if_false, Int.reduceEq, Int.reduceLT, Int.reduceLE, Int.reduceToNat, Bool.false_eq_true, Bool.not_true, Bool.not_false, BEq.rfl, beq_true_true, beq_true_false, beq_false_true, beq_false_false, List.length_cons, List.length_nil, List.all_cons, List.all_nil, List.getElem?_cons_zero, List.getElem?_cons_succ, List.getElem?_nil, List.getElem?_toArray, List.take_succ_cons, List.take_zero, List.drop_succ_cons, List.drop_zero, List.set_cons_zero, List.set_cons_succ, List.append_nil, List.nil_append, List.cons_append, decide_true, decide_false, decide_eq_true_eq, Option.isNone_none, Option.isNone_some, Option.isSome_none, Option.isSome_some, Bool.or_true, Bool.true_or, Bool.or_false, Bool.false_or, ne_eq, not_false_eq_true, not_true_eq_false, reduceCtorEq, eq_self, beq_refl, minL, minF, maxL, maxF, repZ, val40, val61, ty3, ty4, ty5, ty22, ty32, hc]
    exact ⟨_, _, rfl, by simp only [Tr.get_set, Nat.reduceEqDiff, reduceIte], by simp only [Tr.get_set, Nat.reduceEqDiff, reduceIte], by simp only [AMem.get_push, AMem.next_push, next_empty, Nat.reduceAdd, reduceIte]; rfl⟩
  obtain ⟨T1, σ1, h1, h2, h3, h4⟩ := run
  have hx : snapF true σ1 11 (.slice 1 0 0 (some 0) 1) = some (.vs .some [], [1]) := snap_bytes (d := 9) (bs := []) (more := []) rfl h4
  exact pureRun_of (seen := [1] ++ ([] ++ [])) fn18 rfl (by simp [Tryz.f18]) h1 (by simp) (res_two h2 h3) (by
    show (snapL (snapF true σ1 11) [.slice 1 0 0 (some 0) 1, .int .i64 4]).map (fun (l, a) => (AVal.tuple l, a)) = _
    simp only [snapL, hx, snap_int, Option.map_some])

theorem rChunkBytes_ok (name i of : Nat) (vk : VK) (d : List Nat) (hok : OkC name i of d) (hd : ∀ b, b ∈ d → b < 256) (hk : 7000 ≤ k) : pureRun (callN lawProg (k + 1)) (.func 18 [] []) [chunkV name i of vk d] = some (.tuple [.vs .some (bytesV (encC name i of d)), .int .i64 0], true) := by
  obtain ⟨⟨o1, o2⟩, ⟨o3, o4⟩, ⟨o5, o6⟩, o7, o8⟩ := id hok
  have hc : ∀ σ : AMem, pureCall lawProg (callN lawProg k) (.func 40 [] []) [.agg [.int .i64 name, .int .i64 i, .int .i64 of, .vs vk (bytesV d)]] σ = some (.bool true, σ) := fun σ => by
    have := rIsChunk_call (k := k) (σ := σ) (x := .agg [.int .i64 name, .int .i64 i, .int .i64 of, .vs vk (bytesV d)]) (name := name) (i := i) (of := of) (vk := vk) (d := d) rfl (by omega)
    rwa [decide_eq_true hok] at this
  have hall : ∀ b, b ∈ headB name i of d → b < 256 := by
    intro b hb
    simp only [headB, List.cons_append, List.nil_append, List.append_assoc, List.mem_cons] at hb
    rcases hb with rfl | rfl | rfl | rfl | rfl | rfl | h
    all_goals first | omega | exact hd b h
  let six : List AVal := [.int .u8 81, .int .u8 ((name / 256 : Nat) : Int), .int .u8 ((name % 256 : Nat) : Int), .int .u8 (i : Int), .int .u8 (of : Int), .int .u8 (d.length : Int)]
  let σ1 : AMem := (AMem.empty.push (.row 4 true [.int .i64 name, .int .i64 i, .int .i64 of, .vs vk (bytesV d)])).push (.row 1 false six)
  have happ : appendA ⟨.int .u8, 1, 1, [.int .u8 0]⟩ σ1 (.slice 1 0 6 (some 6) 1) (.vs vk (bytesV d)) = some (.slice 2 0 (6 + d.length) none 1, σ1.push (.row 1 false (six ++ bytesV d))) :=
    append_full (σ := σ1) rfl rfl rfl (source_bytes _ _ _) (by omega) (by simp only [σ1, AMem.get_push, AMem.next_push, next_empty, Nat.reduceAdd, Nat.reduceEqDiff, reduceIte]) rfl (by omega)
  have hhead : six ++ bytesV d = bytesV (headB name i of d) := by simp [six, headB, bytesV]
  have hhl : (headB name i of d).length = 6 + d.length := by simp [headB]; omega
  rw [hhead] at happ
  have hq : (σ1.push (.row 1 false (bytesV (headB name i of d)))).get 2 = some (.row 1 false (bytesV (headB name i of d))) := by simp only [σ1, AMem.get_push, AMem.next_push, next_empty, Nat.reduceAdd, Nat.reduceEqDiff, reduceIte]
  obtain ⟨σe, q, pe, qe⟩ := rsealed_call (k := k) (low := 2) (q := 2) (bs := headB name i of d) (σ := σ1.push (.row 1 false (bytesV (headB name i of d)))) ⟨by rw [bytesV_length]; simp, .inr ⟨2, by omega, by simp [σ1, next_empty], rfl, hq⟩⟩ (by simp [σ1, next_empty]) hq (by omega) hall (by omega)
  rw [hhl] at pe
  have c1 : IntKind.u8.wrap (i : Int) = (i : Int) := u8_id (by omega)
  have c2 : IntKind.u8.wrap (of : Int) = (of : Int) := u8_id (by omega)
  have c3 : IntKind.u8.wrap (d.length : Int) = (d.length : Int) := u8_id (by omega)
  have e1 : ((name : Nat) : Int).tdiv 256 = ((name / 256 : Nat) : Int) := rfl
  have e2 : ((name : Nat) : Int).tmod 256 = ((name % 256 : Nat) : Int) := rfl
  have e3 : IntKind.i64.wrap ((name / 256 : Nat) : Int) = ((name / 256 : Nat) : Int) := i64_id (by omega) (by omega)
  have e4 : IntKind.u8.wrap ((name / 256 : Nat) : Int) = ((name / 256 : Nat) : Int) := u8_id (by omega)
  have e5 : IntKind.u8.wrap ((name % 256 : Nat) : Int) = ((name % 256 : Nat) : Int) := u8_id (by omega)
  have run : ∃ T1, execC lawProg (callN lawProg k) k 18 31 (bodyOf Tryz.f18) (initT 0 [.agg [.int .i64 name, .int .i64 i, .int .i64 of, .vs vk (bytesV d)]] .nil) AMem.empty = some (.ret, T1, σe) ∧ T1.get 2 = some (.slice q 0 (sealB (headB name i of d)).length none 1) ∧ T1.get 3 = some (.int .i64 0) := by
    simp only [σ1, six] at happ pe
    simp only [bodyOf, Tryz.f18, Option.getD_some, initT, q_seq, q_cond, q_block, q_region, q_drawn, q_skip, q_exit, q_ret, runOps, runD, again, step1, wantA, opSem, evalO, evalL, evalOpt, evalParts, putA, ofConst, ofScalar, ofScalars, abin, abinInt, aun, convA, builtinA, oneTy, elemTy, lenB_vs, lenB_sl, lenB_str, loadA, storeA, storeCellsA, setAt, partA, fillA, placesA, isFn, TyI.isAgg, isSeq, isNum, sliceA, boundA, cells_bool, one_bool, cells_int, one_int, cells_str, one_str, cells_ptr, one_ptr, cells_nilptr, one_nilptr, cells_slice, one_slice, cells_vs, one_vs, cells_vptr, one_vptr, cells_func, one_func, cells_yield, one_yield, cells_nilfn, one_nilfn, cells_nilmap, one_nilmap, cells_map, one_map, cells_agg, setParams, Tr.get_set, AMem.get_put, AMem.get_push, AMem.next_put, AMem.next_push, AMem.get_empty, next_empty, Option.map_some, Option.map_none, Option.bind_some, reduceIte, Nat.reduceLT, Nat.reduceLeDiff, Nat.reduceEqDiff, Nat.reduceAdd, Nat.reduceMul, Nat.reduceSub, Nat.reduceBEq, Nat.zero_add, Nat.add_zero, Nat.mul_one, Nat.one_mul, Nat.zero_mul, and_self, and_true, true_and, false_and, and_false, Bool.and_true, Bool.true_and, Bool.and_false, Bool.false_and, if_true, if_false, Int.reduceEq, Int.reduceLT, Int.reduceLE, Int.reduceToNat, Bool.false_eq_true, Bool.not_true, Bool.not_false, BEq.rfl, beq_true_true, beq_true_false, beq_false_true, beq_false_false, List.length_cons, List.length_nil, List.all_cons, List.all_nil, List.getElem?_cons_zero, List.getElem?_cons_succ, List.getElem?_nil, List.getElem?_toArray, List.take_succ_cons, List.take_zero, List.drop_succ_cons, List.drop_zero, List.set_cons_zero, List.set_cons_succ, List.append_nil, List.nil_append, List.cons_append, decide_true, decide_false, decide_eq_true_eq, Option.isNone_none, Option.isNone_some, Option.isSome_none, Option.isSome_some, Bool.or_true, Bool.true_or, Bool.or_false, Bool.false_or, ne_eq, not_false_eq_true, not_true_eq_false, reduceCtorEq, eq_self, beq_refl, minL, minF, maxL, maxF, repZ, val40, val61, ty3, ty4, ty5, ty22, ty32, hc, e1, e2, e3, e4, e5, c1, c2, c3, bytesV_length, happ, pe]
    exact ⟨_, rfl, by simp only [Tr.get_set, Nat.reduceEqDiff, reduceIte], by simp only [Tr.get_set, Nat.reduceEqDiff, reduceIte]⟩
  obtain ⟨T1, h1, h2, h3⟩ := run
  exact pureRun_of (seen := [q] ++ ([] ++ [])) fn18 rfl (by simp [Tryz.f18]) h1 (by simp) (res_two h2 h3) (by
    show (snapL (snapF true σe 11) [.slice q 0 (sealB (headB name i of d)).length none 1, .int .i64 0]).map (fun (l, a) => (AVal.tuple l, a)) = _
    simp only [snapL, snap_bytes (fr := true) (d := 9) (bs := sealB (headB name i of d)) (more := []) (cap := none) rfl (by rw [List.append_nil]; exact qe), snap_int, Option.map_some]
    rfl)
def encRR (name i of : Nat) (d : List Nat) : AVal × Int := if OkC name i of d then (.vs .some (bytesV (encC name i of d)), 0) else (.vs .some [], 4)
theorem rChunkBytes_call {x : AVal} {seen : List Nat} (name i of : Nat) (vk : VK) (d : List Nat) (hx : snapF false σ snapDepth x = some (chunkV name i of vk d, seen)) (hd : ∀ b, b ∈ d → b < 256) (hk : 8000 ≤ k) : pureCall lawProg (callN lawProg k) (.func 18 [] []) [x] σ = some (.tuple [(encRR name i of d).1, .int .i64 (encRR name i of d).2], σ) := by
  obtain ⟨k, rfl⟩ : ∃ m, k = m + 1 := ⟨k - 1, by omega⟩
  have hs : snapL (snapF false σ snapDepth) [x] = some ([chunkV name i of vk d], seen ++ []) := by simp only [snapL, hx]
  unfold encRR
  by_cases hok : OkC name i of d
  · rw [if_pos hok]
    exact pureCall_of hs (memo18 _) (rChunkBytes_ok (k := k) name i of vk d hok hd (by omega))
  · rw [if_neg hok]
    exact pureCall_of hs (memo18 _) (rChunkBytes_bad (k := k) name i of vk d hok (by omega))
end Go.Proofs.YtikhidpcaefjiaaGreatDoor
