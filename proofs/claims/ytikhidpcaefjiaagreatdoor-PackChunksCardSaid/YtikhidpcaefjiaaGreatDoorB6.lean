/- Reading a chunk: the reference's side; the law PackChunks on the abstract machine. -/
import Derived.Test.YtikhidpcaefjiaaGreatDoorB5
set_option maxRecDepth 100000
set_option linter.unusedSimpArgs false
set_option linter.unusedVariables false
namespace Go.Proofs.YtikhidpcaefjiaaGreatDoor
open Go Go.Proofs.YtikhidpcaefjiaaGreatDoor.Pale
variable {k : Nat} {σ : AMem}

def rData (bs : List Nat) : List Nat := (bs.drop 6).take (bs.length - 8)
def readR (bs : List Nat) : AVal × Int :=
  if bs.length < 9 then (chunkV 0 0 0 .nil [], 4)
  else if OkC (pName bs) (pAt bs) (pOf bs) (rData bs) ∧ encC (pName bs) (pAt bs) (pOf bs) (rData bs) = bs then (chunkV (pName bs) (pAt bs) (pOf bs) .some (rData bs), 0) else (chunkV 0 0 0 .nil [], 4)

theorem encC_length (name i of : Nat) (d : List Nat) : (encC name i of d).length = d.length + 8 := by simp [encC, sealB, headB]
theorem encC_five (name i of : Nat) (d : List Nat) : ((encC name i of d).drop 5).headD 0 = d.length := by simp [encC, sealB, headB]

/-- THE PROGRAM AND THE REFERENCE READ THE SAME. -/
theorem readR_eq (bs : List Nat) : readR bs = readP bs := by
  unfold readR readP
  by_cases h9 : bs.length < 9
  · rw [if_pos h9, if_neg]
    rintro ⟨⟨_, _, _, h1, _⟩, h2⟩
    have := encC_length (pName bs) (pAt bs) (pOf bs) (pData bs)
    rw [h2] at this
    omega
  · rw [if_neg h9]
    have dl : (bs.drop 6).length = bs.length - 6 := List.length_drop
    by_cases hp : encC (pName bs) (pAt bs) (pOf bs) (pData bs) = bs
    · have hlen := encC_length (pName bs) (pAt bs) (pOf bs) (pData bs)
      rw [hp] at hlen
      have hd : pData bs = rData bs := by
        have h1 : (pData bs).length = min (pLen bs) (bs.length - 6) := by simp only [pData, List.length_take, dl]; omega
        unfold pData rData
        congr 1
        rw [dl]
        omega
      rw [hd]
    · by_cases hr : encC (pName bs) (pAt bs) (pOf bs) (rData bs) = bs
      · exfalso
        apply hp
        have h5 := encC_five (pName bs) (pAt bs) (pOf bs) (rData bs)
        rw [hr] at h5
        have h1 : (rData bs).length = bs.length - 8 := by simp only [rData, List.length_take, dl]; omega
        have hd : pData bs = rData bs := by
          unfold pData rData
          congr 1
          show min ((bs.drop 5).headD 0) (bs.drop 6).length = _
          rw [h5, h1, dl]
          omega
        rw [hd]; exact hr
      · rw [if_neg (fun h => hr h.2), if_neg (fun h => hp h.2)]

theorem get_drop {bs : List Nat} {i : Nat} (h : i < bs.length) : bs[i] = (bs.drop i).headD 0 := by
  rw [List.drop_eq_getElem_cons h]; rfl

theorem rReadChunk_run (vk : VK) (bs : List Nat) (hb : ∀ b, b ∈ bs → b < 256) (hn : bs.length ≤ 1000) (hk : 9000 ≤ k) : ∃ b, pureRun (callN lawProg (k + 1)) (.func 19 [] []) [.vs vk (bytesV bs)] = some (.tuple [(readR bs).1, .int .i64 (readR bs).2], b) := by
  have run : ∃ T1 σ9 x seen, execC lawProg (callN lawProg k) k 19 53 (bodyOf Tryz.f19) (initT 0 [.vs vk (bytesV bs)] .nil) AMem.empty = some (.ret, T1, σ9) ∧ resultsA lawProg T1 σ9 Tryz.f19.results.toList = some [x, .int .i64 (readR bs).2] ∧ snapF false σ9 11 x = some ((readR bs).1, seen) := by
    by_cases h9 : bs.length < 9
    · have h9I : (bs.length : Int) < 9 := by omega
      have hres : readR bs = (chunkV 0 0 0 .nil [], 4) := by unfold readR; rw [if_pos h9]
      rw [hres]
      have e : ∃ T1 σ9, execC lawProg (callN lawProg k) k 19 53 (bodyOf Tryz.f19) (initT 0 [.vs vk (bytesV bs)] .nil) AMem.empty = some (.ret, T1, σ9) ∧ resultsA lawProg T1 σ9 Tryz.f19.results.toList = some [.agg [.int .i64 0, .int .i64 0, .int .i64 0, .vs .nil []], .int .i64 4] := by
        simp only [bodyOf, Tryz.f19, Option.getD_some, initT, q_seq, q_cond, q_block, q_region, q_drawn, q_skip, q_exit, q_ret, runOps, runD, again, step1, wantA, opSem, evalO, evalL, evalOpt, evalParts, putA, ofConst, ofScalar, ofScalars, abin, abinInt, aun, convA, builtinA, oneTy, elemTy, lenB_vs, lenB_sl, lenB_str, loadA, storeA, storeCellsA, setAt, partA, fillA, placesA, isFn, TyI.isAgg, isSeq, isNum, sliceA, boundA, cells_bool, one_bool, cells_int, one_int, cells_str, one_str, cells_ptr, one_ptr, cells_nilptr, one_nilptr, cells_slice, one_slice, cells_vs, one_vs, cells_vptr, one_vptr, cells_func, one_func, cells_yield, one_yield, cells_nilfn, one_nilfn, cells_nilmap, one_nilmap, cells_map, one_map, cells_agg, setParams, Tr.get_set, AMem.get_put, AMem.get_push, AMem.next_put, AMem.next_push, AMem.get_empty, next_empty, Option.map_some, Option.map_none, Option.bind_some, reduceIte, Nat.reduceLT, Nat.reduceLeDiff, Nat.reduceEqDiff, Nat.reduceAdd, Nat.reduceMul, Nat.reduceSub, Nat.reduceBEq, Nat.zero_add, Nat.add_zero, Nat.mul_one, Nat.one_mul, Nat.zero_mul, and_self, and_true, true_and, false_and, and_false, Bool.and_true, Bool.true_and, Bool.and_false, Bool.false_and, if_true, if_false, Int.reduceEq, Int.reduceLT, Int.reduceLE, Int.reduceToNat, Bool.false_eq_true, Bool.not_true, Bool.not_false, BEq.rfl, beq_true_true, beq_true_false, beq_false_true, beq_false_false, List.length_cons, List.length_nil, List.all_cons, List.all_nil, List.getElem?_cons_zero, List.getElem?_cons_succ, List.getElem?_nil, List.getElem?_toArray, List.take_succ_cons, List.take_zero, List.drop_succ_cons, List.drop_zero, List.set_cons_zero, List.set_cons_succ, List.append_nil, List.nil_append, List.cons_append, decide_true, decide_false, decide_eq_true_eq, Option.isNone_none, Option.isNone_some, Option.isSome_none, Option.isSome_some, Bool.or_true, Bool.true_or, Bool.or_false, Bool.false_or, ne_eq, not_false_eq_true, not_true_eq_false, reduceCtorEq, eq_self, beq_refl, minL, minF, maxL, maxF, repZ, val18, ty3, ty5, ty9, ty22, ty25, ty32, ord19_3, bytesV_length, h9I]
        exact ⟨_, _, rfl, by simp only [Tryz.f19, resultsA, resultA, q_seq, q_cond, q_block, q_region, q_drawn, q_skip, q_exit, q_ret, runOps, runD, again, step1, wantA, opSem, evalO, evalL, evalOpt, evalParts, putA, ofConst, ofScalar, ofScalars, abin, abinInt, aun, convA, builtinA, oneTy, elemTy, lenB_vs, lenB_sl, lenB_str, loadA, storeA, storeCellsA, setAt, partA, fillA, placesA, isFn, TyI.isAgg, isSeq, isNum, sliceA, boundA, cells_bool, one_bool, cells_int, one_int, cells_str, one_str, cells_ptr, one_ptr, cells_nilptr, one_nilptr, cells_slice, one_slice, cells_vs, one_vs, cells_vptr, one_vptr, cells_func, one_func, cells_yield, one_yield, cells_nilfn, one_nilfn, cells_nilmap, one_nilmap, cells_map, one_map, cells_agg, setParams, Tr.get_set, AMem.get_put, AMem.get_push, AMem.next_put, AMem.next_push, AMem.get_empty, next_empty, Option.map_some, Option.map_none, Option.bind_some, reduceIte, Nat.reduceLT, Nat.reduceLeDiff, Nat.reduceEqDiff, Nat.reduceAdd, Nat.reduceMul, Nat.reduceSub, Nat.reduceBEq, Nat.zero_add, Nat.add_zero, Nat.mul_one, Nat.one_mul, Nat.zero_mul, and_self, and_true, true_and, false_and, and_false, Bool.and_true, Bool.true_and, Bool.and_false, Bool.false_and, if_true, if_false, Int.reduceEq, Int.reduceLT, Int.reduceLE, Int.reduceToNat, Bool.false_eq_true, Bool.not_true, Bool.not_false, BEq.rfl, beq_true_true, beq_true_false, beq_false_true, beq_false_false, List.length_cons, List.length_nil, List.all_cons, List.all_nil, List.getElem?_cons_zero, List.getElem?_cons_succ, List.getElem?_nil, List.getElem?_toArray, List.take_succ_cons, List.take_zero, List.drop_succ_cons, List.drop_zero, List.set_cons_zero, List.set_cons_succ, List.append_nil, List.nil_append, List.cons_append, decide_true, decide_false, decide_eq_true_eq, Option.isNone_none, Option.isNone_some, Option.isSome_none, Option.isSome_some, Bool.or_true, Bool.true_or, Bool.or_false, Bool.false_or, ne_eq, not_false_eq_true, not_true_eq_false, reduceCtorEq, eq_self, beq_refl, minL, minF, maxL, maxF, repZ, val18, ty3, ty5, ty9, ty22, ty25, ty32, ord19_3]⟩
      obtain ⟨T1, σ9, e1, e2⟩ := e
      exact ⟨T1, σ9, _, [], e1, e2, rfl⟩
    · have h9I : ¬ (bs.length : Int) < 9 := by omega
      have hg : ∀ i, ∀ h : i < bs.length, bs[i] < 256 := fun i h => hb _ (List.getElem_mem h)
      have g1 := hg 1 (by omega)
      have g2 := hg 2 (by omega)
      have g3 := hg 3 (by omega)
      have g4 := hg 4 (by omega)
      have x1 : IntKind.i64.wrap ((bs[1] : Nat) : Int) = ((bs[1] : Nat) : Int) := i64_id (by omega) (by omega)
      have x2 : IntKind.i64.wrap ((bs[2] : Nat) : Int) = ((bs[2] : Nat) : Int) := i64_id (by omega) (by omega)
      have x3 : IntKind.i64.wrap ((bs[3] : Nat) : Int) = ((pAt bs : Nat) : Int) := by rw [i64_id (by omega) (by omega), get_drop (show 3 < bs.length by omega)]; rfl
      have x4 : IntKind.i64.wrap ((bs[4] : Nat) : Int) = ((pOf bs : Nat) : Int) := by rw [i64_id (by omega) (by omega), get_drop (show 4 < bs.length by omega)]; rfl
      have x5 : IntKind.i64.wrap ((256 : Int) * ((bs[1] : Nat) : Int)) = (256 : Int) * ((bs[1] : Nat) : Int) := i64_id (by omega) (by omega)
      have x6 : IntKind.i64.wrap ((256 : Int) * ((bs[1] : Nat) : Int) + ((bs[2] : Nat) : Int)) = ((pName bs : Nat) : Int) := by
        rw [i64_id (by omega) (by omega)]
        have e1 := get_drop (show 1 < bs.length by omega)
        have e2 := get_drop (show 2 < bs.length by omega)
        unfold pName
        rw [List.drop_drop, ← e1, ← e2]
        simp
        omega
      have x7 : IntKind.i64.wrap ((bs.length : Int) - 2) = ((bs.length - 2 : Nat) : Int) := by rw [i64_id (by omega) (by omega)]; omega
      have x8 : (0 : Int) ≤ ((bs.length - 2 : Nat) : Int) ∧ ((bs.length - 2 : Nat) : Int) ≤ (bs.length : Int) := by omega
      have x9 : (0 : Int) ≤ 6 ∧ (6 : Int) ≤ ((bs.length - 2 : Nat) : Int) := by omega
      have x10 : (bs.take (bs.length - 2)).drop 6 = rData bs := by rw [List.drop_take]; unfold rData; congr 1
      have i1 : (1 : Int) < (bs.length : Int) := by omega
      have i2 : (2 : Int) < (bs.length : Int) := by omega
      have i3 : (3 : Int) < (bs.length : Int) := by omega
      have i4 : (4 : Int) < (bs.length : Int) := by omega
      have rl : (rData bs).length = bs.length - 8 := by simp only [rData, List.length_take, List.length_drop]; omega
      have rb : ∀ b, b ∈ rData bs → b < 256 := fun b h => hb b (List.mem_of_mem_drop (List.mem_of_mem_take h))
      have happ : ∀ K, appendA ⟨.int .u8, 1, 1, [.int .u8 0]⟩ (((AMem.empty.push (.row 4 true [.int .i64 0, .int .i64 0, .int .i64 0, .vs .nil []])).push (.row 1 false [])).push (.row 4 true [.int .i64 0, .int .i64 0, .int .i64 0, .vs .nil []])) (.slice 1 0 0 (some 0) 1) (.vs K (bytesV (rData bs))) = some (.slice 3 0 (rData bs).length none 1, (((AMem.empty.push (.row 4 true [.int .i64 0, .int .i64 0, .int .i64 0, .vs .nil []])).push (.row 1 false [])).push (.row 4 true [.int .i64 0, .int .i64 0, .int .i64 0, .vs .nil []])).push (.row 1 false (bytesV (rData bs)))) := by
        intro K
        rw [append_bytes rfl rfl rfl (source_bytes _ _ _) (by simp only [AMem.get_push, AMem.next_push, next_empty, Nat.reduceAdd, Nat.reduceEqDiff, reduceIte]) (by rw [rl]; omega), if_neg (by omega), if_neg (by omega)]
        rfl
      have hx : ∀ σ : AMem, σ.get 3 = some (.row 1 false (bytesV (rData bs))) → snapF false σ 11 (.agg [.int .i64 (pName bs), .int .i64 (pAt bs), .int .i64 (pOf bs), .slice 3 0 (rData bs).length none 1]) = some (chunkV (pName bs) (pAt bs) (pOf bs) .some (rData bs), [3]) := by
        intro σ hσ
        show (snapL (snapF false σ 10) _).map (fun (l, a) => (AVal.agg l, a)) = _
        simp only [snapL, snap_int, snap_bytes (fr := false) (d := 8) (bs := rData bs) (more := []) (cap := none) rfl (by rw [List.append_nil]; exact hσ), Option.map_some]
        rfl
      have hx12 : ∀ σ : AMem, σ.get 3 = some (.row 1 false (bytesV (rData bs))) → snapF false σ snapDepth (.agg [.int .i64 (pName bs), .int .i64 (pAt bs), .int .i64 (pOf bs), .slice 3 0 (rData bs).length none 1]) = some (chunkV (pName bs) (pAt bs) (pOf bs) .some (rData bs), [3]) := by
        intro σ hσ
        show (snapL (snapF false σ 11) _).map (fun (l, a) => (AVal.agg l, a)) = _
        simp only [snapL, snap_int, snap_bytes (fr := false) (d := 9) (bs := rData bs) (more := []) (cap := none) rfl (by rw [List.append_nil]; exact hσ), Option.map_some]
        rfl
      let σc : AMem := ((((AMem.empty.push (.row 4 true [.int .i64 0, .int .i64 0, .int .i64 0, .vs .nil []])).push (.row 1 false [])).push (.row 4 true [.int .i64 0, .int .i64 0, .int .i64 0, .vs .nil []])).push (.row 1 false (bytesV (rData bs)))).put 2 (.row 4 true [.int .i64 (pName bs), .int .i64 (pAt bs), .int .i64 (pOf bs), .slice 3 0 (rData bs).length none 1])
      have hc2 : σc.get 3 = some (.row 1 false (bytesV (rData bs))) := by simp only [σc, AMem.get_put, AMem.get_push, AMem.next_push, next_empty, Nat.reduceAdd, Nat.reduceEqDiff, reduceIte]
      have c9 := rChunkBytes_call (k := k) (σ := σc) (pName bs) (pAt bs) (pOf bs) .some (rData bs) (hx12 σc hc2) rb (by omega)
      simp only [σc] at c9
      by_cases hok : OkC (pName bs) (pAt bs) (pOf bs) (rData bs)
      · have he : encRR (pName bs) (pAt bs) (pOf bs) (rData bs) = (.vs .some (bytesV (encC (pName bs) (pAt bs) (pOf bs) (rData bs))), 0) := by unfold encRR; rw [if_pos hok]
        simp only [he] at c9
        by_cases hen : encC (pName bs) (pAt bs) (pOf bs) (rData bs) = bs
        · have hres : readR bs = (chunkV (pName bs) (pAt bs) (pOf bs) .some (rData bs), 0) := by unfold readR; rw [if_neg h9, if_pos ⟨hok, hen⟩]
          rw [hres]
          simp only [hen] at c9
          have hstr : (!(u8L bs == u8L bs)) = false := by simp
          have e : ∃ T1 σ9, execC lawProg (callN lawProg k) k 19 53 (bodyOf Tryz.f19) (initT 0 [.vs vk (bytesV bs)] .nil) AMem.empty = some (.ret, T1, σ9) ∧ resultsA lawProg T1 σ9 Tryz.f19.results.toList = some [.agg [.int .i64 (pName bs), .int .i64 (pAt bs), .int .i64 (pOf bs), .slice 3 0 (rData bs).length none 1], .int .i64 0] ∧ σ9.get 3 = some (.row 1 false (bytesV (rData bs))) := by
            simp only [bodyOf, Tryz.f19, Option.getD_some, initT, q_seq, q_cond, q_block, q_region, q_drawn, q_skip, q_exit, q_ret, runOps, runD, again, step1, wantA, opSem, evalO, evalL, evalOpt, evalParts, putA, ofConst, ofScalar, ofScalars, abin, abinInt, aun, convA, builtinA, oneTy, elemTy, lenB_vs, lenB_sl, lenB_str, loadA, storeA, storeCellsA, setAt, partA, fillA, placesA, isFn, TyI.isAgg, isSeq, isNum, sliceA, boundA, cells_bool, one_bool, cells_int, one_int, cells_str, one_str, cells_ptr, one_ptr, cells_nilptr, one_nilptr, cells_slice, one_slice, cells_vs, one_vs, cells_vptr, one_vptr, cells_func, one_func, cells_yield, one_yield, cells_nilfn, one_nilfn, cells_nilmap, one_nilmap, cells_map, one_map, cells_agg, setParams, Tr.get_set, AMem.get_put, AMem.get_push, AMem.next_put, AMem.next_push, AMem.get_empty, next_empty, Option.map_some, Option.map_none, Option.bind_some, reduceIte, Nat.reduceLT, Nat.reduceLeDiff, Nat.reduceEqDiff, Nat.reduceAdd, Nat.reduceMul, Nat.reduceSub, Nat.reduceBEq, Nat.zero_add, Nat.add_zero, Nat.mul_one, Nat.one_mul, Nat.zero_mul, and_self, and_true, true_and, false_and, and_false, Bool.and_true, Bool.true_and, Bool.and_false, Bool.false_and, if_true, if_false, Int.reduceEq, Int.reduceLT, Int.reduceLE, Int.reduceToNat, Bool.false_eq_true, Bool.not_true, Bool.not_false, BEq.rfl, beq_true_true, beq_true_false, beq_false_true, beq_false_false, List.length_cons, List.length_nil, List.all_cons, List.all_nil, List.getElem?_cons_zero, List.getElem?_cons_succ, List.getElem?_nil, List.getElem?_toArray, List.take_succ_cons, List.take_zero, List.drop_succ_cons, List.drop_zero, List.set_cons_zero, List.set_cons_succ, List.append_nil, List.nil_append, List.cons_append, decide_true, decide_false, decide_eq_true_eq, Option.isNone_none, Option.isNone_some, Option.isSome_none, Option.isSome_some, Bool.or_true, Bool.true_or, Bool.or_false, Bool.false_or, ne_eq, not_false_eq_true, not_true_eq_false, reduceCtorEq, eq_self, beq_refl, minL, minF, maxL, maxF, repZ, val18, ty3, ty5, ty9, ty22, ty25, ty32, ord19_3, bytesV_length, h9I, i1, i2, i3, i4, Int.reduceToNat, bytesV_get (show 1 < bs.length by omega), bytesV_get (show 2 < bs.length by omega), bytesV_get (show 3 < bs.length by omega), bytesV_get (show 4 < bs.length by omega), x1, x2, x3, x4, x5, x6, x7, bytesV_cells, x8, x9, Int.toNat_natCast, bytesV_take, bytesV_drop, x10, happ, c9, bne_self_eq_false, source_bytes, bytesOf_bytes, abinStr, hstr]
            exact ⟨_, _, rfl, by simp only [Tryz.f19, resultsA, resultA, q_seq, q_cond, q_block, q_region, q_drawn, q_skip, q_exit, q_ret, runOps, runD, again, step1, wantA, opSem, evalO, evalL, evalOpt, evalParts, putA, ofConst, ofScalar, ofScalars, abin, abinInt, aun, convA, builtinA, oneTy, elemTy, lenB_vs, lenB_sl, lenB_str, loadA, storeA, storeCellsA, setAt, partA, fillA, placesA, isFn, TyI.isAgg, isSeq, isNum, sliceA, boundA, cells_bool, one_bool, cells_int, one_int, cells_str, one_str, cells_ptr, one_ptr, cells_nilptr, one_nilptr, cells_slice, one_slice, cells_vs, one_vs, cells_vptr, one_vptr, cells_func, one_func, cells_yield, one_yield, cells_nilfn, one_nilfn, cells_nilmap, one_nilmap, cells_map, one_map, cells_agg, setParams, Tr.get_set, AMem.get_put, AMem.get_push, AMem.next_put, AMem.next_push, AMem.get_empty, next_empty, Option.map_some, Option.map_none, Option.bind_some, reduceIte, Nat.reduceLT, Nat.reduceLeDiff, Nat.reduceEqDiff, Nat.reduceAdd, Nat.reduceMul, Nat.reduceSub, Nat.reduceBEq, Nat.zero_add, Nat.add_zero, Nat.mul_one, Nat.one_mul, Nat.zero_mul, and_self, and_true, true_and, false_and, and_false, Bool.and_true, Bool.true_and, Bool.and_false, Bool.false_and, if_true, if_false, Int.reduceEq, Int.reduceLT, Int.reduceLE, Int.reduceToNat, Bool.false_eq_true, Bool.not_true, Bool.not_false, BEq.rfl, beq_true_true, beq_true_false, beq_false_true, beq_false_false, List.length_cons, List.length_nil, List.all_cons, List.all_nil, List.getElem?_cons_zero, List.getElem?_cons_succ, List.getElem?_nil, List.getElem?_toArray, List.take_succ_cons, List.take_zero, List.drop_succ_cons, List.drop_zero, List.set_cons_zero, List.set_cons_succ, List.append_nil, List.nil_append, List.cons_append, decide_true, decide_false, decide_eq_true_eq, Option.isNone_none, Option.isNone_some, Option.isSome_none, Option.isSome_some, Bool.or_true, Bool.true_or, Bool.or_false, Bool.false_or, ne_eq, not_false_eq_true, not_true_eq_false, reduceCtorEq, eq_self, beq_refl, minL, minF, maxL, maxF, repZ, val18, ty3, ty5, ty9, ty22, ty25, ty32, ord19_3], by simp only [AMem.get_put, AMem.get_push, AMem.next_put, AMem.next_push, next_empty, Nat.reduceAdd, Nat.reduceEqDiff, reduceIte]⟩
          obtain ⟨T1, σ9, e1, e2, e3⟩ := e
          exact ⟨T1, σ9, _, [3], e1, e2, hx σ9 e3⟩
        · have hres : readR bs = (chunkV 0 0 0 .nil [], 4) := by unfold readR; rw [if_neg h9, if_neg (fun h => hen h.2)]
          rw [hres]
          have heb : ∀ b, b ∈ encC (pName bs) (pAt bs) (pOf bs) (rData bs) → b < 256 := by
            intro b hb'
            have hsb := sumL_bounds 1 (headB (pName bs) (pAt bs) (pOf bs) (rData bs)) (by decide)
            obtain ⟨⟨o1, o2⟩, ⟨o3, o4⟩, ⟨o5, o6⟩, o7, o8⟩ := hok
            simp only [encC, sealB, headB, List.cons_append, List.nil_append, List.append_assoc, List.mem_cons, List.mem_append, List.not_mem_nil, or_false] at hb' hsb
            rcases hb' with rfl | rfl | rfl | rfl | rfl | rfl | h | rfl | rfl
            all_goals first | omega | exact rb b h
          have hstr : (!(u8L (encC (pName bs) (pAt bs) (pOf bs) (rData bs)) == u8L bs)) = true := by
            have : ¬ u8L (encC (pName bs) (pAt bs) (pOf bs) (rData bs)) = u8L bs := by
              intro h
              apply hen
              have inj : ∀ (a b : List Nat), (∀ x, x ∈ a → x < 256) → (∀ x, x ∈ b → x < 256) → u8L a = u8L b → a = b := by
                intro a
                induction a with
                | nil => intro b _ _ h; cases b with
                  | nil => rfl
                  | cons => simp [u8L] at h
                | cons x a ih =>
                  intro b ha hb h
                  cases b with
                  | nil => simp [u8L] at h
                  | cons y b =>
                    simp only [u8L, List.map_cons, List.cons.injEq] at h
                    have h1 := ha x List.mem_cons_self
                    have h2 := hb y List.mem_cons_self
                    have h3 := congrArg UInt8.toNat h.1
                    simp only [UInt8.toNat_ofNat'] at h3
                    rw [Nat.mod_eq_of_lt h1, Nat.mod_eq_of_lt h2] at h3
                    rw [h3, ih b (fun z hz => ha z (List.mem_cons_of_mem _ hz)) (fun z hz => hb z (List.mem_cons_of_mem _ hz)) h.2]
              exact inj _ _ heb hb h
            simp [this]
          have e : ∃ T1 σ9, execC lawProg (callN lawProg k) k 19 53 (bodyOf Tryz.f19) (initT 0 [.vs vk (bytesV bs)] .nil) AMem.empty = some (.ret, T1, σ9) ∧ resultsA lawProg T1 σ9 Tryz.f19.results.toList = some [.agg [.int .i64 0, .int .i64 0, .int .i64 0, .vs .nil []], .int .i64 4] := by
            simp only [bodyOf, Tryz.f19, Option.getD_some, initT, q_seq, q_cond, q_block, q_region, q_drawn, q_skip, q_exit, q_ret, runOps, runD, again, step1, wantA, opSem, evalO, evalL, evalOpt, evalParts, putA, ofConst, ofScalar, ofScalars, abin, abinInt, aun, convA, builtinA, oneTy, elemTy, lenB_vs, lenB_sl, lenB_str, loadA, storeA, storeCellsA, setAt, partA, fillA, placesA, isFn, TyI.isAgg, isSeq, isNum, sliceA, boundA, cells_bool, one_bool, cells_int, one_int, cells_str, one_str, cells_ptr, one_ptr, cells_nilptr, one_nilptr, cells_slice, one_slice, cells_vs, one_vs, cells_vptr, one_vptr, cells_func, one_func, cells_yield, one_yield, cells_nilfn, one_nilfn, cells_nilmap, one_nilmap, cells_map, one_map, cells_agg, setParams, Tr.get_set, AMem.get_put, AMem.get_push, AMem.next_put, AMem.next_push, AMem.get_empty, next_empty, Option.map_some, Option.map_none, Option.bind_some, reduceIte, Nat.reduceLT, Nat.reduceLeDiff, Nat.reduceEqDiff, Nat.reduceAdd, Nat.reduceMul, Nat.reduceSub, Nat.reduceBEq, Nat.zero_add, Nat.add_zero, Nat.mul_one, Nat.one_mul, Nat.zero_mul, and_self, and_true, true_and, false_and, and_false, Bool.and_true, Bool.true_and, Bool.and_false, Bool.false_and, if_true, if_false, Int.reduceEq, Int.reduceLT, Int.reduceLE, Int.reduceToNat, Bool.false_eq_true, Bool.not_true, Bool.not_false, BEq.rfl, beq_true_true, beq_true_false, beq_false_true, beq_false_false, List.length_cons, List.length_nil, List.all_cons, List.all_nil, List.getElem?_cons_zero, List.getElem?_cons_succ, List.getElem?_nil, List.getElem?_toArray, List.take_succ_cons, List.take_zero, List.drop_succ_cons, List.drop_zero, List.set_cons_zero, List.set_cons_succ, List.append_nil, List.nil_append, List.cons_append, decide_true, decide_false, decide_eq_true_eq, Option.isNone_none, Option.isNone_some, Option.isSome_none, Option.isSome_some, Bool.or_true, Bool.true_or, Bool.or_false, Bool.false_or, ne_eq, not_false_eq_true, not_true_eq_false, reduceCtorEq, eq_self, beq_refl, minL, minF, maxL, maxF, repZ, val18, ty3, ty5, ty9, ty22, ty25, ty32, ord19_3, bytesV_length, h9I, i1, i2, i3, i4, Int.reduceToNat, bytesV_get (show 1 < bs.length by omega), bytesV_get (show 2 < bs.length by omega), bytesV_get (show 3 < bs.length by omega), bytesV_get (show 4 < bs.length by omega), x1, x2, x3, x4, x5, x6, x7, bytesV_cells, x8, x9, Int.toNat_natCast, bytesV_take, bytesV_drop, x10, happ, c9, bne_self_eq_false, source_bytes, bytesOf_bytes, abinStr, hstr]
            exact ⟨_, _, rfl, by simp only [Tryz.f19, resultsA, resultA, q_seq, q_cond, q_block, q_region, q_drawn, q_skip, q_exit, q_ret, runOps, runD, again, step1, wantA, opSem, evalO, evalL, evalOpt, evalParts, putA, ofConst, ofScalar, ofScalars, abin, abinInt, aun, convA, builtinA, oneTy, elemTy, lenB_vs, lenB_sl, lenB_str, loadA, storeA, storeCellsA, setAt, partA, fillA, placesA, isFn, TyI.isAgg, isSeq, isNum, sliceA, boundA, cells_bool, one_bool, cells_int, one_int, cells_str, one_str, cells_ptr, one_ptr, cells_nilptr, one_nilptr, cells_slice, one_slice, cells_vs, one_vs, cells_vptr, one_vptr, cells_func, one_func, cells_yield, one_yield, cells_nilfn, one_nilfn, cells_nilmap, one_nilmap, cells_map, one_map, cells_agg, setParams, Tr.get_set, AMem.get_put, AMem.get_push, AMem.next_put, AMem.next_push, AMem.get_empty, next_empty, Option.map_some, Option.map_none, Option.bind_some, reduceIte, Nat.reduceLT, Nat.reduceLeDiff, Nat.reduceEqDiff, Nat.reduceAdd, Nat.reduceMul, Nat.reduceSub, Nat.reduceBEq, Nat.zero_add, Nat.add_zero, Nat.mul_one, Nat.one_mul, Nat.zero_mul, and_self, and_true, true_and, false_and, and_false, Bool.and_true, Bool.true_and, Bool.and_false, Bool.false_and, if_true, if_false, Int.reduceEq, Int.reduceLT, Int.reduceLE, Int.reduceToNat, Bool.false_eq_true, Bool.not_true, Bool.not_false, BEq.rfl, beq_true_true, beq_true_false, beq_false_true, beq_false_false, List.length_cons, List.length_nil, List.all_cons, List.all_nil, List.getElem?_cons_zero, List.getElem?_cons_succ, List.getElem?_nil, List.getElem?_toArray, List.take_succ_cons, List.take_zero, List.drop_succ_cons, List.drop_zero, List.set_cons_zero, List.set_cons_succ, List.append_nil, List.nil_append, List.cons_append, decide_true, decide_false, decide_eq_true_eq, Option.isNone_none, Option.isNone_some, Option.isSome_none, Option.isSome_some, Bool.or_true, Bool.true_or, Bool.or_false, Bool.false_or, ne_eq, not_false_eq_true, not_true_eq_false, reduceCtorEq, eq_self, beq_refl, minL, minF, maxL, maxF, repZ, val18, ty3, ty5, ty9, ty22, ty25, ty32, ord19_3]⟩
          obtain ⟨T1, σ9, e1, e2⟩ := e
          exact ⟨T1, σ9, _, [], e1, e2, rfl⟩
      · have he : encRR (pName bs) (pAt bs) (pOf bs) (rData bs) = (.vs .some [], 4) := by unfold encRR; rw [if_neg hok]
        simp only [he] at c9
        have hres : readR bs = (chunkV 0 0 0 .nil [], 4) := by unfold readR; rw [if_neg h9, if_neg (fun h => hok h.1)]
        rw [hres]
        have h40 : ((4 : Int) != 0) = true := rfl
        have e : ∃ T1 σ9, execC lawProg (callN lawProg k) k 19 53 (bodyOf Tryz.f19) (initT 0 [.vs vk (bytesV bs)] .nil) AMem.empty = some (.ret, T1, σ9) ∧ resultsA lawProg T1 σ9 Tryz.f19.results.toList = some [.agg [.int .i64 0, .int .i64 0, .int .i64 0, .vs .nil []], .int .i64 4] := by
          simp only [bodyOf, Tryz.f19, Option.getD_some, initT, q_seq, q_cond, q_block, q_region, q_drawn, q_skip, q_exit, q_ret, runOps, runD, again, step1, wantA, opSem, evalO, evalL, evalOpt, evalParts, putA, ofConst, ofScalar, ofScalars, abin, abinInt, aun, convA, builtinA, oneTy, elemTy, lenB_vs, lenB_sl, lenB_str, loadA, storeA, storeCellsA, setAt, partA, fillA, placesA, isFn, TyI.isAgg, isSeq, isNum, sliceA, boundA, cells_bool, one_bool, cells_int, one_int, cells_str, one_str, cells_ptr, one_ptr, cells_nilptr, one_nilptr, cells_slice, one_slice, cells_vs, one_vs, cells_vptr, one_vptr, cells_func, one_func, cells_yield, one_yield, cells_nilfn, one_nilfn, cells_nilmap, one_nilmap, cells_map, one_map, cells_agg, setParams, Tr.get_set, AMem.get_put, AMem.get_push, AMem.next_put, AMem.next_push, AMem.get_empty, next_empty, Option.map_some, Option.map_none, Option.bind_some, reduceIte, Nat.reduceLT, Nat.reduceLeDiff, Nat.reduceEqDiff, Nat.reduceAdd, Nat.reduceMul, Nat.reduceSub, Nat.reduceBEq, Nat.zero_add, Nat.add_zero, Nat.mul_one, Nat.one_mul, Nat.zero_mul, and_self, and_true, true_and, false_and, and_false, Bool.and_true, Bool.true_and, Bool.and_false, Bool.false_and, if_true, if_false, Int.reduceEq, Int.reduceLT, Int.reduceLE, Int.reduceToNat, Bool.false_eq_true, Bool.not_true, Bool.not_false, BEq.rfl, beq_true_true, beq_true_false, beq_false_true, beq_false_false, List.length_cons, List.length_nil, List.all_cons, List.all_nil, List.getElem?_cons_zero, List.getElem?_cons_succ, List.getElem?_nil, List.getElem?_toArray, List.take_succ_cons, List.take_zero, List.drop_succ_cons, List.drop_zero, List.set_cons_zero, List.set_cons_succ, List.append_nil, List.nil_append, List.cons_append, decide_true, decide_false, decide_eq_true_eq, Option.isNone_none, Option.isNone_some, Option.isSome_none, Option.isSome_some, Bool.or_true, Bool.true_or, Bool.or_false, Bool.false_or, ne_eq, not_false_eq_true, not_true_eq_false, reduceCtorEq, eq_self, beq_refl, minL, minF, maxL, maxF, repZ, val18, ty3, ty5, ty9, ty22, ty25, ty32, ord19_3, bytesV_length, h9I, i1, i2, i3, i4, Int.reduceToNat, bytesV_get (show 1 < bs.length by omega), bytesV_get (show 2 < bs.length by omega), bytesV_get (show 3 < bs.length by omega), bytesV_get (show 4 < bs.length by omega), x1, x2, x3, x4, x5, x6, x7, bytesV_cells, x8, x9, Int.toNat_natCast, bytesV_take, bytesV_drop, x10, happ, c9, h40]
          exact ⟨_, _, rfl, by simp only [Tryz.f19, resultsA, resultA, q_seq, q_cond, q_block, q_region, q_drawn, q_skip, q_exit, q_ret, runOps, runD, again, step1, wantA, opSem, evalO, evalL, evalOpt, evalParts, putA, ofConst, ofScalar, ofScalars, abin, abinInt, aun, convA, builtinA, oneTy, elemTy, lenB_vs, lenB_sl, lenB_str, loadA, storeA, storeCellsA, setAt, partA, fillA, placesA, isFn, TyI.isAgg, isSeq, isNum, sliceA, boundA, cells_bool, one_bool, cells_int, one_int, cells_str, one_str, cells_ptr, one_ptr, cells_nilptr, one_nilptr, cells_slice, one_slice, cells_vs, one_vs, cells_vptr, one_vptr, cells_func, one_func, cells_yield, one_yield, cells_nilfn, one_nilfn, cells_nilmap, one_nilmap, cells_map, one_map, cells_agg, setParams, Tr.get_set, AMem.get_put, AMem.get_push, AMem.next_put, AMem.next_push, AMem.get_empty, next_empty, Option.map_some, Option.map_none, Option.bind_some, reduceIte, Nat.reduceLT, Nat.reduceLeDiff, Nat.reduceEqDiff, Nat.reduceAdd, Nat.reduceMul, Nat.reduceSub, Nat.reduceBEq, Nat.zero_add, Nat.add_zero, Nat.mul_one, Nat.one_mul, Nat.zero_mul, and_self, and_true, true_and, false_and, and_false, Bool.and_true, Bool.true_and, Bool.and_false, Bool.false_and, if_true, if_false, Int.reduceEq, Int.reduceLT, Int.reduceLE, Int.reduceToNat, Bool.false_eq_true, Bool.not_true, Bool.not_false, BEq.rfl, beq_true_true, beq_true_false, beq_false_true, beq_false_false, List.length_cons, List.length_nil, List.all_cons, List.all_nil, List.getElem?_cons_zero, List.getElem?_cons_succ, List.getElem?_nil, List.getElem?_toArray, List.take_succ_cons, List.take_zero, List.drop_succ_cons, List.drop_zero, List.set_cons_zero, List.set_cons_succ, List.append_nil, List.nil_append, List.cons_append, decide_true, decide_false, decide_eq_true_eq, Option.isNone_none, Option.isNone_some, Option.isSome_none, Option.isSome_some, Bool.or_true, Bool.true_or, Bool.or_false, Bool.false_or, ne_eq, not_false_eq_true, not_true_eq_false, reduceCtorEq, eq_self, beq_refl, minL, minF, maxL, maxF, repZ, val18, ty3, ty5, ty9, ty22, ty25, ty32, ord19_3]⟩
        obtain ⟨T1, σ9, e1, e2⟩ := e
        exact ⟨T1, σ9, _, [], e1, e2, rfl⟩
  obtain ⟨T1, σ9, x, seen, h1, h2, h3⟩ := run
  exact pureRun_any (seen := seen ++ ([] ++ [])) fn19 rfl (by simp [Tryz.f19]) h1 (by simp) h2 (by
    show (snapL (snapF false σ9 11) [x, .int .i64 _]).map (fun (l, a) => (AVal.tuple l, a)) = _
    simp only [snapL, h3, snap_int, Option.map_some])
end Go.Proofs.YtikhidpcaefjiaaGreatDoor
