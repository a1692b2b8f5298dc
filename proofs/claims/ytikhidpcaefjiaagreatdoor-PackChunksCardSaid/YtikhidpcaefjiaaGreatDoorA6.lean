/- The reference's chunks: what it gives on every message of at most 3000 bytes. -/
import Derived.Test.YtikhidpcaefjiaaGreatDoorA5
set_option maxRecDepth 100000
set_option linter.unusedSimpArgs false
set_option linter.unusedVariables false
namespace Go.Proofs.YtikhidpcaefjiaaGreatDoor
open Go Go.Proofs.YtikhidpcaefjiaaGreatDoor.Pale
variable {k : Nat} {σ : AMem}

/-- What the loop keeps: the chunks so far, read out of memory. -/
def RefInv (name : Int) (bs : List Nat) (s m i : Nat) (out : AVal) (σ : AMem) : Prop :=
  ∃ cells seen, Grew 0 σ 4 true out i cells ∧ snapL (snapF false σ 10) cells = some (chunksC name (fun _ => m) bs s i, seen) ∧ ∀ x, x ∈ seen → x < σ.next ∧ out ≠ .slice x 0 i none 4

theorem ref_append {name : Int} {bs : List Nat} {s m i : Nat} {out : AVal} {p : Nat} (h : RefInv name bs s m i out σ) (hp : p = (partOf bs s i).length) (hi : i < 100000) :
    ∃ σ', appendA ⟨.struct [(0, 3), (1, 3), (2, 3), (3, 22)], 4, 48, [.int .i64 0, .int .i64 0, .int .i64 0, .vs .nil []]⟩ (((σ.push (.row 1 false [])).push (.row 1 false (bytesV (partOf bs s i)))).push (.row 4 true [.int .i64 name, .int .i64 i, .int .i64 m, .slice (σ.next + 1) 0 p none 1])) out (.slice (σ.next + 1 + 1) 0 1 (some 1) 4) = some (.slice (σ.next + 1 + 1 + 1) 0 (i + 1) none 4, σ') ∧ RefInv name bs s m (i + 1) (.slice (σ.next + 1 + 1 + 1) 0 (i + 1) none 4) σ' := by
  obtain ⟨cells, seen, ⟨hcl, hcase⟩, hsnap, hseen⟩ := h
  let σ3 := (((σ.push (.row 1 false [])).push (.row 1 false (bytesV (partOf bs s i)))).push (.row 4 true [.int .i64 name, .int .i64 i, .int .i64 m, .slice (σ.next + 1) 0 p none 1]))
  have hn3 : σ3.next = σ.next + 1 + 1 + 1 := rfl
  have hold : ∀ x, x < σ.next → σ3.get x = σ.get x := by
    intro x hx
    show ((((σ.push _).push _).push _).get x) = _
    rw [AMem.get_push, if_neg (by simp; omega), AMem.get_push, if_neg (by simp; omega), AMem.get_push, if_neg (by omega)]
  have hg3 : Grew 0 σ3 4 true out i cells := by
    refine ⟨hcl, ?_⟩
    rcases hcase with h | ⟨r, h6, h7, h8, h9⟩
    · exact .inl h
    · exact .inr ⟨r, h6, by rw [hn3]; omega, h8, by rw [hold r h7]; exact h9⟩
  obtain ⟨σ', happ, hgrew, hnext, hkeep⟩ := Grew.append2 (e := ⟨.struct [(0, 3), (1, 3), (2, 3), (3, 22)], 4, 48, [.int .i64 0, .int .i64 0, .int .i64 0, .vs .nil []]⟩) (n := 1) (x := .slice (σ.next + 1 + 1) 0 1 (some 1) 4) (xs := [.int .i64 name, .int .i64 i, .int .i64 m, .slice (σ.next + 1) 0 p none 1]) hg3 (Nat.zero_le _)
    (by
      have : σ3.get (σ.next + 1 + 1) = some (.row 4 true [.int .i64 name, .int .i64 i, .int .i64 m, .slice (σ.next + 1) 0 p none 1]) := by
        show ((((σ.push _).push _).push _).get (σ.next + 1 + 1)) = _
        rw [AMem.get_push]; exact if_pos rfl
      simp only [sourceA, this, List.length_cons, List.length_nil, Nat.reduceAdd, Nat.reduceMul, Nat.reduceLeDiff, List.drop_zero, List.take_succ_cons, List.take_zero, if_true]) rfl (by simp) (by simp) (by simp) (by simp) (by show (i + 1) * 48 ≤ 1099511627776; omega) rfl
  have hgrew' : Grew 0 σ' 4 true (.slice (σ.next + 1 + 1 + 1) 0 (i + 1) none 4) (i + 1) (cells ++ [.int .i64 name, .int .i64 (i : Int), .int .i64 (m : Int), .slice (σ.next + 1) 0 p none 1]) := hgrew
  refine ⟨σ', happ, cells ++ [.int .i64 name, .int .i64 i, .int .i64 m, .slice (σ.next + 1) 0 p none 1], seen ++ [σ.next + 1], hgrew', ?_, ?_⟩
  · refine snapL_append (snapL_same (snapF_same 10) _ _ _ hsnap fun x hx => ?_) ?_
    · obtain ⟨h1, h2⟩ := hseen x hx
      rw [hkeep x (by rw [hn3]; omega) h2, hold x h1]
    · have hrow : σ'.get (σ.next + 1) = some (.row 1 false (bytesV (partOf bs s i ++ []))) := by
        rw [hkeep (σ.next + 1) (by rw [hn3]; omega) (by
          rcases hcase with ⟨_, rfl⟩ | ⟨r, _, h7, rfl, _⟩
          · intro h; cases h
          · intro h; simp only [AVal.slice.injEq] at h; omega)]
        show ((((σ.push _).push _).push _).get (σ.next + 1)) = _
        rw [AMem.get_push, if_neg (by simp), AMem.get_push, List.append_nil]; exact if_pos rfl
      simp only [snapL, snap_int, snap_bytes (d := 8) (cap := none) hp hrow]
      rfl
  · intro x hx
    rcases List.mem_append.1 hx with h | h
    · have := (hseen x h).1
      exact ⟨by rw [hnext, hn3]; omega, by intro h; simp only [AVal.slice.injEq] at h; omega⟩
    · simp at h
      subst h
      exact ⟨by rw [hnext, hn3]; omega, by intro h; simp only [AVal.slice.injEq] at h; omega⟩

theorem rsplit_run (vk : VK) (bs : List Nat) (name size : Int) (hn : bs.length ≤ 3000) (hk : 4001 ≤ k) : ∃ b, pureRun (callN lawProg (k + 1)) (.func 11 [] []) [.vs vk (bytesV bs), .int .i64 name, .int .i64 size] = some (.tuple [(splitR bs name size).1, .int .i64 (splitR bs name size).2], b) := by
  have run : ∃ T1 σ1 x seen, execC lawProg (callN lawProg k) k 11 58 (bodyOf Tryz.f11) (initT 0 [.vs vk (bytesV bs), .int .i64 name, .int .i64 size] .nil) AMem.empty = some (.ret, T1, σ1) ∧
      resultsA lawProg T1 σ1 Tryz.f11.results.toList = some [x, .int .i64 (splitR bs name size).2] ∧ snapF false σ1 11 x = some ((splitR bs name size).1, seen) := by
    have hk1 : 1 ≤ k := by omega
    have hin : ∀ (n a b : Int) (σ : AMem), pureCall lawProg (callN lawProg k) (.func 52 [] []) [.int .i64 n, .int .i64 a, .int .i64 b] σ = some (.bool (decide (a ≤ n ∧ n ≤ b)), σ) := fun n a b σ => in_call n a b hk1
    have errs : ∀ (c : Int), (∃ T1 σ1, execC lawProg (callN lawProg k) k 11 58 (bodyOf Tryz.f11) (initT 0 [.vs vk (bytesV bs), .int .i64 name, .int .i64 size] .nil) AMem.empty = some (.ret, T1, σ1) ∧ T1.get 6 = some (.vs .nil []) ∧ T1.get 7 = some (.int .i64 c)) → splitR bs name size = (.vs .nil [], c) →
        ∃ T1 σ1 x seen, execC lawProg (callN lawProg k) k 11 58 (bodyOf Tryz.f11) (initT 0 [.vs vk (bytesV bs), .int .i64 name, .int .i64 size] .nil) AMem.empty = some (.ret, T1, σ1) ∧
          resultsA lawProg T1 σ1 Tryz.f11.results.toList = some [x, .int .i64 (splitR bs name size).2] ∧ snapF false σ1 11 x = some ((splitR bs name size).1, seen) := by
      rintro c ⟨T1, σ1, e1, e2, e3⟩ hres
      rw [hres]
      exact ⟨T1, σ1, .vs .nil [], [], e1, res_two e2 e3, rfl⟩
    by_cases hs : 1 ≤ size ∧ size ≤ 100
    · by_cases hm : 0 ≤ name ∧ name ≤ 65535
      · have hne1 : ¬ (¬ (1 ≤ size ∧ size ≤ 100) ∨ ¬ (0 ≤ name ∧ name ≤ 65535)) := by simp [hs, hm]
        obtain ⟨s, rfl⟩ : ∃ s : Nat, size = (s : Int) := ⟨size.toNat, by omega⟩
        have hs1 : 1 ≤ s := by omega
        have hs2 : s ≤ 100 := by omega
        by_cases h0 : bs.length = 0
        · have h0I : ((bs.length : Int) = 0) := by omega
          refine errs 2 ?_ (by unfold splitR; rw [if_neg hne1, if_pos h0])
          simp only [bodyOf, Tryz.f11, Option.getD_some, initT, q_seq, q_cond, q_block, q_region, q_drawn, q_skip, q_exit, q_ret, runOps, runD, again, step1, wantA, opSem, evalO, evalL, evalOpt, evalParts, putA, ofConst, ofScalar, ofScalars, abin, abinInt, aun, convA, builtinA, oneTy, elemTy, lenB_vs, lenB_sl, lenB_str, loadA, storeA, storeCellsA, setAt, partA, fillA, placesA, isFn, TyI.isAgg, isSeq, isNum, sliceA, boundA, cells_bool, one_bool, cells_int, one_int, cells_str, one_str, cells_ptr, one_ptr, cells_nilptr, one_nilptr, cells_slice, one_slice, cells_vs, one_vs, cells_vptr, one_vptr, cells_func, one_func, cells_yield, one_yield, cells_nilfn, one_nilfn, cells_nilmap, one_nilmap, cells_map, one_map, cells_agg, setParams, Tr.get_set, AMem.get_put, AMem.get_push, AMem.next_put, AMem.next_push, AMem.get_empty, next_empty, Option.map_some, Option.map_none, Option.bind_some, reduceIte, Nat.reduceLT, Nat.reduceLeDiff, Nat.reduceEqDiff, Nat.reduceAdd, Nat.reduceMul, Nat.reduceSub, Nat.reduceBEq, Nat.zero_add, Nat.add_zero, Nat.mul_one, Nat.one_mul, Nat.zero_mul, and_self, and_true, true_and, false_and, and_false, Bool.and_true, Bool.true_and, Bool.and_false, Bool.false_and, if_true, if_false, Int.reduceEq, Int.reduceLT, Int.reduceLE, Int.reduceToNat, Bool.false_eq_true, Bool.not_true, Bool.not_false, BEq.rfl, beq_true_true, beq_true_false, beq_false_true, beq_false_false, List.length_cons, List.length_nil, List.all_cons, List.all_nil, List.getElem?_cons_zero, List.getElem?_cons_succ, List.getElem?_nil, List.getElem?_toArray, List.take_succ_cons, List.take_zero, List.drop_succ_cons, List.drop_zero, List.set_cons_zero, List.set_cons_succ, List.append_nil, List.nil_append, List.cons_append, decide_true, decide_false, decide_eq_true_eq, Option.isNone_none, Option.isNone_some, Option.isSome_none, Option.isSome_some, Bool.or_true, Bool.true_or, Bool.or_false, Bool.false_or, ne_eq, not_false_eq_true, not_true_eq_false, reduceCtorEq, eq_self, beq_refl, minL, minF, maxL, maxF, repZ, val52, ty3, ty4, ty5, ty22, ty24, ty32, hin, hs, hm, bytesV_length, h0I]
          exact ⟨_, _, rfl, by simp only [Tr.get_set, Nat.reduceEqDiff, reduceIte], by simp only [Tr.get_set, Nat.reduceEqDiff, reduceIte]⟩
        · have h0I : ((bs.length : Int) == 0) = false := by simpa using h0
          have hsz : ¬ ((s : Int) = 0) := by omega
          have hw1 : IntKind.i64.wrap ((bs.length : Int) + (s : Int)) = ((bs.length + s : Nat) : Int) := by rw [i64_id (by omega) (by omega)]; omega
          have hw2 : IntKind.i64.wrap (((bs.length + s : Nat) : Int) - 1) = ((bs.length + s - 1 : Nat) : Int) := by rw [i64_id (by omega) (by omega)]; omega
          have hq : ((bs.length + s - 1 : Nat) : Int).tdiv (s : Int) = ((manyOf bs.length s : Nat) : Int) := rfl
          have hmb : ∀ j, j ≤ manyOf bs.length s → j * s < 10000 := by
            intro j hj
            rcases Nat.eq_zero_or_pos j with rfl | hp
            · omega
            · have := (many_lt (n := bs.length) (s := s) (j := j - 1) hs1).1 (by omega)
              have h2 : (j - 1) * s + s = j * s := by rw [← Nat.succ_mul]; congr 1; omega
              omega
          have hmbig : manyOf bs.length s < 10000 := by
            have := hmb _ (Nat.le_refl _)
            have h2 : manyOf bs.length s * 1 ≤ manyOf bs.length s * s := Nat.mul_le_mul_left _ hs1
            omega
          have hlt : ∀ j, j < manyOf bs.length s ↔ j * s < bs.length := fun j => many_lt hs1
          by_cases h200 : 200 < manyOf bs.length s
          · have hres : splitR bs name (s : Int) = (.vs .nil [], 5) := by unfold splitR; rw [if_neg hne1, if_neg h0, if_pos (by simpa using h200)]
            have hw3 : IntKind.i64.wrap ((manyOf bs.length s : Nat) : Int) = ((manyOf bs.length s : Nat) : Int) := i64_id (by omega) (by omega)
            have hge : ((manyOf bs.length s : Nat) : Int) > 200 := by omega
            refine errs 5 ?_ hres
            simp only [bodyOf, Tryz.f11, Option.getD_some, initT, q_seq, q_cond, q_block, q_region, q_drawn, q_skip, q_exit, q_ret, runOps, runD, again, step1, wantA, opSem, evalO, evalL, evalOpt, evalParts, putA, ofConst, ofScalar, ofScalars, abin, abinInt, aun, convA, builtinA, oneTy, elemTy, lenB_vs, lenB_sl, lenB_str, loadA, storeA, storeCellsA, setAt, partA, fillA, placesA, isFn, TyI.isAgg, isSeq, isNum, sliceA, boundA, cells_bool, one_bool, cells_int, one_int, cells_str, one_str, cells_ptr, one_ptr, cells_nilptr, one_nilptr, cells_slice, one_slice, cells_vs, one_vs, cells_vptr, one_vptr, cells_func, one_func, cells_yield, one_yield, cells_nilfn, one_nilfn, cells_nilmap, one_nilmap, cells_map, one_map, cells_agg, setParams, Tr.get_set, AMem.get_put, AMem.get_push, AMem.next_put, AMem.next_push, AMem.get_empty, next_empty, Option.map_some, Option.map_none, Option.bind_some, reduceIte, Nat.reduceLT, Nat.reduceLeDiff, Nat.reduceEqDiff, Nat.reduceAdd, Nat.reduceMul, Nat.reduceSub, Nat.reduceBEq, Nat.zero_add, Nat.add_zero, Nat.mul_one, Nat.one_mul, Nat.zero_mul, and_self, and_true, true_and, false_and, and_false, Bool.and_true, Bool.true_and, Bool.and_false, Bool.false_and, if_true, if_false, Int.reduceEq, Int.reduceLT, Int.reduceLE, Int.reduceToNat, Bool.false_eq_true, Bool.not_true, Bool.not_false, BEq.rfl, beq_true_true, beq_true_false, beq_false_true, beq_false_false, List.length_cons, List.length_nil, List.all_cons, List.all_nil, List.getElem?_cons_zero, List.getElem?_cons_succ, List.getElem?_nil, List.getElem?_toArray, List.take_succ_cons, List.take_zero, List.drop_succ_cons, List.drop_zero, List.set_cons_zero, List.set_cons_succ, List.append_nil, List.nil_append, List.cons_append, decide_true, decide_false, decide_eq_true_eq, Option.isNone_none, Option.isNone_some, Option.isSome_none, Option.isSome_some, Bool.or_true, Bool.true_or, Bool.or_false, Bool.false_or, ne_eq, not_false_eq_true, not_true_eq_false, reduceCtorEq, eq_self, beq_refl, minL, minF, maxL, maxF, repZ, val52, ty3, ty4, ty5, ty22, ty24, ty32, hin, hs, hm, bytesV_length, h0I, hsz, hw1, hw2, hq, hw3, hge]
            exact ⟨_, _, rfl, by simp only [Tr.get_set, Nat.reduceEqDiff, reduceIte], by simp only [Tr.get_set, Nat.reduceEqDiff, reduceIte]⟩
          · have hres : splitR bs name (s : Int) = (.vs .some ((chunkL name (fun _ => manyOf bs.length s) bs s (manyOf bs.length s)).map AVal.agg), 0) := by unfold splitR; rw [if_neg hne1, if_neg h0, if_neg (by simpa using h200)]; simp
            rw [hres]
            have hw3 : IntKind.i64.wrap ((manyOf bs.length s : Nat) : Int) = ((manyOf bs.length s : Nat) : Int) := i64_id (by omega) (by omega)
            have hge : ¬ ((manyOf bs.length s : Nat) : Int) > 200 := by omega
            have hmpos : 0 < manyOf bs.length s := (hlt 0).2 (by omega)
            simp only [bodyOf, Tryz.f11, Option.getD_some, initT, q_seq, q_cond, q_block, q_region, q_drawn, q_skip, q_exit, q_ret, runOps, runD, again, step1, wantA, opSem, evalO, evalL, evalOpt, evalParts, putA, ofConst, ofScalar, ofScalars, abin, abinInt, aun, convA, builtinA, oneTy, elemTy, lenB_vs, lenB_sl, lenB_str, loadA, storeA, storeCellsA, setAt, partA, fillA, placesA, isFn, TyI.isAgg, isSeq, isNum, sliceA, boundA, cells_bool, one_bool, cells_int, one_int, cells_str, one_str, cells_ptr, one_ptr, cells_nilptr, one_nilptr, cells_slice, one_slice, cells_vs, one_vs, cells_vptr, one_vptr, cells_func, one_func, cells_yield, one_yield, cells_nilfn, one_nilfn, cells_nilmap, one_nilmap, cells_map, one_map, cells_agg, setParams, Tr.get_set, AMem.get_put, AMem.get_push, AMem.next_put, AMem.next_push, AMem.get_empty, next_empty, Option.map_some, Option.map_none, Option.bind_some, reduceIte, Nat.reduceLT, Nat.reduceLeDiff, Nat.reduceEqDiff, Nat.reduceAdd, Nat.reduceMul, Nat.reduceSub, Nat.reduceBEq, Nat.zero_add, Nat.add_zero, Nat.mul_one, Nat.one_mul, Nat.zero_mul, and_self, and_true, true_and, false_and, and_false, Bool.and_true, Bool.true_and, Bool.and_false, Bool.false_and, if_true, if_false, Int.reduceEq, Int.reduceLT, Int.reduceLE, Int.reduceToNat, Bool.false_eq_true, Bool.not_true, Bool.not_false, BEq.rfl, beq_true_true, beq_true_false, beq_false_true, beq_false_false, List.length_cons, List.length_nil, List.all_cons, List.all_nil, List.getElem?_cons_zero, List.getElem?_cons_succ, List.getElem?_nil, List.getElem?_toArray, List.take_succ_cons, List.take_zero, List.drop_succ_cons, List.drop_zero, List.set_cons_zero, List.set_cons_succ, List.append_nil, List.nil_append, List.cons_append, decide_true, decide_false, decide_eq_true_eq, Option.isNone_none, Option.isNone_some, Option.isSome_none, Option.isSome_some, Bool.or_true, Bool.true_or, Bool.or_false, Bool.false_or, ne_eq, not_false_eq_true, not_true_eq_false, reduceCtorEq, eq_self, beq_refl, minL, minF, maxL, maxF, repZ, val52, ty3, ty4, ty5, ty22, ty24, ty32, hin, hs, hm, bytesV_length, h0I, hsz, hw1, hw2, hq, hw3, hge]
            generalize manyOf bs.length s = m at *
            generalize hL : execC _ _ _ _ _ (Code.loop _) _ _ = r
            obtain ⟨e, T', σ', rfl, _, rfl, out, f9, hinv⟩ : ∃ e T' σ', r = some (e, T', σ') ∧ e ≠ .normal ∧ (e = .exit 0 ∧ ∃ out, T'.get 9 = some out ∧ RefInv name bs s m m out σ') := by
              rw [← hL]
              refine exec_loop (fun i T σ => i ≤ m ∧ T.get 0 = some (.vs vk (bytesV bs)) ∧ T.get 1 = some (.int .i64 name) ∧ T.get 2 = some (.int .i64 s) ∧ T.get 8 = some (.int .i64 m) ∧ T.get 10 = some (.int .i64 i) ∧ ∃ out, T.get 9 = some out ∧ RefInv name bs s m i out σ) m (by omega) ?_ ?_ ?_
              · rintro i hi T σ ⟨_, t0, t1, t2, t8, t10, out, t9, hinv⟩
                have hltI : (i : Int) < (m : Int) := by omega
                have hlen := (hlt i).1 hi
                have hjb := hmb (i + 1) (by omega)
                have hsm : (i + 1) * s = i * s + s := Nat.succ_mul i s
                let hi' := min bs.length ((i + 1) * s)
                have e1 : IntKind.i64.wrap ((i : Int) * (s : Int)) = ((i * s : Nat) : Int) := by
                  have : (i : Int) * (s : Int) = ((i * s : Nat) : Int) := by simp
                  rw [this, i64_id (by omega) (by omega)]
                have e2 : IntKind.i64.wrap ((i : Int) + 1) = ((i + 1 : Nat) : Int) := by rw [i64_id (by omega) (by omega)]; omega
                have e3 : IntKind.i64.wrap (((i + 1 : Nat) : Int) * (s : Int)) = (((i + 1) * s : Nat) : Int) := by
                  have : ((i + 1 : Nat) : Int) * (s : Int) = (((i + 1) * s : Nat) : Int) := by simp
                  rw [this, i64_id (by omega) (by omega)]
                have e4 : (if (((i + 1) * s : Nat) : Int) < (bs.length : Int) then (((i + 1) * s : Nat) : Int) else (bs.length : Int)) = (hi' : Int) := by
                  show _ = ((min bs.length ((i + 1) * s) : Nat) : Int)
                  split <;> omega
                have e5 : (0 : Int) ≤ (hi' : Int) ∧ (hi' : Int) ≤ (bs.length : Int) := by
                  show (0 : Int) ≤ ((min bs.length ((i + 1) * s) : Nat) : Int) ∧ ((min bs.length ((i + 1) * s) : Nat) : Int) ≤ _
                  omega
                have e6 : (0 : Int) ≤ ((i * s : Nat) : Int) ∧ ((i * s : Nat) : Int) ≤ (hi' : Int) := by
                  show (0 : Int) ≤ ((i * s : Nat) : Int) ∧ ((i * s : Nat) : Int) ≤ ((min bs.length ((i + 1) * s) : Nat) : Int)
                  omega
                have hpart : (bs.take hi').drop (i * s) = partOf bs s i := by
                  rw [List.drop_take]
                  have : hi' - i * s = min s (bs.length - i * s) := by show min bs.length ((i + 1) * s) - i * s = _; omega
                  rw [this]
                  show (bs.drop (i * s)).take (min s (bs.length - i * s)) = (bs.drop (i * s)).take s
                  rw [← List.length_drop, ← List.take_eq_take_min]
                have hpl := part_length hlen
                have hp0 : ¬ (partOf bs s i).length = 0 := by rw [hpl]; omega
                have happ1 : ∀ K, appendA ⟨.int .u8, 1, 1, [.int .u8 0]⟩ (σ.push (.row 1 false [])) (.slice σ.next 0 0 (some 0) 1) (.vs K (bytesV (partOf bs s i))) = some (.slice (σ.next + 1) 0 (partOf bs s i).length none 1, (σ.push (.row 1 false [])).push (.row 1 false (bytesV (partOf bs s i)))) := by
                  intro K
                  rw [append_bytes rfl rfl rfl (source_bytes _ _ _) (by rw [AMem.get_push, if_pos rfl]) (by rw [hpl]; omega), if_neg hp0, if_neg hp0]
                  rfl
                obtain ⟨σ', happ2, hinv'⟩ := ref_append hinv (p := (partOf bs s i).length) rfl (by omega)
                refine ⟨_, _, by
                  simp only [q_seq, q_cond, q_block, q_region, q_drawn, q_skip, q_exit, q_ret, runOps, runD, again, step1, wantA, opSem, evalO, evalL, evalOpt, evalParts, putA, ofConst, ofScalar, ofScalars, abin, abinInt, aun, convA, builtinA, oneTy, elemTy, lenB_vs, lenB_sl, lenB_str, loadA, storeA, storeCellsA, setAt, partA, fillA, placesA, isFn, TyI.isAgg, isSeq, isNum, sliceA, boundA, cells_bool, one_bool, cells_int, one_int, cells_str, one_str, cells_ptr, one_ptr, cells_nilptr, one_nilptr, cells_slice, one_slice, cells_vs, one_vs, cells_vptr, one_vptr, cells_func, one_func, cells_yield, one_yield, cells_nilfn, one_nilfn, cells_nilmap, one_nilmap, cells_map, one_map, cells_agg, setParams, Tr.get_set, AMem.get_put, AMem.get_push, AMem.next_put, AMem.next_push, AMem.get_empty, next_empty, Option.map_some, Option.map_none, Option.bind_some, reduceIte, Nat.reduceLT, Nat.reduceLeDiff, Nat.reduceEqDiff, Nat.reduceAdd, Nat.reduceMul, Nat.reduceSub, Nat.reduceBEq, Nat.zero_add, Nat.add_zero, Nat.mul_one, Nat.one_mul, Nat.zero_mul, and_self, and_true, true_and, false_and, and_false, Bool.and_true, Bool.true_and, Bool.and_false, Bool.false_and, if_true, if_false, Int.reduceEq, Int.reduceLT, Int.reduceLE, Int.reduceToNat, Bool.false_eq_true, Bool.not_true, Bool.not_false, BEq.rfl, beq_true_true, beq_true_false, beq_false_true, beq_false_false, List.length_cons, List.length_nil, List.all_cons, List.all_nil, List.getElem?_cons_zero, List.getElem?_cons_succ, List.getElem?_nil, List.getElem?_toArray, List.take_succ_cons, List.take_zero, List.drop_succ_cons, List.drop_zero, List.set_cons_zero, List.set_cons_succ, List.append_nil, List.nil_append, List.cons_append, decide_true, decide_false, decide_eq_true_eq, Option.isNone_none, Option.isNone_some, Option.isSome_none, Option.isSome_some, Bool.or_true, Bool.true_or, Bool.or_false, Bool.false_or, ne_eq, not_false_eq_true, not_true_eq_false, reduceCtorEq, eq_self, beq_refl, minL, minF, maxL, maxF, repZ, val52, ty3, ty4, ty5, ty22, ty24, ty32, t0, t1, t2, t8, t9, t10, hltI, e1, e2, e3, bytesV_length, e4, bytesV_cells, e5, e6, Int.toNat_natCast, bytesV_take, bytesV_drop, hpart, happ1, happ2]
                  rfl, hi, ?_, ?_, ?_, ?_, ?_, _, ?_, hinv'⟩
                all_goals simp only [Tr.get_set, Nat.reduceEqDiff, reduceIte, t0, t1, t2, t8]
              · rintro T σ ⟨_, t0, t1, t2, t8, t10, out, t9, hinv⟩
                refine ⟨_, _, _, by
                  simp only [q_seq, q_cond, q_block, q_region, q_drawn, q_skip, q_exit, q_ret, runOps, runD, again, step1, wantA, opSem, evalO, evalL, evalOpt, evalParts, putA, ofConst, ofScalar, ofScalars, abin, abinInt, aun, convA, builtinA, oneTy, elemTy, lenB_vs, lenB_sl, lenB_str, loadA, storeA, storeCellsA, setAt, partA, fillA, placesA, isFn, TyI.isAgg, isSeq, isNum, sliceA, boundA, cells_bool, one_bool, cells_int, one_int, cells_str, one_str, cells_ptr, one_ptr, cells_nilptr, one_nilptr, cells_slice, one_slice, cells_vs, one_vs, cells_vptr, one_vptr, cells_func, one_func, cells_yield, one_yield, cells_nilfn, one_nilfn, cells_nilmap, one_nilmap, cells_map, one_map, cells_agg, setParams, Tr.get_set, AMem.get_put, AMem.get_push, AMem.next_put, AMem.next_push, AMem.get_empty, next_empty, Option.map_some, Option.map_none, Option.bind_some, reduceIte, Nat.reduceLT, Nat.reduceLeDiff, Nat.reduceEqDiff, Nat.reduceAdd, Nat.reduceMul, Nat.reduceSub, Nat.reduceBEq, Nat.zero_add, Nat.add_zero, Nat.mul_one, Nat.one_mul, Nat.zero_mul, and_self, and_true, true_and, false_and, and_false, Bool.and_true, Bool.true_and, Bool.and_false, Bool.false_and, if_true, if_false, Int.reduceEq, Int.reduceLT, Int.reduceLE, Int.reduceToNat, Bool.false_eq_true, Bool.not_true, Bool.not_false, BEq.rfl, beq_true_true, beq_true_false, beq_false_true, beq_false_false, List.length_cons, List.length_nil, List.all_cons, List.all_nil, List.getElem?_cons_zero, List.getElem?_cons_succ, List.getElem?_nil, List.getElem?_toArray, List.take_succ_cons, List.take_zero, List.drop_succ_cons, List.drop_zero, List.set_cons_zero, List.set_cons_succ, List.append_nil, List.nil_append, List.cons_append, decide_true, decide_false, decide_eq_true_eq, Option.isNone_none, Option.isNone_some, Option.isSome_none, Option.isSome_some, Bool.or_true, Bool.true_or, Bool.or_false, Bool.false_or, ne_eq, not_false_eq_true, not_true_eq_false, reduceCtorEq, eq_self, beq_refl, minL, minF, maxL, maxF, repZ, val52, ty3, ty4, ty5, ty22, ty24, ty32, t8, t10, Int.lt_irrefl]
                  rfl, by simp, rfl, out, ?_, hinv⟩
                simp only [Tr.get_set, Nat.reduceEqDiff, reduceIte, t9]
              · refine ⟨Nat.zero_le _, ?_, ?_, ?_, ?_, ?_, .vs .nil [], ?_, [], [], ⟨rfl, .inl ⟨rfl, rfl⟩⟩, rfl, by simp⟩
                all_goals simp only [Tr.get_set, Nat.reduceEqDiff, reduceIte]
                all_goals rfl
            simp only [q_seq, q_cond, q_block, q_region, q_drawn, q_skip, q_exit, q_ret, runOps, runD, again, step1, wantA, opSem, evalO, evalL, evalOpt, evalParts, putA, ofConst, ofScalar, ofScalars, abin, abinInt, aun, convA, builtinA, oneTy, elemTy, lenB_vs, lenB_sl, lenB_str, loadA, storeA, storeCellsA, setAt, partA, fillA, placesA, isFn, TyI.isAgg, isSeq, isNum, sliceA, boundA, cells_bool, one_bool, cells_int, one_int, cells_str, one_str, cells_ptr, one_ptr, cells_nilptr, one_nilptr, cells_slice, one_slice, cells_vs, one_vs, cells_vptr, one_vptr, cells_func, one_func, cells_yield, one_yield, cells_nilfn, one_nilfn, cells_nilmap, one_nilmap, cells_map, one_map, cells_agg, setParams, Tr.get_set, AMem.get_put, AMem.get_push, AMem.next_put, AMem.next_push, AMem.get_empty, next_empty, Option.map_some, Option.map_none, Option.bind_some, reduceIte, Nat.reduceLT, Nat.reduceLeDiff, Nat.reduceEqDiff, Nat.reduceAdd, Nat.reduceMul, Nat.reduceSub, Nat.reduceBEq, Nat.zero_add, Nat.add_zero, Nat.mul_one, Nat.one_mul, Nat.zero_mul, and_self, and_true, true_and, false_and, and_false, Bool.and_true, Bool.true_and, Bool.and_false, Bool.false_and, if_true, if_false, Int.reduceEq, Int.reduceLT, Int.reduceLE, Int.reduceToNat, Bool.false_eq_true, Bool.not_true, Bool.not_false, BEq.rfl, beq_true_true, beq_true_false, beq_false_true, beq_false_false, List.length_cons, List.length_nil, List.all_cons, List.all_nil, List.getElem?_cons_zero, List.getElem?_cons_succ, List.getElem?_nil, List.getElem?_toArray, List.take_succ_cons, List.take_zero, List.drop_succ_cons, List.drop_zero, List.set_cons_zero, List.set_cons_succ, List.append_nil, List.nil_append, List.cons_append, decide_true, decide_false, decide_eq_true_eq, Option.isNone_none, Option.isNone_some, Option.isSome_none, Option.isSome_some, Bool.or_true, Bool.true_or, Bool.or_false, Bool.false_or, ne_eq, not_false_eq_true, not_true_eq_false, reduceCtorEq, eq_self, beq_refl, minL, minF, maxL, maxF, repZ, val52, ty3, ty4, ty5, ty22, ty24, ty32, f9]
            obtain ⟨cells, seen, ⟨hcl, hcase⟩, hsnap, hseen⟩ := hinv
            rcases hcase with ⟨h, _⟩ | ⟨r, _, _, rfl, hrow⟩
            · omega
            refine ⟨_, _, .slice r 0 m none 4, r :: seen, rfl, res_two (by simp only [Tr.get_set, Nat.reduceEqDiff, reduceIte]) (by simp only [Tr.get_set, Nat.reduceEqDiff, reduceIte]), ?_⟩
            -- the cells, cut into chunks of four
            have hcut : ∃ ls : List (List AVal), ls.length = m ∧ (∀ l, l ∈ ls → l.length = 4) ∧ ls.flatten = cells := by
              have : ∀ (j : Nat) (l : List AVal), l.length = j * 4 → ∃ ls : List (List AVal), ls.length = j ∧ (∀ x, x ∈ ls → x.length = 4) ∧ ls.flatten = l := by
                intro j
                induction j with
                | zero => intro l hl; exact ⟨[], rfl, by simp, (List.eq_nil_of_length_eq_zero (by omega)).symm⟩
                | succ j ih =>
                  intro l hl
                  obtain ⟨ls, h1, h2, h3⟩ := ih (l.drop 4) (by simp; omega)
                  refine ⟨l.take 4 :: ls, by simp [h1], ?_, by rw [List.flatten_cons, h3, List.take_append_drop]⟩
                  intro x hx
                  rcases List.mem_cons.1 hx with e | e
                  · subst e; simp; omega
                  · exact h2 x e
              exact this m cells hcl
            obtain ⟨ls, hl1, hl2, rfl⟩ := hcut
            exact snap_structs (fr := false) (d := 9) (cap := none) (sz := 4) (r := r) (n := m) (ls := ls) (ps := chunkL name (fun _ => m) bs s m) (S := seen) (by omega) hl1.symm (by rw [chunkL_length, hl1]) hl2 (chunkL_four _ _ _ _ _) hrow (by rw [← chunksC_flatten]; exact hsnap)
      · refine errs 3 ?_ (by unfold splitR; rw [if_pos (.inr hm)])
        simp only [bodyOf, Tryz.f11, Option.getD_some, initT, q_seq, q_cond, q_block, q_region, q_drawn, q_skip, q_exit, q_ret, runOps, runD, again, step1, wantA, opSem, evalO, evalL, evalOpt, evalParts, putA, ofConst, ofScalar, ofScalars, abin, abinInt, aun, convA, builtinA, oneTy, elemTy, lenB_vs, lenB_sl, lenB_str, loadA, storeA, storeCellsA, setAt, partA, fillA, placesA, isFn, TyI.isAgg, isSeq, isNum, sliceA, boundA, cells_bool, one_bool, cells_int, one_int, cells_str, one_str, cells_ptr, one_ptr, cells_nilptr, one_nilptr, cells_slice, one_slice, cells_vs, one_vs, cells_vptr, one_vptr, cells_func, one_func, cells_yield, one_yield, cells_nilfn, one_nilfn, cells_nilmap, one_nilmap, cells_map, one_map, cells_agg, setParams, Tr.get_set, AMem.get_put, AMem.get_push, AMem.next_put, AMem.next_push, AMem.get_empty, next_empty, Option.map_some, Option.map_none, Option.bind_some, reduceIte, Nat.reduceLT, Nat.reduceLeDiff, Nat.reduceEqDiff, Nat.reduceAdd, Nat.reduceMul, Nat.reduceSub, Nat.reduceBEq, Nat.zero_add, Nat.add_zero, Nat.mul_one, Nat.one_mul, Nat.zero_mul, and_self, and_true, true_and, false_and, and_false, Bool.and_true, Bool.true_and, Bool.and_false, Bool.false_and, if_true, if_false, Int.reduceEq, Int.reduceLT, Int.reduceLE, Int.reduceToNat, Bool.false_eq_true, Bool.not_true, Bool.not_false, BEq.rfl, beq_true_true, beq_true_false, beq_false_true, beq_false_false, List.length_cons, List.length_nil, List.all_cons, List.all_nil, List.getElem?_cons_zero, List.getElem?_cons_succ, List.getElem?_nil, List.getElem?_toArray, List.take_succ_cons, List.take_zero, List.drop_succ_cons, List.drop_zero, List.set_cons_zero, List.set_cons_succ, List.append_nil, List.nil_append, List.cons_append, decide_true, decide_false, decide_eq_true_eq, Option.isNone_none, Option.isNone_some, Option.isSome_none, Option.isSome_some, Bool.or_true, Bool.true_or, Bool.or_false, Bool.false_or, ne_eq, not_false_eq_true, not_true_eq_false, reduceCtorEq, eq_self, beq_refl, minL, minF, maxL, maxF, repZ, val52, ty3, ty4, ty5, ty22, ty24, ty32, hin, hs, hm]
        exact ⟨_, _, rfl, by simp only [Tr.get_set, Nat.reduceEqDiff, reduceIte], by simp only [Tr.get_set, Nat.reduceEqDiff, reduceIte]⟩
    · refine errs 3 ?_ (by unfold splitR; rw [if_pos (.inl hs)])
      simp only [bodyOf, Tryz.f11, Option.getD_some, initT, q_seq, q_cond, q_block, q_region, q_drawn, q_skip, q_exit, q_ret, runOps, runD, again, step1, wantA, opSem, evalO, evalL, evalOpt, evalParts, putA, ofConst, ofScalar, ofScalars, abin, abinInt, aun, convA, builtinA, oneTy, elemTy, lenB_vs, lenB_sl, lenB_str, loadA, storeA, storeCellsA, setAt, partA, fillA, placesA, isFn, TyI.isAgg, isSeq, isNum, sliceA, boundA, cells_bool, one_bool, cells_int, one_int, cells_str, one_str, cells_ptr, one_ptr, cells_nilptr, one_nilptr, cells_slice, one_slice, cells_vs, one_vs, cells_vptr, one_vptr, cells_func, one_func, cells_yield, one_yield, cells_nilfn, one_nilfn, cells_nilmap, one_nilmap, cells_map, one_map, cells_agg, setParams, Tr.get_set, AMem.get_put, AMem.get_push, AMem.next_put, AMem.next_push, AMem.get_empty, next_empty, Option.map_some, Option.map_none, Option.bind_some, reduceIte, Nat.reduceLT, Nat.reduceLeDiff, Nat.reduceEqDiff, Nat.reduceAdd, Nat.reduceMul, Nat.reduceSub, Nat.reduceBEq, Nat.zero_add, Nat.add_zero, Nat.mul_one, Nat.one_mul, Nat.zero_mul, and_self, and_true, true_and, false_and, and_false, Bool.and_true, Bool.true_and, Bool.and_false, Bool.false_and, if_true, if_false, Int.reduceEq, Int.reduceLT, Int.reduceLE, Int.reduceToNat, Bool.false_eq_true, Bool.not_true, Bool.not_false, BEq.rfl, beq_true_true, beq_true_false, beq_false_true, beq_false_false, List.length_cons, List.length_nil, List.all_cons, List.all_nil, List.getElem?_cons_zero, List.getElem?_cons_succ, List.getElem?_nil, List.getElem?_toArray, List.take_succ_cons, List.take_zero, List.drop_succ_cons, List.drop_zero, List.set_cons_zero, List.set_cons_succ, List.append_nil, List.nil_append, List.cons_append, decide_true, decide_false, decide_eq_true_eq, Option.isNone_none, Option.isNone_some, Option.isSome_none, Option.isSome_some, Bool.or_true, Bool.true_or, Bool.or_false, Bool.false_or, ne_eq, not_false_eq_true, not_true_eq_false, reduceCtorEq, eq_self, beq_refl, minL, minF, maxL, maxF, repZ, val52, ty3, ty4, ty5, ty22, ty24, ty32, hin, hs]
      exact ⟨_, _, rfl, by simp only [Tr.get_set, Nat.reduceEqDiff, reduceIte], by simp only [Tr.get_set, Nat.reduceEqDiff, reduceIte]⟩
  obtain ⟨T1, σ1, x, seen, h1, h2, h3⟩ := run
  exact pureRun_any (seen := seen ++ ([] ++ [])) fn11 rfl (by simp [Tryz.f11]) h1 (by simp) h2 (by
    show (snapL (snapF false σ1 11) [x, .int .i64 _]).map (fun (l, a) => (AVal.tuple l, a)) = _
    simp only [snapL, h3, snap_int, Option.map_some])
end Go.Proofs.YtikhidpcaefjiaaGreatDoor
