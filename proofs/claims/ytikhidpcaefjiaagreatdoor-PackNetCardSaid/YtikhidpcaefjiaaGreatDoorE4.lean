/- The law PackNet on the abstract machine: a move of the net. -/
import Derived.Test.YtikhidpcaefjiaaGreatDoorE3
set_option maxRecDepth 100000
set_option linter.unusedSimpArgs false
set_option linter.unusedVariables false
namespace Go.Proofs.YtikhidpcaefjiaaGreatDoor
open Go Go.Proofs.YtikhidpcaefjiaaGreatDoor.Pale
variable {k : Nat} {σ : AMem}

theorem sentIn_bad {S : List Pk} {bad : Bool} {p : Pk} (h : SentIn S bad p) : SentIn S true p := by
  obtain ⟨s, h1, h2, h3, h4, _⟩ := h
  exact ⟨s, h1, h2, h3, h4, fun h => by cases h⟩
noncomputable def codeB : Code := dropC 2 roundC
/-- How many packets there are then. -/
def manyI (kd : Int) (n : Nat) : Int := IntKind.i64.wrap ((n : Int) + IntKind.i64.wrap ((if kd == 3 then 1 else 0) - (if (kd == 1 || kd == 2) then 1 else 0)))
/-- A packet comes. -/
theorem moveCome {k1 k2 : VK} {L : List L3} {M : List M4} {i : Nat} {bad : Bool} {K : VK} {ps : List Pk} {l : List (Pk × Nat)} {T : Tr AVal} {σ : AMem} (st : NetSt k1 k2 L M i (i + 1) bad K ps l T σ) (hi : i < M.length) (hi80 : i < 80) (hM : ∀ t, t ∈ M → M4ok t) (h0 : 0 < ps.length) (hkd : M[i].1 % 4 = 0) (hk : 5000 ≤ k) :
    Runs lawProg (callN lawProg k) k 7 225 codeB T σ fun e T σ => (e = .normal ∨ e = .exit 1) ∧ ∃ bad' K' ps', NetSt k1 k2 L M i (i + 1) bad' K' ps' l T σ := by
  obtain ⟨t1, t3, t5, t6, t7, ⟨out, t4, sm⟩, g0, g1, nx, ok, each, len⟩ := st
  obtain ⟨l1, l2, l3, l4⟩ := hM _ (List.getElem_mem hi)
  have hn60 : ps.length ≤ 60 := ok.2.1
  have hvk : ∀ p, p ∈ ps → p.vk = .some := fun p hp => (each p hp).1
  have hps : ps.map cp = ps := map_cp hvk
  have hbl : ∀ p, p ∈ ps → p.b.length ≤ 1000000 := fun p hp => by have := (each p hp).2.1; omega
  have hlt : (i : Int) < (M.length : Int) := by omega
  have w2 : IntKind.i64.wrap ((M[i].2.1 : Nat) : Int) = ((M[i].2.1 : Nat) : Int) := i64_id (by omega) (by omega)
  have m2 : ((M[i].2.1 : Nat) : Int).tmod (ps.length : Int) = ((M[i].2.1 % ps.length : Nat) : Int) := rfl
  have hp0 : ¬ (ps.length : Int) = 0 := by omega
  have hN : M[i].2.1 % ps.length < ps.length := Nat.mod_lt _ h0
  generalize hNe : M[i].2.1 % ps.length = N at m2 hN
  have hcn := fun (σ : AMem) => copyNet_call (k := k) (σ := σ) 3 K ps (by omega) hbl (by omega)
  simp only [hps] at hcn
  have z4 : ((4 : Nat) : Int) = 4 := rfl
  have z1 : ((1 : Nat) : Int) = 1 := rfl
  have q0 : ¬ σ.next = 0 := by omega
  have q1 : ¬ σ.next = 1 := by omega
  have q2 : ¬ 1 = σ.next := by omega
  have q3 : ¬ σ.next + 1 = 0 := by omega
  have q4 : ¬ σ.next + 1 = 1 := by omega
  have q5 : ¬ 1 = σ.next + 1 := by omega
  have htr := fun (σ : AMem) (b : Bool) => truth_call (k := k) (σ := σ) b (by omega)
  have b8 : ((0 : Int) == 8) = false := rfl
  have b0 : ((0 : Int) != 0) = false := rfl
  have b88 : ((8 : Int) == 8) = true := rfl
  have m0 : ((M[i].1 : Nat) : Int).tmod 4 = 0 := by show ((M[i].1 % 4 : Nat) : Int) = _; rw [hkd]; rfl
  have wq : IntKind.u8.wrap (0 + 1) = 1 := rfl
  have hmv : moveB ps ⟨1, N, 0, 0⟩ = true := by
    unfold moveB
    rw [decide_eq_true (show (0 : Int) ≤ (N : Int) ∧ (N : Int) ≤ (ps.length : Int) - 1 by omega), if_pos (show (1 : Int) = 1 ∨ (1 : Int) = 2 ∨ (1 : Int) = 3 by decide)]
    rfl
  obtain ⟨e1, e2⟩ := do_ok (h := 3) ok hmv (show ¬ ((1 : Int) = 3 ∧ ps.length = 60) by omega) hN rfl
  have hdo := fun (σ : AMem) => do_call (k := k) (σ := σ) 3 (lkOf ps.length) ps ⟨1, N, 0, 0⟩ (by omega) hvk hbl (by omega)
  rw [doL_one (.inl rfl)] at e2
  have hnvk : ∀ p, p ∈ ps.eraseIdx N → p ∈ ps := fun p hp => by
    exact List.mem_of_mem_eraseIdx hp
  have hnc : (ps.eraseIdx N).map cp = ps.eraseIdx N := map_cp fun p hp => hvk p (hnvk p hp)
  rw [hnc] at e2
  have hnl : (ps.eraseIdx N).length = ps.length - 1 := by rw [List.length_eraseIdx, if_pos hN]
  have hdc : doC ⟨1, N, 0, 0⟩ ps[N] = .vs .some [pkV (cp ps[N])] := by unfold doC; rfl
  rw [hdc] at e2
  simp only [e1, e2, netV] at hdo
  have hnew : NetOk 3 (ps.eraseIdx N) := ⟨ok.1, by omega, fun p hp => ok.2.2 p (hnvk p hp)⟩
  have hin := fun (σ : AMem) => isNet_call (k := k) (σ := σ) 3 .some (ps.eraseIdx N) (by omega) (by omega)
  simp only [decide_eq_true hnew] at hin
  have y1 : IntKind.i64.wrap ((0 : Int) - 1) = -1 := rfl
  have y2 : IntKind.i64.wrap ((ps.length : Int) + -1) = ((ps.eraseIdx N).length : Int) := by rw [hnl, i64_id (by omega) (by omega)]; omega
  have hpN := List.getElem_mem hN
  have hcpN : pkV (cp ps[N]) = .agg [.int .i64 ps[N].fr, .int .i64 ps[N].to, .vs .some (bytesV ps[N].b)] := rfl
  simp only [hcpN] at hdo
  have hvN := hvk _ hpN
  have hws : pureCall lawProg (callN lawProg k) (.func 35 [] []) [out, .agg [.int .i64 ps[N].fr, .int .i64 ps[N].to, .vs .some (bytesV ps[N].b)], .bool bad] ((((σ.push (.row 4 true [.int .u8 0, .int .i64 0, .int .i64 0, .int .i64 0])).put σ.next (.row 4 true [.int .u8 1, .int .i64 (N : Nat), .int .i64 0, .int .i64 0])).push (.row 2 true [.int .i64 0, .vs .nil []])).put (σ.next + 1) (.row 2 true [.int .i64 3, .vs .some ((ps.eraseIdx N).map pkV)])) = some (.bool true, (((σ.push (.row 4 true [.int .u8 0, .int .i64 0, .int .i64 0, .int .i64 0])).put σ.next (.row 4 true [.int .u8 1, .int .i64 (N : Nat), .int .i64 0, .int .i64 0])).push (.row 2 true [.int .i64 0, .vs .nil []])).put (σ.next + 1) (.row 2 true [.int .i64 3, .vs .some ((ps.eraseIdx N).map pkV)])) := by
    have sm2 : SentMem 2 ((((σ.push (.row 4 true [.int .u8 0, .int .i64 0, .int .i64 0, .int .i64 0])).put σ.next (.row 4 true [.int .u8 1, .int .i64 (N : Nat), .int .i64 0, .int .i64 0])).push (.row 2 true [.int .i64 0, .vs .nil []])).put (σ.next + 1) (.row 2 true [.int .i64 3, .vs .some ((ps.eraseIdx N).map pkV)])) out l := sm.same (by simp; omega) fun s h1 h2 => by
      simp only [AMem.get_push, AMem.get_put, AMem.next_push, AMem.next_put, show ¬ σ.next = s by omega, show ¬ σ.next + 1 = s by omega, if_false]
    obtain ⟨seen, hs⟩ := sm2.snap 9
    have := wasSent_call (k := k) (lkOf l.length) (l.map (·.1)) ps[N] bad hs (each _ hpN).2.2 (by rw [List.length_map]; omega) (by omega)
    rw [hvN] at this
    exact this
  refine ⟨.normal, _, _, by
    simp only [codeB, roundC, bodyOf, Tryz.f7, Option.getD_some, flatC, innerC, thenC, stmtC, dropC, List.append_assoc, q_seq, q_cond, q_block, q_region, q_drawn, q_skip, q_exit, q_ret, runOps, runD, again, step1, wantA, opSem, evalO, evalL, evalOpt, evalParts, putA, ofConst, ofScalar, ofScalars, abin, abinInt, aun, convA, builtinA, oneTy, elemTy, lenB_vs, lenB_sl, lenB_str, loadA, storeA, storeCellsA, setAt, partA, fillA, placesA, isFn, TyI.isAgg, isSeq, isNum, sliceA, boundA, cells_bool, one_bool, cells_int, one_int, cells_str, one_str, cells_ptr, one_ptr, cells_nilptr, one_nilptr, cells_slice, one_slice, cells_vs, one_vs, cells_vptr, one_vptr, cells_func, one_func, cells_yield, one_yield, cells_nilfn, one_nilfn, cells_nilmap, one_nilmap, cells_map, one_map, cells_agg, setParams, Tr.get_set, AMem.get_put, AMem.get_push, AMem.next_put, AMem.next_push, AMem.get_empty, next_empty, Option.map_some, Option.map_none, Option.bind_some, reduceIte, Nat.reduceLT, Nat.reduceLeDiff, Nat.reduceEqDiff, Nat.reduceAdd, Nat.reduceMul, Nat.reduceSub, Nat.reduceBEq, Nat.zero_add, Nat.add_zero, Nat.mul_one, Nat.one_mul, Nat.zero_mul, and_self, and_true, true_and, false_and, and_false, Bool.and_true, Bool.true_and, Bool.and_false, Bool.false_and, if_true, if_false, Int.reduceEq, Int.reduceLT, Int.reduceLE, Int.reduceToNat, Bool.false_eq_true, Bool.not_true, Bool.not_false, BEq.rfl, beq_true_true, beq_true_false, beq_false_true, beq_false_false, List.length_cons, List.length_nil, List.all_cons, List.all_nil, List.getElem?_cons_zero, List.getElem?_cons_succ, List.getElem?_nil, List.getElem?_toArray, List.take_succ_cons, List.take_zero, List.drop_succ_cons, List.drop_zero, List.set_cons_zero, List.set_cons_succ, List.append_nil, List.nil_append, List.cons_append, decide_true, decide_false, decide_eq_true_eq, Option.isNone_none, Option.isNone_some, Option.isSome_none, Option.isSome_some, Bool.or_true, Bool.true_or, Bool.or_false, Bool.false_or, ne_eq, not_false_eq_true, not_true_eq_false, reduceCtorEq, eq_self, beq_refl, minL, minF, maxL, maxF, repZ, vp7_9, vp7_22, vp7_23, vp7_24, vp7_28, vp7_31, vp7_34, vp7_35, ty3, ty4, ty5, ty22, ty25, ty40, ty42, ty44, ty58, ty63, ty64, ty66, ty67, ty68, ord7_8, ord7_9, ord7_10, ord7_15, ord7_17, ord7_18, ord7_22, Nat.add_assoc, Nat.add_eq_left, Nat.left_eq_add, Nat.add_left_cancel_iff, t1, t3, t5, t6, t7, t4, g0, g1, hlt, List.length_map, Int.natCast_nonneg, Int.toNat_natCast, m4_get hi, m0, wq, w2, m2, hp0, hcn, hdo, z4, z1, q0, q1, q2, q3, q4, q5, htr, b8, b0, b88, show ((1 : Int) == 1) = true from rfl, show ((1 : Int) == 2) = false from rfl, show ((1 : Int) == 3) = false from rfl, show ((1 : Int) == 4) = false from rfl, hin, y1, y2, bne_self_eq_false, hws, show ((1 : Nat) : Int) = 1 from rfl, show ((1 : Int) != 1) = false from rfl, List.getElem?_cons_zero, show ((0 : Int) == 1) = false from rfl, show ((1 : Int) == 1) = true from rfl, show ((0 : Nat) : Int) = 0 from rfl, Bool.or_false, Bool.or_true]
    rfl, .inl rfl, bad, .some, ps.eraseIdx N, ?_⟩
  refine ⟨?_, ?_, ?_, ?_, ?_, ⟨out, ?_, sm.same ?_ fun s h1 h2 => ?_⟩, ?_, ?_, ?_, hnew, fun p hp => each p (hnvk p hp), len⟩
  · simp only [Tr.get_set, Nat.reduceEqDiff, reduceIte, t1]
  · simp only [Tr.get_set, Nat.reduceEqDiff, reduceIte, t3]
  · simp only [Tr.get_set, Nat.reduceEqDiff, reduceIte]
  · simp only [Tr.get_set, Nat.reduceEqDiff, reduceIte, t6]
  · simp only [Tr.get_set, Nat.reduceEqDiff, reduceIte, t7]
  · simp only [Tr.get_set, Nat.reduceEqDiff, reduceIte, t4]
  · simp only [AMem.next_push, AMem.next_put]; omega
  · simp only [AMem.get_push, AMem.get_put, AMem.next_push, AMem.next_put, show ¬ σ.next = s by omega, show ¬ σ.next + 1 = s by omega, show ¬ 1 = s by omega, if_false]
  · simp only [AMem.get_push, AMem.get_put, AMem.next_push, AMem.next_put, q0, q3, show ¬ 1 = 0 by omega, if_false, g0]
  · simp only [AMem.get_put, reduceIte]
  · simp only [AMem.next_push, AMem.next_put]; omega
/-- A packet is lost. -/
theorem moveLose {k1 k2 : VK} {L : List L3} {M : List M4} {i : Nat} {bad : Bool} {K : VK} {ps : List Pk} {l : List (Pk × Nat)} {T : Tr AVal} {σ : AMem} (st : NetSt k1 k2 L M i (i + 1) bad K ps l T σ) (hi : i < M.length) (hi80 : i < 80) (hM : ∀ t, t ∈ M → M4ok t) (h0 : 0 < ps.length) (hkd : M[i].1 % 4 = 1) (hk : 5000 ≤ k) :
    Runs lawProg (callN lawProg k) k 7 225 codeB T σ fun e T σ => (e = .normal ∨ e = .exit 1) ∧ ∃ bad' K' ps', NetSt k1 k2 L M i (i + 1) bad' K' ps' l T σ := by
  obtain ⟨t1, t3, t5, t6, t7, ⟨out, t4, sm⟩, g0, g1, nx, ok, each, len⟩ := st
  obtain ⟨l1, l2, l3, l4⟩ := hM _ (List.getElem_mem hi)
  have hn60 : ps.length ≤ 60 := ok.2.1
  have hvk : ∀ p, p ∈ ps → p.vk = .some := fun p hp => (each p hp).1
  have hps : ps.map cp = ps := map_cp hvk
  have hbl : ∀ p, p ∈ ps → p.b.length ≤ 1000000 := fun p hp => by have := (each p hp).2.1; omega
  have hlt : (i : Int) < (M.length : Int) := by omega
  have w2 : IntKind.i64.wrap ((M[i].2.1 : Nat) : Int) = ((M[i].2.1 : Nat) : Int) := i64_id (by omega) (by omega)
  have m2 : ((M[i].2.1 : Nat) : Int).tmod (ps.length : Int) = ((M[i].2.1 % ps.length : Nat) : Int) := rfl
  have hp0 : ¬ (ps.length : Int) = 0 := by omega
  have hN : M[i].2.1 % ps.length < ps.length := Nat.mod_lt _ h0
  generalize hNe : M[i].2.1 % ps.length = N at m2 hN
  have hcn := fun (σ : AMem) => copyNet_call (k := k) (σ := σ) 3 K ps (by omega) hbl (by omega)
  simp only [hps] at hcn
  have z4 : ((4 : Nat) : Int) = 4 := rfl
  have z1 : ((1 : Nat) : Int) = 1 := rfl
  have q0 : ¬ σ.next = 0 := by omega
  have q1 : ¬ σ.next = 1 := by omega
  have q2 : ¬ 1 = σ.next := by omega
  have q3 : ¬ σ.next + 1 = 0 := by omega
  have q4 : ¬ σ.next + 1 = 1 := by omega
  have q5 : ¬ 1 = σ.next + 1 := by omega
  have htr := fun (σ : AMem) (b : Bool) => truth_call (k := k) (σ := σ) b (by omega)
  have b8 : ((0 : Int) == 8) = false := rfl
  have b0 : ((0 : Int) != 0) = false := rfl
  have b88 : ((8 : Int) == 8) = true := rfl
  have m0 : ((M[i].1 : Nat) : Int).tmod 4 = 1 := by show ((M[i].1 % 4 : Nat) : Int) = _; rw [hkd]; rfl
  have wq : IntKind.u8.wrap (1 + 1) = 2 := rfl
  have hmv : moveB ps ⟨2, N, 0, 0⟩ = true := by
    unfold moveB
    rw [decide_eq_true (show (0 : Int) ≤ (N : Int) ∧ (N : Int) ≤ (ps.length : Int) - 1 by omega), if_pos (show (2 : Int) = 1 ∨ (2 : Int) = 2 ∨ (2 : Int) = 3 by decide)]
    rfl
  obtain ⟨e1, e2⟩ := do_ok (h := 3) ok hmv (show ¬ ((2 : Int) = 3 ∧ ps.length = 60) by omega) hN rfl
  have hdo := fun (σ : AMem) => do_call (k := k) (σ := σ) 3 (lkOf ps.length) ps ⟨2, N, 0, 0⟩ (by omega) hvk hbl (by omega)
  rw [doL_one (.inr rfl)] at e2
  have hnvk : ∀ p, p ∈ ps.eraseIdx N → p ∈ ps := fun p hp => by
    exact List.mem_of_mem_eraseIdx hp
  have hnc : (ps.eraseIdx N).map cp = ps.eraseIdx N := map_cp fun p hp => hvk p (hnvk p hp)
  rw [hnc] at e2
  have hnl : (ps.eraseIdx N).length = ps.length - 1 := by rw [List.length_eraseIdx, if_pos hN]
  have hdc : doC ⟨2, N, 0, 0⟩ ps[N] = .vs .nil [] := by unfold doC; rfl
  rw [hdc] at e2
  simp only [e1, e2, netV] at hdo
  have hnew : NetOk 3 (ps.eraseIdx N) := ⟨ok.1, by omega, fun p hp => ok.2.2 p (hnvk p hp)⟩
  have hin := fun (σ : AMem) => isNet_call (k := k) (σ := σ) 3 .some (ps.eraseIdx N) (by omega) (by omega)
  simp only [decide_eq_true hnew] at hin
  have y1 : IntKind.i64.wrap ((0 : Int) - 1) = -1 := rfl
  have y2 : IntKind.i64.wrap ((ps.length : Int) + -1) = ((ps.eraseIdx N).length : Int) := by rw [hnl, i64_id (by omega) (by omega)]; omega
  refine ⟨.normal, _, _, by
    simp only [codeB, roundC, bodyOf, Tryz.f7, Option.getD_some, flatC, innerC, thenC, stmtC, dropC, List.append_assoc, q_seq, q_cond, q_block, q_region, q_drawn, q_skip, q_exit, q_ret, runOps, runD, again, step1, wantA, opSem, evalO, evalL, evalOpt, evalParts, putA, ofConst, ofScalar, ofScalars, abin, abinInt, aun, convA, builtinA, oneTy, elemTy, lenB_vs, lenB_sl, lenB_str, loadA, storeA, storeCellsA, setAt, partA, fillA, placesA, isFn, TyI.isAgg, isSeq, isNum, sliceA, boundA, cells_bool, one_bool, cells_int, one_int, cells_str, one_str, cells_ptr, one_ptr, cells_nilptr, one_nilptr, cells_slice, one_slice, cells_vs, one_vs, cells_vptr, one_vptr, cells_func, one_func, cells_yield, one_yield, cells_nilfn, one_nilfn, cells_nilmap, one_nilmap, cells_map, one_map, cells_agg, setParams, Tr.get_set, AMem.get_put, AMem.get_push, AMem.next_put, AMem.next_push, AMem.get_empty, next_empty, Option.map_some, Option.map_none, Option.bind_some, reduceIte, Nat.reduceLT, Nat.reduceLeDiff, Nat.reduceEqDiff, Nat.reduceAdd, Nat.reduceMul, Nat.reduceSub, Nat.reduceBEq, Nat.zero_add, Nat.add_zero, Nat.mul_one, Nat.one_mul, Nat.zero_mul, and_self, and_true, true_and, false_and, and_false, Bool.and_true, Bool.true_and, Bool.and_false, Bool.false_and, if_true, if_false, Int.reduceEq, Int.reduceLT, Int.reduceLE, Int.reduceToNat, Bool.false_eq_true, Bool.not_true, Bool.not_false, BEq.rfl, beq_true_true, beq_true_false, beq_false_true, beq_false_false, List.length_cons, List.length_nil, List.all_cons, List.all_nil, List.getElem?_cons_zero, List.getElem?_cons_succ, List.getElem?_nil, List.getElem?_toArray, List.take_succ_cons, List.take_zero, List.drop_succ_cons, List.drop_zero, List.set_cons_zero, List.set_cons_succ, List.append_nil, List.nil_append, List.cons_append, decide_true, decide_false, decide_eq_true_eq, Option.isNone_none, Option.isNone_some, Option.isSome_none, Option.isSome_some, Bool.or_true, Bool.true_or, Bool.or_false, Bool.false_or, ne_eq, not_false_eq_true, not_true_eq_false, reduceCtorEq, eq_self, beq_refl, minL, minF, maxL, maxF, repZ, vp7_9, vp7_22, vp7_23, vp7_24, vp7_28, vp7_31, vp7_34, vp7_35, ty3, ty4, ty5, ty22, ty25, ty40, ty42, ty44, ty58, ty63, ty64, ty66, ty67, ty68, ord7_8, ord7_9, ord7_10, ord7_15, ord7_17, ord7_18, ord7_22, Nat.add_assoc, Nat.add_eq_left, Nat.left_eq_add, Nat.add_left_cancel_iff, t1, t3, t5, t6, t7, t4, g0, g1, hlt, List.length_map, Int.natCast_nonneg, Int.toNat_natCast, m4_get hi, m0, wq, w2, m2, hp0, hcn, hdo, z4, z1, q0, q1, q2, q3, q4, q5, htr, b8, b0, b88, show ((2 : Int) == 1) = false from rfl, show ((2 : Int) == 2) = true from rfl, show ((2 : Int) == 3) = false from rfl, show ((2 : Int) == 4) = false from rfl, hin, y1, y2, bne_self_eq_false, show ((0 : Int) == 1) = false from rfl, show ((1 : Int) == 1) = true from rfl, show ((0 : Nat) : Int) = 0 from rfl, Bool.or_false, Bool.or_true]
    rfl, .inl rfl, bad, .some, ps.eraseIdx N, ?_⟩
  refine ⟨?_, ?_, ?_, ?_, ?_, ⟨out, ?_, sm.same ?_ fun s h1 h2 => ?_⟩, ?_, ?_, ?_, hnew, fun p hp => each p (hnvk p hp), len⟩
  · simp only [Tr.get_set, Nat.reduceEqDiff, reduceIte, t1]
  · simp only [Tr.get_set, Nat.reduceEqDiff, reduceIte, t3]
  · simp only [Tr.get_set, Nat.reduceEqDiff, reduceIte]
  · simp only [Tr.get_set, Nat.reduceEqDiff, reduceIte, t6]
  · simp only [Tr.get_set, Nat.reduceEqDiff, reduceIte, t7]
  · simp only [Tr.get_set, Nat.reduceEqDiff, reduceIte, t4]
  · simp only [AMem.next_push, AMem.next_put]; omega
  · simp only [AMem.get_push, AMem.get_put, AMem.next_push, AMem.next_put, show ¬ σ.next = s by omega, show ¬ σ.next + 1 = s by omega, show ¬ 1 = s by omega, if_false]
  · simp only [AMem.get_push, AMem.get_put, AMem.next_push, AMem.next_put, q0, q3, show ¬ 1 = 0 by omega, if_false, g0]
  · simp only [AMem.get_put, reduceIte]
  · simp only [AMem.next_push, AMem.next_put]; omega
/-- A packet is there twice. -/
theorem moveTwice {k1 k2 : VK} {L : List L3} {M : List M4} {i : Nat} {bad : Bool} {K : VK} {ps : List Pk} {l : List (Pk × Nat)} {T : Tr AVal} {σ : AMem} (st : NetSt k1 k2 L M i (i + 1) bad K ps l T σ) (hi : i < M.length) (hi80 : i < 80) (hM : ∀ t, t ∈ M → M4ok t) (h0 : 0 < ps.length) (hkd : M[i].1 % 4 = 2) (h60 : ps.length ≠ 60) (hk : 5000 ≤ k) :
    Runs lawProg (callN lawProg k) k 7 225 codeB T σ fun e T σ => (e = .normal ∨ e = .exit 1) ∧ ∃ bad' K' ps', NetSt k1 k2 L M i (i + 1) bad' K' ps' l T σ := by
  obtain ⟨t1, t3, t5, t6, t7, ⟨out, t4, sm⟩, g0, g1, nx, ok, each, len⟩ := st
  obtain ⟨l1, l2, l3, l4⟩ := hM _ (List.getElem_mem hi)
  have hn60 : ps.length ≤ 60 := ok.2.1
  have hvk : ∀ p, p ∈ ps → p.vk = .some := fun p hp => (each p hp).1
  have hps : ps.map cp = ps := map_cp hvk
  have hbl : ∀ p, p ∈ ps → p.b.length ≤ 1000000 := fun p hp => by have := (each p hp).2.1; omega
  have hlt : (i : Int) < (M.length : Int) := by omega
  have w2 : IntKind.i64.wrap ((M[i].2.1 : Nat) : Int) = ((M[i].2.1 : Nat) : Int) := i64_id (by omega) (by omega)
  have m2 : ((M[i].2.1 : Nat) : Int).tmod (ps.length : Int) = ((M[i].2.1 % ps.length : Nat) : Int) := rfl
  have hp0 : ¬ (ps.length : Int) = 0 := by omega
  have hN : M[i].2.1 % ps.length < ps.length := Nat.mod_lt _ h0
  generalize hNe : M[i].2.1 % ps.length = N at m2 hN
  have hcn := fun (σ : AMem) => copyNet_call (k := k) (σ := σ) 3 K ps (by omega) hbl (by omega)
  simp only [hps] at hcn
  have z4 : ((4 : Nat) : Int) = 4 := rfl
  have z1 : ((1 : Nat) : Int) = 1 := rfl
  have q0 : ¬ σ.next = 0 := by omega
  have q1 : ¬ σ.next = 1 := by omega
  have q2 : ¬ 1 = σ.next := by omega
  have q3 : ¬ σ.next + 1 = 0 := by omega
  have q4 : ¬ σ.next + 1 = 1 := by omega
  have q5 : ¬ 1 = σ.next + 1 := by omega
  have htr := fun (σ : AMem) (b : Bool) => truth_call (k := k) (σ := σ) b (by omega)
  have b8 : ((0 : Int) == 8) = false := rfl
  have b0 : ((0 : Int) != 0) = false := rfl
  have b88 : ((8 : Int) == 8) = true := rfl
  have m0 : ((M[i].1 : Nat) : Int).tmod 4 = 2 := by show ((M[i].1 % 4 : Nat) : Int) = _; rw [hkd]; rfl
  have wq : IntKind.u8.wrap (2 + 1) = 3 := rfl
  have hmv : moveB ps ⟨3, N, 0, 0⟩ = true := by
    unfold moveB
    rw [decide_eq_true (show (0 : Int) ≤ (N : Int) ∧ (N : Int) ≤ (ps.length : Int) - 1 by omega), if_pos (show (3 : Int) = 1 ∨ (3 : Int) = 2 ∨ (3 : Int) = 3 by decide)]
    rfl
  obtain ⟨e1, e2⟩ := do_ok (h := 3) ok hmv (show ¬ ((3 : Int) = 3 ∧ ps.length = 60) by exact fun h => h60 h.2) hN rfl
  have hdo := fun (σ : AMem) => do_call (k := k) (σ := σ) 3 (lkOf ps.length) ps ⟨3, N, 0, 0⟩ (by omega) hvk hbl (by omega)
  rw [doL_three] at e2
  have hnvk : ∀ p, p ∈ ps ++ [ps[N]] → p ∈ ps := fun p hp => by
    rcases List.mem_append.1 hp with hp | hp
    · exact hp
    · simp only [List.mem_singleton] at hp; subst hp; exact List.getElem_mem hN
  have hnc : (ps ++ [ps[N]]).map cp = ps ++ [ps[N]] := map_cp fun p hp => hvk p (hnvk p hp)
  rw [hnc] at e2
  have hnl : (ps ++ [ps[N]]).length = ps.length + 1 := by rw [List.length_append, List.length_singleton]
  have hdc : doC ⟨3, N, 0, 0⟩ ps[N] = .vs .nil [] := by unfold doC; rfl
  rw [hdc] at e2
  simp only [e1, e2, netV] at hdo
  have hnew : NetOk 3 (ps ++ [ps[N]]) := ⟨ok.1, by omega, fun p hp => ok.2.2 p (hnvk p hp)⟩
  have hin := fun (σ : AMem) => isNet_call (k := k) (σ := σ) 3 .some (ps ++ [ps[N]]) (by omega) (by omega)
  simp only [decide_eq_true hnew] at hin
  have y1 : IntKind.i64.wrap ((1 : Int) - 0) = 1 := rfl
  have y2 : IntKind.i64.wrap ((ps.length : Int) + 1) = ((ps ++ [ps[N]]).length : Int) := by rw [hnl]; exact i64_succ (by omega)
  refine ⟨.normal, _, _, by
    simp only [codeB, roundC, bodyOf, Tryz.f7, Option.getD_some, flatC, innerC, thenC, stmtC, dropC, List.append_assoc, q_seq, q_cond, q_block, q_region, q_drawn, q_skip, q_exit, q_ret, runOps, runD, again, step1, wantA, opSem, evalO, evalL, evalOpt, evalParts, putA, ofConst, ofScalar, ofScalars, abin, abinInt, aun, convA, builtinA, oneTy, elemTy, lenB_vs, lenB_sl, lenB_str, loadA, storeA, storeCellsA, setAt, partA, fillA, placesA, isFn, TyI.isAgg, isSeq, isNum, sliceA, boundA, cells_bool, one_bool, cells_int, one_int, cells_str, one_str, cells_ptr, one_ptr, cells_nilptr, one_nilptr, cells_slice, one_slice, cells_vs, one_vs, cells_vptr, one_vptr, cells_func, one_func, cells_yield, one_yield, cells_nilfn, one_nilfn, cells_nilmap, one_nilmap, cells_map, one_map, cells_agg, setParams, Tr.get_set, AMem.get_put, AMem.get_push, AMem.next_put, AMem.next_push, AMem.get_empty, next_empty, Option.map_some, Option.map_none, Option.bind_some, reduceIte, Nat.reduceLT, Nat.reduceLeDiff, Nat.reduceEqDiff, Nat.reduceAdd, Nat.reduceMul, Nat.reduceSub, Nat.reduceBEq, Nat.zero_add, Nat.add_zero, Nat.mul_one, Nat.one_mul, Nat.zero_mul, and_self, and_true, true_and, false_and, and_false, Bool.and_true, Bool.true_and, Bool.and_false, Bool.false_and, if_true, if_false, Int.reduceEq, Int.reduceLT, Int.reduceLE, Int.reduceToNat, Bool.false_eq_true, Bool.not_true, Bool.not_false, BEq.rfl, beq_true_true, beq_true_false, beq_false_true, beq_false_false, List.length_cons, List.length_nil, List.all_cons, List.all_nil, List.getElem?_cons_zero, List.getElem?_cons_succ, List.getElem?_nil, List.getElem?_toArray, List.take_succ_cons, List.take_zero, List.drop_succ_cons, List.drop_zero, List.set_cons_zero, List.set_cons_succ, List.append_nil, List.nil_append, List.cons_append, decide_true, decide_false, decide_eq_true_eq, Option.isNone_none, Option.isNone_some, Option.isSome_none, Option.isSome_some, Bool.or_true, Bool.true_or, Bool.or_false, Bool.false_or, ne_eq, not_false_eq_true, not_true_eq_false, reduceCtorEq, eq_self, beq_refl, minL, minF, maxL, maxF, repZ, vp7_9, vp7_22, vp7_23, vp7_24, vp7_28, vp7_31, vp7_34, vp7_35, ty3, ty4, ty5, ty22, ty25, ty40, ty42, ty44, ty58, ty63, ty64, ty66, ty67, ty68, ord7_8, ord7_9, ord7_10, ord7_15, ord7_17, ord7_18, ord7_22, Nat.add_assoc, Nat.add_eq_left, Nat.left_eq_add, Nat.add_left_cancel_iff, t1, t3, t5, t6, t7, t4, g0, g1, hlt, List.length_map, Int.natCast_nonneg, Int.toNat_natCast, m4_get hi, m0, wq, w2, m2, hp0, hcn, hdo, z4, z1, q0, q1, q2, q3, q4, q5, htr, b8, b0, b88, show ((3 : Int) == 1) = false from rfl, show ((3 : Int) == 2) = false from rfl, show ((3 : Int) == 3) = true from rfl, show ((3 : Int) == 4) = false from rfl, hin, y1, y2, bne_self_eq_false, show ((0 : Int) == 1) = false from rfl, show ((1 : Int) == 1) = true from rfl, show ((0 : Nat) : Int) = 0 from rfl, Bool.or_false, Bool.or_true]
    rfl, .inl rfl, bad, .some, ps ++ [ps[N]], ?_⟩
  refine ⟨?_, ?_, ?_, ?_, ?_, ⟨out, ?_, sm.same ?_ fun s h1 h2 => ?_⟩, ?_, ?_, ?_, hnew, fun p hp => each p (hnvk p hp), len⟩
  · simp only [Tr.get_set, Nat.reduceEqDiff, reduceIte, t1]
  · simp only [Tr.get_set, Nat.reduceEqDiff, reduceIte, t3]
  · simp only [Tr.get_set, Nat.reduceEqDiff, reduceIte]
  · simp only [Tr.get_set, Nat.reduceEqDiff, reduceIte, t6]
  · simp only [Tr.get_set, Nat.reduceEqDiff, reduceIte, t7]
  · simp only [Tr.get_set, Nat.reduceEqDiff, reduceIte, t4]
  · simp only [AMem.next_push, AMem.next_put]; omega
  · simp only [AMem.get_push, AMem.get_put, AMem.next_push, AMem.next_put, show ¬ σ.next = s by omega, show ¬ σ.next + 1 = s by omega, show ¬ 1 = s by omega, if_false]
  · simp only [AMem.get_push, AMem.get_put, AMem.next_push, AMem.next_put, q0, q3, show ¬ 1 = 0 by omega, if_false, g0]
  · simp only [AMem.get_put, reduceIte]
  · simp only [AMem.next_push, AMem.next_put]; omega
/-- There is no room for it. -/
theorem moveFull {k1 k2 : VK} {L : List L3} {M : List M4} {i : Nat} {bad : Bool} {K : VK} {ps : List Pk} {l : List (Pk × Nat)} {T : Tr AVal} {σ : AMem} (st : NetSt k1 k2 L M i (i + 1) bad K ps l T σ) (hi : i < M.length) (hi80 : i < 80) (hM : ∀ t, t ∈ M → M4ok t) (h0 : 0 < ps.length) (hkd : M[i].1 % 4 = 2) (h60 : ps.length = 60) (hk : 5000 ≤ k) :
    Runs lawProg (callN lawProg k) k 7 225 codeB T σ fun e T σ => (e = .normal ∨ e = .exit 1) ∧ ∃ bad' K' ps', NetSt k1 k2 L M i (i + 1) bad' K' ps' l T σ := by
  obtain ⟨t1, t3, t5, t6, t7, ⟨out, t4, sm⟩, g0, g1, nx, ok, each, len⟩ := st
  obtain ⟨l1, l2, l3, l4⟩ := hM _ (List.getElem_mem hi)
  have hn60 : ps.length ≤ 60 := ok.2.1
  have hvk : ∀ p, p ∈ ps → p.vk = .some := fun p hp => (each p hp).1
  have hps : ps.map cp = ps := map_cp hvk
  have hbl : ∀ p, p ∈ ps → p.b.length ≤ 1000000 := fun p hp => by have := (each p hp).2.1; omega
  have hlt : (i : Int) < (M.length : Int) := by omega
  have w2 : IntKind.i64.wrap ((M[i].2.1 : Nat) : Int) = ((M[i].2.1 : Nat) : Int) := i64_id (by omega) (by omega)
  have m2 : ((M[i].2.1 : Nat) : Int).tmod (ps.length : Int) = ((M[i].2.1 % ps.length : Nat) : Int) := rfl
  have hp0 : ¬ (ps.length : Int) = 0 := by omega
  have hN : M[i].2.1 % ps.length < ps.length := Nat.mod_lt _ h0
  generalize hNe : M[i].2.1 % ps.length = N at m2 hN
  have hcn := fun (σ : AMem) => copyNet_call (k := k) (σ := σ) 3 K ps (by omega) hbl (by omega)
  simp only [hps] at hcn
  have z4 : ((4 : Nat) : Int) = 4 := rfl
  have z1 : ((1 : Nat) : Int) = 1 := rfl
  have q0 : ¬ σ.next = 0 := by omega
  have q1 : ¬ σ.next = 1 := by omega
  have q2 : ¬ 1 = σ.next := by omega
  have q3 : ¬ σ.next + 1 = 0 := by omega
  have q4 : ¬ σ.next + 1 = 1 := by omega
  have q5 : ¬ 1 = σ.next + 1 := by omega
  have htr := fun (σ : AMem) (b : Bool) => truth_call (k := k) (σ := σ) b (by omega)
  have b8 : ((0 : Int) == 8) = false := rfl
  have b0 : ((0 : Int) != 0) = false := rfl
  have b88 : ((8 : Int) == 8) = true := rfl
  have m0 : ((M[i].1 : Nat) : Int).tmod 4 = 2 := by show ((M[i].1 % 4 : Nat) : Int) = _; rw [hkd]; rfl
  have wq : IntKind.u8.wrap (2 + 1) = 3 := rfl
  have hmv : moveB ps ⟨3, N, 0, 0⟩ = true := by
    unfold moveB
    rw [decide_eq_true (show (0 : Int) ≤ (N : Int) ∧ (N : Int) ≤ (ps.length : Int) - 1 by omega), if_pos (show (3 : Int) = 1 ∨ (3 : Int) = 2 ∨ (3 : Int) = 3 by decide)]
    rfl
  obtain ⟨e1, e2⟩ := do_full (h := 3) ok hmv ⟨rfl, h60⟩
  have hdo := fun (σ : AMem) => do_call (k := k) (σ := σ) 3 (lkOf ps.length) ps ⟨3, N, 0, 0⟩ (by omega) hvk hbl (by omega)
  simp only [e1, e2, netV, List.map_nil] at hdo
  have hbq : (((ps.length : Nat) : Int) == 60) = true := by rw [h60]; rfl
  refine ⟨.exit 1, _, _, by
    simp only [codeB, roundC, bodyOf, Tryz.f7, Option.getD_some, flatC, innerC, thenC, stmtC, dropC, List.append_assoc, q_seq, q_cond, q_block, q_region, q_drawn, q_skip, q_exit, q_ret, runOps, runD, again, step1, wantA, opSem, evalO, evalL, evalOpt, evalParts, putA, ofConst, ofScalar, ofScalars, abin, abinInt, aun, convA, builtinA, oneTy, elemTy, lenB_vs, lenB_sl, lenB_str, loadA, storeA, storeCellsA, setAt, partA, fillA, placesA, isFn, TyI.isAgg, isSeq, isNum, sliceA, boundA, cells_bool, one_bool, cells_int, one_int, cells_str, one_str, cells_ptr, one_ptr, cells_nilptr, one_nilptr, cells_slice, one_slice, cells_vs, one_vs, cells_vptr, one_vptr, cells_func, one_func, cells_yield, one_yield, cells_nilfn, one_nilfn, cells_nilmap, one_nilmap, cells_map, one_map, cells_agg, setParams, Tr.get_set, AMem.get_put, AMem.get_push, AMem.next_put, AMem.next_push, AMem.get_empty, next_empty, Option.map_some, Option.map_none, Option.bind_some, reduceIte, Nat.reduceLT, Nat.reduceLeDiff, Nat.reduceEqDiff, Nat.reduceAdd, Nat.reduceMul, Nat.reduceSub, Nat.reduceBEq, Nat.zero_add, Nat.add_zero, Nat.mul_one, Nat.one_mul, Nat.zero_mul, and_self, and_true, true_and, false_and, and_false, Bool.and_true, Bool.true_and, Bool.and_false, Bool.false_and, if_true, if_false, Int.reduceEq, Int.reduceLT, Int.reduceLE, Int.reduceToNat, Bool.false_eq_true, Bool.not_true, Bool.not_false, BEq.rfl, beq_true_true, beq_true_false, beq_false_true, beq_false_false, List.length_cons, List.length_nil, List.all_cons, List.all_nil, List.getElem?_cons_zero, List.getElem?_cons_succ, List.getElem?_nil, List.getElem?_toArray, List.take_succ_cons, List.take_zero, List.drop_succ_cons, List.drop_zero, List.set_cons_zero, List.set_cons_succ, List.append_nil, List.nil_append, List.cons_append, decide_true, decide_false, decide_eq_true_eq, Option.isNone_none, Option.isNone_some, Option.isSome_none, Option.isSome_some, Bool.or_true, Bool.true_or, Bool.or_false, Bool.false_or, ne_eq, not_false_eq_true, not_true_eq_false, reduceCtorEq, eq_self, beq_refl, minL, minF, maxL, maxF, repZ, vp7_9, vp7_22, vp7_23, vp7_24, vp7_28, vp7_31, vp7_34, vp7_35, ty3, ty4, ty5, ty22, ty25, ty40, ty42, ty44, ty58, ty63, ty64, ty66, ty67, ty68, ord7_8, ord7_9, ord7_10, ord7_15, ord7_17, ord7_18, ord7_22, Nat.add_assoc, Nat.add_eq_left, Nat.left_eq_add, Nat.add_left_cancel_iff, t1, t3, t5, t6, t7, t4, g0, g1, hlt, List.length_map, Int.natCast_nonneg, Int.toNat_natCast, m4_get hi, m0, wq, w2, m2, hp0, hcn, hdo, z4, z1, q0, q1, q2, q3, q4, q5, htr, b8, b0, b88, show ((3 : Int) == 1) = false from rfl, show ((3 : Int) == 2) = false from rfl, show ((3 : Int) == 3) = true from rfl, show ((3 : Int) == 4) = false from rfl, hbq]
    rfl, .inr rfl, bad, K, ps, ?_⟩
  refine ⟨?_, ?_, ?_, ?_, ?_, ⟨out, ?_, sm.same ?_ fun s h1 h2 => ?_⟩, ?_, ?_, ?_, ok, each, len⟩
  · simp only [Tr.get_set, Nat.reduceEqDiff, reduceIte, t1]
  · simp only [Tr.get_set, Nat.reduceEqDiff, reduceIte, t3]
  · simp only [Tr.get_set, Nat.reduceEqDiff, reduceIte, t5]
  · simp only [Tr.get_set, Nat.reduceEqDiff, reduceIte, t6]
  · simp only [Tr.get_set, Nat.reduceEqDiff, reduceIte, t7]
  · simp only [Tr.get_set, Nat.reduceEqDiff, reduceIte, t4]
  · simp only [AMem.next_push, AMem.next_put]; omega
  · simp only [AMem.get_push, AMem.get_put, AMem.next_push, AMem.next_put, show ¬ σ.next = s by omega, show ¬ σ.next + 1 = s by omega, if_false]
  · simp only [AMem.get_push, AMem.get_put, AMem.next_push, AMem.next_put, q0, q3, if_false, g0]
  · simp only [AMem.get_push, AMem.get_put, AMem.next_push, AMem.next_put, q1, q4, if_false, g1]
  · simp only [AMem.next_push, AMem.next_put]; omega
/-- A byte of a packet is another one. -/
theorem moveSpoil {k1 k2 : VK} {L : List L3} {M : List M4} {i : Nat} {bad : Bool} {K : VK} {ps : List Pk} {l : List (Pk × Nat)} {T : Tr AVal} {σ : AMem} (st : NetSt k1 k2 L M i (i + 1) bad K ps l T σ) (hi : i < M.length) (hi80 : i < 80) (hM : ∀ t, t ∈ M → M4ok t) (h0 : 0 < ps.length) (hkd : M[i].1 % 4 = 3) (hk : 5000 ≤ k) :
    Runs lawProg (callN lawProg k) k 7 225 codeB T σ fun e T σ => (e = .normal ∨ e = .exit 1) ∧ ∃ bad' K' ps', NetSt k1 k2 L M i (i + 1) bad' K' ps' l T σ := by
  obtain ⟨t1, t3, t5, t6, t7, ⟨out, t4, sm⟩, g0, g1, nx, ok, each, len⟩ := st
  obtain ⟨l1, l2, l3, l4⟩ := hM _ (List.getElem_mem hi)
  have hn60 : ps.length ≤ 60 := ok.2.1
  have hvk : ∀ p, p ∈ ps → p.vk = .some := fun p hp => (each p hp).1
  have hps : ps.map cp = ps := map_cp hvk
  have hbl : ∀ p, p ∈ ps → p.b.length ≤ 1000000 := fun p hp => by have := (each p hp).2.1; omega
  have hlt : (i : Int) < (M.length : Int) := by omega
  have w2 : IntKind.i64.wrap ((M[i].2.1 : Nat) : Int) = ((M[i].2.1 : Nat) : Int) := i64_id (by omega) (by omega)
  have m2 : ((M[i].2.1 : Nat) : Int).tmod (ps.length : Int) = ((M[i].2.1 % ps.length : Nat) : Int) := rfl
  have hp0 : ¬ (ps.length : Int) = 0 := by omega
  have hN : M[i].2.1 % ps.length < ps.length := Nat.mod_lt _ h0
  generalize hNe : M[i].2.1 % ps.length = N at m2 hN
  have hcn := fun (σ : AMem) => copyNet_call (k := k) (σ := σ) 3 K ps (by omega) hbl (by omega)
  simp only [hps] at hcn
  have z4 : ((4 : Nat) : Int) = 4 := rfl
  have z1 : ((1 : Nat) : Int) = 1 := rfl
  have q0 : ¬ σ.next = 0 := by omega
  have q1 : ¬ σ.next = 1 := by omega
  have q2 : ¬ 1 = σ.next := by omega
  have q3 : ¬ σ.next + 1 = 0 := by omega
  have q4 : ¬ σ.next + 1 = 1 := by omega
  have q5 : ¬ 1 = σ.next + 1 := by omega
  have htr := fun (σ : AMem) (b : Bool) => truth_call (k := k) (σ := σ) b (by omega)
  have b8 : ((0 : Int) == 8) = false := rfl
  have b0 : ((0 : Int) != 0) = false := rfl
  have b88 : ((8 : Int) == 8) = true := rfl
  have m0 : ((M[i].1 : Nat) : Int).tmod 4 = 3 := by show ((M[i].1 % 4 : Nat) : Int) = _; rw [hkd]; rfl
  have wq : IntKind.u8.wrap (3 + 1) = 4 := rfl
  have w3 : IntKind.i64.wrap ((M[i].2.2.1 : Nat) : Int) = ((M[i].2.2.1 : Nat) : Int) := i64_id (by omega) (by omega)
  have w4 : IntKind.i64.wrap ((M[i].2.2.2 : Nat) : Int) = ((M[i].2.2.2 : Nat) : Int) := i64_id (by omega) (by omega)
  have m3 : ((M[i].2.2.1 : Nat) : Int).tmod 2 = ((M[i].2.2.1 % 2 : Nat) : Int) := rfl
  have m4 : ((M[i].2.2.2 : Nat) : Int).tmod 255 = ((M[i].2.2.2 % 255 : Nat) : Int) := rfl
  have w5 : IntKind.i64.wrap (((M[i].2.2.2 % 255 : Nat) : Int) + 1) = ((M[i].2.2.2 % 255 + 1 : Nat) : Int) := i64_succ (by omega)
  have hA : M[i].2.2.1 % 2 < 2 := Nat.mod_lt _ (by decide)
  have hX : M[i].2.2.2 % 255 < 255 := Nat.mod_lt _ (by decide)
  generalize M[i].2.2.1 % 2 = a at m3 hA
  generalize M[i].2.2.2 % 255 = x at m4 w5 hX
  have hpN := List.getElem_mem hN
  have hb2 := (each _ hpN).2.1
  have hmv : moveB ps ⟨4, N, a, (x + 1 : Nat)⟩ = true := by
    unfold moveB
    rw [decide_eq_true (show (0 : Int) ≤ (N : Int) ∧ (N : Int) ≤ (ps.length : Int) - 1 by omega), if_neg (show ¬ ((4 : Int) = 1 ∨ (4 : Int) = 2 ∨ (4 : Int) = 3) by decide)]
    simp only [Int.toNat_natCast, List.getElem?_eq_getElem hN]
    rw [decide_eq_true (show (0 : Int) ≤ (a : Int) ∧ (a : Int) ≤ (ps[N].b.length : Int) - 1 by omega), decide_eq_true (show (1 : Int) ≤ ((x + 1 : Nat) : Int) ∧ ((x + 1 : Nat) : Int) ≤ 255 by omega)]
    rfl
  obtain ⟨e1, e2⟩ := do_ok (h := 3) ok hmv (show ¬ ((4 : Int) = 3 ∧ ps.length = 60) by omega) hN rfl
  have hdo := fun (σ : AMem) => do_call (k := k) (σ := σ) 3 (lkOf ps.length) ps ⟨4, N, a, (x + 1 : Nat)⟩ (by omega) hvk hbl (by omega)
  rw [doL_four (by omega)] at e2
  generalize hp' : ({ ps[N] with b := ps[N].b.set a (xr ((ps[N].b[a]'(by omega) : Nat) : Int) ((x + 1 : Nat) : Int)) } : Pk) = p' at e2
  have hpp : p'.vk = .some ∧ p'.b.length = 2 ∧ p'.fr = ps[N].fr ∧ p'.to = ps[N].to := by
    subst hp'
    exact ⟨show ps[N].vk = .some from hvk _ hpN, by rw [List.length_set]; exact hb2, rfl, rfl⟩
  have hmem : ∀ p, p ∈ ps.set N p' → p ∈ ps ∨ p = p' := fun p hp => List.mem_or_eq_of_mem_set hp
  have hnc : (ps.set N p').map cp = ps.set N p' := map_cp fun p hp => by
    rcases hmem p hp with h | rfl
    · exact hvk p h
    · exact hpp.1
  rw [hnc] at e2
  have hnl : (ps.set N p').length = ps.length := by rw [List.length_set]
  have hdc : doC ⟨4, N, a, (x + 1 : Nat)⟩ ps[N] = .vs .nil [] := by unfold doC; rfl
  rw [hdc] at e2
  simp only [e1, e2, netV] at hdo
  have hnew : NetOk 3 (ps.set N p') := ⟨ok.1, by omega, fun p hp => by
    rcases hmem p hp with h | rfl
    · exact ok.2.2 p h
    · obtain ⟨a1, a2, a3⟩ := ok.2.2 _ hpN
      exact ⟨by rw [hpp.2.2.1]; exact a1, by rw [hpp.2.2.2]; exact a2, by rw [hpp.2.1]; decide⟩⟩
  have hin := fun (σ : AMem) => isNet_call (k := k) (σ := σ) 3 .some (ps.set N p') (by omega) (by omega)
  simp only [decide_eq_true hnew] at hin
  have y1 : IntKind.i64.wrap ((0 : Int) - 0) = 0 := rfl
  have y2 : IntKind.i64.wrap ((ps.length : Int) + 0) = ((ps.set N p').length : Int) := by rw [hnl, i64_id (by omega) (by omega)]; omega
  refine ⟨.normal, _, _, by
    simp only [codeB, roundC, bodyOf, Tryz.f7, Option.getD_some, flatC, innerC, thenC, stmtC, dropC, List.append_assoc, q_seq, q_cond, q_block, q_region, q_drawn, q_skip, q_exit, q_ret, runOps, runD, again, step1, wantA, opSem, evalO, evalL, evalOpt, evalParts, putA, ofConst, ofScalar, ofScalars, abin, abinInt, aun, convA, builtinA, oneTy, elemTy, lenB_vs, lenB_sl, lenB_str, loadA, storeA, storeCellsA, setAt, partA, fillA, placesA, isFn, TyI.isAgg, isSeq, isNum, sliceA, boundA, cells_bool, one_bool, cells_int, one_int, cells_str, one_str, cells_ptr, one_ptr, cells_nilptr, one_nilptr, cells_slice, one_slice, cells_vs, one_vs, cells_vptr, one_vptr, cells_func, one_func, cells_yield, one_yield, cells_nilfn, one_nilfn, cells_nilmap, one_nilmap, cells_map, one_map, cells_agg, setParams, Tr.get_set, AMem.get_put, AMem.get_push, AMem.next_put, AMem.next_push, AMem.get_empty, next_empty, Option.map_some, Option.map_none, Option.bind_some, reduceIte, Nat.reduceLT, Nat.reduceLeDiff, Nat.reduceEqDiff, Nat.reduceAdd, Nat.reduceMul, Nat.reduceSub, Nat.reduceBEq, Nat.zero_add, Nat.add_zero, Nat.mul_one, Nat.one_mul, Nat.zero_mul, and_self, and_true, true_and, false_and, and_false, Bool.and_true, Bool.true_and, Bool.and_false, Bool.false_and, if_true, if_false, Int.reduceEq, Int.reduceLT, Int.reduceLE, Int.reduceToNat, Bool.false_eq_true, Bool.not_true, Bool.not_false, BEq.rfl, beq_true_true, beq_true_false, beq_false_true, beq_false_false, List.length_cons, List.length_nil, List.all_cons, List.all_nil, List.getElem?_cons_zero, List.getElem?_cons_succ, List.getElem?_nil, List.getElem?_toArray, List.take_succ_cons, List.take_zero, List.drop_succ_cons, List.drop_zero, List.set_cons_zero, List.set_cons_succ, List.append_nil, List.nil_append, List.cons_append, decide_true, decide_false, decide_eq_true_eq, Option.isNone_none, Option.isNone_some, Option.isSome_none, Option.isSome_some, Bool.or_true, Bool.true_or, Bool.or_false, Bool.false_or, ne_eq, not_false_eq_true, not_true_eq_false, reduceCtorEq, eq_self, beq_refl, minL, minF, maxL, maxF, repZ, vp7_9, vp7_22, vp7_23, vp7_24, vp7_28, vp7_31, vp7_34, vp7_35, ty3, ty4, ty5, ty22, ty25, ty40, ty42, ty44, ty58, ty63, ty64, ty66, ty67, ty68, ord7_8, ord7_9, ord7_10, ord7_15, ord7_17, ord7_18, ord7_22, Nat.add_assoc, Nat.add_eq_left, Nat.left_eq_add, Nat.add_left_cancel_iff, t1, t3, t5, t6, t7, t4, g0, g1, hlt, List.length_map, Int.natCast_nonneg, Int.toNat_natCast, m4_get hi, m0, wq, w2, m2, hp0, hcn, hdo, z4, z1, q0, q1, q2, q3, q4, q5, htr, b8, b0, b88, show ((4 : Int) == 1) = false from rfl, show ((4 : Int) == 2) = false from rfl, show ((4 : Int) == 3) = false from rfl, show ((4 : Int) == 4) = true from rfl, w3, w4, m3, m4, w5, hin, y1, y2, bne_self_eq_false, show ((0 : Int) == 1) = false from rfl, show ((1 : Int) == 1) = true from rfl, show ((0 : Nat) : Int) = 0 from rfl, Bool.or_false, Bool.or_true, show ¬ (255 : Int) = 0 by decide, show ¬ (2 : Int) = 0 by decide]
    rfl, .inl rfl, true, .some, ps.set N p', ?_⟩
  refine ⟨?_, ?_, ?_, ?_, ?_, ⟨out, ?_, sm.same ?_ fun s h1 h2 => ?_⟩, ?_, ?_, ?_, hnew, fun p hp => ?_, len⟩
  · simp only [Tr.get_set, Nat.reduceEqDiff, reduceIte, t1]
  · simp only [Tr.get_set, Nat.reduceEqDiff, reduceIte, t3]
  · simp only [Tr.get_set, Nat.reduceEqDiff, reduceIte]
  · simp only [Tr.get_set, Nat.reduceEqDiff, reduceIte]
  · simp only [Tr.get_set, Nat.reduceEqDiff, reduceIte, t7]
  · simp only [Tr.get_set, Nat.reduceEqDiff, reduceIte, t4]
  · simp only [AMem.next_push, AMem.next_put]; omega
  · simp only [AMem.get_push, AMem.get_put, AMem.next_push, AMem.next_put, show ¬ σ.next = s by omega, show ¬ σ.next + 1 = s by omega, show ¬ 1 = s by omega, if_false]
  · simp only [AMem.get_push, AMem.get_put, AMem.next_push, AMem.next_put, q0, q3, show ¬ 1 = 0 by omega, if_false, g0]
  · simp only [AMem.get_put, reduceIte]
  · simp only [AMem.next_push, AMem.next_put]; omega
  · rcases hmem p hp with h | rfl
    · obtain ⟨x1, x2, x3⟩ := each p h
      exact ⟨x1, x2, sentIn_bad x3⟩
    · obtain ⟨x1, x2, s, s1, s2, s3, s4, _⟩ := each _ hpN
      exact ⟨hpp.1, hpp.2.1, s, s1, by rw [hpp.2.2.1]; exact s2, by rw [hpp.2.2.2]; exact s3, by rw [hpp.2.1, s4]; exact x2, fun h => by cases h⟩
end Go.Proofs.YtikhidpcaefjiaaGreatDoor
