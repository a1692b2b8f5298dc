/- slices.Delete over sheaves; parts behind one another. -/
import Derived.Test.YtkamjhhodnmoiaaGreatDoorF8
set_option maxRecDepth 100000
set_option linter.unusedSimpArgs false
set_option linter.unusedVariables false
namespace Go.Proofs.YtkamjhhodnmoiaaGreatDoor
open Go Go.Proofs.YtkamjhhodnmoiaaGreatDoor.Pale
variable {k : Nat} {σ : AMem}

theorem deleteSh_callN {low q r o i : Nat} {l : List SR} {zs : List AVal} (hm : SrtAt low σ q r o l zs) (hi : o + i < l.length) (hl : l.length ≤ 1000) (hk : 1 ≤ k) :
    ∃ σ' zs', callN lawProg k (.func 33 [] []) [.slice r (o * 2) (l.length - o) none 2, .int .i64 (i : Nat), .int .i64 ((i + 1 : Nat) : Int)] σ = some (.slice r (o * 2) (l.length - o - 1) none 2, σ') ∧ SrtAt low σ' q r o (l.eraseIdx (o + i)) zs' ∧ σ'.next = σ.next ∧ ∀ s, s ≠ r → σ'.get s = σ.get s := by
  obtain ⟨k, rfl⟩ : ∃ m, k = m + 1 := ⟨k - 1, by omega⟩
  obtain ⟨m1, m2, m3, m4, m5, m6, ⟨mz, hz⟩, m8⟩ := hm
  have hcl : (cellsR l).length = l.length := by simp [cellsR]
  have hone : (cellsR l).flatten.all AVal.oneCell = true := by
    rw [List.all_eq_true]
    intro v hv
    obtain ⟨c, hc, hv⟩ := List.mem_flatten.1 hv
    exact (List.all_eq_true.1 (cellsR_one l c hc)) v hv
  obtain ⟨σ1, last, a1, a2, a3, a4, a5⟩ := append_down2 (σ := σ) (e := tySh) (r := r) (o := o) (i := i) (n := l.length - (o + i + 1)) (ls := cellsR l) (more := zs) (cellsR_two l) (by rw [hcl]; exact hi) (by rw [hcl]) m1 hone (by decide) (by decide) (by decide) (by rw [hcl]; simp only [tySh, mostBytes]; omega)
  rw [hcl] at a1
  have her : (cellsR l).eraseIdx (o + i) = cellsR (l.eraseIdx (o + i)) := by
    unfold cellsR
    rw [List.eraseIdx_eq_take_drop_succ, List.eraseIdx_eq_take_drop_succ, List.map_append, List.map_take, List.map_drop]
  rw [her] at a3
  have hle : (l.eraseIdx (o + i)).length = l.length - 1 := by rw [List.length_eraseIdx, if_pos hi]
  have hel : (cellsR (l.eraseIdx (o + i))).flatten.length = (l.length - 1) * tySh.size := by
    rw [flat_length (cellsR_two _)]
    simp only [cellsR, List.length_map, hle]
    rfl
  have b1 := clear_last (σ := σ1) (e := tySh) (r := r) (n := l.length - 1) (last := last) (more := zs) hel a2 a3 rfl rfl
  have hbq : ((i : Int) == ((i + 1 : Nat) : Int)) = false := by simp; omega
  have s1 := slice_three (σ := σ) (sz := 2) (r := r) (off := o * 2) (n := l.length - o) (i := i) (j := i + 1) (m := l.length - o) (z := 2) (k := .i64) (k2 := .i64) (k3 := .i64) (by omega) (by omega) (by omega)
  have s2 := slice_to (σ := σ) (sz := 2) (r := r) (off := o * 2) (n := l.length - o) (i := i) (z := 2) (k := .i64) (by omega)
  have s3 := slice_from (σ := σ) (sz := 2) (r := r) (off := o * 2) (n := l.length - o) (i := i + 1) (z := 2) (k := .i64) (by omega)
  have s4 := slice_behind (σ := σ1) (sz := 2) (r := r) (off := o * 2) (n := l.length - o - 1) (i := l.length - o - 1) (j := l.length - o) (z := 2) (k := .i64) (k2 := .i64) (by omega) a3 (by omega) (by simp only [List.length_append, hel, a2, show tySh.size = 2 from rfl]; omega)
  have e4 : l.length - o - (l.length - o - 1) = 1 := by omega
  have e3 : o * 2 + (i + 1) * 2 = (o + i + 1) * 2 := by omega
  have e5 : o * 2 + (l.length - o - 1) * 2 = (l.length - 1) * 2 := by omega
  have e6 : l.length - o - (i + 1) = l.length - (o + i + 1) := by omega
  rw [e4, e5] at s4
  rw [e3, e6] at s3
  simp only [tySh, TyI.isAgg, Nat.zero_add] at a1 b1
  have e : ∃ T1, execC lawProg (callN lawProg k) k 33 33 (bodyOf Tryz.f33) (initT 0 [.slice r (o * 2) (l.length - o) none 2, .int .i64 (i : Nat), .int .i64 ((i + 1 : Nat) : Int)] .nil) σ = some (.ret, T1, σ1.put r (.row 2 true ((cellsR (l.eraseIdx (o + i))).flatten ++ ([.int .i64 0, .vs .nil []] ++ zs)))) ∧ T1.get 6 = some (.slice r (o * 2) (l.length - o - 1) none 2) := by
    simp only [bodyOf, Tryz.f33, Option.getD_some, initT, runOps, runD, again, step1, wantA, opSem, evalO, evalL, evalOpt, evalParts, putA, ofConst, ofScalar, ofScalars, abin, abinInt, aun, convA, builtinA, oneTy, elemTy, loadA, storeA, storeCellsA, setAt, partA, fillA, placesA, isFn, TyI.isAgg, isSeq, isNum, sliceA, boundA, setParams, minL, minF, maxL, maxF, repZ, reduceIte, Nat.reduceLT, Nat.reduceLeDiff, Nat.reduceEqDiff, Nat.reduceAdd, Nat.reduceMul, Nat.reduceSub, Nat.reduceBEq, Int.reduceEq, Int.reduceLT, Int.reduceLE, Int.reduceToNat, reduceCtorEq, sx, fx33, hbq, s1, s2, s3, a1, s4, b1]
    exact ⟨_, rfl, by simp only [Tr.get_set, Nat.reduceEqDiff, reduceIte]⟩
  obtain ⟨T1, e1, e2⟩ := e
  have hrows : rowsOf (l.map itemR) = l.map fun x => x.2.1 := rowsOf_items l
  have hsub : (l.eraseIdx (o + i)).Sublist l := List.eraseIdx_sublist ..
  refine ⟨_, [.int .i64 0, .vs .nil []] ++ zs, q_call (first := []) (caps := []) fn33 rfl (by simp [Tryz.f33]) e1 (by simp) (res_one e2), ⟨by rw [AMem.get_put, if_pos rfl], ?_, m3, fun h => m4 ((hsub.map _).subset h), m5, by simp only [AMem.next_put]; omega, ⟨mz + 1, by simp only [List.length_append, hz, List.length_cons, List.length_nil]; omega⟩, by omega⟩, by simpa using a4, fun s hs => by rw [AMem.get_put, if_neg (Ne.symm hs)]; exact a5 s hs⟩
  refine Items.sub (m2.same (Nat.le_refl _) (by simp only [AMem.next_put]; omega) (fun x hx => ?_) m2.2.2) (hsub.map _)
  have hb := m2.bound x hx
  rw [hrows] at hx
  have hxr : x ≠ r := fun e => m4 (e ▸ hx)
  rw [AMem.get_put, if_neg (Ne.symm hxr)]
  exact a5 x hxr

/-! ### slices.Concat -/
theorem rep_bytes (n : Nat) : repZ [AVal.int .u8 0] n = bytesV (List.replicate n 0) := by
  induction n with
  | zero => rfl
  | succ n ih => simp only [repZ, ih, List.replicate_succ, bytesV, List.map_cons]; rfl
theorem grow_callN (n : Nat) (h0 : 0 < n) (hn : n ≤ 1000000) (hk : 1 ≤ k) : callN lawProg k (.func 69 [] []) [.vs .nil [], .int .i64 (n : Nat)] σ = some (.slice σ.next 0 0 none 1, σ.push (.row 1 false (bytesV (List.replicate n 0)))) := by
  obtain ⟨k, rfl⟩ : ∃ m, k = m + 1 := ⟨k - 1, by omega⟩
  have hw : IntKind.i64.wrap ((n : Int) - 0) = (n : Int) := by rw [Int.sub_zero]; exact i64_id (by omega) (by omega)
  have hge : ¬ (n : Int) < 0 := by omega
  have hgt : (n : Int) > 0 := by omega
  have hz : appendZ ⟨.int .u8, 1, 1, [.int .u8 0]⟩ σ (.vs .nil []) (.int .i64 (n : Nat)) = some (.slice σ.next 0 n none 1, σ.push (.row 1 false (bytesV (List.replicate n 0)))) := by
    simp only [appendZ, Int.toNat_natCast, rep_bytes]
    rw [if_pos ⟨by omega, by decide, by decide, by decide, by unfold mostBytes; omega⟩]
    rfl
  have hsl : sliceM (σ.push (.row 1 false (bytesV (List.replicate n 0)))) 1 σ.next 0 n none 1 none (some (.int .i64 0)) none = some (.slice σ.next 0 0 none 1) := slice_to (off := 0) (i := 0) (z := 1) (n := n) (by omega)
  have e : ∃ T1, execC lawProg (callN lawProg k) k 69 27 (bodyOf Tryz.f69) (initT 0 [.vs .nil [], .int .i64 (n : Nat)] .nil) σ = some (.ret, T1, σ.push (.row 1 false (bytesV (List.replicate n 0)))) ∧ T1.get 4 = some (.slice σ.next 0 0 none 1) := by
    simp only [bodyOf, Tryz.f69, Option.getD_some, initT, runOps, runD, again, step1, wantA, opSem, evalO, evalL, evalOpt, evalParts, putA, ofConst, ofScalar, ofScalars, abin, abinInt, aun, convA, builtinA, oneTy, elemTy, loadA, storeA, storeCellsA, setAt, partA, fillA, placesA, isFn, TyI.isAgg, isSeq, isNum, sliceA, boundA, setParams, minL, minF, maxL, maxF, repZ, reduceIte, Nat.reduceLT, Nat.reduceLeDiff, Nat.reduceEqDiff, Nat.reduceAdd, Nat.reduceMul, Nat.reduceSub, Nat.reduceBEq, Int.reduceEq, Int.reduceLT, Int.reduceLE, Int.reduceToNat, reduceCtorEq, sx, fx69, hge, hgt, hw, show IntKind.i64.wrap ((0 : Int) - 0) = 0 from rfl, capB, show ((0 : Nat) : Int) = 0 from rfl, hz, hsl, Int.le_refl]
    exact ⟨_, rfl, by simp only [Tr.get_set, Nat.reduceEqDiff, reduceIte]⟩
  obtain ⟨T1, e1, e2⟩ := e
  exact q_call (first := []) (caps := []) fn69 rfl (by simp [Tryz.f69]) e1 (by simp) (res_one e2)

def catL (l : List Part) : List Nat := l.flatMap (·.2)
theorem catL_take {l : List Part} {i : Nat} (hi : i < l.length) : catL (l.take (i + 1)) = catL (l.take i) ++ l[i].2 := by
  unfold catL
  rw [List.take_succ_eq_append_getElem hi, List.flatMap_append]
  simp
theorem catL_le (l : List Part) (i : Nat) : (catL (l.take i)).length ≤ (catL l).length := by
  have : catL l = catL (l.take i) ++ catL (l.drop i) := by
    unfold catL
    rw [← List.flatMap_append, List.take_append_drop]
  rw [this, List.length_append]
  omega
/-- append where there is room. -/
theorem append_in {r m : Nat} {a b rest : List Nat} (vk : VK) (hm : m = a.length) (hr : σ.get r = some (.row 1 false (bytesV (a ++ rest)))) (hb : b.length ≤ rest.length) (hl : a.length + rest.length ≤ 1000000) :
    ∃ σ', appendA ⟨.int .u8, 1, 1, [.int .u8 0]⟩ σ (.slice r 0 m none 1) (.vs vk (bytesV b)) = some (.slice r 0 (m + b.length) none 1, σ') ∧ σ'.get r = some (.row 1 false (bytesV ((a ++ b) ++ rest.drop b.length))) := by
  subst hm
  by_cases h0 : b.length = 0
  · have hb0 : b = [] := List.eq_nil_of_length_eq_zero h0
    subst hb0
    exact ⟨σ, by simp only [appendA, source_bytes, List.length_nil, if_true, Nat.add_zero], by simpa using hr⟩
  · refine ⟨σ.put r (.row 1 false (bytesV ((a ++ b) ++ rest.drop b.length))), ?_, by rw [AMem.get_put, if_pos rfl]⟩
    have hset : setAt (bytesV (a ++ rest)) (0 + a.length * 1) (bytesV b) = bytesV ((a ++ b) ++ rest.drop b.length) := by
      rw [Nat.zero_add, Nat.mul_one, setAt_split (by simp only [bytesV_length, List.length_append]; omega), bytesV_take, bytesV_drop, bytesV_length, List.take_left, ← List.drop_drop, List.drop_left, bytesV_append, bytesV_append, List.append_assoc]
    have hc : (decide (0 + a.length * 1 + (bytesV b).length ≤ (bytesV (a ++ rest)).length) && (bytesV b).all AVal.oneCell) = true := by
      rw [bytesV_all, Bool.and_true]; exact decide_eq_true (by simp only [bytesV_length, List.length_append]; omega)
    simp only [appendA, source_bytes, if_neg h0, hr]
    rw [if_neg (by simp), if_pos (by unfold mostBytes; omega), if_pos trivial, if_pos (by simp only [bytesV_length, List.length_append]; omega)]
    simp only [storeCellsA, hr, hc, if_true, Option.map_some, hset]

theorem concat_run (K : VK) (l : List Part) (h0 : 0 < (catL l).length) (hn : (catL l).length ≤ 100000) (hl : l.length ≤ 1000) (hp : ∀ p, p ∈ l → p.2.length ≤ 1000) (hk : 2001 ≤ k) : pureRun (callN lawProg (k + 1)) (.func 34 [] []) [.vs K (l.map partV)] = some (.vs .some (bytesV (catL l)), true) := by
  have run : ∃ T1 σ1 r, execC lawProg (callN lawProg k) k 34 36 (bodyOf Tryz.f34) (initT 0 [.vs K (l.map partV)] .nil) AMem.empty = some (.ret, T1, σ1) ∧ T1.get 2 = some (.slice r 0 (catL l).length none 1) ∧ σ1.get r = some (.row 1 false (bytesV (catL l ++ []))) := by
    simp only [bodyOf, Tryz.f34, Option.getD_some, initT, runOps, runD, again, step1, wantA, opSem, evalO, evalL, evalOpt, evalParts, putA, ofConst, ofScalar, ofScalars, abin, abinInt, aun, convA, builtinA, oneTy, elemTy, loadA, storeA, storeCellsA, setAt, partA, fillA, placesA, isFn, TyI.isAgg, isSeq, isNum, sliceA, boundA, setParams, minL, minF, maxL, maxF, repZ, reduceIte, Nat.reduceLT, Nat.reduceLeDiff, Nat.reduceEqDiff, Nat.reduceAdd, Nat.reduceMul, Nat.reduceSub, Nat.reduceBEq, Int.reduceEq, Int.reduceLT, Int.reduceLE, Int.reduceToNat, reduceCtorEq, sx, fx34, List.length_map]
    generalize hL : execC _ _ _ _ _ (Code.loop _) _ _ = q
    obtain ⟨e, T', σ', rfl, _, rfl, rfl, u0, u3⟩ : ∃ e T' σ', q = some (e, T', σ') ∧ e ≠ .normal ∧ (e = .exit 0 ∧ σ' = AMem.empty ∧ T'.get 0 = some (.vs K (l.map partV)) ∧ T'.get 3 = some (.int .i64 (catL l).length)) := by
      rw [← hL]
      refine exec_loop (fun i T σ => σ = AMem.empty ∧ i ≤ l.length ∧ T.get 0 = some (.vs K (l.map partV)) ∧ T.get 3 = some (.int .i64 (catL (l.take i)).length) ∧ T.get 9 = some (.vs K (l.map partV)) ∧ T.get 10 = some (.int .i64 l.length) ∧ T.get 11 = some (.int .i64 i)) l.length (by omega) ?_ ?_ ?_
      · rintro i hi T σ ⟨rfl, _, t0, t3, t9, t10, t11⟩
        have hlt : (i : Int) < l.length := by omega
        have hw := i64_succ (i := i) (by omega)
        have hle := catL_le l i
        have hpi := hp _ (List.getElem_mem hi)
        have hw2 : IntKind.i64.wrap (((catL (l.take i)).length : Int) + ((l[i].2.length : Nat) : Int)) = ((catL (l.take (i + 1))).length : Int) := by
          rw [i64_id (by omega) (by omega), catL_take hi, List.length_append]; omega
        have hge : ¬ ((catL (l.take (i + 1))).length : Int) < 0 := by omega
        refine ⟨_, _, by
          simp only [runOps, runD, again, step1, wantA, opSem, evalO, evalL, evalOpt, evalParts, putA, ofConst, ofScalar, ofScalars, abin, abinInt, aun, convA, builtinA, oneTy, elemTy, loadA, storeA, storeCellsA, setAt, partA, fillA, placesA, isFn, TyI.isAgg, isSeq, isNum, sliceA, boundA, setParams, minL, minF, maxL, maxF, repZ, reduceIte, Nat.reduceLT, Nat.reduceLeDiff, Nat.reduceEqDiff, Nat.reduceAdd, Nat.reduceMul, Nat.reduceSub, Nat.reduceBEq, Int.reduceEq, Int.reduceLT, Int.reduceLE, Int.reduceToNat, reduceCtorEq, sx, fx34, t0, t3, t9, t10, t11, hlt, Int.natCast_nonneg, Int.toNat_natCast, part_get hi, bytesV_length, hw2, hge, hw]
          rfl, rfl, hi, ?_, ?_, ?_, ?_, ?_⟩
        all_goals simp only [Tr.get_set, Nat.reduceEqDiff, reduceIte, t0, t9, t10]
      · rintro T σ ⟨rfl, _, t0, t3, t9, t10, t11⟩
        rw [List.take_length] at t3
        refine ⟨_, _, _, by
          simp only [runOps, runD, again, step1, wantA, opSem, evalO, evalL, evalOpt, evalParts, putA, ofConst, ofScalar, ofScalars, abin, abinInt, aun, convA, builtinA, oneTy, elemTy, loadA, storeA, storeCellsA, setAt, partA, fillA, placesA, isFn, TyI.isAgg, isSeq, isNum, sliceA, boundA, setParams, minL, minF, maxL, maxF, repZ, reduceIte, Nat.reduceLT, Nat.reduceLeDiff, Nat.reduceEqDiff, Nat.reduceAdd, Nat.reduceMul, Nat.reduceSub, Nat.reduceBEq, Int.reduceEq, Int.reduceLT, Int.reduceLE, Int.reduceToNat, reduceCtorEq, sx, fx34, t9, t10, t11, Int.lt_irrefl]
          rfl, by simp, rfl, rfl, ?_, ?_⟩
        all_goals simp only [Tr.get_set, Nat.reduceEqDiff, reduceIte, t0, t3]
      · refine ⟨rfl, Nat.zero_le _, ?_, ?_, ?_, ?_, ?_⟩
        all_goals simp only [Tr.get_set, Nat.reduceEqDiff, reduceIte]
        all_goals rfl
    have hg := grow_callN (k := k) (σ := AMem.empty) (catL l).length h0 (by omega) (by omega)
    simp only [runOps, runD, again, step1, wantA, opSem, evalO, evalL, evalOpt, evalParts, putA, ofConst, ofScalar, ofScalars, abin, abinInt, aun, convA, builtinA, oneTy, elemTy, loadA, storeA, storeCellsA, setAt, partA, fillA, placesA, isFn, TyI.isAgg, isSeq, isNum, sliceA, boundA, setParams, minL, minF, maxL, maxF, repZ, reduceIte, Nat.reduceLT, Nat.reduceLeDiff, Nat.reduceEqDiff, Nat.reduceAdd, Nat.reduceMul, Nat.reduceSub, Nat.reduceBEq, Int.reduceEq, Int.reduceLT, Int.reduceLE, Int.reduceToNat, reduceCtorEq, sx, fx34, u0, u3, hg, List.length_map]
    generalize hL2 : execC _ _ _ _ _ (Code.loop _) _ _ = q2
    obtain ⟨e, T', σ', rfl, _, rfl, v6, v7⟩ : ∃ e T' σ', q2 = some (e, T', σ') ∧ e ≠ .normal ∧ (e = .exit 2 ∧ T'.get 6 = some (.slice 0 0 (catL l).length none 1) ∧ σ'.get 0 = some (.row 1 false (bytesV (catL l ++ [])))) := by
      rw [← hL2]
      refine exec_loop (fun i T σ => i ≤ l.length ∧ T.get 6 = some (.slice 0 0 (catL (l.take i)).length none 1) ∧ T.get 25 = some (.vs K (l.map partV)) ∧ T.get 26 = some (.int .i64 l.length) ∧ T.get 27 = some (.int .i64 i) ∧ σ.get 0 = some (.row 1 false (bytesV (catL (l.take i) ++ List.replicate ((catL l).length - (catL (l.take i)).length) 0)))) l.length (by omega) ?_ ?_ ?_
      · rintro i hi T σ ⟨_, t6, t25, t26, t27, m0⟩
        have hlt : (i : Int) < l.length := by omega
        have hw := i64_succ (i := i) (by omega)
        have hle := catL_le l (i + 1)
        have hct := catL_take hi
        have hcl : (catL (l.take (i + 1))).length = (catL (l.take i)).length + l[i].2.length := by rw [hct, List.length_append]
        obtain ⟨σ2, a1, a2⟩ := append_in (σ := σ) (b := l[i].2) l[i].1 rfl m0 (by rw [List.length_replicate]; omega) (by rw [List.length_replicate]; omega)
        refine ⟨_, _, by
          simp only [runOps, runD, again, step1, wantA, opSem, evalO, evalL, evalOpt, evalParts, putA, ofConst, ofScalar, ofScalars, abin, abinInt, aun, convA, builtinA, oneTy, elemTy, loadA, storeA, storeCellsA, setAt, partA, fillA, placesA, isFn, TyI.isAgg, isSeq, isNum, sliceA, boundA, setParams, minL, minF, maxL, maxF, repZ, reduceIte, Nat.reduceLT, Nat.reduceLeDiff, Nat.reduceEqDiff, Nat.reduceAdd, Nat.reduceMul, Nat.reduceSub, Nat.reduceBEq, Int.reduceEq, Int.reduceLT, Int.reduceLE, Int.reduceToNat, reduceCtorEq, sx, fx34, t6, t25, t26, t27, hlt, Int.natCast_nonneg, Int.toNat_natCast, part_get hi, a1, hw]
          rfl, hi, ?_, ?_, ?_, ?_, ?_⟩
        · rw [hcl]; simp only [Tr.get_set, Nat.reduceEqDiff, reduceIte]
        · simp only [Tr.get_set, Nat.reduceEqDiff, reduceIte, t25]
        · simp only [Tr.get_set, Nat.reduceEqDiff, reduceIte, t26]
        · simp only [Tr.get_set, Nat.reduceEqDiff, reduceIte]
        · rw [a2, hct, List.drop_replicate, ← hct, hcl, Nat.sub_sub]
      · rintro T σ ⟨_, t6, t25, t26, t27, m0⟩
        rw [List.take_length] at t6 m0
        refine ⟨_, _, _, by
          simp only [runOps, runD, again, step1, wantA, opSem, evalO, evalL, evalOpt, evalParts, putA, ofConst, ofScalar, ofScalars, abin, abinInt, aun, convA, builtinA, oneTy, elemTy, loadA, storeA, storeCellsA, setAt, partA, fillA, placesA, isFn, TyI.isAgg, isSeq, isNum, sliceA, boundA, setParams, minL, minF, maxL, maxF, repZ, reduceIte, Nat.reduceLT, Nat.reduceLeDiff, Nat.reduceEqDiff, Nat.reduceAdd, Nat.reduceMul, Nat.reduceSub, Nat.reduceBEq, Int.reduceEq, Int.reduceLT, Int.reduceLE, Int.reduceToNat, reduceCtorEq, sx, fx34, t25, t26, t27, Int.lt_irrefl]
          rfl, by simp, rfl, ?_, ?_⟩
        · simp only [Tr.get_set, Nat.reduceEqDiff, reduceIte, t6]
        · rw [m0, Nat.sub_self]; rfl
      · refine ⟨Nat.zero_le _, ?_, ?_, ?_, ?_, ?_⟩
        · simp only [Tr.get_set, Nat.reduceEqDiff, reduceIte]; rfl
        · simp only [Tr.get_set, Nat.reduceEqDiff, reduceIte]
        · simp only [Tr.get_set, Nat.reduceEqDiff, reduceIte]
        · simp only [Tr.get_set, Nat.reduceEqDiff, reduceIte]; rfl
        · rw [AMem.get_push, if_pos next_empty]; rfl
    simp only [runOps, runD, again, step1, wantA, opSem, evalO, evalL, evalOpt, evalParts, putA, ofConst, ofScalar, ofScalars, abin, abinInt, aun, convA, builtinA, oneTy, elemTy, loadA, storeA, storeCellsA, setAt, partA, fillA, placesA, isFn, TyI.isAgg, isSeq, isNum, sliceA, boundA, setParams, minL, minF, maxL, maxF, repZ, reduceIte, Nat.reduceLT, Nat.reduceLeDiff, Nat.reduceEqDiff, Nat.reduceAdd, Nat.reduceMul, Nat.reduceSub, Nat.reduceBEq, Int.reduceEq, Int.reduceLT, Int.reduceLE, Int.reduceToNat, reduceCtorEq, sx, fx34, v6]
    exact ⟨_, _, 0, rfl, by simp only [Tr.get_set, Nat.reduceEqDiff, reduceIte], by simpa using v7⟩
  obtain ⟨T1, σ1, r, h1, h2, h3⟩ := run
  exact pureRun_of fn34 rfl (by simp [Tryz.f34]) h1 (by simp) (res_one h2) (snap_bytes (d := 10) (more := []) rfl h3)
theorem concat_call {x : AVal} {seen : List Nat} {K : VK} (l : List Part) (hx : snapF false σ snapDepth x = some (.vs K (l.map partV), seen)) (h0 : 0 < (catL l).length) (hn : (catL l).length ≤ 100000) (hl : l.length ≤ 1000) (hp : ∀ p, p ∈ l → p.2.length ≤ 1000) (hk : 2003 ≤ k) : pureCall lawProg (callN lawProg k) (.func 34 [] []) [x] σ = some (.vs .some (bytesV (catL l)), σ) := by
  obtain ⟨k, rfl⟩ : ∃ m, k = m + 1 := ⟨k - 1, by omega⟩
  exact pureCall_of (seen := seen ++ []) (by simp only [snapL, hx]) (memo34 _) (concat_run (k := k) K l h0 hn hl hp (by omega))
end Go.Proofs.YtkamjhhodnmoiaaGreatDoor
