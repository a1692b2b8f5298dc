/- The law DeltaSpans: whatever lists and whatever number, it gives true. -/
import Derived.Test.YtoomnecfapihaaaGreatDoorN9
set_option maxRecDepth 100000
set_option linter.unusedSimpArgs false
set_option linter.unusedVariables false
namespace Go.Proofs.YtoomnecfapihaaaGreatDoor
open Go Go.Proofs.YtoomnecfapihaaaGreatDoor.Pale
variable {k : Nat} {σ : AMem}

theorem unionR_ok {a b : List Sp} (ha : OkSp a) (hb : OkSp b) : unionR a b = (listA (unionL a b), 0) := by
  unfold unionR
  rw [okB_true ha, okB_true hb]
  rfl
theorem lacksR_ok {a : List Sp} {n : Nat} (ha : OkSp a) (hn : n ≤ 60) : lacksR a ((n : Nat) : Int) = (listA (lacksL a n), 0) := by
  unfold lacksR
  rw [okB_true ha, if_pos rfl, if_pos (by omega), Int.toNat_natCast]
theorem unionL_comm (a b : List Sp) : unionL b a = unionL a b := spansOf_congr fun m _ _ => Bool.or_comm _ _
theorem unionL_self {a : List Sp} (ha : OkSp a) : unionL a a = a := (spansOf_eq ha fun m _ _ => by simp).symm
theorem unionL_ok (a b : List Sp) : OkSp (unionL a b) := (spansOf_ok _).1
theorem lacksL_ok (a : List Sp) (n : Nat) : OkSp (lacksL a n) := (spansOf_ok _).1
theorem unionL_bit (a b : List Sp) {m : Nat} (h1 : 1 ≤ m) (h2 : m ≤ 60) : setP (unionL a b) m = (setP a m || setP b m) := by
  unfold setP unionL
  rw [(spansOf_ok _).2]
  simp [h1, h2]
theorem lacksL_bit (a : List Sp) (n : Nat) {m : Nat} (h1 : 1 ≤ m) (h2 : m ≤ 60) : setP (lacksL a n) m = (!(setP a m) && decide (m ≤ n)) := by
  unfold setP lacksL
  rw [(spansOf_ok _).2]
  simp [h1, h2]
theorem len_listA (l : List Sp) : (spansV l).length = l.length := spansV_length l
set_option maxHeartbeats 4000000 in
theorem spans_run (ka kb : VK) (a b : List Sp) (n : Nat) (hn : n < 256) (hk : 5000 ≤ k) : ∃ σ', callN lawProg (k + 1) (.func 4 [] []) [.vs ka (spansV a), .vs kb (spansV b), .int .u8 (n : Nat)] AMem.empty = some (.bool true, σ') := by
  have run : ∃ T1 σ1, execC lawProg (callN lawProg k) k 4 200 (bodyOf Tryz.f4) (initT 0 [.vs ka (spansV a), .vs kb (spansV b), .int .u8 (n : Nat)] .nil) AMem.empty = some (.ret, T1, σ1) ∧ T1.get 6 = some (.bool true) := by
    by_cases h1 : ((a.length : Nat) : Int) > 40
    · simp only [bodyOf, Tryz.f4, Option.getD_some, initT, runOps, runD, again, step1, wantA, opSem, evalO, evalL, evalOpt, evalParts, putA, ofConst, ofScalar, ofScalars, abin, abinInt, aun, convA, builtinA, oneTy, elemTy, loadA, storeA, storeCellsA, setAt, partA, fillA, placesA, isFn, TyI.isAgg, isSeq, isNum, sliceA, boundA, setParams, minL, minF, maxL, maxF, repZ, reduceIte, Nat.reduceLT, Nat.reduceLeDiff, Nat.reduceEqDiff, Nat.reduceAdd, Nat.reduceMul, Nat.reduceSub, Nat.reduceBEq, Int.reduceEq, Int.reduceLT, Int.reduceLE, Int.reduceToNat, reduceCtorEq, sx, fx4, spansV_length, h1, awake_call]
      exact ⟨_, _, rfl, by simp only [Tr.get_set, Nat.reduceEqDiff, reduceIte]⟩
    · by_cases h2 : ((b.length : Nat) : Int) > 40
      · simp only [bodyOf, Tryz.f4, Option.getD_some, initT, runOps, runD, again, step1, wantA, opSem, evalO, evalL, evalOpt, evalParts, putA, ofConst, ofScalar, ofScalars, abin, abinInt, aun, convA, builtinA, oneTy, elemTy, loadA, storeA, storeCellsA, setAt, partA, fillA, placesA, isFn, TyI.isAgg, isSeq, isNum, sliceA, boundA, setParams, minL, minF, maxL, maxF, repZ, reduceIte, Nat.reduceLT, Nat.reduceLeDiff, Nat.reduceEqDiff, Nat.reduceAdd, Nat.reduceMul, Nat.reduceSub, Nat.reduceBEq, Int.reduceEq, Int.reduceLT, Int.reduceLE, Int.reduceToNat, reduceCtorEq, sx, fx4, spansV_length, h1, h2, awake_call]
        exact ⟨_, _, rfl, by simp only [Tr.get_set, Nat.reduceEqDiff, reduceIte]⟩
      · have i1 := fun (σ : AMem) => isList_call (k := k) (σ := σ) (x := .vs ka (spansV a)) (vk := ka) (l := a) (S := []) rfl (by omega) (by omega)
        have i2 := fun (σ : AMem) => isList_call (k := k) (σ := σ) (x := .vs kb (spansV b)) (vk := kb) (l := b) (S := []) rfl (by omega) (by omega)
        cases ea : okB a with
        | false =>
          rw [ea] at i1
          simp only [bodyOf, Tryz.f4, Option.getD_some, initT, runOps, runD, again, step1, wantA, opSem, evalO, evalL, evalOpt, evalParts, putA, ofConst, ofScalar, ofScalars, abin, abinInt, aun, convA, builtinA, oneTy, elemTy, loadA, storeA, storeCellsA, setAt, partA, fillA, placesA, isFn, TyI.isAgg, isSeq, isNum, sliceA, boundA, setParams, minL, minF, maxL, maxF, repZ, reduceIte, Nat.reduceLT, Nat.reduceLeDiff, Nat.reduceEqDiff, Nat.reduceAdd, Nat.reduceMul, Nat.reduceSub, Nat.reduceBEq, Int.reduceEq, Int.reduceLT, Int.reduceLE, Int.reduceToNat, reduceCtorEq, sx, fx4, spansV_length, h1, h2, i1, awake_call]
          exact ⟨_, _, rfl, by simp only [Tr.get_set, Nat.reduceEqDiff, reduceIte]⟩
        | true =>
          cases eb : okB b with
          | false =>
            rw [ea] at i1
            rw [eb] at i2
            simp only [bodyOf, Tryz.f4, Option.getD_some, initT, runOps, runD, again, step1, wantA, opSem, evalO, evalL, evalOpt, evalParts, putA, ofConst, ofScalar, ofScalars, abin, abinInt, aun, convA, builtinA, oneTy, elemTy, loadA, storeA, storeCellsA, setAt, partA, fillA, placesA, isFn, TyI.isAgg, isSeq, isNum, sliceA, boundA, setParams, minL, minF, maxL, maxF, repZ, reduceIte, Nat.reduceLT, Nat.reduceLeDiff, Nat.reduceEqDiff, Nat.reduceAdd, Nat.reduceMul, Nat.reduceSub, Nat.reduceBEq, Int.reduceEq, Int.reduceLT, Int.reduceLE, Int.reduceToNat, reduceCtorEq, sx, fx4, spansV_length, h1, h2, i1, i2, awake_call]
            exact ⟨_, _, rfl, by simp only [Tr.get_set, Nat.reduceEqDiff, reduceIte]⟩
          | true =>
            rw [ea] at i1
            rw [eb] at i2
            have oka := okB_iff.1 ea
            have okb := okB_iff.1 eb
            have hwn : IntKind.i64.wrap ((n : Nat) : Int) = ((n : Nat) : Int) := i64_id (by omega) (by omega)
            have hrem : ((n : Nat) : Int).tmod 61 = ((n % 61 : Nat) : Int) := rfl
            obtain ⟨u, hu⟩ : ∃ u, u = n % 61 := ⟨_, rfl⟩
            have hu60 : u ≤ 60 := by omega
            rw [← hu] at hrem
            have hwu : IntKind.i64.wrap ((u : Nat) : Int) = ((u : Nat) : Int) := i64_id (by omega) (by omega)
            obtain ⟨_, σ1, a1, e1, r1, c1, rfl, _, n1, g1⟩ := copy_spans (σ := AMem.empty) ka a (by omega)
            obtain ⟨_, σ2, a2, e2, r2, c2, rfl, _, n2, g2⟩ := copy_spans (σ := σ1) kb b (by omega)
            obtain ⟨_, σ3, a3, e3, r3, c3, rfl, _, n3, g3⟩ := copy_spans (σ := σ2) kb b (by omega)
            obtain ⟨_, σ4, a4, e4, r4, c4, rfl, _, n4, g4⟩ := copy_spans (σ := σ3) ka a (by omega)
            obtain ⟨_, σ5, a5, e5, r5, c5, rfl, _, n5, g5⟩ := copy_spans (σ := σ4) ka a (by omega)
            obtain ⟨_, σ6, a6, e6, r6, c6, rfl, _, n6, g6⟩ := copy_spans (σ := σ5) ka a (by omega)
            obtain ⟨_, σ7, a7, e7, r7, c7, rfl, _, n7, g7⟩ := copy_spans (σ := σ6) ka a (by omega)
            obtain ⟨L, hL⟩ : ∃ L, L = lacksL a u := ⟨_, rfl⟩
            obtain ⟨X, hX⟩ : ∃ X, X = unionL a b := ⟨_, rfl⟩
            obtain ⟨U, hU⟩ : ∃ U, U = lacksL L u := ⟨_, rfl⟩
            have okL : OkSp L := by rw [hL]; exact lacksL_ok _ _
            have okX : OkSp X := by rw [hX]; exact unionL_ok _ _
            have okU : OkSp U := by rw [hU]; exact lacksL_ok _ _
            have lenL : L.length ≤ 61 := by rw [hL]; exact spansOf_len _
            have lenX : X.length ≤ 61 := by rw [hX]; exact spansOf_len _
            have lenU : U.length ≤ 61 := by rw [hU]; exact spansOf_len _
            obtain ⟨_, σ8, a8, e8, r8, c8, rfl, _, n8, g8⟩ := copy_spans (σ := σ7) (lkOf L.length) L (by omega)
            rw [next_empty] at a1
            have px1 := snap_copy (fr := false) (d := 10) (cap := c1) (show σ2.get r1 = _ by rw [e2.2 r1 n1]; exact g1)
            have px2 := snap_copy (fr := false) (d := 10) (cap := c2) g2
            have px3 := snap_copy (fr := false) (d := 10) (cap := c3) (show σ4.get r3 = _ by rw [e4.2 r3 n3]; exact g3)
            have px4 := snap_copy (fr := false) (d := 10) (cap := c4) g4
            have px5 := snap_copy (fr := false) (d := 10) (cap := c5) (show σ6.get r5 = _ by rw [e6.2 r5 n5]; exact g5)
            have px6 := snap_copy (fr := false) (d := 10) (cap := c6) g6
            have px7 := snap_copy (fr := false) (d := 10) (cap := c7) g7
            have px8 := snap_copy (fr := false) (d := 10) (cap := c8) g8
            have d1 := dunion_call (k := k) px1 px2 (by omega) (by omega) (by omega)
            have d2 := dunion_call (k := k) px3 px4 (by omega) (by omega) (by omega)
            have d3 := dunion_call (k := k) px5 px6 (by omega) (by omega) (by omega)
            have d4 := dlacks_call (k := k) (n := ((u : Nat) : Int)) px7 (by omega) (by omega)
            have d5 := dlacks_call (k := k) (n := ((u : Nat) : Int)) px8 (by omega) (by omega)
            rw [unionR_ok oka okb, ← hX] at d1
            rw [unionR_ok okb oka, unionL_comm, ← hX] at d2
            rw [unionR_ok oka oka, unionL_self oka] at d3
            rw [lacksR_ok oka hu60, ← hL] at d4
            rw [lacksR_ok okL hu60, ← hU] at d5
            simp only [listA] at d1 d2 d3 d4 d5
            have j1 := fun (σ : AMem) => isList_call (k := k) (σ := σ) (x := .vs (lkOf X.length) (spansV X)) (S := []) rfl (by omega) (by omega)
            have j2 := fun (σ : AMem) => isList_call (k := k) (σ := σ) (x := .vs (lkOf L.length) (spansV L)) (S := []) rfl (by omega) (by omega)
            have j3 := fun (σ : AMem) => isList_call (k := k) (σ := σ) (x := .vs (lkOf U.length) (spansV U)) (S := []) rfl (by omega) (by omega)
            rw [okB_true okX] at j1
            rw [okB_true okL] at j2
            rw [okB_true okU] at j3
            have s1 := fun (σ : AMem) => sameSpans_call (k := k) (σ := σ) (x := .vs (lkOf X.length) (spansV X)) (y := .vs (lkOf X.length) (spansV X)) (S := []) (S2 := []) rfl rfl (by omega) (by omega)
            have s2 := fun (σ : AMem) => sameSpans_call (k := k) (σ := σ) (x := .vs (lkOf a.length) (spansV a)) (y := .vs ka (spansV a)) (S := []) (S2 := []) rfl rfl (by omega) (by omega)
            simp only [decide_true] at s1 s2
            have q1 := fun (σ : AMem) => setOf_call (k := k) (σ := σ) (x := .vs ka (spansV a)) (S := []) rfl oka (by omega) (by omega)
            have q2 := fun (σ : AMem) => setOf_call (k := k) (σ := σ) (x := .vs kb (spansV b)) (S := []) rfl okb (by omega) (by omega)
            have q3 := fun (σ : AMem) => setOf_call (k := k) (σ := σ) (x := .vs (lkOf X.length) (spansV X)) (S := []) rfl okX (by omega) (by omega)
            have q4 := fun (σ : AMem) => setOf_call (k := k) (σ := σ) (x := .vs (lkOf L.length) (spansV L)) (S := []) rfl okL (by omega) (by omega)
            have q5 := fun (σ : AMem) => setOf_call (k := k) (σ := σ) (x := .vs (lkOf U.length) (spansV U)) (S := []) rfl okU (by omega) (by omega)
            have h61 : ¬ (61 : Int) = 0 := by decide
            simp only [bodyOf, Tryz.f4, Option.getD_some, initT, runOps, runD, again, step1, wantA, opSem, evalO, evalL, evalOpt, evalParts, putA, ofConst, ofScalar, ofScalars, abin, abinInt, aun, convA, builtinA, oneTy, elemTy, loadA, storeA, storeCellsA, setAt, partA, fillA, placesA, isFn, TyI.isAgg, isSeq, isNum, sliceA, boundA, setParams, minL, minF, maxL, maxF, repZ, reduceIte, Nat.reduceLT, Nat.reduceLeDiff, Nat.reduceEqDiff, Nat.reduceAdd, Nat.reduceMul, Nat.reduceSub, Nat.reduceBEq, Int.reduceEq, Int.reduceLT, Int.reduceLE, Int.reduceToNat, reduceCtorEq, sx, fx4, spansV_length, h1, h2, i1, i2, hwn, hrem, h61, hwu, a1, a2, a3, a4, a5, a6, a7, a8, d1, d2, d3, d4, d5, j1, j2, j3, s1, s2, q1, q2, q3, q4, q5, bne_self_eq_false]
            generalize hLp : execC _ _ _ _ _ (Code.loop _) _ _ = q
            obtain ⟨e, T', σ', rfl, _, rfl⟩ : ∃ e T' σ', q = some (e, T', σ') ∧ e ≠ .normal ∧ e = .exit 0 := by
              rw [← hLp]
              refine exec_loop (fun j T σ => j ≤ 60 ∧ T.get 7 = some (.int .i64 (u : Nat)) ∧ T.get 18 = some (.vs .some (boolsV 61 (setP a))) ∧ T.get 19 = some (.vs .some (boolsV 61 (setP b))) ∧ T.get 20 = some (.vs .some (boolsV 61 (setP X))) ∧ T.get 21 = some (.vs .some (boolsV 61 (setP L))) ∧ T.get 22 = some (.vs .some (boolsV 61 (setP U))) ∧ T.get 23 = some (.int .i64 ((j + 1 : Nat) : Int))) 60 (by omega) ?_ ?_ ?_
              · rintro j hj T σ ⟨_, t7, t18, t19, t20, t21, t22, t23⟩
                have hlt : ((j + 1 : Nat) : Int) < ((61 : Nat) : Int) := by omega
                have hw := i64_succ (i := j + 1) (by omega)
                have p1 := boolsV_get (setP a) (show j + 1 < 61 by omega)
                have p2 := boolsV_get (setP b) (show j + 1 < 61 by omega)
                have p3 := boolsV_get (setP X) (show j + 1 < 61 by omega)
                have p4 := boolsV_get (setP L) (show j + 1 < 61 by omega)
                have p5 := boolsV_get (setP U) (show j + 1 < 61 by omega)
                have b3 : setP X (j + 1) = (setP a (j + 1) || setP b (j + 1)) := by rw [hX]; exact unionL_bit a b (by omega) (by omega)
                have b4 : setP L (j + 1) = (!(setP a (j + 1)) && decide (j + 1 ≤ u)) := by rw [hL]; exact lacksL_bit a u (by omega) (by omega)
                have b5 : setP U (j + 1) = (!(setP L (j + 1)) && decide (j + 1 ≤ u)) := by rw [hU]; exact lacksL_bit L u (by omega) (by omega)
                have hd : decide (((j + 1 : Nat) : Int) ≤ ((u : Nat) : Int)) = decide (j + 1 ≤ u) := decide_eq_decide.2 (by omega)
                rw [b4] at b5
                rw [b3] at p3
                rw [b4] at p4
                rw [b5] at p5
                generalize setP a (j + 1) = va at p1 p3 p4 p5
                generalize setP b (j + 1) = vb at p2 p3
                generalize decide (j + 1 ≤ u) = vd at p4 p5 hd
                have key : ∃ T' σ', execC lawProg (callN lawProg k) k 4 200 (innerC (innerC (stmtC (bodyOf Tryz.f4) 15))) T σ = some (.normal, T', σ') ∧ T'.get 23 = some (.int .i64 ((j + 1 + 1 : Nat) : Int)) ∧ ∀ t, t ∈ [7, 18, 19, 20, 21, 22] → T'.get t = T.get t := by
                  cases va <;> cases vb <;> cases vd <;> simp only [Bool.or_true, Bool.true_or, Bool.or_false, Bool.not_true, Bool.not_false, Bool.and_true, Bool.true_and, Bool.and_false, Bool.false_and] at p3 p4 p5 <;> refine ⟨_, _, by
                    simp only [bodyOf, Tryz.f4, Option.getD_some, flatC, innerC, stmtC, List.append_assoc, runOps, runD, again, step1, wantA, opSem, evalO, evalL, evalOpt, evalParts, putA, ofConst, ofScalar, ofScalars, abin, abinInt, aun, convA, builtinA, oneTy, elemTy, loadA, storeA, storeCellsA, setAt, partA, fillA, placesA, isFn, TyI.isAgg, isSeq, isNum, sliceA, boundA, setParams, minL, minF, maxL, maxF, repZ, reduceIte, Nat.reduceLT, Nat.reduceLeDiff, Nat.reduceEqDiff, Nat.reduceAdd, Nat.reduceMul, Nat.reduceSub, Nat.reduceBEq, Int.reduceEq, Int.reduceLT, Int.reduceLE, Int.reduceToNat, reduceCtorEq, sx, fx4, aeq, eqBool, t7, t18, t19, t20, t21, t22, t23, hlt, boolsV_length, Int.natCast_nonneg, Int.toNat_natCast, p1, p2, p3, p4, p5, hd, hw]
                    rfl, by simp only [Tr.get_set, Nat.reduceEqDiff, reduceIte], fun t ht => by
                    simp only [List.mem_cons, List.not_mem_nil, or_false] at ht
                    rcases ht with rfl | rfl | rfl | rfl | rfl | rfl <;> simp only [Tr.get_set, Nat.reduceEqDiff, reduceIte]⟩
                obtain ⟨T2, σ2, ex, u23, uk⟩ := key
                exact ⟨T2, σ2, ex, by omega, (uk 7 (by decide)).trans t7, (uk 18 (by decide)).trans t18, (uk 19 (by decide)).trans t19, (uk 20 (by decide)).trans t20, (uk 21 (by decide)).trans t21, (uk 22 (by decide)).trans t22, u23⟩
              · rintro T σ ⟨_, t7, t18, t19, t20, t21, t22, t23⟩
                have hge : ¬ (((60 + 1 : Nat) : Int) < ((61 : Nat) : Int)) := by omega
                refine ⟨_, _, _, by
                  simp only [runOps, runD, again, step1, wantA, opSem, evalO, evalL, evalOpt, evalParts, putA, ofConst, ofScalar, ofScalars, abin, abinInt, aun, convA, builtinA, oneTy, elemTy, loadA, storeA, storeCellsA, setAt, partA, fillA, placesA, isFn, TyI.isAgg, isSeq, isNum, sliceA, boundA, setParams, minL, minF, maxL, maxF, repZ, reduceIte, Nat.reduceLT, Nat.reduceLeDiff, Nat.reduceEqDiff, Nat.reduceAdd, Nat.reduceMul, Nat.reduceSub, Nat.reduceBEq, Int.reduceEq, Int.reduceLT, Int.reduceLE, Int.reduceToNat, reduceCtorEq, sx, fx4, t18, t23, boolsV_length, hge]
                  rfl, by simp, rfl⟩
              · refine ⟨Nat.zero_le _, ?_, ?_, ?_, ?_, ?_, ?_, ?_⟩
                all_goals simp only [Tr.get_set, Nat.reduceEqDiff, reduceIte]
                all_goals rfl
            simp only [runOps, runD, again, step1, wantA, opSem, evalO, evalL, evalOpt, evalParts, putA, ofConst, ofScalar, ofScalars, abin, abinInt, aun, convA, builtinA, oneTy, elemTy, loadA, storeA, storeCellsA, setAt, partA, fillA, placesA, isFn, TyI.isAgg, isSeq, isNum, sliceA, boundA, setParams, minL, minF, maxL, maxF, repZ, reduceIte, Nat.reduceLT, Nat.reduceLeDiff, Nat.reduceEqDiff, Nat.reduceAdd, Nat.reduceMul, Nat.reduceSub, Nat.reduceBEq, Int.reduceEq, Int.reduceLT, Int.reduceLE, Int.reduceToNat, reduceCtorEq, sx, fx4, awake_call]
            exact ⟨_, _, rfl, by simp only [Tr.get_set, Nat.reduceEqDiff, reduceIte]⟩
  obtain ⟨T1, σ1, h1, h2⟩ := run
  exact ⟨σ1, q_call (first := []) (caps := []) fn4 rfl (by simp [Tryz.f4]) h1 (by simp) (res_one h2)⟩
end Go.Proofs.YtoomnecfapihaaaGreatDoor
