/- Union and Lacks, of the program and of the reference; the law DeltaLists. -/
import Derived.Test.YtoomnecfapihaaaGreatDoorN6
import Derived.Test.YtoomnecfapihaaaGreatDoorPaleRead
set_option maxRecDepth 100000
set_option linter.unusedSimpArgs false
set_option linter.unusedVariables false
namespace Go.Proofs.YtoomnecfapihaaaGreatDoor
open Go Go.Proofs.YtoomnecfapihaaaGreatDoor.Pale
variable {k : Nat} {σ : AMem}

theorem spansOf_congr {p q : Nat → Bool} (h : ∀ m, 1 ≤ m → m ≤ 60 → p m = q m) : spansOf p = spansOf q :=
  spansOf_eq (spansOf_ok p).1 fun m h1 h2 => by rw [(spansOf_ok p).2, ← h m h1 h2]; simp [h1, h2]
def unionL (a b : List Sp) : List Sp := spansOf fun m => inSp a m || inSp b m
def lacksL (l : List Sp) (n : Nat) : List Sp := spansOf fun m => !(inSp l m) && decide (m ≤ n)
def listA (l : List Sp) : AVal := .vs (lkOf l.length) (spansV l)
noncomputable def unionR (a b : List Sp) : AVal × Int := if okB a && okB b then (listA (unionL a b), 0) else (.vs .nil [], 4)
noncomputable def lacksR (l : List Sp) (n : Int) : AVal × Int := if okB l then if 0 ≤ n ∧ n ≤ 60 then (listA (lacksL l n.toNat), 0) else (.vs .nil [], 3) else (.vs .nil [], 4)
theorem ofW_ok {l : List Sp} (h : okB l = true) : ofW l = (setW l).toNat := by unfold ofW; rw [if_pos h]
theorem snapT_tuple {σ : AMem} {out v : AVal} {S : List Nat} {n : Int} (h : snapF true σ 11 out = some (v, S)) : snapF true σ snapDepth (.tuple [out, .int .i64 n]) = some (.tuple [v, .int .i64 n], S ++ ([] ++ [])) := by
  show (snapL (snapF true σ 11) [out, .int .i64 n]).map (fun (l, a) => (AVal.tuple l, a)) = _
  simp only [snapL, h]
  rfl
theorem set_range {l : List Sp} (ok : OkSp l) {m : Nat} (h : (setW l).getLsbD m = true) : 1 ≤ m ∧ m ≤ 60 := by
  rw [setW_bit _ l rfl ok] at h
  have := inSp_range ok h
  omega

theorem dunion_call {x y : AVal} {S S2 : List Nat} {ka kb : VK} {a b : List Sp} (hx : snapF false σ snapDepth x = some (.vs ka (spansV a), S)) (hy : snapF false σ snapDepth y = some (.vs kb (spansV b), S2)) (ha : a.length ≤ 1000) (hb : b.length ≤ 1000) (hk : 3000 ≤ k) : pureCall lawProg (callN lawProg k) (.func 6 [] []) [x, y] σ = some (.tuple [(unionR a b).1, .int .i64 (unionR a b).2], σ) := by
  obtain ⟨k, rfl⟩ : ∃ m, k = m + 2 := ⟨k - 2, by omega⟩
  have run : ∃ T1 σ1 out S, execC lawProg (callN lawProg (k + 1)) (k + 1) 6 30 (bodyOf Tryz.f6) (initT 0 [.vs ka (spansV a), .vs kb (spansV b)] .nil) AMem.empty = some (.ret, T1, σ1) ∧ T1.get 4 = some out ∧ T1.get 5 = some (.int .i64 (unionR a b).2) ∧ snapF true σ1 11 out = some ((unionR a b).1, S) := by
    have h1 := fun (σ : AMem) => of_call (k := k + 1) (σ := σ) (x := .vs ka (spansV a)) (vk := ka) (l := a) (S := []) rfl ha (by omega)
    have h2 := fun (σ : AMem) => of_call (k := k + 1) (σ := σ) (x := .vs kb (spansV b)) (vk := kb) (l := b) (S := []) rfl hb (by omega)
    cases ea : okB a with
    | false =>
      rw [ea] at h1
      have hr : unionR a b = (.vs .nil [], 4) := by unfold unionR; rw [ea]; rfl
      rw [hr]
      simp only [bodyOf, Tryz.f6, Option.getD_some, initT, runOps, runD, again, step1, wantA, opSem, evalO, evalL, evalOpt, evalParts, putA, ofConst, ofScalar, ofScalars, abin, abinInt, aun, convA, builtinA, oneTy, elemTy, loadA, storeA, storeCellsA, setAt, partA, fillA, placesA, isFn, TyI.isAgg, isSeq, isNum, sliceA, boundA, setParams, minL, minF, maxL, maxF, repZ, reduceIte, Nat.reduceLT, Nat.reduceLeDiff, Nat.reduceEqDiff, Nat.reduceAdd, Nat.reduceMul, Nat.reduceSub, Nat.reduceBEq, Int.reduceEq, Int.reduceLT, Int.reduceLE, Int.reduceToNat, reduceCtorEq, sx, fx6, h1, h2]
      exact ⟨_, _, _, [], rfl, by simp only [Tr.get_set, Nat.reduceEqDiff, reduceIte]; rfl, by simp only [Tr.get_set, Nat.reduceEqDiff, reduceIte], rfl⟩
    | true =>
      cases eb : okB b with
      | false =>
        rw [ea] at h1
        rw [eb] at h2
        have hr : unionR a b = (.vs .nil [], 4) := by unfold unionR; rw [ea, eb]; rfl
        rw [hr]
        simp only [bodyOf, Tryz.f6, Option.getD_some, initT, runOps, runD, again, step1, wantA, opSem, evalO, evalL, evalOpt, evalParts, putA, ofConst, ofScalar, ofScalars, abin, abinInt, aun, convA, builtinA, oneTy, elemTy, loadA, storeA, storeCellsA, setAt, partA, fillA, placesA, isFn, TyI.isAgg, isSeq, isNum, sliceA, boundA, setParams, minL, minF, maxL, maxF, repZ, reduceIte, Nat.reduceLT, Nat.reduceLeDiff, Nat.reduceEqDiff, Nat.reduceAdd, Nat.reduceMul, Nat.reduceSub, Nat.reduceBEq, Int.reduceEq, Int.reduceLT, Int.reduceLE, Int.reduceToNat, reduceCtorEq, sx, fx6, h1, h2]
        exact ⟨_, _, _, [], rfl, by simp only [Tr.get_set, Nat.reduceEqDiff, reduceIte]; rfl, by simp only [Tr.get_set, Nat.reduceEqDiff, reduceIte], rfl⟩
      | true =>
        rw [ea, ofW_ok ea] at h1
        rw [eb, ofW_ok eb] at h2
        have hr : unionR a b = (listA (unionL a b), 0) := by unfold unionR; rw [ea, eb]; rfl
        rw [hr]
        have oka := okB_iff.1 ea
        have okb := okB_iff.1 eb
        have hor : orW [setW a, setW b] = setW a ||| setW b := by simp [orW]
        obtain ⟨out, σ', hu, hg⟩ := union_exec (k := k) (σ := AMem.empty.push (.row 1 false [.int .u64 ((setW a).toNat : Nat), .int .u64 ((setW b).toNat : Nat)])) (ws := [setW a, setW b]) (by rw [AMem.get_push, if_pos (by simp [next_empty])]; rfl) (by simp [next_empty]) (by simp) (fun m hm => by
          rw [hor, BitVec.getLsbD_or, Bool.or_eq_true] at hm
          rcases hm with hm | hm
          · exact set_range oka hm
          · exact set_range okb hm) (by omega)
        have hu2 : callN lawProg (k + 1) (.func 23 [] []) [.slice 0 0 2 (some 2) 1] (AMem.empty.push (.row 1 false [.int .u64 ((setW a).toNat : Nat), .int .u64 ((setW b).toNat : Nat)])) = some (out, σ') := hu
        have hl : spansOf (orW [setW a, setW b]).getLsbD = unionL a b := spansOf_congr fun m _ _ => by rw [hor, BitVec.getLsbD_or, setW_bit _ a rfl oka, setW_bit _ b rfl okb]
        rw [hl] at hg
        obtain ⟨S, hS⟩ := snap_spans (fr := true) (d := 9) hg
        simp only [bodyOf, Tryz.f6, Option.getD_some, initT, runOps, runD, again, step1, wantA, opSem, evalO, evalL, evalOpt, evalParts, putA, ofConst, ofScalar, ofScalars, abin, abinInt, aun, convA, builtinA, oneTy, elemTy, loadA, storeA, storeCellsA, setAt, partA, fillA, placesA, isFn, TyI.isAgg, isSeq, isNum, sliceA, boundA, setParams, minL, minF, maxL, maxF, repZ, reduceIte, Nat.reduceLT, Nat.reduceLeDiff, Nat.reduceEqDiff, Nat.reduceAdd, Nat.reduceMul, Nat.reduceSub, Nat.reduceBEq, Int.reduceEq, Int.reduceLT, Int.reduceLE, Int.reduceToNat, reduceCtorEq, sx, fx6, h1, h2, hu2]
        exact ⟨_, _, out, S, rfl, by simp only [Tr.get_set, Nat.reduceEqDiff, reduceIte], by simp only [Tr.get_set, Nat.reduceEqDiff, reduceIte], hS⟩
  obtain ⟨T1, σ1, out, S3, h1, h2, h3, h4⟩ := run
  have hs : snapL (snapF false σ snapDepth) [x, y] = some ([.vs ka (spansV a), .vs kb (spansV b)], S ++ (S2 ++ [])) := by
    simp only [snapL, hx, hy]
  exact pureCall_of hs (memo6 _) (pureRun_of fn6 rfl (by simp [Tryz.f6]) h1 (by simp) (res_two h2 h3) (snapT_tuple h4))

theorem dlacks_call {x : AVal} {S : List Nat} {ka : VK} {a : List Sp} {n : Int} (hx : snapF false σ snapDepth x = some (.vs ka (spansV a), S)) (ha : a.length ≤ 1000) (hk : 3000 ≤ k) : pureCall lawProg (callN lawProg k) (.func 7 [] []) [x, .int .i64 n] σ = some (.tuple [(lacksR a n).1, .int .i64 (lacksR a n).2], σ) := by
  obtain ⟨k, rfl⟩ : ∃ m, k = m + 2 := ⟨k - 2, by omega⟩
  have run : ∃ T1 σ1 out S, execC lawProg (callN lawProg (k + 1)) (k + 1) 7 29 (bodyOf Tryz.f7) (initT 0 [.vs ka (spansV a), .int .i64 n] .nil) AMem.empty = some (.ret, T1, σ1) ∧ T1.get 4 = some out ∧ T1.get 5 = some (.int .i64 (lacksR a n).2) ∧ snapF true σ1 11 out = some ((lacksR a n).1, S) := by
    have h1 := fun (σ : AMem) => of_call (k := k + 1) (σ := σ) (x := .vs ka (spansV a)) (vk := ka) (l := a) (S := []) rfl ha (by omega)
    cases ea : okB a with
    | false =>
      rw [ea] at h1
      have hr : lacksR a n = (.vs .nil [], 4) := by unfold lacksR; rw [ea]; rfl
      rw [hr]
      simp only [bodyOf, Tryz.f7, Option.getD_some, initT, runOps, runD, again, step1, wantA, opSem, evalO, evalL, evalOpt, evalParts, putA, ofConst, ofScalar, ofScalars, abin, abinInt, aun, convA, builtinA, oneTy, elemTy, loadA, storeA, storeCellsA, setAt, partA, fillA, placesA, isFn, TyI.isAgg, isSeq, isNum, sliceA, boundA, setParams, minL, minF, maxL, maxF, repZ, reduceIte, Nat.reduceLT, Nat.reduceLeDiff, Nat.reduceEqDiff, Nat.reduceAdd, Nat.reduceMul, Nat.reduceSub, Nat.reduceBEq, Int.reduceEq, Int.reduceLT, Int.reduceLE, Int.reduceToNat, reduceCtorEq, sx, fx7, h1]
      exact ⟨_, _, _, [], rfl, by simp only [Tr.get_set, Nat.reduceEqDiff, reduceIte]; rfl, by simp only [Tr.get_set, Nat.reduceEqDiff, reduceIte], rfl⟩
    | true =>
      rw [ea, ofW_ok ea] at h1
      have oka := okB_iff.1 ea
      by_cases n0 : n < 0
      · have hr : lacksR a n = (.vs .nil [], 3) := by unfold lacksR; rw [ea, if_pos rfl, if_neg (by omega)]
        rw [hr]
        simp only [bodyOf, Tryz.f7, Option.getD_some, initT, runOps, runD, again, step1, wantA, opSem, evalO, evalL, evalOpt, evalParts, putA, ofConst, ofScalar, ofScalars, abin, abinInt, aun, convA, builtinA, oneTy, elemTy, loadA, storeA, storeCellsA, setAt, partA, fillA, placesA, isFn, TyI.isAgg, isSeq, isNum, sliceA, boundA, setParams, minL, minF, maxL, maxF, repZ, reduceIte, Nat.reduceLT, Nat.reduceLeDiff, Nat.reduceEqDiff, Nat.reduceAdd, Nat.reduceMul, Nat.reduceSub, Nat.reduceBEq, Int.reduceEq, Int.reduceLT, Int.reduceLE, Int.reduceToNat, reduceCtorEq, sx, fx7, h1, n0]
        exact ⟨_, _, _, [], rfl, by simp only [Tr.get_set, Nat.reduceEqDiff, reduceIte]; rfl, by simp only [Tr.get_set, Nat.reduceEqDiff, reduceIte], rfl⟩
      · by_cases n1 : n > 60
        · have hr : lacksR a n = (.vs .nil [], 3) := by unfold lacksR; rw [ea, if_pos rfl, if_neg (by omega)]
          rw [hr]
          simp only [bodyOf, Tryz.f7, Option.getD_some, initT, runOps, runD, again, step1, wantA, opSem, evalO, evalL, evalOpt, evalParts, putA, ofConst, ofScalar, ofScalars, abin, abinInt, aun, convA, builtinA, oneTy, elemTy, loadA, storeA, storeCellsA, setAt, partA, fillA, placesA, isFn, TyI.isAgg, isSeq, isNum, sliceA, boundA, setParams, minL, minF, maxL, maxF, repZ, reduceIte, Nat.reduceLT, Nat.reduceLeDiff, Nat.reduceEqDiff, Nat.reduceAdd, Nat.reduceMul, Nat.reduceSub, Nat.reduceBEq, Int.reduceEq, Int.reduceLT, Int.reduceLE, Int.reduceToNat, reduceCtorEq, sx, fx7, h1, n0, n1]
          exact ⟨_, _, _, [], rfl, by simp only [Tr.get_set, Nat.reduceEqDiff, reduceIte]; rfl, by simp only [Tr.get_set, Nat.reduceEqDiff, reduceIte], rfl⟩
        · have hr : lacksR a n = (listA (lacksL a n.toNat), 0) := by unfold lacksR; rw [ea, if_pos rfl, if_pos (by omega)]
          rw [hr]
          have hup := fun (σ : AMem) => upTo_call (k := k + 1) (σ := σ) (n := n.toNat) (by omega) (by omega)
          rw [show ((n.toNat : Nat) : Int) = n by omega] at hup
          obtain ⟨w, hw⟩ : ∃ w, w = upW n.toNat &&& ~~~(setW a) := ⟨_, rfl⟩
          have hbit : ∀ m, w.getLsbD m = (decide (1 ≤ m) && decide (m ≤ n.toNat) && !(setW a).getLsbD m) := fun m => by
            rw [hw, BitVec.getLsbD_and, BitVec.getLsbD_not, upW_bit (by omega)]
            by_cases hm : m < 64
            · simp [hm]
            · simp [hm, show ¬ m ≤ n.toNat by omega]
          have hor : orW [w] = w := by simp [orW]
          obtain ⟨out, σ', hu, hg⟩ := union_exec (k := k) (σ := AMem.empty.push (.row 1 false [.int .u64 (w.toNat : Nat)])) (ws := [w]) (by rw [AMem.get_push, if_pos (by simp [next_empty])]; rfl) (by simp [next_empty]) (by simp) (fun m hm => by
            rw [hor, hbit] at hm
            simp only [Bool.and_eq_true, decide_eq_true_eq] at hm
            omega) (by omega)
          have hu2 : callN lawProg (k + 1) (.func 23 [] []) [.slice 0 0 1 (some 1) 1] (AMem.empty.push (.row 1 false [.int .u64 (w.toNat : Nat)])) = some (out, σ') := hu
          have hl : spansOf (orW [w]).getLsbD = lacksL a n.toNat := spansOf_congr fun m h1 _ => by
            rw [hor, hbit, setW_bit _ a rfl oka]
            simp [h1, Bool.and_comm]
          rw [hl] at hg
          obtain ⟨S, hS⟩ := snap_spans (fr := true) (d := 9) hg
          simp only [bodyOf, Tryz.f7, Option.getD_some, initT, runOps, runD, again, step1, wantA, opSem, evalO, evalL, evalOpt, evalParts, putA, ofConst, ofScalar, ofScalars, abin, abinInt, aun, convA, builtinA, oneTy, elemTy, loadA, storeA, storeCellsA, setAt, partA, fillA, placesA, isFn, TyI.isAgg, isSeq, isNum, sliceA, boundA, setParams, minL, minF, maxL, maxF, repZ, reduceIte, Nat.reduceLT, Nat.reduceLeDiff, Nat.reduceEqDiff, Nat.reduceAdd, Nat.reduceMul, Nat.reduceSub, Nat.reduceBEq, Int.reduceEq, Int.reduceLT, Int.reduceLE, Int.reduceToNat, reduceCtorEq, sx, fx7, h1, n0, n1, hup, u64_andNot, ← hw, hu2]
          exact ⟨_, _, out, S, rfl, by simp only [Tr.get_set, Nat.reduceEqDiff, reduceIte], by simp only [Tr.get_set, Nat.reduceEqDiff, reduceIte], hS⟩
  obtain ⟨T1, σ1, out, S3, h1, h2, h3, h4⟩ := run
  have hs : snapL (snapF false σ snapDepth) [x, .int .i64 n] = some ([.vs ka (spansV a), .int .i64 n], S ++ ([] ++ [])) := by
    simp only [snapL, hx]
    rfl
  exact pureCall_of hs (memo7 _) (pureRun_of fn7 rfl (by simp [Tryz.f7]) h1 (by simp) (res_two h2 h3) (snapT_tuple h4))
end Go.Proofs.YtoomnecfapihaaaGreatDoor
