/- slices.IndexFunc and ContainsFunc over sheaves and parts. -/
import Derived.Test.YtkamjhhodnmoiaaGreatDoorA1
import Derived.Test.YtkamjhhodnmoiaaGreatDoorPaleItems
set_option maxRecDepth 100000
set_option linter.unusedSimpArgs false
set_option linter.unusedVariables false
namespace Go.Proofs.YtkamjhhodnmoiaaGreatDoor
open Go Go.Proofs.YtkamjhhodnmoiaaGreatDoor.Pale
variable {k : Nat} {σ : AMem}

/-- The place of the first one of which something is so; -1 if there is none. -/
def idxI (p : AVal → Bool) : List AVal → Int
  | [] => -1
  | e :: es => if p e then 0 else if idxI p es < 0 then -1 else idxI p es + 1
theorem idxI_none {p : AVal → Bool} : ∀ {es : List AVal}, (∀ x, x ∈ es → p x = false) → idxI p es = -1 := by
  intro es
  induction es with
  | nil => intro _; rfl
  | cons e es ih =>
    intro h
    simp only [idxI, h e (by simp), Bool.false_eq_true, if_false, ih (fun x hx => h x (by simp [hx]))]
    rfl
theorem idxI_at {p : AVal → Bool} : ∀ {es : List AVal} {i : Nat} (hi : i < es.length), (∀ x, x ∈ es.take i → p x = false) → p es[i] = true → idxI p es = (i : Int) := by
  intro es
  induction es with
  | nil => intro i hi; simp at hi
  | cons e es ih =>
    intro i hi h hp
    cases i with
    | zero => simp only [List.getElem_cons_zero] at hp; simp only [idxI, hp, if_true]; rfl
    | succ i =>
      have he := h e (by simp)
      have := ih (i := i) (by simpa using hi) (fun x hx => h x (by simp [hx])) (by simpa using hp)
      simp only [idxI, he, Bool.false_eq_true, if_false, this]
      rw [if_neg (by omega)]
      omega
theorem idxI_any (p : AVal → Bool) : ∀ (es : List AVal), decide (idxI p es ≥ 0) = es.any p := by
  intro es
  induction es with
  | nil => rfl
  | cons e es ih =>
    simp only [idxI, List.any_cons]
    by_cases hp : p e = true
    · simp [hp]
    · have hp : p e = false := by simpa using hp
      simp only [hp, Bool.false_eq_true, if_false, Bool.false_or, ← ih]
      split
      · rename_i h; rw [decide_eq_false (by omega), decide_eq_false (by omega)]
      · rename_i h; rw [decide_eq_true (by omega), decide_eq_true (by omega)]

theorem sheaf_v (vk : VK) (es : List AVal) (g : Nat) (caps : List AVal) (p : AVal → Bool) (hc : ∀ e, e ∈ es → ∃ cs, e = .agg cs ∧ cs.length = 2) (hlen : es.length ≤ 100000) (hfn : caps = [] → lawProg.isVal 66 g = false) (hf : ∀ e, e ∈ es → ∀ σ', Ext σ σ' → ∃ σ'', callN lawProg k (.func g [] caps) [e] σ' = some (.bool (p e), σ'') ∧ Ext σ' σ'') (hk : es.length + 1 ≤ k) :
    ∃ σ', callN lawProg (k + 1) (.func 66 [] []) [.vs vk es, .func g [] caps] σ = some (.int .i64 (idxI p es), σ') ∧ Ext σ σ' := by
  have run : ∃ T1 σ1, execC lawProg (callN lawProg k) k 66 19 (bodyOf Tryz.f66) (initT 0 [.vs vk es, .func g [] caps] .nil) σ = some (.ret, T1, σ1) ∧ T1.get 4 = some (.int .i64 (idxI p es)) ∧ Ext σ σ1 := by
    simp only [bodyOf, Tryz.f66, Option.getD_some, initT, runOps, runD, again, step1, wantA, opSem, evalO, evalL, evalOpt, evalParts, putA, ofConst, ofScalar, ofScalars, abin, abinInt, aun, convA, builtinA, oneTy, elemTy, loadA, storeA, storeCellsA, setAt, partA, fillA, placesA, isFn, TyI.isAgg, isSeq, isNum, sliceA, boundA, setParams, minL, minF, maxL, maxF, repZ, reduceIte, Nat.reduceLT, Nat.reduceLeDiff, Nat.reduceEqDiff, Nat.reduceAdd, Nat.reduceMul, Nat.reduceSub, Nat.reduceBEq, Int.reduceEq, Int.reduceLT, Int.reduceLE, Int.reduceToNat, reduceCtorEq, sx, fx66]
    generalize hL : execC _ _ _ _ _ (Code.loop _) _ _ = q
    obtain ⟨e, T', σ', rfl, _, hx, hcase⟩ : ∃ e T' σ', q = some (e, T', σ') ∧ e ≠ .normal ∧ (Ext σ σ' ∧ ((e = .exit 0 ∧ ∀ x, x ∈ es → p x = false) ∨ (e = .ret ∧ T'.get 4 = some (.int .i64 (idxI p es))))) := by
      rw [← hL]
      refine exec_loop2 (fun i T σ' => i ≤ es.length ∧ T.get 0 = some (.vs vk es) ∧ T.get 1 = some (.func g [] caps) ∧ T.get 7 = some (.int .i64 es.length) ∧ T.get 8 = some (.int .i64 i) ∧ Ext σ σ' ∧ ∀ x, x ∈ es.take i → p x = false) es.length (by omega) ?_ ?_ ?_
      · rintro i hi T σ' ⟨_, t0, t1, t7, t8, hx, hall⟩
        have hlt : (i : Int) < es.length := by omega
        obtain ⟨cs, hci, hcl⟩ := hc _ (List.getElem_mem hi)
        have hgi : es[i]? = some (.agg cs) := by rw [List.getElem?_eq_getElem hi, hci]
        obtain ⟨σ'', hc1, hc2⟩ := hf _ (List.getElem_mem hi) σ' hx
        have hw := i64_succ (i := i) (by omega)
        cases hp : p es[i] with
        | false =>
          left
          rw [hp] at hc1
          rw [hci] at hc1
          cases caps with
          | cons c cs =>
            refine ⟨_, _, by
              simp only [runOps, runD, again, step1, wantA, opSem, evalO, evalL, evalOpt, evalParts, putA, ofConst, ofScalar, ofScalars, abin, abinInt, aun, convA, builtinA, oneTy, elemTy, loadA, storeA, storeCellsA, setAt, partA, fillA, placesA, isFn, TyI.isAgg, isSeq, isNum, sliceA, boundA, setParams, minL, minF, maxL, maxF, repZ, reduceIte, Nat.reduceLT, Nat.reduceLeDiff, Nat.reduceEqDiff, Nat.reduceAdd, Nat.reduceMul, Nat.reduceSub, Nat.reduceBEq, Int.reduceEq, Int.reduceLT, Int.reduceLE, Int.reduceToNat, reduceCtorEq, sx, fx66, t0, t1, t7, t8, hlt, Int.natCast_nonneg, Int.toNat_natCast, hgi, hcl, hc1, hw]
              rfl, hi, ?_, ?_, ?_, ?_, hx.trans hc2, take_all hi hall hp⟩
            all_goals simp only [Tr.get_set, Nat.reduceEqDiff, reduceIte, t0, t1, t7]
          | nil =>
            have hv := hfn rfl
            refine ⟨_, _, by
              simp only [runOps, runD, again, step1, wantA, opSem, evalO, evalL, evalOpt, evalParts, putA, ofConst, ofScalar, ofScalars, abin, abinInt, aun, convA, builtinA, oneTy, elemTy, loadA, storeA, storeCellsA, setAt, partA, fillA, placesA, isFn, TyI.isAgg, isSeq, isNum, sliceA, boundA, setParams, minL, minF, maxL, maxF, repZ, reduceIte, Nat.reduceLT, Nat.reduceLeDiff, Nat.reduceEqDiff, Nat.reduceAdd, Nat.reduceMul, Nat.reduceSub, Nat.reduceBEq, Int.reduceEq, Int.reduceLT, Int.reduceLE, Int.reduceToNat, reduceCtorEq, sx, fx66, t0, t1, t7, t8, hlt, Int.natCast_nonneg, Int.toNat_natCast, hgi, hcl, hv, hc1, hw]
              rfl, hi, ?_, ?_, ?_, ?_, hx.trans hc2, take_all hi hall hp⟩
            all_goals simp only [Tr.get_set, Nat.reduceEqDiff, reduceIte, t0, t1, t7]
        | true =>
          right
          rw [hp] at hc1
          rw [hci] at hc1
          have hidx := idxI_at hi hall hp
          cases caps with
          | cons c cs =>
            refine ⟨.ret, _, _, by
              simp only [runOps, runD, again, step1, wantA, opSem, evalO, evalL, evalOpt, evalParts, putA, ofConst, ofScalar, ofScalars, abin, abinInt, aun, convA, builtinA, oneTy, elemTy, loadA, storeA, storeCellsA, setAt, partA, fillA, placesA, isFn, TyI.isAgg, isSeq, isNum, sliceA, boundA, setParams, minL, minF, maxL, maxF, repZ, reduceIte, Nat.reduceLT, Nat.reduceLeDiff, Nat.reduceEqDiff, Nat.reduceAdd, Nat.reduceMul, Nat.reduceSub, Nat.reduceBEq, Int.reduceEq, Int.reduceLT, Int.reduceLE, Int.reduceToNat, reduceCtorEq, sx, fx66, t0, t1, t7, t8, hlt, Int.natCast_nonneg, Int.toNat_natCast, hgi, hcl, hc1, hw]
              rfl, by simp, hx.trans hc2, .inr ⟨rfl, ?_⟩⟩
            simp only [Tr.get_set, Nat.reduceEqDiff, reduceIte, hidx]
          | nil =>
            have hv := hfn rfl
            refine ⟨.ret, _, _, by
              simp only [runOps, runD, again, step1, wantA, opSem, evalO, evalL, evalOpt, evalParts, putA, ofConst, ofScalar, ofScalars, abin, abinInt, aun, convA, builtinA, oneTy, elemTy, loadA, storeA, storeCellsA, setAt, partA, fillA, placesA, isFn, TyI.isAgg, isSeq, isNum, sliceA, boundA, setParams, minL, minF, maxL, maxF, repZ, reduceIte, Nat.reduceLT, Nat.reduceLeDiff, Nat.reduceEqDiff, Nat.reduceAdd, Nat.reduceMul, Nat.reduceSub, Nat.reduceBEq, Int.reduceEq, Int.reduceLT, Int.reduceLE, Int.reduceToNat, reduceCtorEq, sx, fx66, t0, t1, t7, t8, hlt, Int.natCast_nonneg, Int.toNat_natCast, hgi, hcl, hv, hc1, hw]
              rfl, by simp, hx.trans hc2, .inr ⟨rfl, ?_⟩⟩
            simp only [Tr.get_set, Nat.reduceEqDiff, reduceIte, hidx]
      · rintro T σ' ⟨_, t0, t1, t7, t8, hx, hall⟩
        rw [List.take_length] at hall
        exact ⟨_, _, _, by
          simp only [runOps, runD, again, step1, wantA, opSem, evalO, evalL, evalOpt, evalParts, putA, ofConst, ofScalar, ofScalars, abin, abinInt, aun, convA, builtinA, oneTy, elemTy, loadA, storeA, storeCellsA, setAt, partA, fillA, placesA, isFn, TyI.isAgg, isSeq, isNum, sliceA, boundA, setParams, minL, minF, maxL, maxF, repZ, reduceIte, Nat.reduceLT, Nat.reduceLeDiff, Nat.reduceEqDiff, Nat.reduceAdd, Nat.reduceMul, Nat.reduceSub, Nat.reduceBEq, Int.reduceEq, Int.reduceLT, Int.reduceLE, Int.reduceToNat, reduceCtorEq, sx, fx66, t0, t1, t7, t8, Int.lt_irrefl]
          rfl, by simp, hx, .inl ⟨rfl, hall⟩⟩
      · refine ⟨Nat.zero_le _, ?_, ?_, ?_, ?_, Ext.refl _, by simp⟩
        all_goals simp only [Tr.get_set, Nat.reduceEqDiff, reduceIte]
        all_goals rfl
    rcases hcase with ⟨rfl, hall⟩ | ⟨rfl, hT⟩
    · simp only [runOps, runD, again, step1, wantA, opSem, evalO, evalL, evalOpt, evalParts, putA, ofConst, ofScalar, ofScalars, abin, abinInt, aun, convA, builtinA, oneTy, elemTy, loadA, storeA, storeCellsA, setAt, partA, fillA, placesA, isFn, TyI.isAgg, isSeq, isNum, sliceA, boundA, setParams, minL, minF, maxL, maxF, repZ, reduceIte, Nat.reduceLT, Nat.reduceLeDiff, Nat.reduceEqDiff, Nat.reduceAdd, Nat.reduceMul, Nat.reduceSub, Nat.reduceBEq, Int.reduceEq, Int.reduceLT, Int.reduceLE, Int.reduceToNat, reduceCtorEq, sx, fx66]
      exact ⟨_, _, rfl, by simp only [Tr.get_set, Nat.reduceEqDiff, reduceIte, idxI_none hall], hx⟩
    · simp only [runOps, runD, again, step1, wantA, opSem, evalO, evalL, evalOpt, evalParts, putA, ofConst, ofScalar, ofScalars, abin, abinInt, aun, convA, builtinA, oneTy, elemTy, loadA, storeA, storeCellsA, setAt, partA, fillA, placesA, isFn, TyI.isAgg, isSeq, isNum, sliceA, boundA, setParams, minL, minF, maxL, maxF, repZ, reduceIte, Nat.reduceLT, Nat.reduceLeDiff, Nat.reduceEqDiff, Nat.reduceAdd, Nat.reduceMul, Nat.reduceSub, Nat.reduceBEq, Int.reduceEq, Int.reduceLT, Int.reduceLE, Int.reduceToNat, reduceCtorEq, sx, fx66]
      exact ⟨_, _, rfl, hT, hx⟩
  obtain ⟨T1, σ1, h1, h2, h3⟩ := run
  exact ⟨σ1, q_call (first := []) (caps := []) fn66 rfl (by simp [Tryz.f66]) h1 (by simp) (res_one h2), h3⟩

theorem sheaf_has_v (vk : VK) (es : List AVal) (g : Nat) (caps : List AVal) (p : AVal → Bool) (hc : ∀ e, e ∈ es → ∃ cs, e = .agg cs ∧ cs.length = 2) (hlen : es.length ≤ 100000) (hfn : caps = [] → lawProg.isVal 66 g = false) (hf : ∀ e, e ∈ es → ∀ σ', Ext σ σ' → ∃ σ'', callN lawProg k (.func g [] caps) [e] σ' = some (.bool (p e), σ'') ∧ Ext σ' σ'') (hk : es.length + 1 ≤ k) :
    ∃ σ', callN lawProg (k + 2) (.func 39 [] []) [.vs vk es, .func g [] caps] σ = some (.bool (es.any p), σ') ∧ Ext σ σ' := by
  obtain ⟨σ', hc, hx⟩ := sheaf_v vk es g caps p hc hlen hfn hf hk
  have e : ∃ T1, execC lawProg (callN lawProg (k + 1)) (k + 1) 39 9 (bodyOf Tryz.f39) (initT 0 [.vs vk es, .func g [] caps] .nil) σ = some (.ret, T1, σ') ∧ T1.get 4 = some (.bool (decide (idxI p es ≥ 0))) := by
    simp only [bodyOf, Tryz.f39, Option.getD_some, initT, runOps, runD, again, step1, wantA, opSem, evalO, evalL, evalOpt, evalParts, putA, ofConst, ofScalar, ofScalars, abin, abinInt, aun, convA, builtinA, oneTy, elemTy, loadA, storeA, storeCellsA, setAt, partA, fillA, placesA, isFn, TyI.isAgg, isSeq, isNum, sliceA, boundA, setParams, minL, minF, maxL, maxF, repZ, reduceIte, Nat.reduceLT, Nat.reduceLeDiff, Nat.reduceEqDiff, Nat.reduceAdd, Nat.reduceMul, Nat.reduceSub, Nat.reduceBEq, Int.reduceEq, Int.reduceLT, Int.reduceLE, Int.reduceToNat, reduceCtorEq, sx, fx39, hc]
    exact ⟨_, rfl, by simp only [Tr.get_set, Nat.reduceEqDiff, reduceIte]⟩
  obtain ⟨T1, e1, e2⟩ := e
  rw [idxI_any] at e2
  exact ⟨σ', q_call (first := []) (caps := []) fn39 rfl (by simp [Tryz.f39]) e1 (by simp) (res_one e2), hx⟩

theorem sheaf_m {r off n : Nat} {cap : Option Nat} {cells : List AVal} (es : List AVal) (hn : n = es.length) (hr : σ.get r = some (.row 2 true cells)) (hrn : r < σ.next) (hcell : ∀ i (h : i < es.length), off + i * 2 + 2 ≤ cells.length ∧ .agg ((cells.drop (off + i * 2)).take 2) = es[i]) (g : Nat) (caps : List AVal) (p : AVal → Bool) (hlen : es.length ≤ 100000) (hfn : caps = [] → lawProg.isVal 66 g = false) (hf : ∀ e, e ∈ es → ∀ σ', Ext σ σ' → ∃ σ'', callN lawProg k (.func g [] caps) [e] σ' = some (.bool (p e), σ'') ∧ Ext σ' σ'') (hk : es.length + 1 ≤ k) :
    ∃ σ', callN lawProg (k + 1) (.func 66 [] []) [.slice r off n cap 2, .func g [] caps] σ = some (.int .i64 (idxI p es), σ') ∧ Ext σ σ' := by
  subst hn
  have run : ∃ T1 σ1, execC lawProg (callN lawProg k) k 66 19 (bodyOf Tryz.f66) (initT 0 [.slice r off es.length cap 2, .func g [] caps] .nil) σ = some (.ret, T1, σ1) ∧ T1.get 4 = some (.int .i64 (idxI p es)) ∧ Ext σ σ1 := by
    simp only [bodyOf, Tryz.f66, Option.getD_some, initT, runOps, runD, again, step1, wantA, opSem, evalO, evalL, evalOpt, evalParts, putA, ofConst, ofScalar, ofScalars, abin, abinInt, aun, convA, builtinA, oneTy, elemTy, loadA, storeA, storeCellsA, setAt, partA, fillA, placesA, isFn, TyI.isAgg, isSeq, isNum, sliceA, boundA, setParams, minL, minF, maxL, maxF, repZ, reduceIte, Nat.reduceLT, Nat.reduceLeDiff, Nat.reduceEqDiff, Nat.reduceAdd, Nat.reduceMul, Nat.reduceSub, Nat.reduceBEq, Int.reduceEq, Int.reduceLT, Int.reduceLE, Int.reduceToNat, reduceCtorEq, sx, fx66]
    generalize hL : execC _ _ _ _ _ (Code.loop _) _ _ = q
    obtain ⟨e, T', σ', rfl, _, hx, hcase⟩ : ∃ e T' σ', q = some (e, T', σ') ∧ e ≠ .normal ∧ (Ext σ σ' ∧ ((e = .exit 0 ∧ ∀ x, x ∈ es → p x = false) ∨ (e = .ret ∧ T'.get 4 = some (.int .i64 (idxI p es))))) := by
      rw [← hL]
      refine exec_loop2 (fun i T σ' => i ≤ es.length ∧ T.get 0 = some (.slice r off es.length cap 2) ∧ T.get 1 = some (.func g [] caps) ∧ T.get 7 = some (.int .i64 es.length) ∧ T.get 8 = some (.int .i64 i) ∧ Ext σ σ' ∧ ∀ x, x ∈ es.take i → p x = false) es.length (by omega) ?_ ?_ ?_
      · rintro i hi T σ' ⟨_, t0, t1, t7, t8, hx, hall⟩
        have hlt : (i : Int) < es.length := by omega
        obtain ⟨hle, hel⟩ := hcell i hi
        have hgr : σ'.get r = some (.row 2 true cells) := (hx.2 r hrn).trans hr
        obtain ⟨σ'', hc1, hc2⟩ := hf _ (List.getElem_mem hi) σ' hx
        have hw := i64_succ (i := i) (by omega)
        cases hp : p es[i] with
        | false =>
          left
          rw [hp] at hc1
          cases caps with
          | cons c cs =>
            refine ⟨_, _, by
              simp only [runOps, runD, again, step1, wantA, opSem, evalO, evalL, evalOpt, evalParts, putA, ofConst, ofScalar, ofScalars, abin, abinInt, aun, convA, builtinA, oneTy, elemTy, loadA, storeA, storeCellsA, setAt, partA, fillA, placesA, isFn, TyI.isAgg, isSeq, isNum, sliceA, boundA, setParams, minL, minF, maxL, maxF, repZ, reduceIte, Nat.reduceLT, Nat.reduceLeDiff, Nat.reduceEqDiff, Nat.reduceAdd, Nat.reduceMul, Nat.reduceSub, Nat.reduceBEq, Int.reduceEq, Int.reduceLT, Int.reduceLE, Int.reduceToNat, reduceCtorEq, sx, fx66, t0, t1, t7, t8, hlt, Int.natCast_nonneg, Int.toNat_natCast, hgr, hle, hel, hc1, hw]
              rfl, hi, ?_, ?_, ?_, ?_, hx.trans hc2, take_all hi hall hp⟩
            all_goals simp only [Tr.get_set, Nat.reduceEqDiff, reduceIte, t0, t1, t7]
          | nil =>
            have hv := hfn rfl
            refine ⟨_, _, by
              simp only [runOps, runD, again, step1, wantA, opSem, evalO, evalL, evalOpt, evalParts, putA, ofConst, ofScalar, ofScalars, abin, abinInt, aun, convA, builtinA, oneTy, elemTy, loadA, storeA, storeCellsA, setAt, partA, fillA, placesA, isFn, TyI.isAgg, isSeq, isNum, sliceA, boundA, setParams, minL, minF, maxL, maxF, repZ, reduceIte, Nat.reduceLT, Nat.reduceLeDiff, Nat.reduceEqDiff, Nat.reduceAdd, Nat.reduceMul, Nat.reduceSub, Nat.reduceBEq, Int.reduceEq, Int.reduceLT, Int.reduceLE, Int.reduceToNat, reduceCtorEq, sx, fx66, t0, t1, t7, t8, hlt, Int.natCast_nonneg, Int.toNat_natCast, hgr, hle, hel, hv, hc1, hw]
              rfl, hi, ?_, ?_, ?_, ?_, hx.trans hc2, take_all hi hall hp⟩
            all_goals simp only [Tr.get_set, Nat.reduceEqDiff, reduceIte, t0, t1, t7]
        | true =>
          right
          rw [hp] at hc1
          have hidx := idxI_at hi hall hp
          cases caps with
          | cons c cs =>
            refine ⟨.ret, _, _, by
              simp only [runOps, runD, again, step1, wantA, opSem, evalO, evalL, evalOpt, evalParts, putA, ofConst, ofScalar, ofScalars, abin, abinInt, aun, convA, builtinA, oneTy, elemTy, loadA, storeA, storeCellsA, setAt, partA, fillA, placesA, isFn, TyI.isAgg, isSeq, isNum, sliceA, boundA, setParams, minL, minF, maxL, maxF, repZ, reduceIte, Nat.reduceLT, Nat.reduceLeDiff, Nat.reduceEqDiff, Nat.reduceAdd, Nat.reduceMul, Nat.reduceSub, Nat.reduceBEq, Int.reduceEq, Int.reduceLT, Int.reduceLE, Int.reduceToNat, reduceCtorEq, sx, fx66, t0, t1, t7, t8, hlt, Int.natCast_nonneg, Int.toNat_natCast, hgr, hle, hel, hc1, hw]
              rfl, by simp, hx.trans hc2, .inr ⟨rfl, ?_⟩⟩
            simp only [Tr.get_set, Nat.reduceEqDiff, reduceIte, hidx]
          | nil =>
            have hv := hfn rfl
            refine ⟨.ret, _, _, by
              simp only [runOps, runD, again, step1, wantA, opSem, evalO, evalL, evalOpt, evalParts, putA, ofConst, ofScalar, ofScalars, abin, abinInt, aun, convA, builtinA, oneTy, elemTy, loadA, storeA, storeCellsA, setAt, partA, fillA, placesA, isFn, TyI.isAgg, isSeq, isNum, sliceA, boundA, setParams, minL, minF, maxL, maxF, repZ, reduceIte, Nat.reduceLT, Nat.reduceLeDiff, Nat.reduceEqDiff, Nat.reduceAdd, Nat.reduceMul, Nat.reduceSub, Nat.reduceBEq, Int.reduceEq, Int.reduceLT, Int.reduceLE, Int.reduceToNat, reduceCtorEq, sx, fx66, t0, t1, t7, t8, hlt, Int.natCast_nonneg, Int.toNat_natCast, hgr, hle, hel, hv, hc1, hw]
              rfl, by simp, hx.trans hc2, .inr ⟨rfl, ?_⟩⟩
            simp only [Tr.get_set, Nat.reduceEqDiff, reduceIte, hidx]
      · rintro T σ' ⟨_, t0, t1, t7, t8, hx, hall⟩
        rw [List.take_length] at hall
        exact ⟨_, _, _, by
          simp only [runOps, runD, again, step1, wantA, opSem, evalO, evalL, evalOpt, evalParts, putA, ofConst, ofScalar, ofScalars, abin, abinInt, aun, convA, builtinA, oneTy, elemTy, loadA, storeA, storeCellsA, setAt, partA, fillA, placesA, isFn, TyI.isAgg, isSeq, isNum, sliceA, boundA, setParams, minL, minF, maxL, maxF, repZ, reduceIte, Nat.reduceLT, Nat.reduceLeDiff, Nat.reduceEqDiff, Nat.reduceAdd, Nat.reduceMul, Nat.reduceSub, Nat.reduceBEq, Int.reduceEq, Int.reduceLT, Int.reduceLE, Int.reduceToNat, reduceCtorEq, sx, fx66, t0, t1, t7, t8, Int.lt_irrefl]
          rfl, by simp, hx, .inl ⟨rfl, hall⟩⟩
      · refine ⟨Nat.zero_le _, ?_, ?_, ?_, ?_, Ext.refl _, by simp⟩
        all_goals simp only [Tr.get_set, Nat.reduceEqDiff, reduceIte]
        all_goals rfl
    rcases hcase with ⟨rfl, hall⟩ | ⟨rfl, hT⟩
    · simp only [runOps, runD, again, step1, wantA, opSem, evalO, evalL, evalOpt, evalParts, putA, ofConst, ofScalar, ofScalars, abin, abinInt, aun, convA, builtinA, oneTy, elemTy, loadA, storeA, storeCellsA, setAt, partA, fillA, placesA, isFn, TyI.isAgg, isSeq, isNum, sliceA, boundA, setParams, minL, minF, maxL, maxF, repZ, reduceIte, Nat.reduceLT, Nat.reduceLeDiff, Nat.reduceEqDiff, Nat.reduceAdd, Nat.reduceMul, Nat.reduceSub, Nat.reduceBEq, Int.reduceEq, Int.reduceLT, Int.reduceLE, Int.reduceToNat, reduceCtorEq, sx, fx66]
      exact ⟨_, _, rfl, by simp only [Tr.get_set, Nat.reduceEqDiff, reduceIte, idxI_none hall], hx⟩
    · simp only [runOps, runD, again, step1, wantA, opSem, evalO, evalL, evalOpt, evalParts, putA, ofConst, ofScalar, ofScalars, abin, abinInt, aun, convA, builtinA, oneTy, elemTy, loadA, storeA, storeCellsA, setAt, partA, fillA, placesA, isFn, TyI.isAgg, isSeq, isNum, sliceA, boundA, setParams, minL, minF, maxL, maxF, repZ, reduceIte, Nat.reduceLT, Nat.reduceLeDiff, Nat.reduceEqDiff, Nat.reduceAdd, Nat.reduceMul, Nat.reduceSub, Nat.reduceBEq, Int.reduceEq, Int.reduceLT, Int.reduceLE, Int.reduceToNat, reduceCtorEq, sx, fx66]
      exact ⟨_, _, rfl, hT, hx⟩
  obtain ⟨T1, σ1, h1, h2, h3⟩ := run
  exact ⟨σ1, q_call (first := []) (caps := []) fn66 rfl (by simp [Tryz.f66]) h1 (by simp) (res_one h2), h3⟩

theorem sheaf_has_m {r off n : Nat} {cap : Option Nat} {cells : List AVal} (es : List AVal) (hn : n = es.length) (hr : σ.get r = some (.row 2 true cells)) (hrn : r < σ.next) (hcell : ∀ i (h : i < es.length), off + i * 2 + 2 ≤ cells.length ∧ .agg ((cells.drop (off + i * 2)).take 2) = es[i]) (g : Nat) (caps : List AVal) (p : AVal → Bool) (hlen : es.length ≤ 100000) (hfn : caps = [] → lawProg.isVal 66 g = false) (hf : ∀ e, e ∈ es → ∀ σ', Ext σ σ' → ∃ σ'', callN lawProg k (.func g [] caps) [e] σ' = some (.bool (p e), σ'') ∧ Ext σ' σ'') (hk : es.length + 1 ≤ k) :
    ∃ σ', callN lawProg (k + 2) (.func 39 [] []) [.slice r off n cap 2, .func g [] caps] σ = some (.bool (es.any p), σ') ∧ Ext σ σ' := by
  obtain ⟨σ', hc, hx⟩ := sheaf_m (cap := cap) es hn hr hrn hcell g caps p hlen hfn hf hk
  have e : ∃ T1, execC lawProg (callN lawProg (k + 1)) (k + 1) 39 9 (bodyOf Tryz.f39) (initT 0 [.slice r off n cap 2, .func g [] caps] .nil) σ = some (.ret, T1, σ') ∧ T1.get 4 = some (.bool (decide (idxI p es ≥ 0))) := by
    simp only [bodyOf, Tryz.f39, Option.getD_some, initT, runOps, runD, again, step1, wantA, opSem, evalO, evalL, evalOpt, evalParts, putA, ofConst, ofScalar, ofScalars, abin, abinInt, aun, convA, builtinA, oneTy, elemTy, loadA, storeA, storeCellsA, setAt, partA, fillA, placesA, isFn, TyI.isAgg, isSeq, isNum, sliceA, boundA, setParams, minL, minF, maxL, maxF, repZ, reduceIte, Nat.reduceLT, Nat.reduceLeDiff, Nat.reduceEqDiff, Nat.reduceAdd, Nat.reduceMul, Nat.reduceSub, Nat.reduceBEq, Int.reduceEq, Int.reduceLT, Int.reduceLE, Int.reduceToNat, reduceCtorEq, sx, fx39, hc]
    exact ⟨_, rfl, by simp only [Tr.get_set, Nat.reduceEqDiff, reduceIte]⟩
  obtain ⟨T1, e1, e2⟩ := e
  rw [idxI_any] at e2
  exact ⟨σ', q_call (first := []) (caps := []) fn39 rfl (by simp [Tryz.f39]) e1 (by simp) (res_one e2), hx⟩

theorem part_v (vk : VK) (es : List AVal) (g : Nat) (caps : List AVal) (p : AVal → Bool) (hc : ∀ e, e ∈ es → ∃ vk es, e = .vs vk es) (hlen : es.length ≤ 100000) (hfn : caps = [] → lawProg.isVal 68 g = false) (hf : ∀ e, e ∈ es → ∀ σ', Ext σ σ' → ∃ σ'', callN lawProg k (.func g [] caps) [e] σ' = some (.bool (p e), σ'') ∧ Ext σ' σ'') (hk : es.length + 1 ≤ k) :
    ∃ σ', callN lawProg (k + 1) (.func 68 [] []) [.vs vk es, .func g [] caps] σ = some (.int .i64 (idxI p es), σ') ∧ Ext σ σ' := by
  have run : ∃ T1 σ1, execC lawProg (callN lawProg k) k 68 19 (bodyOf Tryz.f68) (initT 0 [.vs vk es, .func g [] caps] .nil) σ = some (.ret, T1, σ1) ∧ T1.get 4 = some (.int .i64 (idxI p es)) ∧ Ext σ σ1 := by
    simp only [bodyOf, Tryz.f68, Option.getD_some, initT, runOps, runD, again, step1, wantA, opSem, evalO, evalL, evalOpt, evalParts, putA, ofConst, ofScalar, ofScalars, abin, abinInt, aun, convA, builtinA, oneTy, elemTy, loadA, storeA, storeCellsA, setAt, partA, fillA, placesA, isFn, TyI.isAgg, isSeq, isNum, sliceA, boundA, setParams, minL, minF, maxL, maxF, repZ, reduceIte, Nat.reduceLT, Nat.reduceLeDiff, Nat.reduceEqDiff, Nat.reduceAdd, Nat.reduceMul, Nat.reduceSub, Nat.reduceBEq, Int.reduceEq, Int.reduceLT, Int.reduceLE, Int.reduceToNat, reduceCtorEq, sx, fx68]
    generalize hL : execC _ _ _ _ _ (Code.loop _) _ _ = q
    obtain ⟨e, T', σ', rfl, _, hx, hcase⟩ : ∃ e T' σ', q = some (e, T', σ') ∧ e ≠ .normal ∧ (Ext σ σ' ∧ ((e = .exit 0 ∧ ∀ x, x ∈ es → p x = false) ∨ (e = .ret ∧ T'.get 4 = some (.int .i64 (idxI p es))))) := by
      rw [← hL]
      refine exec_loop2 (fun i T σ' => i ≤ es.length ∧ T.get 0 = some (.vs vk es) ∧ T.get 1 = some (.func g [] caps) ∧ T.get 7 = some (.int .i64 es.length) ∧ T.get 8 = some (.int .i64 i) ∧ Ext σ σ' ∧ ∀ x, x ∈ es.take i → p x = false) es.length (by omega) ?_ ?_ ?_
      · rintro i hi T σ' ⟨_, t0, t1, t7, t8, hx, hall⟩
        have hlt : (i : Int) < es.length := by omega
        obtain ⟨vk', es', hci⟩ := hc _ (List.getElem_mem hi)
        have hgi : es[i]? = some (.vs vk' es') := by rw [List.getElem?_eq_getElem hi, hci]
        obtain ⟨σ'', hc1, hc2⟩ := hf _ (List.getElem_mem hi) σ' hx
        have hw := i64_succ (i := i) (by omega)
        cases hp : p es[i] with
        | false =>
          left
          rw [hp] at hc1
          rw [hci] at hc1
          cases caps with
          | cons c cs =>
            refine ⟨_, _, by
              simp only [runOps, runD, again, step1, wantA, opSem, evalO, evalL, evalOpt, evalParts, putA, ofConst, ofScalar, ofScalars, abin, abinInt, aun, convA, builtinA, oneTy, elemTy, loadA, storeA, storeCellsA, setAt, partA, fillA, placesA, isFn, TyI.isAgg, isSeq, isNum, sliceA, boundA, setParams, minL, minF, maxL, maxF, repZ, reduceIte, Nat.reduceLT, Nat.reduceLeDiff, Nat.reduceEqDiff, Nat.reduceAdd, Nat.reduceMul, Nat.reduceSub, Nat.reduceBEq, Int.reduceEq, Int.reduceLT, Int.reduceLE, Int.reduceToNat, reduceCtorEq, sx, fx68, t0, t1, t7, t8, hlt, Int.natCast_nonneg, Int.toNat_natCast, hgi, hc1, hw]
              rfl, hi, ?_, ?_, ?_, ?_, hx.trans hc2, take_all hi hall hp⟩
            all_goals simp only [Tr.get_set, Nat.reduceEqDiff, reduceIte, t0, t1, t7]
          | nil =>
            have hv := hfn rfl
            refine ⟨_, _, by
              simp only [runOps, runD, again, step1, wantA, opSem, evalO, evalL, evalOpt, evalParts, putA, ofConst, ofScalar, ofScalars, abin, abinInt, aun, convA, builtinA, oneTy, elemTy, loadA, storeA, storeCellsA, setAt, partA, fillA, placesA, isFn, TyI.isAgg, isSeq, isNum, sliceA, boundA, setParams, minL, minF, maxL, maxF, repZ, reduceIte, Nat.reduceLT, Nat.reduceLeDiff, Nat.reduceEqDiff, Nat.reduceAdd, Nat.reduceMul, Nat.reduceSub, Nat.reduceBEq, Int.reduceEq, Int.reduceLT, Int.reduceLE, Int.reduceToNat, reduceCtorEq, sx, fx68, t0, t1, t7, t8, hlt, Int.natCast_nonneg, Int.toNat_natCast, hgi, hv, hc1, hw]
              rfl, hi, ?_, ?_, ?_, ?_, hx.trans hc2, take_all hi hall hp⟩
            all_goals simp only [Tr.get_set, Nat.reduceEqDiff, reduceIte, t0, t1, t7]
        | true =>
          right
          rw [hp] at hc1
          rw [hci] at hc1
          have hidx := idxI_at hi hall hp
          cases caps with
          | cons c cs =>
            refine ⟨.ret, _, _, by
              simp only [runOps, runD, again, step1, wantA, opSem, evalO, evalL, evalOpt, evalParts, putA, ofConst, ofScalar, ofScalars, abin, abinInt, aun, convA, builtinA, oneTy, elemTy, loadA, storeA, storeCellsA, setAt, partA, fillA, placesA, isFn, TyI.isAgg, isSeq, isNum, sliceA, boundA, setParams, minL, minF, maxL, maxF, repZ, reduceIte, Nat.reduceLT, Nat.reduceLeDiff, Nat.reduceEqDiff, Nat.reduceAdd, Nat.reduceMul, Nat.reduceSub, Nat.reduceBEq, Int.reduceEq, Int.reduceLT, Int.reduceLE, Int.reduceToNat, reduceCtorEq, sx, fx68, t0, t1, t7, t8, hlt, Int.natCast_nonneg, Int.toNat_natCast, hgi, hc1, hw]
              rfl, by simp, hx.trans hc2, .inr ⟨rfl, ?_⟩⟩
            simp only [Tr.get_set, Nat.reduceEqDiff, reduceIte, hidx]
          | nil =>
            have hv := hfn rfl
            refine ⟨.ret, _, _, by
              simp only [runOps, runD, again, step1, wantA, opSem, evalO, evalL, evalOpt, evalParts, putA, ofConst, ofScalar, ofScalars, abin, abinInt, aun, convA, builtinA, oneTy, elemTy, loadA, storeA, storeCellsA, setAt, partA, fillA, placesA, isFn, TyI.isAgg, isSeq, isNum, sliceA, boundA, setParams, minL, minF, maxL, maxF, repZ, reduceIte, Nat.reduceLT, Nat.reduceLeDiff, Nat.reduceEqDiff, Nat.reduceAdd, Nat.reduceMul, Nat.reduceSub, Nat.reduceBEq, Int.reduceEq, Int.reduceLT, Int.reduceLE, Int.reduceToNat, reduceCtorEq, sx, fx68, t0, t1, t7, t8, hlt, Int.natCast_nonneg, Int.toNat_natCast, hgi, hv, hc1, hw]
              rfl, by simp, hx.trans hc2, .inr ⟨rfl, ?_⟩⟩
            simp only [Tr.get_set, Nat.reduceEqDiff, reduceIte, hidx]
      · rintro T σ' ⟨_, t0, t1, t7, t8, hx, hall⟩
        rw [List.take_length] at hall
        exact ⟨_, _, _, by
          simp only [runOps, runD, again, step1, wantA, opSem, evalO, evalL, evalOpt, evalParts, putA, ofConst, ofScalar, ofScalars, abin, abinInt, aun, convA, builtinA, oneTy, elemTy, loadA, storeA, storeCellsA, setAt, partA, fillA, placesA, isFn, TyI.isAgg, isSeq, isNum, sliceA, boundA, setParams, minL, minF, maxL, maxF, repZ, reduceIte, Nat.reduceLT, Nat.reduceLeDiff, Nat.reduceEqDiff, Nat.reduceAdd, Nat.reduceMul, Nat.reduceSub, Nat.reduceBEq, Int.reduceEq, Int.reduceLT, Int.reduceLE, Int.reduceToNat, reduceCtorEq, sx, fx68, t0, t1, t7, t8, Int.lt_irrefl]
          rfl, by simp, hx, .inl ⟨rfl, hall⟩⟩
      · refine ⟨Nat.zero_le _, ?_, ?_, ?_, ?_, Ext.refl _, by simp⟩
        all_goals simp only [Tr.get_set, Nat.reduceEqDiff, reduceIte]
        all_goals rfl
    rcases hcase with ⟨rfl, hall⟩ | ⟨rfl, hT⟩
    · simp only [runOps, runD, again, step1, wantA, opSem, evalO, evalL, evalOpt, evalParts, putA, ofConst, ofScalar, ofScalars, abin, abinInt, aun, convA, builtinA, oneTy, elemTy, loadA, storeA, storeCellsA, setAt, partA, fillA, placesA, isFn, TyI.isAgg, isSeq, isNum, sliceA, boundA, setParams, minL, minF, maxL, maxF, repZ, reduceIte, Nat.reduceLT, Nat.reduceLeDiff, Nat.reduceEqDiff, Nat.reduceAdd, Nat.reduceMul, Nat.reduceSub, Nat.reduceBEq, Int.reduceEq, Int.reduceLT, Int.reduceLE, Int.reduceToNat, reduceCtorEq, sx, fx68]
      exact ⟨_, _, rfl, by simp only [Tr.get_set, Nat.reduceEqDiff, reduceIte, idxI_none hall], hx⟩
    · simp only [runOps, runD, again, step1, wantA, opSem, evalO, evalL, evalOpt, evalParts, putA, ofConst, ofScalar, ofScalars, abin, abinInt, aun, convA, builtinA, oneTy, elemTy, loadA, storeA, storeCellsA, setAt, partA, fillA, placesA, isFn, TyI.isAgg, isSeq, isNum, sliceA, boundA, setParams, minL, minF, maxL, maxF, repZ, reduceIte, Nat.reduceLT, Nat.reduceLeDiff, Nat.reduceEqDiff, Nat.reduceAdd, Nat.reduceMul, Nat.reduceSub, Nat.reduceBEq, Int.reduceEq, Int.reduceLT, Int.reduceLE, Int.reduceToNat, reduceCtorEq, sx, fx68]
      exact ⟨_, _, rfl, hT, hx⟩
  obtain ⟨T1, σ1, h1, h2, h3⟩ := run
  exact ⟨σ1, q_call (first := []) (caps := []) fn68 rfl (by simp [Tryz.f68]) h1 (by simp) (res_one h2), h3⟩

theorem part_has_v (vk : VK) (es : List AVal) (g : Nat) (caps : List AVal) (p : AVal → Bool) (hc : ∀ e, e ∈ es → ∃ vk es, e = .vs vk es) (hlen : es.length ≤ 100000) (hfn : caps = [] → lawProg.isVal 68 g = false) (hf : ∀ e, e ∈ es → ∀ σ', Ext σ σ' → ∃ σ'', callN lawProg k (.func g [] caps) [e] σ' = some (.bool (p e), σ'') ∧ Ext σ' σ'') (hk : es.length + 1 ≤ k) :
    ∃ σ', callN lawProg (k + 2) (.func 32 [] []) [.vs vk es, .func g [] caps] σ = some (.bool (es.any p), σ') ∧ Ext σ σ' := by
  obtain ⟨σ', hc, hx⟩ := part_v vk es g caps p hc hlen hfn hf hk
  have e : ∃ T1, execC lawProg (callN lawProg (k + 1)) (k + 1) 32 9 (bodyOf Tryz.f32) (initT 0 [.vs vk es, .func g [] caps] .nil) σ = some (.ret, T1, σ') ∧ T1.get 4 = some (.bool (decide (idxI p es ≥ 0))) := by
    simp only [bodyOf, Tryz.f32, Option.getD_some, initT, runOps, runD, again, step1, wantA, opSem, evalO, evalL, evalOpt, evalParts, putA, ofConst, ofScalar, ofScalars, abin, abinInt, aun, convA, builtinA, oneTy, elemTy, loadA, storeA, storeCellsA, setAt, partA, fillA, placesA, isFn, TyI.isAgg, isSeq, isNum, sliceA, boundA, setParams, minL, minF, maxL, maxF, repZ, reduceIte, Nat.reduceLT, Nat.reduceLeDiff, Nat.reduceEqDiff, Nat.reduceAdd, Nat.reduceMul, Nat.reduceSub, Nat.reduceBEq, Int.reduceEq, Int.reduceLT, Int.reduceLE, Int.reduceToNat, reduceCtorEq, sx, fx32, hc]
    exact ⟨_, rfl, by simp only [Tr.get_set, Nat.reduceEqDiff, reduceIte]⟩
  obtain ⟨T1, e1, e2⟩ := e
  rw [idxI_any] at e2
  exact ⟨σ', q_call (first := []) (caps := []) fn32 rfl (by simp [Tryz.f32]) e1 (by simp) (res_one e2), hx⟩

theorem part_m {r off n : Nat} {cap : Option Nat} {cells : List AVal} (es : List AVal) (hn : n = es.length) (hr : σ.get r = some (.row 1 false cells)) (hrn : r < σ.next) (hcell : ∀ i (h : i < es.length), cells[off + i]? = some es[i]) (g : Nat) (caps : List AVal) (p : AVal → Bool) (hlen : es.length ≤ 100000) (hfn : caps = [] → lawProg.isVal 68 g = false) (hf : ∀ e, e ∈ es → ∀ σ', Ext σ σ' → ∃ σ'', callN lawProg k (.func g [] caps) [e] σ' = some (.bool (p e), σ'') ∧ Ext σ' σ'') (hk : es.length + 1 ≤ k) :
    ∃ σ', callN lawProg (k + 1) (.func 68 [] []) [.slice r off n cap 1, .func g [] caps] σ = some (.int .i64 (idxI p es), σ') ∧ Ext σ σ' := by
  subst hn
  have run : ∃ T1 σ1, execC lawProg (callN lawProg k) k 68 19 (bodyOf Tryz.f68) (initT 0 [.slice r off es.length cap 1, .func g [] caps] .nil) σ = some (.ret, T1, σ1) ∧ T1.get 4 = some (.int .i64 (idxI p es)) ∧ Ext σ σ1 := by
    simp only [bodyOf, Tryz.f68, Option.getD_some, initT, runOps, runD, again, step1, wantA, opSem, evalO, evalL, evalOpt, evalParts, putA, ofConst, ofScalar, ofScalars, abin, abinInt, aun, convA, builtinA, oneTy, elemTy, loadA, storeA, storeCellsA, setAt, partA, fillA, placesA, isFn, TyI.isAgg, isSeq, isNum, sliceA, boundA, setParams, minL, minF, maxL, maxF, repZ, reduceIte, Nat.reduceLT, Nat.reduceLeDiff, Nat.reduceEqDiff, Nat.reduceAdd, Nat.reduceMul, Nat.reduceSub, Nat.reduceBEq, Int.reduceEq, Int.reduceLT, Int.reduceLE, Int.reduceToNat, reduceCtorEq, sx, fx68]
    generalize hL : execC _ _ _ _ _ (Code.loop _) _ _ = q
    obtain ⟨e, T', σ', rfl, _, hx, hcase⟩ : ∃ e T' σ', q = some (e, T', σ') ∧ e ≠ .normal ∧ (Ext σ σ' ∧ ((e = .exit 0 ∧ ∀ x, x ∈ es → p x = false) ∨ (e = .ret ∧ T'.get 4 = some (.int .i64 (idxI p es))))) := by
      rw [← hL]
      refine exec_loop2 (fun i T σ' => i ≤ es.length ∧ T.get 0 = some (.slice r off es.length cap 1) ∧ T.get 1 = some (.func g [] caps) ∧ T.get 7 = some (.int .i64 es.length) ∧ T.get 8 = some (.int .i64 i) ∧ Ext σ σ' ∧ ∀ x, x ∈ es.take i → p x = false) es.length (by omega) ?_ ?_ ?_
      · rintro i hi T σ' ⟨_, t0, t1, t7, t8, hx, hall⟩
        have hlt : (i : Int) < es.length := by omega
        have hel := hcell i hi
        have hgr : σ'.get r = some (.row 1 false cells) := (hx.2 r hrn).trans hr
        obtain ⟨σ'', hc1, hc2⟩ := hf _ (List.getElem_mem hi) σ' hx
        have hw := i64_succ (i := i) (by omega)
        cases hp : p es[i] with
        | false =>
          left
          rw [hp] at hc1
          cases caps with
          | cons c cs =>
            refine ⟨_, _, by
              simp only [runOps, runD, again, step1, wantA, opSem, evalO, evalL, evalOpt, evalParts, putA, ofConst, ofScalar, ofScalars, abin, abinInt, aun, convA, builtinA, oneTy, elemTy, loadA, storeA, storeCellsA, setAt, partA, fillA, placesA, isFn, TyI.isAgg, isSeq, isNum, sliceA, boundA, setParams, minL, minF, maxL, maxF, repZ, reduceIte, Nat.reduceLT, Nat.reduceLeDiff, Nat.reduceEqDiff, Nat.reduceAdd, Nat.reduceMul, Nat.reduceSub, Nat.reduceBEq, Int.reduceEq, Int.reduceLT, Int.reduceLE, Int.reduceToNat, reduceCtorEq, sx, fx68, t0, t1, t7, t8, hlt, Int.natCast_nonneg, Int.toNat_natCast, hgr, hel, hc1, hw]
              rfl, hi, ?_, ?_, ?_, ?_, hx.trans hc2, take_all hi hall hp⟩
            all_goals simp only [Tr.get_set, Nat.reduceEqDiff, reduceIte, t0, t1, t7]
          | nil =>
            have hv := hfn rfl
            refine ⟨_, _, by
              simp only [runOps, runD, again, step1, wantA, opSem, evalO, evalL, evalOpt, evalParts, putA, ofConst, ofScalar, ofScalars, abin, abinInt, aun, convA, builtinA, oneTy, elemTy, loadA, storeA, storeCellsA, setAt, partA, fillA, placesA, isFn, TyI.isAgg, isSeq, isNum, sliceA, boundA, setParams, minL, minF, maxL, maxF, repZ, reduceIte, Nat.reduceLT, Nat.reduceLeDiff, Nat.reduceEqDiff, Nat.reduceAdd, Nat.reduceMul, Nat.reduceSub, Nat.reduceBEq, Int.reduceEq, Int.reduceLT, Int.reduceLE, Int.reduceToNat, reduceCtorEq, sx, fx68, t0, t1, t7, t8, hlt, Int.natCast_nonneg, Int.toNat_natCast, hgr, hel, hv, hc1, hw]
              rfl, hi, ?_, ?_, ?_, ?_, hx.trans hc2, take_all hi hall hp⟩
            all_goals simp only [Tr.get_set, Nat.reduceEqDiff, reduceIte, t0, t1, t7]
        | true =>
          right
          rw [hp] at hc1
          have hidx := idxI_at hi hall hp
          cases caps with
          | cons c cs =>
            refine ⟨.ret, _, _, by
              simp only [runOps, runD, again, step1, wantA, opSem, evalO, evalL, evalOpt, evalParts, putA, ofConst, ofScalar, ofScalars, abin, abinInt, aun, convA, builtinA, oneTy, elemTy, loadA, storeA, storeCellsA, setAt, partA, fillA, placesA, isFn, TyI.isAgg, isSeq, isNum, sliceA, boundA, setParams, minL, minF, maxL, maxF, repZ, reduceIte, Nat.reduceLT, Nat.reduceLeDiff, Nat.reduceEqDiff, Nat.reduceAdd, Nat.reduceMul, Nat.reduceSub, Nat.reduceBEq, Int.reduceEq, Int.reduceLT, Int.reduceLE, Int.reduceToNat, reduceCtorEq, sx, fx68, t0, t1, t7, t8, hlt, Int.natCast_nonneg, Int.toNat_natCast, hgr, hel, hc1, hw]
              rfl, by simp, hx.trans hc2, .inr ⟨rfl, ?_⟩⟩
            simp only [Tr.get_set, Nat.reduceEqDiff, reduceIte, hidx]
          | nil =>
            have hv := hfn rfl
            refine ⟨.ret, _, _, by
              simp only [runOps, runD, again, step1, wantA, opSem, evalO, evalL, evalOpt, evalParts, putA, ofConst, ofScalar, ofScalars, abin, abinInt, aun, convA, builtinA, oneTy, elemTy, loadA, storeA, storeCellsA, setAt, partA, fillA, placesA, isFn, TyI.isAgg, isSeq, isNum, sliceA, boundA, setParams, minL, minF, maxL, maxF, repZ, reduceIte, Nat.reduceLT, Nat.reduceLeDiff, Nat.reduceEqDiff, Nat.reduceAdd, Nat.reduceMul, Nat.reduceSub, Nat.reduceBEq, Int.reduceEq, Int.reduceLT, Int.reduceLE, Int.reduceToNat, reduceCtorEq, sx, fx68, t0, t1, t7, t8, hlt, Int.natCast_nonneg, Int.toNat_natCast, hgr, hel, hv, hc1, hw]
              rfl, by simp, hx.trans hc2, .inr ⟨rfl, ?_⟩⟩
            simp only [Tr.get_set, Nat.reduceEqDiff, reduceIte, hidx]
      · rintro T σ' ⟨_, t0, t1, t7, t8, hx, hall⟩
        rw [List.take_length] at hall
        exact ⟨_, _, _, by
          simp only [runOps, runD, again, step1, wantA, opSem, evalO, evalL, evalOpt, evalParts, putA, ofConst, ofScalar, ofScalars, abin, abinInt, aun, convA, builtinA, oneTy, elemTy, loadA, storeA, storeCellsA, setAt, partA, fillA, placesA, isFn, TyI.isAgg, isSeq, isNum, sliceA, boundA, setParams, minL, minF, maxL, maxF, repZ, reduceIte, Nat.reduceLT, Nat.reduceLeDiff, Nat.reduceEqDiff, Nat.reduceAdd, Nat.reduceMul, Nat.reduceSub, Nat.reduceBEq, Int.reduceEq, Int.reduceLT, Int.reduceLE, Int.reduceToNat, reduceCtorEq, sx, fx68, t0, t1, t7, t8, Int.lt_irrefl]
          rfl, by simp, hx, .inl ⟨rfl, hall⟩⟩
      · refine ⟨Nat.zero_le _, ?_, ?_, ?_, ?_, Ext.refl _, by simp⟩
        all_goals simp only [Tr.get_set, Nat.reduceEqDiff, reduceIte]
        all_goals rfl
    rcases hcase with ⟨rfl, hall⟩ | ⟨rfl, hT⟩
    · simp only [runOps, runD, again, step1, wantA, opSem, evalO, evalL, evalOpt, evalParts, putA, ofConst, ofScalar, ofScalars, abin, abinInt, aun, convA, builtinA, oneTy, elemTy, loadA, storeA, storeCellsA, setAt, partA, fillA, placesA, isFn, TyI.isAgg, isSeq, isNum, sliceA, boundA, setParams, minL, minF, maxL, maxF, repZ, reduceIte, Nat.reduceLT, Nat.reduceLeDiff, Nat.reduceEqDiff, Nat.reduceAdd, Nat.reduceMul, Nat.reduceSub, Nat.reduceBEq, Int.reduceEq, Int.reduceLT, Int.reduceLE, Int.reduceToNat, reduceCtorEq, sx, fx68]
      exact ⟨_, _, rfl, by simp only [Tr.get_set, Nat.reduceEqDiff, reduceIte, idxI_none hall], hx⟩
    · simp only [runOps, runD, again, step1, wantA, opSem, evalO, evalL, evalOpt, evalParts, putA, ofConst, ofScalar, ofScalars, abin, abinInt, aun, convA, builtinA, oneTy, elemTy, loadA, storeA, storeCellsA, setAt, partA, fillA, placesA, isFn, TyI.isAgg, isSeq, isNum, sliceA, boundA, setParams, minL, minF, maxL, maxF, repZ, reduceIte, Nat.reduceLT, Nat.reduceLeDiff, Nat.reduceEqDiff, Nat.reduceAdd, Nat.reduceMul, Nat.reduceSub, Nat.reduceBEq, Int.reduceEq, Int.reduceLT, Int.reduceLE, Int.reduceToNat, reduceCtorEq, sx, fx68]
      exact ⟨_, _, rfl, hT, hx⟩
  obtain ⟨T1, σ1, h1, h2, h3⟩ := run
  exact ⟨σ1, q_call (first := []) (caps := []) fn68 rfl (by simp [Tryz.f68]) h1 (by simp) (res_one h2), h3⟩

theorem part_has_m {r off n : Nat} {cap : Option Nat} {cells : List AVal} (es : List AVal) (hn : n = es.length) (hr : σ.get r = some (.row 1 false cells)) (hrn : r < σ.next) (hcell : ∀ i (h : i < es.length), cells[off + i]? = some es[i]) (g : Nat) (caps : List AVal) (p : AVal → Bool) (hlen : es.length ≤ 100000) (hfn : caps = [] → lawProg.isVal 68 g = false) (hf : ∀ e, e ∈ es → ∀ σ', Ext σ σ' → ∃ σ'', callN lawProg k (.func g [] caps) [e] σ' = some (.bool (p e), σ'') ∧ Ext σ' σ'') (hk : es.length + 1 ≤ k) :
    ∃ σ', callN lawProg (k + 2) (.func 32 [] []) [.slice r off n cap 1, .func g [] caps] σ = some (.bool (es.any p), σ') ∧ Ext σ σ' := by
  obtain ⟨σ', hc, hx⟩ := part_m (cap := cap) es hn hr hrn hcell g caps p hlen hfn hf hk
  have e : ∃ T1, execC lawProg (callN lawProg (k + 1)) (k + 1) 32 9 (bodyOf Tryz.f32) (initT 0 [.slice r off n cap 1, .func g [] caps] .nil) σ = some (.ret, T1, σ') ∧ T1.get 4 = some (.bool (decide (idxI p es ≥ 0))) := by
    simp only [bodyOf, Tryz.f32, Option.getD_some, initT, runOps, runD, again, step1, wantA, opSem, evalO, evalL, evalOpt, evalParts, putA, ofConst, ofScalar, ofScalars, abin, abinInt, aun, convA, builtinA, oneTy, elemTy, loadA, storeA, storeCellsA, setAt, partA, fillA, placesA, isFn, TyI.isAgg, isSeq, isNum, sliceA, boundA, setParams, minL, minF, maxL, maxF, repZ, reduceIte, Nat.reduceLT, Nat.reduceLeDiff, Nat.reduceEqDiff, Nat.reduceAdd, Nat.reduceMul, Nat.reduceSub, Nat.reduceBEq, Int.reduceEq, Int.reduceLT, Int.reduceLE, Int.reduceToNat, reduceCtorEq, sx, fx32, hc]
    exact ⟨_, rfl, by simp only [Tr.get_set, Nat.reduceEqDiff, reduceIte]⟩
  obtain ⟨T1, e1, e2⟩ := e
  rw [idxI_any] at e2
  exact ⟨σ', q_call (first := []) (caps := []) fn32 rfl (by simp [Tryz.f32]) e1 (by simp) (res_one e2), hx⟩

end Go.Proofs.YtkamjhhodnmoiaaGreatDoor
