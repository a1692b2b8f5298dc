/- Sheaves and sorters: which are right, by the reference. -/
import Derived.Test.YtkamjhhodnmoiaaGreatDoorF2
set_option maxRecDepth 100000
set_option linter.unusedSimpArgs false
set_option linter.unusedVariables false
namespace Go.Proofs.YtkamjhhodnmoiaaGreatDoor
open Go Go.Proofs.YtkamjhhodnmoiaaGreatDoor.Pale
variable {k : Nat} {σ : AMem}

def emptyQ (p : Part) : Bool := decide (p.2.length = 0)
theorem part_get {l : List Part} {i : Nat} (hi : i < l.length) : (l.map partV)[i]? = some (.vs l[i].1 (bytesV l[i].2)) := by rw [List.getElem?_map, List.getElem?_eq_getElem hi]; rfl
theorem sh_get {l : List Sh} {i : Nat} (hi : i < l.length) : (l.map shV)[i]? = some (.agg [.int .i64 l[i].name, .vs l[i].dk (l[i].data.map partV)]) := by rw [List.getElem?_map, List.getElem?_eq_getElem hi]; rfl
theorem any_empty (l : List Part) : (l.map partV).any emptyP = l.any emptyQ := by
  rw [List.any_map]
  congr 1
  funext p
  exact emptyP_part p
theorem any_full (l : List Part) : (l.map partV).any fullP = l.any fun p => !emptyQ p := by
  rw [List.any_map]
  congr 1
  funext p
  show (!emptyP (partV p)) = _
  rw [emptyP_part]; rfl
theorem any_great (l : List Part) : (l.map partV).any greatP = l.any fun p => decide (p.2.length > 100) := by
  rw [List.any_map]
  congr 1
  funext p
  exact greatP_part p
theorem countP_any {α : Type} (p : α → Bool) (l : List α) : (l.any p = true ↔ 0 < l.countP p) ∧ ((l.any fun x => !p x) = true ↔ l.countP p < l.length) := by
  induction l with
  | nil => simp
  | cons x l ih =>
    have hle := List.countP_le_length (p := p) (l := l)
    simp only [List.any_cons, List.countP_cons, List.length_cons]
    cases hp : p x with
    | true =>
      simp only [Bool.true_or, if_true, Bool.not_true, Bool.false_or, ih.2]
      constructor
      · simp
      · constructor <;> intro h <;> omega
    | false =>
      simp only [Bool.false_or, Bool.false_eq_true, if_false, Bool.not_false, Bool.true_or, ih.1]
      constructor
      · simp
      · constructor
        · intro _; omega
        · intro _; trivial
theorem sheafB_eq (s : Sh) : sheafB s = true ↔ ((0 ≤ s.name ∧ s.name ≤ 65535) ∧ s.data.length ≤ 200 ∧ 0 < s.data.countP emptyQ ∧ s.data.countP emptyQ < s.data.length ∧ ∀ p, p ∈ s.data → p.2.length ≤ 100) := by
  unfold sheafB
  rw [any_empty, any_full, any_great]
  have h1 := (countP_any emptyQ s.data).1
  have h2 := (countP_any emptyQ s.data).2
  have h3 : (!s.data.any fun p => decide (p.2.length > 100)) = true ↔ ∀ p, p ∈ s.data → p.2.length ≤ 100 := by
    simp
  rw [Bool.and_eq_true, Bool.and_eq_true, Bool.and_eq_true, Bool.and_eq_true, h1, h2, h3, decide_eq_true_eq, decide_eq_true_eq]
  constructor
  · rintro ⟨⟨a, b, c, d⟩, e⟩; exact ⟨a, by omega, c, d, e⟩
  · rintro ⟨a, b, c, d, e⟩; exact ⟨⟨a, by omega, c, d⟩, e⟩

theorem rsheaf_call (s : Sh) (hl : s.data.length ≤ 1000) (hk : 2000 ≤ k) : pureCall lawProg (callN lawProg k) (.func 35 [] []) [.agg [.int .i64 s.name, .vs s.dk (s.data.map partV)]] σ = some (.bool (sheafB s), σ) := by
  obtain ⟨k, rfl⟩ : ∃ m, k = m + 1 := ⟨k - 1, by omega⟩
  have hin := fun (σ : AMem) (x y z : Int) => in_call (k := k) (σ := σ) x y z (by omega)
  have no : ∀ b : Bool, (¬ sheafB s = true) → b = false → b = sheafB s := fun b h e => by rw [e]; exact (by simpa using h : sheafB s = false).symm
  have run : ∃ T1 σ1 b, execC lawProg (callN lawProg k) k 35 48 (bodyOf Tryz.f35) (initT 0 [.agg [.int .i64 s.name, .vs s.dk (s.data.map partV)]] .nil) AMem.empty = some (.ret, T1, σ1) ∧ T1.get 2 = some (.bool b) ∧ b = sheafB s := by
    by_cases hA : 0 ≤ s.name ∧ s.name ≤ 65535
    · by_cases hB : (1 : Int) ≤ ((s.data.length : Nat) : Int) ∧ ((s.data.length : Nat) : Int) ≤ 200
      · simp only [bodyOf, Tryz.f35, Option.getD_some, initT, runOps, runD, again, step1, wantA, opSem, evalO, evalL, evalOpt, evalParts, putA, ofConst, ofScalar, ofScalars, abin, abinInt, aun, convA, builtinA, oneTy, elemTy, loadA, storeA, storeCellsA, setAt, partA, fillA, placesA, isFn, TyI.isAgg, isSeq, isNum, sliceA, boundA, setParams, minL, minF, maxL, maxF, repZ, reduceIte, Nat.reduceLT, Nat.reduceLeDiff, Nat.reduceEqDiff, Nat.reduceAdd, Nat.reduceMul, Nat.reduceSub, Nat.reduceBEq, Int.reduceEq, Int.reduceLT, Int.reduceLE, Int.reduceToNat, reduceCtorEq, sx, fx35, List.length_map, hin, hA, hB]
        generalize hL : execC _ _ _ _ _ (Code.loop _) _ _ = q
        obtain ⟨e, T', σ', rfl, _, hcase⟩ : ∃ e T' σ', q = some (e, T', σ') ∧ e ≠ .normal ∧ ((e = .exit 0 ∧ σ'.get 0 = some (.row 2 true [.int .i64 s.name, .vs s.dk (s.data.map partV)]) ∧ T'.get 1 = some (.ptr 0 0) ∧ T'.get 3 = some (.int .i64 (s.data.countP emptyQ : Nat)) ∧ ∀ p, p ∈ s.data → p.2.length ≤ 100) ∨ (e = .ret ∧ T'.get 2 = some (.bool false) ∧ ¬ ∀ p, p ∈ s.data → p.2.length ≤ 100)) := by
          rw [← hL]
          refine exec_loop2 (fun i T σ' => i ≤ s.data.length ∧ σ'.get 0 = some (.row 2 true [.int .i64 s.name, .vs s.dk (s.data.map partV)]) ∧ T.get 1 = some (.ptr 0 0) ∧ T.get 3 = some (.int .i64 ((s.data.take i).countP emptyQ : Nat)) ∧ T.get 4 = some (.int .i64 i) ∧ ∀ p, p ∈ s.data.take i → p.2.length ≤ 100) s.data.length (by omega) ?_ ?_ ?_
          · rintro i hi T σ' ⟨_, m0, t1, t3, t4, hall⟩
            have hlt : (i : Int) < s.data.length := by omega
            have hw := i64_succ (i := i) (by omega)
            have hcl := List.countP_le_length (p := emptyQ) (l := s.data.take i)
            rw [List.length_take] at hcl
            have hw2 := i64_succ (i := (s.data.take i).countP emptyQ) (by omega)
            by_cases hg : ((s.data[i].2.length : Nat) : Int) > 100
            · right
              refine ⟨.ret, _, _, by
                simp only [runOps, runD, again, step1, wantA, opSem, evalO, evalL, evalOpt, evalParts, putA, ofConst, ofScalar, ofScalars, abin, abinInt, aun, convA, builtinA, oneTy, elemTy, loadA, storeA, storeCellsA, setAt, partA, fillA, placesA, isFn, TyI.isAgg, isSeq, isNum, sliceA, boundA, setParams, minL, minF, maxL, maxF, repZ, reduceIte, Nat.reduceLT, Nat.reduceLeDiff, Nat.reduceEqDiff, Nat.reduceAdd, Nat.reduceMul, Nat.reduceSub, Nat.reduceBEq, Int.reduceEq, Int.reduceLT, Int.reduceLE, Int.reduceToNat, reduceCtorEq, sx, fx35, t1, t3, t4, m0, hlt, List.length_map, Int.natCast_nonneg, Int.toNat_natCast, part_get hi, bytesV_length, hg]
                rfl, by simp, .inr ⟨rfl, ?_, fun h => ?_⟩⟩
              · simp only [Tr.get_set, Nat.reduceEqDiff, reduceIte]
              · have := h _ (List.getElem_mem hi); omega
            · left
              have hle : s.data[i].2.length ≤ 100 := by omega
              have hct : (s.data.take (i + 1)).countP emptyQ = (s.data.take i).countP emptyQ + if emptyQ s.data[i] then 1 else 0 := by
                rw [List.take_succ_eq_append_getElem hi, List.countP_append, List.countP_singleton]
              by_cases h0 : s.data[i].2.length = 0
              · have hbq : (((s.data[i].2.length : Nat) : Int) == 0) = true := by rw [beq_iff_eq]; omega
                have he : emptyQ s.data[i] = true := by unfold emptyQ; simpa using h0
                refine ⟨_, _, by
                  simp only [runOps, runD, again, step1, wantA, opSem, evalO, evalL, evalOpt, evalParts, putA, ofConst, ofScalar, ofScalars, abin, abinInt, aun, convA, builtinA, oneTy, elemTy, loadA, storeA, storeCellsA, setAt, partA, fillA, placesA, isFn, TyI.isAgg, isSeq, isNum, sliceA, boundA, setParams, minL, minF, maxL, maxF, repZ, reduceIte, Nat.reduceLT, Nat.reduceLeDiff, Nat.reduceEqDiff, Nat.reduceAdd, Nat.reduceMul, Nat.reduceSub, Nat.reduceBEq, Int.reduceEq, Int.reduceLT, Int.reduceLE, Int.reduceToNat, reduceCtorEq, sx, fx35, t1, t3, t4, m0, hlt, List.length_map, Int.natCast_nonneg, Int.toNat_natCast, part_get hi, bytesV_length, hg, hbq, hw, hw2]
                  rfl, hi, m0, ?_, ?_, ?_, take_all hi hall hle⟩
                · simp only [Tr.get_set, Nat.reduceEqDiff, reduceIte, t1]
                · simp only [Tr.get_set, Nat.reduceEqDiff, reduceIte, hct, he, if_true]
                · simp only [Tr.get_set, Nat.reduceEqDiff, reduceIte]
              · have hbq : (((s.data[i].2.length : Nat) : Int) == 0) = false := by rw [beq_eq_false_iff_ne]; omega
                have he : emptyQ s.data[i] = false := by unfold emptyQ; simpa using h0
                refine ⟨_, _, by
                  simp only [runOps, runD, again, step1, wantA, opSem, evalO, evalL, evalOpt, evalParts, putA, ofConst, ofScalar, ofScalars, abin, abinInt, aun, convA, builtinA, oneTy, elemTy, loadA, storeA, storeCellsA, setAt, partA, fillA, placesA, isFn, TyI.isAgg, isSeq, isNum, sliceA, boundA, setParams, minL, minF, maxL, maxF, repZ, reduceIte, Nat.reduceLT, Nat.reduceLeDiff, Nat.reduceEqDiff, Nat.reduceAdd, Nat.reduceMul, Nat.reduceSub, Nat.reduceBEq, Int.reduceEq, Int.reduceLT, Int.reduceLE, Int.reduceToNat, reduceCtorEq, sx, fx35, t1, t3, t4, m0, hlt, List.length_map, Int.natCast_nonneg, Int.toNat_natCast, part_get hi, bytesV_length, hg, hbq, hw, hw2]
                  rfl, hi, m0, ?_, ?_, ?_, take_all hi hall hle⟩
                · simp only [Tr.get_set, Nat.reduceEqDiff, reduceIte, t1]
                · simp only [Tr.get_set, Nat.reduceEqDiff, reduceIte, hct, he, t3, Bool.false_eq_true, if_false, Nat.add_zero]
                · simp only [Tr.get_set, Nat.reduceEqDiff, reduceIte]
          · rintro T σ' ⟨_, m0, t1, t3, t4, hall⟩
            rw [List.take_length] at hall t3
            refine ⟨_, _, _, by
              simp only [runOps, runD, again, step1, wantA, opSem, evalO, evalL, evalOpt, evalParts, putA, ofConst, ofScalar, ofScalars, abin, abinInt, aun, convA, builtinA, oneTy, elemTy, loadA, storeA, storeCellsA, setAt, partA, fillA, placesA, isFn, TyI.isAgg, isSeq, isNum, sliceA, boundA, setParams, minL, minF, maxL, maxF, repZ, reduceIte, Nat.reduceLT, Nat.reduceLeDiff, Nat.reduceEqDiff, Nat.reduceAdd, Nat.reduceMul, Nat.reduceSub, Nat.reduceBEq, Int.reduceEq, Int.reduceLT, Int.reduceLE, Int.reduceToNat, reduceCtorEq, sx, fx35, t1, t3, t4, m0, List.length_map, Int.lt_irrefl]
              rfl, by simp, .inl ⟨rfl, m0, ?_, ?_, hall⟩⟩
            · simp only [Tr.get_set, Nat.reduceEqDiff, reduceIte, t1]
            · simp only [Tr.get_set, Nat.reduceEqDiff, reduceIte, t3]
          · refine ⟨Nat.zero_le _, ?_, ?_, ?_, ?_, by simp⟩
            · simp only [AMem.get_push, next_empty, reduceIte]
            · simp only [Tr.get_set, Nat.reduceEqDiff, reduceIte]
            · simp only [Tr.get_set, Nat.reduceEqDiff, reduceIte]; rfl
            · simp only [Tr.get_set, Nat.reduceEqDiff, reduceIte]; rfl
        rcases hcase with ⟨rfl, m0, t1, t3, hall⟩ | ⟨rfl, t2, hno⟩
        · by_cases hc : ((s.data.countP emptyQ : Nat) : Int) > 0
          · by_cases hd : ((s.data.countP emptyQ : Nat) : Int) < ((s.data.length : Nat) : Int)
            · simp only [runOps, runD, again, step1, wantA, opSem, evalO, evalL, evalOpt, evalParts, putA, ofConst, ofScalar, ofScalars, abin, abinInt, aun, convA, builtinA, oneTy, elemTy, loadA, storeA, storeCellsA, setAt, partA, fillA, placesA, isFn, TyI.isAgg, isSeq, isNum, sliceA, boundA, setParams, minL, minF, maxL, maxF, repZ, reduceIte, Nat.reduceLT, Nat.reduceLeDiff, Nat.reduceEqDiff, Nat.reduceAdd, Nat.reduceMul, Nat.reduceSub, Nat.reduceBEq, Int.reduceEq, Int.reduceLT, Int.reduceLE, Int.reduceToNat, reduceCtorEq, sx, fx35, t1, t3, m0, List.length_map, hc, hd]
              exact ⟨_, _, true, rfl, by simp only [Tr.get_set, Nat.reduceEqDiff, reduceIte], ((sheafB_eq s).2 ⟨hA, by omega, by omega, by omega, hall⟩).symm⟩
            · simp only [runOps, runD, again, step1, wantA, opSem, evalO, evalL, evalOpt, evalParts, putA, ofConst, ofScalar, ofScalars, abin, abinInt, aun, convA, builtinA, oneTy, elemTy, loadA, storeA, storeCellsA, setAt, partA, fillA, placesA, isFn, TyI.isAgg, isSeq, isNum, sliceA, boundA, setParams, minL, minF, maxL, maxF, repZ, reduceIte, Nat.reduceLT, Nat.reduceLeDiff, Nat.reduceEqDiff, Nat.reduceAdd, Nat.reduceMul, Nat.reduceSub, Nat.reduceBEq, Int.reduceEq, Int.reduceLT, Int.reduceLE, Int.reduceToNat, reduceCtorEq, sx, fx35, t1, t3, m0, List.length_map, hc, hd]
              exact ⟨_, _, false, rfl, by simp only [Tr.get_set, Nat.reduceEqDiff, reduceIte], no _ (fun h => by have := (sheafB_eq s).1 h; omega) rfl⟩
          · simp only [runOps, runD, again, step1, wantA, opSem, evalO, evalL, evalOpt, evalParts, putA, ofConst, ofScalar, ofScalars, abin, abinInt, aun, convA, builtinA, oneTy, elemTy, loadA, storeA, storeCellsA, setAt, partA, fillA, placesA, isFn, TyI.isAgg, isSeq, isNum, sliceA, boundA, setParams, minL, minF, maxL, maxF, repZ, reduceIte, Nat.reduceLT, Nat.reduceLeDiff, Nat.reduceEqDiff, Nat.reduceAdd, Nat.reduceMul, Nat.reduceSub, Nat.reduceBEq, Int.reduceEq, Int.reduceLT, Int.reduceLE, Int.reduceToNat, reduceCtorEq, sx, fx35, t1, t3, m0, List.length_map, hc]
            exact ⟨_, _, false, rfl, by simp only [Tr.get_set, Nat.reduceEqDiff, reduceIte], no _ (fun h => by have := (sheafB_eq s).1 h; omega) rfl⟩
        · simp only [runOps, runD, again, step1, wantA, opSem, evalO, evalL, evalOpt, evalParts, putA, ofConst, ofScalar, ofScalars, abin, abinInt, aun, convA, builtinA, oneTy, elemTy, loadA, storeA, storeCellsA, setAt, partA, fillA, placesA, isFn, TyI.isAgg, isSeq, isNum, sliceA, boundA, setParams, minL, minF, maxL, maxF, repZ, reduceIte, Nat.reduceLT, Nat.reduceLeDiff, Nat.reduceEqDiff, Nat.reduceAdd, Nat.reduceMul, Nat.reduceSub, Nat.reduceBEq, Int.reduceEq, Int.reduceLT, Int.reduceLE, Int.reduceToNat, reduceCtorEq, sx, fx35]
          exact ⟨_, _, false, rfl, t2, no _ (fun h => hno ((sheafB_eq s).1 h).2.2.2.2) rfl⟩
      · simp only [bodyOf, Tryz.f35, Option.getD_some, initT, runOps, runD, again, step1, wantA, opSem, evalO, evalL, evalOpt, evalParts, putA, ofConst, ofScalar, ofScalars, abin, abinInt, aun, convA, builtinA, oneTy, elemTy, loadA, storeA, storeCellsA, setAt, partA, fillA, placesA, isFn, TyI.isAgg, isSeq, isNum, sliceA, boundA, setParams, minL, minF, maxL, maxF, repZ, reduceIte, Nat.reduceLT, Nat.reduceLeDiff, Nat.reduceEqDiff, Nat.reduceAdd, Nat.reduceMul, Nat.reduceSub, Nat.reduceBEq, Int.reduceEq, Int.reduceLT, Int.reduceLE, Int.reduceToNat, reduceCtorEq, sx, fx35, List.length_map, hin, hA, hB]
        exact ⟨_, _, false, rfl, by simp only [Tr.get_set, Nat.reduceEqDiff, reduceIte], no _ (fun h => by have := (sheafB_eq s).1 h; omega) rfl⟩
    · simp only [bodyOf, Tryz.f35, Option.getD_some, initT, runOps, runD, again, step1, wantA, opSem, evalO, evalL, evalOpt, evalParts, putA, ofConst, ofScalar, ofScalars, abin, abinInt, aun, convA, builtinA, oneTy, elemTy, loadA, storeA, storeCellsA, setAt, partA, fillA, placesA, isFn, TyI.isAgg, isSeq, isNum, sliceA, boundA, setParams, minL, minF, maxL, maxF, repZ, reduceIte, Nat.reduceLT, Nat.reduceLeDiff, Nat.reduceEqDiff, Nat.reduceAdd, Nat.reduceMul, Nat.reduceSub, Nat.reduceBEq, Int.reduceEq, Int.reduceLT, Int.reduceLE, Int.reduceToNat, reduceCtorEq, sx, fx35, List.length_map, hin, hA]
      exact ⟨_, _, false, rfl, by simp only [Tr.get_set, Nat.reduceEqDiff, reduceIte], no _ (fun h => hA ((sheafB_eq s).1 h).1) rfl⟩
  obtain ⟨T1, σ1, b, h1, h2, rfl⟩ := run
  exact pureCall_of rfl (memo35 _) (pureRun_of fn35 rfl (by simp [Tryz.f35]) h1 (by simp) (res_one h2) rfl)

/-! ### the place of a name -/
def placeI (n : Int) (shs : List Sh) : Int := idxI (sameName n) (shs.map shV)
theorem sameName_sh (n : Int) (s : Sh) : sameName n (shV s) = (s.name == n) := rfl
theorem place_call (lk : VK) (shs : List Sh) (n : Int) (hl : shs.length ≤ 1000) (hk : 2000 ≤ k) : pureCall lawProg (callN lawProg k) (.func 18 [] []) [.agg [.vs lk (shs.map shV)], .int .i64 n] σ = some (.int .i64 (placeI n shs), σ) := by
  obtain ⟨k, rfl⟩ : ∃ m, k = m + 1 := ⟨k - 1, by omega⟩
  have run : ∃ T1 σ1, execC lawProg (callN lawProg k) k 18 22 (bodyOf Tryz.f18) (initT 0 [.agg [.vs lk (shs.map shV)], .int .i64 n] .nil) AMem.empty = some (.ret, T1, σ1) ∧ T1.get 4 = some (.int .i64 (placeI n shs)) := by
    simp only [bodyOf, Tryz.f18, Option.getD_some, initT, runOps, runD, again, step1, wantA, opSem, evalO, evalL, evalOpt, evalParts, putA, ofConst, ofScalar, ofScalars, abin, abinInt, aun, convA, builtinA, oneTy, elemTy, loadA, storeA, storeCellsA, setAt, partA, fillA, placesA, isFn, TyI.isAgg, isSeq, isNum, sliceA, boundA, setParams, minL, minF, maxL, maxF, repZ, reduceIte, Nat.reduceLT, Nat.reduceLeDiff, Nat.reduceEqDiff, Nat.reduceAdd, Nat.reduceMul, Nat.reduceSub, Nat.reduceBEq, Int.reduceEq, Int.reduceLT, Int.reduceLE, Int.reduceToNat, reduceCtorEq, sx, fx18]
    generalize hL : execC _ _ _ _ _ (Code.loop _) _ _ = q
    obtain ⟨e, T', σ', rfl, _, hcase⟩ : ∃ e T' σ', q = some (e, T', σ') ∧ e ≠ .normal ∧ ((e = .exit 0 ∧ placeI n shs = -1) ∨ (e = .ret ∧ T'.get 4 = some (.int .i64 (placeI n shs)))) := by
      rw [← hL]
      refine exec_loop2 (fun i T σ' => i ≤ shs.length ∧ σ'.get 0 = some (.row 1 true [.vs lk (shs.map shV)]) ∧ T.get 1 = some (.int .i64 n) ∧ T.get 2 = some (.ptr 0 0) ∧ T.get 5 = some (.int .i64 i) ∧ ∀ x, x ∈ (shs.map shV).take i → sameName n x = false) shs.length (by omega) ?_ ?_ ?_
      · rintro i hi T σ' ⟨_, m0, t1, t2, t5, hall⟩
        have hlt : (i : Int) < shs.length := by omega
        have hw := i64_succ (i := i) (by omega)
        have hi2 : i < (shs.map shV).length := by simpa using hi
        have he : (shs.map shV)[i] = shV shs[i] := List.getElem_map ..
        cases hn : (shs[i].name == n) with
        | true =>
          right
          refine ⟨.ret, _, _, by
            simp only [runOps, runD, again, step1, wantA, opSem, evalO, evalL, evalOpt, evalParts, putA, ofConst, ofScalar, ofScalars, abin, abinInt, aun, convA, builtinA, oneTy, elemTy, loadA, storeA, storeCellsA, setAt, partA, fillA, placesA, isFn, TyI.isAgg, isSeq, isNum, sliceA, boundA, setParams, minL, minF, maxL, maxF, repZ, reduceIte, Nat.reduceLT, Nat.reduceLeDiff, Nat.reduceEqDiff, Nat.reduceAdd, Nat.reduceMul, Nat.reduceSub, Nat.reduceBEq, Int.reduceEq, Int.reduceLT, Int.reduceLE, Int.reduceToNat, reduceCtorEq, sx, fx18, t1, t2, t5, m0, hlt, List.length_map, Int.natCast_nonneg, Int.toNat_natCast, sh_get hi, hn]
            rfl, by simp, .inr ⟨rfl, ?_⟩⟩
          rw [show placeI n shs = (i : Int) from idxI_at hi2 hall (by rw [he, sameName_sh]; exact hn)]
          simp only [Tr.get_set, Nat.reduceEqDiff, reduceIte]
        | false =>
          left
          refine ⟨_, _, by
            simp only [runOps, runD, again, step1, wantA, opSem, evalO, evalL, evalOpt, evalParts, putA, ofConst, ofScalar, ofScalars, abin, abinInt, aun, convA, builtinA, oneTy, elemTy, loadA, storeA, storeCellsA, setAt, partA, fillA, placesA, isFn, TyI.isAgg, isSeq, isNum, sliceA, boundA, setParams, minL, minF, maxL, maxF, repZ, reduceIte, Nat.reduceLT, Nat.reduceLeDiff, Nat.reduceEqDiff, Nat.reduceAdd, Nat.reduceMul, Nat.reduceSub, Nat.reduceBEq, Int.reduceEq, Int.reduceLT, Int.reduceLE, Int.reduceToNat, reduceCtorEq, sx, fx18, t1, t2, t5, m0, hlt, List.length_map, Int.natCast_nonneg, Int.toNat_natCast, sh_get hi, hn, hw]
            rfl, hi, m0, ?_, ?_, ?_, take_all hi2 hall (by rw [he, sameName_sh]; exact hn)⟩
          all_goals simp only [Tr.get_set, Nat.reduceEqDiff, reduceIte, t1, t2]
      · rintro T σ' ⟨_, m0, t1, t2, t5, hall⟩
        rw [show shs.length = (shs.map shV).length by simp, List.take_length] at hall
        exact ⟨_, _, _, by
          simp only [runOps, runD, again, step1, wantA, opSem, evalO, evalL, evalOpt, evalParts, putA, ofConst, ofScalar, ofScalars, abin, abinInt, aun, convA, builtinA, oneTy, elemTy, loadA, storeA, storeCellsA, setAt, partA, fillA, placesA, isFn, TyI.isAgg, isSeq, isNum, sliceA, boundA, setParams, minL, minF, maxL, maxF, repZ, reduceIte, Nat.reduceLT, Nat.reduceLeDiff, Nat.reduceEqDiff, Nat.reduceAdd, Nat.reduceMul, Nat.reduceSub, Nat.reduceBEq, Int.reduceEq, Int.reduceLT, Int.reduceLE, Int.reduceToNat, reduceCtorEq, sx, fx18, t1, t2, t5, m0, List.length_map, Int.lt_irrefl]
          rfl, by simp, .inl ⟨rfl, idxI_none hall⟩⟩
      · refine ⟨Nat.zero_le _, ?_, ?_, ?_, ?_, by simp⟩
        · simp only [AMem.get_push, next_empty, reduceIte]
        · simp only [Tr.get_set, Nat.reduceEqDiff, reduceIte]
        · simp only [Tr.get_set, Nat.reduceEqDiff, reduceIte]
        · simp only [Tr.get_set, Nat.reduceEqDiff, reduceIte]; rfl
    rcases hcase with ⟨rfl, hp⟩ | ⟨rfl, hT⟩
    · rw [hp]
      simp only [runOps, runD, again, step1, wantA, opSem, evalO, evalL, evalOpt, evalParts, putA, ofConst, ofScalar, ofScalars, abin, abinInt, aun, convA, builtinA, oneTy, elemTy, loadA, storeA, storeCellsA, setAt, partA, fillA, placesA, isFn, TyI.isAgg, isSeq, isNum, sliceA, boundA, setParams, minL, minF, maxL, maxF, repZ, reduceIte, Nat.reduceLT, Nat.reduceLeDiff, Nat.reduceEqDiff, Nat.reduceAdd, Nat.reduceMul, Nat.reduceSub, Nat.reduceBEq, Int.reduceEq, Int.reduceLT, Int.reduceLE, Int.reduceToNat, reduceCtorEq, sx, fx18]
      exact ⟨_, _, rfl, by simp only [Tr.get_set, Nat.reduceEqDiff, reduceIte]⟩
    · simp only [runOps, runD, again, step1, wantA, opSem, evalO, evalL, evalOpt, evalParts, putA, ofConst, ofScalar, ofScalars, abin, abinInt, aun, convA, builtinA, oneTy, elemTy, loadA, storeA, storeCellsA, setAt, partA, fillA, placesA, isFn, TyI.isAgg, isSeq, isNum, sliceA, boundA, setParams, minL, minF, maxL, maxF, repZ, reduceIte, Nat.reduceLT, Nat.reduceLeDiff, Nat.reduceEqDiff, Nat.reduceAdd, Nat.reduceMul, Nat.reduceSub, Nat.reduceBEq, Int.reduceEq, Int.reduceLT, Int.reduceLE, Int.reduceToNat, reduceCtorEq, sx, fx18]
      exact ⟨_, _, rfl, hT⟩
  obtain ⟨T1, σ1, h1, h2⟩ := run
  exact pureCall_of rfl (memo18 _) (pureRun_of fn18 rfl (by simp [Tryz.f18]) h1 (by simp) (res_one h2) rfl)

/-- A name stands first where it stands if it was not there before. -/
theorem place_first {shs : List Sh} {i : Nat} (hi : i < shs.length) : (placeI shs[i].name shs = (i : Int)) ↔ ((shs.take i).any fun o => o.name == shs[i].name) = false := by
  have hi2 : i < (shs.map shV).length := by simpa using hi
  constructor
  · intro h
    rw [List.any_eq_false]
    intro o ho
    obtain ⟨j, hj, rfl⟩ := List.mem_iff_getElem.1 ho
    rw [List.length_take] at hj
    rw [List.getElem_take]
    intro hn
    -- the first place is at most j
    have key : ∀ (l : List AVal) (p : AVal → Bool) (j : Nat) (hj : j < l.length), p l[j] = true → idxI p l ≤ (j : Int) ∧ 0 ≤ idxI p l := by
      intro l
      induction l with
      | nil => intro p j hj; simp at hj
      | cons x l ih =>
        intro p j hj hp
        cases hx : p x with
        | true => simp only [idxI, hx, if_true]; omega
        | false =>
          cases j with
          | zero => simp only [List.getElem_cons_zero] at hp; rw [hp] at hx; cases hx
          | succ j =>
            obtain ⟨h1, h2⟩ := ih p j (by simpa using hj) (by simpa using hp)
            simp only [idxI, hx, Bool.false_eq_true, if_false]
            rw [if_neg (by omega)]
            omega
    have hj2 : j < (shs.map shV).length := by rw [List.length_map]; omega
    have := (key (shs.map shV) (sameName shs[i].name) j hj2 (by rw [List.getElem_map, sameName_sh]; exact hn)).1
    unfold placeI at h
    omega
  · intro h
    refine idxI_at hi2 (fun x hx => ?_) (by rw [List.getElem_map, sameName_sh]; simp)
    rw [← List.map_take] at hx
    obtain ⟨o, ho, rfl⟩ := List.mem_map.1 hx
    rw [List.any_eq_false] at h
    simpa [sameName_sh] using h o ho

theorem isSorter_call (lk : VK) (shs : List Sh) (hl : shs.length ≤ 1000) (hd : ∀ s, s ∈ shs → s.data.length ≤ 1000) (hk : 4000 ≤ k) : ∃ b, (∀ σ, pureCall lawProg (callN lawProg k) (.func 12 [] []) [.agg [.vs lk (shs.map shV)]] σ = some (.bool b, σ)) ∧ (b = true ↔ SorterOk shs) := by
  obtain ⟨k, rfl⟩ : ∃ m, k = m + 1 := ⟨k - 1, by omega⟩
  have run : ∃ T1 σ1 b, execC lawProg (callN lawProg k) k 12 34 (bodyOf Tryz.f12) (initT 0 [.agg [.vs lk (shs.map shV)]] .nil) AMem.empty = some (.ret, T1, σ1) ∧ T1.get 2 = some (.bool b) ∧ (b = true ↔ SorterOk shs) := by
    by_cases h4 : ((shs.length : Nat) : Int) > 4
    · simp only [bodyOf, Tryz.f12, Option.getD_some, initT, runOps, runD, again, step1, wantA, opSem, evalO, evalL, evalOpt, evalParts, putA, ofConst, ofScalar, ofScalars, abin, abinInt, aun, convA, builtinA, oneTy, elemTy, loadA, storeA, storeCellsA, setAt, partA, fillA, placesA, isFn, TyI.isAgg, isSeq, isNum, sliceA, boundA, setParams, minL, minF, maxL, maxF, repZ, reduceIte, Nat.reduceLT, Nat.reduceLeDiff, Nat.reduceEqDiff, Nat.reduceAdd, Nat.reduceMul, Nat.reduceSub, Nat.reduceBEq, Int.reduceEq, Int.reduceLT, Int.reduceLE, Int.reduceToNat, reduceCtorEq, sx, fx12, List.length_map, h4]
      exact ⟨_, _, false, rfl, by simp only [Tr.get_set, Nat.reduceEqDiff, reduceIte], by simp only [Bool.false_eq_true, false_iff]; exact fun h => by have := h.1; omega⟩
    · simp only [bodyOf, Tryz.f12, Option.getD_some, initT, runOps, runD, again, step1, wantA, opSem, evalO, evalL, evalOpt, evalParts, putA, ofConst, ofScalar, ofScalars, abin, abinInt, aun, convA, builtinA, oneTy, elemTy, loadA, storeA, storeCellsA, setAt, partA, fillA, placesA, isFn, TyI.isAgg, isSeq, isNum, sliceA, boundA, setParams, minL, minF, maxL, maxF, repZ, reduceIte, Nat.reduceLT, Nat.reduceLeDiff, Nat.reduceEqDiff, Nat.reduceAdd, Nat.reduceMul, Nat.reduceSub, Nat.reduceBEq, Int.reduceEq, Int.reduceLT, Int.reduceLE, Int.reduceToNat, reduceCtorEq, sx, fx12, List.length_map, h4]
      generalize hL : execC _ _ _ _ _ (Code.loop _) _ _ = q
      obtain ⟨e, T', σ', rfl, _, hcase⟩ : ∃ e T' σ', q = some (e, T', σ') ∧ e ≠ .normal ∧ ((e = .exit 0 ∧ ∀ i (hi : i < shs.length), sheafB shs[i] = true ∧ placeI shs[i].name shs = (i : Int)) ∨ (e = .ret ∧ T'.get 2 = some (.bool false) ∧ ¬ SorterOk shs)) := by
        rw [← hL]
        refine exec_loop2 (fun i T σ' => i ≤ shs.length ∧ σ'.get 0 = some (.row 1 true [.vs lk (shs.map shV)]) ∧ T.get 1 = some (.ptr 0 0) ∧ T.get 3 = some (.int .i64 i) ∧ ∀ j (hj : j < shs.length), j < i → sheafB shs[j] = true ∧ placeI shs[j].name shs = (j : Int)) shs.length (by omega) ?_ ?_ ?_
        · rintro i hi T σ' ⟨_, m0, t1, t3, hall⟩
          have hlt : (i : Int) < shs.length := by omega
          have hw := i64_succ (i := i) (by omega)
          have hc1 := fun (σ : AMem) => rsheaf_call (k := k) (σ := σ) shs[i] (hd _ (List.getElem_mem hi)) (by omega)
          have hc2 := fun (σ : AMem) => place_call (k := k) (σ := σ) lk shs shs[i].name hl (by omega)
          cases hb : sheafB shs[i] with
          | false =>
            right
            simp only [hb] at hc1
            refine ⟨.ret, _, _, by
              simp only [runOps, runD, again, step1, wantA, opSem, evalO, evalL, evalOpt, evalParts, putA, ofConst, ofScalar, ofScalars, abin, abinInt, aun, convA, builtinA, oneTy, elemTy, loadA, storeA, storeCellsA, setAt, partA, fillA, placesA, isFn, TyI.isAgg, isSeq, isNum, sliceA, boundA, setParams, minL, minF, maxL, maxF, repZ, reduceIte, Nat.reduceLT, Nat.reduceLeDiff, Nat.reduceEqDiff, Nat.reduceAdd, Nat.reduceMul, Nat.reduceSub, Nat.reduceBEq, Int.reduceEq, Int.reduceLT, Int.reduceLE, Int.reduceToNat, reduceCtorEq, sx, fx12, t1, t3, m0, hlt, List.length_map, Int.natCast_nonneg, Int.toNat_natCast, sh_get hi, hc1]
              rfl, by simp, .inr ⟨rfl, ?_, fun h => ?_⟩⟩
            · simp only [Tr.get_set, Nat.reduceEqDiff, reduceIte]
            · rw [h.2.2 _ (List.getElem_mem hi)] at hb; cases hb
          | true =>
            simp only [hb] at hc1
            by_cases hp : placeI shs[i].name shs = (i : Int)
            · left
              have hbq : (placeI shs[i].name shs != (i : Int)) = false := by simpa using hp
              refine ⟨_, _, by
                simp only [runOps, runD, again, step1, wantA, opSem, evalO, evalL, evalOpt, evalParts, putA, ofConst, ofScalar, ofScalars, abin, abinInt, aun, convA, builtinA, oneTy, elemTy, loadA, storeA, storeCellsA, setAt, partA, fillA, placesA, isFn, TyI.isAgg, isSeq, isNum, sliceA, boundA, setParams, minL, minF, maxL, maxF, repZ, reduceIte, Nat.reduceLT, Nat.reduceLeDiff, Nat.reduceEqDiff, Nat.reduceAdd, Nat.reduceMul, Nat.reduceSub, Nat.reduceBEq, Int.reduceEq, Int.reduceLT, Int.reduceLE, Int.reduceToNat, reduceCtorEq, sx, fx12, t1, t3, m0, hlt, List.length_map, Int.natCast_nonneg, Int.toNat_natCast, sh_get hi, hc1, hc2, hbq, hw]
                rfl, hi, m0, ?_, ?_, fun j hj hji => ?_⟩
              · simp only [Tr.get_set, Nat.reduceEqDiff, reduceIte, t1]
              · simp only [Tr.get_set, Nat.reduceEqDiff, reduceIte]
              · rcases Nat.lt_succ_iff_lt_or_eq.1 hji with h | rfl
                · exact hall j hj h
                · exact ⟨hb, hp⟩
            · right
              have hbq : (placeI shs[i].name shs != (i : Int)) = true := by simpa using hp
              refine ⟨.ret, _, _, by
                simp only [runOps, runD, again, step1, wantA, opSem, evalO, evalL, evalOpt, evalParts, putA, ofConst, ofScalar, ofScalars, abin, abinInt, aun, convA, builtinA, oneTy, elemTy, loadA, storeA, storeCellsA, setAt, partA, fillA, placesA, isFn, TyI.isAgg, isSeq, isNum, sliceA, boundA, setParams, minL, minF, maxL, maxF, repZ, reduceIte, Nat.reduceLT, Nat.reduceLeDiff, Nat.reduceEqDiff, Nat.reduceAdd, Nat.reduceMul, Nat.reduceSub, Nat.reduceBEq, Int.reduceEq, Int.reduceLT, Int.reduceLE, Int.reduceToNat, reduceCtorEq, sx, fx12, t1, t3, m0, hlt, List.length_map, Int.natCast_nonneg, Int.toNat_natCast, sh_get hi, hc1, hc2, hbq]
                rfl, by simp, .inr ⟨rfl, ?_, fun h => hp ((place_first hi).2 (h.2.1 i hi))⟩⟩
              simp only [Tr.get_set, Nat.reduceEqDiff, reduceIte]
        · rintro T σ' ⟨_, m0, t1, t3, hall⟩
          exact ⟨_, _, _, by
            simp only [runOps, runD, again, step1, wantA, opSem, evalO, evalL, evalOpt, evalParts, putA, ofConst, ofScalar, ofScalars, abin, abinInt, aun, convA, builtinA, oneTy, elemTy, loadA, storeA, storeCellsA, setAt, partA, fillA, placesA, isFn, TyI.isAgg, isSeq, isNum, sliceA, boundA, setParams, minL, minF, maxL, maxF, repZ, reduceIte, Nat.reduceLT, Nat.reduceLeDiff, Nat.reduceEqDiff, Nat.reduceAdd, Nat.reduceMul, Nat.reduceSub, Nat.reduceBEq, Int.reduceEq, Int.reduceLT, Int.reduceLE, Int.reduceToNat, reduceCtorEq, sx, fx12, t1, t3, m0, List.length_map, Int.lt_irrefl]
            rfl, by simp, .inl ⟨rfl, fun i hi => hall i hi hi⟩⟩
        · refine ⟨Nat.zero_le _, ?_, ?_, ?_, by simp⟩
          · simp only [AMem.get_push, next_empty, reduceIte]
          · simp only [Tr.get_set, Nat.reduceEqDiff, reduceIte]
          · simp only [Tr.get_set, Nat.reduceEqDiff, reduceIte]; rfl
      rcases hcase with ⟨rfl, hall⟩ | ⟨rfl, hT, hno⟩
      · simp only [runOps, runD, again, step1, wantA, opSem, evalO, evalL, evalOpt, evalParts, putA, ofConst, ofScalar, ofScalars, abin, abinInt, aun, convA, builtinA, oneTy, elemTy, loadA, storeA, storeCellsA, setAt, partA, fillA, placesA, isFn, TyI.isAgg, isSeq, isNum, sliceA, boundA, setParams, minL, minF, maxL, maxF, repZ, reduceIte, Nat.reduceLT, Nat.reduceLeDiff, Nat.reduceEqDiff, Nat.reduceAdd, Nat.reduceMul, Nat.reduceSub, Nat.reduceBEq, Int.reduceEq, Int.reduceLT, Int.reduceLE, Int.reduceToNat, reduceCtorEq, sx, fx12]
        have hok : SorterOk shs := ⟨by omega, fun i hi => (place_first hi).1 (hall i hi).2, fun s hs => by
          obtain ⟨i, hi, rfl⟩ := List.mem_iff_getElem.1 hs
          exact (hall i hi).1⟩
        exact ⟨_, _, true, rfl, by simp only [Tr.get_set, Nat.reduceEqDiff, reduceIte], by simp only [true_iff]; exact hok⟩
      · simp only [runOps, runD, again, step1, wantA, opSem, evalO, evalL, evalOpt, evalParts, putA, ofConst, ofScalar, ofScalars, abin, abinInt, aun, convA, builtinA, oneTy, elemTy, loadA, storeA, storeCellsA, setAt, partA, fillA, placesA, isFn, TyI.isAgg, isSeq, isNum, sliceA, boundA, setParams, minL, minF, maxL, maxF, repZ, reduceIte, Nat.reduceLT, Nat.reduceLeDiff, Nat.reduceEqDiff, Nat.reduceAdd, Nat.reduceMul, Nat.reduceSub, Nat.reduceBEq, Int.reduceEq, Int.reduceLT, Int.reduceLE, Int.reduceToNat, reduceCtorEq, sx, fx12]
        exact ⟨_, _, false, rfl, hT, by simp only [Bool.false_eq_true, false_iff]; exact hno⟩
  obtain ⟨T1, σ1, b, h1, h2, h3⟩ := run
  exact ⟨b, fun σ => pureCall_of rfl (memo12 _) (pureRun_of fn12 rfl (by simp [Tryz.f12]) h1 (by simp) (res_one h2) rfl), h3⟩
end Go.Proofs.YtkamjhhodnmoiaaGreatDoor
