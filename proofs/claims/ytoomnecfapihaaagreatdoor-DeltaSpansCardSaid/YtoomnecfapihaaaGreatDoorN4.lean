/- Lists of spans and their sets: Set and List. -/
import Derived.Test.YtoomnecfapihaaaGreatDoorN3
set_option maxRecDepth 100000
set_option linter.unusedSimpArgs false
set_option linter.unusedVariables false
namespace Go.Proofs.YtoomnecfapihaaaGreatDoor
open Go Go.Proofs.YtoomnecfapihaaaGreatDoor.Pale
variable {k : Nat} {σ : AMem}

def setP (l : List Sp) (m : Nat) : Bool := inSp l m
theorem set_exec {vk : VK} {l : List Sp} (ok : OkSp l) (hn : l.length ≤ 1000) (hk : 2000 ≤ k) : ∃ σ', callN lawProg (k + 1) (.func 12 [] []) [.vs vk (spansV l)] σ = some (.slice σ.next 0 61 (some 61) 1, σ') ∧ σ'.get σ.next = some (.row 1 false (boolsV 61 (setP l))) ∧ Ext σ σ' ∧ σ.next + 1 ≤ σ'.next := by
  have run : ∃ T1 σ1, execC lawProg (callN lawProg k) k 12 31 (bodyOf Tryz.f12) (initT 0 [.vs vk (spansV l)] .nil) σ = some (.ret, T1, σ1) ∧ T1.get 2 = some (.slice σ.next 0 61 (some 61) 1) ∧ σ1.get σ.next = some (.row 1 false (boolsV 61 (setP l))) ∧ Ext σ σ1 ∧ σ.next + 1 ≤ σ1.next := by
    have hz : repZ [AVal.bool false] 61 = boolsV 61 (setP []) := rfl
    have c1 : (0 : Int) ≤ 61 ∧ (61 : Int) ≤ 61 ∧ (61 : Int) * ((1 : Nat) : Int) ≤ ((mostBytes : Nat) : Int) ∧ (61 : Int) ≤ 9223372036854775807 := by decide
    simp only [bodyOf, Tryz.f12, Option.getD_some, initT, runOps, runD, again, step1, wantA, opSem, evalO, evalL, evalOpt, evalParts, putA, ofConst, ofScalar, ofScalars, abin, abinInt, aun, convA, builtinA, oneTy, elemTy, loadA, storeA, storeCellsA, setAt, partA, fillA, placesA, isFn, TyI.isAgg, isSeq, isNum, sliceA, boundA, setParams, minL, minF, maxL, maxF, repZ, reduceIte, Nat.reduceLT, Nat.reduceLeDiff, Nat.reduceEqDiff, Nat.reduceAdd, Nat.reduceMul, Nat.reduceSub, Nat.reduceBEq, Int.reduceEq, Int.reduceLT, Int.reduceLE, Int.reduceToNat, reduceCtorEq, sx, fx12, c1]
    generalize hL : execC _ _ _ _ _ (Code.loop _) _ _ = q
    obtain ⟨e, T', σ', rfl, _, rfl, h3, hg, hx, hnx⟩ : ∃ e T' σ', q = some (e, T', σ') ∧ e ≠ .normal ∧ (e = .exit 0 ∧ T'.get 3 = some (.slice σ.next 0 61 (some 61) 1) ∧ σ'.get σ.next = some (.row 1 false (boolsV 61 (setP l))) ∧ Ext σ σ' ∧ σ.next + 1 ≤ σ'.next) := by
      rw [← hL]
      refine exec_loop (fun i T σ' => i ≤ l.length ∧ T.get 0 = some (.vs vk (spansV l)) ∧ T.get 3 = some (.slice σ.next 0 61 (some 61) 1) ∧ T.get 4 = some (.int .i64 (i : Nat)) ∧ σ'.get σ.next = some (.row 1 false (boolsV 61 (setP (l.take i)))) ∧ Ext σ σ' ∧ σ.next + 1 ≤ σ'.next) l.length (by omega) ?_ ?_ ?_
      · rintro i hi T σ1 ⟨_, t0, t3, t4, hg, hx, hnx⟩
        have hlt : (i : Int) < l.length := by omega
        have hw := i64_succ (i := i) (by omega)
        have hget := spansV_get hi
        have hs := ok.1 l[i] (List.getElem_mem hi)
        have hsnoc := List.take_succ_eq_append_getElem hi
        unfold okS at hs
        generalize he : l[i] = s at hget hs hsnoc
        obtain ⟨f, t⟩ := s
        simp only at hget hs hsnoc
        obtain ⟨f, rfl⟩ : ∃ n : Nat, f = (n : Int) := ⟨f.toNat, by omega⟩
        obtain ⟨t, rfl⟩ : ∃ n : Nat, t = (n : Int) := ⟨t.toNat, by omega⟩
        simp only [runOps, runD, again, step1, wantA, opSem, evalO, evalL, evalOpt, evalParts, putA, ofConst, ofScalar, ofScalars, abin, abinInt, aun, convA, builtinA, oneTy, elemTy, loadA, storeA, storeCellsA, setAt, partA, fillA, placesA, isFn, TyI.isAgg, isSeq, isNum, sliceA, boundA, setParams, minL, minF, maxL, maxF, repZ, reduceIte, Nat.reduceLT, Nat.reduceLeDiff, Nat.reduceEqDiff, Nat.reduceAdd, Nat.reduceMul, Nat.reduceSub, Nat.reduceBEq, Int.reduceEq, Int.reduceLT, Int.reduceLE, Int.reduceToNat, reduceCtorEq, sx, fx12, t0, t3, t4, hlt, spansV_length, Int.natCast_nonneg, Int.toNat_natCast, hget]
        generalize hL2 : execC _ _ _ _ _ (Code.loop _) _ _ = q2
        obtain ⟨e, T', σ', rfl, _, rfl, u0, u3, u4, ug, ux, unx⟩ : ∃ e T' σ', q2 = some (e, T', σ') ∧ e ≠ .normal ∧ (e = .exit 2 ∧ T'.get 0 = some (.vs vk (spansV l)) ∧ T'.get 3 = some (.slice σ.next 0 61 (some 61) 1) ∧ T'.get 4 = some (.int .i64 (i : Nat)) ∧ σ'.get σ.next = some (.row 1 false (boolsV 61 (setP (l.take (i + 1))))) ∧ Ext σ σ' ∧ σ.next + 1 ≤ σ'.next) := by
          rw [← hL2]
          refine exec_loop (fun j T σ' => j ≤ t + 1 - f ∧ T.get 0 = some (.vs vk (spansV l)) ∧ T.get 3 = some (.slice σ.next 0 61 (some 61) 1) ∧ T.get 4 = some (.int .i64 (i : Nat)) ∧ T.get 5 = some (.int .i64 ((f + j : Nat) : Int)) ∧ σ'.get σ.next = some (.row 1 false (boolsV 61 (fun m => setP (l.take i) m || (decide (f ≤ m) && decide (m < f + j))))) ∧ Ext σ σ' ∧ σ.next + 1 ≤ σ'.next) (t + 1 - f) (by omega) ?_ ?_ ?_
          · rintro j hj T σ2 ⟨_, u0, u3, u4, u5, ug, ux, unx⟩
            have hle : ((f + j : Nat) : Int) ≤ ((t : Nat) : Int) := by omega
            have hw2 := i64_succ (i := f + j) (by omega)
            have h61 : f + j < 61 := by omega
            have h60 : f + j ≤ 60 := by omega
            have h61b : ((f + j : Nat) : Int) < ((61 : Nat) : Int) := by omega
            refine ⟨_, _, by
              simp only [runOps, runD, again, step1, wantA, opSem, evalO, evalL, evalOpt, evalParts, putA, ofConst, ofScalar, ofScalars, abin, abinInt, aun, convA, builtinA, oneTy, elemTy, loadA, storeA, storeCellsA, setAt, partA, fillA, placesA, isFn, TyI.isAgg, isSeq, isNum, sliceA, boundA, setParams, minL, minF, maxL, maxF, repZ, reduceIte, Nat.reduceLT, Nat.reduceLeDiff, Nat.reduceEqDiff, Nat.reduceAdd, Nat.reduceMul, Nat.reduceSub, Nat.reduceBEq, Int.reduceEq, Int.reduceLT, Int.reduceLE, Int.reduceToNat, reduceCtorEq, sx, fx12, u0, u3, u4, u5, spansV_length, Int.natCast_nonneg, Int.toNat_natCast, hget, hle, h61, h60, h61b, ug, boolsV_length, boolsV_set, hw2]
              rfl, by omega, ?_, ?_, ?_, ?_, ?_, ?_, ?_⟩
            · simp only [Tr.get_set, Nat.reduceEqDiff, reduceIte, u0]
            · simp only [Tr.get_set, Nat.reduceEqDiff, reduceIte, u3]
            · simp only [Tr.get_set, Nat.reduceEqDiff, reduceIte, u4]
            · simp only [Tr.get_set, Nat.reduceEqDiff, reduceIte]; rfl
            · rw [AMem.get_put, if_pos rfl]
              congr 2
              apply boolsV_congr
              intro m hm
              by_cases e : m = f + j
              · subst e
                simp
              · rw [if_neg e]
                congr 2
                exact decide_eq_decide.2 (by omega)
            · exact ux.put _ _ (Nat.le_refl _)
            · simpa using unx
          · rintro T σ2 ⟨_, u0, u3, u4, u5, ug, ux, unx⟩
            have hgt : ¬ ((f + (t + 1 - f) : Nat) : Int) ≤ ((t : Nat) : Int) := by omega
            refine ⟨_, _, _, by
              simp only [runOps, runD, again, step1, wantA, opSem, evalO, evalL, evalOpt, evalParts, putA, ofConst, ofScalar, ofScalars, abin, abinInt, aun, convA, builtinA, oneTy, elemTy, loadA, storeA, storeCellsA, setAt, partA, fillA, placesA, isFn, TyI.isAgg, isSeq, isNum, sliceA, boundA, setParams, minL, minF, maxL, maxF, repZ, reduceIte, Nat.reduceLT, Nat.reduceLeDiff, Nat.reduceEqDiff, Nat.reduceAdd, Nat.reduceMul, Nat.reduceSub, Nat.reduceBEq, Int.reduceEq, Int.reduceLT, Int.reduceLE, Int.reduceToNat, reduceCtorEq, sx, fx12, u0, u4, u5, spansV_length, Int.natCast_nonneg, Int.toNat_natCast, hget, hgt]
              rfl, by simp, rfl, ?_, ?_, ?_, ?_, ux, unx⟩
            · simp only [Tr.get_set, Nat.reduceEqDiff, reduceIte, u0]
            · simp only [Tr.get_set, Nat.reduceEqDiff, reduceIte, u3]
            · simp only [Tr.get_set, Nat.reduceEqDiff, reduceIte, u4]
            · rw [ug, hsnoc]
              congr 2
              apply boolsV_congr
              intro m hm
              unfold setP
              rw [inSp_snoc]
              congr 1
              rw [Bool.eq_iff_iff]
              simp only [Bool.and_eq_true, decide_eq_true_eq]
              omega
          · refine ⟨Nat.zero_le _, ?_, ?_, ?_, ?_, ?_, hx, hnx⟩
            · simp only [Tr.get_set, Nat.reduceEqDiff, reduceIte, t0]
            · simp only [Tr.get_set, Nat.reduceEqDiff, reduceIte, t3]
            · simp only [Tr.get_set, Nat.reduceEqDiff, reduceIte, t4]
            · simp only [Tr.get_set, Nat.reduceEqDiff, reduceIte]; rfl
            · rw [hg]
              congr 2
              apply boolsV_congr
              intro m hm
              have : (decide (f ≤ m) && decide (m < f + 0)) = false := by
                rw [Bool.eq_false_iff]
                simp only [ne_eq, Bool.and_eq_true, decide_eq_true_eq]
                omega
              rw [this, Bool.or_false]
        refine ⟨_, _, by
          simp only [runOps, runD, again, step1, wantA, opSem, evalO, evalL, evalOpt, evalParts, putA, ofConst, ofScalar, ofScalars, abin, abinInt, aun, convA, builtinA, oneTy, elemTy, loadA, storeA, storeCellsA, setAt, partA, fillA, placesA, isFn, TyI.isAgg, isSeq, isNum, sliceA, boundA, setParams, minL, minF, maxL, maxF, repZ, reduceIte, Nat.reduceLT, Nat.reduceLeDiff, Nat.reduceEqDiff, Nat.reduceAdd, Nat.reduceMul, Nat.reduceSub, Nat.reduceBEq, Int.reduceEq, Int.reduceLT, Int.reduceLE, Int.reduceToNat, reduceCtorEq, sx, fx12, u4, hw]
          rfl, by omega, ?_, ?_, ?_, ug, ux, unx⟩
        · simp only [Tr.get_set, Nat.reduceEqDiff, reduceIte, u0]
        · simp only [Tr.get_set, Nat.reduceEqDiff, reduceIte, u3]
        · simp only [Tr.get_set, Nat.reduceEqDiff, reduceIte]
      · rintro T σ1 ⟨_, t0, t3, t4, hg, hx, hnx⟩
        have hge : ¬ (((l.length : Nat) : Int) < ((l.length : Nat) : Int)) := by omega
        rw [List.take_length] at hg
        refine ⟨_, _, _, by
          simp only [runOps, runD, again, step1, wantA, opSem, evalO, evalL, evalOpt, evalParts, putA, ofConst, ofScalar, ofScalars, abin, abinInt, aun, convA, builtinA, oneTy, elemTy, loadA, storeA, storeCellsA, setAt, partA, fillA, placesA, isFn, TyI.isAgg, isSeq, isNum, sliceA, boundA, setParams, minL, minF, maxL, maxF, repZ, reduceIte, Nat.reduceLT, Nat.reduceLeDiff, Nat.reduceEqDiff, Nat.reduceAdd, Nat.reduceMul, Nat.reduceSub, Nat.reduceBEq, Int.reduceEq, Int.reduceLT, Int.reduceLE, Int.reduceToNat, reduceCtorEq, sx, fx12, t0, t4, spansV_length, hge]
          rfl, by simp, rfl, ?_, hg, hx, hnx⟩
        simp only [Tr.get_set, Nat.reduceEqDiff, reduceIte, t3]
      · refine ⟨Nat.zero_le _, ?_, ?_, ?_, ?_, Ext.push _ _, by simp⟩
        · simp only [Tr.get_set, Nat.reduceEqDiff, reduceIte]
        · simp only [Tr.get_set, Nat.reduceEqDiff, reduceIte]
        · simp only [Tr.get_set, Nat.reduceEqDiff, reduceIte]; rfl
        · rw [AMem.get_push, if_pos rfl, List.take_zero]; rfl
    simp only [runOps, runD, again, step1, wantA, opSem, evalO, evalL, evalOpt, evalParts, putA, ofConst, ofScalar, ofScalars, abin, abinInt, aun, convA, builtinA, oneTy, elemTy, loadA, storeA, storeCellsA, setAt, partA, fillA, placesA, isFn, TyI.isAgg, isSeq, isNum, sliceA, boundA, setParams, minL, minF, maxL, maxF, repZ, reduceIte, Nat.reduceLT, Nat.reduceLeDiff, Nat.reduceEqDiff, Nat.reduceAdd, Nat.reduceMul, Nat.reduceSub, Nat.reduceBEq, Int.reduceEq, Int.reduceLT, Int.reduceLE, Int.reduceToNat, reduceCtorEq, sx, fx12, h3]
    exact ⟨_, _, rfl, by simp only [Tr.get_set, Nat.reduceEqDiff, reduceIte], hg, hx, hnx⟩
  obtain ⟨T1, σ1, h1, h2, h3, h4, h5⟩ := run
  exact ⟨σ1, q_call (first := []) (caps := []) fn12 rfl (by simp [Tryz.f12]) h1 (by simp) (res_one h2), h3, h4, h5⟩
theorem snapL_bools (fr : Bool) (σ : AMem) (d : Nat) (l : List Bool) : snapL (snapF fr σ (d + 1)) (l.map AVal.bool) = some (l.map AVal.bool, []) := by
  induction l with
  | nil => rfl
  | cons b l ih =>
    show (match snapF fr σ (d + 1) (.bool b), snapL (snapF fr σ (d + 1)) (l.map AVal.bool) with
      | some (x, a), some (xs, b) => some (x :: xs, a ++ b)
      | _, _ => none) = _
    rw [ih]
    rfl
theorem snap_bools {fr : Bool} {n : Nat} {p : Nat → Bool} {σ : AMem} {r d : Nat} {cap : Option Nat} (h : σ.get r = some (.row 1 false (boolsV n p))) : snapF fr σ (d + 2) (.slice r 0 n cap 1) = some (.vs .some (boolsV n p), [r]) := by
  have e0 : boolsV n p = ((List.range n).map p).map AVal.bool := by unfold boolsV; rw [List.map_map]; rfl
  have e1 := snapL_bools fr σ d ((List.range n).map p)
  rw [← e0] at e1
  have e2 : ((boolsV n p).drop 0).take (n * 1) = boolsV n p := by rw [List.drop_zero, Nat.mul_one, List.take_of_length_le (by rw [boolsV_length]; exact Nat.le_refl _)]
  have e3 : (decide (0 < 1) && decide (0 + n * 1 ≤ (boolsV n p).length)) = true := by simp [boolsV_length]
  have e4 := mkElems_ones (boolsV n p) (pure_one _ (boolsV_pure n p))
  rw [boolsV_length] at e4
  rw [snapF]
  simp only [h, e3, if_true, e2, e1, e4]
theorem setOf_call {x : AVal} {S : List Nat} {vk : VK} {l : List Sp} (hx : snapF false σ snapDepth x = some (.vs vk (spansV l), S)) (ok : OkSp l) (hn : l.length ≤ 1000) (hk : 2002 ≤ k) : pureCall lawProg (callN lawProg k) (.func 12 [] []) [x] σ = some (.vs .some (boolsV 61 (setP l)), σ) := by
  obtain ⟨k, rfl⟩ : ∃ m, k = m + 1 := ⟨k - 1, by omega⟩
  obtain ⟨σ1, h1, h2, _, _⟩ := set_exec (k := k) (σ := AMem.empty) (vk := vk) ok hn (by omega)
  have hs : snapL (snapF false σ snapDepth) [x] = some ([.vs vk (spansV l)], S ++ []) := by
    simp only [snapL, hx]
  refine pureCall_of hs (memo12 _) ?_
  have h3 : snapF true σ1 snapDepth (.slice AMem.empty.next 0 61 (some 61) 1) = some (.vs .some (boolsV 61 (setP l)), [AMem.empty.next]) := snap_bools h2
  simp only [pureRun, h1, h3]

/-! ### the list of a set -/
theorem snapL_spans (fr : Bool) (σ : AMem) (d : Nat) (l : List Sp) : snapL (snapF fr σ (d + 1)) (spansC l) = some (spansC l, []) := by
  induction l with
  | nil => rfl
  | cons s l ih =>
    have : spansC (s :: l) = spanC s ++ spansC l := rfl
    rw [this]
    exact snapL_append (a := spanC s) rfl ih
/-- A list of spans that grew from nothing. -/
def GrewS (low : Nat) (σ : AMem) (out : AVal) (l : List Sp) : Prop := Grew low σ 2 true out l.length (spansC l) ∧ (l = [] → out = .vs .nil [])
theorem snap_spans {fr : Bool} {σ : AMem} {low d : Nat} {out : AVal} {l : List Sp} (h : GrewS low σ out l) : ∃ S, snapF fr σ (d + 2) out = some (.vs (lkOf l.length) (spansV l), S) := by
  by_cases h0 : l = []
  · obtain rfl := h.2 h0
    subst h0
    exact ⟨[], by cases fr <;> rfl⟩
  · rcases h.1.2 with ⟨h1, rfl⟩ | ⟨r, _, _, rfl, hg⟩
    · exact absurd (List.eq_nil_of_length_eq_zero h1) h0
    · refine ⟨r :: [], ?_⟩
      have := snap_structs (fr := fr) (σ := σ) (d := d) (r := r) (n := l.length) (cap := none) (sz := 2) (ls := l.map spanC) (ps := l.map spanC) (S := []) (by omega) (by simp) rfl (fun x hx => by obtain ⟨s, _, rfl⟩ := List.mem_map.1 hx; rfl) (fun x hx => by obtain ⟨s, _, rfl⟩ := List.mem_map.1 hx; rfl) hg (snapL_spans fr σ d l)
      rw [this, lkOf, if_neg (fun h => h0 (List.eq_nil_of_length_eq_zero h)), spansV, List.map_map]
      rfl
theorem grew_span {low j : Nat} {out : AVal} {cells : List AVal} (f t : Int) (h : Grew low σ 2 true out j cells) (hlow : low ≤ σ.next) (hj : j ≤ 1000) : ∃ σ', appendA (⟨.struct [(0, 3), (1, 3)], 2, 16, [.int .i64 0, .int .i64 0]⟩ : TyI) (σ.push (.row 2 true [.int .i64 f, .int .i64 t])) out (.slice σ.next 0 1 (some 1) 2) = some (.slice (σ.next + 1) 0 (j + 1) none 2, σ') ∧ Grew low σ' 2 true (.slice (σ.next + 1) 0 (j + 1) none 2) (j + 1) (cells ++ [.int .i64 f, .int .i64 t]) ∧ σ'.next = σ.next + 2 ∧ (∀ s, s < low → σ'.get s = σ.get s) := by
  obtain ⟨σ', a1, a2, a3, a4, _⟩ := Grew.one (e := (⟨.struct [(0, 3), (1, 3)], 2, 16, [.int .i64 0, .int .i64 0]⟩ : TyI)) (xs := [.int .i64 f, .int .i64 t]) h hlow rfl (by decide) (by decide) (by decide) (by simp only [mostBytes]; omega) rfl
  exact ⟨σ', a1, a2, a3, a4⟩
theorem listN_len (p : Nat → Bool) : ∀ n, (listN p n).length ≤ n := by
  intro n
  induction n with
  | zero => simp [listN]
  | succ n ih =>
    rw [listN]
    split
    · unfold addN
      rcases nil_or_snoc (listN p n) with h | ⟨l, s, h⟩
      · rw [h]; simp
      · rw [h] at ih ⊢
        simp only [List.getLast?_concat, List.dropLast_concat]
        simp only [List.length_append, List.length_singleton] at ih
        split <;> simp <;> omega
    · omega
theorem spansC_last (l : List Sp) (s : Sp) : (spansC (l ++ [s]))[l.length * 2 + 1]? = some (.int .i64 s.2) := by
  rw [spansC_snoc, List.getElem?_append_right (by rw [spansC_length]; omega), spansC_length, show l.length * 2 + 1 - l.length * 2 = 1 by omega]
  rfl
theorem spansC_put (l : List Sp) (s : Sp) (n : Int) : (spansC (l ++ [s])).set (l.length * 2 + 1) (.int .i64 n) = spansC (l ++ [(s.1, n)]) := by
  rw [spansC_snoc, spansC_snoc, List.set_append_right _ _ (by rw [spansC_length]; omega), spansC_length, show l.length * 2 + 1 - l.length * 2 = 1 by omega]
  rfl
theorem listR_call {x : AVal} {S : List Nat} {p : Nat → Bool} (hx : snapF false σ snapDepth x = some (.vs .some (boolsV 61 p), S)) (hk : 2002 ≤ k) : pureCall lawProg (callN lawProg k) (.func 52 [] []) [x] σ = some (.vs (lkOf (spansOf p).length) (spansV (spansOf p)), σ) := by
  obtain ⟨k, rfl⟩ : ∃ m, k = m + 1 := ⟨k - 1, by omega⟩
  have run : ∃ T1 σ1 out, execC lawProg (callN lawProg k) k 52 44 (bodyOf Tryz.f52) (initT 0 [.vs .some (boolsV 61 p)] .nil) AMem.empty = some (.ret, T1, σ1) ∧ T1.get 2 = some out ∧ GrewS 0 σ1 out (spansOf p) := by
    simp only [bodyOf, Tryz.f52, Option.getD_some, initT, runOps, runD, again, step1, wantA, opSem, evalO, evalL, evalOpt, evalParts, putA, ofConst, ofScalar, ofScalars, abin, abinInt, aun, convA, builtinA, oneTy, elemTy, loadA, storeA, storeCellsA, setAt, partA, fillA, placesA, isFn, TyI.isAgg, isSeq, isNum, sliceA, boundA, setParams, minL, minF, maxL, maxF, repZ, reduceIte, Nat.reduceLT, Nat.reduceLeDiff, Nat.reduceEqDiff, Nat.reduceAdd, Nat.reduceMul, Nat.reduceSub, Nat.reduceBEq, Int.reduceEq, Int.reduceLT, Int.reduceLE, Int.reduceToNat, reduceCtorEq, sx, fx52]
    generalize hL : execC _ _ _ _ _ (Code.loop _) _ _ = q
    obtain ⟨e, T', σ', rfl, _, rfl, out, h3, hg⟩ : ∃ e T' σ', q = some (e, T', σ') ∧ e ≠ .normal ∧ (e = .exit 0 ∧ ∃ out, T'.get 3 = some out ∧ GrewS 0 σ' out (spansOf p)) := by
      rw [← hL]
      refine exec_loop (fun j T σ' => j ≤ 60 ∧ T.get 0 = some (.vs .some (boolsV 61 p)) ∧ T.get 4 = some (.int .i64 ((j + 1 : Nat) : Int)) ∧ ∃ out, T.get 3 = some out ∧ GrewS 0 σ' out (listN p (j + 1))) 60 (by omega) ?_ ?_ ?_
      · rintro j hj T σ1 ⟨_, t0, t4, out, t3, hg, hnil⟩
        have hlt : ((j + 1 : Nat) : Int) < ((61 : Nat) : Int) := by omega
        have hw := i64_succ (i := j + 1) (by omega)
        have hget := boolsV_get p (show j + 1 < 61 by omega)
        have hll := listN_len p (j + 1)
        cases hp : p (j + 1) with
        | false =>
          have hstep : listN p (j + 1 + 1) = listN p (j + 1) := by rw [listN, if_neg (by simp [hp])]
          rw [hp] at hget
          refine ⟨_, _, by
            simp only [runOps, runD, again, step1, wantA, opSem, evalO, evalL, evalOpt, evalParts, putA, ofConst, ofScalar, ofScalars, abin, abinInt, aun, convA, builtinA, oneTy, elemTy, loadA, storeA, storeCellsA, setAt, partA, fillA, placesA, isFn, TyI.isAgg, isSeq, isNum, sliceA, boundA, setParams, minL, minF, maxL, maxF, repZ, reduceIte, Nat.reduceLT, Nat.reduceLeDiff, Nat.reduceEqDiff, Nat.reduceAdd, Nat.reduceMul, Nat.reduceSub, Nat.reduceBEq, Int.reduceEq, Int.reduceLT, Int.reduceLE, Int.reduceToNat, reduceCtorEq, sx, fx52, t0, t4, hlt, boolsV_length, Int.natCast_nonneg, Int.toNat_natCast, hget, hw]
            rfl, by omega, ?_, ?_, out, ?_, by rw [hstep]; exact ⟨hg, hnil⟩⟩
          · simp only [Tr.get_set, Nat.reduceEqDiff, reduceIte, t0]
          · simp only [Tr.get_set, Nat.reduceEqDiff, reduceIte]
          · simp only [Tr.get_set, Nat.reduceEqDiff, reduceIte, t3]
        | true =>
          rw [hp] at hget
          have hstep : listN p (j + 1 + 1) = addN (listN p (j + 1)) ((j + 1 : Nat) : Int) := by rw [listN, if_pos ⟨by omega, hp⟩]
          have hlen : lenB (⟨.slice 64, 1, 24, [.vs .nil []]⟩ : TyI) out = some (.int .i64 ((listN p (j + 1)).length : Nat)) := by
            rcases hg.2 with ⟨h, rfl⟩ | ⟨r, _, _, rfl, _⟩
            · rw [h]; rfl
            · rfl
          have hw2 : IntKind.i64.wrap (((listN p (j + 1)).length : Int) - 1) = ((listN p (j + 1)).length : Int) - 1 := i64_id (by omega) (by omega)
          have hw3 : IntKind.i64.wrap (((j + 1 : Nat) : Int) - 1) = ((j : Nat) : Int) := by rw [i64_id (by omega) (by omega)]; omega
          obtain ⟨σ2, a1, a2, a3, a4⟩ := grew_span ((j + 1 : Nat) : Int) ((j + 1 : Nat) : Int) hg (Nat.zero_le _) (by omega)
          generalize hl : listN p (j + 1) = l0 at hg hlen hw2 hstep a1 a2 hll
          rcases nil_or_snoc l0 with rfl | ⟨l, s, rfl⟩
          · have hk0 : ¬ ((-1 : Int) ≥ 0) := by decide
            have hw4 : IntKind.i64.wrap (((0 : Nat) : Int) - 1) = -1 := i64_id (by decide) (by decide)
            simp only [List.length_nil] at hlen a1
            refine ⟨_, _, by
              simp only [runOps, runD, again, step1, wantA, opSem, evalO, evalL, evalOpt, evalParts, putA, ofConst, ofScalar, ofScalars, abin, abinInt, aun, convA, builtinA, oneTy, elemTy, loadA, storeA, storeCellsA, setAt, partA, fillA, placesA, isFn, TyI.isAgg, isSeq, isNum, sliceA, boundA, setParams, minL, minF, maxL, maxF, repZ, reduceIte, Nat.reduceLT, Nat.reduceLeDiff, Nat.reduceEqDiff, Nat.reduceAdd, Nat.reduceMul, Nat.reduceSub, Nat.reduceBEq, Int.reduceEq, Int.reduceLT, Int.reduceLE, Int.reduceToNat, reduceCtorEq, sx, fx52, t0, t3, t4, hlt, boolsV_length, Int.natCast_nonneg, Int.toNat_natCast, hget, hw, hlen, hw4, hk0, a1]
              rfl, by omega, ?_, ?_, _, ?_, by rw [hstep]; exact ⟨a2, fun h => by simp [addN] at h⟩⟩
            · simp only [Tr.get_set, Nat.reduceEqDiff, reduceIte, t0]
            · simp only [Tr.get_set, Nat.reduceEqDiff, reduceIte]
            · simp only [Tr.get_set, Nat.reduceEqDiff, reduceIte]; rfl
          · have hadd : addN (l ++ [s]) ((j + 1 : Nat) : Int) = if s.2 = ((j + 1 : Nat) : Int) - 1 then l ++ [(s.1, ((j + 1 : Nat) : Int))] else l ++ [s] ++ [(((j + 1 : Nat) : Int), ((j + 1 : Nat) : Int))] := by
              simp only [addN, List.getLast?_concat, List.dropLast_concat]
            rw [hadd] at hstep
            have hk0 : ((((l ++ [s]).length : Nat) : Int) - 1 ≥ 0) := by simp
            have hk1 : (((l ++ [s]).length : Nat) : Int) - 1 = ((l.length : Nat) : Int) := by simp
            have hw4 := hw2.trans hk1
            rw [hk1] at hk0
            obtain ⟨r, h6, h7, rfl, h9⟩ : ∃ r, 0 ≤ r ∧ r < σ1.next ∧ out = .slice r 0 (l ++ [s]).length none 2 ∧ σ1.get r = some (.row 2 true (spansC (l ++ [s]))) := by
              rcases hg.2 with ⟨h, _⟩ | h
              · simp at h
              · exact h
            have hil : ((l.length : Nat) : Int) < (((l ++ [s]).length : Nat) : Int) := by simp; omega
            have hcell := spansC_last l s
            have hput := spansC_put l s ((j + 1 : Nat) : Int)
            have hcl : (spansC (l ++ [s])).length = (l ++ [s]).length * 2 := spansC_length _
            by_cases he : s.2 = ((j + 1 : Nat) : Int) - 1
            · rw [if_pos he] at hstep
              have hb : (s.2 == ((j : Nat) : Int)) = true := by rw [beq_iff_eq]; omega
              have hin : l.length * 2 + 1 + 1 ≤ (l ++ [s]).length * 2 := by simp; omega
              refine ⟨_, _, by
                simp only [runOps, runD, again, step1, wantA, opSem, evalO, evalL, evalOpt, evalParts, putA, ofConst, ofScalar, ofScalars, abin, abinInt, aun, convA, builtinA, oneTy, elemTy, loadA, storeA, storeCellsA, setAt, partA, fillA, placesA, isFn, TyI.isAgg, isSeq, isNum, sliceA, boundA, setParams, minL, minF, maxL, maxF, repZ, reduceIte, Nat.reduceLT, Nat.reduceLeDiff, Nat.reduceEqDiff, Nat.reduceAdd, Nat.reduceMul, Nat.reduceSub, Nat.reduceBEq, Int.reduceEq, Int.reduceLT, Int.reduceLE, Int.reduceToNat, reduceCtorEq, sx, fx52, t0, t3, t4, hlt, boolsV_length, Int.natCast_nonneg, Int.toNat_natCast, hget, hw, hlen, hw4, hk0, hil, h9, hcell, hw3, hb, hput, hcl, hin]
                rfl, by omega, ?_, ?_, .slice r 0 (l ++ [s]).length none 2, ?_, ?_⟩
              · simp only [Tr.get_set, Nat.reduceEqDiff, reduceIte, t0]
              · simp only [Tr.get_set, Nat.reduceEqDiff, reduceIte]
              · simp only [Tr.get_set, Nat.reduceEqDiff, reduceIte, t3]
              · rw [hstep]
                refine ⟨⟨by rw [spansC_length], .inr ⟨r, h6, by simpa using h7, by simp, by rw [AMem.get_put, if_pos rfl]⟩⟩, fun h => by simp at h⟩
            · rw [if_neg he] at hstep
              have hb : (s.2 == ((j : Nat) : Int)) = false := by rw [beq_eq_false_iff_ne]; omega
              refine ⟨_, _, by
                simp only [runOps, runD, again, step1, wantA, opSem, evalO, evalL, evalOpt, evalParts, putA, ofConst, ofScalar, ofScalars, abin, abinInt, aun, convA, builtinA, oneTy, elemTy, loadA, storeA, storeCellsA, setAt, partA, fillA, placesA, isFn, TyI.isAgg, isSeq, isNum, sliceA, boundA, setParams, minL, minF, maxL, maxF, repZ, reduceIte, Nat.reduceLT, Nat.reduceLeDiff, Nat.reduceEqDiff, Nat.reduceAdd, Nat.reduceMul, Nat.reduceSub, Nat.reduceBEq, Int.reduceEq, Int.reduceLT, Int.reduceLE, Int.reduceToNat, reduceCtorEq, sx, fx52, t0, t3, t4, hlt, boolsV_length, Int.natCast_nonneg, Int.toNat_natCast, hget, hw, hlen, hw4, hk0, hil, h9, hcell, hw3, hb, a1]
                rfl, by omega, ?_, ?_, .slice (σ1.next + 1) 0 ((l ++ [s]).length + 1) none 2, ?_, ?_⟩
              · simp only [Tr.get_set, Nat.reduceEqDiff, reduceIte, t0]
              · simp only [Tr.get_set, Nat.reduceEqDiff, reduceIte]
              · simp only [Tr.get_set, Nat.reduceEqDiff, reduceIte]
              · rw [hstep]
                refine ⟨?_, fun h => by simp at h⟩
                have e : (l ++ [s] ++ [(((j + 1 : Nat) : Int), ((j + 1 : Nat) : Int))]).length = (l ++ [s]).length + 1 := by simp
                rw [spansC_snoc (l ++ [s]), e]
                exact a2
      · rintro T σ1 ⟨_, t0, t4, out, t3, hg⟩
        have hge : ¬ (((60 + 1 : Nat) : Int) < ((61 : Nat) : Int)) := by omega
        refine ⟨_, _, _, by
          simp only [runOps, runD, again, step1, wantA, opSem, evalO, evalL, evalOpt, evalParts, putA, ofConst, ofScalar, ofScalars, abin, abinInt, aun, convA, builtinA, oneTy, elemTy, loadA, storeA, storeCellsA, setAt, partA, fillA, placesA, isFn, TyI.isAgg, isSeq, isNum, sliceA, boundA, setParams, minL, minF, maxL, maxF, repZ, reduceIte, Nat.reduceLT, Nat.reduceLeDiff, Nat.reduceEqDiff, Nat.reduceAdd, Nat.reduceMul, Nat.reduceSub, Nat.reduceBEq, Int.reduceEq, Int.reduceLT, Int.reduceLE, Int.reduceToNat, reduceCtorEq, sx, fx52, t0, t4, boolsV_length, hge]
          rfl, by simp, rfl, out, ?_, hg⟩
        simp only [Tr.get_set, Nat.reduceEqDiff, reduceIte, t3]
      · refine ⟨Nat.zero_le _, ?_, ?_, .vs .nil [], ?_, ?_⟩
        · simp only [Tr.get_set, Nat.reduceEqDiff, reduceIte]
        · simp only [Tr.get_set, Nat.reduceEqDiff, reduceIte]; rfl
        · simp only [Tr.get_set, Nat.reduceEqDiff, reduceIte]
        · exact ⟨⟨rfl, .inl ⟨rfl, rfl⟩⟩, fun _ => rfl⟩
    simp only [runOps, runD, again, step1, wantA, opSem, evalO, evalL, evalOpt, evalParts, putA, ofConst, ofScalar, ofScalars, abin, abinInt, aun, convA, builtinA, oneTy, elemTy, loadA, storeA, storeCellsA, setAt, partA, fillA, placesA, isFn, TyI.isAgg, isSeq, isNum, sliceA, boundA, setParams, minL, minF, maxL, maxF, repZ, reduceIte, Nat.reduceLT, Nat.reduceLeDiff, Nat.reduceEqDiff, Nat.reduceAdd, Nat.reduceMul, Nat.reduceSub, Nat.reduceBEq, Int.reduceEq, Int.reduceLT, Int.reduceLE, Int.reduceToNat, reduceCtorEq, sx, fx52, h3]
    exact ⟨_, _, out, rfl, by simp only [Tr.get_set, Nat.reduceEqDiff, reduceIte], hg⟩
  obtain ⟨T1, σ1, out, h1, h2, hg⟩ := run
  obtain ⟨S2, h3⟩ := snap_spans (fr := true) (d := 10) hg
  have hs : snapL (snapF false σ snapDepth) [x] = some ([.vs .some (boolsV 61 p)], S ++ []) := by
    simp only [snapL, hx]
  exact pureCall_of hs (memo52 _) (pureRun_of fn52 rfl (by simp [Tryz.f52]) h1 (by simp) (res_one h2) h3)
end Go.Proofs.YtoomnecfapihaaaGreatDoor
