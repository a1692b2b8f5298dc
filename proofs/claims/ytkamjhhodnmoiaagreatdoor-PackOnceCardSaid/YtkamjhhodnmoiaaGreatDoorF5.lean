/- slices.DeleteFunc over sheaves in memory. -/
import Derived.Test.YtkamjhhodnmoiaaGreatDoorF4
set_option maxRecDepth 100000
set_option linter.unusedSimpArgs false
set_option linter.unusedVariables false
namespace Go.Proofs.YtkamjhhodnmoiaaGreatDoor
open Go Go.Proofs.YtkamjhhodnmoiaaGreatDoor.Pale
variable {k : Nat} {σ : AMem}

theorem flat_cell {ls : List (List AVal)} {more : List AVal} {sz : Nat} (h : ∀ l, l ∈ ls → l.length = sz) : ∀ i (hi : i < (ls.map AVal.agg).length), 0 + i * sz + sz ≤ (ls.flatten ++ more).length ∧ .agg (((ls.flatten ++ more).drop (0 + i * sz)).take sz) = (ls.map AVal.agg)[i] := by
  intro i hi
  rw [List.length_map] at hi
  refine ⟨?_, ?_⟩
  · rw [Nat.zero_add, List.length_append, flat_length h]
    have : i * sz + sz ≤ ls.length * sz := by rw [← Nat.succ_mul]; exact Nat.mul_le_mul_right _ hi
    omega
  · rw [Nat.zero_add, flat_elem h hi, List.getElem_map]

/-- DeleteFunc: what is kept comes first, in its order. -/
theorem deleteFunc_callN {r rc g : Nat} {crow : AObj} (ls : List (List AVal)) (p : AVal → Bool) (hl : ∀ l, l ∈ ls → l.length = 2) (hone : ∀ l, l ∈ ls → l.all AVal.oneCell = true) (hlen : ls.length ≤ 1000) (hr : σ.get r = some (.row 2 true ls.flatten)) (hrn : r < σ.next) (hrc : rc ≠ r) (hrcn : rc < σ.next) (hcr : σ.get rc = some crow)
    (hf : ∀ l, l ∈ ls → ∀ σ' : AMem, σ'.get rc = some crow → rc < σ'.next → ∃ σ'', callN lawProg k (.func g [] [.ptr rc 0]) [.agg l] σ' = some (.bool (p (.agg l)), σ'') ∧ Ext σ' σ'') (hf2 : ∀ l, l ∈ ls → ∀ σ' : AMem, σ'.get rc = some crow → rc < σ'.next → ∃ σ'', callN lawProg (k + 1) (.func g [] [.ptr rc 0]) [.agg l] σ' = some (.bool (p (.agg l)), σ'') ∧ Ext σ' σ'') (hk : 2000 ≤ k) :
    ∃ σ' zs, callN lawProg (k + 2) (.func 64 [] []) [.slice r 0 ls.length none 2, .func g [] [.ptr rc 0]] σ = some (.slice r 0 (ls.filter fun l => !p (.agg l)).length none 2, σ') ∧ σ.next ≤ σ'.next ∧ (∀ s, s < σ.next → s ≠ r → σ'.get s = σ.get s) ∧
      σ'.get r = some (.row 2 true ((ls.filter fun l => !p (.agg l)).flatten ++ zs)) ∧ zs.length = (ls.length - (ls.filter fun l => !p (.agg l)).length) * 2 := by
  obtain ⟨σ1, c1, x1⟩ := sheaf_m (k := k) (σ := σ) (r := r) (off := 0) (n := ls.length) (cap := none) (cells := ls.flatten ++ []) (ls.map AVal.agg) (by simp) (by rw [List.append_nil]; exact hr) hrn (flat_cell hl) g [.ptr rc 0] p (by simp; omega) (fun h => by cases h) (fun e he σ' hx => by
    obtain ⟨l, hl', rfl⟩ := List.mem_map.1 he
    exact hf l hl' σ' ((hx.2 _ hrcn).trans hcr) (by have := hx.1; omega)) (by simp; omega)
  have hr1 : σ1.get r = some (.row 2 true ls.flatten) := (x1.2 r hrn).trans hr
  have hc1 : σ1.get rc = some crow := (x1.2 rc hrcn).trans hcr
  have hn1 := x1.1
  by_cases hno : idxI p (ls.map AVal.agg) = -1
  · have hall : ∀ l, l ∈ ls → (!p (.agg l)) = true := by
      intro l hl'
      have := idxI_any p (ls.map AVal.agg)
      rw [hno] at this
      have h2 : (ls.map AVal.agg).any p = false := by rw [← this]; rfl
      rw [List.any_eq_false] at h2
      have := h2 _ (List.mem_map.2 ⟨l, hl', rfl⟩)
      simpa using this
    have hfil : ls.filter (fun l => !p (.agg l)) = ls := List.filter_eq_self.2 hall
    have hbq : (idxI p (ls.map AVal.agg) == -1) = true := by rw [hno]; rfl
    refine ⟨σ1, [], ?_, hn1, fun s hs _ => x1.2 s hs, by rw [hfil, List.append_nil]; exact hr1, by rw [hfil]; simp⟩
    have e : ∃ T1, execC lawProg (callN lawProg (k + 1)) (k + 1) 64 42 (bodyOf Tryz.f64) (initT 0 [.slice r 0 ls.length none 2, .func g [] [.ptr rc 0]] .nil) σ = some (.ret, T1, σ1) ∧ T1.get 4 = some (.slice r 0 ls.length none 2) := by
      simp only [bodyOf, Tryz.f64, Option.getD_some, initT, runOps, runD, again, step1, wantA, opSem, evalO, evalL, evalOpt, evalParts, putA, ofConst, ofScalar, ofScalars, abin, abinInt, aun, convA, builtinA, oneTy, elemTy, loadA, storeA, storeCellsA, setAt, partA, fillA, placesA, isFn, TyI.isAgg, isSeq, isNum, sliceA, boundA, setParams, minL, minF, maxL, maxF, repZ, reduceIte, Nat.reduceLT, Nat.reduceLeDiff, Nat.reduceEqDiff, Nat.reduceAdd, Nat.reduceMul, Nat.reduceSub, Nat.reduceBEq, Int.reduceEq, Int.reduceLT, Int.reduceLE, Int.reduceToNat, reduceCtorEq, sx, fx64, c1, hbq]
      exact ⟨_, rfl, by simp only [Tr.get_set, Nat.reduceEqDiff, reduceIte]⟩
    obtain ⟨T1, e1, e2⟩ := e
    rw [hfil]
    exact q_call (first := []) (caps := []) fn64 rfl (by simp [Tryz.f64]) e1 (by simp) (res_one e2)
  · -- the first that goes
    obtain ⟨d, hd, hdI, hpre, hpd⟩ : ∃ d, ∃ hd : d < ls.length, idxI p (ls.map AVal.agg) = (d : Int) ∧ (∀ l, l ∈ ls.take d → p (.agg l) = false) ∧ p (.agg ls[d]) = true := by
      have key : ∀ (ls : List (List AVal)), idxI p (ls.map AVal.agg) ≠ -1 → ∃ d, ∃ hd : d < ls.length, idxI p (ls.map AVal.agg) = (d : Int) ∧ (∀ l, l ∈ ls.take d → p (.agg l) = false) ∧ p (.agg ls[d]) = true := by
        intro ls
        induction ls with
        | nil => intro h; exact absurd rfl h
        | cons x ls ih =>
          intro h
          cases hx : p (.agg x) with
          | true => exact ⟨0, by simp, by simp [idxI, hx], by simp, by simpa using hx⟩
          | false =>
            simp only [List.map_cons, idxI, hx, Bool.false_eq_true, if_false] at h ⊢
            have hne : idxI p (ls.map AVal.agg) ≠ -1 := by
              intro he
              rw [if_pos (by omega)] at h
              exact h rfl
            obtain ⟨d, hd, h1, h2, h3⟩ := ih hne
            refine ⟨d + 1, by simpa using hd, ?_, ?_, by simpa using h3⟩
            · rw [if_neg (by omega), h1]; omega
            · intro l hl'
              rw [List.take_succ_cons, List.mem_cons] at hl'
              rcases hl' with rfl | hl'
              · exact hx
              · exact h2 l hl'
      exact key ls hno
    have hbq : (((d : Nat) : Int) == -1) = false := by rw [beq_eq_false_iff_ne]; omega
    have hw0 := i64_succ (i := d) (by omega)
    rw [hdI] at c1
    have hfd : (ls.take (d + 1)).filter (fun l => !p (.agg l)) = ls.take d := by
      rw [List.take_succ_eq_append_getElem hd, List.filter_append, List.filter_eq_self.2 (fun l hl' => by rw [hpre l hl']; rfl)]
      simp [hpd]
    have run : ∃ T2 σ2 zs, execC lawProg (callN lawProg (k + 1)) (k + 1) 64 42 (bodyOf Tryz.f64) (initT 0 [.slice r 0 ls.length none 2, .func g [] [.ptr rc 0]] .nil) σ = some (.ret, T2, σ2) ∧ T2.get 4 = some (.slice r 0 (ls.filter fun l => !p (.agg l)).length none 2) ∧ σ.next ≤ σ2.next ∧ (∀ s, s < σ.next → s ≠ r → σ2.get s = σ.get s) ∧
        σ2.get r = some (.row 2 true ((ls.filter fun l => !p (.agg l)).flatten ++ zs)) ∧ zs.length = (ls.length - (ls.filter fun l => !p (.agg l)).length) * 2 := by
      simp only [bodyOf, Tryz.f64, Option.getD_some, initT, runOps, runD, again, step1, wantA, opSem, evalO, evalL, evalOpt, evalParts, putA, ofConst, ofScalar, ofScalars, abin, abinInt, aun, convA, builtinA, oneTy, elemTy, loadA, storeA, storeCellsA, setAt, partA, fillA, placesA, isFn, TyI.isAgg, isSeq, isNum, sliceA, boundA, setParams, minL, minF, maxL, maxF, repZ, reduceIte, Nat.reduceLT, Nat.reduceLeDiff, Nat.reduceEqDiff, Nat.reduceAdd, Nat.reduceMul, Nat.reduceSub, Nat.reduceBEq, Int.reduceEq, Int.reduceLT, Int.reduceLE, Int.reduceToNat, reduceCtorEq, sx, fx64, c1, hbq, hw0]
      generalize hL : execC _ _ _ _ _ (Code.loop _) _ _ = q
      obtain ⟨e, T', σ2, rfl, _, rfl, t0, t5, hn2, keep, ls', hl1, hl2, hrow, htake⟩ : ∃ e T' σ2, q = some (e, T', σ2) ∧ e ≠ .normal ∧ (e = .exit 0 ∧ T'.get 0 = some (.slice r 0 ls.length none 2) ∧ T'.get 5 = some (.int .i64 (ls.filter fun l => !p (.agg l)).length) ∧ σ1.next ≤ σ2.next ∧ (∀ s, s < σ1.next → s ≠ r → σ2.get s = σ1.get s) ∧ ∃ ls' : List (List AVal), ls'.length = ls.length ∧ (∀ l, l ∈ ls' → l.length = 2 ∧ l.all AVal.oneCell = true) ∧ σ2.get r = some (.row 2 true ls'.flatten) ∧ ls'.take (ls.filter fun l => !p (.agg l)).length = ls.filter fun l => !p (.agg l)) := by
        rw [← hL]
        refine exec_loop (fun m T σ2 => d + 1 + m ≤ ls.length ∧ T.get 0 = some (.slice r 0 ls.length none 2) ∧ T.get 1 = some (.func g [] [.ptr rc 0]) ∧ T.get 5 = some (.int .i64 ((ls.take (d + 1 + m)).filter fun l => !p (.agg l)).length) ∧ T.get 6 = some (.int .i64 ((d + 1 + m : Nat) : Int)) ∧ σ1.next ≤ σ2.next ∧ (∀ s, s < σ1.next → s ≠ r → σ2.get s = σ1.get s) ∧ ∃ ls' : List (List AVal), ls'.length = ls.length ∧ (∀ l, l ∈ ls' → l.length = 2 ∧ l.all AVal.oneCell = true) ∧ σ2.get r = some (.row 2 true ls'.flatten) ∧ ls'.take ((ls.take (d + 1 + m)).filter fun l => !p (.agg l)).length = ((ls.take (d + 1 + m)).filter fun l => !p (.agg l)) ∧ ls'.drop (d + 1 + m) = ls.drop (d + 1 + m)) (ls.length - (d + 1)) (by omega) ?_ ?_ ?_
        · rintro m hm T σ2 ⟨_, t0, t1, t5, t6, hn2, keep, ls', hl1, hl2, hrow, htake, hdrop⟩
          have hj : d + 1 + m < ls.length := by omega
          have hj' : d + 1 + m < ls'.length := by omega
          have hlt : ((d + 1 + m : Nat) : Int) < ((ls.length : Nat) : Int) := by omega
          have hw := i64_succ (i := d + 1 + m) (by omega)
          have hsame : ls'[d + 1 + m] = ls[d + 1 + m] := by
            have h1 := List.drop_eq_getElem_cons hj
            have h2 := List.drop_eq_getElem_cons hj'
            rw [hdrop, h1] at h2
            simp only [List.cons.injEq] at h2
            exact h2.1.symm
          have hls2 : ∀ l, l ∈ ls' → l.length = 2 := fun l h => (hl2 l h).1
          obtain ⟨ce1, ce2⟩ := flat_cell (more := []) hls2 (d + 1 + m) (by simpa using hj')
          rw [List.append_nil, Nat.zero_add] at ce1 ce2
          rw [List.getElem_map, hsame] at ce2
          simp only [AVal.agg.injEq] at ce2
          have hmem := List.getElem_mem hj
          have hlen2 := hl _ hmem
          have hone2 := hone _ hmem
          obtain ⟨a, b, hab⟩ : ∃ a b, ls[d + 1 + m] = [a, b] := by
            match h : ls[d + 1 + m], hlen2 with
            | [a, b], _ => exact ⟨a, b, rfl⟩
          rw [hab] at ce2 hone2 hmem
          simp only [List.all_cons, List.all_nil, Bool.and_true, Bool.and_eq_true] at hone2
          obtain ⟨ha1, hb1⟩ := hone2
          have hac := cells_one ha1
          have hbc := cells_one hb1
          obtain ⟨σ3, f1, f2⟩ := hf2 _ hmem ((σ2.push (.row 2 true [.int .i64 0, .vs .nil []])).put σ2.next (.row 2 true [a, b])) (by
            rw [AMem.get_put, if_neg (by omega), AMem.get_push, if_neg (by omega), keep rc (by omega) hrc]; exact hc1) (by simp; omega)
          have f3 : ∀ s, s < σ2.next → σ3.get s = σ2.get s := fun s hs => by rw [f2.2 s (by simp; omega), AMem.get_put, if_neg (by omega), AMem.get_push, if_neg (by omega)]
          have f4 : σ3.get σ2.next = some (.row 2 true [a, b]) := by rw [f2.2 _ (by simp), AMem.get_put, if_pos rfl]
          have f5 : σ2.next + 1 ≤ σ3.next := by have := f2.1; simpa using this
          have hrow3 : σ3.get r = some (.row 2 true ls'.flatten) := by rw [f3 r (by omega)]; exact hrow
          have hq1 : ¬ σ2.next = r := by omega
          have hq2 : ¬ r = σ2.next := by omega
          have hfs : (ls.take (d + 1 + m + 1)).filter (fun l => !p (.agg l)) = ((ls.take (d + 1 + m)).filter fun l => !p (.agg l)) ++ if p (.agg ls[d + 1 + m]) then [] else [ls[d + 1 + m]] := by
            rw [List.take_succ_eq_append_getElem hj, List.filter_append]
            congr 1
            cases hpx : p (.agg ls[d + 1 + m]) <;> simp [hpx]
          have hle := List.length_filter_le (fun l => !p (.agg l)) (ls.take (d + 1 + m))
          rw [List.length_take] at hle
          have hdrop2 : ls'.drop (d + 1 + m + 1) = ls.drop (d + 1 + m + 1) := by
            have := congrArg (List.drop 1) hdrop
            simpa [List.drop_drop] using this
          rw [hab] at hfs
          cases hp : p (.agg [a, b]) with
          | true =>
            rw [hp] at f1
            rw [hp] at hfs
            simp only [if_true, List.append_nil] at hfs
            refine ⟨_, _, by
              simp only [runOps, runD, again, step1, wantA, opSem, evalO, evalL, evalOpt, evalParts, putA, ofConst, ofScalar, ofScalars, abin, abinInt, aun, convA, builtinA, oneTy, elemTy, loadA, storeA, storeCellsA, setAt, partA, fillA, placesA, isFn, TyI.isAgg, isSeq, isNum, sliceA, boundA, setParams, minL, minF, maxL, maxF, repZ, reduceIte, Nat.reduceLT, Nat.reduceLeDiff, Nat.reduceEqDiff, Nat.reduceAdd, Nat.reduceMul, Nat.reduceSub, Nat.reduceBEq, Int.reduceEq, Int.reduceLT, Int.reduceLE, Int.reduceToNat, reduceCtorEq, sx, fx64, t0, t1, t5, t6, hlt, Int.natCast_nonneg, Int.toNat_natCast, hrow, ce1, ce2, ha1, hb1, hac, hbc, hq1, f1, hw]
              rfl, by omega, ?_, ?_, ?_, ?_, by omega, fun s h1 h2 => by rw [f3 s (by omega)]; exact keep s h1 h2, ls', hl1, hl2, hrow3, ?_, by rw [show d + 1 + (m + 1) = d + 1 + m + 1 by omega]; exact hdrop2⟩
            · simp only [Tr.get_set, Nat.reduceEqDiff, reduceIte, t0]
            · simp only [Tr.get_set, Nat.reduceEqDiff, reduceIte, t1]
            · rw [show d + 1 + (m + 1) = d + 1 + m + 1 by omega, hfs]; simp only [Tr.get_set, Nat.reduceEqDiff, reduceIte, t5]
            · simp only [Tr.get_set, Nat.reduceEqDiff, reduceIte]; rfl
            · rw [show d + 1 + (m + 1) = d + 1 + m + 1 by omega, hfs]; exact htake
          | false =>
            rw [hp] at f1
            rw [hp] at hfs
            simp only [Bool.false_eq_true, if_false] at hfs
            generalize hF : ((ls.take (d + 1 + m)).filter fun l => !p (.agg l)) = F at *
            have hFl : F.length ≤ d + 1 + m := by omega
            have hFn : F.length < ls'.length := by omega
            have hilt : ((F.length : Nat) : Int) < ((ls.length : Nat) : Int) := by omega
            have hw2 := i64_succ (i := F.length) (by omega)
            have hfit : F.length * 2 + 2 ≤ ls'.flatten.length := by
              rw [flat_length hls2]
              have : F.length * 2 + 2 ≤ ls'.length * 2 := by omega
              exact this
            have hset : (ls'.flatten.set (F.length * 2) a).set (F.length * 2 + 1) b = (ls'.set F.length [a, b]).flatten := by
              have h1 := flat_setAt (more := []) (j := 0) (vs := [a, b]) hls2 hFn (by simp)
              rw [List.append_nil, List.append_nil, Nat.add_zero] at h1
              have hlf : ls'[F.length].length = 2 := hls2 _ (List.getElem_mem hFn)
              have h2 : setAt ls'[F.length] 0 [a, b] = [a, b] := by
                rw [setAt_split (by simp [hlf]), List.take_zero, List.drop_eq_nil_of_le (by simp [hlf]), List.nil_append, List.append_nil]
              rw [h2] at h1
              exact h1
            have hfit2 : F.length * 2 + 1 + 1 ≤ ls'.flatten.length := by omega
            refine ⟨_, _, by
              simp only [runOps, runD, again, step1, wantA, opSem, evalO, evalL, evalOpt, evalParts, putA, ofConst, ofScalar, ofScalars, abin, abinInt, aun, convA, builtinA, oneTy, elemTy, loadA, storeA, storeCellsA, setAt, partA, fillA, placesA, isFn, TyI.isAgg, isSeq, isNum, sliceA, boundA, setParams, minL, minF, maxL, maxF, repZ, reduceIte, Nat.reduceLT, Nat.reduceLeDiff, Nat.reduceEqDiff, Nat.reduceAdd, Nat.reduceMul, Nat.reduceSub, Nat.reduceBEq, Int.reduceEq, Int.reduceLT, Int.reduceLE, Int.reduceToNat, reduceCtorEq, sx, fx64, t0, t1, t5, t6, hlt, hilt, Int.natCast_nonneg, Int.toNat_natCast, hrow, ce1, ce2, ha1, hb1, hac, hbc, hq1, hq2, f1, f4, hrow3, hfit, hfit2, hset, hw, hw2]
              rfl, by omega, ?_, ?_, ?_, ?_, by simp only [AMem.next_put]; omega, fun s h1 h2 => by rw [AMem.get_put, if_neg (Ne.symm h2), f3 s (by omega)]; exact keep s h1 h2, ls'.set F.length [a, b], by rw [List.length_set]; exact hl1, ?_, by rw [AMem.get_put, if_pos rfl], ?_, ?_⟩
            · simp only [Tr.get_set, Nat.reduceEqDiff, reduceIte, t0]
            · simp only [Tr.get_set, Nat.reduceEqDiff, reduceIte, t1]
            · rw [show d + 1 + (m + 1) = d + 1 + m + 1 by omega, hfs, List.length_append, List.length_singleton]; simp only [Tr.get_set, Nat.reduceEqDiff, reduceIte]
            · simp only [Tr.get_set, Nat.reduceEqDiff, reduceIte]; rfl
            · intro l hl'
              rcases List.mem_or_eq_of_mem_set hl' with h | rfl
              · exact hl2 l h
              · exact ⟨rfl, by simp [ha1, hb1]⟩
            · rw [show d + 1 + (m + 1) = d + 1 + m + 1 by omega, hfs, List.length_append, List.length_singleton, List.take_succ_eq_append_getElem (by rw [List.length_set]; exact hFn), List.getElem_set, if_pos rfl, List.take_set_of_le (Nat.le_refl _), htake]
            · rw [show d + 1 + (m + 1) = d + 1 + m + 1 by omega, List.drop_set_of_lt (by omega)]; exact hdrop2
        · rintro T σ2 ⟨_, t0, t1, t5, t6, hn2, keep, ls', hl1, hl2, hrow, htake, hdrop⟩
          have hall : d + 1 + (ls.length - (d + 1)) = ls.length := by omega
          rw [hall] at t5 t6 htake
          rw [List.take_length] at t5 htake
          refine ⟨_, _, _, by
            simp only [runOps, runD, again, step1, wantA, opSem, evalO, evalL, evalOpt, evalParts, putA, ofConst, ofScalar, ofScalars, abin, abinInt, aun, convA, builtinA, oneTy, elemTy, loadA, storeA, storeCellsA, setAt, partA, fillA, placesA, isFn, TyI.isAgg, isSeq, isNum, sliceA, boundA, setParams, minL, minF, maxL, maxF, repZ, reduceIte, Nat.reduceLT, Nat.reduceLeDiff, Nat.reduceEqDiff, Nat.reduceAdd, Nat.reduceMul, Nat.reduceSub, Nat.reduceBEq, Int.reduceEq, Int.reduceLT, Int.reduceLE, Int.reduceToNat, reduceCtorEq, sx, fx64, t0, t1, t5, t6, Int.lt_irrefl]
            rfl, by simp, rfl, ?_, ?_, hn2, keep, ls', hl1, hl2, hrow, htake⟩
          · simp only [Tr.get_set, Nat.reduceEqDiff, reduceIte, t0]
          · simp only [Tr.get_set, Nat.reduceEqDiff, reduceIte, t5]
        · refine ⟨by omega, ?_, ?_, ?_, ?_, Nat.le_refl _, fun _ _ _ => rfl, ls, rfl, fun l h => ⟨hl l h, hone l h⟩, hr1, ?_, rfl⟩
          · simp only [Tr.get_set, Nat.reduceEqDiff, reduceIte]
          · simp only [Tr.get_set, Nat.reduceEqDiff, reduceIte]
          · rw [Nat.add_zero, hfd, List.length_take, Nat.min_eq_left (by omega)]; simp only [Tr.get_set, Nat.reduceEqDiff, reduceIte]
          · simp only [Tr.get_set, Nat.reduceEqDiff, reduceIte, Nat.add_zero]
          · rw [Nat.add_zero, hfd, List.length_take, Nat.min_eq_left (by omega)]
      have hls2 : ∀ l, l ∈ ls' → l.length = 2 := fun l h => (hl2 l h).1
      generalize hF : (ls.filter fun l => !p (.agg l)) = F at *
      have hFl : F.length ≤ ls.length := by rw [← hF]; exact List.length_filter_le _ _
      have hfl : ls'.flatten.length = ls.length * 2 := by rw [flat_length hls2, hl1]
      have s1 := slice_from (σ := σ2) (sz := 2) (r := r) (off := 0) (n := ls.length) (i := F.length) (z := 2) (k := .i64) hFl
      rw [Nat.zero_add] at s1
      have s2 : ∀ σ : AMem, sliceM σ 2 r 0 ls.length none 2 none (some (.int .i64 (F.length : Nat))) none = some (.slice r 0 F.length none 2) := fun σ => slice_to (off := 0) (z := 2) hFl
      have hrest : ∃ σ4, clearA (⟨.struct [(0, 3), (1, 41)], 2, 32, [.int .i64 0, .vs .nil []]⟩ : TyI) σ2 (.slice r (F.length * 2) (ls.length - F.length) none 2) = some (.tuple [], σ4) ∧ σ2.next ≤ σ4.next ∧ (∀ s, s ≠ r → σ4.get s = σ2.get s) ∧ ∃ zs, σ4.get r = some (.row 2 true (F.flatten ++ zs)) ∧ zs.length = (ls.length - F.length) * 2 := by
        have htk : ls'.flatten.take (F.length * 2) = F.flatten := by
          have := flat_take (more := []) hls2 (show F.length ≤ ls'.length by omega)
          rw [List.append_nil, htake] at this
          exact this
        by_cases h0 : ls.length - F.length = 0
        · refine ⟨σ2, by simp only [clearA, if_pos h0], Nat.le_refl _, fun _ _ => rfl, [], ?_, by rw [h0]; rfl⟩
          rw [List.append_nil, hrow, ← htk, List.take_of_length_le (by omega)]
        · have hzl : ∀ n, (repZ [AVal.int .i64 0, .vs .nil []] n).length = n * 2 ∧ (repZ [AVal.int .i64 0, .vs .nil []] n).all AVal.oneCell = true := by
            intro n
            induction n with
            | zero => exact ⟨rfl, rfl⟩
            | succ n ih => exact ⟨by simp only [repZ, List.length_append, ih.1, List.length_cons, List.length_nil]; omega, by simp only [repZ, List.all_append, ih.2]; rfl⟩
          obtain ⟨z1, z2⟩ := hzl (ls.length - F.length)
          have hc : (decide (F.length * 2 + (repZ [AVal.int .i64 0, .vs .nil []] (ls.length - F.length)).length ≤ ls'.flatten.length) && (repZ [AVal.int .i64 0, .vs .nil []] (ls.length - F.length)).all AVal.oneCell) = true := by
            rw [z2, Bool.and_true]; exact decide_eq_true (by rw [z1, hfl, ← Nat.add_mul]; exact Nat.mul_le_mul_right _ (by omega))
          have hs : setAt ls'.flatten (F.length * 2) (repZ [AVal.int .i64 0, .vs .nil []] (ls.length - F.length)) = F.flatten ++ repZ [AVal.int .i64 0, .vs .nil []] (ls.length - F.length) := by
            rw [setAt_split (by rw [z1, hfl, ← Nat.add_mul]; exact Nat.mul_le_mul_right _ (by omega)), htk, List.drop_eq_nil_of_le (by rw [z1, hfl, ← Nat.add_mul]; exact Nat.mul_le_mul_right _ (by omega)), List.append_nil]
          refine ⟨σ2.put r (.row 2 true (F.flatten ++ repZ [AVal.int .i64 0, .vs .nil []] (ls.length - F.length))), ?_, by simp, fun s hs => by rw [AMem.get_put, if_neg (Ne.symm hs)], _, by rw [AMem.get_put, if_pos rfl], z1⟩
          simp only [clearA, if_neg h0, storeCellsA, hrow, hc, if_true, hs, Option.map_some]
      obtain ⟨σ4, q1, q2, q3, zs, q4, q5⟩ := hrest
      simp only [runOps, runD, again, step1, wantA, opSem, evalO, evalL, evalOpt, evalParts, putA, ofConst, ofScalar, ofScalars, abin, abinInt, aun, convA, builtinA, oneTy, elemTy, loadA, storeA, storeCellsA, setAt, partA, fillA, placesA, isFn, TyI.isAgg, isSeq, isNum, sliceA, boundA, setParams, minL, minF, maxL, maxF, repZ, reduceIte, Nat.reduceLT, Nat.reduceLeDiff, Nat.reduceEqDiff, Nat.reduceAdd, Nat.reduceMul, Nat.reduceSub, Nat.reduceBEq, Int.reduceEq, Int.reduceLT, Int.reduceLE, Int.reduceToNat, reduceCtorEq, sx, fx64, t0, t5, s1, q1, s2]
      exact ⟨_, σ4, zs, rfl, by simp only [Tr.get_set, Nat.reduceEqDiff, reduceIte], by omega, fun s h1 h2 => by rw [q3 s h2, keep s (by omega) h2]; exact x1.2 s h1, q4, q5⟩
    obtain ⟨T2, σ2, zs, e1, e2, e3, e4, e5, e6⟩ := run
    exact ⟨σ2, zs, q_call (first := []) (caps := []) fn64 rfl (by simp [Tryz.f64]) e1 (by simp) (res_one e2), e3, e4, e5, e6⟩
end Go.Proofs.YtkamjhhodnmoiaaGreatDoor
