/- The law DeltaLists: whatever lists and whatever number, it gives true. -/
import Derived.Test.YtoomnecfapihaaaGreatDoorN8
set_option maxRecDepth 100000
set_option linter.unusedSimpArgs false
set_option linter.unusedVariables false
namespace Go.Proofs.YtoomnecfapihaaaGreatDoor
open Go Go.Proofs.YtoomnecfapihaaaGreatDoor.Pale
variable {k : Nat} {σ : AMem}

theorem awake_call (call : CallA) : pureCall lawProg call (.func 5 [] []) [] σ = some (.bool true, σ) := pureCall_memo (args := []) rfl memo5
theorem spansOf_len (p : Nat → Bool) : (spansOf p).length ≤ 61 := listN_len p 61
theorem unionR_form (a b : List Sp) : ∃ K L, (unionR a b).1 = .vs K (spansV L) ∧ L.length ≤ 61 := by
  unfold unionR
  split
  · exact ⟨_, _, rfl, spansOf_len _⟩
  · exact ⟨.nil, [], rfl, by simp⟩
theorem lacksR_form (a : List Sp) (n : Int) : ∃ K L, (lacksR a n).1 = .vs K (spansV L) ∧ L.length ≤ 61 := by
  unfold lacksR
  split
  · split
    · exact ⟨_, _, rfl, spansOf_len _⟩
    · exact ⟨.nil, [], rfl, by simp⟩
  · exact ⟨.nil, [], rfl, by simp⟩
theorem spansC_one (l : List Sp) : (spansC l).all AVal.oneCell = true := by
  induction l with
  | nil => rfl
  | cons s l ih =>
    have : spansC (s :: l) = spanC s ++ spansC l := rfl
    rw [this, List.all_append, ih]
    rfl
theorem source_spans {σ : AMem} (K : VK) (l : List Sp) : sourceA 2 σ (.vs K (spansV l)) = some (spansC l, l.length) := by
  have h1 : (spansV l).flatMap AVal.cells = spansC l := by
    induction l with
    | nil => rfl
    | cons s l ih => rw [show spansV (s :: l) = spanV s :: spansV l from rfl, List.flatMap_cons, ih]; rfl
  simp [sourceA, h1, spansC_length, spansV_length]
  intro x hx
  obtain ⟨s, _, rfl⟩ := List.mem_map.1 hx
  rfl
/-- A copy of a list of spans. -/
theorem copy_spans {σ : AMem} (K : VK) (l : List Sp) (hn : l.length ≤ 1000) : ∃ x σ', appendA (⟨.struct [(0, 3), (1, 3)], 2, 16, [.int .i64 0, .int .i64 0]⟩ : TyI) (σ.push (.row 2 true [])) (.slice σ.next 0 0 (some 0) 2) (.vs K (spansV l)) = some (x, σ') ∧ Ext σ σ' ∧ ∃ r cap, x = .slice r 0 l.length cap 2 ∧ σ.next ≤ r ∧ r < σ'.next ∧ σ'.get r = some (.row 2 true (spansC l)) := by
  have hg : (σ.push (.row 2 true [])).get σ.next = some (.row 2 true []) := by rw [AMem.get_push, if_pos rfl]
  by_cases h0 : l.length = 0
  · obtain rfl := List.eq_nil_of_length_eq_zero h0
    exact ⟨.slice σ.next 0 0 (some 0) 2, σ.push (.row 2 true []), by simp only [appendA, source_spans, List.length_nil, if_true], Ext.push _ _, σ.next, some 0, rfl, Nat.le_refl _, by simp, hg⟩
  · refine ⟨.slice (σ.next + 1) 0 l.length none 2, (σ.push (.row 2 true [])).push (.row 2 true (spansC l)), ?_, (Ext.push _ _).trans (Ext.push _ _), σ.next + 1, none, rfl, by omega, by simp, by rw [AMem.get_push, if_pos (by simp)]⟩
    simp only [appendA, source_spans, hg]
    rw [if_neg h0, if_neg (by simp), if_pos (by simp only [mostBytes]; omega), if_pos trivial, if_neg (by omega), if_pos (by simp)]
    simp
    rfl
theorem snap_copy {fr : Bool} {σ : AMem} {r d : Nat} {cap : Option Nat} {l : List Sp} (hg : σ.get r = some (.row 2 true (spansC l))) : snapF fr σ (d + 2) (.slice r 0 l.length cap 2) = some (.vs .some (spansV l), [r]) := by
  have := snap_structs (fr := fr) (σ := σ) (d := d) (r := r) (n := l.length) (cap := cap) (sz := 2) (ls := l.map spanC) (ps := l.map spanC) (S := []) (by omega) (by simp) rfl (fun x hx => by obtain ⟨s, _, rfl⟩ := List.mem_map.1 hx; rfl) (fun x hx => by obtain ⟨s, _, rfl⟩ := List.mem_map.1 hx; rfl) hg (snapL_spans fr σ d l)
  rw [this, spansV, List.map_map]
  rfl
theorem lists_run (ka kb : VK) (a b : List Sp) (n : Int) (hk : 5000 ≤ k) : ∃ σ', callN lawProg (k + 1) (.func 3 [] []) [.vs ka (spansV a), .vs kb (spansV b), .int .i64 n] AMem.empty = some (.bool true, σ') := by
  have run : ∃ T1 σ1, execC lawProg (callN lawProg k) k 3 87 (bodyOf Tryz.f3) (initT 0 [.vs ka (spansV a), .vs kb (spansV b), .int .i64 n] .nil) AMem.empty = some (.ret, T1, σ1) ∧ T1.get 6 = some (.bool true) := by
    by_cases h1 : ((a.length : Nat) : Int) > 40
    · simp only [bodyOf, Tryz.f3, Option.getD_some, initT, runOps, runD, again, step1, wantA, opSem, evalO, evalL, evalOpt, evalParts, putA, ofConst, ofScalar, ofScalars, abin, abinInt, aun, convA, builtinA, oneTy, elemTy, loadA, storeA, storeCellsA, setAt, partA, fillA, placesA, isFn, TyI.isAgg, isSeq, isNum, sliceA, boundA, setParams, minL, minF, maxL, maxF, repZ, reduceIte, Nat.reduceLT, Nat.reduceLeDiff, Nat.reduceEqDiff, Nat.reduceAdd, Nat.reduceMul, Nat.reduceSub, Nat.reduceBEq, Int.reduceEq, Int.reduceLT, Int.reduceLE, Int.reduceToNat, reduceCtorEq, sx, fx3, spansV_length, h1, awake_call]
      exact ⟨_, _, rfl, by simp only [Tr.get_set, Nat.reduceEqDiff, reduceIte]⟩
    · by_cases h2 : ((b.length : Nat) : Int) > 40
      · simp only [bodyOf, Tryz.f3, Option.getD_some, initT, runOps, runD, again, step1, wantA, opSem, evalO, evalL, evalOpt, evalParts, putA, ofConst, ofScalar, ofScalars, abin, abinInt, aun, convA, builtinA, oneTy, elemTy, loadA, storeA, storeCellsA, setAt, partA, fillA, placesA, isFn, TyI.isAgg, isSeq, isNum, sliceA, boundA, setParams, minL, minF, maxL, maxF, repZ, reduceIte, Nat.reduceLT, Nat.reduceLeDiff, Nat.reduceEqDiff, Nat.reduceAdd, Nat.reduceMul, Nat.reduceSub, Nat.reduceBEq, Int.reduceEq, Int.reduceLT, Int.reduceLE, Int.reduceToNat, reduceCtorEq, sx, fx3, spansV_length, h1, h2, awake_call]
        exact ⟨_, _, rfl, by simp only [Tr.get_set, Nat.reduceEqDiff, reduceIte]⟩
      · obtain ⟨x, σ1, a1, e1, r1, c1, rfl, _, n1, g1⟩ := copy_spans (σ := AMem.empty) ka a (by omega)
        obtain ⟨y, σ2, a2, e2, r2, c2, rfl, _, n2, g2⟩ := copy_spans (σ := σ1) kb b (by omega)
        rw [next_empty] at a1
        have g1' : σ2.get r1 = some (.row 2 true (spansC a)) := by rw [e2.2 r1 n1]; exact g1
        have px := snap_copy (fr := false) (d := 10) (cap := c1) g1'
        have py := snap_copy (fr := false) (d := 10) (cap := c2) g2
        obtain ⟨K1, L1, f1, l1⟩ := unionR_form a b
        obtain ⟨K2, L2, f2, l2⟩ := lacksR_form a n
        have d1 := dunion_call (k := k) px py (by omega) (by omega) (by omega)
        have d2 := dlacks_call (k := k) (n := n) px (by omega) (by omega)
        have d3 := runion_call (k := k) (σ := σ2) (ka := ka) (kb := kb) (a := a) (b := b) (by omega) (by omega) (by omega)
        have d4 := rlacks_call (k := k) (σ := σ2) (ka := ka) (a := a) (n := n) (by omega) (by omega)
        rw [f1] at d1 d3
        rw [f2] at d2 d4
        have s1 := sameSpans_call (k := k) (σ := σ2) (x := .vs K1 (spansV L1)) (y := .vs K1 (spansV L1)) (S := []) (S2 := []) rfl rfl (by omega) (by omega)
        have s2 := sameSpans_call (k := k) (σ := σ2) (x := .vs K2 (spansV L2)) (y := .vs K2 (spansV L2)) (S := []) (S2 := []) rfl rfl (by omega) (by omega)
        have s3 := sameSpans_call (k := k) (σ := σ2) (y := .vs ka (spansV a)) (S2 := []) px rfl (by omega) (by omega)
        have s4 := sameSpans_call (k := k) (σ := σ2) (y := .vs kb (spansV b)) (S2 := []) py rfl (by omega) (by omega)
        simp only [decide_true] at s1 s2 s3 s4
        simp only [bodyOf, Tryz.f3, Option.getD_some, initT, runOps, runD, again, step1, wantA, opSem, evalO, evalL, evalOpt, evalParts, putA, ofConst, ofScalar, ofScalars, abin, abinInt, aun, convA, builtinA, oneTy, elemTy, loadA, storeA, storeCellsA, setAt, partA, fillA, placesA, isFn, TyI.isAgg, isSeq, isNum, sliceA, boundA, setParams, minL, minF, maxL, maxF, repZ, reduceIte, Nat.reduceLT, Nat.reduceLeDiff, Nat.reduceEqDiff, Nat.reduceAdd, Nat.reduceMul, Nat.reduceSub, Nat.reduceBEq, Int.reduceEq, Int.reduceLT, Int.reduceLE, Int.reduceToNat, reduceCtorEq, sx, fx3, spansV_length, h1, h2, a1, a2, d1, d2, d3, d4, s1, s2, s3, s4, awake_call]
        exact ⟨_, _, rfl, by simp only [Tr.get_set, Nat.reduceEqDiff, reduceIte]⟩
  obtain ⟨T1, σ1, h1, h2⟩ := run
  exact ⟨σ1, q_call (first := []) (caps := []) fn3 rfl (by simp [Tryz.f3]) h1 (by simp) (res_one h2)⟩

/-! ### spans as arguments -/
variable {P : Program} {tl ts ti n : Nat}
theorem elem_span {x : AVal} (hs : rkOf P ts = .agg [(ti, 0), (ti, 1)]) (cs : P.cellsOf ts = 2) (ci : P.cellsOf ti = 1) (hi : rkOf P ti = .int .i64) (h : ElemFit P n ts x) : ∃ s : Sp, x = spanV s := by
  obtain ⟨c, m, rfl, hlen, hall⟩ := elem_agg hs h
  rw [cs] at hlen
  obtain ⟨a, b, rfl⟩ : ∃ a b, c = [a, b] := by
    match c, hlen with
    | [a, b], _ => exact ⟨a, b, rfl⟩
  have h0 := hall (ti, 0) (by simp)
  have h1 := hall (ti, 1) (by simp)
  simp only [ci, List.drop_zero, List.drop_succ_cons, List.take_succ_cons, List.take_zero] at h0 h1
  obtain ⟨x, e0, _⟩ := fit_int hi h0
  obtain ⟨y, e1, _⟩ := fit_int hi h1
  simp only [List.cons.injEq, and_true] at e0 e1
  subst e0; subst e1
  exact ⟨(x, y), rfl⟩
theorem elem_spans {x : AVal} (hl : rkOf P tl = .slice ts) (hs : rkOf P ts = .agg [(ti, 0), (ti, 1)]) (cs : P.cellsOf ts = 2) (ci : P.cellsOf ti = 1) (hi : rkOf P ti = .int .i64) (h : ElemFit P n tl x) : ∃ (vk : VK) (l : List Sp), x = .vs vk (spansV l) := by
  obtain ⟨m, vk, es, rfl, _, _, _, h2⟩ := elem_slice hl h
  obtain ⟨l, rfl, _⟩ := list_form (f := spanV) (Q := fun _ => True) es (fun x hx => by
    obtain ⟨s, h⟩ := elem_span hs cs ci hi (h2 x hx)
    exact ⟨s, h, trivial⟩)
  exact ⟨vk, l, rfl⟩
end Go.Proofs.YtoomnecfapihaaaGreatDoor
