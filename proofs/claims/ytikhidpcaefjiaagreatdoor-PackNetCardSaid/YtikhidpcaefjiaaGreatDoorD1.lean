/- Nets in memory: a byte that is another one; a packet less. -/
import Derived.Test.YtikhidpcaefjiaaGreatDoorC6
import Derived.Test.YtikhidpcaefjiaaGreatDoorPaleNest
set_option maxRecDepth 100000
set_option linter.unusedSimpArgs false
set_option linter.unusedVariables false
namespace Go.Proofs.YtikhidpcaefjiaaGreatDoor
open Go Go.Proofs.YtikhidpcaefjiaaGreatDoor.Pale
variable {k : Nat} {σ : AMem}

theorem set_same {α β : Type} (f : α → β) {l : List α} {i : Nat} {x : α} (hi : i < l.length) (h : f x = f l[i]) : (l.set i x).map f = l.map f := by
  apply List.ext_getElem (by simp)
  intro n h1 h2
  simp only [List.getElem_map, List.getElem_set]
  split
  · rename_i e; subst e; exact h
  · rfl
theorem nodup_ne {α β : Type} {f : α → β} {l : List α} {i j : Nat} (h : (l.map f).Nodup) (hi : i < l.length) (hj : j < l.length) (e : i ≠ j) : f l[i] ≠ f l[j] := by
  have hp := List.pairwise_iff_getElem.1 h
  rcases Nat.lt_or_gt_of_ne e with h1 | h1
  · have := hp i j (by simpa using hi) (by simpa using hj) h1
    simpa using this
  · have := hp j i (by simpa using hj) (by simpa using hi) h1
    simpa using Ne.symm this
def spoilt (l : List (Pk × Nat)) (i a v : Nat) : List (Pk × Nat) := match l[i]? with
  | some x => l.set i ({ x.1 with b := x.1.b.set a v }, x.2)
  | none => l
theorem NetMem.spoil {low : Nat} {σ : AMem} {out : AVal} {l : List (Pk × Nat)} {i a v : Nat} (h : NetMem low σ out l) (hi : i < l.length) : NetMem low (σ.put l[i].2 (.row 1 false (bytesV (l[i].1.b.set a v)))) out (l.set i ({ l[i].1 with b := l[i].1.b.set a v }, l[i].2)) := by
  obtain ⟨⟨hcl, hcase⟩, h2, h3, h4⟩ := h
  have hm : (l.set i ({ l[i].1 with b := l[i].1.b.set a v }, l[i].2)).map (fun x => pkM x.1 x.2) = l.map fun x => pkM x.1 x.2 := set_same _ hi (by simp [pkM, capOf])
  have hr : (l.set i ({ l[i].1 with b := l[i].1.b.set a v }, l[i].2)).map (·.2) = l.map (·.2) := set_same _ hi rfl
  have hmem := h4 _ (List.getElem_mem hi)
  refine ⟨⟨?_, ?_⟩, by simpa using h2, by rw [hr]; exact h3, ?_⟩
  · rw [hm, List.length_set]; exact hcl
  · rw [hm, List.length_set]
    rcases hcase with h | ⟨r, h6, h7, h8, h9⟩
    · exact .inl h
    · exact .inr ⟨r, h6, by simpa using h7, h8, by rw [AMem.get_put, if_neg (fun e => hmem.2.2.2 l.length none 3 (by rw [h8, e]))]; exact h9⟩
  · intro x hx
    obtain ⟨j, hj, rfl⟩ := List.mem_iff_getElem.1 hx
    simp only [List.length_set] at hj
    rw [List.getElem_set]
    by_cases e : i = j
    · subst e
      rw [if_pos rfl]
      exact ⟨hmem.1, by simpa using hmem.2.1, by rw [AMem.get_put, if_pos rfl], hmem.2.2.2⟩
    · rw [if_neg e]
      obtain ⟨q1, q2, q3, q4⟩ := h4 _ (List.getElem_mem hj)
      refine ⟨q1, by simpa using q2, ?_, q4⟩
      rw [AMem.get_put, if_neg]
      · exact q3
      · intro hh
        exact nodup_ne h3 hi hj e hh
/-- The row of a list that is not empty. -/
theorem NetMem.row {low : Nat} {σ : AMem} {out : AVal} {l : List (Pk × Nat)} (h : NetMem low σ out l) (h0 : 0 < l.length) : ∃ r, low ≤ r ∧ r < σ.next ∧ out = .slice r 0 l.length none 3 ∧ σ.get r = some (.row 3 true (l.map fun x => pkM x.1 x.2).flatten) := by
  rcases h.1.2 with ⟨h, _⟩ | ⟨r, h6, h7, h8, h9⟩
  · omega
  · exact ⟨r, h6, h7, h8, h9⟩
theorem pkM_three (l : List (Pk × Nat)) : ∀ c, c ∈ l.map (fun x => pkM x.1 x.2) → c.length = 3 := by
  intro c hc
  obtain ⟨x, _, rfl⟩ := List.mem_map.1 hc
  rfl
theorem pkM_one (l : List (Pk × Nat)) : (l.map fun x => pkM x.1 x.2).flatten.all AVal.oneCell = true := by
  rw [List.all_eq_true]
  intro v hv
  obtain ⟨c, hc, hv⟩ := List.mem_flatten.1 hv
  obtain ⟨x, _, rfl⟩ := List.mem_map.1 hc
  simp only [pkM, List.mem_cons, List.not_mem_nil, or_false] at hv
  rcases hv with rfl | rfl | rfl <;> rfl

theorem delete_callN {r i n : Nat} {ls : List (List AVal)} (hn : n = ls.length) (hi : i < ls.length) (hl : ∀ l, l ∈ ls → l.length = 3) (hone : ls.flatten.all AVal.oneCell = true) (hlen : ls.length ≤ 1000000) (hr : σ.get r = some (.row 3 true ls.flatten)) (hk : 1 ≤ k) :
    ∃ σ', callN lawProg k (.func 69 [] []) [.slice r 0 n none 3, .int .i64 (i : Nat), .int .i64 ((i + 1 : Nat) : Int)] σ = some (.slice r 0 (n - 1) none 3, σ') ∧ σ'.get r = some (.row 3 true ((ls.eraseIdx i).flatten ++ [.int .i64 0, .int .i64 0, .vs .nil []])) ∧ σ'.next = σ.next ∧ ∀ s, s ≠ r → σ'.get s = σ.get s := by
  obtain ⟨k, rfl⟩ : ∃ m, k = m + 1 := ⟨k - 1, by omega⟩
  subst hn
  obtain ⟨σ1, last, a1, a2, a3, a4, a5⟩ := append_down (σ := σ) (e := tyPk) (r := r) (i := i) (n := ls.length - (i + 1)) (ls := ls) (more := []) hl hi rfl (by rw [List.append_nil]; exact hr) hone (by decide) (by decide) (by decide) (by simp only [tyPk, mostBytes]; omega)
  have hel : (ls.eraseIdx i).flatten.length = (ls.length - 1) * 3 := by
    rw [flat_length (sz := 3) (fun l h => hl l (List.mem_of_mem_eraseIdx h)), List.length_eraseIdx, if_pos hi]
  have b1 := clear_last (σ := σ1) (e := tyPk) (r := r) (n := ls.length - 1) (more := []) hel a2 a3 rfl rfl
  have hbq : ((i : Int) == ((i + 1 : Nat) : Int)) = false := by simp; omega
  have s1 := slice_three (σ := σ) (sz := 3) (r := r) (off := 0) (n := ls.length) (i := i) (j := i + 1) (m := ls.length) (z := 3) (k := .i64) (k2 := .i64) (k3 := .i64) (by omega) (by omega) (by omega)
  have s2 := slice_to (σ := σ) (sz := 3) (r := r) (off := 0) (n := ls.length) (i := i) (z := 3) (k := .i64) (by omega)
  have s3 := slice_from (σ := σ) (sz := 3) (r := r) (off := 0) (n := ls.length) (i := i + 1) (z := 3) (k := .i64) (by omega)
  have s4 := slice_behind (σ := σ1) (sz := 3) (r := r) (off := 0) (n := ls.length - 1) (i := ls.length - 1) (j := ls.length) (z := 3) (k := .i64) (k2 := .i64) (by omega) a3 (by omega) (by simp only [List.length_append, hel, List.length_nil]; have : tyPk.size = 3 := rfl; omega)
  have e4 : ls.length - (ls.length - 1) = 1 := by omega
  rw [e4] at s4
  simp only [tyPk, TyI.isAgg, Nat.zero_add] at a1 b1 s3 s4
  have e : ∃ T1, execC lawProg (callN lawProg k) k 69 33 (bodyOf Tryz.f69) (initT 0 [.slice r 0 ls.length none 3, .int .i64 (i : Nat), .int .i64 ((i + 1 : Nat) : Int)] .nil) σ = some (.ret, T1, σ1.put r (.row 3 true ((ls.eraseIdx i).flatten ++ [.int .i64 0, .int .i64 0, .vs .nil []]))) ∧ T1.get 6 = some (.slice r 0 (ls.length - 1) none 3) := by
    simp only [bodyOf, Tryz.f69, Option.getD_some, initT, q_seq, q_cond, q_block, q_region, q_drawn, q_skip, q_exit, q_ret, runOps, runD, again, step1, wantA, opSem, evalO, evalL, evalOpt, evalParts, putA, ofConst, ofScalar, ofScalars, abin, abinInt, aun, convA, builtinA, oneTy, elemTy, lenB_vs, lenB_sl, lenB_str, loadA, storeA, storeCellsA, setAt, partA, fillA, placesA, isFn, TyI.isAgg, isSeq, isNum, sliceA, boundA, cells_bool, one_bool, cells_int, one_int, cells_str, one_str, cells_ptr, one_ptr, cells_nilptr, one_nilptr, cells_slice, one_slice, cells_vs, one_vs, cells_vptr, one_vptr, cells_func, one_func, cells_yield, one_yield, cells_nilfn, one_nilfn, cells_nilmap, one_nilmap, cells_map, one_map, cells_agg, setParams, Tr.get_set, AMem.get_put, AMem.get_push, AMem.next_put, AMem.next_push, AMem.get_empty, next_empty, Option.map_some, Option.map_none, Option.bind_some, reduceIte, Nat.reduceLT, Nat.reduceLeDiff, Nat.reduceEqDiff, Nat.reduceAdd, Nat.reduceMul, Nat.reduceSub, Nat.reduceBEq, Nat.zero_add, Nat.add_zero, Nat.mul_one, Nat.one_mul, Nat.zero_mul, and_self, and_true, true_and, false_and, and_false, Bool.and_true, Bool.true_and, Bool.and_false, Bool.false_and, if_true, if_false, Int.reduceEq, Int.reduceLT, Int.reduceLE, Int.reduceToNat, Bool.false_eq_true, Bool.not_true, Bool.not_false, BEq.rfl, beq_true_true, beq_true_false, beq_false_true, beq_false_false, List.length_cons, List.length_nil, List.all_cons, List.all_nil, List.getElem?_cons_zero, List.getElem?_cons_succ, List.getElem?_nil, List.getElem?_toArray, List.take_succ_cons, List.take_zero, List.drop_succ_cons, List.drop_zero, List.set_cons_zero, List.set_cons_succ, List.append_nil, List.nil_append, List.cons_append, decide_true, decide_false, decide_eq_true_eq, Option.isNone_none, Option.isNone_some, Option.isSome_none, Option.isSome_some, Bool.or_true, Bool.true_or, Bool.or_false, Bool.false_or, ne_eq, not_false_eq_true, not_true_eq_false, reduceCtorEq, eq_self, beq_refl, minL, minF, maxL, maxF, repZ, ty3, ty5, ty22, ty40, ty44, ord69_5, hbq, s1, s2, s3, a1, s4, b1]
    exact ⟨_, rfl, by simp only [Tr.get_set, Nat.reduceEqDiff, reduceIte]⟩
  obtain ⟨T1, e1, e2⟩ := e
  exact ⟨_, q_call (first := []) (caps := []) fn69 rfl (by simp [Tryz.f69]) e1 (by simp) (res_one e2), by rw [AMem.get_put, if_pos rfl], by simpa using a4, fun s hs => by rw [AMem.get_put, if_neg (Ne.symm hs)]; exact a5 s hs⟩
end Go.Proofs.YtikhidpcaefjiaaGreatDoor
