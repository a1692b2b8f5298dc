/- The program's own copy of a sorter. -/
import Derived.Test.YtkamjhhodnmoiaaGreatDoorF3
set_option maxRecDepth 100000
set_option linter.unusedSimpArgs false
set_option linter.unusedVariables false
namespace Go.Proofs.YtkamjhhodnmoiaaGreatDoor
open Go Go.Proofs.YtkamjhhodnmoiaaGreatDoor.Pale
variable {k : Nat} {σ : AMem}

def tySh : TyI := (⟨.struct [(0, 3), (1, 41)], 2, 32, [.int .i64 0, .vs .nil []]⟩ : TyI)
def tyPart : TyI := (⟨.slice 5, 1, 24, [.vs .nil []]⟩ : TyI)
theorem tySh_ok : lawProg.ty 53 = some tySh := ty53
/-- A sheaf whose parts lie in a row. -/
def itemOf (s : Sh) (r : Nat) (cap : Option Nat) : MItem := ⟨[.int .i64 s.name], .slice r 0 s.data.length cap 1, s.data.map partV⟩
theorem itemOf_cells (s : Sh) (r : Nat) (cap : Option Nat) : (itemOf s r cap).cells = [.int .i64 s.name, .slice r 0 s.data.length cap 1] := rfl
theorem parts_pure (l : List Part) : (l.map partV).all pureB = true := by
  rw [List.all_eq_true]
  intro x hx
  obtain ⟨p, _, rfl⟩ := List.mem_map.1 hx
  rfl
/-- The list of sheaves of a sorter in memory, away from a row. -/
def SrtMem (low : Nat) (σ : AMem) (q : Nat) (out : AVal) (l : List (Sh × Nat × Option Nat)) : Prop :=
  Items low σ q (l.map fun x => itemOf x.1 x.2.1 x.2.2) ∧
    ((l = [] ∧ out = .vs .nil []) ∨ ∃ r, low ≤ r ∧ r < σ.next ∧ r ≠ q ∧ r ∉ l.map (fun x => x.2.1) ∧ out = .slice r 0 l.length none 2 ∧ σ.get r = some (.row 2 true ((l.map fun x => itemOf x.1 x.2.1 x.2.2).map MItem.cells).flatten))
theorem rowsOf_items (l : List (Sh × Nat × Option Nat)) : rowsOf (l.map fun x => itemOf x.1 x.2.1 x.2.2) = l.map fun x => x.2.1 := by
  induction l with
  | nil => rfl
  | cons x l ih => simp only [rowsOf, List.map_cons, List.flatMap_cons] at ih ⊢; rw [ih]; rfl
theorem SrtMem.one {low : Nat} {σ : AMem} {q : Nat} {out : AVal} {l : List (Sh × Nat × Option Nat)} (h : SrtMem low σ q out l) : out.oneCell = true := by
  rcases h.2 with ⟨_, rfl⟩ | ⟨_, _, _, _, _, rfl, _⟩ <;> rfl
theorem SrtMem.same {low : Nat} {σ σ' : AMem} {q : Nat} {out : AVal} {l : List (Sh × Nat × Option Nat)} (h : SrtMem low σ q out l) (hn : σ.next ≤ σ'.next) (hs : ∀ s, low ≤ s → s < σ.next → s ≠ q → σ'.get s = σ.get s) : SrtMem low σ' q out l := by
  obtain ⟨h1, h2⟩ := h
  refine ⟨h1.same (Nat.le_refl _) hn (fun r hr => ?_) h1.2.2, ?_⟩
  · have := h1.bound r hr
    exact hs r this.1 this.2 (fun e => h1.2.2 (e ▸ hr))
  · rcases h2 with h | ⟨r, a, b, c, d, e, f⟩
    · exact .inl h
    · exact .inr ⟨r, a, by omega, c, d, e, by rw [hs r a b c]; exact f⟩
theorem SrtMem.grew {low : Nat} {σ : AMem} {q : Nat} {out : AVal} {l : List (Sh × Nat × Option Nat)} (h : SrtMem low σ q out l) : Grew low σ 2 true out l.length ((l.map fun x => itemOf x.1 x.2.1 x.2.2).map MItem.cells).flatten := by
  refine ⟨?_, ?_⟩
  · rw [flat_length (sz := 2) (by
      intro c hc
      simp only [List.map_map, List.mem_map] at hc
      obtain ⟨x, _, rfl⟩ := hc
      rfl), List.length_map, List.length_map]
  · rcases h.2 with ⟨rfl, rfl⟩ | ⟨r, a, b, c, d, e, f⟩
    · exact .inl ⟨rfl, rfl⟩
    · exact .inr ⟨r, a, b, e, f⟩
/-- One sheaf more, whose parts lie in a row of their own. -/
theorem SrtMem.add {low q r : Nat} {cap : Option Nat} {σ : AMem} {out : AVal} {l : List (Sh × Nat × Option Nat)} {s : Sh} (h : SrtMem low σ q out l) (hlow : low ≤ σ.next) (hq : q < σ.next) (hr1 : low ≤ r) (hr2 : r < σ.next) (hr3 : σ.get r = some (.row 1 false (s.data.map partV))) (hrl : r ∉ l.map fun x => x.2.1) (hrq : r ≠ q) (hro : ∀ n c z, out ≠ .slice r 0 n c z) (hn : l.length ≤ 1000000) :
    ∃ σ', appendA tySh (σ.push (.row 2 true [.int .i64 s.name, .slice r 0 s.data.length cap 1])) out (.slice σ.next 0 1 (some 1) 2) = some (.slice (σ.next + 1) 0 (l.length + 1) none 2, σ') ∧ SrtMem low σ' q (.slice (σ.next + 1) 0 (l.length + 1) none 2) (l ++ [(s, r, cap)]) ∧ σ'.next = σ.next + 2 ∧ (∀ s, s < low → σ'.get s = σ.get s) ∧ ∀ s, s < σ.next → out ≠ .slice s 0 l.length none 2 → σ'.get s = σ.get s := by
  obtain ⟨σ', a1, a2, a3, a4, a5⟩ := Grew.one (e := tySh) (xs := [.int .i64 s.name, .slice r 0 s.data.length cap 1]) h.grew hlow rfl (by decide) (by decide) (by decide) (by simp only [tySh, mostBytes]; omega) rfl
  have keep : ∀ x, x ∈ l.map (fun x => x.2.1) → σ'.get x = σ.get x := fun x hx => by
    have hb := h.1.bound x (by rw [rowsOf_items]; exact hx)
    refine a5 x hb.2 (fun e => ?_)
    rcases h.2 with ⟨rfl, _⟩ | ⟨r', _, _, _, hd, he, _⟩
    · simp at hx
    · rw [he] at e
      simp only [AVal.slice.injEq] at e
      exact hd (e.1 ▸ hx)
  refine ⟨σ', a1, ⟨?_, .inr ⟨σ.next + 1, by omega, by omega, by omega, ?_, by simp, ?_⟩⟩, a3, a4, a5⟩
  · rw [List.map_append]
    refine Items.add (h.1.same (Nat.le_refl _) (by omega) (fun x hx => keep x (by rw [rowsOf_items] at hx; exact hx)) h.1.2.2) ⟨rfl, parts_pure _, .inr ⟨r, cap, by simp [itemOf], hr1, by omega, ?_⟩⟩ (fun x hx => ?_)
    · show σ'.get r = some (.row 1 false (s.data.map partV))
      rw [a5 r hr2 (hro _ _ _)]; exact hr3
    · simp only [itemOf, rowOf, List.mem_singleton] at hx
      subst hx
      exact ⟨by rw [rowsOf_items]; exact hrl, hrq⟩
  · rw [List.map_append, List.mem_append]
    rintro (hx | hx)
    · have := h.1.bound _ (by rw [rowsOf_items]; exact hx); omega
    · simp only [List.map_cons, List.map_nil, List.mem_singleton] at hx; omega
  · rcases a2.2 with ⟨h0, _⟩ | ⟨r', _, _, e1, e2⟩
    · omega
    · simp only [AVal.slice.injEq] at e1
      rw [← e1.1] at e2
      rw [List.map_append, List.map_append, List.flatten_append]
      exact e2

theorem open_callN (lk : VK) (shs : List Sh) (hn : shs.length ≤ 1000) (hd : ∀ s, s ∈ shs → 0 < s.data.length ∧ s.data.length ≤ 1000 ∧ ∀ p, p ∈ s.data → p.1 = .some ∧ p.2.length ≤ 1000) (hk : 3000 ≤ k) :
    ∃ q out l σ1, callN lawProg k (.func 28 [] []) [.agg [.vs lk (shs.map shV)]] σ = some (.ptr q 0, σ1) ∧ Ext σ σ1 ∧ σ.next ≤ q ∧ q < σ1.next ∧ σ1.get q = some (.row 1 true [out]) ∧ SrtMem σ.next σ1 q out l ∧ l.map (·.1) = shs := by
  obtain ⟨k, rfl⟩ : ∃ m, k = m + 1 := ⟨k - 1, by omega⟩
  obtain ⟨b, hbn⟩ : ∃ b, b = σ.next := ⟨_, rfl⟩
  have run : ∃ T1 σ1 out l, execC lawProg (callN lawProg k) k 28 50 (bodyOf Tryz.f28) (initT 0 [.agg [.vs lk (shs.map shV)]] .nil) σ = some (.ret, T1, σ1) ∧ T1.get 2 = some (.ptr (b + 1) 0) ∧ Ext σ σ1 ∧ b + 2 ≤ σ1.next ∧ σ1.get (b + 1) = some (.row 1 true [out]) ∧ SrtMem (b + 2) σ1 (b + 1) out l ∧ l.map (·.1) = shs := by
    simp only [bodyOf, Tryz.f28, Option.getD_some, initT, runOps, runD, again, step1, wantA, opSem, evalO, evalL, evalOpt, evalParts, putA, ofConst, ofScalar, ofScalars, abin, abinInt, aun, convA, builtinA, oneTy, elemTy, loadA, storeA, storeCellsA, setAt, partA, fillA, placesA, isFn, TyI.isAgg, isSeq, isNum, sliceA, boundA, setParams, minL, minF, maxL, maxF, repZ, reduceIte, Nat.reduceLT, Nat.reduceLeDiff, Nat.reduceEqDiff, Nat.reduceAdd, Nat.reduceMul, Nat.reduceSub, Nat.reduceBEq, Int.reduceEq, Int.reduceLT, Int.reduceLE, Int.reduceToNat, reduceCtorEq, sx, fx28, Nat.add_assoc, Nat.add_eq_left, Nat.left_eq_add, Nat.add_left_cancel_iff, List.length_map, ← hbn]
    generalize hL : execC _ _ _ _ _ (Code.loop _) _ _ = r
    obtain ⟨e, T', σ', rfl, _, rfl, f3, out, l, m1, m2, m3, m4, m5⟩ : ∃ e T' σ', r = some (e, T', σ') ∧ e ≠ .normal ∧ (e = .exit 0 ∧ T'.get 3 = some (.ptr (b + 1) 0) ∧ ∃ out l, σ'.get (b + 1) = some (.row 1 true [out]) ∧ Ext σ σ' ∧ b + 2 ≤ σ'.next ∧ SrtMem (b + 2) σ' (b + 1) out l ∧ l.map (·.1) = shs) := by
      rw [← hL]
      refine exec_loop (fun i T σ' => i ≤ shs.length ∧ T.get 3 = some (.ptr (b + 1) 0) ∧ T.get 12 = some (.vs lk (shs.map shV)) ∧ T.get 13 = some (.int .i64 shs.length) ∧ T.get 14 = some (.int .i64 i) ∧ ∃ out l, σ'.get (b + 1) = some (.row 1 true [out]) ∧ Ext σ σ' ∧ b + 2 ≤ σ'.next ∧ SrtMem (b + 2) σ' (b + 1) out l ∧ l.map (·.1) = shs.take i) shs.length (by omega) ?_ ?_ ?_
      · rintro i hi T σ' ⟨_, t3, t12, t13, t14, out, l, m1, m2, m3, m4, m5⟩
        have hlt : (i : Int) < shs.length := by omega
        have hll : l.length = i := by have := congrArg List.length m5; simpa [Nat.min_eq_left (Nat.le_of_lt hi)] using this
        obtain ⟨d0, d1, d2⟩ := hd _ (List.getElem_mem hi)
        have hw := i64_succ (i := i) (by omega)
        obtain ⟨y, hy⟩ : ∃ y, y = σ'.next + 1 := ⟨_, rfl⟩
        have qy : ¬ σ'.next = y := by omega
        have qy2 : ¬ y = σ'.next := by omega
        simp only [runOps, runD, again, step1, wantA, opSem, evalO, evalL, evalOpt, evalParts, putA, ofConst, ofScalar, ofScalars, abin, abinInt, aun, convA, builtinA, oneTy, elemTy, loadA, storeA, storeCellsA, setAt, partA, fillA, placesA, isFn, TyI.isAgg, isSeq, isNum, sliceA, boundA, setParams, minL, minF, maxL, maxF, repZ, reduceIte, Nat.reduceLT, Nat.reduceLeDiff, Nat.reduceEqDiff, Nat.reduceAdd, Nat.reduceMul, Nat.reduceSub, Nat.reduceBEq, Int.reduceEq, Int.reduceLT, Int.reduceLE, Int.reduceToNat, reduceCtorEq, sx, fx28, Nat.add_assoc, Nat.add_eq_left, Nat.left_eq_add, Nat.add_left_cancel_iff, t3, t12, t13, t14, hlt, Int.natCast_nonneg, Int.toNat_natCast, sh_get hi, List.length_map, ← hy, qy, qy2]
        generalize hL2 : execC _ _ _ _ _ (Code.loop _) _ _ = r2
        obtain ⟨e, T2, σ2, rfl, _, rfl, u3, u6, u12, u13, u14, od, n1, n2, n3, n4⟩ : ∃ e T' σ2, r2 = some (e, T', σ2) ∧ e ≠ .normal ∧ (e = .exit 2 ∧ T'.get 3 = some (.ptr (b + 1) 0) ∧ T'.get 6 = some (.ptr y 0) ∧ T'.get 12 = some (.vs lk (shs.map shV)) ∧ T'.get 13 = some (.int .i64 shs.length) ∧ T'.get 14 = some (.int .i64 i) ∧ ∃ od, σ2.get y = some (.row 2 true [.int .i64 shs[i].name, od]) ∧ y + 1 ≤ σ2.next ∧ (∀ s, s < y → s ≠ σ'.next → σ2.get s = σ'.get s) ∧ Grew (y + 1) σ2 1 false od shs[i].data.length (shs[i].data.map partV)) := by
          rw [← hL2]
          refine exec_loop (fun j T σ2 => j ≤ shs[i].data.length ∧ T.get 3 = some (.ptr (b + 1) 0) ∧ T.get 6 = some (.ptr y 0) ∧ T.get 12 = some (.vs lk (shs.map shV)) ∧ T.get 13 = some (.int .i64 shs.length) ∧ T.get 14 = some (.int .i64 i) ∧ T.get 22 = some (.vs shs[i].dk (shs[i].data.map partV)) ∧ T.get 23 = some (.int .i64 shs[i].data.length) ∧ T.get 24 = some (.int .i64 j) ∧ ∃ od, σ2.get y = some (.row 2 true [.int .i64 shs[i].name, od]) ∧ y + 1 ≤ σ2.next ∧ (∀ s, s < y → s ≠ σ'.next → σ2.get s = σ'.get s) ∧ Grew (y + 1) σ2 1 false od j ((shs[i].data.take j).map partV)) shs[i].data.length (by omega) ?_ ?_ ?_
          · rintro j hj T σ2 ⟨_, t3, t6, t12, t13, t14, t22, t23, t24, od, n1, n2, n3, n4⟩
            have hlt : (j : Int) < shs[i].data.length := by omega
            have hw := i64_succ (i := j) (by omega)
            obtain ⟨p1, p2⟩ := d2 _ (List.getElem_mem hj)
            have hg := part_get hj
            rw [p1] at hg
            have hcl := fun (σ : AMem) => clone_call (k := k) (σ := σ) shs[i].data[j].2 .some (by decide) (by omega) (by omega)
            obtain ⟨σ3, a1, a2, a3, a4, a5⟩ := Grew.one (e := tyPart) (xs := [.vs .some (bytesV shs[i].data[j].2)]) n4 n2 rfl (by decide) (by decide) (by decide) (by simp only [tyPart, mostBytes]; omega) rfl
            simp only [tyPart, TyI.isAgg] at a1
            have k1 : σ3.get y = some (.row 2 true [.int .i64 shs[i].name, od]) := by rw [a4 y (by omega)]; exact n1
            have hod : od.oneCell = true := by rcases n4.2 with ⟨_, rfl⟩ | ⟨_, _, _, rfl, _⟩ <;> rfl
            refine ⟨_, _, by
              simp only [runOps, runD, again, step1, wantA, opSem, evalO, evalL, evalOpt, evalParts, putA, ofConst, ofScalar, ofScalars, abin, abinInt, aun, convA, builtinA, oneTy, elemTy, loadA, storeA, storeCellsA, setAt, partA, fillA, placesA, isFn, TyI.isAgg, isSeq, isNum, sliceA, boundA, setParams, minL, minF, maxL, maxF, repZ, reduceIte, Nat.reduceLT, Nat.reduceLeDiff, Nat.reduceEqDiff, Nat.reduceAdd, Nat.reduceMul, Nat.reduceSub, Nat.reduceBEq, Int.reduceEq, Int.reduceLT, Int.reduceLE, Int.reduceToNat, reduceCtorEq, sx, fx28, Nat.add_assoc, Nat.add_eq_left, Nat.left_eq_add, Nat.add_left_cancel_iff, t3, t6, t12, t13, t14, t22, t23, t24, hlt, Int.natCast_nonneg, Int.toNat_natCast, hg, hcl, n1, a1, k1, hw]
              rfl, hj, ?_, ?_, ?_, ?_, ?_, ?_, ?_, ?_, .slice (σ2.next + 1) 0 (j + 1) none 1, ?_, ?_, ?_, ?_⟩
            · simp only [Tr.get_set, Nat.reduceEqDiff, reduceIte, t3]
            · simp only [Tr.get_set, Nat.reduceEqDiff, reduceIte, t6]
            · simp only [Tr.get_set, Nat.reduceEqDiff, reduceIte, t12]
            · simp only [Tr.get_set, Nat.reduceEqDiff, reduceIte, t13]
            · simp only [Tr.get_set, Nat.reduceEqDiff, reduceIte, t14]
            · simp only [Tr.get_set, Nat.reduceEqDiff, reduceIte, t22]
            · simp only [Tr.get_set, Nat.reduceEqDiff, reduceIte, t23]
            · simp only [Tr.get_set, Nat.reduceEqDiff, reduceIte]
            · rw [AMem.get_put, if_pos rfl]
            · simp only [AMem.next_put]; omega
            · intro s h1 h2
              rw [AMem.get_put, if_neg (by omega), a4 s (by omega), n3 s h1 h2]
            · rw [List.take_succ_eq_append_getElem hj, List.map_append]
              have hpe : [shs[i].data[j]].map partV = [.vs .some (bytesV shs[i].data[j].2)] := by
                simp only [List.map_cons, List.map_nil, partV, p1]
              rw [hpe]
              obtain ⟨g1, g2⟩ := a2
              refine ⟨g1, ?_⟩
              rcases g2 with h | ⟨r, h6, h7, h8, h9⟩
              · exact .inl h
              · exact .inr ⟨r, h6, by simpa using h7, h8, by rw [AMem.get_put, if_neg (by omega)]; exact h9⟩
          · rintro T σ2 ⟨_, t3, t6, t12, t13, t14, t22, t23, t24, od, n1, n2, n3, n4⟩
            rw [List.take_length] at n4
            exact ⟨_, _, _, by
              simp only [runOps, runD, again, step1, wantA, opSem, evalO, evalL, evalOpt, evalParts, putA, ofConst, ofScalar, ofScalars, abin, abinInt, aun, convA, builtinA, oneTy, elemTy, loadA, storeA, storeCellsA, setAt, partA, fillA, placesA, isFn, TyI.isAgg, isSeq, isNum, sliceA, boundA, setParams, minL, minF, maxL, maxF, repZ, reduceIte, Nat.reduceLT, Nat.reduceLeDiff, Nat.reduceEqDiff, Nat.reduceAdd, Nat.reduceMul, Nat.reduceSub, Nat.reduceBEq, Int.reduceEq, Int.reduceLT, Int.reduceLE, Int.reduceToNat, reduceCtorEq, sx, fx28, Nat.add_assoc, Nat.add_eq_left, Nat.left_eq_add, Nat.add_left_cancel_iff, t22, t23, t24, Int.lt_irrefl]
              rfl, by simp, rfl, by simp only [Tr.get_set, Nat.reduceEqDiff, reduceIte, t3], by simp only [Tr.get_set, Nat.reduceEqDiff, reduceIte, t6], by simp only [Tr.get_set, Nat.reduceEqDiff, reduceIte, t12], by simp only [Tr.get_set, Nat.reduceEqDiff, reduceIte, t13], by simp only [Tr.get_set, Nat.reduceEqDiff, reduceIte, t14], od, n1, n2, n3, n4⟩
          · refine ⟨Nat.zero_le _, ?_, ?_, ?_, ?_, ?_, ?_, ?_, ?_, .vs .nil [], ?_, ?_, ?_, ⟨rfl, .inl ⟨rfl, rfl⟩⟩⟩
            · simp only [Tr.get_set, Nat.reduceEqDiff, reduceIte, t3]
            · simp only [Tr.get_set, Nat.reduceEqDiff, reduceIte]
            · simp only [Tr.get_set, Nat.reduceEqDiff, reduceIte, t12]
            · simp only [Tr.get_set, Nat.reduceEqDiff, reduceIte, t13]
            · simp only [Tr.get_set, Nat.reduceEqDiff, reduceIte, t14]
            · simp only [Tr.get_set, Nat.reduceEqDiff, reduceIte]
            · simp only [Tr.get_set, Nat.reduceEqDiff, reduceIte]
            · simp only [Tr.get_set, Nat.reduceEqDiff, reduceIte]; rfl
            · simp only [AMem.get_put, AMem.get_push, AMem.next_put, AMem.next_push, ← hy, reduceIte]
            · simp only [AMem.next_put, AMem.next_push]; omega
            · intro s h1 h2
              simp only [AMem.get_put, AMem.get_push, AMem.next_put, AMem.next_push, ← hy, show ¬ y = s by omega, show ¬ σ'.next = s by omega, if_false]
        obtain ⟨g1, g2⟩ := n4
        rcases g2 with ⟨h0, _⟩ | ⟨rd, h6, h7, rfl, h9⟩
        · omega
        have u1 : σ2.get (b + 1) = some (.row 1 true [out]) := by rw [n3 _ (by omega) (by omega)]; exact m1
        have m4' : SrtMem (b + 2) σ2 (b + 1) out l := m4.same (by omega) fun s h1 h2 h3 => n3 s (by omega) (by omega)
        have hbd : ∀ x, x ∈ l.map (fun x => x.2.1) → x < σ'.next := fun x hx => (m4.1.bound x (by rw [rowsOf_items]; exact hx)).2
        obtain ⟨σ3, a1, a2, a3, a4, a5⟩ := m4'.add (s := shs[i]) (r := rd) (cap := none) (by omega) (by omega) (by omega) h7 h9 (fun hx => by have := hbd _ hx; omega) (by omega) (fun n c z e => by
          rcases m4.2 with ⟨_, rfl⟩ | ⟨r', _, hb, _, _, rfl, _⟩
          · cases e
          · simp only [AVal.slice.injEq] at e; omega) (by omega)
        simp only [tySh, hll] at a1
        have v1 : σ3.get (b + 1) = some (.row 1 true [out]) := by rw [a4 _ (by omega)]; exact u1
        have ho := m4.one
        simp only [runOps, runD, again, step1, wantA, opSem, evalO, evalL, evalOpt, evalParts, putA, ofConst, ofScalar, ofScalars, abin, abinInt, aun, convA, builtinA, oneTy, elemTy, loadA, storeA, storeCellsA, setAt, partA, fillA, placesA, isFn, TyI.isAgg, isSeq, isNum, sliceA, boundA, setParams, minL, minF, maxL, maxF, repZ, reduceIte, Nat.reduceLT, Nat.reduceLeDiff, Nat.reduceEqDiff, Nat.reduceAdd, Nat.reduceMul, Nat.reduceSub, Nat.reduceBEq, Int.reduceEq, Int.reduceLT, Int.reduceLE, Int.reduceToNat, reduceCtorEq, sx, fx28, Nat.add_assoc, Nat.add_eq_left, Nat.left_eq_add, Nat.add_left_cancel_iff, u3, u6, u12, u13, u14, u1, n1, a1, v1, hw, ho]
        refine ⟨_, _, rfl, hi, ?_, ?_, ?_, ?_, .slice (σ2.next + 1) 0 (i + 1) none 2, l ++ [(shs[i], rd, none)], ?_, ?_, ?_, ?_, ?_⟩
        · simp only [Tr.get_set, Nat.reduceEqDiff, reduceIte, u3]
        · simp only [Tr.get_set, Nat.reduceEqDiff, reduceIte, u12]
        · simp only [Tr.get_set, Nat.reduceEqDiff, reduceIte, u13]
        · simp only [Tr.get_set, Nat.reduceEqDiff, reduceIte]
        · rw [AMem.get_put, if_pos rfl]
        · refine Ext.put ⟨by have := m2.1; omega, fun s hs => ?_⟩ _ _ (by omega)
          rw [a4 s (by omega), n3 s (by omega) (by have := m2.1; omega)]
          exact m2.2 s hs
        · simp only [AMem.next_put]; omega
        · rw [hll] at a2
          exact a2.same (by simp) fun s h1 h2 h3 => by rw [AMem.get_put, if_neg (Ne.symm h3)]
        · rw [List.map_append, m5, List.take_succ_eq_append_getElem hi]; rfl
      · rintro T σ' ⟨_, t3, t12, t13, t14, out, l, m1, m2, m3, m4, m5⟩
        refine ⟨_, _, _, by
          simp only [runOps, runD, again, step1, wantA, opSem, evalO, evalL, evalOpt, evalParts, putA, ofConst, ofScalar, ofScalars, abin, abinInt, aun, convA, builtinA, oneTy, elemTy, loadA, storeA, storeCellsA, setAt, partA, fillA, placesA, isFn, TyI.isAgg, isSeq, isNum, sliceA, boundA, setParams, minL, minF, maxL, maxF, repZ, reduceIte, Nat.reduceLT, Nat.reduceLeDiff, Nat.reduceEqDiff, Nat.reduceAdd, Nat.reduceMul, Nat.reduceSub, Nat.reduceBEq, Int.reduceEq, Int.reduceLT, Int.reduceLE, Int.reduceToNat, reduceCtorEq, sx, fx28, Nat.add_assoc, Nat.add_eq_left, Nat.left_eq_add, Nat.add_left_cancel_iff, t3, t12, t13, t14, Int.lt_irrefl]
          rfl, by simp, rfl, ?_, out, l, m1, m2, m3, m4, ?_⟩
        · simp only [Tr.get_set, Nat.reduceEqDiff, reduceIte, t3]
        · rw [m5, List.take_length]
      · refine ⟨Nat.zero_le _, ?_, ?_, ?_, ?_, .vs .nil [], [], ?_, ?_, ?_, ⟨Items.nil _ _ _, .inl ⟨rfl, rfl⟩⟩, by simp⟩
        · simp only [Tr.get_set, Nat.reduceEqDiff, reduceIte]
        · simp only [Tr.get_set, Nat.reduceEqDiff, reduceIte]
        · simp only [Tr.get_set, Nat.reduceEqDiff, reduceIte]
        · simp only [Tr.get_set, Nat.reduceEqDiff, reduceIte]; rfl
        · simp only [AMem.get_put, AMem.get_push, AMem.next_push, ← hbn, Nat.add_assoc, Nat.reduceAdd, Nat.add_eq_left, Nat.left_eq_add, Nat.add_left_cancel_iff, Nat.reduceEqDiff, reduceIte]
        · exact (Ext.push _ _).trans (Ext.push _ _)
        · simp [← hbn]
    simp only [runOps, runD, again, step1, wantA, opSem, evalO, evalL, evalOpt, evalParts, putA, ofConst, ofScalar, ofScalars, abin, abinInt, aun, convA, builtinA, oneTy, elemTy, loadA, storeA, storeCellsA, setAt, partA, fillA, placesA, isFn, TyI.isAgg, isSeq, isNum, sliceA, boundA, setParams, minL, minF, maxL, maxF, repZ, reduceIte, Nat.reduceLT, Nat.reduceLeDiff, Nat.reduceEqDiff, Nat.reduceAdd, Nat.reduceMul, Nat.reduceSub, Nat.reduceBEq, Int.reduceEq, Int.reduceLT, Int.reduceLE, Int.reduceToNat, reduceCtorEq, sx, fx28, Nat.add_assoc, Nat.add_eq_left, Nat.left_eq_add, Nat.add_left_cancel_iff, f3]
    exact ⟨_, _, out, l, rfl, by simp only [Tr.get_set, Nat.reduceEqDiff, reduceIte], m2, m3, m1, m4, m5⟩
  obtain ⟨T1, σ1, out, l, h1, h2, h3, h4, h5, h6, h7⟩ := run
  refine ⟨b + 1, out, l, σ1, q_call (first := []) (caps := []) fn28 rfl (by simp [Tryz.f28]) h1 (by simp) (res_one h2), h3, by omega, by omega, h5, ?_, h7⟩
  obtain ⟨g1, g2⟩ := h6
  refine ⟨g1.same (by omega) (Nat.le_refl _) (fun _ _ => rfl) g1.2.2, ?_⟩
  rcases g2 with h | ⟨r, a, b', c⟩
  · exact .inl h
  · exact .inr ⟨r, by omega, b', c⟩
end Go.Proofs.YtkamjhhodnmoiaaGreatDoor
