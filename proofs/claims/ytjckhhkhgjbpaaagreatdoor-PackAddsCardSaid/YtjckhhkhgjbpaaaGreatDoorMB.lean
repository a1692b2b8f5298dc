import Derived.Test.YtjckhhkhgjbpaaaGreatDoorMA
/- The program's own copy of a sorter. -/
set_option maxRecDepth 100000
set_option linter.unusedSimpArgs false
set_option linter.unusedVariables false
namespace Go.Proofs.YtjckhhkhgjbpaaaGreatDoor
open Go Go.Proofs.YtjckhhkhgjbpaaaGreatDoor.Pale
variable {k : Nat} {σ : AMem}

def tySh : TyI := (⟨.struct [(0, 3), (1, 118)], 2, 32, [.int .i64 0, .vs .nil []]⟩ : TyI)
def tyPart : TyI := (⟨.slice 5, 1, 24, [.vs .nil []]⟩ : TyI)
/-- A sheaf whose parts lie in a row. -/
def itemOf (s : Sh) (r : Nat) (cap : Option Nat) : MItem := ⟨[.int .i64 s.name], .slice r 0 s.data.length cap 1, s.data.map partV⟩
theorem parts_pure (l : List Part) : (l.map partV).all pureB = true := by
  rw [List.all_eq_true]
  intro x hx
  obtain ⟨p, _, rfl⟩ := List.mem_map.1 hx
  rfl
/-- The list of sheaves of a sorter in memory, away from a row. -/
def SrtMem (low : Nat) (σ : AMem) (q : Nat) (out : AVal) (l : List (Sh × Nat × Option Nat)) : Prop :=
  Items low σ q (l.map fun x => itemOf x.1 x.2.1 x.2.2) ∧
    ((l = [] ∧ out = .vs .nil []) ∨ ∃ r, low ≤ r ∧ r < σ.next ∧ r ≠ q ∧ r ∉ l.map (fun x => x.2.1) ∧ out = .slice r 0 l.length none 2 ∧ σ.get r = some (.row 2 true ((l.map fun x => itemOf x.1 x.2.1 x.2.2).map MItem.cells).flatten))
theorem rowsOf_items (l : List (Sh × Nat × Option Nat)) : rowsOf (l.map fun x => itemOf x.1 x.2.1 x.2.2) = l.map fun x => x.2.1 := by
  induction l with
  | nil => rfl
  | cons x l ih => simp only [rowsOf, List.map_cons, List.flatMap_cons] at ih ⊢; rw [ih]; rfl
theorem SrtMem.one {low : Nat} {σ : AMem} {q : Nat} {out : AVal} {l : List (Sh × Nat × Option Nat)} (h : SrtMem low σ q out l) : out.oneCell = true := by
  rcases h.2 with ⟨_, rfl⟩ | ⟨_, _, _, _, _, rfl, _⟩ <;> rfl
theorem SrtMem.same {low : Nat} {σ σ' : AMem} {q : Nat} {out : AVal} {l : List (Sh × Nat × Option Nat)} (h : SrtMem low σ q out l) (hn : σ.next ≤ σ'.next) (hs : ∀ s, low ≤ s → s < σ.next → s ≠ q → σ'.get s = σ.get s) : SrtMem low σ' q out l := by
  obtain ⟨h1, h2⟩ := h
  refine ⟨h1.same (Nat.le_refl _) hn (fun r hr => ?_) h1.2.2, ?_⟩
  · have := h1.bound r hr
    exact hs r this.1 this.2 (fun e => h1.2.2 (e ▸ hr))
  · rcases h2 with h | ⟨r, a, b, c, d, e, f⟩
    · exact .inl h
    · exact .inr ⟨r, a, by omega, c, d, e, by rw [hs r a b c]; exact f⟩
theorem SrtMem.grew {low : Nat} {σ : AMem} {q : Nat} {out : AVal} {l : List (Sh × Nat × Option Nat)} (h : SrtMem low σ q out l) : Grew low σ 2 true out l.length ((l.map fun x => itemOf x.1 x.2.1 x.2.2).map MItem.cells).flatten := by
  refine ⟨?_, ?_⟩
  · rw [flat_length (sz := 2) (by
      intro c hc
      simp only [List.map_map, List.mem_map] at hc
      obtain ⟨x, _, rfl⟩ := hc
      rfl), List.length_map, List.length_map]
  · rcases h.2 with ⟨rfl, rfl⟩ | ⟨r, a, b, c, d, e, f⟩
    · exact .inl ⟨rfl, rfl⟩
    · exact .inr ⟨r, a, b, e, f⟩
/-- One sheaf more, whose parts lie in a row of their own. -/
theorem SrtMem.add {low q r : Nat} {cap : Option Nat} {σ : AMem} {out : AVal} {l : List (Sh × Nat × Option Nat)} {s : Sh} (h : SrtMem low σ q out l) (hlow : low ≤ σ.next) (hq : q < σ.next) (hr1 : low ≤ r) (hr2 : r < σ.next) (hr3 : σ.get r = some (.row 1 false (s.data.map partV))) (hrl : r ∉ l.map fun x => x.2.1) (hrq : r ≠ q) (hro : ∀ n c z, out ≠ .slice r 0 n c z) (hn : l.length ≤ 1000000) :
    ∃ σ', appendA tySh (σ.push (.row 2 true [.int .i64 s.name, .slice r 0 s.data.length cap 1])) out (.slice σ.next 0 1 (some 1) 2) = some (.slice (σ.next + 1) 0 (l.length + 1) none 2, σ') ∧ SrtMem low σ' q (.slice (σ.next + 1) 0 (l.length + 1) none 2) (l ++ [(s, r, cap)]) ∧ σ'.next = σ.next + 2 ∧ (∀ s, s < low → σ'.get s = σ.get s) ∧ ∀ s, s < σ.next → out ≠ .slice s 0 l.length none 2 → σ'.get s = σ.get s := by
  obtain ⟨σ', a1, a2, a3, a4, a5⟩ := Grew.one (e := tySh) (xs := [.int .i64 s.name, .slice r 0 s.data.length cap 1]) h.grew hlow rfl (by decide) (by decide) (by decide) (by simp only [tySh, mostBytes]; omega) rfl
  have keep : ∀ x, x ∈ l.map (fun x => x.2.1) → σ'.get x = σ.get x := fun x hx => by
    have hb := h.1.bound x (by rw [rowsOf_items]; exact hx)
    refine a5 x hb.2 (fun e => ?_)
    rcases h.2 with ⟨rfl, _⟩ | ⟨r', _, _, _, hd, he, _⟩
    · simp at hx
    · rw [he] at e
      simp only [AVal.slice.injEq] at e
      exact hd (e.1 ▸ hx)
  refine ⟨σ', a1, ⟨?_, .inr ⟨σ.next + 1, by omega, by omega, by omega, ?_, by simp, ?_⟩⟩, a3, a4, a5⟩
  · rw [List.map_append]
    refine Items.add (h.1.same (Nat.le_refl _) (by omega) (fun x hx => keep x (by rw [rowsOf_items] at hx; exact hx)) h.1.2.2) ⟨rfl, parts_pure _, .inr ⟨r, cap, by simp [itemOf], hr1, by omega, ?_⟩⟩ (fun x hx => ?_)
    · show σ'.get r = some (.row 1 false (s.data.map partV))
      rw [a5 r hr2 (hro _ _ _)]; exact hr3
    · simp only [itemOf, rowOf, List.mem_singleton] at hx
      subst hx
      exact ⟨by rw [rowsOf_items]; exact hrl, hrq⟩
  · rw [List.map_append, List.mem_append]
    rintro (hx | hx)
    · have := h.1.bound _ (by rw [rowsOf_items]; exact hx); omega
    · simp only [List.map_cons, List.map_nil, List.mem_singleton] at hx; omega
  · rcases a2.2 with ⟨h0, _⟩ | ⟨r', _, _, e1, e2⟩
    · omega
    · simp only [AVal.slice.injEq] at e1
      rw [← e1.1] at e2
      rw [List.map_append, List.map_append, List.flatten_append]
      exact e2

theorem open_callN (lk : VK) (shs : List Sh) (hn : shs.length ≤ 1000) (hd : ∀ s, s ∈ shs → 0 < s.data.length ∧ s.data.length ≤ 1000 ∧ ∀ p, p ∈ s.data → p.1 = .some ∧ p.2.length ≤ 1000) (hk : 3000 ≤ k) :
    ∃ q out l σ1, callN lawProg k (.func 69 [] []) [.agg [.vs lk (shs.map shV)]] σ = some (.ptr q 0, σ1) ∧ Ext σ σ1 ∧ σ.next ≤ q ∧ q < σ1.next ∧ σ1.get q = some (.row 1 true [out]) ∧ SrtMem σ.next σ1 q out l ∧ l.map (·.1) = shs := by
  obtain ⟨k, rfl⟩ : ∃ m, k = m + 1 := ⟨k - 1, by omega⟩
  obtain ⟨b, hbn⟩ : ∃ b, b = σ.next := ⟨_, rfl⟩
  have run : ∃ T1 σ1 out l, execC lawProg (callN lawProg k) k 69 50 (bodyOf Tryz.f69) (initT 0 [.agg [.vs lk (shs.map shV)]] .nil) σ = some (.ret, T1, σ1) ∧ T1.get 2 = some (.ptr (b + 1) 0) ∧ Ext σ σ1 ∧ b + 2 ≤ σ1.next ∧ σ1.get (b + 1) = some (.row 1 true [out]) ∧ SrtMem (b + 2) σ1 (b + 1) out l ∧ l.map (·.1) = shs := by
    simp only [bodyOf, Tryz.f69, Option.getD_some, initT, dx, reduceIte, Nat.reduceLT, Nat.reduceLeDiff, Nat.reduceEqDiff, Nat.reduceAdd, Nat.reduceMul, Nat.reduceSub, Nat.reduceBEq, Int.reduceEq, Int.reduceLT, Int.reduceLE, Int.reduceToNat, reduceCtorEq, sx, fx69, Nat.add_assoc, Nat.add_eq_left, Nat.left_eq_add, Nat.add_left_cancel_iff, List.length_map, ← hbn]
    generalize hL : execC _ _ _ _ _ (Code.loop _) _ _ = r
    obtain ⟨e, T', σ', rfl, _, rfl, f3, out, l, m1, m2, m3, m4, m5⟩ : ∃ e T' σ', r = some (e, T', σ') ∧ e ≠ .normal ∧ (e = .exit 0 ∧ T'.get 3 = some (.ptr (b + 1) 0) ∧ ∃ out l, σ'.get (b + 1) = some (.row 1 true [out]) ∧ Ext σ σ' ∧ b + 2 ≤ σ'.next ∧ SrtMem (b + 2) σ' (b + 1) out l ∧ l.map (·.1) = shs) := by
      rw [← hL]
      refine exec_loop (fun i T σ' => i ≤ shs.length ∧ T.get 3 = some (.ptr (b + 1) 0) ∧ T.get 12 = some (.vs lk (shs.map shV)) ∧ T.get 13 = some (.int .i64 shs.length) ∧ T.get 14 = some (.int .i64 i) ∧ ∃ out l, σ'.get (b + 1) = some (.row 1 true [out]) ∧ Ext σ σ' ∧ b + 2 ≤ σ'.next ∧ SrtMem (b + 2) σ' (b + 1) out l ∧ l.map (·.1) = shs.take i) shs.length (by omega) ?_ ?_ ?_
      · rintro i hi T σ' ⟨_, t3, t12, t13, t14, out, l, m1, m2, m3, m4, m5⟩
        have hlt : (i : Int) < shs.length := by omega
        have hll : l.length = i := by have := congrArg List.length m5; simpa [Nat.min_eq_left (Nat.le_of_lt hi)] using this
        obtain ⟨d0, d1, d2⟩ := hd _ (List.getElem_mem hi)
        have hw := i64_succ (i := i) (by omega)
        obtain ⟨y, hy⟩ : ∃ y, y = σ'.next + 1 := ⟨_, rfl⟩
        have qy : ¬ σ'.next = y := by omega
        have qy2 : ¬ y = σ'.next := by omega
        simp only [dx, reduceIte, Nat.reduceLT, Nat.reduceLeDiff, Nat.reduceEqDiff, Nat.reduceAdd, Nat.reduceMul, Nat.reduceSub, Nat.reduceBEq, Int.reduceEq, Int.reduceLT, Int.reduceLE, Int.reduceToNat, reduceCtorEq, sx, fx69, Nat.add_assoc, Nat.add_eq_left, Nat.left_eq_add, Nat.add_left_cancel_iff, t3, t12, t13, t14, hlt, Int.natCast_nonneg, Int.toNat_natCast, sh_get hi, List.length_map, ← hy, qy, qy2]
        generalize hL2 : execC _ _ _ _ _ (Code.loop _) _ _ = r2
        obtain ⟨e, T2, σ2, rfl, _, rfl, u3, u6, u12, u13, u14, od, n1, n2, n3, n4⟩ : ∃ e T' σ2, r2 = some (e, T', σ2) ∧ e ≠ .normal ∧ (e = .exit 2 ∧ T'.get 3 = some (.ptr (b + 1) 0) ∧ T'.get 6 = some (.ptr y 0) ∧ T'.get 12 = some (.vs lk (shs.map shV)) ∧ T'.get 13 = some (.int .i64 shs.length) ∧ T'.get 14 = some (.int .i64 i) ∧ ∃ od, σ2.get y = some (.row 2 true [.int .i64 shs[i].name, od]) ∧ y + 1 ≤ σ2.next ∧ (∀ s, s < y → s ≠ σ'.next → σ2.get s = σ'.get s) ∧ Grew (y + 1) σ2 1 false od shs[i].data.length (shs[i].data.map partV)) := by
          rw [← hL2]
          refine exec_loop (fun j T σ2 => j ≤ shs[i].data.length ∧ T.get 3 = some (.ptr (b + 1) 0) ∧ T.get 6 = some (.ptr y 0) ∧ T.get 12 = some (.vs lk (shs.map shV)) ∧ T.get 13 = some (.int .i64 shs.length) ∧ T.get 14 = some (.int .i64 i) ∧ T.get 22 = some (.vs shs[i].dk (shs[i].data.map partV)) ∧ T.get 23 = some (.int .i64 shs[i].data.length) ∧ T.get 24 = some (.int .i64 j) ∧ ∃ od, σ2.get y = some (.row 2 true [.int .i64 shs[i].name, od]) ∧ y + 1 ≤ σ2.next ∧ (∀ s, s < y → s ≠ σ'.next → σ2.get s = σ'.get s) ∧ Grew (y + 1) σ2 1 false od j ((shs[i].data.take j).map partV)) shs[i].data.length (by omega) ?_ ?_ ?_
          · rintro j hj T σ2 ⟨_, t3, t6, t12, t13, t14, t22, t23, t24, od, n1, n2, n3, n4⟩
            have hlt : (j : Int) < shs[i].data.length := by omega
            have hw := i64_succ (i := j) (by omega)
            obtain ⟨p1, p2⟩ := d2 _ (List.getElem_mem hj)
            have hg := part_get hj
            rw [p1] at hg
            have hcl := fun (σ : AMem) => clone_call (k := k) (σ := σ) shs[i].data[j].2 .some (by decide) (by omega) (by omega)
            obtain ⟨σ3, a1, a2, a3, a4, a5⟩ := Grew.one (e := tyPart) (xs := [.vs .some (bytesV shs[i].data[j].2)]) n4 n2 rfl (by decide) (by decide) (by decide) (by simp only [tyPart, mostBytes]; omega) rfl
            simp only [tyPart, TyI.isAgg] at a1
            have k1 : σ3.get y = some (.row 2 true [.int .i64 shs[i].name, od]) := by rw [a4 y (by omega)]; exact n1
            have hod : od.oneCell = true := by rcases n4.2 with ⟨_, rfl⟩ | ⟨_, _, _, rfl, _⟩ <;> rfl
            refine ⟨_, _, by
              simp only [dx, reduceIte, Nat.reduceLT, Nat.reduceLeDiff, Nat.reduceEqDiff, Nat.reduceAdd, Nat.reduceMul, Nat.reduceSub, Nat.reduceBEq, Int.reduceEq, Int.reduceLT, Int.reduceLE, Int.reduceToNat, reduceCtorEq, sx, fx69, Nat.add_assoc, Nat.add_eq_left, Nat.left_eq_add, Nat.add_left_cancel_iff, t3, t6, t12, t13, t14, t22, t23, t24, hlt, Int.natCast_nonneg, Int.toNat_natCast, hg, hcl, n1, a1, k1, hw]
              rfl, hj, ?_, ?_, ?_, ?_, ?_, ?_, ?_, ?_, .slice (σ2.next + 1) 0 (j + 1) none 1, ?_, ?_, ?_, ?_⟩
            · simp only [Tr.get_set, Nat.reduceEqDiff, reduceIte, t3]
            · simp only [Tr.get_set, Nat.reduceEqDiff, reduceIte, t6]
            · simp only [Tr.get_set, Nat.reduceEqDiff, reduceIte, t12]
            · simp only [Tr.get_set, Nat.reduceEqDiff, reduceIte, t13]
            · simp only [Tr.get_set, Nat.reduceEqDiff, reduceIte, t14]
            · simp only [Tr.get_set, Nat.reduceEqDiff, reduceIte, t22]
            · simp only [Tr.get_set, Nat.reduceEqDiff, reduceIte, t23]
            · simp only [Tr.get_set, Nat.reduceEqDiff, reduceIte]
            · rw [AMem.get_put, if_pos rfl]
            · simp only [AMem.next_put]; omega
            · intro s h1 h2
              rw [AMem.get_put, if_neg (by omega), a4 s (by omega), n3 s h1 h2]
            · rw [List.take_succ_eq_append_getElem hj, List.map_append]
              have hpe : [shs[i].data[j]].map partV = [.vs .some (bytesV shs[i].data[j].2)] := by
                simp only [List.map_cons, List.map_nil, partV, p1]
              rw [hpe]
              obtain ⟨g1, g2⟩ := a2
              refine ⟨g1, ?_⟩
              rcases g2 with h | ⟨r, h6, h7, h8, h9⟩
              · exact .inl h
              · exact .inr ⟨r, h6, by simpa using h7, h8, by rw [AMem.get_put, if_neg (by omega)]; exact h9⟩
          · rintro T σ2 ⟨_, t3, t6, t12, t13, t14, t22, t23, t24, od, n1, n2, n3, n4⟩
            rw [List.take_length] at n4
            exact ⟨_, _, _, by
              simp only [dx, reduceIte, Nat.reduceLT, Nat.reduceLeDiff, Nat.reduceEqDiff, Nat.reduceAdd, Nat.reduceMul, Nat.reduceSub, Nat.reduceBEq, Int.reduceEq, Int.reduceLT, Int.reduceLE, Int.reduceToNat, reduceCtorEq, sx, fx69, Nat.add_assoc, Nat.add_eq_left, Nat.left_eq_add, Nat.add_left_cancel_iff, t22, t23, t24, Int.lt_irrefl]
              rfl, by simp, rfl, by simp only [Tr.get_set, Nat.reduceEqDiff, reduceIte, t3], by simp only [Tr.get_set, Nat.reduceEqDiff, reduceIte, t6], by simp only [Tr.get_set, Nat.reduceEqDiff, reduceIte, t12], by simp only [Tr.get_set, Nat.reduceEqDiff, reduceIte, t13], by simp only [Tr.get_set, Nat.reduceEqDiff, reduceIte, t14], od, n1, n2, n3, n4⟩
          · refine ⟨Nat.zero_le _, ?_, ?_, ?_, ?_, ?_, ?_, ?_, ?_, .vs .nil [], ?_, ?_, ?_, ⟨rfl, .inl ⟨rfl, rfl⟩⟩⟩
            · simp only [Tr.get_set, Nat.reduceEqDiff, reduceIte, t3]
            · simp only [Tr.get_set, Nat.reduceEqDiff, reduceIte]
            · simp only [Tr.get_set, Nat.reduceEqDiff, reduceIte, t12]
            · simp only [Tr.get_set, Nat.reduceEqDiff, reduceIte, t13]
            · simp only [Tr.get_set, Nat.reduceEqDiff, reduceIte, t14]
            · simp only [Tr.get_set, Nat.reduceEqDiff, reduceIte]
            · simp only [Tr.get_set, Nat.reduceEqDiff, reduceIte]
            · simp only [Tr.get_set, Nat.reduceEqDiff, reduceIte]; rfl
            · simp only [AMem.get_put, AMem.get_push, AMem.next_put, AMem.next_push, ← hy, reduceIte]
            · simp only [AMem.next_put, AMem.next_push]; omega
            · intro s h1 h2
              simp only [AMem.get_put, AMem.get_push, AMem.next_put, AMem.next_push, ← hy, show ¬ y = s by omega, show ¬ σ'.next = s by omega, if_false]
        obtain ⟨g1, g2⟩ := n4
        rcases g2 with ⟨h0, _⟩ | ⟨rd, h6, h7, rfl, h9⟩
        · omega
        have u1 : σ2.get (b + 1) = some (.row 1 true [out]) := by rw [n3 _ (by omega) (by omega)]; exact m1
        have m4' : SrtMem (b + 2) σ2 (b + 1) out l := m4.same (by omega) fun s h1 h2 h3 => n3 s (by omega) (by omega)
        have hbd : ∀ x, x ∈ l.map (fun x => x.2.1) → x < σ'.next := fun x hx => (m4.1.bound x (by rw [rowsOf_items]; exact hx)).2
        obtain ⟨σ3, a1, a2, a3, a4, a5⟩ := m4'.add (s := shs[i]) (r := rd) (cap := none) (by omega) (by omega) (by omega) h7 h9 (fun hx => by have := hbd _ hx; omega) (by omega) (fun n c z e => by
          rcases m4.2 with ⟨_, rfl⟩ | ⟨r', _, hb, _, _, rfl, _⟩
          · cases e
          · simp only [AVal.slice.injEq] at e; omega) (by omega)
        simp only [tySh, hll] at a1
        have v1 : σ3.get (b + 1) = some (.row 1 true [out]) := by rw [a4 _ (by omega)]; exact u1
        have ho := m4.one
        simp only [dx, reduceIte, Nat.reduceLT, Nat.reduceLeDiff, Nat.reduceEqDiff, Nat.reduceAdd, Nat.reduceMul, Nat.reduceSub, Nat.reduceBEq, Int.reduceEq, Int.reduceLT, Int.reduceLE, Int.reduceToNat, reduceCtorEq, sx, fx69, Nat.add_assoc, Nat.add_eq_left, Nat.left_eq_add, Nat.add_left_cancel_iff, u3, u6, u12, u13, u14, u1, n1, a1, v1, hw, ho]
        refine ⟨_, _, rfl, hi, ?_, ?_, ?_, ?_, .slice (σ2.next + 1) 0 (i + 1) none 2, l ++ [(shs[i], rd, none)], ?_, ?_, ?_, ?_, ?_⟩
        · simp only [Tr.get_set, Nat.reduceEqDiff, reduceIte, u3]
        · simp only [Tr.get_set, Nat.reduceEqDiff, reduceIte, u12]
        · simp only [Tr.get_set, Nat.reduceEqDiff, reduceIte, u13]
        · simp only [Tr.get_set, Nat.reduceEqDiff, reduceIte]
        · rw [AMem.get_put, if_pos rfl]
        · refine Ext.put ⟨by have := m2.1; omega, fun s hs => ?_⟩ _ _ (by omega)
          rw [a4 s (by omega), n3 s (by omega) (by have := m2.1; omega)]
          exact m2.2 s hs
        · simp only [AMem.next_put]; omega
        · rw [hll] at a2
          exact a2.same (by simp) fun s h1 h2 h3 => by rw [AMem.get_put, if_neg (Ne.symm h3)]
        · rw [List.map_append, m5, List.take_succ_eq_append_getElem hi]; rfl
      · rintro T σ' ⟨_, t3, t12, t13, t14, out, l, m1, m2, m3, m4, m5⟩
        refine ⟨_, _, _, by
          simp only [dx, reduceIte, Nat.reduceLT, Nat.reduceLeDiff, Nat.reduceEqDiff, Nat.reduceAdd, Nat.reduceMul, Nat.reduceSub, Nat.reduceBEq, Int.reduceEq, Int.reduceLT, Int.reduceLE, Int.reduceToNat, reduceCtorEq, sx, fx69, Nat.add_assoc, Nat.add_eq_left, Nat.left_eq_add, Nat.add_left_cancel_iff, t3, t12, t13, t14, Int.lt_irrefl]
          rfl, by simp, rfl, ?_, out, l, m1, m2, m3, m4, ?_⟩
        · simp only [Tr.get_set, Nat.reduceEqDiff, reduceIte, t3]
        · rw [m5, List.take_length]
      · refine ⟨Nat.zero_le _, ?_, ?_, ?_, ?_, .vs .nil [], [], ?_, ?_, ?_, ⟨Items.nil _ _ _, .inl ⟨rfl, rfl⟩⟩, by simp⟩
        · simp only [Tr.get_set, Nat.reduceEqDiff, reduceIte]
        · simp only [Tr.get_set, Nat.reduceEqDiff, reduceIte]
        · simp only [Tr.get_set, Nat.reduceEqDiff, reduceIte]
        · simp only [Tr.get_set, Nat.reduceEqDiff, reduceIte]; rfl
        · simp only [AMem.get_put, AMem.get_push, AMem.next_push, ← hbn, Nat.add_assoc, Nat.reduceAdd, Nat.add_eq_left, Nat.left_eq_add, Nat.add_left_cancel_iff, Nat.reduceEqDiff, reduceIte]
        · exact (Ext.push _ _).trans (Ext.push _ _)
        · simp [← hbn]
    simp only [dx, reduceIte, Nat.reduceLT, Nat.reduceLeDiff, Nat.reduceEqDiff, Nat.reduceAdd, Nat.reduceMul, Nat.reduceSub, Nat.reduceBEq, Int.reduceEq, Int.reduceLT, Int.reduceLE, Int.reduceToNat, reduceCtorEq, sx, fx69, Nat.add_assoc, Nat.add_eq_left, Nat.left_eq_add, Nat.add_left_cancel_iff, f3]
    exact ⟨_, _, out, l, rfl, by simp only [Tr.get_set, Nat.reduceEqDiff, reduceIte], m2, m3, m1, m4, m5⟩
  obtain ⟨T1, σ1, out, l, h1, h2, h3, h4, h5, h6, h7⟩ := run
  refine ⟨b + 1, out, l, σ1, q_call (first := []) (caps := []) fn69 rfl (by simp [Tryz.f69]) h1 (by simp) (res_one h2), h3, by omega, by omega, h5, ?_, h7⟩
  obtain ⟨g1, g2⟩ := h6
  refine ⟨g1.same (by omega) (Nat.le_refl _) (fun _ _ => rfl) g1.2.2, ?_⟩
  rcases g2 with h | ⟨r, a, b', c⟩
  · exact .inl h
  · exact .inr ⟨r, by omega, b', c⟩
end Go.Proofs.YtjckhhkhgjbpaaaGreatDoor

/- slices.DeleteFunc over sheaves in memory. -/
set_option maxRecDepth 100000
set_option linter.unusedSimpArgs false
set_option linter.unusedVariables false
namespace Go.Proofs.YtjckhhkhgjbpaaaGreatDoor
open Go Go.Proofs.YtjckhhkhgjbpaaaGreatDoor.Pale
variable {k : Nat} {σ : AMem}

theorem flat_cell {ls : List (List AVal)} {more : List AVal} {sz : Nat} (h : ∀ l, l ∈ ls → l.length = sz) : ∀ i (hi : i < (ls.map AVal.agg).length), 0 + i * sz + sz ≤ (ls.flatten ++ more).length ∧ .agg (((ls.flatten ++ more).drop (0 + i * sz)).take sz) = (ls.map AVal.agg)[i] := by
  intro i hi
  rw [List.length_map] at hi
  refine ⟨?_, ?_⟩
  · rw [Nat.zero_add, List.length_append, flat_length h]
    have : i * sz + sz ≤ ls.length * sz := by rw [← Nat.succ_mul]; exact Nat.mul_le_mul_right _ hi
    omega
  · rw [Nat.zero_add, flat_elem h hi, List.getElem_map]

/-- DeleteFunc: what is kept comes first, in its order. -/
theorem deleteFunc_callN {r rc g : Nat} {crow : AObj} (ls : List (List AVal)) (p : AVal → Bool) (hl : ∀ l, l ∈ ls → l.length = 2) (hone : ∀ l, l ∈ ls → l.all AVal.oneCell = true) (hlen : ls.length ≤ 1000) (hr : σ.get r = some (.row 2 true ls.flatten)) (hrn : r < σ.next) (hrc : rc ≠ r) (hrcn : rc < σ.next) (hcr : σ.get rc = some crow)
    (hf : ∀ l, l ∈ ls → ∀ σ' : AMem, σ'.get rc = some crow → rc < σ'.next → ∃ σ'', callN lawProg k (.func g [] [.ptr rc 0]) [.agg l] σ' = some (.bool (p (.agg l)), σ'') ∧ Ext σ' σ'') (hf2 : ∀ l, l ∈ ls → ∀ σ' : AMem, σ'.get rc = some crow → rc < σ'.next → ∃ σ'', callN lawProg (k + 1) (.func g [] [.ptr rc 0]) [.agg l] σ' = some (.bool (p (.agg l)), σ'') ∧ Ext σ' σ'') (hk : 2000 ≤ k) :
    ∃ σ' zs, callN lawProg (k + 2) (.func 127 [] []) [.slice r 0 ls.length none 2, .func g [] [.ptr rc 0]] σ = some (.slice r 0 (ls.filter fun l => !p (.agg l)).length none 2, σ') ∧ σ.next ≤ σ'.next ∧ (∀ s, s < σ.next → s ≠ r → σ'.get s = σ.get s) ∧
      σ'.get r = some (.row 2 true ((ls.filter fun l => !p (.agg l)).flatten ++ zs)) ∧ zs.length = (ls.length - (ls.filter fun l => !p (.agg l)).length) * 2 := by
  obtain ⟨σ1, c1, x1⟩ := sheaf_m (k := k) (σ := σ) (r := r) (off := 0) (n := ls.length) (cap := none) (cells := ls.flatten ++ []) (ls.map AVal.agg) (by simp) (by rw [List.append_nil]; exact hr) hrn (flat_cell hl) g [.ptr rc 0] p (by simp; omega) (fun h => by cases h) (fun e he σ' hx => by
    obtain ⟨l, hl', rfl⟩ := List.mem_map.1 he
    exact hf l hl' σ' ((hx.2 _ hrcn).trans hcr) (by have := hx.1; omega)) (by simp; omega)
  have hr1 : σ1.get r = some (.row 2 true ls.flatten) := (x1.2 r hrn).trans hr
  have hc1 : σ1.get rc = some crow := (x1.2 rc hrcn).trans hcr
  have hn1 := x1.1
  by_cases hno : idxI p (ls.map AVal.agg) = -1
  · have hall : ∀ l, l ∈ ls → (!p (.agg l)) = true := by
      intro l hl'
      have := idxI_any p (ls.map AVal.agg)
      rw [hno] at this
      have h2 : (ls.map AVal.agg).any p = false := by rw [← this]; rfl
      rw [List.any_eq_false] at h2
      have := h2 _ (List.mem_map.2 ⟨l, hl', rfl⟩)
      simpa using this
    have hfil : ls.filter (fun l => !p (.agg l)) = ls := List.filter_eq_self.2 hall
    have hbq : (idxI p (ls.map AVal.agg) == -1) = true := by rw [hno]; rfl
    refine ⟨σ1, [], ?_, hn1, fun s hs _ => x1.2 s hs, by rw [hfil, List.append_nil]; exact hr1, by rw [hfil]; simp⟩
    have e : ∃ T1, execC lawProg (callN lawProg (k + 1)) (k + 1) 127 42 (bodyOf Tryz.f127) (initT 0 [.slice r 0 ls.length none 2, .func g [] [.ptr rc 0]] .nil) σ = some (.ret, T1, σ1) ∧ T1.get 4 = some (.slice r 0 ls.length none 2) := by
      simp only [bodyOf, Tryz.f127, Option.getD_some, initT, dx, reduceIte, Nat.reduceLT, Nat.reduceLeDiff, Nat.reduceEqDiff, Nat.reduceAdd, Nat.reduceMul, Nat.reduceSub, Nat.reduceBEq, Int.reduceEq, Int.reduceLT, Int.reduceLE, Int.reduceToNat, reduceCtorEq, sx, fx127, c1, hbq]
      exact ⟨_, rfl, by simp only [Tr.get_set, Nat.reduceEqDiff, reduceIte]⟩
    obtain ⟨T1, e1, e2⟩ := e
    rw [hfil]
    exact q_call (first := []) (caps := []) fn127 rfl (by simp [Tryz.f127]) e1 (by simp) (res_one e2)
  · -- the first that goes
    obtain ⟨d, hd, hdI, hpre, hpd⟩ : ∃ d, ∃ hd : d < ls.length, idxI p (ls.map AVal.agg) = (d : Int) ∧ (∀ l, l ∈ ls.take d → p (.agg l) = false) ∧ p (.agg ls[d]) = true := by
      have key : ∀ (ls : List (List AVal)), idxI p (ls.map AVal.agg) ≠ -1 → ∃ d, ∃ hd : d < ls.length, idxI p (ls.map AVal.agg) = (d : Int) ∧ (∀ l, l ∈ ls.take d → p (.agg l) = false) ∧ p (.agg ls[d]) = true := by
        intro ls
        induction ls with
        | nil => intro h; exact absurd rfl h
        | cons x ls ih =>
          intro h
          cases hx : p (.agg x) with
          | true => exact ⟨0, by simp, by simp [idxI, hx], by simp, by simpa using hx⟩
          | false =>
            simp only [List.map_cons, idxI, hx, Bool.false_eq_true, if_false] at h ⊢
            have hne : idxI p (ls.map AVal.agg) ≠ -1 := by
              intro he
              rw [if_pos (by omega)] at h
              exact h rfl
            obtain ⟨d, hd, h1, h2, h3⟩ := ih hne
            refine ⟨d + 1, by simpa using hd, ?_, ?_, by simpa using h3⟩
            · rw [if_neg (by omega), h1]; omega
            · intro l hl'
              rw [List.take_succ_cons, List.mem_cons] at hl'
              rcases hl' with rfl | hl'
              · exact hx
              · exact h2 l hl'
      exact key ls hno
    have hbq : (((d : Nat) : Int) == -1) = false := by rw [beq_eq_false_iff_ne]; omega
    have hw0 := i64_succ (i := d) (by omega)
    rw [hdI] at c1
    have hfd : (ls.take (d + 1)).filter (fun l => !p (.agg l)) = ls.take d := by
      rw [List.take_succ_eq_append_getElem hd, List.filter_append, List.filter_eq_self.2 (fun l hl' => by rw [hpre l hl']; rfl)]
      simp [hpd]
    have run : ∃ T2 σ2 zs, execC lawProg (callN lawProg (k + 1)) (k + 1) 127 42 (bodyOf Tryz.f127) (initT 0 [.slice r 0 ls.length none 2, .func g [] [.ptr rc 0]] .nil) σ = some (.ret, T2, σ2) ∧ T2.get 4 = some (.slice r 0 (ls.filter fun l => !p (.agg l)).length none 2) ∧ σ.next ≤ σ2.next ∧ (∀ s, s < σ.next → s ≠ r → σ2.get s = σ.get s) ∧
        σ2.get r = some (.row 2 true ((ls.filter fun l => !p (.agg l)).flatten ++ zs)) ∧ zs.length = (ls.length - (ls.filter fun l => !p (.agg l)).length) * 2 := by
      simp only [bodyOf, Tryz.f127, Option.getD_some, initT, dx, reduceIte, Nat.reduceLT, Nat.reduceLeDiff, Nat.reduceEqDiff, Nat.reduceAdd, Nat.reduceMul, Nat.reduceSub, Nat.reduceBEq, Int.reduceEq, Int.reduceLT, Int.reduceLE, Int.reduceToNat, reduceCtorEq, sx, fx127, c1, hbq, hw0]
      generalize hL : execC _ _ _ _ _ (Code.loop _) _ _ = q
      obtain ⟨e, T', σ2, rfl, _, rfl, t0, t5, hn2, keep, ls', hl1, hl2, hrow, htake⟩ : ∃ e T' σ2, q = some (e, T', σ2) ∧ e ≠ .normal ∧ (e = .exit 0 ∧ T'.get 0 = some (.slice r 0 ls.length none 2) ∧ T'.get 5 = some (.int .i64 (ls.filter fun l => !p (.agg l)).length) ∧ σ1.next ≤ σ2.next ∧ (∀ s, s < σ1.next → s ≠ r → σ2.get s = σ1.get s) ∧ ∃ ls' : List (List AVal), ls'.length = ls.length ∧ (∀ l, l ∈ ls' → l.length = 2 ∧ l.all AVal.oneCell = true) ∧ σ2.get r = some (.row 2 true ls'.flatten) ∧ ls'.take (ls.filter fun l => !p (.agg l)).length = ls.filter fun l => !p (.agg l)) := by
        rw [← hL]
        refine exec_loop (fun m T σ2 => d + 1 + m ≤ ls.length ∧ T.get 0 = some (.slice r 0 ls.length none 2) ∧ T.get 1 = some (.func g [] [.ptr rc 0]) ∧ T.get 5 = some (.int .i64 ((ls.take (d + 1 + m)).filter fun l => !p (.agg l)).length) ∧ T.get 6 = some (.int .i64 ((d + 1 + m : Nat) : Int)) ∧ σ1.next ≤ σ2.next ∧ (∀ s, s < σ1.next → s ≠ r → σ2.get s = σ1.get s) ∧ ∃ ls' : List (List AVal), ls'.length = ls.length ∧ (∀ l, l ∈ ls' → l.length = 2 ∧ l.all AVal.oneCell = true) ∧ σ2.get r = some (.row 2 true ls'.flatten) ∧ ls'.take ((ls.take (d + 1 + m)).filter fun l => !p (.agg l)).length = ((ls.take (d + 1 + m)).filter fun l => !p (.agg l)) ∧ ls'.drop (d + 1 + m) = ls.drop (d + 1 + m)) (ls.length - (d + 1)) (by omega) ?_ ?_ ?_
        · rintro m hm T σ2 ⟨_, t0, t1, t5, t6, hn2, keep, ls', hl1, hl2, hrow, htake, hdrop⟩
          have hj : d + 1 + m < ls.length := by omega
          have hj' : d + 1 + m < ls'.length := by omega
          have hlt : ((d + 1 + m : Nat) : Int) < ((ls.length : Nat) : Int) := by omega
          have hw := i64_succ (i := d + 1 + m) (by omega)
          have hsame : ls'[d + 1 + m] = ls[d + 1 + m] := by
            have h1 := List.drop_eq_getElem_cons hj
            have h2 := List.drop_eq_getElem_cons hj'
            rw [hdrop, h1] at h2
            simp only [List.cons.injEq] at h2
            exact h2.1.symm
          have hls2 : ∀ l, l ∈ ls' → l.length = 2 := fun l h => (hl2 l h).1
          obtain ⟨ce1, ce2⟩ := flat_cell (more := []) hls2 (d + 1 + m) (by simpa using hj')
          rw [List.append_nil, Nat.zero_add] at ce1 ce2
          rw [List.getElem_map, hsame] at ce2
          simp only [AVal.agg.injEq] at ce2
          have hmem := List.getElem_mem hj
          have hlen2 := hl _ hmem
          have hone2 := hone _ hmem
          obtain ⟨a, b, hab⟩ : ∃ a b, ls[d + 1 + m] = [a, b] := by
            match h : ls[d + 1 + m], hlen2 with
            | [a, b], _ => exact ⟨a, b, rfl⟩
          rw [hab] at ce2 hone2 hmem
          simp only [List.all_cons, List.all_nil, Bool.and_true, Bool.and_eq_true] at hone2
          obtain ⟨ha1, hb1⟩ := hone2
          have hac := cells_one ha1
          have hbc := cells_one hb1
          obtain ⟨σ3, f1, f2⟩ := hf2 _ hmem ((σ2.push (.row 2 true [.int .i64 0, .vs .nil []])).put σ2.next (.row 2 true [a, b])) (by
            rw [AMem.get_put, if_neg (by omega), AMem.get_push, if_neg (by omega), keep rc (by omega) hrc]; exact hc1) (by simp; omega)
          have f3 : ∀ s, s < σ2.next → σ3.get s = σ2.get s := fun s hs => by rw [f2.2 s (by simp; omega), AMem.get_put, if_neg (by omega), AMem.get_push, if_neg (by omega)]
          have f4 : σ3.get σ2.next = some (.row 2 true [a, b]) := by rw [f2.2 _ (by simp), AMem.get_put, if_pos rfl]
          have f5 : σ2.next + 1 ≤ σ3.next := by have := f2.1; simpa using this
          have hrow3 : σ3.get r = some (.row 2 true ls'.flatten) := by rw [f3 r (by omega)]; exact hrow
          have hq1 : ¬ σ2.next = r := by omega
          have hq2 : ¬ r = σ2.next := by omega
          have hfs : (ls.take (d + 1 + m + 1)).filter (fun l => !p (.agg l)) = ((ls.take (d + 1 + m)).filter fun l => !p (.agg l)) ++ if p (.agg ls[d + 1 + m]) then [] else [ls[d + 1 + m]] := by
            rw [List.take_succ_eq_append_getElem hj, List.filter_append]
            congr 1
            cases hpx : p (.agg ls[d + 1 + m]) <;> simp [hpx]
          have hle := List.length_filter_le (fun l => !p (.agg l)) (ls.take (d + 1 + m))
          rw [List.length_take] at hle
          have hdrop2 : ls'.drop (d + 1 + m + 1) = ls.drop (d + 1 + m + 1) := by
            have := congrArg (List.drop 1) hdrop
            simpa [List.drop_drop] using this
          rw [hab] at hfs
          cases hp : p (.agg [a, b]) with
          | true =>
            rw [hp] at f1
            rw [hp] at hfs
            simp only [if_true, List.append_nil] at hfs
            refine ⟨_, _, by
              simp only [dx, reduceIte, Nat.reduceLT, Nat.reduceLeDiff, Nat.reduceEqDiff, Nat.reduceAdd, Nat.reduceMul, Nat.reduceSub, Nat.reduceBEq, Int.reduceEq, Int.reduceLT, Int.reduceLE, Int.reduceToNat, reduceCtorEq, sx, fx127, t0, t1, t5, t6, hlt, Int.natCast_nonneg, Int.toNat_natCast, hrow, ce1, ce2, ha1, hb1, hac, hbc, hq1, f1, hw]
              rfl, by omega, ?_, ?_, ?_, ?_, by omega, fun s h1 h2 => by rw [f3 s (by omega)]; exact keep s h1 h2, ls', hl1, hl2, hrow3, ?_, by rw [show d + 1 + (m + 1) = d + 1 + m + 1 by omega]; exact hdrop2⟩
            · simp only [Tr.get_set, Nat.reduceEqDiff, reduceIte, t0]
            · simp only [Tr.get_set, Nat.reduceEqDiff, reduceIte, t1]
            · rw [show d + 1 + (m + 1) = d + 1 + m + 1 by omega, hfs]; simp only [Tr.get_set, Nat.reduceEqDiff, reduceIte, t5]
            · simp only [Tr.get_set, Nat.reduceEqDiff, reduceIte]; rfl
            · rw [show d + 1 + (m + 1) = d + 1 + m + 1 by omega, hfs]; exact htake
          | false =>
            rw [hp] at f1
            rw [hp] at hfs
            simp only [Bool.false_eq_true, if_false] at hfs
            generalize hF : ((ls.take (d + 1 + m)).filter fun l => !p (.agg l)) = F at *
            have hFl : F.length ≤ d + 1 + m := by omega
            have hFn : F.length < ls'.length := by omega
            have hilt : ((F.length : Nat) : Int) < ((ls.length : Nat) : Int) := by omega
            have hw2 := i64_succ (i := F.length) (by omega)
            have hfit : F.length * 2 + 2 ≤ ls'.flatten.length := by
              rw [flat_length hls2]
              have : F.length * 2 + 2 ≤ ls'.length * 2 := by omega
              exact this
            have hset : (ls'.flatten.set (F.length * 2) a).set (F.length * 2 + 1) b = (ls'.set F.length [a, b]).flatten := by
              have h1 := flat_setAt (more := []) (j := 0) (vs := [a, b]) hls2 hFn (by simp)
              rw [List.append_nil, List.append_nil, Nat.add_zero] at h1
              have hlf : ls'[F.length].length = 2 := hls2 _ (List.getElem_mem hFn)
              have h2 : setAt ls'[F.length] 0 [a, b] = [a, b] := by
                rw [setAt_split (by simp [hlf]), List.take_zero, List.drop_eq_nil_of_le (by simp [hlf]), List.nil_append, List.append_nil]
              rw [h2] at h1
              exact h1
            have hfit2 : F.length * 2 + 1 + 1 ≤ ls'.flatten.length := by omega
            refine ⟨_, _, by
              simp only [dx, reduceIte, Nat.reduceLT, Nat.reduceLeDiff, Nat.reduceEqDiff, Nat.reduceAdd, Nat.reduceMul, Nat.reduceSub, Nat.reduceBEq, Int.reduceEq, Int.reduceLT, Int.reduceLE, Int.reduceToNat, reduceCtorEq, sx, fx127, t0, t1, t5, t6, hlt, hilt, Int.natCast_nonneg, Int.toNat_natCast, hrow, ce1, ce2, ha1, hb1, hac, hbc, hq1, hq2, f1, f4, hrow3, hfit, hfit2, hset, hw, hw2]
              rfl, by omega, ?_, ?_, ?_, ?_, by simp only [AMem.next_put]; omega, fun s h1 h2 => by rw [AMem.get_put, if_neg (Ne.symm h2), f3 s (by omega)]; exact keep s h1 h2, ls'.set F.length [a, b], by rw [List.length_set]; exact hl1, ?_, by rw [AMem.get_put, if_pos rfl], ?_, ?_⟩
            · simp only [Tr.get_set, Nat.reduceEqDiff, reduceIte, t0]
            · simp only [Tr.get_set, Nat.reduceEqDiff, reduceIte, t1]
            · rw [show d + 1 + (m + 1) = d + 1 + m + 1 by omega, hfs, List.length_append, List.length_singleton]; simp only [Tr.get_set, Nat.reduceEqDiff, reduceIte]
            · simp only [Tr.get_set, Nat.reduceEqDiff, reduceIte]; rfl
            · intro l hl'
              rcases List.mem_or_eq_of_mem_set hl' with h | rfl
              · exact hl2 l h
              · exact ⟨rfl, by simp [ha1, hb1]⟩
            · rw [show d + 1 + (m + 1) = d + 1 + m + 1 by omega, hfs, List.length_append, List.length_singleton, List.take_succ_eq_append_getElem (by rw [List.length_set]; exact hFn), List.getElem_set, if_pos rfl, List.take_set_of_le (Nat.le_refl _), htake]
            · rw [show d + 1 + (m + 1) = d + 1 + m + 1 by omega, List.drop_set_of_lt (by omega)]; exact hdrop2
        · rintro T σ2 ⟨_, t0, t1, t5, t6, hn2, keep, ls', hl1, hl2, hrow, htake, hdrop⟩
          have hall : d + 1 + (ls.length - (d + 1)) = ls.length := by omega
          rw [hall] at t5 t6 htake
          rw [List.take_length] at t5 htake
          refine ⟨_, _, _, by
            simp only [dx, reduceIte, Nat.reduceLT, Nat.reduceLeDiff, Nat.reduceEqDiff, Nat.reduceAdd, Nat.reduceMul, Nat.reduceSub, Nat.reduceBEq, Int.reduceEq, Int.reduceLT, Int.reduceLE, Int.reduceToNat, reduceCtorEq, sx, fx127, t0, t1, t5, t6, Int.lt_irrefl]
            rfl, by simp, rfl, ?_, ?_, hn2, keep, ls', hl1, hl2, hrow, htake⟩
          · simp only [Tr.get_set, Nat.reduceEqDiff, reduceIte, t0]
          · simp only [Tr.get_set, Nat.reduceEqDiff, reduceIte, t5]
        · refine ⟨by omega, ?_, ?_, ?_, ?_, Nat.le_refl _, fun _ _ _ => rfl, ls, rfl, fun l h => ⟨hl l h, hone l h⟩, hr1, ?_, rfl⟩
          · simp only [Tr.get_set, Nat.reduceEqDiff, reduceIte]
          · simp only [Tr.get_set, Nat.reduceEqDiff, reduceIte]
          · rw [Nat.add_zero, hfd, List.length_take, Nat.min_eq_left (by omega)]; simp only [Tr.get_set, Nat.reduceEqDiff, reduceIte]
          · simp only [Tr.get_set, Nat.reduceEqDiff, reduceIte, Nat.add_zero]
          · rw [Nat.add_zero, hfd, List.length_take, Nat.min_eq_left (by omega)]
      have hls2 : ∀ l, l ∈ ls' → l.length = 2 := fun l h => (hl2 l h).1
      generalize hF : (ls.filter fun l => !p (.agg l)) = F at *
      have hFl : F.length ≤ ls.length := by rw [← hF]; exact List.length_filter_le _ _
      have hfl : ls'.flatten.length = ls.length * 2 := by rw [flat_length hls2, hl1]
      have s1 := slice_from (σ := σ2) (sz := 2) (r := r) (off := 0) (n := ls.length) (i := F.length) (z := 2) (k := .i64) hFl
      rw [Nat.zero_add] at s1
      have s2 : ∀ σ : AMem, sliceM σ 2 r 0 ls.length none 2 none (some (.int .i64 (F.length : Nat))) none = some (.slice r 0 F.length none 2) := fun σ => slice_to (off := 0) (z := 2) hFl
      have hrest : ∃ σ4, clearA (⟨.struct [(0, 3), (1, 118)], 2, 32, [.int .i64 0, .vs .nil []]⟩ : TyI) σ2 (.slice r (F.length * 2) (ls.length - F.length) none 2) = some (.tuple [], σ4) ∧ σ2.next ≤ σ4.next ∧ (∀ s, s ≠ r → σ4.get s = σ2.get s) ∧ ∃ zs, σ4.get r = some (.row 2 true (F.flatten ++ zs)) ∧ zs.length = (ls.length - F.length) * 2 := by
        have htk : ls'.flatten.take (F.length * 2) = F.flatten := by
          have := flat_take (more := []) hls2 (show F.length ≤ ls'.length by omega)
          rw [List.append_nil, htake] at this
          exact this
        by_cases h0 : ls.length - F.length = 0
        · refine ⟨σ2, by simp only [clearA, if_pos h0], Nat.le_refl _, fun _ _ => rfl, [], ?_, by rw [h0]; rfl⟩
          rw [List.append_nil, hrow, ← htk, List.take_of_length_le (by omega)]
        · have hzl : ∀ n, (repZ [AVal.int .i64 0, .vs .nil []] n).length = n * 2 ∧ (repZ [AVal.int .i64 0, .vs .nil []] n).all AVal.oneCell = true := by
            intro n
            induction n with
            | zero => exact ⟨rfl, rfl⟩
            | succ n ih => exact ⟨by simp only [repZ, List.length_append, ih.1, List.length_cons, List.length_nil]; omega, by simp only [repZ, List.all_append, ih.2]; rfl⟩
          obtain ⟨z1, z2⟩ := hzl (ls.length - F.length)
          have hc : (decide (F.length * 2 + (repZ [AVal.int .i64 0, .vs .nil []] (ls.length - F.length)).length ≤ ls'.flatten.length) && (repZ [AVal.int .i64 0, .vs .nil []] (ls.length - F.length)).all AVal.oneCell) = true := by
            rw [z2, Bool.and_true]; exact decide_eq_true (by rw [z1, hfl, ← Nat.add_mul]; exact Nat.mul_le_mul_right _ (by omega))
          have hs : setAt ls'.flatten (F.length * 2) (repZ [AVal.int .i64 0, .vs .nil []] (ls.length - F.length)) = F.flatten ++ repZ [AVal.int .i64 0, .vs .nil []] (ls.length - F.length) := by
            rw [setAt_split (by rw [z1, hfl, ← Nat.add_mul]; exact Nat.mul_le_mul_right _ (by omega)), htk, List.drop_eq_nil_of_le (by rw [z1, hfl, ← Nat.add_mul]; exact Nat.mul_le_mul_right _ (by omega)), List.append_nil]
          refine ⟨σ2.put r (.row 2 true (F.flatten ++ repZ [AVal.int .i64 0, .vs .nil []] (ls.length - F.length))), ?_, by simp, fun s hs => by rw [AMem.get_put, if_neg (Ne.symm hs)], _, by rw [AMem.get_put, if_pos rfl], z1⟩
          simp only [clearA, if_neg h0, storeCellsA, hrow, hc, if_true, hs, Option.map_some]
      obtain ⟨σ4, q1, q2, q3, zs, q4, q5⟩ := hrest
      simp only [dx, reduceIte, Nat.reduceLT, Nat.reduceLeDiff, Nat.reduceEqDiff, Nat.reduceAdd, Nat.reduceMul, Nat.reduceSub, Nat.reduceBEq, Int.reduceEq, Int.reduceLT, Int.reduceLE, Int.reduceToNat, reduceCtorEq, sx, fx127, t0, t5, s1, q1, s2]
      exact ⟨_, σ4, zs, rfl, by simp only [Tr.get_set, Nat.reduceEqDiff, reduceIte], by omega, fun s h1 h2 => by rw [q3 s h2, keep s (by omega) h2]; exact x1.2 s h1, q4, q5⟩
    obtain ⟨T2, σ2, zs, e1, e2, e3, e4, e5, e6⟩ := run
    exact ⟨σ2, zs, q_call (first := []) (caps := []) fn127 rfl (by simp [Tryz.f127]) e1 (by simp) (res_one e2), e3, e4, e5, e6⟩
end Go.Proofs.YtjckhhkhgjbpaaaGreatDoor

/- The sheaf for a chunk: the program's find. -/
set_option maxRecDepth 100000
set_option linter.unusedSimpArgs false
set_option linter.unusedVariables false
namespace Go.Proofs.YtjckhhkhgjbpaaaGreatDoor
open Go Go.Proofs.YtjckhhkhgjbpaaaGreatDoor.Pale
variable {k : Nat} {σ : AMem}

def lenOfM : AVal → Nat
  | .agg [_, .slice _ _ n _ _] => n
  | _ => 0
def delP (n of : Int) (v : AVal) : Bool := (nameOf v == n) && (((lenOfM v : Nat) : Int) != of)
def chunkRow (n at_ of : Int) (d : AVal) : AObj := .row 4 true [.int .i64 n, .int .i64 at_, .int .i64 of, d]

theorem find1_callN {rc : Nat} {n at_ of : Int} {d : AVal} (nm : Int) (r o m z : Nat) (c : Option Nat) (hg : σ.get rc = some (chunkRow n at_ of d)) (hr : rc < σ.next) (hk : 1 ≤ k) : ∃ σ'', callN lawProg k (.func 128 [] [.ptr rc 0]) [.agg [.int .i64 nm, .slice r o m c z]] σ = some (.bool (delP n of (.agg [.int .i64 nm, .slice r o m c z])), σ'') ∧ Ext σ σ'' := by
  obtain ⟨k, rfl⟩ : ∃ m, k = m + 1 := ⟨k - 1, by omega⟩
  have hq : ¬ σ.next = rc := by omega
  unfold chunkRow at hg
  have hd : delP n of (.agg [.int .i64 nm, .slice r o m c z]) = ((nm == n) && (((m : Nat) : Int) != of)) := rfl
  rw [hd]
  have e : ∃ T1, execC lawProg (callN lawProg k) k 128 17 (bodyOf Tryz.f128) (initT 0 [.agg [.int .i64 nm, .slice r o m c z], .ptr rc 0] .nil) σ = some (.ret, T1, σ.push (.row 2 true [.int .i64 nm, .slice r o m c z])) ∧ T1.get 3 = some (.bool ((nm == n) && (((m : Nat) : Int) != of))) := by
    cases h1 : (nm == n) with
    | false =>
      simp only [bodyOf, Tryz.f128, Option.getD_some, initT, dx, reduceIte, Nat.reduceLT, Nat.reduceLeDiff, Nat.reduceEqDiff, Nat.reduceAdd, Nat.reduceMul, Nat.reduceSub, Nat.reduceBEq, Int.reduceEq, Int.reduceLT, Int.reduceLE, Int.reduceToNat, reduceCtorEq, sx, fx128, hq, hg, h1]
      exact ⟨_, rfl, by simp only [Tr.get_set, Nat.reduceEqDiff, reduceIte]⟩
    | true =>
      simp only [bodyOf, Tryz.f128, Option.getD_some, initT, dx, reduceIte, Nat.reduceLT, Nat.reduceLeDiff, Nat.reduceEqDiff, Nat.reduceAdd, Nat.reduceMul, Nat.reduceSub, Nat.reduceBEq, Int.reduceEq, Int.reduceLT, Int.reduceLE, Int.reduceToNat, reduceCtorEq, sx, fx128, hq, hg, h1]
      exact ⟨_, rfl, by simp only [Tr.get_set, Nat.reduceEqDiff, reduceIte]⟩
  obtain ⟨T1, e1, e2⟩ := e
  exact ⟨_, q_call (first := []) (caps := [.ptr rc 0]) fn128 rfl (by simp [Tryz.f128]) e1 (by simp) (res_one e2), Ext.push _ _⟩
theorem find2_callN {rc : Nat} {n at_ of : Int} {d : AVal} (nm : Int) (r o m z : Nat) (c : Option Nat) (hg : σ.get rc = some (chunkRow n at_ of d)) (hr : rc < σ.next) (hk : 1 ≤ k) : ∃ σ'', callN lawProg k (.func 130 [] [.ptr rc 0]) [.agg [.int .i64 nm, .slice r o m c z]] σ = some (.bool (sameName n (.agg [.int .i64 nm, .slice r o m c z])), σ'') ∧ Ext σ σ'' := by
  obtain ⟨k, rfl⟩ : ∃ m, k = m + 1 := ⟨k - 1, by omega⟩
  have hq : ¬ σ.next = rc := by omega
  unfold chunkRow at hg
  have hd : sameName n (.agg [.int .i64 nm, .slice r o m c z]) = (nm == n) := rfl
  rw [hd]
  have e : ∃ T1, execC lawProg (callN lawProg k) k 130 9 (bodyOf Tryz.f130) (initT 0 [.agg [.int .i64 nm, .slice r o m c z], .ptr rc 0] .nil) σ = some (.ret, T1, σ.push (.row 2 true [.int .i64 nm, .slice r o m c z])) ∧ T1.get 3 = some (.bool (nm == n)) := by
    simp only [bodyOf, Tryz.f130, Option.getD_some, initT, dx, reduceIte, Nat.reduceLT, Nat.reduceLeDiff, Nat.reduceEqDiff, Nat.reduceAdd, Nat.reduceMul, Nat.reduceSub, Nat.reduceBEq, Int.reduceEq, Int.reduceLT, Int.reduceLE, Int.reduceToNat, reduceCtorEq, sx, fx130, hq, hg]
    exact ⟨_, rfl, by simp only [Tr.get_set, Nat.reduceEqDiff, reduceIte]⟩
  obtain ⟨T1, e1, e2⟩ := e
  exact ⟨_, q_call (first := []) (caps := [.ptr rc 0]) fn130 rfl (by simp [Tryz.f130]) e1 (by simp) (res_one e2), Ext.push _ _⟩

/-! ### an element more, where there may be room -/
theorem append_room {e : TyI} {r n : Nat} {ls : List (List AVal)} {zs xs : List AVal} (hl : ∀ l, l ∈ ls → l.length = e.size) (hn : n = ls.length) (hr : σ.get r = some (.row e.size e.isAgg (ls.flatten ++ zs))) (hrn : r < σ.next) (hxl : xs.length = e.size) (hone : xs.all AVal.oneCell = true) (hzs : ∃ m, zs.length = m * e.size)
    (hs0 : e.size ≠ 0) (hb0 : e.bytes ≠ 0) (hb1 : e.bytes ≤ 1048576) (hby : (n + 1) * e.bytes ≤ mostBytes) :
    ∃ r' σ' zs', appendA e (σ.push (.row e.size e.isAgg xs)) (.slice r 0 n none e.size) (.slice σ.next 0 1 (some 1) e.size) = some (.slice r' 0 (n + 1) none e.size, σ') ∧ σ'.get r' = some (.row e.size e.isAgg ((ls ++ [xs]).flatten ++ zs')) ∧ (r' = r ∨ r' = σ.next + 1) ∧ r' < σ'.next ∧ σ.next < σ'.next ∧ (∀ s, s < σ.next → s ≠ r → σ'.get s = σ.get s) ∧ ∃ m, zs'.length = m * e.size := by
  subst hn
  have hfl := flat_length hl
  have hsrc : sourceA e.size (σ.push (.row e.size e.isAgg xs)) (.slice σ.next 0 1 (some 1) e.size) = some (xs, 1) := by
    have : (σ.push (.row e.size e.isAgg xs)).get σ.next = some (.row e.size e.isAgg xs) := by rw [AMem.get_push, if_pos rfl]
    simp only [sourceA, this, List.drop_zero, Nat.zero_add, Nat.one_mul, hxl, Nat.le_refl, if_true]
    rw [← hxl, List.take_length]
  have hg : (σ.push (.row e.size e.isAgg xs)).get r = some (.row e.size e.isAgg (ls.flatten ++ zs)) := by rw [AMem.get_push, if_neg (by omega)]; exact hr
  obtain ⟨m, hm⟩ := hzs
  have hfx : (ls ++ [xs]).flatten = ls.flatten ++ xs := by rw [List.flatten_append]; simp
  by_cases h0 : m = 0
  · subst h0
    have hz : zs = [] := List.eq_nil_of_length_eq_zero (by omega)
    subst hz
    refine ⟨σ.next + 1, ((σ.push (.row e.size e.isAgg xs)).del r).push (.row e.size e.isAgg (ls.flatten ++ xs)), [], ?_, ?_, .inr rfl, by simp, by simp; omega, fun s h1 h2 => ?_, 0, by simp⟩
    · simp only [appendA, hsrc, hg]
      have hnf : ¬ 0 + (ls.length + 1) * e.size ≤ (ls.flatten ++ []).length := by
        rw [List.append_nil, hfl, Nat.add_mul]; omega
      have hc : (decide (0 + ls.length * e.size ≤ (ls.flatten ++ []).length) && xs.all AVal.oneCell) = true := by
        rw [hone, Bool.and_true]; exact decide_eq_true (by rw [List.append_nil, hfl]; omega)
      rw [if_neg (by simp), if_neg (by simp [hs0, hb0]; omega), if_pos hby, if_pos trivial, if_neg hnf, if_pos hc]
      have ht : ((ls.flatten ++ []).drop 0).take (ls.length * e.size) = ls.flatten := by rw [List.append_nil, List.drop_zero, ← hfl, List.take_length]
      rw [ht]
      rfl
    · rw [AMem.get_push, if_pos (by simp), hfx, List.append_nil]
    · rw [AMem.get_push, if_neg (by simp; omega), AMem.get_del, if_neg (Ne.symm h2), AMem.get_push, if_neg (by omega)]
  · have hzl : e.size ≤ zs.length := by
      rw [hm]; exact Nat.le_mul_of_pos_left _ (by omega)
    refine ⟨r, (σ.push (.row e.size e.isAgg xs)).put r (.row e.size e.isAgg ((ls ++ [xs]).flatten ++ zs.drop e.size)), zs.drop e.size, ?_, by rw [AMem.get_put, if_pos rfl], .inl rfl, by simp; omega, by simp, fun s h1 h2 => by rw [AMem.get_put, if_neg (Ne.symm h2), AMem.get_push, if_neg (by omega)], m - 1, by rw [List.length_drop, hm, Nat.sub_mul, Nat.one_mul]⟩
    have hf : 0 + (ls.length + 1) * e.size ≤ (ls.flatten ++ zs).length := by
      rw [List.length_append, hfl, Nat.add_mul]; omega
    have hc : (decide (0 + ls.length * e.size + xs.length ≤ (ls.flatten ++ zs).length) && xs.all AVal.oneCell) = true := by
      rw [hone, Bool.and_true]; exact decide_eq_true (by rw [List.length_append, hfl, hxl]; omega)
    have hset : setAt (ls.flatten ++ zs) (0 + ls.length * e.size) xs = (ls ++ [xs]).flatten ++ zs.drop e.size := by
      rw [Nat.zero_add, setAt_split (by rw [List.length_append, hfl, hxl]; omega), ← hfl, List.take_left, ← List.drop_drop, List.drop_left, hxl, hfx, List.append_assoc]
    simp only [appendA, hsrc, hg]
    rw [if_neg (by simp), if_neg (by simp [hs0, hb0]; omega), if_pos hby, if_pos trivial, if_pos hf]
    simp only [storeCellsA, hg, hc, if_true, Option.map_some, hset]

/-! ### find -/
def newSh (n : Int) (of : Nat) : Sh := ⟨n, .some, List.replicate of (.nil, [])⟩
def keepS (n : Int) (of : Nat) (s : Sh) : Bool := !((s.name == n) && decide (s.data.length ≠ of))
/-- The sheaves with one for a chunk, and where it stands. -/
def findL (shs : List Sh) (n : Int) (of : Nat) : List Sh × Int :=
  if placeI n (shs.filter (keepS n of)) ≥ 0 then (shs.filter (keepS n of), placeI n (shs.filter (keepS n of)))
  else if (shs.filter (keepS n of)).length + 1 > 4 then ((shs.filter (keepS n of) ++ [newSh n of]).drop 1, ((shs.filter (keepS n of)).length : Int) - 1)
  else (shs.filter (keepS n of) ++ [newSh n of], ((shs.filter (keepS n of)).length : Int))
end Go.Proofs.YtjckhhkhgjbpaaaGreatDoor

/- The sheaf for a chunk: what the program's find does to the memory. -/
set_option maxRecDepth 100000
set_option linter.unusedSimpArgs false
set_option linter.unusedVariables false
namespace Go.Proofs.YtjckhhkhgjbpaaaGreatDoor
open Go Go.Proofs.YtjckhhkhgjbpaaaGreatDoor.Pale
variable {k : Nat} {σ : AMem}

abbrev SR := Sh × Nat × Option Nat
def itemR (x : SR) : MItem := itemOf x.1 x.2.1 x.2.2
def cellsR (l : List SR) : List (List AVal) := l.map fun x => (itemR x).cells
theorem cellsR_two (l : List SR) : ∀ c, c ∈ cellsR l → c.length = 2 := by
  intro c hc
  obtain ⟨x, _, rfl⟩ := List.mem_map.1 hc
  rfl
theorem cellsR_one (l : List SR) : ∀ c, c ∈ cellsR l → c.all AVal.oneCell = true := by
  intro c hc
  obtain ⟨x, _, rfl⟩ := List.mem_map.1 hc
  rfl
theorem cellsR_eq (l : List SR) : (l.map fun x => itemOf x.1 x.2.1 x.2.2).map MItem.cells = cellsR l := by
  rw [List.map_map]; rfl
/-- A sorter in memory, whose list may begin behind others. -/
structure SrtAt (low : Nat) (σ : AMem) (q r o : Nat) (l : List SR) (zs : List AVal) : Prop where
  row : σ.get r = some (.row 2 true ((cellsR l).flatten ++ zs))
  items : Items low σ q (l.map itemR)
  rq : r ≠ q
  rl : r ∉ l.map fun x => x.2.1
  lo : low ≤ r
  hi : r < σ.next
  zl : ∃ m, zs.length = m * 2
  le : o ≤ l.length
theorem idxI_two {α : Type} {p p' : AVal → Bool} {g h : α → AVal} (e : ∀ x, p (g x) = p' (h x)) : ∀ l : List α, idxI p (l.map g) = idxI p' (l.map h) := by
  intro l
  induction l with
  | nil => rfl
  | cons x l ih => simp only [List.map_cons, idxI, e x, ih]
theorem place_mem (n : Int) (l : List SR) : idxI (sameName n) ((cellsR l).map AVal.agg) = placeI n (l.map (·.1)) := by
  unfold placeI cellsR
  rw [List.map_map, List.map_map]
  exact idxI_two (p := sameName n) (p' := sameName n) (g := fun x : SR => .agg (itemR x).cells) (h := fun x => shV x.1) (fun x => rfl) l
theorem filter_mem (n : Int) (of : Nat) (l : List SR) : (cellsR l).filter (fun c => !delP n of (.agg c)) = cellsR (l.filter fun x => keepS n of x.1) := by
  unfold cellsR
  rw [List.filter_map]
  congr 1
  apply List.filter_congr
  intro x _
  show (!((x.1.name == n) && (((x.1.data.length : Nat) : Int) != (of : Int)))) = keepS n of x.1
  unfold keepS
  congr 2
  rw [Bool.eq_iff_iff]
  simp
  omega
theorem filter_fst (n : Int) (of : Nat) (l : List SR) : (l.filter fun x => keepS n of x.1).map (·.1) = (l.map (·.1)).filter (keepS n of) := by
  rw [List.filter_map]; rfl
theorem rows_sub (n : Int) (of : Nat) (l : List SR) {r : Nat} (h : r ∉ l.map fun x => x.2.1) : r ∉ (l.filter fun x => keepS n of x.1).map fun x => x.2.1 := fun hr => by
  obtain ⟨x, hx, rfl⟩ := List.mem_map.1 hr
  exact h (List.mem_map.2 ⟨x, (List.mem_filter.1 hx).1, rfl⟩)

/-- What DeleteFunc leaves. -/
theorem del_mem {low q r rc : Nat} {l : List SR} (n at_ : Int) (of : Nat) (d : AVal) (hm : SrtMem low σ q (.slice r 0 l.length none 2) l) (hrow : σ.get r = some (.row 2 true (cellsR l).flatten)) (hr : low ≤ r ∧ r < σ.next ∧ r ≠ q ∧ r ∉ l.map (fun x => x.2.1)) (hl : l.length ≤ 1000) (hc : σ.get rc = some (chunkRow n at_ of d)) (hrc : rc < σ.next) (hrcr : rc ≠ r) (hk : 3000 ≤ k) :
    ∃ σ' zs, callN lawProg k (.func 127 [] []) [.slice r 0 l.length none 2, .func 128 [] [.ptr rc 0]] σ = some (.slice r 0 (l.filter fun x => keepS n of x.1).length none 2, σ') ∧ SrtAt low σ' q r 0 (l.filter fun x => keepS n of x.1) zs ∧ σ.next ≤ σ'.next ∧ ∀ s, s < σ.next → s ≠ r → σ'.get s = σ.get s := by
  obtain ⟨k, rfl⟩ : ∃ m, k = m + 2 := ⟨k - 2, by omega⟩
  have hcb : ∀ (j : Nat), 1 ≤ j → ∀ c, c ∈ cellsR l → ∀ σ' : AMem, σ'.get rc = some (chunkRow n at_ of d) → rc < σ'.next → ∃ σ'', callN lawProg j (.func 128 [] [.ptr rc 0]) [.agg c] σ' = some (.bool (delP n of (.agg c)), σ'') ∧ Ext σ' σ'' := by
    intro j hj c hc' σ' h1 h2
    obtain ⟨x, _, rfl⟩ := List.mem_map.1 hc'
    exact find1_callN x.1.name x.2.1 0 x.1.data.length 1 x.2.2 h1 h2 hj
  obtain ⟨σ', zs, d1, d2, d3, d4, d5⟩ := deleteFunc_callN (k := k) (σ := σ) (r := r) (rc := rc) (g := 128) (crow := chunkRow n at_ of d) (cellsR l) (delP n of) (cellsR_two l) (cellsR_one l) (by simpa [cellsR] using hl) hrow hr.2.1 hrcr hrc hc (hcb k (by omega)) (hcb (k + 1) (by omega)) (by omega)
  rw [filter_mem] at d1 d4 d5
  have hlen : ∀ m : List SR, (cellsR m).length = m.length := fun m => by simp [cellsR]
  rw [hlen, hlen] at d1
  have hit : Items low σ q (l.map itemR) := hm.1
  refine ⟨σ', zs, d1, ⟨d4, ?_, hr.2.2.1, rows_sub n of l hr.2.2.2, hr.1, by omega, ⟨_, d5⟩, Nat.zero_le _⟩, d2, d3⟩
  refine Items.sub (hit.same (Nat.le_refl _) d2 (fun x hx => ?_) hit.2.2) (List.Sublist.map _ List.filter_sublist)
  have hb := hit.bound x hx
  have : rowsOf (l.map itemR) = l.map fun x => x.2.1 := rowsOf_items l
  rw [this] at hx
  exact d3 x hb.2 (fun e => hr.2.2.2 (e ▸ hx))

theorem rep_new (of : Nat) : repZ [.vs .nil []] of = (List.replicate of ((.nil, []) : Part)).map partV := by
  induction of with
  | zero => rfl
  | succ n ih => simp only [repZ, ih, List.replicate_succ, List.map_cons]; rfl

/-- A new sheaf behind the others. -/
theorem add_new {low q r : Nat} {l : List SR} {zs : List AVal} (n : Int) (of : Nat) (hm : SrtAt low σ q r 0 l zs) (hlow : low ≤ σ.next) (hq : q < σ.next) (hl : l.length ≤ 1000) :
    ∃ r' σ' zs', appendA tySh ((σ.push (.row 1 false (repZ [.vs .nil []] of))).push (.row 2 true [.int .i64 n, .slice σ.next 0 of (some of) 1])) (.slice r 0 l.length none 2) (.slice (σ.next + 1) 0 1 (some 1) 2) = some (.slice r' 0 (l.length + 1) none 2, σ') ∧ SrtAt low σ' q r' 0 (l ++ [(newSh n of, σ.next, some of)]) zs' ∧ σ.next ≤ σ'.next ∧ ∀ s, s < σ.next → s ≠ r → σ'.get s = σ.get s := by
  obtain ⟨m1, m2, m3, m4, m5, m6, m7, _⟩ := hm
  obtain ⟨r', σ', zs', a1, a2, a3, a4, a5, a6, hzl⟩ := append_room (σ := σ.push (.row 1 false (repZ [.vs .nil []] of))) (e := tySh) (r := r) (n := l.length) (ls := cellsR l) (zs := zs) (xs := [.int .i64 n, .slice σ.next 0 of (some of) 1]) (cellsR_two l) (by simp [cellsR]) (by rw [AMem.get_push, if_neg (by omega)]; exact m1) (by simp; omega) rfl rfl m7 (by decide) (by decide) (by decide) (by simp only [tySh, mostBytes]; omega)
  simp only [AMem.next_push] at a1 a3 a5 a6
  have hc : cellsR (l ++ [(newSh n of, σ.next, some of)]) = cellsR l ++ [[.int .i64 n, .slice σ.next 0 of (some of) 1]] := by
    simp only [cellsR, List.map_append, List.map_cons, List.map_nil]
    congr 2
    simp only [itemR, itemOf, MItem.cells, newSh, List.length_replicate]
    rfl
  have hit := m2
  have hrows : rowsOf (l.map itemR) = l.map fun x => x.2.1 := rowsOf_items l
  have keep : ∀ s, s < σ.next → s ≠ r → σ'.get s = σ.get s := fun s h1 h2 => by
    rw [a6 s (by omega) h2, AMem.get_push, if_neg (by omega)]
  have hnew : σ'.get σ.next = some (.row 1 false (repZ [.vs .nil []] of)) := by
    rw [a6 _ (by omega) (by omega), AMem.get_push, if_pos rfl]
  have hbd : ∀ x, x ∈ l.map (fun x => x.2.1) → x < σ.next := fun x hx => (hit.bound x (by rw [hrows]; exact hx)).2
  refine ⟨r', σ', zs', a1, ⟨by rw [hc]; exact a2, ?_, ?_, ?_, ?_, a4, hzl, Nat.zero_le _⟩, by omega, keep⟩
  · rw [List.map_append]
    refine Items.add (hit.same (Nat.le_refl _) (by omega) (fun x hx => ?_) hit.2.2) ⟨rfl, parts_pure _, .inr ⟨σ.next, some of, ?_, hlow, by omega, ?_⟩⟩ (fun x hx => ?_)
    · have := hit.bound x hx
      rw [hrows] at hx
      exact keep x this.2 (fun e => m4 (e ▸ hx))
    · show AVal.slice σ.next 0 (newSh n of).data.length (some of) 1 = .slice σ.next 0 ((newSh n of).data.map partV).length (some of) 1
      rw [List.length_map]
    · show σ'.get σ.next = some (.row 1 false ((newSh n of).data.map partV))
      rw [hnew, rep_new]; rfl
    · simp only [itemR, itemOf, rowOf, List.mem_singleton] at hx
      subst hx
      refine ⟨fun h => ?_, by omega⟩
      rw [hrows] at h
      have := hbd _ h
      omega
  · rcases a3 with rfl | rfl
    · exact m3
    · omega
  · rw [List.map_append, List.mem_append]
    rintro (hx | hx)
    · rcases a3 with rfl | rfl
      · exact m4 hx
      · have := hbd _ hx; omega
    · simp only [List.map_cons, List.map_nil, List.mem_singleton] at hx
      rcases a3 with rfl | rfl <;> omega
  · rcases a3 with rfl | rfl
    · exact m5
    · omega
end Go.Proofs.YtjckhhkhgjbpaaaGreatDoor

/- The program's find, whole. -/
set_option maxRecDepth 100000
set_option linter.unusedSimpArgs false
set_option linter.unusedVariables false
namespace Go.Proofs.YtjckhhkhgjbpaaaGreatDoor
open Go Go.Proofs.YtjckhhkhgjbpaaaGreatDoor.Pale
variable {k : Nat} {σ : AMem}

theorem deleteNil_callN (g : Nat) (rc : Nat) (hk : 3000 ≤ k) : ∃ σ', callN lawProg k (.func 127 [] []) [.vs .nil [], .func g [] [.ptr rc 0]] σ = some (.vs .nil [], σ') ∧ Ext σ σ' := by
  obtain ⟨k, rfl⟩ : ∃ m, k = m + 2 := ⟨k - 2, by omega⟩
  obtain ⟨σ1, c1, x1⟩ := sheaf_v (k := k) (σ := σ) .nil [] g [.ptr rc 0] (fun _ => false) (by simp) (by simp) (fun h => by cases h) (by simp) (by simp; omega)
  have hbq : ((-1 : Int) == -1) = true := rfl
  have e : ∃ T1, execC lawProg (callN lawProg (k + 1)) (k + 1) 127 42 (bodyOf Tryz.f127) (initT 0 [.vs .nil [], .func g [] [.ptr rc 0]] .nil) σ = some (.ret, T1, σ1) ∧ T1.get 4 = some (.vs .nil []) := by
    simp only [bodyOf, Tryz.f127, Option.getD_some, initT, dx, reduceIte, Nat.reduceLT, Nat.reduceLeDiff, Nat.reduceEqDiff, Nat.reduceAdd, Nat.reduceMul, Nat.reduceSub, Nat.reduceBEq, Int.reduceEq, Int.reduceLT, Int.reduceLE, Int.reduceToNat, reduceCtorEq, sx, fx127, c1, idxI, hbq]
    exact ⟨_, rfl, by simp only [Tr.get_set, Nat.reduceEqDiff, reduceIte]⟩
  obtain ⟨T1, e1, e2⟩ := e
  exact ⟨σ1, q_call (first := []) (caps := []) fn127 rfl (by simp [Tryz.f127]) e1 (by simp) (res_one e2), x1⟩

theorem indexNil_callN (g : Nat) (rc : Nat) (hk : 3000 ≤ k) : ∃ σ', callN lawProg k (.func 129 [] []) [.vs .nil [], .func g [] [.ptr rc 0]] σ = some (.int .i64 (-1), σ') ∧ Ext σ σ' := by
  obtain ⟨k, rfl⟩ : ∃ m, k = m + 1 := ⟨k - 1, by omega⟩
  exact sheaf_v (k := k) (σ := σ) .nil [] g [.ptr rc 0] (fun _ => false) (by simp) (by simp) (fun h => by cases h) (by simp) (by simp; omega)

theorem index_mem {low q r rc : Nat} {l : List SR} {zs : List AVal} (n at_ of : Int) (d : AVal) (hm : SrtAt low σ q r 0 l zs) (hl : l.length ≤ 1000) (hc : σ.get rc = some (chunkRow n at_ of d)) (hrc : rc < σ.next) (hk : 3000 ≤ k) :
    ∃ σ', callN lawProg k (.func 129 [] []) [.slice r 0 l.length none 2, .func 130 [] [.ptr rc 0]] σ = some (.int .i64 (placeI n (l.map (·.1))), σ') ∧ Ext σ σ' := by
  obtain ⟨k, rfl⟩ : ∃ m, k = m + 1 := ⟨k - 1, by omega⟩
  have hlen : (cellsR l).length = l.length := by simp [cellsR]
  have := sheaf_m (k := k) (σ := σ) (r := r) (off := 0) (n := l.length) (cap := none) (cells := (cellsR l).flatten ++ zs) ((cellsR l).map AVal.agg) (by simp [hlen]) hm.row hm.hi (flat_cell (cellsR_two l)) 130 [.ptr rc 0] (sameName n) (by simp [hlen]; omega) (fun h => by cases h) (fun e he σ' hx => by
    obtain ⟨c, hc', rfl⟩ := List.mem_map.1 he
    obtain ⟨x, _, rfl⟩ := List.mem_map.1 hc'
    exact find2_callN x.1.name x.2.1 0 x.1.data.length 1 x.2.2 ((hx.2 rc hrc).trans hc) (by have := hx.1; omega) (by omega)) (by simp [hlen]; omega)
  rw [place_mem] at this
  exact this

theorem SrtAt.same {low q r o : Nat} {σ σ' : AMem} {l : List SR} {zs : List AVal} (h : SrtAt low σ q r o l zs) (hn : σ.next ≤ σ'.next) (hs : ∀ s, low ≤ s → s < σ.next → s ≠ q → σ'.get s = σ.get s) : SrtAt low σ' q r o l zs := by
  obtain ⟨m1, m2, m3, m4, m5, m6, m7, m8⟩ := h
  refine ⟨by rw [hs r m5 m6 m3]; exact m1, m2.same (Nat.le_refl _) hn (fun x hx => ?_) m2.2.2, m3, m4, m5, by omega, m7, m8⟩
  have hb := m2.bound x hx
  exact hs x hb.1 hb.2 (fun e => m2.2.2 (e ▸ hx))
theorem SrtMem.at_ {low q r n : Nat} {σ : AMem} {l : List SR} (h : SrtMem low σ q (.slice r 0 n none 2) l) : SrtAt low σ q r 0 l [] := by
  obtain ⟨h1, ⟨_, h2⟩ | ⟨r', a, b, c, d, e, f⟩⟩ := h
  · cases h2
  · simp only [AVal.slice.injEq] at e
    obtain ⟨rfl, _⟩ := e
    rw [cellsR_eq] at f
    exact ⟨by rw [List.append_nil]; exact f, h1, c, d, a, b, ⟨0, rfl⟩, Nat.zero_le _⟩
theorem newSh_len (n : Int) (of : Nat) : (newSh n of).data.length = of := by simp [newSh]

theorem find_callN {low q : Nat} {out : AVal} {l : List SR} (n at_ : Int) (of : Nat) (d : AVal) (hd1 : d.oneCell = true) (hof : 1 ≤ of ∧ of ≤ 200) (hq : σ.get q = some (.row 1 true [out])) (hqn : q < σ.next) (hql : low ≤ q) (sm : SrtMem low σ q out l) (hl : l.length ≤ 1000) (hk : 4000 ≤ k) :
    ∃ r o l' zs σ', callN lawProg k (.func 70 [] []) [.ptr q 0, .agg [.int .i64 n, .int .i64 at_, .int .i64 (of : Nat), d]] σ = some (.int .i64 (findL (l.map (·.1)) n of).2, σ') ∧ σ.next ≤ σ'.next ∧ (∀ s, s < low → σ'.get s = σ.get s) ∧
      σ'.get q = some (.row 1 true [.slice r (o * 2) (l'.length - o) none 2]) ∧ SrtAt low σ' q r o l' zs ∧ (l'.drop o).map (·.1) = (findL (l.map (·.1)) n of).1 ∧ l'.length ≤ l.length + 1 := by
  obtain ⟨k, rfl⟩ : ∃ m, k = m + 1 := ⟨k - 1, by omega⟩
  obtain ⟨rc, hrc⟩ : ∃ rc, rc = σ.next := ⟨_, rfl⟩
  have hdc := cells_one hd1
  have hcrow : ((σ.push (chunkRow n at_ of d))).get rc = some (chunkRow n at_ of d) := by rw [AMem.get_push, if_pos hrc.symm]
  have h24 : (of : Int) * ((24 : Nat) : Int) ≤ ((mostBytes : Nat) : Int) := by unfold mostBytes; omega
  have hmax : (of : Int) ≤ 9223372036854775807 := by omega
  have q1 : ¬ rc = q := by omega
  have q2 : ¬ q = rc := by omega
  rcases hsm : sm.2 with ⟨hl0, hout⟩ | ⟨r, ra, rb, rcc, rd, hout, rf⟩
  · -- no sheaf is there
    subst hl0; subst hout
    obtain ⟨σ1, c1, x1⟩ := deleteNil_callN (k := k) (σ := σ.push (chunkRow n at_ of d)) 128 rc (by omega)
    have hn1 : σ.next + 1 ≤ σ1.next := by have := x1.1; simpa using this
    have k1 : ∀ s, s < σ.next + 1 → σ1.get s = (σ.push (chunkRow n at_ of d)).get s := fun s hs => x1.2 s (by simpa using hs)
    have gq : σ1.get q = some (.row 1 true [.vs .nil []]) := by rw [k1 q (by omega), AMem.get_push, if_neg (by omega)]; exact hq
    obtain ⟨σ2, c2, x2⟩ := indexNil_callN (k := k) (σ := σ1.put q (.row 1 true [.vs .nil []])) 130 rc (by omega)
    have hn2 : σ1.next ≤ σ2.next := by have := x2.1; simpa using this
    have k2 : ∀ s, s < σ.next + 1 → s ≠ q → σ2.get s = (σ.push (chunkRow n at_ of d)).get s := fun s hs hsq => by
      rw [x2.2 s (by simp; omega), AMem.get_put, if_neg (Ne.symm hsq)]; exact k1 s hs
    have g2q : σ2.get q = some (.row 1 true [.vs .nil []]) := by rw [x2.2 q (by simp; omega), AMem.get_put, if_pos rfl]
    have g2c : σ2.get rc = some (chunkRow n at_ of d) := by rw [k2 rc (by omega) q1]; exact hcrow
    have sm2 : SrtMem low (σ2.push (.row 1 false (repZ [.vs .nil []] of))) q (.vs .nil []) [] := ⟨Items.nil _ _ _, .inl ⟨rfl, rfl⟩⟩
    obtain ⟨σ3, a1, a2, a3, a4, a5⟩ := sm2.add (s := newSh n of) (r := σ2.next) (cap := some of) (by simp; omega) (by simp; omega) (by omega) (by simp) (by rw [AMem.get_push, if_pos rfl, rep_new]; rfl) (by simp) (by omega) (fun n c z h => by cases h) (by simp)
    rw [newSh_len] at a1
    simp only [tySh, AMem.next_push, List.length_nil, Nat.zero_add, Nat.add_assoc, Nat.reduceAdd, show (newSh n of).name = n from rfl] at a1
    have g3q : σ3.get q = some (.row 1 true [.vs .nil []]) := by
      rw [a5 q (by simp; omega) (by intro h; cases h), AMem.get_push, if_neg (by omega)]; exact g2q
    have g3c : σ3.get rc = some (chunkRow n at_ of d) := by
      rw [a5 rc (by simp; omega) (by intro h; cases h), AMem.get_push, if_neg (by omega)]; exact g2c
    have hfl : findL (([] : List SR).map (·.1)) n of = ([newSh n of], 0) := rfl
    rw [hfl]
    unfold chunkRow at c1 g2c g3c
    have hw1 : IntKind.i64.wrap (((1 : Nat) : Int) - 1) = 0 := rfl
    have q3 : ¬ σ2.next = q := by omega
    have q4 : ¬ σ2.next = rc := by omega
    have q5 : ¬ σ2.next + 1 = q := by omega
    have q6 : ¬ σ2.next + 1 = rc := by omega
    have e : ∃ T1, execC lawProg (callN lawProg k) k 70 68 (bodyOf Tryz.f70) (initT 0 [.ptr q 0, .agg [.int .i64 n, .int .i64 at_, .int .i64 (of : Nat), d]] .nil) σ = some (.ret, T1, σ3.put q (.row 1 true [.slice (σ2.next + 2) 0 1 none 2])) ∧ T1.get 4 = some (.int .i64 0) := by
      simp only [bodyOf, Tryz.f70, Option.getD_some, initT, dx, reduceIte, Nat.reduceLT, Nat.reduceLeDiff, Nat.reduceEqDiff, Nat.reduceAdd, Nat.reduceMul, Nat.reduceSub, Nat.reduceBEq, Int.reduceEq, Int.reduceLT, Int.reduceLE, Int.reduceToNat, reduceCtorEq, sx, fx70, Nat.add_assoc, Nat.add_eq_left, Nat.left_eq_add, Nat.add_left_cancel_iff, ← hrc, q1, q2, hq, c1, gq, c2, g2q, g2c, Int.natCast_nonneg, Int.le_refl, Int.toNat_natCast, h24, hmax, q3, q4, q5, q6, a1, g3q, hw1, show ¬ (-1 : Int) ≥ 0 by decide, show ¬ ((1 : Nat) : Int) > 4 by decide]
      exact ⟨_, rfl, by simp only [Tr.get_set, Nat.reduceEqDiff, reduceIte]⟩
    obtain ⟨T1, e1, e2⟩ := e
    have hlow3 : ∀ s, s < low → s < σ.next → (σ3.put q (.row 1 true [.slice (σ2.next + 2) 0 1 none 2])).get s = σ.get s := fun s h1 h2 => by
      rw [AMem.get_put, if_neg (by omega), a4 s h1, AMem.get_push, if_neg (by omega), k2 s (by omega) (by omega), AMem.get_push, if_neg (by omega)]
    simp only [AMem.next_push, List.length_nil, Nat.zero_add, Nat.add_assoc, Nat.reduceAdd, List.nil_append] at a2
    refine ⟨σ2.next + 2, 0, [(newSh n of, σ2.next, some of)], [], _, q_call (first := []) (caps := []) fn70 rfl (by simp [Tryz.f70]) e1 (by simp) (res_one e2), by simp only [AMem.next_put]; simp at a3; omega, fun s hs => hlow3 s hs (by omega), by rw [AMem.get_put, if_pos rfl]; rfl, ?_, rfl, by simp⟩
    exact a2.at_.same (by simp) fun s _ _ hs => by rw [AMem.get_put, if_neg (Ne.symm hs)]
  · -- there are some
    subst hout
    rw [cellsR_eq] at rf
    obtain ⟨σ1, zs, c1, m1, n1, f1⟩ := del_mem (k := k) (σ := σ.push (chunkRow n at_ of d)) (rc := rc) n at_ of d (sm.same (by simp) fun s _ h2 _ => by rw [AMem.get_push, if_neg (by omega)]) (by rw [AMem.get_push, if_neg (by omega)]; exact rf) ⟨ra, by simp; omega, rcc, rd⟩ hl hcrow (by simp; omega) (by omega) (by omega)
    have hn1 : σ.next + 1 ≤ σ1.next := by simpa using n1
    generalize hl1 : (l.filter fun x => keepS n of x.1) = l1 at *
    have hl1l : l1.length ≤ l.length := by rw [← hl1]; exact List.length_filter_le _ _
    have hl1n : l1.length ≤ 1000 := by rw [← hl1]; exact Nat.le_trans (List.length_filter_le _ _) hl
    have gq : σ1.get q = some (.row 1 true [.slice r 0 l.length none 2]) := by rw [f1 q (by simp; omega) (Ne.symm rcc), AMem.get_push, if_neg (by omega)]; exact hq
    have gc : σ1.get rc = some (chunkRow n at_ of d) := by rw [f1 rc (by simp; omega) (by omega)]; exact hcrow
    have m2 : SrtAt low (σ1.put q (.row 1 true [.slice r 0 l1.length none 2])) q r 0 l1 zs := m1.same (by simp) fun s _ _ hs => by rw [AMem.get_put, if_neg (Ne.symm hs)]
    obtain ⟨σ2, c2, x2⟩ := index_mem (k := k) (rc := rc) n at_ of d m2 hl1n (by rw [AMem.get_put, if_neg (by omega)]; exact gc) (by simp; omega) (by omega)
    have hn2 : σ1.next ≤ σ2.next := by have := x2.1; simpa using this
    have g2q : σ2.get q = some (.row 1 true [.slice r 0 l1.length none 2]) := by rw [x2.2 q (by simp; omega), AMem.get_put, if_pos rfl]
    have g2c : σ2.get rc = some (chunkRow n at_ of d) := by rw [x2.2 rc (by simp; omega), AMem.get_put, if_neg (by omega)]; exact gc
    have m3 : SrtAt low σ2 q r 0 l1 zs := m2.same (by simpa using hn2) fun s _ h2 _ => x2.2 s h2
    have hlow2 : ∀ s, s < low → σ2.get s = σ.get s := fun s hs => by
      rw [x2.2 s (by simp; omega), AMem.get_put, if_neg (by omega), f1 s (by simp; omega) (by omega), AMem.get_push, if_neg (by omega)]
    have hfst : l1.map (·.1) = (l.map (·.1)).filter (keepS n of) := by rw [← hl1]; exact filter_fst n of l
    have hlen1 : ((l.map (·.1)).filter (keepS n of)).length = l1.length := by rw [← hfst, List.length_map]
    unfold chunkRow at c1 gc g2c
    by_cases hp : placeI n (l1.map (·.1)) ≥ 0
    · have hfl : findL (l.map (·.1)) n of = (l1.map (·.1), placeI n (l1.map (·.1))) := by
        unfold findL
        rw [← hfst, if_pos hp]
      rw [hfl]
      have e : ∃ T1, execC lawProg (callN lawProg k) k 70 68 (bodyOf Tryz.f70) (initT 0 [.ptr q 0, .agg [.int .i64 n, .int .i64 at_, .int .i64 (of : Nat), d]] .nil) σ = some (.ret, T1, σ2) ∧ T1.get 4 = some (.int .i64 (placeI n (l1.map (·.1)))) := by
        simp only [bodyOf, Tryz.f70, Option.getD_some, initT, dx, reduceIte, Nat.reduceLT, Nat.reduceLeDiff, Nat.reduceEqDiff, Nat.reduceAdd, Nat.reduceMul, Nat.reduceSub, Nat.reduceBEq, Int.reduceEq, Int.reduceLT, Int.reduceLE, Int.reduceToNat, reduceCtorEq, sx, fx70, Nat.add_assoc, Nat.add_eq_left, Nat.left_eq_add, Nat.add_left_cancel_iff, ← hrc, q1, q2, hq, c1, gq, c2, hp]
        exact ⟨_, rfl, by simp only [Tr.get_set, Nat.reduceEqDiff, reduceIte]⟩
      obtain ⟨T1, e1, e2⟩ := e
      exact ⟨r, 0, l1, zs, σ2, q_call (first := []) (caps := []) fn70 rfl (by simp [Tryz.f70]) e1 (by simp) (res_one e2), by omega, hlow2, by rw [g2q, Nat.zero_mul, Nat.sub_zero], m3, rfl, by omega⟩
    · obtain ⟨r', σ3, zs', a1, a2, a3, a4⟩ := add_new (σ := σ2) n of m3 (by omega) (by omega) hl1n
      have g3q : σ3.get q = some (.row 1 true [.slice r 0 l1.length none 2]) := by rw [a4 q (by omega) (Ne.symm rcc)]; exact g2q
      have g3c : σ3.get rc = some (.row 4 true [.int .i64 n, .int .i64 at_, .int .i64 (of : Nat), d]) := by rw [a4 rc (by omega) (by omega)]; exact g2c
      simp only [tySh] at a1
      have q3 : ¬ σ2.next = q := by omega
      have q4 : ¬ σ2.next = rc := by omega
      have q5 : ¬ σ2.next + 1 = q := by omega
      have q6 : ¬ σ2.next + 1 = rc := by omega
      have hlow3 : ∀ s, s < low → σ3.get s = σ.get s := fun s hs => by rw [a4 s (by omega) (by omega)]; exact hlow2 s hs
      by_cases h5 : ((l1.length + 1 : Nat) : Int) > 4
      · have hfl : findL (l.map (·.1)) n of = (((l1 ++ [(newSh n of, σ2.next, some of)]).drop 1).map (·.1), (l1.length : Int) - 1) := by
          unfold findL
          rw [← hfst, if_neg hp, List.length_map, if_pos (by omega), List.map_drop, List.map_append]
          rfl
        rw [hfl]
        have s1 : ∀ σ : AMem, sliceM σ 2 r' 0 (l1.length + 1) none 2 (some (.int .i64 1)) none none = some (.slice r' 2 l1.length none 2) := fun σ => slice_from (off := 0) (i := 1) (z := 2) (n := l1.length + 1) (by omega)
        have hw1 : IntKind.i64.wrap (((l1.length : Nat) : Int) - 1) = ((l1.length : Nat) : Int) - 1 := i64_id (by omega) (by omega)
        have e : ∃ T1, execC lawProg (callN lawProg k) k 70 68 (bodyOf Tryz.f70) (initT 0 [.ptr q 0, .agg [.int .i64 n, .int .i64 at_, .int .i64 (of : Nat), d]] .nil) σ = some (.ret, T1, (σ3.put q (.row 1 true [.slice r' 0 (l1.length + 1) none 2])).put q (.row 1 true [.slice r' 2 l1.length none 2])) ∧ T1.get 4 = some (.int .i64 (((l1.length : Nat) : Int) - 1)) := by
          simp only [bodyOf, Tryz.f70, Option.getD_some, initT, dx, reduceIte, Nat.reduceLT, Nat.reduceLeDiff, Nat.reduceEqDiff, Nat.reduceAdd, Nat.reduceMul, Nat.reduceSub, Nat.reduceBEq, Int.reduceEq, Int.reduceLT, Int.reduceLE, Int.reduceToNat, reduceCtorEq, sx, fx70, Nat.add_assoc, Nat.add_eq_left, Nat.left_eq_add, Nat.add_left_cancel_iff, ← hrc, q1, q2, hq, c1, gq, c2, hp, g2q, g2c, Int.natCast_nonneg, Int.le_refl, Int.toNat_natCast, h24, hmax, q3, q4, q5, q6, a1, g3q, h5, s1, hw1]
          exact ⟨_, rfl, by simp only [Tr.get_set, Nat.reduceEqDiff, reduceIte]⟩
        obtain ⟨T1, e1, e2⟩ := e
        refine ⟨r', 1, l1 ++ [(newSh n of, σ2.next, some of)], zs', _, q_call (first := []) (caps := []) fn70 rfl (by simp [Tryz.f70]) e1 (by simp) (res_one e2), by simp only [AMem.next_put]; omega, fun s hs => by rw [AMem.get_put, if_neg (by omega), AMem.get_put, if_neg (by omega)]; exact hlow3 s hs, ?_, ?_, rfl, by simp only [List.length_append, List.length_singleton]; omega⟩
        · rw [AMem.get_put, if_pos rfl, List.length_append, List.length_singleton, Nat.add_sub_cancel]
        · obtain ⟨b1, b2, b3, b4, b5, b6, b7, _⟩ := a2
          have := SrtAt.same (σ' := (σ3.put q (.row 1 true [.slice r' 0 (l1.length + 1) none 2])).put q (.row 1 true [.slice r' 2 l1.length none 2])) (⟨b1, b2, b3, b4, b5, b6, b7, by simp⟩ : SrtAt low σ3 q r' 1 (l1 ++ [(newSh n of, σ2.next, some of)]) zs') (by simp) fun s _ _ hs => by rw [AMem.get_put, if_neg (Ne.symm hs), AMem.get_put, if_neg (Ne.symm hs)]
          exact this
      · have hfl : findL (l.map (·.1)) n of = ((l1 ++ [(newSh n of, σ2.next, some of)]).map (·.1), (l1.length : Int)) := by
          unfold findL
          rw [← hfst, if_neg hp, List.length_map, if_neg (by omega), List.map_append]
          rfl
        rw [hfl]
        have hw1 : IntKind.i64.wrap (((l1.length + 1 : Nat) : Int) - 1) = ((l1.length : Nat) : Int) := by rw [i64_id (by omega) (by omega)]; omega
        have e : ∃ T1, execC lawProg (callN lawProg k) k 70 68 (bodyOf Tryz.f70) (initT 0 [.ptr q 0, .agg [.int .i64 n, .int .i64 at_, .int .i64 (of : Nat), d]] .nil) σ = some (.ret, T1, σ3.put q (.row 1 true [.slice r' 0 (l1.length + 1) none 2])) ∧ T1.get 4 = some (.int .i64 ((l1.length : Nat) : Int)) := by
          simp only [bodyOf, Tryz.f70, Option.getD_some, initT, dx, reduceIte, Nat.reduceLT, Nat.reduceLeDiff, Nat.reduceEqDiff, Nat.reduceAdd, Nat.reduceMul, Nat.reduceSub, Nat.reduceBEq, Int.reduceEq, Int.reduceLT, Int.reduceLE, Int.reduceToNat, reduceCtorEq, sx, fx70, Nat.add_assoc, Nat.add_eq_left, Nat.left_eq_add, Nat.add_left_cancel_iff, ← hrc, q1, q2, hq, c1, gq, c2, hp, g2q, g2c, Int.natCast_nonneg, Int.le_refl, Int.toNat_natCast, h24, hmax, q3, q4, q5, q6, a1, g3q, h5, hw1]
          exact ⟨_, rfl, by simp only [Tr.get_set, Nat.reduceEqDiff, reduceIte]⟩
        obtain ⟨T1, e1, e2⟩ := e
        refine ⟨r', 0, l1 ++ [(newSh n of, σ2.next, some of)], zs', _, q_call (first := []) (caps := []) fn70 rfl (by simp [Tryz.f70]) e1 (by simp) (res_one e2), by simp only [AMem.next_put]; omega, fun s hs => by rw [AMem.get_put, if_neg (by omega)]; exact hlow3 s hs, ?_, ?_, rfl, by simp only [List.length_append, List.length_singleton]; omega⟩
        · rw [AMem.get_put, if_pos rfl, List.length_append, List.length_singleton, Nat.sub_zero, Nat.zero_mul]
        · exact a2.same (by simp) fun s _ _ hs => by rw [AMem.get_put, if_neg (Ne.symm hs)]
end Go.Proofs.YtjckhhkhgjbpaaaGreatDoor

/- slices.Delete over sheaves; parts behind one another. -/
set_option maxRecDepth 100000
set_option linter.unusedSimpArgs false
set_option linter.unusedVariables false
namespace Go.Proofs.YtjckhhkhgjbpaaaGreatDoor
open Go Go.Proofs.YtjckhhkhgjbpaaaGreatDoor.Pale
variable {k : Nat} {σ : AMem}

theorem deleteSh_callN {low q r o i : Nat} {l : List SR} {zs : List AVal} (hm : SrtAt low σ q r o l zs) (hi : o + i < l.length) (hl : l.length ≤ 1000) (hk : 1 ≤ k) :
    ∃ σ' zs', callN lawProg k (.func 74 [] []) [.slice r (o * 2) (l.length - o) none 2, .int .i64 (i : Nat), .int .i64 ((i + 1 : Nat) : Int)] σ = some (.slice r (o * 2) (l.length - o - 1) none 2, σ') ∧ SrtAt low σ' q r o (l.eraseIdx (o + i)) zs' ∧ σ'.next = σ.next ∧ ∀ s, s ≠ r → σ'.get s = σ.get s := by
  obtain ⟨k, rfl⟩ : ∃ m, k = m + 1 := ⟨k - 1, by omega⟩
  obtain ⟨m1, m2, m3, m4, m5, m6, ⟨mz, hz⟩, m8⟩ := hm
  have hcl : (cellsR l).length = l.length := by simp [cellsR]
  have hone : (cellsR l).flatten.all AVal.oneCell = true := by
    rw [List.all_eq_true]
    intro v hv
    obtain ⟨c, hc, hv⟩ := List.mem_flatten.1 hv
    exact (List.all_eq_true.1 (cellsR_one l c hc)) v hv
  obtain ⟨σ1, last, a1, a2, a3, a4, a5⟩ := append_down2 (σ := σ) (e := tySh) (r := r) (o := o) (i := i) (n := l.length - (o + i + 1)) (ls := cellsR l) (more := zs) (cellsR_two l) (by rw [hcl]; exact hi) (by rw [hcl]) m1 hone (by decide) (by decide) (by decide) (by rw [hcl]; simp only [tySh, mostBytes]; omega)
  rw [hcl] at a1
  have her : (cellsR l).eraseIdx (o + i) = cellsR (l.eraseIdx (o + i)) := by
    unfold cellsR
    rw [List.eraseIdx_eq_take_drop_succ, List.eraseIdx_eq_take_drop_succ, List.map_append, List.map_take, List.map_drop]
  rw [her] at a3
  have hle : (l.eraseIdx (o + i)).length = l.length - 1 := by rw [List.length_eraseIdx, if_pos hi]
  have hel : (cellsR (l.eraseIdx (o + i))).flatten.length = (l.length - 1) * tySh.size := by
    rw [flat_length (cellsR_two _)]
    simp only [cellsR, List.length_map, hle]
    rfl
  have b1 := clear_last (σ := σ1) (e := tySh) (r := r) (n := l.length - 1) (last := last) (more := zs) hel a2 a3 rfl rfl
  have hbq : ((i : Int) == ((i + 1 : Nat) : Int)) = false := by simp; omega
  have s1 := slice_three (σ := σ) (sz := 2) (r := r) (off := o * 2) (n := l.length - o) (i := i) (j := i + 1) (m := l.length - o) (z := 2) (k := .i64) (k2 := .i64) (k3 := .i64) (by omega) (by omega) (by omega)
  have s2 := slice_to (σ := σ) (sz := 2) (r := r) (off := o * 2) (n := l.length - o) (i := i) (z := 2) (k := .i64) (by omega)
  have s3 := slice_from (σ := σ) (sz := 2) (r := r) (off := o * 2) (n := l.length - o) (i := i + 1) (z := 2) (k := .i64) (by omega)
  have s4 := slice_behind (σ := σ1) (sz := 2) (r := r) (off := o * 2) (n := l.length - o - 1) (i := l.length - o - 1) (j := l.length - o) (z := 2) (k := .i64) (k2 := .i64) (by omega) a3 (by omega) (by simp only [List.length_append, hel, a2, show tySh.size = 2 from rfl]; omega)
  have e4 : l.length - o - (l.length - o - 1) = 1 := by omega
  have e3 : o * 2 + (i + 1) * 2 = (o + i + 1) * 2 := by omega
  have e5 : o * 2 + (l.length - o - 1) * 2 = (l.length - 1) * 2 := by omega
  have e6 : l.length - o - (i + 1) = l.length - (o + i + 1) := by omega
  rw [e4, e5] at s4
  rw [e3, e6] at s3
  simp only [tySh, TyI.isAgg, Nat.zero_add] at a1 b1
  have e : ∃ T1, execC lawProg (callN lawProg k) k 74 33 (bodyOf Tryz.f74) (initT 0 [.slice r (o * 2) (l.length - o) none 2, .int .i64 (i : Nat), .int .i64 ((i + 1 : Nat) : Int)] .nil) σ = some (.ret, T1, σ1.put r (.row 2 true ((cellsR (l.eraseIdx (o + i))).flatten ++ ([.int .i64 0, .vs .nil []] ++ zs)))) ∧ T1.get 6 = some (.slice r (o * 2) (l.length - o - 1) none 2) := by
    simp only [bodyOf, Tryz.f74, Option.getD_some, initT, dx, reduceIte, Nat.reduceLT, Nat.reduceLeDiff, Nat.reduceEqDiff, Nat.reduceAdd, Nat.reduceMul, Nat.reduceSub, Nat.reduceBEq, Int.reduceEq, Int.reduceLT, Int.reduceLE, Int.reduceToNat, reduceCtorEq, sx, fx74, hbq, s1, s2, s3, a1, s4, b1]
    exact ⟨_, rfl, by simp only [Tr.get_set, Nat.reduceEqDiff, reduceIte]⟩
  obtain ⟨T1, e1, e2⟩ := e
  have hrows : rowsOf (l.map itemR) = l.map fun x => x.2.1 := rowsOf_items l
  have hsub : (l.eraseIdx (o + i)).Sublist l := List.eraseIdx_sublist ..
  refine ⟨_, [.int .i64 0, .vs .nil []] ++ zs, q_call (first := []) (caps := []) fn74 rfl (by simp [Tryz.f74]) e1 (by simp) (res_one e2), ⟨by rw [AMem.get_put, if_pos rfl], ?_, m3, fun h => m4 ((hsub.map _).subset h), m5, by simp only [AMem.next_put]; omega, ⟨mz + 1, by simp only [List.length_append, hz, List.length_cons, List.length_nil]; omega⟩, by omega⟩, by simpa using a4, fun s hs => by rw [AMem.get_put, if_neg (Ne.symm hs)]; exact a5 s hs⟩
  refine Items.sub (m2.same (Nat.le_refl _) (by simp only [AMem.next_put]; omega) (fun x hx => ?_) m2.2.2) (hsub.map _)
  have hb := m2.bound x hx
  rw [hrows] at hx
  have hxr : x ≠ r := fun e => m4 (e ▸ hx)
  rw [AMem.get_put, if_neg (Ne.symm hxr)]
  exact a5 x hxr

/-! ### slices.Concat -/
theorem rep_bytes (n : Nat) : repZ [AVal.int .u8 0] n = bytesV (List.replicate n 0) := by
  induction n with
  | zero => rfl
  | succ n ih => simp only [repZ, ih, List.replicate_succ, bytesV, List.map_cons]; rfl
theorem grow_callN (n : Nat) (h0 : 0 < n) (hn : n ≤ 1000000) (hk : 1 ≤ k) : callN lawProg k (.func 132 [] []) [.vs .nil [], .int .i64 (n : Nat)] σ = some (.slice σ.next 0 0 none 1, σ.push (.row 1 false (bytesV (List.replicate n 0)))) := by
  obtain ⟨k, rfl⟩ : ∃ m, k = m + 1 := ⟨k - 1, by omega⟩
  have hw : IntKind.i64.wrap ((n : Int) - 0) = (n : Int) := by rw [Int.sub_zero]; exact i64_id (by omega) (by omega)
  have hge : ¬ (n : Int) < 0 := by omega
  have hgt : (n : Int) > 0 := by omega
  have hz : appendZ ⟨.int .u8, 1, 1, [.int .u8 0]⟩ σ (.vs .nil []) (.int .i64 (n : Nat)) = some (.slice σ.next 0 n none 1, σ.push (.row 1 false (bytesV (List.replicate n 0)))) := by
    simp only [appendZ, Int.toNat_natCast, rep_bytes]
    rw [if_pos ⟨by omega, by decide, by decide, by decide, by unfold mostBytes; omega⟩]
    rfl
  have hsl : sliceM (σ.push (.row 1 false (bytesV (List.replicate n 0)))) 1 σ.next 0 n none 1 none (some (.int .i64 0)) none = some (.slice σ.next 0 0 none 1) := slice_to (off := 0) (i := 0) (z := 1) (n := n) (by omega)
  have e : ∃ T1, execC lawProg (callN lawProg k) k 132 27 (bodyOf Tryz.f132) (initT 0 [.vs .nil [], .int .i64 (n : Nat)] .nil) σ = some (.ret, T1, σ.push (.row 1 false (bytesV (List.replicate n 0)))) ∧ T1.get 4 = some (.slice σ.next 0 0 none 1) := by
    simp only [bodyOf, Tryz.f132, Option.getD_some, initT, dx, reduceIte, Nat.reduceLT, Nat.reduceLeDiff, Nat.reduceEqDiff, Nat.reduceAdd, Nat.reduceMul, Nat.reduceSub, Nat.reduceBEq, Int.reduceEq, Int.reduceLT, Int.reduceLE, Int.reduceToNat, reduceCtorEq, sx, fx132, hge, hgt, hw, show IntKind.i64.wrap ((0 : Int) - 0) = 0 from rfl, capB, show ((0 : Nat) : Int) = 0 from rfl, hz, hsl, Int.le_refl]
    exact ⟨_, rfl, by simp only [Tr.get_set, Nat.reduceEqDiff, reduceIte]⟩
  obtain ⟨T1, e1, e2⟩ := e
  exact q_call (first := []) (caps := []) fn132 rfl (by simp [Tryz.f132]) e1 (by simp) (res_one e2)

def catL (l : List Part) : List Nat := l.flatMap (·.2)
theorem catL_take {l : List Part} {i : Nat} (hi : i < l.length) : catL (l.take (i + 1)) = catL (l.take i) ++ l[i].2 := by
  unfold catL
  rw [List.take_succ_eq_append_getElem hi, List.flatMap_append]
  simp
theorem catL_le (l : List Part) (i : Nat) : (catL (l.take i)).length ≤ (catL l).length := by
  have : catL l = catL (l.take i) ++ catL (l.drop i) := by
    unfold catL
    rw [← List.flatMap_append, List.take_append_drop]
  rw [this, List.length_append]
  omega
/-- append where there is room. -/
theorem append_in {r m : Nat} {a b rest : List Nat} (vk : VK) (hm : m = a.length) (hr : σ.get r = some (.row 1 false (bytesV (a ++ rest)))) (hb : b.length ≤ rest.length) (hl : a.length + rest.length ≤ 1000000) :
    ∃ σ', appendA ⟨.int .u8, 1, 1, [.int .u8 0]⟩ σ (.slice r 0 m none 1) (.vs vk (bytesV b)) = some (.slice r 0 (m + b.length) none 1, σ') ∧ σ'.get r = some (.row 1 false (bytesV ((a ++ b) ++ rest.drop b.length))) := by
  subst hm
  by_cases h0 : b.length = 0
  · have hb0 : b = [] := List.eq_nil_of_length_eq_zero h0
    subst hb0
    exact ⟨σ, by simp only [appendA, source_bytes, List.length_nil, if_true, Nat.add_zero], by simpa using hr⟩
  · refine ⟨σ.put r (.row 1 false (bytesV ((a ++ b) ++ rest.drop b.length))), ?_, by rw [AMem.get_put, if_pos rfl]⟩
    have hset : setAt (bytesV (a ++ rest)) (0 + a.length * 1) (bytesV b) = bytesV ((a ++ b) ++ rest.drop b.length) := by
      rw [Nat.zero_add, Nat.mul_one, setAt_split (by simp only [bytesV_length, List.length_append]; omega), bytesV_take, bytesV_drop, bytesV_length, List.take_left, ← List.drop_drop, List.drop_left, bytesV_append, bytesV_append, List.append_assoc]
    have hc : (decide (0 + a.length * 1 + (bytesV b).length ≤ (bytesV (a ++ rest)).length) && (bytesV b).all AVal.oneCell) = true := by
      rw [bytesV_all, Bool.and_true]; exact decide_eq_true (by simp only [bytesV_length, List.length_append]; omega)
    simp only [appendA, source_bytes, if_neg h0, hr]
    rw [if_neg (by simp), if_pos (by unfold mostBytes; omega), if_pos trivial, if_pos (by simp only [bytesV_length, List.length_append]; omega)]
    simp only [storeCellsA, hr, hc, if_true, Option.map_some, hset]

theorem concat_run (K : VK) (l : List Part) (h0 : 0 < (catL l).length) (hn : (catL l).length ≤ 100000) (hl : l.length ≤ 1000) (hp : ∀ p, p ∈ l → p.2.length ≤ 1000) (hk : 2001 ≤ k) : pureRun (callN lawProg (k + 1)) (.func 75 [] []) [.vs K (l.map partV)] = some (.vs .some (bytesV (catL l)), true) := by
  have run : ∃ T1 σ1 r, execC lawProg (callN lawProg k) k 75 36 (bodyOf Tryz.f75) (initT 0 [.vs K (l.map partV)] .nil) AMem.empty = some (.ret, T1, σ1) ∧ T1.get 2 = some (.slice r 0 (catL l).length none 1) ∧ σ1.get r = some (.row 1 false (bytesV (catL l ++ []))) := by
    simp only [bodyOf, Tryz.f75, Option.getD_some, initT, dx, reduceIte, Nat.reduceLT, Nat.reduceLeDiff, Nat.reduceEqDiff, Nat.reduceAdd, Nat.reduceMul, Nat.reduceSub, Nat.reduceBEq, Int.reduceEq, Int.reduceLT, Int.reduceLE, Int.reduceToNat, reduceCtorEq, sx, fx75, List.length_map]
    generalize hL : execC _ _ _ _ _ (Code.loop _) _ _ = q
    obtain ⟨e, T', σ', rfl, _, rfl, rfl, u0, u3⟩ : ∃ e T' σ', q = some (e, T', σ') ∧ e ≠ .normal ∧ (e = .exit 0 ∧ σ' = AMem.empty ∧ T'.get 0 = some (.vs K (l.map partV)) ∧ T'.get 3 = some (.int .i64 (catL l).length)) := by
      rw [← hL]
      refine exec_loop (fun i T σ => σ = AMem.empty ∧ i ≤ l.length ∧ T.get 0 = some (.vs K (l.map partV)) ∧ T.get 3 = some (.int .i64 (catL (l.take i)).length) ∧ T.get 9 = some (.vs K (l.map partV)) ∧ T.get 10 = some (.int .i64 l.length) ∧ T.get 11 = some (.int .i64 i)) l.length (by omega) ?_ ?_ ?_
      · rintro i hi T σ ⟨rfl, _, t0, t3, t9, t10, t11⟩
        have hlt : (i : Int) < l.length := by omega
        have hw := i64_succ (i := i) (by omega)
        have hle := catL_le l i
        have hpi := hp _ (List.getElem_mem hi)
        have hw2 : IntKind.i64.wrap (((catL (l.take i)).length : Int) + ((l[i].2.length : Nat) : Int)) = ((catL (l.take (i + 1))).length : Int) := by
          rw [i64_id (by omega) (by omega), catL_take hi, List.length_append]; omega
        have hge : ¬ ((catL (l.take (i + 1))).length : Int) < 0 := by omega
        refine ⟨_, _, by
          simp only [dx, reduceIte, Nat.reduceLT, Nat.reduceLeDiff, Nat.reduceEqDiff, Nat.reduceAdd, Nat.reduceMul, Nat.reduceSub, Nat.reduceBEq, Int.reduceEq, Int.reduceLT, Int.reduceLE, Int.reduceToNat, reduceCtorEq, sx, fx75, t0, t3, t9, t10, t11, hlt, Int.natCast_nonneg, Int.toNat_natCast, part_get hi, bytesV_length, hw2, hge, hw]
          rfl, rfl, hi, ?_, ?_, ?_, ?_, ?_⟩
        all_goals simp only [Tr.get_set, Nat.reduceEqDiff, reduceIte, t0, t9, t10]
      · rintro T σ ⟨rfl, _, t0, t3, t9, t10, t11⟩
        rw [List.take_length] at t3
        refine ⟨_, _, _, by
          simp only [dx, reduceIte, Nat.reduceLT, Nat.reduceLeDiff, Nat.reduceEqDiff, Nat.reduceAdd, Nat.reduceMul, Nat.reduceSub, Nat.reduceBEq, Int.reduceEq, Int.reduceLT, Int.reduceLE, Int.reduceToNat, reduceCtorEq, sx, fx75, t9, t10, t11, Int.lt_irrefl]
          rfl, by simp, rfl, rfl, ?_, ?_⟩
        all_goals simp only [Tr.get_set, Nat.reduceEqDiff, reduceIte, t0, t3]
      · refine ⟨rfl, Nat.zero_le _, ?_, ?_, ?_, ?_, ?_⟩
        all_goals simp only [Tr.get_set, Nat.reduceEqDiff, reduceIte]
        all_goals rfl
    have hg := grow_callN (k := k) (σ := AMem.empty) (catL l).length h0 (by omega) (by omega)
    simp only [dx, reduceIte, Nat.reduceLT, Nat.reduceLeDiff, Nat.reduceEqDiff, Nat.reduceAdd, Nat.reduceMul, Nat.reduceSub, Nat.reduceBEq, Int.reduceEq, Int.reduceLT, Int.reduceLE, Int.reduceToNat, reduceCtorEq, sx, fx75, u0, u3, hg, List.length_map]
    generalize hL2 : execC _ _ _ _ _ (Code.loop _) _ _ = q2
    obtain ⟨e, T', σ', rfl, _, rfl, v6, v7⟩ : ∃ e T' σ', q2 = some (e, T', σ') ∧ e ≠ .normal ∧ (e = .exit 2 ∧ T'.get 6 = some (.slice 0 0 (catL l).length none 1) ∧ σ'.get 0 = some (.row 1 false (bytesV (catL l ++ [])))) := by
      rw [← hL2]
      refine exec_loop (fun i T σ => i ≤ l.length ∧ T.get 6 = some (.slice 0 0 (catL (l.take i)).length none 1) ∧ T.get 25 = some (.vs K (l.map partV)) ∧ T.get 26 = some (.int .i64 l.length) ∧ T.get 27 = some (.int .i64 i) ∧ σ.get 0 = some (.row 1 false (bytesV (catL (l.take i) ++ List.replicate ((catL l).length - (catL (l.take i)).length) 0)))) l.length (by omega) ?_ ?_ ?_
      · rintro i hi T σ ⟨_, t6, t25, t26, t27, m0⟩
        have hlt : (i : Int) < l.length := by omega
        have hw := i64_succ (i := i) (by omega)
        have hle := catL_le l (i + 1)
        have hct := catL_take hi
        have hcl : (catL (l.take (i + 1))).length = (catL (l.take i)).length + l[i].2.length := by rw [hct, List.length_append]
        obtain ⟨σ2, a1, a2⟩ := append_in (σ := σ) (b := l[i].2) l[i].1 rfl m0 (by rw [List.length_replicate]; omega) (by rw [List.length_replicate]; omega)
        refine ⟨_, _, by
          simp only [dx, reduceIte, Nat.reduceLT, Nat.reduceLeDiff, Nat.reduceEqDiff, Nat.reduceAdd, Nat.reduceMul, Nat.reduceSub, Nat.reduceBEq, Int.reduceEq, Int.reduceLT, Int.reduceLE, Int.reduceToNat, reduceCtorEq, sx, fx75, t6, t25, t26, t27, hlt, Int.natCast_nonneg, Int.toNat_natCast, part_get hi, a1, hw]
          rfl, hi, ?_, ?_, ?_, ?_, ?_⟩
        · rw [hcl]; simp only [Tr.get_set, Nat.reduceEqDiff, reduceIte]
        · simp only [Tr.get_set, Nat.reduceEqDiff, reduceIte, t25]
        · simp only [Tr.get_set, Nat.reduceEqDiff, reduceIte, t26]
        · simp only [Tr.get_set, Nat.reduceEqDiff, reduceIte]
        · rw [a2, hct, List.drop_replicate, ← hct, hcl, Nat.sub_sub]
      · rintro T σ ⟨_, t6, t25, t26, t27, m0⟩
        rw [List.take_length] at t6 m0
        refine ⟨_, _, _, by
          simp only [dx, reduceIte, Nat.reduceLT, Nat.reduceLeDiff, Nat.reduceEqDiff, Nat.reduceAdd, Nat.reduceMul, Nat.reduceSub, Nat.reduceBEq, Int.reduceEq, Int.reduceLT, Int.reduceLE, Int.reduceToNat, reduceCtorEq, sx, fx75, t25, t26, t27, Int.lt_irrefl]
          rfl, by simp, rfl, ?_, ?_⟩
        · simp only [Tr.get_set, Nat.reduceEqDiff, reduceIte, t6]
        · rw [m0, Nat.sub_self]; rfl
      · refine ⟨Nat.zero_le _, ?_, ?_, ?_, ?_, ?_⟩
        · simp only [Tr.get_set, Nat.reduceEqDiff, reduceIte]; rfl
        · simp only [Tr.get_set, Nat.reduceEqDiff, reduceIte]
        · simp only [Tr.get_set, Nat.reduceEqDiff, reduceIte]
        · simp only [Tr.get_set, Nat.reduceEqDiff, reduceIte]; rfl
        · rw [AMem.get_push, if_pos next_empty]; rfl
    simp only [dx, reduceIte, Nat.reduceLT, Nat.reduceLeDiff, Nat.reduceEqDiff, Nat.reduceAdd, Nat.reduceMul, Nat.reduceSub, Nat.reduceBEq, Int.reduceEq, Int.reduceLT, Int.reduceLE, Int.reduceToNat, reduceCtorEq, sx, fx75, v6]
    exact ⟨_, _, 0, rfl, by simp only [Tr.get_set, Nat.reduceEqDiff, reduceIte], by simpa using v7⟩
  obtain ⟨T1, σ1, r, h1, h2, h3⟩ := run
  exact pureRun_of fn75 rfl (by simp [Tryz.f75]) h1 (by simp) (res_one h2) (snap_bytes (d := 10) (more := []) rfl h3)
theorem concat_call {x : AVal} {seen : List Nat} {K : VK} (l : List Part) (hx : snapF false σ snapDepth x = some (.vs K (l.map partV), seen)) (h0 : 0 < (catL l).length) (hn : (catL l).length ≤ 100000) (hl : l.length ≤ 1000) (hp : ∀ p, p ∈ l → p.2.length ≤ 1000) (hk : 2003 ≤ k) : pureCall lawProg (callN lawProg k) (.func 75 [] []) [x] σ = some (.vs .some (bytesV (catL l)), σ) := by
  obtain ⟨k, rfl⟩ : ∃ m, k = m + 1 := ⟨k - 1, by omega⟩
  exact pureCall_of (seen := seen ++ []) (by simp only [snapL, hx]) (memo75 _) (concat_run (k := k) K l h0 hn hl hp (by omega))
end Go.Proofs.YtjckhhkhgjbpaaaGreatDoor


