/- Records of which the last field is a list of its own: how they lie in memory, and what is kept when something changes. -/
import Derived.Test.YtjckhhkhgjbpaaaGreatDoorPaleNest
set_option linter.unusedVariables false
namespace Go.Proofs.YtjckhhkhgjbpaaaGreatDoor.Pale
open Go

/-- A record: its plain fields, the cell of its list, and what is in the list. -/
structure MItem where
  pre : List AVal
  x : AVal
  inn : List AVal
def MItem.cells (a : MItem) : List AVal := a.pre ++ [a.x]
def rowOf : AVal → List Nat
  | .slice r _ _ _ _ => [r]
  | _ => []
/-- The list of a record is a value, or lies in a row of its own. -/
def MItem.okAt (low : Nat) (σ : AMem) (a : MItem) : Prop :=
  a.pre.all pureB = true ∧ a.inn.all pureB = true ∧ ((∃ k, a.x = .vs k a.inn) ∨ ∃ r cap, a.x = .slice r 0 a.inn.length cap 1 ∧ low ≤ r ∧ r < σ.next ∧ σ.get r = some (.row 1 false a.inn))
def rowsOf (l : List MItem) : List Nat := l.flatMap fun a => rowOf a.x
/-- Records in memory, away from a row. -/
def Items (low : Nat) (σ : AMem) (q : Nat) (l : List MItem) : Prop := (∀ a, a ∈ l → a.okAt low σ) ∧ (rowsOf l).Nodup ∧ q ∉ rowsOf l
def vkOf : AVal → VK
  | .vs k _ => k
  | _ => .some
/-- A record as a value. -/
def MItem.val (a : MItem) : AVal := .agg (a.pre ++ [.vs (vkOf a.x) a.inn])

theorem Items.nil (low : Nat) (σ : AMem) (q : Nat) : Items low σ q [] := ⟨by simp, by simp [rowsOf], by simp [rowsOf]⟩
theorem mem_rowsOf {l : List MItem} {a : MItem} {r : Nat} (ha : a ∈ l) (hr : r ∈ rowOf a.x) : r ∈ rowsOf l := List.mem_flatMap.2 ⟨a, ha, hr⟩
theorem Items.bound {low : Nat} {σ : AMem} {q : Nat} {l : List MItem} (h : Items low σ q l) : ∀ r, r ∈ rowsOf l → low ≤ r ∧ r < σ.next := by
  intro r hr
  obtain ⟨a, ha, hra⟩ := List.mem_flatMap.1 hr
  obtain ⟨_, _, ⟨k, hx⟩ | ⟨r', c, hx, h1, h2, _⟩⟩ := h.1 a ha
  · rw [hx] at hra; simp [rowOf] at hra
  · rw [hx] at hra
    simp only [rowOf, List.mem_singleton] at hra
    subst hra
    exact ⟨h1, h2⟩
theorem MItem.okAt.same {low low' : Nat} {σ σ' : AMem} {a : MItem} (h : a.okAt low σ) (hl : low' ≤ low) (hn : σ.next ≤ σ'.next) (hs : ∀ r, r ∈ rowOf a.x → σ'.get r = σ.get r) : a.okAt low' σ' := by
  obtain ⟨h1, h2, ⟨k, hx⟩ | ⟨r, c, hx, g1, g2, g3⟩⟩ := h
  · exact ⟨h1, h2, .inl ⟨k, hx⟩⟩
  · exact ⟨h1, h2, .inr ⟨r, c, hx, by omega, by omega, by rw [hs r (by rw [hx]; simp [rowOf])]; exact g3⟩⟩
/-- What a change elsewhere leaves. -/
theorem Items.same {low low' : Nat} {σ σ' : AMem} {q q' : Nat} {l : List MItem} (h : Items low σ q l) (hl : low' ≤ low) (hn : σ.next ≤ σ'.next) (hs : ∀ r, r ∈ rowsOf l → σ'.get r = σ.get r) (hq : q' ∉ rowsOf l) : Items low' σ' q' l :=
  ⟨fun a ha => (h.1 a ha).same hl hn fun r hr => hs r (mem_rowsOf ha hr), h.2.1, hq⟩
theorem rowsOf_append (l m : List MItem) : rowsOf (l ++ m) = rowsOf l ++ rowsOf m := List.flatMap_append
theorem rowsOf_sub {l m : List MItem} (h : l.Sublist m) : (rowsOf l).Sublist (rowsOf m) := by
  induction h with
  | slnil => exact List.Sublist.refl _
  | cons a _ ih => exact ih.trans (by show (rowsOf _).Sublist (rowOf a.x ++ rowsOf _); exact List.sublist_append_right _ _)
  | cons_cons a _ ih => show (rowOf a.x ++ rowsOf _).Sublist (rowOf a.x ++ rowsOf _); exact List.Sublist.append (List.Sublist.refl _) ih
/-- Some of them, in their order. -/
theorem Items.sub {low : Nat} {σ : AMem} {q : Nat} {l m : List MItem} (h : Items low σ q m) (hs : l.Sublist m) : Items low σ q l :=
  ⟨fun a ha => h.1 a (hs.subset ha), h.2.1.sublist (rowsOf_sub hs), fun hq => h.2.2 ((rowsOf_sub hs).subset hq)⟩
/-- One more. -/
theorem Items.add {low : Nat} {σ : AMem} {q : Nat} {l : List MItem} {a : MItem} (h : Items low σ q l) (ha : a.okAt low σ) (hr : ∀ r, r ∈ rowOf a.x → r ∉ rowsOf l ∧ r ≠ q) : Items low σ q (l ++ [a]) := by
  have hra : rowsOf [a] = rowOf a.x := by simp [rowsOf]
  refine ⟨fun b hb => ?_, ?_, ?_⟩
  · rcases List.mem_append.1 hb with hb | hb
    · exact h.1 b hb
    · simp only [List.mem_singleton] at hb; subst hb; exact ha
  · rw [rowsOf_append, hra, List.nodup_append]
    refine ⟨h.2.1, ?_, ?_⟩
    · cases a.x <;> simp [rowOf]
    · intro x hx y hy e
      subst e
      exact (hr x hy).1 hx
  · rw [rowsOf_append, hra, List.mem_append]
    rintro (hq | hq)
    · exact h.2.2 hq
    · exact (hr q hq).2 rfl
theorem rowsOf_set_same {l : List MItem} {i : Nat} {a : MItem} (hi : i < l.length) (h : a.x = l[i].x) : rowsOf (l.set i a) = rowsOf l := by
  have : (l.set i a).map (fun b => rowOf b.x) = l.map fun b => rowOf b.x := by
    apply List.ext_getElem (by simp)
    intro n h1 h2
    simp only [List.getElem_map, List.getElem_set]
    split
    · rename_i e; subst e; rw [h]
    · rfl
  unfold rowsOf
  rw [List.flatMap_def, List.flatMap_def, this]
/-- Two different ones have no row in common. -/
theorem rowsOf_apart {l : List MItem} (h : (rowsOf l).Nodup) {i j : Nat} (hi : i < l.length) (hj : j < l.length) (e : i ≠ j) {r : Nat} (h1 : r ∈ rowOf l[i].x) : r ∉ rowOf l[j].x := by
  intro h2
  have hp : List.Pairwise (fun a b : MItem => ∀ x, x ∈ rowOf a.x → ∀ y, y ∈ rowOf b.x → x ≠ y) l := by
    unfold rowsOf at h
    rw [List.Nodup, List.pairwise_flatMap] at h
    exact h.2
  have hp := List.pairwise_iff_getElem.1 hp
  rcases Nat.lt_or_gt_of_ne e with hl | hl
  · exact hp i j hi hj hl r h1 r h2 rfl
  · exact hp j i hj hi hl r h2 r h1 rfl
/-- One element of the list of one of them is another one. -/
theorem Items.poke {low : Nat} {σ : AMem} {q : Nat} {l : List MItem} {i j r : Nat} {cap : Option Nat} {v : AVal} (h : Items low σ q l) (hi : i < l.length) (hx : l[i].x = .slice r 0 l[i].inn.length cap 1) (hv : pureB v = true) : Items low (σ.put r (.row 1 false (l[i].inn.set j v))) q (l.set i { l[i] with inn := l[i].inn.set j v }) := by
  have hrow := rowsOf_set_same (l := l) (i := i) (a := { l[i] with inn := l[i].inn.set j v }) hi rfl
  have hri : r ∈ rowOf l[i].x := by rw [hx]; simp [rowOf]
  refine ⟨fun a ha => ?_, by rw [hrow]; exact h.2.1, by rw [hrow]; exact h.2.2⟩
  obtain ⟨n, hn, rfl⟩ := List.mem_iff_getElem.1 ha
  rw [List.length_set] at hn
  rw [List.getElem_set]
  by_cases e : i = n
  · subst e
    rw [if_pos rfl]
    obtain ⟨h1, h2, h3⟩ := h.1 _ (List.getElem_mem hi)
    refine ⟨h1, ?_, .inr ⟨r, cap, by simp only [List.length_set]; exact hx, ?_⟩⟩
    · rw [List.all_eq_true] at h2 ⊢
      intro y hy
      rcases List.mem_or_eq_of_mem_set hy with hy | rfl
      · exact h2 y hy
      · exact hv
    · have := h.bound r (mem_rowsOf (List.getElem_mem hi) hri)
      exact ⟨this.1, by simpa using this.2, by rw [AMem.get_put, if_pos rfl]⟩
  · rw [if_neg e]
    refine (h.1 _ (List.getElem_mem hn)).same (Nat.le_refl _) (by simp) fun s hs => ?_
    rw [AMem.get_put, if_neg]
    intro he
    subst he
    exact rowsOf_apart h.2.1 hi hn e hri hs
theorem rowsOf_set_mem {l : List MItem} {i : Nat} {a : MItem} {r : Nat} (h : r ∈ rowsOf (l.set i a)) : r ∈ rowsOf l ∨ r ∈ rowOf a.x := by
  obtain ⟨b, hb, hr⟩ := List.mem_flatMap.1 h
  rcases List.mem_or_eq_of_mem_set hb with hb | rfl
  · exact .inl (mem_rowsOf hb hr)
  · exact .inr hr
/-- One of them is another one, whose list is new. -/
theorem Items.set {low : Nat} {σ : AMem} {q : Nat} {l : List MItem} {i : Nat} {a : MItem} (h : Items low σ q l) (hi : i < l.length) (ha : a.okAt low σ) (hr : ∀ r, r ∈ rowOf a.x → r ∉ rowsOf l ∧ r ≠ q) : Items low σ q (l.set i a) := by
  refine ⟨fun b hb => ?_, ?_, fun hq => ?_⟩
  · rcases List.mem_or_eq_of_mem_set hb with hb | rfl
    · exact h.1 b hb
    · exact ha
  · have hn := h.2.1
    unfold rowsOf at hn ⊢
    rw [List.Nodup, List.pairwise_flatMap] at hn ⊢
    refine ⟨fun b hb => ?_, ?_⟩
    · cases b.x <;> simp [rowOf]
    · rw [List.pairwise_iff_getElem] at hn ⊢
      intro m n hm hn' hmn x hx y hy
      rw [List.length_set] at hm hn'
      rw [List.getElem_set] at hx hy
      by_cases e1 : i = m
      · rw [if_pos e1] at hx
        rw [if_neg (by omega)] at hy
        intro e
        subst e
        exact (hr x hx).1 (mem_rowsOf (List.getElem_mem hn') hy)
      · rw [if_neg e1] at hx
        by_cases e2 : i = n
        · rw [if_pos e2] at hy
          intro e
          subst e
          exact (hr x hy).1 (mem_rowsOf (List.getElem_mem hm) hx)
        · rw [if_neg e2] at hy
          exact hn.2 m n hm hn' hmn x hx y hy
  · rcases rowsOf_set_mem hq with h1 | h1
    · exact h.2.2 h1
    · exact (hr q h1).2 rfl

/-! ### how they read -/
theorem snap_cell {σ : AMem} (d : Nat) {a : MItem} {low : Nat} (h : a.okAt low σ) : ∃ S, snapL (snapF false σ (d + 2)) a.cells = some (a.pre ++ [.vs (vkOf a.x) a.inn], S) := by
  obtain ⟨h1, h2, h3⟩ := h
  have hp := snapL_pure (σ := σ) (d + 1) a.pre h1
  obtain ⟨S, hx⟩ : ∃ S, snapF false σ (d + 2) a.x = some (.vs (vkOf a.x) a.inn, S) := by
    rcases h3 with ⟨k, hk⟩ | ⟨r, c, hx, _, _, hr⟩
    · rw [hk]; exact ⟨[], rfl⟩
    · rw [hx]
      exact ⟨[r], snap_ones (d := d) (cs := a.inn) (more := []) rfl h2 (by rw [List.append_nil]; exact hr)⟩
  exact ⟨[] ++ (S ++ []), snapL_append hp (by simp only [snapL, hx])⟩
theorem snap_cells {σ : AMem} (d low : Nat) : ∀ (l : List MItem), (∀ a, a ∈ l → a.okAt low σ) → ∃ S, snapL (snapF false σ (d + 2)) (l.map MItem.cells).flatten = some ((l.map fun a => a.pre ++ [.vs (vkOf a.x) a.inn]).flatten, S) := by
  intro l
  induction l with
  | nil => intro _; exact ⟨[], rfl⟩
  | cons a l ih =>
    intro h
    obtain ⟨S1, h1⟩ := snap_cell d (h a (by simp))
    obtain ⟨S2, h2⟩ := ih fun b hb => h b (by simp [hb])
    exact ⟨S1 ++ S2, snapL_append h1 h2⟩
/-- A slice over them as a value. -/
theorem Items.snap {low : Nat} {σ : AMem} {q r sz n i : Nat} {cap : Option Nat} {l : List MItem} {more : List AVal} (d : Nat) (h : Items low σ q l) (hsz : 0 < sz) (hl : ∀ a, a ∈ l → a.pre.length + 1 = sz) (hr : σ.get r = some (.row sz true ((l.map MItem.cells).flatten ++ more))) (hn : i + n = l.length) :
    ∃ S, snapF false σ (d + 3) (.slice r (i * sz) n cap sz) = some (.vs .some ((l.drop i).map MItem.val), S) := by
  obtain ⟨S, hs⟩ := snap_cells d low (l.drop i) fun a ha => h.1 a (List.mem_of_mem_drop ha)
  have h3 : ∀ (f : MItem → AVal) (m : List MItem), (∀ a, a ∈ m → a ∈ l) → ∀ c, c ∈ m.map (fun a => a.pre ++ [f a]) → c.length = sz := fun f m hm c hc => by
    obtain ⟨x, hx, rfl⟩ := List.mem_map.1 hc
    rw [List.length_append, List.length_singleton]
    exact hl x (hm x hx)
  refine ⟨r :: S, ?_⟩
  have := snap_structs_off (σ := σ) (fr := false) (d := d + 1) (r := r) (n := n) (i := i) (cap := cap) (ls := l.map MItem.cells) (ps := (l.drop i).map fun a => a.pre ++ [.vs (vkOf a.x) a.inn]) (more := more) (S := S) hsz (by simpa using hn) (by simp; omega) (h3 (fun a => a.x) l fun _ h => h) (h3 (fun a => .vs (vkOf a.x) a.inn) (l.drop i) fun _ h => List.mem_of_mem_drop h) hr (by rw [← List.map_drop]; exact hs)
  refine this.trans ?_
  rw [List.map_map]
  rfl
end Go.Proofs.YtjckhhkhgjbpaaaGreatDoor.Pale
