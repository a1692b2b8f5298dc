/- pack.Add keeps a sorter right: no program in sight. -/
import Derived.Test.YtkamjhhodnmoiaaGreatDoorG1
import Derived.Test.YtkamjhhodnmoiaaGreatDoorH1
set_option maxRecDepth 100000
set_option linter.unusedSimpArgs false
set_option linter.unusedVariables false
namespace Go.Proofs.YtkamjhhodnmoiaaGreatDoor
open Go Go.Proofs.YtkamjhhodnmoiaaGreatDoor.Pale

def names (l : List Sh) : List Int := l.map (·.name)
theorem fresh_nodup (shs : List Sh) : (∀ i (hi : i < shs.length), ((shs.take i).any fun o => o.name == shs[i].name) = false) ↔ (names shs).Nodup := by
  unfold names List.Nodup
  rw [List.pairwise_map, List.pairwise_iff_getElem]
  constructor
  · intro h i j hi hj hij e
    have := h j hj
    rw [List.any_eq_false] at this
    have h2 := this shs[i] (List.mem_iff_getElem.2 ⟨i, by rw [List.length_take]; omega, by rw [List.getElem_take]⟩)
    simp [e] at h2
  · intro h i hi
    rw [List.any_eq_false]
    intro o ho
    obtain ⟨j, hj, rfl⟩ := List.mem_iff_getElem.1 ho
    rw [List.length_take] at hj
    rw [List.getElem_take]
    have := h j i (by omega) hi (by omega)
    simpa using this
theorem sorterOk_iff (l : List Sh) : SorterOk l ↔ l.length ≤ 4 ∧ (names l).Nodup ∧ ∀ s, s ∈ l → sheafB s = true := by
  unfold SorterOk
  rw [fresh_nodup]
theorem SorterOk.map {l : List Sh} (f : Sh → Sh) (hn : ∀ s, (f s).name = s.name) (hb : ∀ s, sheafB (f s) = sheafB s) (h : SorterOk l) : SorterOk (l.map f) := by
  rw [sorterOk_iff] at h ⊢
  obtain ⟨h1, h2, h3⟩ := h
  refine ⟨by rw [List.length_map]; exact h1, ?_, fun s hs => ?_⟩
  · rw [show names (l.map f) = names l by unfold names; rw [List.map_map]; exact List.map_congr_left fun s _ => hn s]
    exact h2
  · obtain ⟨t, ht, rfl⟩ := List.mem_map.1 hs
    rw [hb]; exact h3 t ht
theorem sheafB_norm (s : Sh) : sheafB (normS s) = sheafB s := by
  unfold sheafB
  rw [any_empty, any_full, any_great, any_empty, any_full, any_great]
  simp only [normS, List.length_map, List.any_map]
  rfl
theorem SorterOk.norm {l : List Sh} (h : SorterOk l) : SorterOk (l.map normS) := h.map normS (fun _ => rfl) sheafB_norm
theorem SorterOk.dk {l : List Sh} (h : SorterOk l) : SorterOk (l.map dkS) := h.map dkS (fun _ => rfl) fun _ => rfl
theorem place_none {n : Int} {l : List Sh} (h : ¬ placeI n l ≥ 0) : ∀ s, s ∈ l → s.name ≠ n := by
  intro s hs e
  apply h
  have := idxI_any (sameName n) (l.map shV)
  have h2 : (l.map shV).any (sameName n) = true := by
    rw [List.any_eq_true]
    exact ⟨shV s, List.mem_map.2 ⟨s, hs, rfl⟩, by rw [sameName_sh]; simpa using e⟩
  rw [h2] at this
  simpa [placeI] using this
theorem place_lt {n : Int} {l : List Sh} (h : ∀ s, s ∈ l → s.name ≠ n) : placeI n l < 0 := by
  have := idxI_any (sameName n) (l.map shV)
  have h2 : (l.map shV).any (sameName n) = false := by
    rw [List.any_eq_false]
    intro v hv
    obtain ⟨s, hs, rfl⟩ := List.mem_map.1 hv
    rw [sameName_sh]
    simpa using h s hs
  rw [h2] at this
  simpa [placeI] using this
theorem find_names (shs : List Sh) (n : Int) (of : Nat) (h : (names shs).Nodup) (h4 : shs.length ≤ 4) : (names (findL shs n of).1).Nodup ∧ (findL shs n of).1.length ≤ 4 ∧ ∀ s, s ∈ (findL shs n of).1 → s ∈ shs ∨ s = newSh n of := by
  have hF : (names (shs.filter (keepS n of))).Nodup := h.sublist (List.filter_sublist.map _)
  have hl := List.length_filter_le (keepS n of) shs
  unfold findL
  by_cases hp : placeI n (shs.filter (keepS n of)) ≥ 0
  · rw [if_pos hp]
    exact ⟨hF, by simp only; omega, fun s hs => .inl (List.mem_filter.1 hs).1⟩
  · rw [if_neg hp]
    have hno := place_none hp
    have hN : (names (shs.filter (keepS n of) ++ [newSh n of])).Nodup := by
      unfold names List.Nodup
      rw [List.map_append, List.pairwise_append]
      refine ⟨hF, by simp, fun x hx y hy => ?_⟩
      obtain ⟨s, hs, rfl⟩ := List.mem_map.1 hx
      simp only [List.map_cons, List.map_nil, List.mem_singleton] at hy
      subst hy
      exact hno s hs
    have hM : ∀ s, s ∈ shs.filter (keepS n of) ++ [newSh n of] → s ∈ shs ∨ s = newSh n of := fun s hs => by
      rcases List.mem_append.1 hs with h | h
      · exact .inl (List.mem_filter.1 h).1
      · exact .inr (List.mem_singleton.1 h)
    split
    · exact ⟨hN.sublist ((List.drop_sublist 1 _).map _), by simp only [List.length_drop, List.length_append, List.length_singleton]; omega, fun s hs => hM s (List.mem_of_mem_drop hs)⟩
    · exact ⟨hN, by simp only [List.length_append, List.length_singleton]; omega, hM⟩
theorem partsOf_len (l : List Part) (a : Nat) (d : List Nat) : (partsOf l a d).length = l.length := by
  unfold partsOf
  split
  · split
    · rw [List.length_set]
    · rfl
  · rfl
theorem partsOf_small {l : List Part} {a m : Nat} {d : List Nat} (h : ∀ p, p ∈ l → p.2.length ≤ m) (hd : d.length ≤ m) : ∀ p, p ∈ partsOf l a d → p.2.length ≤ m := by
  intro p hp
  unfold partsOf at hp
  split at hp
  · split at hp
    · rcases List.mem_or_eq_of_mem_set hp with h2 | rfl
      · exact h p h2
      · exact hd
    · exact h p hp
  · exact h p hp
theorem partsOf_full {l : List Part} {a : Nat} {d : List Nat} (ha : a < l.length) (hd : 0 < d.length) : ∃ p, p ∈ partsOf l a d ∧ p.2.length ≠ 0 := by
  unfold partsOf
  rw [List.getElem?_eq_getElem ha]
  simp only
  split
  · exact ⟨(.some, d), List.mem_iff_getElem.2 ⟨a, by rw [List.length_set]; exact ha, by rw [List.getElem_set_self]⟩, by simp only; omega⟩
  · rename_i h
    exact ⟨l[a], List.getElem_mem ha, h⟩
theorem catL_ge {ps : List Part} (h : ps.any emptyQ = false) : ps.length ≤ (catL ps).length := by
  induction ps with
  | nil => simp
  | cons p ps ih =>
    simp only [List.any_cons, Bool.or_eq_false_iff, emptyQ, decide_eq_false_iff_not] at h
    have := ih h.2
    have h1 := h.1
    simp only [catL, List.flatMap_cons, List.length_append, List.length_cons] at this ⊢
    omega

theorem addL_ok {shs : List Sh} {n : Int} {of a : Nat} {d : List Nat} (hs : SorterOk shs) (hc : OkC n (a : Nat) (of : Nat) d) : SorterOk (addL shs n of a d).1 ∧ (addL shs n of a d).2.length ≤ of * 100 ∧ ((addL shs n of a d).2 ≠ [] → of ≤ (addL shs n of a d).2.length ∧ ∀ s, s ∈ (addL shs n of a d).1 → s.name ≠ n) := by
  obtain ⟨⟨c1, c2⟩, ⟨c3, c4⟩, ⟨c5, c5'⟩, ⟨c6, c7⟩⟩ := id hc
  obtain ⟨s1, s2, s3⟩ := (sorterOk_iff _).1 hs
  obtain ⟨i, hi, e1, e2, e3⟩ := find_spec shs n of
  obtain ⟨f1, f2, f3⟩ := find_names shs n of s2 s1
  have hsm : ∀ s, s ∈ (findL shs n of).1 → ∀ p, p ∈ s.data → p.2.length ≤ 100 := find_parts n of (fun p => p.2.length ≤ 100) (by simp) (fun s h => ((sheafB_eq s).1 (s3 s h)).2.2.2.2)
  unfold addL
  rw [e1]
  simp only [Int.toNat_natCast, List.getElem?_eq_getElem hi]
  generalize (findL shs n of).1 = F at *
  have hpl : (partsOf F[i].data a d).length = of := by rw [partsOf_len, e3]
  have hsm1 := partsOf_small (a := a) (d := d) (m := 100) (hsm _ (List.getElem_mem hi)) (by omega)
  obtain ⟨pf, pf1, pf2⟩ := partsOf_full (l := F[i].data) (a := a) (d := d) (by omega) (by omega)
  generalize partsOf F[i].data a d = ps at *
  have other : ∀ m (hm : m < F.length), m ≠ i → F[m].name ≠ n ∧ sheafB F[m] = true := by
    intro m hm hne
    have hnm : F[m].name ≠ n := by
      unfold names List.Nodup at f1
      rw [List.pairwise_map, List.pairwise_iff_getElem] at f1
      rcases Nat.lt_or_ge m i with h | h
      · have := f1 m i hm hi h; rw [e2] at this; exact this
      · have := f1 i m hi hm (by omega); rw [e2] at this; exact fun e => this e.symm
    refine ⟨hnm, ?_⟩
    rcases f3 _ (List.getElem_mem hm) with h | h
    · exact s3 _ h
    · exact absurd (by rw [h]; rfl) hnm
  by_cases hany : ps.any emptyQ = true
  · rw [if_pos hany]
    refine ⟨(sorterOk_iff _).2 ⟨by rw [List.length_set]; exact f2, ?_, fun s hs => ?_⟩, by simp, fun h => absurd rfl h⟩
    · rw [show names (F.set i { F[i] with data := ps }) = names F from set_same' _ hi rfl]
      exact f1
    · obtain ⟨m, hm, rfl⟩ := List.mem_iff_getElem.1 hs
      rw [List.length_set] at hm
      rw [List.getElem_set]
      split
      · rw [sheafB_eq]
        simp only
        have k1 := (countP_any emptyQ ps).1.1 hany
        have k2 := (countP_any emptyQ ps).2.1 (by rw [List.any_eq_true]; exact ⟨pf, pf1, by simp [emptyQ]; exact fun h => pf2 (by rw [h]; rfl)⟩)
        exact ⟨by rw [e2]; exact ⟨c5, c5'⟩, by omega, k1, k2, hsm1⟩
      · rename_i h
        exact (other m hm (Ne.symm h)).2
  · rw [if_neg hany]
    have hanyF : ps.any emptyQ = false := by simpa using hany
    have h1 := catL_ge hanyF
    have h2 := catL_bound ps 100 hsm1
    rw [hpl] at h1 h2
    have hmem : ∀ s, s ∈ F.eraseIdx i → ∃ m, ∃ hm : m < F.length, m ≠ i ∧ F[m] = s := fun s hs => by
      rw [List.mem_eraseIdx_iff_getElem] at hs
      obtain ⟨m, hm, h, e⟩ := hs
      exact ⟨m, hm, h, e⟩
    refine ⟨(sorterOk_iff _).2 ⟨by rw [List.length_eraseIdx]; split <;> omega, f1.sublist ((List.eraseIdx_sublist _ _).map _), fun s hs => ?_⟩, h2, fun _ => ⟨h1, fun s hs => ?_⟩⟩
    · obtain ⟨m, hm, h, rfl⟩ := hmem s hs
      exact (other m hm h).2
    · obtain ⟨m, hm, h, rfl⟩ := hmem s hs
      exact (other m hm h).1
end Go.Proofs.YtkamjhhodnmoiaaGreatDoor
