import Derived.Test.YtkamjhhodnmoiaaGreatDoorMH
import Derived.Test.YtkamjhhodnmoiaaGreatDoorMN
import Derived.Test.YtkamjhhodnmoiaaGreatDoorPaleRuns
/- Chunks of some messages that come each once: what the sorter holds. No program in sight. -/
set_option maxRecDepth 100000
set_option linter.unusedSimpArgs false
set_option linter.unusedVariables false
namespace Go.Proofs.YtkamjhhodnmoiaaGreatDoor
open Go Go.Proofs.YtkamjhhodnmoiaaGreatDoor.Pale

def msgOf (ms : List Part) (j : Nat) : List Nat := ((ms[j]?).map (·.2)).getD []
def manyM (ms : List Part) (s j : Nat) : Nat := manyOf (msgOf ms j).length s
def ckAt (ms : List Part) (s j a : Nat) : Ck := ⟨(j : Nat), (a : Nat), (manyM ms s j : Nat), .some, partOf (msgOf ms j) s a⟩
def inL (left : List Ck) (j a : Nat) : Bool := left.any fun c => c.name == (j : Int) && c.at_ == (a : Int)
def hasL (left : List Ck) (j : Nat) : Bool := left.any fun c => c.name == (j : Int)
def keyOf (c : Ck) : Int × Int := (c.name, c.at_)
/-- What is left to come: chunks of the messages, none twice. -/
def LeftOk (ms : List Part) (s : Nat) (left : List Ck) : Prop := (∀ c, c ∈ left → ∃ j a, j < ms.length ∧ a < manyM ms s j ∧ c = ckAt ms s j a) ∧ (left.map keyOf).Nodup
def contentOf (ms : List Part) (s : Nat) (left : List Ck) (j : Nat) : List (List Nat) := (List.range (manyM ms s j)).map fun a => if inL left j a then [] else partOf (msgOf ms j) s a
def OnceOk (ms : List Part) (s : Nat) (left : List Ck) (shs : List Sh) : Prop := SorterOk shs ∧ (∀ sh, sh ∈ shs → ∃ j, j < ms.length ∧ sh.name = (j : Nat) ∧ sh.data.map (·.2) = contentOf ms s left j) ∧ ∀ j, j < ms.length → hasL left j = true → (∃ a, a < manyM ms s j ∧ inL left j a = false) → ∃ sh, sh ∈ shs ∧ sh.name = (j : Nat)

theorem OnceOk.map {ms : List Part} {s : Nat} {left : List Ck} {shs : List Sh} (f : Sh → Sh) (hn : ∀ s, (f s).name = s.name) (hd : ∀ s, (f s).data.map (·.2) = s.data.map (·.2)) (hb : ∀ s, sheafB (f s) = sheafB s) (h : OnceOk ms s left shs) : OnceOk ms s left (shs.map f) := by
  refine ⟨h.1.map f hn hb, fun sh hs => ?_, fun j hj h1 h2 => ?_⟩
  · obtain ⟨t, ht, rfl⟩ := List.mem_map.1 hs
    obtain ⟨j, a, b, c⟩ := h.2.1 t ht
    exact ⟨j, a, by rw [hn]; exact b, by rw [hd]; exact c⟩
  · obtain ⟨t, ht, e⟩ := h.2.2 j hj h1 h2
    exact ⟨f t, List.mem_map.2 ⟨t, ht, rfl⟩, by rw [hn]; exact e⟩
theorem OnceOk.norm {ms : List Part} {s : Nat} {left : List Ck} {shs : List Sh} (h : OnceOk ms s left shs) : OnceOk ms s left (shs.map normS) := h.map normS (fun _ => rfl) (fun s => by simp [normS, List.map_map]) sheafB_norm
theorem OnceOk.dk {ms : List Part} {s : Nat} {left : List Ck} {shs : List Sh} (h : OnceOk ms s left shs) : OnceOk ms s left (shs.map dkS) := h.map dkS (fun _ => rfl) (fun _ => rfl) fun _ => rfl

theorem nodup_le : ∀ {l m : List Int}, l.Nodup → (∀ x, x ∈ l → x ∈ m) → l.length ≤ m.length := by
  intro l
  induction l with
  | nil => intro m _ _; simp
  | cons x l ih =>
    intro m h hm
    rw [List.nodup_cons] at h
    have h1 := hm x (by simp)
    have h2 := ih (m := m.erase x) h.2 fun y hy => (List.mem_erase_of_ne (fun e => h.1 (by rw [← e]; exact hy))).2 (hm y (by simp [hy]))
    rw [List.length_erase_of_mem h1] at h2
    have h3 : 0 < m.length := List.length_pos_of_mem h1
    simp only [List.length_cons]
    omega
/-- Nothing is dropped. -/
theorem find_all {ms : List Part} {s : Nat} {left : List Ck} {shs : List Sh} {j : Nat} (h : OnceOk ms s left shs) (hm : ms.length ≤ 4) (hj : j < ms.length) : (findL shs (j : Nat) (manyM ms s j) = (shs, placeI (j : Nat) shs) ∧ placeI (j : Nat) shs ≥ 0) ∨ (findL shs (j : Nat) (manyM ms s j) = (shs ++ [newSh (j : Nat) (manyM ms s j)], ((shs.length : Nat) : Int)) ∧ ∀ sh, sh ∈ shs → sh.name ≠ (j : Nat)) := by
  have hf : shs.filter (keepS (j : Nat) (manyM ms s j)) = shs := by
    rw [List.filter_eq_self]
    intro sh hs
    obtain ⟨j', _, e1, e2⟩ := h.2.1 sh hs
    unfold keepS
    by_cases e : sh.name = (j : Nat)
    · have : j' = j := by omega
      subst this
      have hl : sh.data.length = manyM ms s j' := by
        have := congrArg List.length e2
        simpa [contentOf] using this
      simp [hl]
    · simp [e]
  unfold findL
  rw [hf]
  by_cases hp : placeI (j : Nat) shs ≥ 0
  · rw [if_pos hp]
    exact .inl ⟨rfl, hp⟩
  · right
    have hno := place_none hp
    have hlen : shs.length + 1 ≤ 4 := by
      have hN : (names shs ++ [((j : Nat) : Int)]).Nodup := by
        unfold List.Nodup
        rw [List.pairwise_append]
        refine ⟨((sorterOk_iff _).1 h.1).2.1, by simp, fun x hx y hy => ?_⟩
        obtain ⟨sh, hs, rfl⟩ := List.mem_map.1 hx
        rw [List.mem_singleton] at hy
        subst hy
        exact hno sh hs
      have := nodup_le (m := [0, 1, 2, 3]) hN fun x hx => by
        rcases List.mem_append.1 hx with hx | hx
        · obtain ⟨sh, hs, rfl⟩ := List.mem_map.1 hx
          obtain ⟨j', a, e1, _⟩ := h.2.1 sh hs
          rw [e1]
          simp only [List.mem_cons, List.not_mem_nil, or_false]
          omega
        · rw [List.mem_singleton] at hx
          subst hx
          simp only [List.mem_cons, List.not_mem_nil, or_false]
          omega
      simpa [names] using this
    rw [if_neg hp, if_neg (by omega)]
    exact ⟨rfl, hno⟩

/-! ### one chunk fewer -/
theorem left_erase {ms : List Part} {s : Nat} {left : List Ck} {i j a : Nat} (h : LeftOk ms s left) (hi : i < left.length) (hc : left[i] = ckAt ms s j a) (j' a' : Nat) : inL (left.eraseIdx i) j' a' = (inL left j' a' && !(j' == j && a' == a)) := by
  rw [Bool.eq_iff_iff]
  unfold inL
  simp only [Bool.and_eq_true, List.any_eq_true, Bool.not_eq_true', Bool.and_eq_false_iff, beq_eq_false_iff_ne, beq_iff_eq]
  constructor
  · rintro ⟨c, hcm, e1, e2⟩
    obtain ⟨m, hm, hmi, rfl⟩ := List.mem_eraseIdx_iff_getElem.1 hcm
    refine ⟨⟨left[m], List.getElem_mem hm, e1, e2⟩, ?_⟩
    by_cases hj : j' = j
    · right
      intro ha
      apply hmi
      have hk : (left.map keyOf)[m]'(by simpa using hm) = (left.map keyOf)[i]'(by simpa using hi) := by
        rw [List.getElem_map, List.getElem_map, hc]
        simp only [keyOf, ckAt, e1, e2, hj, ha]
      exact (List.getElem_inj h.2).1 hk
    · exact .inl hj
  · rintro ⟨⟨c, hcm, e1, e2⟩, h2⟩
    obtain ⟨m, hm, rfl⟩ := List.mem_iff_getElem.1 hcm
    refine ⟨left[m], List.mem_eraseIdx_iff_getElem.2 ⟨m, hm, ?_, rfl⟩, e1, e2⟩
    intro e
    subst e
    rw [hc] at e1 e2
    simp only [ckAt] at e1 e2
    rcases h2 with h2 | h2
    · exact h2 (by omega)
    · exact h2 (by omega)
theorem LeftOk.erase {ms : List Part} {s : Nat} {left : List Ck} (h : LeftOk ms s left) (i : Nat) : LeftOk ms s (left.eraseIdx i) := ⟨fun c hc => h.1 c (List.mem_of_mem_eraseIdx hc), h.2.sublist ((List.eraseIdx_sublist _ _).map _)⟩
theorem hasL_iff {ms : List Part} {s : Nat} {left : List Ck} (h : LeftOk ms s left) (j : Nat) : hasL left j = true ↔ ∃ a, a < manyM ms s j ∧ inL left j a = true := by
  unfold hasL inL
  simp only [List.any_eq_true, Bool.and_eq_true, beq_iff_eq]
  constructor
  · rintro ⟨c, hc, e⟩
    obtain ⟨j', a, h1, h2, rfl⟩ := h.1 c hc
    have : j' = j := by simp only [ckAt] at e; omega
    subst this
    exact ⟨a, h2, _, hc, rfl, rfl⟩
  · rintro ⟨a, _, c, hc, e, _⟩
    exact ⟨c, hc, e⟩
theorem content_other {ms : List Part} {s : Nat} {left : List Ck} {i j a j' : Nat} (h : LeftOk ms s left) (hi : i < left.length) (hc : left[i] = ckAt ms s j a) (hj : j' ≠ j) : contentOf ms s (left.eraseIdx i) j' = contentOf ms s left j' := by
  unfold contentOf
  refine List.map_congr_left fun x _ => ?_
  rw [left_erase h hi hc]
  have : (j' == j) = false := by simpa using hj
  simp [this]
theorem content_set {ms : List Part} {s : Nat} {left : List Ck} {i j a : Nat} (h : LeftOk ms s left) (hi : i < left.length) (hc : left[i] = ckAt ms s j a) (ha : a < manyM ms s j) : contentOf ms s (left.eraseIdx i) j = (contentOf ms s left j).set a (partOf (msgOf ms j) s a) := by
  unfold contentOf
  apply List.ext_getElem (by simp)
  intro x h1 h2
  simp only [List.getElem_map, List.getElem_range, List.getElem_set, left_erase h hi hc]
  by_cases e : a = x
  · subst e
    simp
  · have : (x == a) = false := by simpa using fun h => e h.symm
    simp [this, e]
theorem parts_flat (bs : List Nat) (s : Nat) (hs : 1 ≤ s) : ∀ n, (List.range n).flatMap (partOf bs s) = bs.take (n * s) := by
  intro n
  induction n with
  | zero => simp
  | succ n ih =>
    rw [List.range_succ, List.flatMap_append, ih]
    simp only [List.flatMap_cons, List.flatMap_nil, List.append_nil, partOf]
    rw [Nat.succ_mul, List.take_add]
theorem parts_all (bs : List Nat) (s : Nat) (hs : 1 ≤ s) : (List.range (manyOf bs.length s)).flatMap (partOf bs s) = bs := by
  rw [parts_flat bs s hs, List.take_of_length_le]
  rcases Nat.lt_or_ge (manyOf bs.length s * s) bs.length with h | h
  · have := (many_lt (n := bs.length) (s := s) (j := manyOf bs.length s) hs).2 h
    omega
  · exact h

theorem empty_iff {l : List Part} {cs : List (List Nat)} (h : l.map (·.2) = cs) : l.any emptyQ = cs.any fun x => decide (x.length = 0) := by
  subst h
  rw [List.any_map]
  rfl
theorem once_step {ms : List Part} {s : Nat} {left : List Ck} {shs : List Sh} {i j a : Nat} (h : OnceOk ms s left shs) (hl : LeftOk ms s left) (hm : ms.length ≤ 4) (hs1 : 1 ≤ s) (hs2 : s ≤ 100) (hi : i < left.length) (hc : left[i] = ckAt ms s j a) (hj : j < ms.length) (ha : a < manyM ms s j) (hmn : manyM ms s j ≤ 200) :
    OnceOk ms s (left.eraseIdx i) (addL shs (j : Nat) (manyM ms s j) a (partOf (msgOf ms j) s a)).1 ∧ (hasL (left.eraseIdx i) j = true → (addL shs (j : Nat) (manyM ms s j) a (partOf (msgOf ms j) s a)).2 = []) ∧ (hasL (left.eraseIdx i) j = false → (addL shs (j : Nat) (manyM ms s j) a (partOf (msgOf ms j) s a)).2 = msgOf ms j) := by
  obtain ⟨o, ho⟩ : ∃ o, o = manyM ms s j := ⟨_, rfl⟩
  obtain ⟨d, hd⟩ : ∃ d, d = partOf (msgOf ms j) s a := ⟨_, rfl⟩
  have hpos : ∀ x, x < o → 0 < (partOf (msgOf ms j) s x).length := fun x hx => part_pos hs1 ((many_lt hs1).1 (by rw [ho] at hx; exact hx))
  have ok : OkC (j : Nat) (a : Nat) (o : Nat) d := by
    rw [ho, hd]
    exact cks_ok ha (by omega) hs1 hs2 hmn
  have hin : inL left j a = true := by
    unfold inL
    rw [List.any_eq_true]
    exact ⟨left[i], List.getElem_mem hi, by rw [hc]; simp [ckAt]⟩
  have hhas : hasL left j = true := (hasL_iff hl j).2 ⟨a, ha, hin⟩
  obtain ⟨s1, s2, s3⟩ := (sorterOk_iff _).1 h.1
  have hpw : ∀ m n (hm : m < shs.length) (hn : n < shs.length), m ≠ n → shs[m].name ≠ shs[n].name := by
    intro m n hm hn hne
    unfold names List.Nodup at s2
    rw [List.pairwise_map, List.pairwise_iff_getElem] at s2
    rcases Nat.lt_or_ge m n with h | h
    · exact s2 m n hm hn h
    · exact fun e => s2 n m hn hm (by omega) e.symm
  rw [← ho, ← hd]
  rw [← ho] at ha hmn
  have hfound : ∃ F i0, ∃ hi0 : i0 < F.length, findL shs (j : Nat) o = (F, ((i0 : Nat) : Int)) ∧ F[i0].name = (j : Nat) ∧ F[i0].data.map (·.2) = contentOf ms s left j ∧ (∀ m (hm : m < F.length), m ≠ i0 → F[m] ∈ shs ∧ F[m].name ≠ (j : Nat)) ∧ ∀ sh, sh ∈ shs → sh.name ≠ (j : Nat) → ∃ m, ∃ hm : m < F.length, m ≠ i0 ∧ F[m] = sh := by
    rcases find_all h hm hj with ⟨e, hp⟩ | ⟨e, hno⟩
    · rw [← ho] at e
      obtain ⟨i0, hi0, h1, h2⟩ := idxI_ge hp
      rw [List.length_map] at hi0
      rw [List.getElem_map, sameName_sh] at h2
      have hnm : shs[i0].name = (j : Nat) := by simpa using h2
      refine ⟨shs, i0, hi0, by rw [e]; exact congrArg (Prod.mk shs) h1, hnm, ?_, fun m hm hne => ⟨List.getElem_mem hm, ?_⟩, fun sh hs hne => ?_⟩
      · obtain ⟨j', _, e1, e2⟩ := h.2.1 _ (List.getElem_mem hi0)
        have : j' = j := by omega
        subst this
        exact e2
      · have := hpw m i0 hm hi0 hne
        rw [hnm] at this
        exact this
      · obtain ⟨m, hm, rfl⟩ := List.mem_iff_getElem.1 hs
        exact ⟨m, hm, fun e => hne (by subst e; exact hnm), rfl⟩
    · rw [← ho] at e
      refine ⟨_, shs.length, by simp, e, by simp [newSh], ?_, fun m hm hne => ?_, fun sh hs hne => ?_⟩
      · rw [List.getElem_append_right (by omega)]
        simp only [Nat.sub_self, List.getElem_cons_zero, newSh, List.map_replicate]
        unfold contentOf
        apply List.ext_getElem
        · simp [ho]
        · intro x h1 h2
          simp only [List.length_replicate] at h1
          simp only [List.getElem_replicate, List.getElem_map, List.getElem_range]
          have : inL left j x = true := by
            cases hx : inL left j x with
            | true => rfl
            | false =>
              obtain ⟨sh, hs, e⟩ := h.2.2 j hj hhas ⟨x, by omega, hx⟩
              exact absurd e (hno sh hs)
          rw [this]
          rfl
      · have hm2 : m < shs.length := by
          rw [List.length_append, List.length_singleton] at hm
          omega
        rw [List.getElem_append_left hm2]
        exact ⟨List.getElem_mem hm2, hno _ (List.getElem_mem hm2)⟩
      · obtain ⟨m, hm, rfl⟩ := List.mem_iff_getElem.1 hs
        exact ⟨m, by simp; omega, by omega, by rw [List.getElem_append_left hm]⟩
  obtain ⟨F, i0, hi0, hF, hn, hcont, hoth, hall⟩ := hfound
  have hlen : F[i0].data.length = o := by
    have := congrArg List.length hcont
    simpa [contentOf, ← ho] using this
  have hemp : (F[i0].data[a]'(by omega)).2 = [] := by
    have h1 : (F[i0].data.map (·.2))[a]'(by simp; omega) = (contentOf ms s left j)[a]'(by simp [contentOf]; omega) := by simp only [hcont]
    rw [List.getElem_map] at h1
    rw [h1]
    simp only [contentOf, List.getElem_map, List.getElem_range, hin, if_true]
  have hset : partsOf F[i0].data a d = F[i0].data.set a (.some, d) := by
    unfold partsOf
    rw [List.getElem?_eq_getElem (by omega)]
    simp only [hemp, List.length_nil, if_true]
  have hpm : (partsOf F[i0].data a d).map (·.2) = contentOf ms s (left.eraseIdx i) j := by
    rw [hset, List.map_set, hcont, content_set hl hi hc (by omega), hd]
  have hany : (partsOf F[i0].data a d).any emptyQ = hasL (left.eraseIdx i) j := by
    rw [empty_iff hpm, Bool.eq_iff_iff, hasL_iff (hl.erase i) j]
    unfold contentOf
    simp only [List.any_map, List.any_eq_true, List.mem_range, Function.comp, decide_eq_true_eq]
    constructor
    · rintro ⟨x, hx, e⟩
      refine ⟨x, hx, ?_⟩
      cases hq : inL (left.eraseIdx i) j x with
      | true => rfl
      | false =>
        rw [hq] at e
        have := hpos x (by omega)
        simp at e
        rw [e] at this
        simp at this
    · rintro ⟨x, hx, e⟩
      exact ⟨x, hx, by rw [e]; rfl⟩
  have hR : addL shs (j : Nat) o a d = if hasL (left.eraseIdx i) j = true then (F.set i0 { F[i0] with data := partsOf F[i0].data a d }, []) else (F.eraseIdx i0, catL (partsOf F[i0].data a d)) := by
    unfold addL
    rw [hF]
    simp only [Int.toNat_natCast, List.getElem?_eq_getElem hi0, hany]
  have hso := (addL_ok h.1 ok).1
  have hrest : ∀ m (hm : m < F.length), m ≠ i0 → ∃ j', j' < ms.length ∧ F[m].name = (j' : Nat) ∧ F[m].data.map (·.2) = contentOf ms s (left.eraseIdx i) j' := by
    intro m hm hne
    obtain ⟨h1, h2⟩ := hoth m hm hne
    obtain ⟨j', a1, a2, a3⟩ := h.2.1 _ h1
    exact ⟨j', a1, a2, by rw [content_other hl hi hc (by intro e; subst e; exact h2 a2)]; exact a3⟩
  have hex : ∀ j', j' < ms.length → j' ≠ j → hasL (left.eraseIdx i) j' = true → (∃ a, a < manyM ms s j' ∧ inL (left.eraseIdx i) j' a = false) → ∃ m, ∃ hm : m < F.length, m ≠ i0 ∧ F[m].name = (j' : Nat) := by
    intro j' h1 h2 h3 ⟨x, h4, h5⟩
    have hb : (j' == j) = false := by simpa using h2
    obtain ⟨y, h6, h7⟩ := (hasL_iff (hl.erase i) j').1 h3
    rw [left_erase hl hi hc, hb] at h5 h7
    simp only [Bool.false_and, Bool.not_false, Bool.and_true] at h5 h7
    obtain ⟨sh, hs, e⟩ := h.2.2 j' h1 ((hasL_iff hl j').2 ⟨y, h6, h7⟩) ⟨x, h4, h5⟩
    obtain ⟨m, hm, hne, rfl⟩ := hall sh hs (by rw [e]; omega)
    exact ⟨m, hm, hne, e⟩
  rw [hR] at hso ⊢
  by_cases hh : hasL (left.eraseIdx i) j = true
  · rw [if_pos hh] at hso ⊢
    refine ⟨⟨hso, fun sh hs => ?_, fun j' h1 h2 h3 => ?_⟩, fun _ => rfl, fun e => by rw [hh] at e; cases e⟩
    · obtain ⟨m, hm, rfl⟩ := List.mem_iff_getElem.1 hs
      rw [List.length_set] at hm
      rw [List.getElem_set]
      split
      · exact ⟨j, hj, hn, hpm⟩
      · rename_i hne
        exact hrest m hm (Ne.symm hne)
    · by_cases e : j' = j
      · subst e
        exact ⟨_, List.mem_iff_getElem.2 ⟨i0, by rw [List.length_set]; exact hi0, rfl⟩, by rw [List.getElem_set_self]; exact hn⟩
      · obtain ⟨m, hm, hne, e2⟩ := hex j' h1 e h2 h3
        exact ⟨_, List.mem_iff_getElem.2 ⟨m, by rw [List.length_set]; exact hm, rfl⟩, by rw [List.getElem_set_ne (Ne.symm hne)]; exact e2⟩
  · rw [if_neg hh] at hso ⊢
    have hh2 : hasL (left.eraseIdx i) j = false := by simpa using hh
    refine ⟨⟨hso, fun sh hs => ?_, fun j' h1 h2 h3 => ?_⟩, fun e => absurd e hh, fun _ => ?_⟩
    · obtain ⟨m, hm, hne, rfl⟩ := List.mem_eraseIdx_iff_getElem.1 hs
      exact hrest m hm hne
    · by_cases e : j' = j
      · subst e
        rw [hh2] at h2
        cases h2
      · obtain ⟨m, hm, hne, e2⟩ := hex j' h1 e h2 h3
        exact ⟨F[m], List.mem_eraseIdx_iff_getElem.2 ⟨m, hm, hne, rfl⟩, e2⟩
    · have h1 : catL (partsOf F[i0].data a d) = (contentOf ms s (left.eraseIdx i) j).flatten := by
        rw [← hpm]
        rfl
      rw [h1]
      have h2 : contentOf ms s (left.eraseIdx i) j = (List.range (manyM ms s j)).map (partOf (msgOf ms j) s) := by
        unfold contentOf
        refine List.map_congr_left fun x hx => ?_
        have : inL (left.eraseIdx i) j x = false := by
          cases hq : inL (left.eraseIdx i) j x with
          | false => rfl
          | true => exact absurd ((hasL_iff (hl.erase i) j).2 ⟨x, List.mem_range.1 hx, hq⟩) hh
        rw [this]
        rfl
      rw [h2, ← List.flatMap_def]
      exact parts_all _ s hs1
end Go.Proofs.YtkamjhhodnmoiaaGreatDoor

/- The chunks of the messages at first: all are there. No program in sight. -/
set_option maxRecDepth 100000
set_option linter.unusedSimpArgs false
set_option linter.unusedVariables false
namespace Go.Proofs.YtkamjhhodnmoiaaGreatDoor
open Go Go.Proofs.YtkamjhhodnmoiaaGreatDoor.Pale

def FullOk (s most : Nat) (acc : List Ck × List Part) : Prop := LeftOk acc.2 s acc.1 ∧ (∀ j, j < acc.2.length → (msgOf acc.2 j).length ≠ 0 ∧ manyM acc.2 s j ≤ 200 ∧ ∀ a, a < manyM acc.2 s j → inL acc.1 j a = true) ∧ acc.2.length ≤ most ∧ acc.1.length ≤ 40
theorem msgOf_old {ms : List Part} {m : Part} {j : Nat} (h : j < ms.length) : msgOf (ms ++ [m]) j = msgOf ms j := by
  unfold msgOf
  rw [List.getElem?_append_left h]
theorem msgOf_new (ms : List Part) (m : Part) : msgOf (ms ++ [m]) ms.length = m.2 := by
  unfold msgOf
  rw [List.getElem?_append_right (Nat.le_refl _)]
  simp
theorem full_step {s most : Nat} {acc : List Ck × List Part} (h : FullOk s most acc) (m : Part) : FullOk s most (mailStep s most acc m) := by
  unfold mailStep
  split
  · rename_i hc
    obtain ⟨c1, c2, c3, c4, c5⟩ := hc
    obtain ⟨⟨h1, h2⟩, h3, h4, h5⟩ := h
    have hck : ∀ j a, j < acc.2.length → ckAt (acc.2 ++ [m]) s j a = ckAt acc.2 s j a := fun j a hj => by
      unfold ckAt manyM
      rw [msgOf_old hj]
    have hnew : ∀ a, ckAt (acc.2 ++ [m]) s acc.2.length a = ⟨((acc.2.length : Nat) : Int), (a : Nat), (manyOf m.2.length s : Nat), .some, partOf m.2 s a⟩ := fun a => by
      unfold ckAt manyM
      rw [msgOf_new]
    have hin : ∀ j a, inL (acc.1 ++ cksOf ((acc.2.length : Nat) : Int) m.2 s) j a = (inL acc.1 j a || inL (cksOf ((acc.2.length : Nat) : Int) m.2 s) j a) := fun j a => by
      unfold inL
      rw [List.any_append]
    refine ⟨⟨fun c hc => ?_, ?_⟩, fun j hj => ?_, by simp only [List.length_append, List.length_singleton]; omega, by simp only [List.length_append, cksOf_length]; omega⟩
    · rcases List.mem_append.1 hc with hc | hc
      · obtain ⟨j, a, a1, a2, a3⟩ := h1 c hc
        refine ⟨j, a, by simp only [List.length_append, List.length_singleton]; omega, ?_, ?_⟩
        · unfold manyM
          rw [msgOf_old a1]
          exact a2
        · rw [hck j a a1]
          exact a3
      · obtain ⟨a, ha, rfl⟩ := List.mem_iff_getElem.1 hc
        rw [cks_get ha]
        rw [cksOf_length] at ha
        exact ⟨acc.2.length, a, by simp, by unfold manyM; rw [msgOf_new]; exact ha, (hnew a).symm⟩
    · unfold List.Nodup
      rw [List.map_append, List.pairwise_append]
      refine ⟨h2, ?_, fun x hx y hy => ?_⟩
      · rw [List.pairwise_map, List.pairwise_iff_getElem]
        intro a b ha hb hab
        rw [cks_get ha, cks_get hb]
        simp only [keyOf, ne_eq, Prod.mk.injEq, true_and]
        omega
      · obtain ⟨c, hc, rfl⟩ := List.mem_map.1 hx
        obtain ⟨e, he, rfl⟩ := List.mem_map.1 hy
        obtain ⟨j, a, a1, a2, rfl⟩ := h1 c hc
        obtain ⟨b, hb, rfl⟩ := List.mem_iff_getElem.1 he
        rw [cks_get hb]
        simp only [keyOf, ckAt, ne_eq, Prod.mk.injEq]
        omega
    · simp only [List.length_append, List.length_singleton] at hj
      by_cases e : j = acc.2.length
      · subst e
        unfold manyM
        simp only [msgOf_new]
        refine ⟨c2, c4, fun a ha => ?_⟩
        rw [hin, Bool.or_eq_true]
        right
        unfold inL
        rw [List.any_eq_true]
        have ha2 : a < (cksOf ((acc.2.length : Nat) : Int) m.2 s).length := by rw [cksOf_length]; exact ha
        exact ⟨_, List.getElem_mem ha2, by rw [cks_get ha2]; simp⟩
      · have hj2 : j < acc.2.length := by omega
        unfold manyM
        simp only [msgOf_old hj2]
        obtain ⟨a1, a2, a3⟩ := h3 j hj2
        exact ⟨a1, a2, fun a ha => by rw [hin, a3 a ha]; rfl⟩
  · exact h
theorem mail_full (s most : Nat) (ms : List Part) : FullOk s most (mailL s most ms) := by
  unfold mailL
  have key : ∀ (ms : List Part) (acc : List Ck × List Part), FullOk s most acc → FullOk s most (ms.foldl (mailStep s most) acc) := by
    intro ms
    induction ms with
    | nil => intro acc h; exact h
    | cons m ms ih => intro acc h; rw [List.foldl_cons]; exact ih _ (full_step h m)
  exact key ms _ ⟨⟨by simp, by simp⟩, by simp, by simp, by simp⟩
theorem once_start {s most : Nat} {acc : List Ck × List Part} (h : FullOk s most acc) : OnceOk acc.2 s acc.1 [] := by
  refine ⟨⟨by simp, by simp, by simp⟩, by simp, fun j hj h1 ⟨a, h2, h3⟩ => ?_⟩
  rw [(h.2.1 j hj).2.2 a h2] at h3
  cases h3
/-- At the end nothing is there. -/
theorem once_end {ms : List Part} {s : Nat} {shs : List Sh} (h : OnceOk ms s [] shs) (hs1 : 1 ≤ s) : shs = [] := by
  cases shs with
  | nil => rfl
  | cons sh shs =>
    exfalso
    obtain ⟨j, _, _, e⟩ := h.2.1 sh (by simp)
    have h1 := (sheafB_eq sh).1 (h.1.2.2 sh (by simp))
    have h2 := (countP_any emptyQ sh.data).1.2 h1.2.2.1
    rw [empty_iff e, List.any_eq_true] at h2
    obtain ⟨x, hx, h3⟩ := h2
    unfold contentOf at hx
    obtain ⟨a, ha, rfl⟩ := List.mem_map.1 hx
    have hp := part_pos (bs := msgOf ms j) hs1 ((many_lt hs1).1 (List.mem_range.1 ha))
    simp [inL] at h3
    rw [h3] at hp
    simp at hp
end Go.Proofs.YtkamjhhodnmoiaaGreatDoor

/- What is left of a list: append(append([]T{}, l[:k]...), l[k+1:]...), and the chunks that are left in memory. -/
set_option maxRecDepth 100000
set_option linter.unusedSimpArgs false
set_option linter.unusedVariables false
namespace Go.Proofs.YtkamjhhodnmoiaaGreatDoor
open Go Go.Proofs.YtkamjhhodnmoiaaGreatDoor.Pale
variable {k : Nat} {σ : AMem}

theorem app_two {e : TyI} (x1 : AVal) (A B : List AVal) (n1 n2 : Nat) (hA : sourceA e.size (σ.push (.row e.size e.isAgg [])) x1 = some (A, n1)) (hAl : A.length = n1 * e.size) (hBl : B.length = n2 * e.size) (hA1 : A.all AVal.oneCell = true) (hB1 : B.all AVal.oneCell = true) (hs0 : e.size ≠ 0) (hb0 : e.bytes ≠ 0) (hb1 : e.bytes ≤ 1048576) (hby : (n1 + n2) * e.bytes ≤ mostBytes) :
    ∃ out1 σ1, appendA e (σ.push (.row e.size e.isAgg [])) (.slice σ.next 0 0 (some 0) e.size) x1 = some (out1, σ1) ∧ Ext σ σ1 ∧ ∀ x2, sourceA e.size σ1 x2 = some (B, n2) → ∃ r cap σ2, appendA e σ1 out1 x2 = some (.slice r 0 (n1 + n2) cap e.size, σ2) ∧ Ext σ σ2 ∧ σ.next ≤ r ∧ r < σ2.next ∧ σ2.get r = some (.row e.size e.isAgg (A ++ B)) ∧ (0 < n1 + n2 → cap = none) := by
  have hg : (σ.push (.row e.size e.isAgg [])).get σ.next = some (.row e.size e.isAgg []) := by rw [AMem.get_push, if_pos rfl]
  have hx0 : Ext σ (σ.push (.row e.size e.isAgg [])) := Ext.push _ _
  have hby1 : n1 * e.bytes ≤ mostBytes := Nat.le_trans (Nat.mul_le_mul_right _ (by omega)) hby
  have hby2 : n2 * e.bytes ≤ mostBytes := Nat.le_trans (Nat.mul_le_mul_right _ (by omega)) hby
  by_cases h1 : n1 = 0
  · subst h1
    have hA0 : A = [] := List.eq_nil_of_length_eq_zero (by omega)
    subst hA0
    refine ⟨.slice σ.next 0 0 (some 0) e.size, σ.push (.row e.size e.isAgg []), by simp only [appendA, hA, if_true], hx0, fun x2 hB => ?_⟩
    by_cases h2 : n2 = 0
    · subst h2
      have hB0 : B = [] := List.eq_nil_of_length_eq_zero (by omega)
      subst hB0
      exact ⟨σ.next, some 0, _, by simp only [appendA, hB, if_true], hx0, Nat.le_refl _, by simp, hg, fun h => by simp at h⟩
    · refine ⟨σ.next + 1, none, (σ.push (.row e.size e.isAgg [])).push (.row e.size e.isAgg B), ?_, hx0.trans (Ext.push _ _), by omega, by simp, by rw [AMem.get_push, if_pos (by simp)]; rfl, fun _ => rfl⟩
      simp only [appendA, hB, hg]
      rw [if_neg h2, if_neg (by simp [hs0, hb0]; omega), if_pos (by rw [Nat.zero_add]; exact hby2), if_pos trivial, if_neg (by omega), if_pos (by simp)]
      simp
  · have e1 : appendA e (σ.push (.row e.size e.isAgg [])) (.slice σ.next 0 0 (some 0) e.size) x1 = some (.slice (σ.next + 1) 0 n1 none e.size, (σ.push (.row e.size e.isAgg [])).push (.row e.size e.isAgg A)) := by
      simp only [appendA, hA, hg]
      rw [if_neg h1, if_neg (by simp [hs0, hb0]; omega), if_pos (by rw [Nat.zero_add]; exact hby1), if_pos trivial, if_neg (by omega), if_pos (by simp)]
      simp
    refine ⟨_, _, e1, hx0.trans (Ext.push _ _), fun x2 hB => ?_⟩
    have hgr : Grew (σ.next + 1) ((σ.push (.row e.size e.isAgg [])).push (.row e.size e.isAgg A)) e.size e.isAgg (.slice (σ.next + 1) 0 n1 none e.size) n1 A := ⟨hAl, .inr ⟨σ.next + 1, Nat.le_refl _, by simp, rfl, by rw [AMem.get_push, if_pos (by simp)]⟩⟩
    by_cases h2 : n2 = 0
    · subst h2
      have hB0 : B = [] := List.eq_nil_of_length_eq_zero (by omega)
      subst hB0
      refine ⟨σ.next + 1, none, _, by simp only [appendA, hB, if_true]; rfl, hx0.trans (Ext.push _ _), by omega, by simp, by rw [AMem.get_push, if_pos (by simp), List.append_nil], fun _ => rfl⟩
    · obtain ⟨σ2, a1, a2, a3, a4⟩ := Grew.append2 hgr (by simp) hB hBl h2 hs0 hb0 hb1 hby hB1
      refine ⟨_, none, σ2, a1, ⟨by rw [a3]; simp; omega, fun s hs => ?_⟩, by simp; omega, by rw [a3]; simp, ?_, fun _ => rfl⟩
      · rw [a4 s (by simp; omega) (by intro h; simp only [AVal.slice.injEq] at h; omega), AMem.get_push, if_neg (by simp; omega), AMem.get_push, if_neg (by omega)]
      · rcases a2.2 with ⟨h, _⟩ | ⟨r, _, _, h, h9⟩
        · omega
        · simp only [AVal.slice.injEq] at h
          rw [h.1]
          exact h9

/-- The chunks that are left: a value, or a row. -/
def LeftV (σ : AMem) (low : Nat) (lv : AVal) (left : List Ck) : Prop := (∃ K, lv = .vs K (left.map ckV)) ∨ ∃ r cap, lv = .slice r 0 left.length cap 4 ∧ low ≤ r ∧ r < σ.next ∧ σ.get r = some (.row 4 true (left.map ckC).flatten)
def LeftN (lv : AVal) (left : List Ck) : Prop := ∀ r cap, lv = .slice r 0 left.length cap 4 → 0 < left.length → cap = none
theorem LeftV.same {σ σ' : AMem} {low : Nat} {lv : AVal} {left : List Ck} (h : LeftV σ low lv left) (hn : σ.next ≤ σ'.next) (hs : ∀ r, low ≤ r → r < σ.next → σ'.get r = σ.get r) : LeftV σ' low lv left := by
  rcases h with h | ⟨r, cap, h1, h2, h3, h4⟩
  · exact .inl h
  · exact .inr ⟨r, cap, h1, h2, by omega, by rw [hs r h2 h3]; exact h4⟩
theorem LeftV.len {σ : AMem} {low : Nat} {lv : AVal} {left : List Ck} (h : LeftV σ low lv left) : lenB (⟨.slice 27, 1, 24, [.vs .nil []]⟩ : TyI) lv = some (.int .i64 (left.length : Nat)) := by
  rcases h with ⟨K, rfl⟩ | ⟨r, cap, rfl, _⟩
  · simp only [lenB_vs, List.length_map]
  · rfl
end Go.Proofs.YtkamjhhodnmoiaaGreatDoor

/- PackOnce: pieces of its round: how many chunks of a message are left. -/
set_option maxRecDepth 100000
set_option linter.unusedSimpArgs false
set_option linter.unusedVariables false
namespace Go.Proofs.YtkamjhhodnmoiaaGreatDoor
open Go Go.Proofs.YtkamjhhodnmoiaaGreatDoor.Pale
variable {k : Nat} {σ : AMem}

noncomputable def loopO : Code := innerC (innerC (stmtC (bodyOf Tryz.f4) 7))
noncomputable def roundO : Code := innerC (stmtC loopO 2)
noncomputable def countO : Code := stmtC roundO 10
def nameB (c : Ck) (n : Int) : Bool := c.name == n
theorem ckC_cell {left : List Ck} {i : Nat} (hi : i < left.length) : (left.map ckC).flatten[i * 4]? = some (.int .i64 left[i].name) := by
  have := flat_get (sz := 4) (j := 0) (i := i) (more := []) (ls := left.map ckC) (fun l hl => by
    obtain ⟨c, _, rfl⟩ := List.mem_map.1 hl
    rfl) (by simpa using hi) (by omega)
  rw [List.append_nil, Nat.add_zero] at this
  rw [this, List.getElem_map]
  rfl
theorem count_step (left : List Ck) (n : Int) {i : Nat} (hi : i < left.length) : (left.take (i + 1)).countP (fun c => c.name == n) = (left.take i).countP (fun c => c.name == n) + if left[i].name == n then 1 else 0 := by
  rw [List.take_succ_eq_append_getElem hi, List.countP_append, List.countP_singleton]
def keepO : List Nat := [0, 1, 3, 4, 6, 7, 8, 9, 10, 11, 12, 13]
theorem count_runs {T : Tr AVal} {low c : Nat} {lv : AVal} {left : List Ck} {n : Int} {rest : List AVal} (hv : LeftV σ low lv left) (t3 : T.get 3 = some lv) (t10 : T.get 10 = some (.ptr c 0)) (hc : σ.get c = some (.row 4 true (.int .i64 n :: rest))) (t14 : T.get 14 = some (.int .i64 ((0 : Nat) : Int))) (t15 : T.get 15 = some (.int .i64 ((0 : Nat) : Int))) (hl : left.length ≤ 1000) (hk : 2000 ≤ k) :
    Runs lawProg (callN lawProg k) k 4 157 countO T σ fun e T' σ' => e = .normal ∧ σ' = σ ∧ T'.get 14 = some (.int .i64 (left.countP (fun c => c.name == n) : Nat)) ∧ ∀ t, t ∈ keepO → T'.get t = T.get t := by
  rcases hv with ⟨K, rfl⟩ | ⟨r0, cap, rfl, _, _, hr⟩
  · unfold Runs
    simp only [countO, roundO, loopO, bodyOf, Tryz.f4, Option.getD_some, flatC, innerC, stmtC, List.append_assoc, runOps, runD, again, step1, wantA, opSem, evalO, evalL, evalOpt, evalParts, putA, ofConst, ofScalar, ofScalars, abin, abinInt, aun, convA, builtinA, oneTy, elemTy, loadA, storeA, storeCellsA, setAt, partA, fillA, placesA, isFn, TyI.isAgg, isSeq, isNum, sliceA, boundA, setParams, minL, minF, maxL, maxF, repZ, reduceIte, Nat.reduceLT, Nat.reduceLeDiff, Nat.reduceEqDiff, Nat.reduceAdd, Nat.reduceMul, Nat.reduceSub, Nat.reduceBEq, Int.reduceEq, Int.reduceLT, Int.reduceLE, Int.reduceToNat, reduceCtorEq, sx, fx4]
    generalize hL : execC _ _ _ _ _ (Code.loop _) _ _ = r
    obtain ⟨e, T', σ', rfl, _, rfl, rfl, u14, uk⟩ : ∃ e T' σ', r = some (e, T', σ') ∧ e ≠ .normal ∧ (e = .exit 2 ∧ σ' = σ ∧ T'.get 14 = some (.int .i64 (left.countP (fun c => c.name == n) : Nat)) ∧ ∀ t, t ∈ keepO → T'.get t = T.get t) := by
      rw [← hL]
      refine exec_loop (fun i T' σ' => i ≤ left.length ∧ σ' = σ ∧ T'.get 14 = some (.int .i64 ((left.take i).countP (fun c => c.name == n) : Nat)) ∧ T'.get 15 = some (.int .i64 (i : Nat)) ∧ ∀ t, t ∈ keepO → T'.get t = T.get t) left.length (by omega) ?_ ?_ ?_
      · rintro i hi T1 σ1 ⟨_, rfl, a14, a15, ak⟩
        have b3 : T1.get 3 = some (.vs K (left.map ckV)) := (ak 3 (by decide)).trans t3
        have b10 : T1.get 10 = some (.ptr c 0) := (ak 10 (by decide)).trans t10
        have hlt : (i : Int) < left.length := by omega
        have hw := i64_succ (i := i) (by omega)
        have hcl := List.countP_le_length (p := fun c : Ck => c.name == n) (l := left.take i)
        rw [List.length_take] at hcl
        have hw2 := i64_succ (i := (left.take i).countP (fun c => c.name == n)) (by omega)
        have hst := count_step left n hi
        cases hb : (left[i].name == n) with
        | true =>
          rw [hb] at hst
          refine ⟨_, _, by
            simp only [runOps, runD, again, step1, wantA, opSem, evalO, evalL, evalOpt, evalParts, putA, ofConst, ofScalar, ofScalars, abin, abinInt, aun, convA, builtinA, oneTy, elemTy, loadA, storeA, storeCellsA, setAt, partA, fillA, placesA, isFn, TyI.isAgg, isSeq, isNum, sliceA, boundA, setParams, minL, minF, maxL, maxF, repZ, reduceIte, Nat.reduceLT, Nat.reduceLeDiff, Nat.reduceEqDiff, Nat.reduceAdd, Nat.reduceMul, Nat.reduceSub, Nat.reduceBEq, Int.reduceEq, Int.reduceLT, Int.reduceLE, Int.reduceToNat, reduceCtorEq, sx, fx4, b3, b10, a14, a15, hlt, List.length_map, Int.natCast_nonneg, Int.toNat_natCast, ck_get hi, hc, hb, hw, hw2]
            rfl, hi, rfl, ?_, ?_, fun t ht => ?_⟩
          · simp only [Tr.get_set, Nat.reduceEqDiff, reduceIte, hst]
          · simp only [Tr.get_set, Nat.reduceEqDiff, reduceIte]
          · rw [← ak t ht]
            simp only [keepO, List.mem_cons, List.not_mem_nil, or_false] at ht
            rcases ht with rfl | rfl | rfl | rfl | rfl | rfl | rfl | rfl | rfl | rfl | rfl | rfl <;> simp only [Tr.get_set, Nat.reduceEqDiff, reduceIte]
        | false =>
          rw [hb] at hst
          refine ⟨_, _, by
            simp only [runOps, runD, again, step1, wantA, opSem, evalO, evalL, evalOpt, evalParts, putA, ofConst, ofScalar, ofScalars, abin, abinInt, aun, convA, builtinA, oneTy, elemTy, loadA, storeA, storeCellsA, setAt, partA, fillA, placesA, isFn, TyI.isAgg, isSeq, isNum, sliceA, boundA, setParams, minL, minF, maxL, maxF, repZ, reduceIte, Nat.reduceLT, Nat.reduceLeDiff, Nat.reduceEqDiff, Nat.reduceAdd, Nat.reduceMul, Nat.reduceSub, Nat.reduceBEq, Int.reduceEq, Int.reduceLT, Int.reduceLE, Int.reduceToNat, reduceCtorEq, sx, fx4, b3, b10, a14, a15, hlt, List.length_map, Int.natCast_nonneg, Int.toNat_natCast, ck_get hi, hc, hb, hw]
            rfl, hi, rfl, ?_, ?_, fun t ht => ?_⟩
          · simp only [Tr.get_set, Nat.reduceEqDiff, reduceIte, a14]
            rw [hst]
            rfl
          · simp only [Tr.get_set, Nat.reduceEqDiff, reduceIte]
          · rw [← ak t ht]
            simp only [keepO, List.mem_cons, List.not_mem_nil, or_false] at ht
            rcases ht with rfl | rfl | rfl | rfl | rfl | rfl | rfl | rfl | rfl | rfl | rfl | rfl <;> simp only [Tr.get_set, Nat.reduceEqDiff, reduceIte]
      · rintro T1 σ1 ⟨_, rfl, a14, a15, ak⟩
        have b3 : T1.get 3 = some (.vs K (left.map ckV)) := (ak 3 (by decide)).trans t3
        rw [List.take_length] at a14
        refine ⟨_, _, _, by
          simp only [runOps, runD, again, step1, wantA, opSem, evalO, evalL, evalOpt, evalParts, putA, ofConst, ofScalar, ofScalars, abin, abinInt, aun, convA, builtinA, oneTy, elemTy, loadA, storeA, storeCellsA, setAt, partA, fillA, placesA, isFn, TyI.isAgg, isSeq, isNum, sliceA, boundA, setParams, minL, minF, maxL, maxF, repZ, reduceIte, Nat.reduceLT, Nat.reduceLeDiff, Nat.reduceEqDiff, Nat.reduceAdd, Nat.reduceMul, Nat.reduceSub, Nat.reduceBEq, Int.reduceEq, Int.reduceLT, Int.reduceLE, Int.reduceToNat, reduceCtorEq, sx, fx4, b3, a15, List.length_map, Int.lt_irrefl]
          rfl, by simp, rfl, rfl, ?_, fun t ht => ?_⟩
        · simp only [Tr.get_set, Nat.reduceEqDiff, reduceIte, a14]
        · rw [← ak t ht]
          simp only [keepO, List.mem_cons, List.not_mem_nil, or_false] at ht
          rcases ht with rfl | rfl | rfl | rfl | rfl | rfl | rfl | rfl | rfl | rfl | rfl | rfl <;> simp only [Tr.get_set, Nat.reduceEqDiff, reduceIte]
      · exact ⟨Nat.zero_le _, rfl, t14, t15, fun _ _ => rfl⟩
    simp only [runOps, runD, again, step1, wantA, opSem, evalO, evalL, evalOpt, evalParts, putA, ofConst, ofScalar, ofScalars, abin, abinInt, aun, convA, builtinA, oneTy, elemTy, loadA, storeA, storeCellsA, setAt, partA, fillA, placesA, isFn, TyI.isAgg, isSeq, isNum, sliceA, boundA, setParams, minL, minF, maxL, maxF, repZ, reduceIte, Nat.reduceLT, Nat.reduceLeDiff, Nat.reduceEqDiff, Nat.reduceAdd, Nat.reduceMul, Nat.reduceSub, Nat.reduceBEq, Int.reduceEq, Int.reduceLT, Int.reduceLE, Int.reduceToNat, reduceCtorEq, sx, fx4]
    exact ⟨_, _, _, rfl, rfl, rfl, u14, uk⟩
  · unfold Runs
    simp only [countO, roundO, loopO, bodyOf, Tryz.f4, Option.getD_some, flatC, innerC, stmtC, List.append_assoc, runOps, runD, again, step1, wantA, opSem, evalO, evalL, evalOpt, evalParts, putA, ofConst, ofScalar, ofScalars, abin, abinInt, aun, convA, builtinA, oneTy, elemTy, loadA, storeA, storeCellsA, setAt, partA, fillA, placesA, isFn, TyI.isAgg, isSeq, isNum, sliceA, boundA, setParams, minL, minF, maxL, maxF, repZ, reduceIte, Nat.reduceLT, Nat.reduceLeDiff, Nat.reduceEqDiff, Nat.reduceAdd, Nat.reduceMul, Nat.reduceSub, Nat.reduceBEq, Int.reduceEq, Int.reduceLT, Int.reduceLE, Int.reduceToNat, reduceCtorEq, sx, fx4]
    generalize hL : execC _ _ _ _ _ (Code.loop _) _ _ = r
    obtain ⟨e, T', σ', rfl, _, rfl, rfl, u14, uk⟩ : ∃ e T' σ', r = some (e, T', σ') ∧ e ≠ .normal ∧ (e = .exit 2 ∧ σ' = σ ∧ T'.get 14 = some (.int .i64 (left.countP (fun c => c.name == n) : Nat)) ∧ ∀ t, t ∈ keepO → T'.get t = T.get t) := by
      rw [← hL]
      refine exec_loop (fun i T' σ' => i ≤ left.length ∧ σ' = σ ∧ T'.get 14 = some (.int .i64 ((left.take i).countP (fun c => c.name == n) : Nat)) ∧ T'.get 15 = some (.int .i64 (i : Nat)) ∧ ∀ t, t ∈ keepO → T'.get t = T.get t) left.length (by omega) ?_ ?_ ?_
      · rintro i hi T1 σ1 ⟨_, rfl, a14, a15, ak⟩
        have b3 : T1.get 3 = some (.slice r0 0 left.length cap 4) := (ak 3 (by decide)).trans t3
        have b10 : T1.get 10 = some (.ptr c 0) := (ak 10 (by decide)).trans t10
        have hlt : (i : Int) < left.length := by omega
        have hw := i64_succ (i := i) (by omega)
        have hcl := List.countP_le_length (p := fun c : Ck => c.name == n) (l := left.take i)
        rw [List.length_take] at hcl
        have hw2 := i64_succ (i := (left.take i).countP (fun c => c.name == n)) (by omega)
        have hst := count_step left n hi
        cases hb : (left[i].name == n) with
        | true =>
          rw [hb] at hst
          refine ⟨_, _, by
            simp only [runOps, runD, again, step1, wantA, opSem, evalO, evalL, evalOpt, evalParts, putA, ofConst, ofScalar, ofScalars, abin, abinInt, aun, convA, builtinA, oneTy, elemTy, loadA, storeA, storeCellsA, setAt, partA, fillA, placesA, isFn, TyI.isAgg, isSeq, isNum, sliceA, boundA, setParams, minL, minF, maxL, maxF, repZ, reduceIte, Nat.reduceLT, Nat.reduceLeDiff, Nat.reduceEqDiff, Nat.reduceAdd, Nat.reduceMul, Nat.reduceSub, Nat.reduceBEq, Int.reduceEq, Int.reduceLT, Int.reduceLE, Int.reduceToNat, reduceCtorEq, sx, fx4, b3, b10, a14, a15, hlt, List.length_map, Int.natCast_nonneg, Int.toNat_natCast, hr, ckC_cell hi, hc, hb, hw, hw2]
            rfl, hi, rfl, ?_, ?_, fun t ht => ?_⟩
          · simp only [Tr.get_set, Nat.reduceEqDiff, reduceIte, hst]
          · simp only [Tr.get_set, Nat.reduceEqDiff, reduceIte]
          · rw [← ak t ht]
            simp only [keepO, List.mem_cons, List.not_mem_nil, or_false] at ht
            rcases ht with rfl | rfl | rfl | rfl | rfl | rfl | rfl | rfl | rfl | rfl | rfl | rfl <;> simp only [Tr.get_set, Nat.reduceEqDiff, reduceIte]
        | false =>
          rw [hb] at hst
          refine ⟨_, _, by
            simp only [runOps, runD, again, step1, wantA, opSem, evalO, evalL, evalOpt, evalParts, putA, ofConst, ofScalar, ofScalars, abin, abinInt, aun, convA, builtinA, oneTy, elemTy, loadA, storeA, storeCellsA, setAt, partA, fillA, placesA, isFn, TyI.isAgg, isSeq, isNum, sliceA, boundA, setParams, minL, minF, maxL, maxF, repZ, reduceIte, Nat.reduceLT, Nat.reduceLeDiff, Nat.reduceEqDiff, Nat.reduceAdd, Nat.reduceMul, Nat.reduceSub, Nat.reduceBEq, Int.reduceEq, Int.reduceLT, Int.reduceLE, Int.reduceToNat, reduceCtorEq, sx, fx4, b3, b10, a14, a15, hlt, List.length_map, Int.natCast_nonneg, Int.toNat_natCast, hr, ckC_cell hi, hc, hb, hw]
            rfl, hi, rfl, ?_, ?_, fun t ht => ?_⟩
          · simp only [Tr.get_set, Nat.reduceEqDiff, reduceIte, a14]
            rw [hst]
            rfl
          · simp only [Tr.get_set, Nat.reduceEqDiff, reduceIte]
          · rw [← ak t ht]
            simp only [keepO, List.mem_cons, List.not_mem_nil, or_false] at ht
            rcases ht with rfl | rfl | rfl | rfl | rfl | rfl | rfl | rfl | rfl | rfl | rfl | rfl <;> simp only [Tr.get_set, Nat.reduceEqDiff, reduceIte]
      · rintro T1 σ1 ⟨_, rfl, a14, a15, ak⟩
        have b3 : T1.get 3 = some (.slice r0 0 left.length cap 4) := (ak 3 (by decide)).trans t3
        rw [List.take_length] at a14
        refine ⟨_, _, _, by
          simp only [runOps, runD, again, step1, wantA, opSem, evalO, evalL, evalOpt, evalParts, putA, ofConst, ofScalar, ofScalars, abin, abinInt, aun, convA, builtinA, oneTy, elemTy, loadA, storeA, storeCellsA, setAt, partA, fillA, placesA, isFn, TyI.isAgg, isSeq, isNum, sliceA, boundA, setParams, minL, minF, maxL, maxF, repZ, reduceIte, Nat.reduceLT, Nat.reduceLeDiff, Nat.reduceEqDiff, Nat.reduceAdd, Nat.reduceMul, Nat.reduceSub, Nat.reduceBEq, Int.reduceEq, Int.reduceLT, Int.reduceLE, Int.reduceToNat, reduceCtorEq, sx, fx4, b3, a15, List.length_map, Int.lt_irrefl]
          rfl, by simp, rfl, rfl, ?_, fun t ht => ?_⟩
        · simp only [Tr.get_set, Nat.reduceEqDiff, reduceIte, a14]
        · rw [← ak t ht]
          simp only [keepO, List.mem_cons, List.not_mem_nil, or_false] at ht
          rcases ht with rfl | rfl | rfl | rfl | rfl | rfl | rfl | rfl | rfl | rfl | rfl | rfl <;> simp only [Tr.get_set, Nat.reduceEqDiff, reduceIte]
      · exact ⟨Nat.zero_le _, rfl, t14, t15, fun _ _ => rfl⟩
    simp only [runOps, runD, again, step1, wantA, opSem, evalO, evalL, evalOpt, evalParts, putA, ofConst, ofScalar, ofScalars, abin, abinInt, aun, convA, builtinA, oneTy, elemTy, loadA, storeA, storeCellsA, setAt, partA, fillA, placesA, isFn, TyI.isAgg, isSeq, isNum, sliceA, boundA, setParams, minL, minF, maxL, maxF, repZ, reduceIte, Nat.reduceLT, Nat.reduceLeDiff, Nat.reduceEqDiff, Nat.reduceAdd, Nat.reduceMul, Nat.reduceSub, Nat.reduceBEq, Int.reduceEq, Int.reduceLT, Int.reduceLE, Int.reduceToNat, reduceCtorEq, sx, fx4]
    exact ⟨_, _, _, rfl, rfl, rfl, u14, uk⟩
end Go.Proofs.YtkamjhhodnmoiaaGreatDoor

/- PackOnce: the end of its round. -/
set_option maxRecDepth 100000
set_option linter.unusedSimpArgs false
set_option linter.unusedVariables false
namespace Go.Proofs.YtkamjhhodnmoiaaGreatDoor
open Go Go.Proofs.YtkamjhhodnmoiaaGreatDoor.Pale
variable {k : Nat} {σ : AMem}

noncomputable def tailO : Code := dropC 8 roundO
theorem aeq_bool {x : _} (a b : Bool) : aeq ⟨.bool, 1, 1, [.bool false]⟩ x (.bool a) (.bool b) = some (a == b) := by cases a <;> cases b <;> rfl
theorem tail_more {T : Tr AVal} {KA kb : VK} {all : List Part} {L : List Sh} {c nx j cnt : Nat} {cs : AVal} {rest : List AVal} (t4 : T.get 4 = some (.vs KA (all.map partV))) (t7 : T.get 7 = some (.ptr 2 0)) (t10 : T.get 10 = some (.ptr c 0)) (t11 : T.get 11 = some (.ptr nx 0)) (t12 : T.get 12 = some (.vs kb (bytesV []))) (t13 : T.get 13 = some (.int .i64 0)) (t14 : T.get 14 = some (.int .i64 ((cnt : Nat) : Int))) (hcnt : 0 < cnt)
    (gc : σ.get c = some (.row 4 true (.int .i64 ((j : Nat) : Int) :: rest))) (gn : σ.get nx = some (.row 1 true [.vs .some (L.map shV)])) (g2 : σ.get 2 = some (.row 1 true [cs])) (hs : ∀ σ : AMem, pureCall lawProg (callN lawProg k) (.func 12 [] []) [.agg [.vs .some (L.map shV)]] σ = some (.bool true, σ)) :
    Runs lawProg (callN lawProg k) k 4 157 tailO T σ fun e T' σ' => e = .normal ∧ σ' = σ.put 2 (.row 1 true [.vs .some (L.map shV)]) ∧ ∀ t, t ∈ [1, 3, 4, 6, 7, 8] → T'.get t = T.get t := by
  have hz : (((cnt : Nat) : Int) == 0) = false := by rw [beq_eq_false_iff_ne]; omega
  unfold Runs
  simp only [tailO, roundO, loopO, bodyOf, Tryz.f4, Option.getD_some, flatC, innerC, stmtC, dropC, List.append_assoc, runOps, runD, again, step1, wantA, opSem, evalO, evalL, evalOpt, evalParts, putA, ofConst, ofScalar, ofScalars, abin, abinInt, aun, convA, builtinA, oneTy, elemTy, loadA, storeA, storeCellsA, setAt, partA, fillA, placesA, isFn, TyI.isAgg, isSeq, isNum, sliceA, boundA, setParams, minL, minF, maxL, maxF, repZ, reduceIte, Nat.reduceLT, Nat.reduceLeDiff, Nat.reduceEqDiff, Nat.reduceAdd, Nat.reduceMul, Nat.reduceSub, Nat.reduceBEq, Int.reduceEq, Int.reduceLT, Int.reduceLE, Int.reduceToNat, reduceCtorEq, sx, fx4, t4, t7, t10, t11, t12, t13, t14, gc, gn, g2, hs, hz, bytesV_length, show ¬ (((([] : List Nat).length : Nat) : Int) > 0) by decide, show ¬ ((((0 : Nat) : Nat) : Int) > 0) by decide, show ¬ ((0 : Int) > 0) by decide, bne_self_eq_false, aeq_bool]
  refine ⟨_, _, _, rfl, rfl, rfl, fun t ht => ?_⟩
  simp only [List.mem_cons, List.not_mem_nil, or_false] at ht
  rcases ht with rfl | rfl | rfl | rfl | rfl | rfl <;> simp only [Tr.get_set, Nat.reduceEqDiff, reduceIte]
theorem tail_whole {T : Tr AVal} {KA kb : VK} {all : List Part} {L : List Sh} {c nx j nn : Nat} {cap : Option Nat} {cs : AVal} {rest cells : List AVal} (t4 : T.get 4 = some (.vs KA (all.map partV))) (t6 : T.get 6 = some (.slice 1 0 nn cap 1)) (t7 : T.get 7 = some (.ptr 2 0)) (t10 : T.get 10 = some (.ptr c 0)) (t11 : T.get 11 = some (.ptr nx 0)) (hj : j < all.length) (hjn : j < nn) (t12 : T.get 12 = some (.vs kb (bytesV all[j].2))) (hne : all[j].2.length ≠ 0) (t13 : T.get 13 = some (.int .i64 0)) (t14 : T.get 14 = some (.int .i64 ((0 : Nat) : Int)))
    (gc : σ.get c = some (.row 4 true (.int .i64 ((j : Nat) : Int) :: rest))) (gn : σ.get nx = some (.row 1 true [.vs .some (L.map shV)])) (g2 : σ.get 2 = some (.row 1 true [cs])) (g1 : σ.get 1 = some (.row 1 false cells)) (hcell : cells[j]? = some (.int .i64 0)) (hcn : cells.length = nn) (q1 : ¬ c = 1) (q2 : ¬ nx = 1) (hs : ∀ σ : AMem, pureCall lawProg (callN lawProg k) (.func 12 [] []) [.agg [.vs .some (L.map shV)]] σ = some (.bool true, σ)) :
    Runs lawProg (callN lawProg k) k 4 157 tailO T σ fun e T' σ' => e = .normal ∧ σ' = (σ.put 1 (.row 1 false (cells.set j (.int .i64 1)))).put 2 (.row 1 true [.vs .some (L.map shV)]) ∧ ∀ t, t ∈ [1, 3, 4, 6, 7, 8] → T'.get t = T.get t := by
  have hlt : ((j : Nat) : Int) < ((all.length : Nat) : Int) := by omega
  have hltn : ((j : Nat) : Int) < ((nn : Nat) : Int) := by omega
  have hgt : (((all[j].2.length : Nat) : Int) > 0) := by omega
  have hle : j + 1 ≤ cells.length := by omega
  have q3 : ¬ 1 = c := fun e => q1 e.symm
  have q4 : ¬ 1 = nx := fun e => q2 e.symm
  unfold Runs
  simp only [tailO, roundO, loopO, bodyOf, Tryz.f4, Option.getD_some, flatC, innerC, stmtC, dropC, List.append_assoc, runOps, runD, again, step1, wantA, opSem, evalO, evalL, evalOpt, evalParts, putA, ofConst, ofScalar, ofScalars, abin, abinInt, aun, convA, builtinA, oneTy, elemTy, loadA, storeA, storeCellsA, setAt, partA, fillA, placesA, isFn, TyI.isAgg, isSeq, isNum, sliceA, boundA, setParams, minL, minF, maxL, maxF, repZ, reduceIte, Nat.reduceLT, Nat.reduceLeDiff, Nat.reduceEqDiff, Nat.reduceAdd, Nat.reduceMul, Nat.reduceSub, Nat.reduceBEq, Int.reduceEq, Int.reduceLT, Int.reduceLE, Int.reduceToNat, reduceCtorEq, sx, fx4, t4, t6, t7, t10, t11, t12, t13, t14, gc, gn, g1, g2, hs, bytesV_length, List.length_map, hlt, hltn, hgt, hle, hcell, Int.natCast_nonneg, Int.toNat_natCast, part_get hj, source_bytes, bytesOf_bytes, abinStr, show (((0 : Nat) : Int) == 0) = true from rfl, show ((0 : Int) == 0) = true from rfl, bne_self_eq_false, show IntKind.i64.wrap ((0 : Int) + 1) = 1 from rfl, q1, q2, q3, q4, aeq_bool]
  refine ⟨_, _, _, rfl, rfl, rfl, fun t ht => ?_⟩
  simp only [List.mem_cons, List.not_mem_nil, or_false] at ht
  rcases ht with rfl | rfl | rfl | rfl | rfl | rfl <;> simp only [Tr.get_set, Nat.reduceEqDiff, reduceIte]
end Go.Proofs.YtkamjhhodnmoiaaGreatDoor

/- PackOnce: its round. -/
set_option maxRecDepth 100000
set_option linter.unusedSimpArgs false
set_option linter.unusedVariables false
namespace Go.Proofs.YtkamjhhodnmoiaaGreatDoor
open Go Go.Proofs.YtkamjhhodnmoiaaGreatDoor.Pale
variable {k : Nat} {σ : AMem}

noncomputable def restO : Code := dropC 7 roundO
theorem cnt_iff (left : List Ck) (j : Nat) : left.countP (fun c => c.name == ((j : Nat) : Int)) = 0 ↔ hasL left j = false := by
  unfold hasL
  rw [List.countP_eq_zero, List.any_eq_false]
/-- What came whole. -/
def cameC (n : Nat) (left : List Ck) : List AVal := (List.range n).map fun j => AVal.int .i64 (if hasL left j then 0 else 1)
theorem hasL_other {ms : List Part} {s : Nat} {left : List Ck} {i j a j' : Nat} (h : LeftOk ms s left) (hi : i < left.length) (hc : left[i] = ckAt ms s j a) (hj : j' ≠ j) : hasL (left.eraseIdx i) j' = hasL left j' := by
  rw [Bool.eq_iff_iff, hasL_iff (h.erase i), hasL_iff h]
  have hb : (j' == j) = false := by simpa using hj
  simp only [left_erase h hi hc, hb, Bool.false_and, Bool.not_false, Bool.and_true]
theorem came_step {ms : List Part} {s n : Nat} {left : List Ck} {i j a : Nat} (h : LeftOk ms s left) (hi : i < left.length) (hc : left[i] = ckAt ms s j a) (ha : a < manyM ms s j) : cameC n (left.eraseIdx i) = if hasL (left.eraseIdx i) j = true then cameC n left else (cameC n left).set j (.int .i64 1) := by
  have hin : hasL left j = true := by
    unfold hasL
    rw [List.any_eq_true]
    exact ⟨left[i], List.getElem_mem hi, by rw [hc]; simp [ckAt]⟩
  split
  · rename_i hh
    unfold cameC
    refine List.map_congr_left fun x _ => ?_
    by_cases e : x = j
    · subst e; rw [hh, hin]
    · rw [hasL_other h hi hc e]
  · rename_i hh
    unfold cameC
    apply List.ext_getElem (by simp)
    intro x h1 h2
    simp only [List.getElem_map, List.getElem_range, List.getElem_set]
    by_cases e : j = x
    · subst e
      simp [hh]
    · rw [if_neg e, hasL_other h hi hc (Ne.symm e)]

theorem rest_runs {T : Tr AVal} {KA kb : VK} {all : List Part} {L : List Sh} {left : List Ck} {c nx j low : Nat} {cap : Option Nat} {lv cs : AVal} {bs : List Nat} {rest cells : List AVal} (hv : LeftV σ low lv left) (hl : left.length ≤ 1000) (hk : 2000 ≤ k) (t3 : T.get 3 = some lv) (t4 : T.get 4 = some (.vs KA (all.map partV))) (t6 : T.get 6 = some (.slice 1 0 all.length cap 1)) (t7 : T.get 7 = some (.ptr 2 0)) (t10 : T.get 10 = some (.ptr c 0)) (t11 : T.get 11 = some (.ptr nx 0)) (hj : j < all.length) (t12 : T.get 12 = some (.vs kb (bytesV bs))) (hmore : hasL left j = true → bs = []) (hwhole : hasL left j = false → bs = all[j].2) (hne : all[j].2.length ≠ 0) (t13 : T.get 13 = some (.int .i64 0)) (t14 : T.get 14 = some (.int .i64 ((0 : Nat) : Int)))
    (gc : σ.get c = some (.row 4 true (.int .i64 ((j : Nat) : Int) :: rest))) (gn : σ.get nx = some (.row 1 true [.vs .some (L.map shV)])) (g2 : σ.get 2 = some (.row 1 true [cs])) (g1 : σ.get 1 = some (.row 1 false cells)) (hcell : cells[j]? = some (.int .i64 0)) (hcn : cells.length = all.length) (q1 : ¬ c = 1) (q2 : ¬ nx = 1) (hs : ∀ σ : AMem, pureCall lawProg (callN lawProg k) (.func 12 [] []) [.agg [.vs .some (L.map shV)]] σ = some (.bool true, σ)) :
    Runs lawProg (callN lawProg k) k 4 157 restO T σ fun e T' σ' => e = .normal ∧ σ' = (if hasL left j = true then σ else σ.put 1 (.row 1 false (cells.set j (.int .i64 1)))).put 2 (.row 1 true [.vs .some (L.map shV)]) ∧ ∀ t, t ∈ [1, 3, 4, 6, 7, 8] → T'.get t = T.get t := by
  show Runs _ _ _ _ _ (.seq (.seq _ countO) tailO) T σ _
  refine Runs.seq (P := fun T' σ' => σ' = σ ∧ T'.get 14 = some (.int .i64 (left.countP (fun c => c.name == ((j : Nat) : Int)) : Nat)) ∧ ∀ t, t ∈ keepO → T'.get t = T.get t) (Runs.seq (P := fun T' σ' => σ' = σ ∧ T'.get 14 = T.get 14 ∧ T'.get 15 = some (.int .i64 ((0 : Nat) : Int)) ∧ ∀ t, t ∈ keepO → T'.get t = T.get t) ?_ ?_) ?_
  · refine ⟨.normal, _, _, by
      simp only [runOps, runD, again, step1, wantA, opSem, evalO, evalL, evalOpt, evalParts, putA, ofConst, ofScalar, ofScalars, abin, abinInt, aun, convA, builtinA, oneTy, elemTy, loadA, storeA, storeCellsA, setAt, partA, fillA, placesA, isFn, TyI.isAgg, isSeq, isNum, sliceA, boundA, setParams, minL, minF, maxL, maxF, repZ, reduceIte, Nat.reduceLT, Nat.reduceLeDiff, Nat.reduceEqDiff, Nat.reduceAdd, Nat.reduceMul, Nat.reduceSub, Nat.reduceBEq, Int.reduceEq, Int.reduceLT, Int.reduceLE, Int.reduceToNat, reduceCtorEq, sx, fx4]
      rfl, rfl, rfl, ?_, ?_, fun t ht => ?_⟩
    · simp only [Tr.get_set, Nat.reduceEqDiff, reduceIte]
    · simp only [Tr.get_set, Nat.reduceEqDiff, reduceIte]; rfl
    · simp only [keepO, List.mem_cons, List.not_mem_nil, or_false] at ht
      rcases ht with rfl | rfl | rfl | rfl | rfl | rfl | rfl | rfl | rfl | rfl | rfl | rfl <;> simp only [Tr.get_set, Nat.reduceEqDiff, reduceIte]
  · rintro T1 _ ⟨rfl, a14, a15, ak⟩
    refine (count_runs (n := ((j : Nat) : Int)) (rest := rest) (c := c) hv ((ak 3 (by decide)).trans t3) ((ak 10 (by decide)).trans t10) gc (a14.trans t14) a15 hl hk).mono ?_
    rintro e T2 σ2 ⟨h1, h2, h3, h4⟩
    exact ⟨h1, h2, h3, fun t ht => (h4 t ht).trans (ak t ht)⟩
  · rintro T2 _ ⟨rfl, b14, bk⟩
    have u : ∀ {t : Nat} {v : AVal}, t ∈ keepO → T.get t = some v → T2.get t = some v := fun ht h => (bk _ ht).trans h
    have kk : ∀ t, t ∈ [1, 3, 4, 6, 7, 8] → t ∈ keepO := by decide
    by_cases hh : hasL left j = true
    · have hb := hmore hh
      subst hb
      rw [if_pos hh]
      refine (tail_more (cnt := left.countP (fun c => c.name == ((j : Nat) : Int))) (u (by decide) t4) (u (by decide) t7) (u (by decide) t10) (u (by decide) t11) (u (by decide) t12) (u (by decide) t13) b14 ?_ gc gn g2 hs).mono ?_
      · rcases Nat.eq_zero_or_pos (left.countP (fun c => c.name == ((j : Nat) : Int))) with h | h
        · rw [(cnt_iff left j).1 h] at hh; cases hh
        · exact h
      · rintro e T3 σ3 ⟨h1, h2, h3⟩
        exact ⟨h1, h2, fun t ht => (h3 t ht).trans (bk t (kk t ht))⟩
    · have hh2 : hasL left j = false := by simpa using hh
      have hb := hwhole hh2
      subst hb
      rw [if_neg hh]
      rw [(cnt_iff left j).2 hh2] at b14
      refine (tail_whole (u (by decide) t4) (u (by decide) t6) (u (by decide) t7) (u (by decide) t10) (u (by decide) t11) hj hj (u (by decide) t12) hne (u (by decide) t13) b14 gc gn g2 g1 hcell hcn q1 q2 hs).mono ?_
      rintro e T3 σ3 ⟨h1, h2, h3⟩
      exact ⟨h1, h2, fun t ht => (h3 t ht).trans (bk t (kk t ht))⟩
end Go.Proofs.YtkamjhhodnmoiaaGreatDoor

/- PackOnce: its round, whole. -/
set_option maxRecDepth 100000
set_option linter.unusedSimpArgs false
set_option linter.unusedVariables false
namespace Go.Proofs.YtkamjhhodnmoiaaGreatDoor
open Go Go.Proofs.YtkamjhhodnmoiaaGreatDoor.Pale
variable {k : Nat} {σ : AMem}

/-- What is so in each round of PackOnce. -/
structure OnceSt (all : List Part) (s : Nat) (mail : List AVal) (KA kw : VK) (way : List Nat) (cap : Option Nat) (i : Nat) (left : List Ck) (shs : List Sh) (T : Tr AVal) (σ : AMem) : Prop where
  t1 : T.get 1 = some (.ptr 0 0)
  t3 : ∃ lv, T.get 3 = some lv ∧ LeftV σ 3 lv left ∧ LeftN lv left
  t4 : T.get 4 = some (.vs KA (all.map partV))
  t6 : T.get 6 = some (.slice 1 0 all.length cap 1)
  t7 : T.get 7 = some (.ptr 2 0)
  t8 : T.get 8 = some (.int .i64 (i : Nat))
  g0 : σ.get 0 = some (.row 3 true mail)
  g1 : σ.get 1 = some (.row 1 false (cameC all.length left))
  g2 : ∃ lk, σ.get 2 = some (.row 1 true [.vs lk (shs.map shV)])
  nx : 3 ≤ σ.next
  lo : LeftOk all s left
  oo : OnceOk all s left shs
/-- A chunk into the copy of the sorter. -/
theorem once_add {all : List Part} {s : Nat} {left : List Ck} {shs : List Sh} {i j a : Nat} (h : OnceOk all s left shs) (hl : LeftOk all s left) (hm : all.length ≤ 4) (hs1 : 1 ≤ s) (hs2 : s ≤ 100) (hi : i < left.length) (hc : left[i] = ckAt all s j a) (hj : j < all.length) (ha : a < manyM all s j) (hmn : manyM all s j ≤ 200) (hk : 5000 ≤ k) : ∃ (L : List Sh) (bs : List Nat) (kb : VK),
    (∀ σ, pureCall lawProg (callN lawProg k) (.func 9 [] []) [.agg [.vs (lkOf shs.length) ((shs.map normS).map shV)], .agg [.int .i64 (j : Nat), .int .i64 (a : Nat), .int .i64 (manyM all s j : Nat), .vs .some (bytesV (partOf (msgOf all j) s a))]] σ = some (.tuple [.agg [.vs .some (L.map shV)], .vs kb (bytesV bs), .int .i64 0], σ)) ∧
    (∀ σ, pureCall lawProg (callN lawProg k) (.func 12 [] []) [.agg [.vs .some (L.map shV)]] σ = some (.bool true, σ)) ∧ OnceOk all s (left.eraseIdx i) L ∧ (hasL (left.eraseIdx i) j = true → bs = []) ∧ (hasL (left.eraseIdx i) j = false → bs = msgOf all j) := by
  have ok : OkC (j : Nat) (a : Nat) (manyM all s j : Nat) (partOf (msgOf all j) s a) := cks_ok ha (by omega) hs1 hs2 hmn
  obtain ⟨h1, h2, h3⟩ := once_step h.norm hl hm hs1 hs2 hi hc hj ha hmn
  have h4 := h1.dk
  have sm := h4.1.small'
  obtain ⟨b, hb, hb2⟩ := isSorter_call (k := k) .some ((addL (shs.map normS) (j : Nat) (manyM all s j) a (partOf (msgOf all j) s a)).1.map dkS) (by omega) (fun s h => by have := (sm.2 s h).1; omega) (by omega)
  obtain rfl : b = true := hb2.2 h4.1
  refine ⟨(addL (shs.map normS) (j : Nat) (manyM all s j) a (partOf (msgOf all j) s a)).1.map dkS, (addL (shs.map normS) (j : Nat) (manyM all s j) a (partOf (msgOf all j) s a)).2, (if (addL (shs.map normS) (j : Nat) (manyM all s j) a (partOf (msgOf all j) s a)).2 = [] then .nil else .some), fun σ => ?_, hb, h4, h2, h3⟩
  have := add_call (k := k) (σ := σ) (lkOf shs.length) (shs.map normS) (j : Nat) a (manyM all s j) (partOf (msgOf all j) s a) h.1.norm (fun s hs p hp => by
      obtain ⟨t, _, rfl⟩ := List.mem_map.1 hs
      obtain ⟨q, _, rfl⟩ := List.mem_map.1 hp
      rfl) ok hk
  rw [show (if (addL (shs.map normS) ((j : Nat) : Int) (manyM all s j) a (partOf (msgOf all j) s a)).2 = [] then AVal.vs .nil [] else .vs .some (bytesV (addL (shs.map normS) ((j : Nat) : Int) (manyM all s j) a (partOf (msgOf all j) s a)).2)) = .vs (if (addL (shs.map normS) ((j : Nat) : Int) (manyM all s j) a (partOf (msgOf all j) s a)).2 = [] then .nil else .some) (bytesV (addL (shs.map normS) ((j : Nat) : Int) (manyM all s j) a (partOf (msgOf all j) s a)).2) by
    split
    · rename_i h; rw [h]; rfl
    · rfl] at this
  rw [show ((addL (shs.map normS) ((j : Nat) : Int) (manyM all s j) a (partOf (msgOf all j) s a)).1.map dkS).map shV = (addL (shs.map normS) ((j : Nat) : Int) (manyM all s j) a (partOf (msgOf all j) s a)).1.map fun s => shV (dkS s) by rw [List.map_map]; rfl]
  exact this
/-- Which chunk comes. -/
theorem pick_runs {T : Tr AVal} {low i : Nat} {lv : AVal} {left : List Ck} {z : Nat} {kl kw : VK} {ms : List AVal} {way : List Nat} (hv : LeftV σ low lv left) (h0 : 0 < left.length) (hl : left.length ≤ 1000) (hway : ∀ b, b ∈ way → b < 256) (hi : i ≤ 1000) (t1 : T.get 1 = some (.ptr 0 0)) (t3 : T.get 3 = some lv) (t8 : T.get 8 = some (.int .i64 (i : Nat))) (g0 : σ.get 0 = some (.row 3 true [.int .u8 (z : Nat), .vs kl ms, .vs kw (bytesV way)])) :
    ∃ kx, kx < left.length ∧ ∃ T', execC lawProg (callN lawProg k) k 4 157 (.seq (stmtC roundO 0) (.seq (stmtC roundO 1) (stmtC roundO 2))) T σ = some (.normal, T', σ) ∧ T'.get 9 = some (.int .i64 (kx : Nat)) ∧ ∀ t, t ∈ [1, 3, 4, 6, 7, 8] → T'.get t = T.get t := by
  have hlen := hv.len
  by_cases hw : i < way.length
  · have hlt : ((i : Nat) : Int) < ((way.length : Nat) : Int) := by omega
    have hb := hway _ (List.getElem_mem hw)
    have hww : IntKind.i64.wrap ((way[i] : Nat) : Int) = ((way[i] : Nat) : Int) := i64_id (by omega) (by omega)
    have hmw : ((way[i] : Nat) : Int).tmod ((left.length : Nat) : Int) = ((way[i] % left.length : Nat) : Int) := rfl
    obtain ⟨a, ha⟩ : ∃ a, a = way[i] % left.length := ⟨_, rfl⟩
    have hao : a < left.length := by rw [ha]; exact Nat.mod_lt _ h0
    rw [← ha] at hmw
    have hwa : IntKind.i64.wrap ((a : Nat) : Int) = ((a : Nat) : Int) := i64_id (by omega) (by omega)
    have ho0 : ¬ ((left.length : Nat) : Int) = 0 := by omega
    refine ⟨a, hao, _, by
      simp only [roundO, loopO, bodyOf, Tryz.f4, Option.getD_some, flatC, innerC, stmtC, List.append_assoc, runOps, runD, again, step1, wantA, opSem, evalO, evalL, evalOpt, evalParts, putA, ofConst, ofScalar, ofScalars, abin, abinInt, aun, convA, builtinA, oneTy, elemTy, loadA, storeA, storeCellsA, setAt, partA, fillA, placesA, isFn, TyI.isAgg, isSeq, isNum, sliceA, boundA, setParams, minL, minF, maxL, maxF, repZ, reduceIte, Nat.reduceLT, Nat.reduceLeDiff, Nat.reduceEqDiff, Nat.reduceAdd, Nat.reduceMul, Nat.reduceSub, Nat.reduceBEq, Int.reduceEq, Int.reduceLT, Int.reduceLE, Int.reduceToNat, reduceCtorEq, sx, fx4, t1, t3, t8, g0, bytesV_length, hlt, byte_get hw, hww, hlen, hmw, hwa, ho0, Int.natCast_nonneg, Int.toNat_natCast]
      rfl, ?_, fun t ht => ?_⟩
    · simp only [Tr.get_set, Nat.reduceEqDiff, reduceIte]
    · simp only [List.mem_cons, List.not_mem_nil, or_false] at ht
      rcases ht with rfl | rfl | rfl | rfl | rfl | rfl <;> simp only [Tr.get_set, Nat.reduceEqDiff, reduceIte]
  · have hlt : ¬ ((i : Nat) : Int) < ((way.length : Nat) : Int) := by omega
    refine ⟨0, h0, _, by
      simp only [roundO, loopO, bodyOf, Tryz.f4, Option.getD_some, flatC, innerC, stmtC, List.append_assoc, runOps, runD, again, step1, wantA, opSem, evalO, evalL, evalOpt, evalParts, putA, ofConst, ofScalar, ofScalars, abin, abinInt, aun, convA, builtinA, oneTy, elemTy, loadA, storeA, storeCellsA, setAt, partA, fillA, placesA, isFn, TyI.isAgg, isSeq, isNum, sliceA, boundA, setParams, minL, minF, maxL, maxF, repZ, reduceIte, Nat.reduceLT, Nat.reduceLeDiff, Nat.reduceEqDiff, Nat.reduceAdd, Nat.reduceMul, Nat.reduceSub, Nat.reduceBEq, Int.reduceEq, Int.reduceLT, Int.reduceLE, Int.reduceToNat, reduceCtorEq, sx, fx4, t1, t3, t8, g0, bytesV_length, hlt]
      rfl, ?_, fun t ht => ?_⟩
    · simp only [Tr.get_set, Nat.reduceEqDiff, reduceIte]; rfl
    · simp only [List.mem_cons, List.not_mem_nil, or_false] at ht
      rcases ht with rfl | rfl | rfl | rfl | rfl | rfl <;> simp only [Tr.get_set, Nat.reduceEqDiff, reduceIte]
end Go.Proofs.YtkamjhhodnmoiaaGreatDoor

/- PackOnce: the chunk that comes, and where it goes. -/
set_option maxRecDepth 100000
set_option linter.unusedSimpArgs false
set_option linter.unusedVariables false
namespace Go.Proofs.YtkamjhhodnmoiaaGreatDoor
open Go Go.Proofs.YtkamjhhodnmoiaaGreatDoor.Pale
variable {k : Nat} {σ : AMem}

theorem ckC_elem {left : List Ck} {i : Nat} (hi : i < left.length) : ((left.map ckC).flatten.drop (i * 4)).take 4 = [.int .i64 left[i].name, .int .i64 left[i].at_, .int .i64 left[i].of, .vs left[i].vk (bytesV left[i].d)] := by
  have := flat_elem (sz := 4) (i := i) (more := []) (ls := left.map ckC) (fun l hl => by
    obtain ⟨c, _, rfl⟩ := List.mem_map.1 hl
    rfl) (by simpa using hi)
  rw [List.append_nil] at this
  rw [this, List.getElem_map]
  rfl
theorem take_runs {T : Tr AVal} {low kx : Nat} {lv : AVal} {left : List Ck} (hv : LeftV σ low lv left) (hx : kx < left.length) (t3 : T.get 3 = some lv) (t9 : T.get 9 = some (.int .i64 (kx : Nat))) :
    ∃ T' σ', execC lawProg (callN lawProg k) k 4 157 (stmtC roundO 3) T σ = some (.normal, T', σ') ∧ T'.get 10 = some (.ptr σ.next 0) ∧ Ext σ σ' ∧ σ'.next = σ.next + 1 ∧ σ'.get σ.next = some (.row 4 true [.int .i64 left[kx].name, .int .i64 left[kx].at_, .int .i64 left[kx].of, .vs left[kx].vk (bytesV left[kx].d)]) ∧ ∀ t, t ∈ [1, 3, 4, 6, 7, 8, 9] → T'.get t = T.get t := by
  have hlt : ((kx : Nat) : Int) < ((left.length : Nat) : Int) := by omega
  rcases hv with ⟨K, rfl⟩ | ⟨r, cap, rfl, _, hrn, hr⟩
  · refine ⟨_, _, by
      simp only [roundO, loopO, bodyOf, Tryz.f4, Option.getD_some, flatC, innerC, stmtC, List.append_assoc, runOps, runD, again, step1, wantA, opSem, evalO, evalL, evalOpt, evalParts, putA, ofConst, ofScalar, ofScalars, abin, abinInt, aun, convA, builtinA, oneTy, elemTy, loadA, storeA, storeCellsA, setAt, partA, fillA, placesA, isFn, TyI.isAgg, isSeq, isNum, sliceA, boundA, setParams, minL, minF, maxL, maxF, repZ, reduceIte, Nat.reduceLT, Nat.reduceLeDiff, Nat.reduceEqDiff, Nat.reduceAdd, Nat.reduceMul, Nat.reduceSub, Nat.reduceBEq, Int.reduceEq, Int.reduceLT, Int.reduceLE, Int.reduceToNat, reduceCtorEq, sx, fx4, t3, t9, hlt, List.length_map, ck_get hx, Int.natCast_nonneg, Int.toNat_natCast]
      rfl, ?_, (Ext.push _ _).put _ _ (Nat.le_refl _), by simp, by rw [AMem.get_put, if_pos rfl], fun t ht => ?_⟩
    · simp only [Tr.get_set, Nat.reduceEqDiff, reduceIte]
    · simp only [List.mem_cons, List.not_mem_nil, or_false] at ht
      rcases ht with rfl | rfl | rfl | rfl | rfl | rfl | rfl <;> simp only [Tr.get_set, Nat.reduceEqDiff, reduceIte]
  · have hq : ¬ σ.next = r := by omega
    have hle : kx * 4 + 4 ≤ (left.map ckC).flatten.length := by rw [ckC_flat]; omega
    refine ⟨_, _, by
      simp only [roundO, loopO, bodyOf, Tryz.f4, Option.getD_some, flatC, innerC, stmtC, List.append_assoc, runOps, runD, again, step1, wantA, opSem, evalO, evalL, evalOpt, evalParts, putA, ofConst, ofScalar, ofScalars, abin, abinInt, aun, convA, builtinA, oneTy, elemTy, loadA, storeA, storeCellsA, setAt, partA, fillA, placesA, isFn, TyI.isAgg, isSeq, isNum, sliceA, boundA, setParams, minL, minF, maxL, maxF, repZ, reduceIte, Nat.reduceLT, Nat.reduceLeDiff, Nat.reduceEqDiff, Nat.reduceAdd, Nat.reduceMul, Nat.reduceSub, Nat.reduceBEq, Int.reduceEq, Int.reduceLT, Int.reduceLE, Int.reduceToNat, reduceCtorEq, sx, fx4, t3, t9, hlt, hr, hq, hle, ckC_elem hx, Int.natCast_nonneg, Int.toNat_natCast]
      rfl, ?_, (Ext.push _ _).put _ _ (Nat.le_refl _), by simp, by rw [AMem.get_put, if_pos rfl], fun t ht => ?_⟩
    · simp only [Tr.get_set, Nat.reduceEqDiff, reduceIte]
    · simp only [List.mem_cons, List.not_mem_nil, or_false] at ht
      rcases ht with rfl | rfl | rfl | rfl | rfl | rfl | rfl <;> simp only [Tr.get_set, Nat.reduceEqDiff, reduceIte]
theorem put_runs {T : Tr AVal} {c j a o : Nat} {KA kb : VK} {all : List Part} {L : List Sh} {shs : List Sh} {lk : VK} {d bs : List Nat} (hj : j < all.length) (hd : d.length ≤ 1000) (t4 : T.get 4 = some (.vs KA (all.map partV))) (t7 : T.get 7 = some (.ptr 2 0)) (t10 : T.get 10 = some (.ptr c 0)) (gc : σ.get c = some (.row 4 true [.int .i64 (j : Nat), .int .i64 (a : Nat), .int .i64 (o : Nat), .vs .some (bytesV d)])) (g2 : σ.get 2 = some (.row 1 true [.vs lk (shs.map shV)])) (hs : SorterOk shs) (hk : 5000 ≤ k) (q1 : ¬ σ.next = c) (q2 : ¬ σ.next = 2)
    (hadd : ∀ σ, pureCall lawProg (callN lawProg k) (.func 9 [] []) [.agg [.vs (lkOf shs.length) ((shs.map normS).map shV)], .agg [.int .i64 (j : Nat), .int .i64 (a : Nat), .int .i64 (o : Nat), .vs .some (bytesV d)]] σ = some (.tuple [.agg [.vs .some (L.map shV)], .vs kb (bytesV bs), .int .i64 0], σ)) :
    ∃ T' σ', execC lawProg (callN lawProg k) k 4 157 (.seq (.seq (stmtC roundO 4) (stmtC roundO 5)) (stmtC roundO 6)) T σ = some (.normal, T', σ') ∧ T'.get 11 = some (.ptr σ.next 0) ∧ T'.get 12 = some (.vs kb (bytesV bs)) ∧ T'.get 13 = some (.int .i64 0) ∧ Ext σ σ' ∧ σ'.next = σ.next + 1 ∧ σ'.get σ.next = some (.row 1 true [.vs .some (L.map shV)]) ∧ ∀ t, t ∈ [1, 3, 4, 6, 7, 8, 9, 10] → T'.get t = T.get t := by
  have hge : ¬ ((j : Nat) : Int) ≥ ((all.length : Nat) : Int) := by omega
  have hnn : ¬ ((j : Nat) : Int) < 0 := by omega
  have hcp := fun (σ : AMem) => copy_in (k := k) (σ := σ) lk shs hs hk
  have hcc := fun (σ : AMem) => copyChunk_call (k := k) (σ := σ) (j : Nat) (a : Nat) (o : Nat) .some d hd (by omega)
  refine ⟨_, _, by
    simp only [roundO, loopO, bodyOf, Tryz.f4, Option.getD_some, flatC, innerC, stmtC, List.append_assoc, runOps, runD, again, step1, wantA, opSem, evalO, evalL, evalOpt, evalParts, putA, ofConst, ofScalar, ofScalars, abin, abinInt, aun, convA, builtinA, oneTy, elemTy, loadA, storeA, storeCellsA, setAt, partA, fillA, placesA, isFn, TyI.isAgg, isSeq, isNum, sliceA, boundA, setParams, minL, minF, maxL, maxF, repZ, reduceIte, Nat.reduceLT, Nat.reduceLeDiff, Nat.reduceEqDiff, Nat.reduceAdd, Nat.reduceMul, Nat.reduceSub, Nat.reduceBEq, Int.reduceEq, Int.reduceLT, Int.reduceLE, Int.reduceToNat, reduceCtorEq, sx, fx4, t4, t7, t10, gc, g2, hge, hnn, hcp, hcc, hadd, q1, q2, List.length_map]
    rfl, ?_, ?_, ?_, (Ext.push _ _).put _ _ (Nat.le_refl _), by simp, by rw [AMem.get_put, if_pos rfl], fun t ht => ?_⟩
  · simp only [Tr.get_set, Nat.reduceEqDiff, reduceIte]
  · simp only [Tr.get_set, Nat.reduceEqDiff, reduceIte]
  · simp only [Tr.get_set, Nat.reduceEqDiff, reduceIte]
  · simp only [List.mem_cons, List.not_mem_nil, or_false] at ht
    rcases ht with rfl | rfl | rfl | rfl | rfl | rfl | rfl | rfl <;> simp only [Tr.get_set, Nat.reduceEqDiff, reduceIte]
end Go.Proofs.YtkamjhhodnmoiaaGreatDoor

/- PackOnce: what is left. -/
set_option maxRecDepth 100000
set_option linter.unusedSimpArgs false
set_option linter.unusedVariables false
namespace Go.Proofs.YtkamjhhodnmoiaaGreatDoor
open Go Go.Proofs.YtkamjhhodnmoiaaGreatDoor.Pale
variable {k : Nat} {σ : AMem}

theorem source_cksV (σ : AMem) (K : VK) (cs : List Ck) : sourceA 4 σ (.vs K (cs.map ckV)) = some ((cs.map ckC).flatten, cs.length) := source_cks σ cs
theorem sliceA_drop {sz : Nat} {q : VK} {es : List AVal} {i : Nat} {kk : IntKind} (h : i ≤ es.length) : sliceA sz (.vs q es) (some (.int kk (i : Nat))) none none = some (.vs q (es.drop i)) := by
  have h1 : ((i : Nat) : Int) ≤ ((es.length : Nat) : Int) := by omega
  simp [sliceA, boundA, h, h1]
  intro hq
  exact hq.symm
theorem erase_flat (left : List Ck) (kx : Nat) : ((left.take kx).map ckC).flatten ++ ((left.drop (kx + 1)).map ckC).flatten = ((left.eraseIdx kx).map ckC).flatten := by
  rw [List.eraseIdx_eq_take_drop_succ, List.map_append, List.flatten_append]
theorem ckC_one (cs : List Ck) : (cs.map ckC).flatten.all AVal.oneCell = true := pure_one _ (ckC_pure _)
theorem ck_four (left : List Ck) : ∀ l, l ∈ left.map ckC → l.length = 4 := fun l hl => by
  obtain ⟨c, _, rfl⟩ := List.mem_map.1 hl
  rfl
theorem left_runs {T : Tr AVal} {low kx : Nat} {lv : AVal} {left : List Ck} (hv : LeftV σ low lv left) (hn : LeftN lv left) (hlow : low ≤ σ.next) (hx : kx < left.length) (hl : left.length ≤ 1000) (t3 : T.get 3 = some lv) (t9 : T.get 9 = some (.int .i64 (kx : Nat))) :
    ∃ T' σ' lv', execC lawProg (callN lawProg k) k 4 157 (stmtC roundO 7) T σ = some (.normal, T', σ') ∧ T'.get 3 = some lv' ∧ LeftV σ' low lv' (left.eraseIdx kx) ∧ LeftN lv' (left.eraseIdx kx) ∧ Ext σ σ' ∧ ∀ t, t ∈ [1, 4, 6, 7, 8, 10, 11, 12, 13] → T'.get t = T.get t := by
  have hw := i64_succ (i := kx) (by omega)
  have hel : (left.eraseIdx kx).length = kx + (left.length - (kx + 1)) := by rw [List.length_eraseIdx, if_pos hx]; omega
  have hle : ((kx : Nat) : Int) ≤ ((left.length : Nat) : Int) := by omega
  rcases hv with ⟨K, rfl⟩ | ⟨r, cap, rfl, hr1, hr2, hr⟩
  · have hall : (left.map ckV).all (fun c => c.cells.length == 4) = true := by
      rw [List.all_eq_true]
      intro v hv
      obtain ⟨c, _, rfl⟩ := List.mem_map.1 hv
      rfl
    have hle2 : ((kx + 1 : Nat) : Int) ≤ ((left.length : Nat) : Int) := by omega
    have hKK : (if K = VK.nil then VK.nil else K) = K := by
      split
      · rename_i h; exact h.symm
      · rfl
    have hTL : List.take left.length (left.map ckV) = left.map ckV := List.take_of_length_le (by rw [List.length_map]; exact Nat.le_refl _)
    have hT : List.take kx (left.map ckV) = (left.take kx).map ckV := List.map_take.symm
    have hD : List.drop (kx + 1) (left.map ckV) = (left.drop (kx + 1)).map ckV := List.map_drop.symm
    obtain ⟨out1, σ1, a1, a2, a3⟩ := app_two (σ := σ) (e := tyCk) (.vs K ((left.take kx).map ckV)) (((left.take kx).map ckC).flatten) (((left.drop (kx + 1)).map ckC).flatten) kx (left.length - (kx + 1)) (by have h := source_cksV (σ.push (.row 4 true [])) K (left.take kx); rw [List.length_take, Nat.min_eq_left (by omega)] at h; exact h) (by rw [ckC_flat, List.length_take, Nat.min_eq_left (by omega)]; rfl) (by rw [ckC_flat, List.length_drop]; rfl) (ckC_one _) (ckC_one _) (by decide) (by decide) (by decide) (by simp only [tyCk, mostBytes]; omega)
    obtain ⟨r2, cap2, σ2, b1, b2, b3, b4, b5, b6⟩ := a3 (.vs K ((left.drop (kx + 1)).map ckV)) (by have h := source_cksV σ1 K (left.drop (kx + 1)); rw [List.length_drop] at h; exact h)
    simp only [tyCk, TyI.isAgg] at a1 b1
    refine ⟨_, σ2, .slice r2 0 (kx + (left.length - (kx + 1))) cap2 4, by
      simp only [roundO, loopO, bodyOf, Tryz.f4, Option.getD_some, flatC, innerC, stmtC, List.append_assoc, runOps, runD, again, step1, wantA, opSem, evalO, evalL, evalOpt, evalParts, putA, ofConst, ofScalar, ofScalars, abin, abinInt, aun, convA, builtinA, oneTy, elemTy, loadA, storeA, storeCellsA, setAt, partA, fillA, placesA, isFn, TyI.isAgg, isSeq, isNum, sliceA, boundA, setParams, minL, minF, maxL, maxF, repZ, reduceIte, Nat.reduceLT, Nat.reduceLeDiff, Nat.reduceEqDiff, Nat.reduceAdd, Nat.reduceMul, Nat.reduceSub, Nat.reduceBEq, Int.reduceEq, Int.reduceLT, Int.reduceLE, Int.reduceToNat, reduceCtorEq, sx, fx4, t3, t9, hw, hall, List.length_map, Int.natCast_nonneg, Int.toNat_natCast, hle, hle2, hKK, hTL, hT, hD, a1, b1]
      rfl, ?_, .inr ⟨r2, cap2, by rw [hel], by omega, b4, by rw [← erase_flat]; exact b5⟩, fun r' c' e h => ?_, b2, fun t ht => ?_⟩
    · simp only [Tr.get_set, Nat.reduceEqDiff, reduceIte]
    · simp only [AVal.slice.injEq] at e
      rw [← e.2.2.2.1]
      exact b6 (by omega)
    · simp only [List.mem_cons, List.not_mem_nil, or_false] at ht
      rcases ht with rfl | rfl | rfl | rfl | rfl | rfl | rfl | rfl | rfl <;> simp only [Tr.get_set, Nat.reduceEqDiff, reduceIte]
  · obtain rfl : cap = none := hn r cap rfl (by omega)
    have s1 : ∀ (σ : AMem) (kk : IntKind), sliceM σ 4 r 0 left.length none 4 none (some (.int kk (kx : Nat))) none = some (.slice r 0 kx none 4) := fun σ kk => slice_to (by omega)
    have s2 : ∀ (σ : AMem) (kk : IntKind), sliceM σ 4 r 0 left.length none 4 (some (.int kk ((kx + 1 : Nat) : Int))) none none = some (.slice r ((kx + 1) * 4) (left.length - (kx + 1)) none 4) := fun σ kk => by
      have := slice_from (σ := σ) (sz := 4) (r := r) (off := 0) (n := left.length) (i := kx + 1) (z := 4) (k := kk) (by omega)
      rw [Nat.zero_add] at this
      exact this
    have hfl := ckC_flat left
    have hqr : ¬ σ.next = r := by omega
    have hA : sourceA 4 (σ.push (.row 4 true [])) (.slice r 0 kx none 4) = some (((left.take kx).map ckC).flatten, kx) := by
      have hg : (σ.push (.row 4 true [])).get r = some (.row 4 true (left.map ckC).flatten) := by rw [AMem.get_push, if_neg hqr]; exact hr
      simp only [sourceA, hg]
      rw [if_pos (by omega), List.drop_zero]
      have := flat_take (sz := 4) (i := kx) (more := []) (ck_four left) (by rw [List.length_map]; omega)
      rw [List.append_nil] at this
      rw [this, List.map_take]
    obtain ⟨out1, σ1, a1, a2, a3⟩ := app_two (σ := σ) (e := tyCk) (.slice r 0 kx none 4) (((left.take kx).map ckC).flatten) (((left.drop (kx + 1)).map ckC).flatten) kx (left.length - (kx + 1)) hA (by rw [ckC_flat, List.length_take, Nat.min_eq_left (by omega)]; rfl) (by rw [ckC_flat, List.length_drop]; rfl) (ckC_one _) (ckC_one _) (by decide) (by decide) (by decide) (by simp only [tyCk, mostBytes]; omega)
    obtain ⟨r2, cap2, σ2, b1, b2, b3, b4, b5, b6⟩ := a3 (.slice r ((kx + 1) * 4) (left.length - (kx + 1)) none 4) (by
      have hg : σ1.get r = some (.row 4 true (left.map ckC).flatten) := by rw [a2.2 r hr2]; exact hr
      show sourceA 4 σ1 _ = _
      simp only [sourceA, hg]
      rw [if_pos (by omega)]
      have := flat_drop (sz := 4) (i := kx + 1) (more := []) (ck_four left) (by rw [List.length_map]; omega)
      rw [List.append_nil, List.append_nil] at this
      rw [this, ← List.map_drop, List.take_of_length_le (by rw [ckC_flat, List.length_drop]; omega)])
    simp only [tyCk, TyI.isAgg] at a1 b1
    refine ⟨_, σ2, .slice r2 0 (kx + (left.length - (kx + 1))) cap2 4, by
      simp only [roundO, loopO, bodyOf, Tryz.f4, Option.getD_some, flatC, innerC, stmtC, List.append_assoc, runOps, runD, again, step1, wantA, opSem, evalO, evalL, evalOpt, evalParts, putA, ofConst, ofScalar, ofScalars, abin, abinInt, aun, convA, builtinA, oneTy, elemTy, loadA, storeA, storeCellsA, setAt, partA, fillA, placesA, isFn, TyI.isAgg, isSeq, isNum, sliceA, boundA, setParams, minL, minF, maxL, maxF, repZ, reduceIte, Nat.reduceLT, Nat.reduceLeDiff, Nat.reduceEqDiff, Nat.reduceAdd, Nat.reduceMul, Nat.reduceSub, Nat.reduceBEq, Int.reduceEq, Int.reduceLT, Int.reduceLE, Int.reduceToNat, reduceCtorEq, sx, fx4, t3, t9, hw, s1, s2, a1, b1]
      rfl, ?_, .inr ⟨r2, cap2, by rw [hel], by omega, b4, by rw [← erase_flat]; exact b5⟩, fun r' c' e h => ?_, b2, fun t ht => ?_⟩
    · simp only [Tr.get_set, Nat.reduceEqDiff, reduceIte]
    · simp only [AVal.slice.injEq] at e
      rw [← e.2.2.2.1]
      exact b6 (by omega)
    · simp only [List.mem_cons, List.not_mem_nil, or_false] at ht
      rcases ht with rfl | rfl | rfl | rfl | rfl | rfl | rfl | rfl | rfl <;> simp only [Tr.get_set, Nat.reduceEqDiff, reduceIte]
end Go.Proofs.YtkamjhhodnmoiaaGreatDoor

/- PackOnce: a round, put together. -/
set_option maxRecDepth 100000
set_option linter.unusedSimpArgs false
set_option linter.unusedVariables false
namespace Go.Proofs.YtkamjhhodnmoiaaGreatDoor
open Go Go.Proofs.YtkamjhhodnmoiaaGreatDoor.Pale
variable {k : Nat} {σ : AMem}

theorem exec_split {A : AProg} {call : CallA} {f N : Nat} {T T' : Tr AVal} {σ σ' : AMem} {a b : Code} (h : execC A call k f N (.seq a b) T σ = some (.normal, T', σ')) : ∃ T1 σ1, execC A call k f N a T σ = some (.normal, T1, σ1) ∧ execC A call k f N b T1 σ1 = some (.normal, T', σ') := by
  rw [q_seq] at h
  cases hx : execC A call k f N a T σ with
  | none => rw [hx] at h; cases h
  | some r =>
    obtain ⟨e, T1, σ1⟩ := r
    rw [hx] at h
    cases e with
    | normal => exact ⟨T1, σ1, rfl, h⟩
    | _ => cases h
theorem round_form : roundO = .seq (stmtC roundO 0) (.seq (.seq (stmtC roundO 1) (stmtC roundO 2)) (.seq (stmtC roundO 3) (.seq (.seq (stmtC roundO 4) (stmtC roundO 5)) (.seq (stmtC roundO 6) (.seq (stmtC roundO 7) (.seq (stmtC roundO 8) restO)))))) := rfl
theorem zero_runs (T : Tr AVal) : ∃ T', execC lawProg (callN lawProg k) k 4 157 (stmtC roundO 8) T σ = some (.normal, T', σ) ∧ T'.get 14 = some (.int .i64 ((0 : Nat) : Int)) ∧ ∀ t, t ∈ [1, 3, 4, 6, 7, 8, 10, 11, 12, 13] → T'.get t = T.get t := by
  refine ⟨_, by
    simp only [roundO, loopO, bodyOf, Tryz.f4, Option.getD_some, flatC, innerC, stmtC, List.append_assoc, runOps, runD, again, step1, wantA, opSem, evalO, evalL, evalOpt, evalParts, putA, ofConst, ofScalar, ofScalars, abin, abinInt, aun, convA, builtinA, oneTy, elemTy, loadA, storeA, storeCellsA, setAt, partA, fillA, placesA, isFn, TyI.isAgg, isSeq, isNum, sliceA, boundA, setParams, minL, minF, maxL, maxF, repZ, reduceIte, Nat.reduceLT, Nat.reduceLeDiff, Nat.reduceEqDiff, Nat.reduceAdd, Nat.reduceMul, Nat.reduceSub, Nat.reduceBEq, Int.reduceEq, Int.reduceLT, Int.reduceLE, Int.reduceToNat, reduceCtorEq, sx, fx4]
    rfl, ?_, fun t ht => ?_⟩
  · simp only [Tr.get_set, Nat.reduceEqDiff, reduceIte]; rfl
  · simp only [List.mem_cons, List.not_mem_nil, or_false] at ht
    rcases ht with rfl | rfl | rfl | rfl | rfl | rfl | rfl | rfl | rfl | rfl <;> simp only [Tr.get_set, Nat.reduceEqDiff, reduceIte]
theorem msgOf_get {all : List Part} {j : Nat} (hj : j < all.length) : msgOf all j = all[j].2 := by
  unfold msgOf
  rw [List.getElem?_eq_getElem hj]
  rfl
theorem round_once {all : List Part} {s z i : Nat} {kl kw KA : VK} {ms : List AVal} {way : List Nat} {cap : Option Nat} {left : List Ck} {shs : List Sh} {T : Tr AVal} (st : OnceSt all s [.int .u8 (z : Nat), .vs kl ms, .vs kw (bytesV way)] KA kw way cap i left shs T σ) (h0 : 0 < left.length) (hl : left.length ≤ 1000) (hway : ∀ b, b ∈ way → b < 256) (hi : i ≤ 1000) (hm : all.length ≤ 4) (hs1 : 1 ≤ s) (hs2 : s ≤ 100) (hfull : ∀ j, j < all.length → (msgOf all j).length ≠ 0 ∧ manyM all s j ≤ 200) (hk : 5000 ≤ k) :
    ∃ T' σ' left' shs', execC lawProg (callN lawProg k) k 4 157 roundO T σ = some (.normal, T', σ') ∧ left'.length + 1 = left.length ∧ OnceSt all s [.int .u8 (z : Nat), .vs kl ms, .vs kw (bytesV way)] KA kw way cap i left' shs' T' σ' := by
  obtain ⟨t1, ⟨lv, t3, hv, hn⟩, t4, t6, t7, t8, g0, g1, ⟨lk, g2⟩, nx, lo, oo⟩ := st
  obtain ⟨kx, hkx, T1, p1, p9, pk⟩ := pick_runs (k := k) hv h0 hl hway hi t1 t3 t8 g0
  obtain ⟨T0, σ0, p1a, p1b⟩ := exec_split p1
  obtain ⟨T2, σ2, q1, q10, qx, qn, qg, qk⟩ := take_runs (k := k) hv hkx ((pk 3 (by decide)).trans t3) p9
  obtain ⟨j, a, hj, ha, hc⟩ := lo.1 _ (List.getElem_mem hkx)
  obtain ⟨hf1, hf2⟩ := hfull j hj
  obtain ⟨L, bs, kb, hadd, hsrt, oo', hb1, hb2⟩ := once_add oo lo hm hs1 hs2 hkx hc hj ha hf2 hk
  rw [hc] at qg
  simp only [ckAt] at qg
  have hdl : (partOf (msgOf all j) s a).length ≤ 1000 := by
    have := (cks_ok ha (name := (j : Nat)) (by omega) hs1 hs2 hf2).2.2.2.2
    omega
  obtain ⟨T3, σ3, r1, r11, r12, r13, rx, rn, rg, rk⟩ := put_runs (σ := σ2) (c := σ.next) hj hdl ((qk 4 (by decide)).trans ((pk 4 (by decide)).trans t4)) ((qk 7 (by decide)).trans ((pk 7 (by decide)).trans t7)) q10 qg ((qx.2 2 (by omega)).trans g2) oo.1 hk (by omega) (by omega) hadd
  obtain ⟨Ta, σa, ra, rb⟩ := exec_split r1
  have x3 : Ext σ σ3 := qx.trans rx
  have hv3 : LeftV σ3 3 lv left := hv.same x3.1 fun r _ h => x3.2 r h
  have u3 : ∀ {t : Nat} {v : AVal}, t ∈ [1, 3, 4, 6, 7, 8] → T.get t = some v → T3.get t = some v := fun {t v} ht h => by
    rw [rk t (by simp only [List.mem_cons, List.not_mem_nil, or_false] at ht ⊢; omega), qk t (by simp only [List.mem_cons, List.not_mem_nil, or_false] at ht ⊢; omega), pk t ht]
    exact h
  obtain ⟨T4, σ4, lv', s1, s3, s4, s5, sx, sk⟩ := left_runs (k := k) hv3 hn (by have := x3.1; omega) hkx hl (u3 (by decide) t3) ((rk 9 (by decide)).trans ((qk 9 (by decide)).trans p9))
  obtain ⟨T5, z1, z14, zk⟩ := zero_runs (k := k) (σ := σ4) T4
  have x4 : Ext σ σ4 := x3.trans sx
  have u5 : ∀ {t : Nat} {v : AVal}, t ∈ [1, 4, 6, 7, 8] → T.get t = some v → T5.get t = some v := fun {t v} ht h => by
    rw [zk t (by simp only [List.mem_cons, List.not_mem_nil, or_false] at ht ⊢; omega), sk t (by simp only [List.mem_cons, List.not_mem_nil, or_false] at ht ⊢; omega)]
    exact u3 (by simp only [List.mem_cons, List.not_mem_nil, or_false] at ht ⊢; omega) h
  have w5 : ∀ {t : Nat} {v : AVal}, t ∈ [10, 11, 12, 13] → T3.get t = some v → T5.get t = some v := fun {t v} ht h => by
    rw [zk t (by simp only [List.mem_cons, List.not_mem_nil, or_false] at ht ⊢; omega), sk t (by simp only [List.mem_cons, List.not_mem_nil, or_false] at ht ⊢; omega)]
    exact h
  have hhas : hasL left j = true := by
    unfold hasL
    rw [List.any_eq_true]
    exact ⟨left[kx], List.getElem_mem hkx, by rw [hc]; simp [ckAt]⟩
  have hel : (left.eraseIdx kx).length + 1 = left.length := by rw [List.length_eraseIdx, if_pos hkx]; omega
  obtain ⟨e, T6, σ6, w1, rfl, w2, wk⟩ := rest_runs (k := k) (σ := σ4) (low := 3) (c := σ.next) (nx := σ2.next) (cells := cameC all.length left) s4 (by omega) (by omega) ((zk 3 (by decide)).trans s3) (u5 (by decide) t4) (u5 (by decide) t6) (u5 (by decide) t7) (w5 (by decide) ((rk 10 (by decide)).trans q10)) (w5 (by decide) r11) hj (w5 (by decide) r12) hb1 (fun h => by rw [hb2 h, msgOf_get hj]) (by rw [← msgOf_get hj]; exact hf1) (w5 (by decide) r13) z14
    ((sx.2 _ (by omega)).trans ((rx.2 _ (by omega)).trans qg)) ((sx.2 _ (by omega)).trans rg) ((x4.2 2 (by omega)).trans g2) ((x4.2 1 (by omega)).trans g1) (by unfold cameC; rw [List.getElem?_map, List.getElem?_range hj]; simp [hhas]) (by simp [cameC]) (by omega) (by omega) hsrt
  refine ⟨T6, σ6, left.eraseIdx kx, L, ?_, hel, ?_⟩
  · rw [round_form, exec_seq p1a, exec_seq p1b, exec_seq q1, exec_seq ra, exec_seq rb, exec_seq s1, exec_seq z1]
    exact w1
  · have hget : ∀ r, r ≠ 1 → r ≠ 2 → σ6.get r = σ4.get r := fun r e1 e2 => by
      rw [w2, AMem.get_put, if_neg (Ne.symm e2)]
      split
      · rfl
      · rw [AMem.get_put, if_neg (Ne.symm e1)]
    have hnx : σ6.next = σ4.next := by
      rw [w2, AMem.next_put]
      split <;> rfl
    refine ⟨(wk 1 (by decide)).trans (u5 (by decide) t1), ⟨lv', (wk 3 (by decide)).trans ((zk 3 (by decide)).trans s3), s4.same (by omega) fun r h1 _ => hget r (by omega) (by omega), s5⟩, (wk 4 (by decide)).trans (u5 (by decide) t4), (wk 6 (by decide)).trans (u5 (by decide) t6), (wk 7 (by decide)).trans (u5 (by decide) t7), (wk 8 (by decide)).trans (u5 (by decide) t8), (hget 0 (by omega) (by omega)).trans ((x4.2 0 (by omega)).trans g0), ?_, ⟨.some, by rw [w2, AMem.get_put, if_pos rfl]⟩, by have := x4.1; omega, lo.erase kx, oo'⟩
    rw [came_step lo hkx hc ha, w2, AMem.get_put, if_neg (by omega)]
    split
    · exact (x4.2 1 (by omega)).trans g1
    · rw [AMem.get_put, if_pos rfl]
end Go.Proofs.YtkamjhhodnmoiaaGreatDoor

/- The law PackOnce: whatever messages, and in whatever order their chunks come, it gives true. -/
set_option maxRecDepth 100000
set_option linter.unusedSimpArgs false
set_option linter.unusedVariables false
namespace Go.Proofs.YtkamjhhodnmoiaaGreatDoor
open Go Go.Proofs.YtkamjhhodnmoiaaGreatDoor.Pale
variable {k : Nat} {σ : AMem}

theorem loop_form : loopO = .seq (.seq (stmtC loopO 0) (stmtC loopO 1)) (.seq (.block 1 roundO) (stmtC loopO 3)) := rfl
theorem head_runs {T : Tr AVal} {lv : AVal} {left : List Ck} (hv : LeftV σ 3 lv left) (t3 : T.get 3 = some lv) (h0 : 0 < left.length) : ∃ T', execC lawProg (callN lawProg k) k 4 157 (.seq (stmtC loopO 0) (stmtC loopO 1)) T σ = some (.normal, T', σ) ∧ ∀ t, t ∈ [1, 3, 4, 6, 7, 8] → T'.get t = T.get t := by
  have hlen := hv.len
  have hgt : ((left.length : Nat) : Int) > 0 := by omega
  refine ⟨_, by
    simp only [loopO, bodyOf, Tryz.f4, Option.getD_some, flatC, innerC, stmtC, List.append_assoc, runOps, runD, again, step1, wantA, opSem, evalO, evalL, evalOpt, evalParts, putA, ofConst, ofScalar, ofScalars, abin, abinInt, aun, convA, builtinA, oneTy, elemTy, loadA, storeA, storeCellsA, setAt, partA, fillA, placesA, isFn, TyI.isAgg, isSeq, isNum, sliceA, boundA, setParams, minL, minF, maxL, maxF, repZ, reduceIte, Nat.reduceLT, Nat.reduceLeDiff, Nat.reduceEqDiff, Nat.reduceAdd, Nat.reduceMul, Nat.reduceSub, Nat.reduceBEq, Int.reduceEq, Int.reduceLT, Int.reduceLE, Int.reduceToNat, reduceCtorEq, sx, fx4, t3, hlen, hgt]
    rfl, fun t ht => ?_⟩
  simp only [List.mem_cons, List.not_mem_nil, or_false] at ht
  rcases ht with rfl | rfl | rfl | rfl | rfl | rfl <;> simp only [Tr.get_set, Nat.reduceEqDiff, reduceIte]
theorem head_stops {T : Tr AVal} {lv : AVal} (hv : LeftV σ 3 lv []) (t3 : T.get 3 = some lv) : ∃ T', execC lawProg (callN lawProg k) k 4 157 (.seq (stmtC loopO 0) (stmtC loopO 1)) T σ = some (.exit 0, T', σ) ∧ ∀ t, t ∈ [1, 3, 4, 6, 7, 8] → T'.get t = T.get t := by
  have hlen := hv.len
  have hgt : ¬ (((0 : Nat) : Int) > 0) := by omega
  simp only [List.length_nil] at hlen
  refine ⟨_, by
    simp only [loopO, bodyOf, Tryz.f4, Option.getD_some, flatC, innerC, stmtC, List.append_assoc, runOps, runD, again, step1, wantA, opSem, evalO, evalL, evalOpt, evalParts, putA, ofConst, ofScalar, ofScalars, abin, abinInt, aun, convA, builtinA, oneTy, elemTy, loadA, storeA, storeCellsA, setAt, partA, fillA, placesA, isFn, TyI.isAgg, isSeq, isNum, sliceA, boundA, setParams, minL, minF, maxL, maxF, repZ, reduceIte, Nat.reduceLT, Nat.reduceLeDiff, Nat.reduceEqDiff, Nat.reduceAdd, Nat.reduceMul, Nat.reduceSub, Nat.reduceBEq, Int.reduceEq, Int.reduceLT, Int.reduceLE, Int.reduceToNat, reduceCtorEq, sx, fx4, t3, hlen, hgt]
    rfl, fun t ht => ?_⟩
  simp only [List.mem_cons, List.not_mem_nil, or_false] at ht
  rcases ht with rfl | rfl | rfl | rfl | rfl | rfl <;> simp only [Tr.get_set, Nat.reduceEqDiff, reduceIte]
theorem foot_runs {T : Tr AVal} {i : Nat} (hi : i ≤ 1000) (t8 : T.get 8 = some (.int .i64 (i : Nat))) : ∃ T', execC lawProg (callN lawProg k) k 4 157 (stmtC loopO 3) T σ = some (.normal, T', σ) ∧ T'.get 8 = some (.int .i64 ((i + 1 : Nat) : Int)) ∧ ∀ t, t ∈ [1, 3, 4, 6, 7] → T'.get t = T.get t := by
  have hw := i64_succ (i := i) (by omega)
  refine ⟨_, by
    simp only [loopO, bodyOf, Tryz.f4, Option.getD_some, flatC, innerC, stmtC, List.append_assoc, runOps, runD, again, step1, wantA, opSem, evalO, evalL, evalOpt, evalParts, putA, ofConst, ofScalar, ofScalars, abin, abinInt, aun, convA, builtinA, oneTy, elemTy, loadA, storeA, storeCellsA, setAt, partA, fillA, placesA, isFn, TyI.isAgg, isSeq, isNum, sliceA, boundA, setParams, minL, minF, maxL, maxF, repZ, reduceIte, Nat.reduceLT, Nat.reduceLeDiff, Nat.reduceEqDiff, Nat.reduceAdd, Nat.reduceMul, Nat.reduceSub, Nat.reduceBEq, Int.reduceEq, Int.reduceLT, Int.reduceLE, Int.reduceToNat, reduceCtorEq, sx, fx4, t8, hw]
    rfl, ?_, fun t ht => ?_⟩
  · simp only [Tr.get_set, Nat.reduceEqDiff, reduceIte]
  · simp only [List.mem_cons, List.not_mem_nil, or_false] at ht
    rcases ht with rfl | rfl | rfl | rfl | rfl <;> simp only [Tr.get_set, Nat.reduceEqDiff, reduceIte]
theorem exec_block {A : AProg} {call : CallA} {f N n : Nat} {T T' : Tr AVal} {σ σ' : AMem} {c : Code} (h : execC A call k f N c T σ = some (.normal, T', σ')) : execC A call k f N (.block n c) T σ = some (.normal, T', σ') := by
  rw [q_block, h]
theorem OnceSt.upto {all : List Part} {s : Nat} {mail : List AVal} {KA kw : VK} {way : List Nat} {cap : Option Nat} {i i' : Nat} {left : List Ck} {shs : List Sh} {T T' : Tr AVal} (st : OnceSt all s mail KA kw way cap i left shs T σ) (h8 : T'.get 8 = some (.int .i64 (i' : Nat))) (hk : ∀ t, t ∈ [1, 3, 4, 6, 7] → T'.get t = T.get t) : OnceSt all s mail KA kw way cap i' left shs T' σ := by
  obtain ⟨lv, t3, hv⟩ := st.t3
  exact ⟨(hk 1 (by decide)).trans st.t1, ⟨lv, (hk 3 (by decide)).trans t3, hv⟩, (hk 4 (by decide)).trans st.t4, (hk 6 (by decide)).trans st.t6, (hk 7 (by decide)).trans st.t7, h8, st.g0, st.g1, st.g2, st.nx, st.lo, st.oo⟩
/-- The rounds. -/
theorem rounds_runs {all : List Part} {s z : Nat} {kl kw KA : VK} {ms : List AVal} {way : List Nat} {cap : Option Nat} {left : List Ck} {T : Tr AVal} (st : OnceSt all s [.int .u8 (z : Nat), .vs kl ms, .vs kw (bytesV way)] KA kw way cap 0 left [] T σ) (hl : left.length ≤ 40) (hway : ∀ b, b ∈ way → b < 256) (hm : all.length ≤ 4) (hs1 : 1 ≤ s) (hs2 : s ≤ 100) (hfull : ∀ j, j < all.length → (msgOf all j).length ≠ 0 ∧ manyM all s j ≤ 200) (hk : 5000 ≤ k) :
    ∃ T' σ', execC lawProg (callN lawProg k) k 4 157 (.loop loopO) T σ = some (.exit 0, T', σ') ∧ ∃ i, OnceSt all s [.int .u8 (z : Nat), .vs kl ms, .vs kw (bytesV way)] KA kw way cap i [] [] T' σ' := by
  suffices key : ∃ e T' σ', execC lawProg (callN lawProg k) k 4 157 (.loop loopO) T σ = some (e, T', σ') ∧ e ≠ .normal ∧ (e = .exit 0 ∧ ∃ i, OnceSt all s [.int .u8 (z : Nat), .vs kl ms, .vs kw (bytesV way)] KA kw way cap i [] [] T' σ') by
    obtain ⟨e, T', σ', h1, _, rfl, h2⟩ := key
    exact ⟨T', σ', h1, h2⟩
  refine exec_loop2 (fun i T σ => ∃ left' shs, left'.length + i = left.length ∧ OnceSt all s [.int .u8 (z : Nat), .vs kl ms, .vs kw (bytesV way)] KA kw way cap i left' shs T σ) left.length (by omega) ?_ ?_ ⟨left, [], by omega, st⟩
  · rintro i hi T1 σ1 ⟨left', shs, hlen, st1⟩
    refine .inl ?_
    obtain ⟨lv, t3, hv, hn⟩ := st1.t3
    obtain ⟨T2, a1, ak⟩ := head_runs (k := k) hv t3 (by omega)
    have st2 := st1.upto (i' := i) ((ak 8 (by decide)).trans st1.t8) fun t ht => ak t (by simp only [List.mem_cons, List.not_mem_nil, or_false] at ht ⊢; omega)
    obtain ⟨T3, σ3, left3, shs3, b1, b2, st3⟩ := round_once (k := k) st2 (by omega) (by omega) hway (by omega) hm hs1 hs2 hfull hk
    obtain ⟨T4, c1, c8, ck⟩ := foot_runs (k := k) (σ := σ3) (i := i) (by omega) st3.t8
    refine ⟨T4, σ3, ?_, left3, shs3, by omega, st3.upto c8 ck⟩
    rw [loop_form, exec_seq a1, exec_seq (exec_block b1)]
    exact c1
  · rintro T1 σ1 ⟨left', shs, hlen, st1⟩
    obtain rfl : left' = [] := List.eq_nil_of_length_eq_zero (by omega)
    obtain ⟨lv, t3, hv, hn⟩ := st1.t3
    obtain ⟨T2, a1, ak⟩ := head_stops (k := k) hv t3
    have h0 := once_end st1.oo hs1
    subst h0
    refine ⟨_, T2, σ1, ?_, by simp, rfl, left.length, st1.upto ((ak 8 (by decide)).trans st1.t8) fun t ht => ak t (by simp only [List.mem_cons, List.not_mem_nil, or_false] at ht ⊢; omega)⟩
    rw [loop_form, q_seq, a1]
theorem came_start {s most : Nat} {acc : List Ck × List Part} (h : FullOk s most acc) (hs1 : 1 ≤ s) : cameC acc.2.length acc.1 = List.replicate acc.2.length (.int .i64 0) := by
  unfold cameC
  rw [List.eq_replicate_iff]
  refine ⟨by simp, fun b hb => ?_⟩
  obtain ⟨j, hj, rfl⟩ := List.mem_map.1 hb
  rw [List.mem_range] at hj
  obtain ⟨h1, _, h3⟩ := h.2.1 j hj
  have hp : 0 < manyM acc.2 s j := (many_lt hs1).2 (by omega)
  have := h3 0 hp
  have hh : hasL acc.1 j = true := by
    unfold inL at this
    unfold hasL
    rw [List.any_eq_true] at this ⊢
    obtain ⟨c, hc, e⟩ := this
    exact ⟨c, hc, by simp only [Bool.and_eq_true] at e; exact e.1⟩
  rw [hh]
  rfl
theorem came_end (n : Nat) : cameC n [] = List.replicate n (.int .i64 1) := by
  unfold cameC
  rw [List.eq_replicate_iff]
  refine ⟨by simp, fun b hb => ?_⟩
  obtain ⟨j, hj, rfl⟩ := List.mem_map.1 hb
  rfl
theorem repZ_one (v : AVal) : ∀ n, repZ [v] n = List.replicate n v := by
  intro n
  induction n with
  | zero => rfl
  | succ n ih => rw [List.replicate_succ, ← ih]; rfl
theorem once_run (z : Nat) (hz : z < 256) (kl kw : VK) (ms : List Part) (way : List Nat) (hway : ∀ b, b ∈ way → b < 256) (hms : ms.length ≤ 9223372036854775807) (hk : 7000 + ms.length ≤ k) : ∃ σ', callN lawProg (k + 1) (.func 4 [] []) [.agg [.int .u8 (z : Nat), .vs kl (ms.map partV), .vs kw (bytesV way)]] AMem.empty = some (.bool true, σ') := by
  have run : ∃ T1 σ1, execC lawProg (callN lawProg k) k 4 157 (bodyOf Tryz.f4) (initT 0 [.agg [.int .u8 (z : Nat), .vs kl (ms.map partV), .vs kw (bytesV way)]] .nil) AMem.empty = some (.ret, T1, σ1) ∧ T1.get 2 = some (.bool true) := by
    have hch0 := fun (σ : AMem) => mailChunks_call (k := k) (σ := σ) z hz kl kw ms way 4 (by omega) hms (by omega)
    obtain ⟨s, hs⟩ : ∃ s, s = z % 100 + 1 := ⟨_, rfl⟩
    rw [← hs] at hch0
    have hf := mail_full s 4 ms
    obtain ⟨acc, hacc⟩ : ∃ acc, acc = mailL s 4 ms := ⟨_, rfl⟩
    rw [← hacc] at hch0 hf
    obtain ⟨left, all⟩ := acc
    simp only at hch0
    obtain ⟨K, hK⟩ : ∃ K, K = lkOf left.length := ⟨_, rfl⟩
    obtain ⟨KA, hKA⟩ : ∃ K, K = lkOf all.length := ⟨_, rfl⟩
    rw [← hK, ← hKA] at hch0
    have hall : all.length ≤ 4 := hf.2.2.1
    have hleft : left.length ≤ 40 := hf.2.2.2
    by_cases h0 : (all.length : Int) > 0
    · have hd : decide ((all.length : Int) > 0) = true := decide_eq_true h0
      simp only [hd] at hch0
      have hch : ∀ σ : AMem, pureCall lawProg (callN lawProg k) (.func 17 [] []) [.agg [.int .u8 (z : Nat), .vs kl (ms.map partV), .vs kw (bytesV way)], .int .i64 4] σ = some (.tuple [.vs K (left.map ckV), .vs KA (all.map partV), .bool true], σ) := hch0
      have c2 : ((all.length : Nat) : Int) * ((8 : Nat) : Int) ≤ ((mostBytes : Nat) : Int) := by unfold mostBytes; omega
      have c1 : (0 : Int) ≤ (all.length : Int) ∧ (all.length : Int) ≤ (all.length : Int) ∧ ((all.length : Nat) : Int) * 8 ≤ mostBytes ∧ ((all.length : Nat) : Int) ≤ 9223372036854775807 := by unfold mostBytes; omega
      simp only [bodyOf, Tryz.f4, Option.getD_some, initT, runOps, runD, again, step1, wantA, opSem, evalO, evalL, evalOpt, evalParts, putA, ofConst, ofScalar, ofScalars, abin, abinInt, aun, convA, builtinA, oneTy, elemTy, loadA, storeA, storeCellsA, setAt, partA, fillA, placesA, isFn, TyI.isAgg, isSeq, isNum, sliceA, boundA, setParams, minL, minF, maxL, maxF, repZ, reduceIte, Nat.reduceLT, Nat.reduceLeDiff, Nat.reduceEqDiff, Nat.reduceAdd, Nat.reduceMul, Nat.reduceSub, Nat.reduceBEq, Int.reduceEq, Int.reduceLT, Int.reduceLE, Int.reduceToNat, reduceCtorEq, sx, fx4, hch, List.length_map, c1, c2, repZ_one, Int.toNat_natCast]
      generalize hL : execC _ _ _ _ _ (Code.loop _) _ _ = r
      obtain ⟨T', σ', rfl, i0, st⟩ : ∃ T' σ', r = some (.exit 0, T', σ') ∧ ∃ i, OnceSt all s [.int .u8 (z : Nat), .vs kl (ms.map partV), .vs kw (bytesV way)] KA kw way (some all.length) i [] [] T' σ' := by
        rw [← hL]
        refine rounds_runs (left := left) ⟨?_, ⟨.vs K (left.map ckV), ?_, .inl ⟨K, rfl⟩, fun r cap h => by cases h⟩, ?_, ?_, ?_, ?_, ?_, ?_, ⟨.nil, ?_⟩, ?_, hf.1, once_start hf⟩ hleft hway hall (by omega) (by omega) (fun j hj => ⟨(hf.2.1 j hj).1, (hf.2.1 j hj).2.1⟩) (by omega)
        · simp only [Tr.get_set, Nat.reduceEqDiff, reduceIte]
        · simp only [Tr.get_set, Nat.reduceEqDiff, reduceIte]
        · simp only [Tr.get_set, Nat.reduceEqDiff, reduceIte]
        · simp only [Tr.get_set, Nat.reduceEqDiff, reduceIte]
        · simp only [Tr.get_set, Nat.reduceEqDiff, reduceIte]
        · simp only [Tr.get_set, Nat.reduceEqDiff, reduceIte]; rfl
        · simp only [AMem.get_put, AMem.get_push, AMem.next_push, next_empty, Nat.reduceAdd, Nat.reduceEqDiff, reduceIte]
        · rw [came_start hf (by omega)]
          simp only [AMem.get_put, AMem.get_push, AMem.next_push, next_empty, Nat.reduceAdd, Nat.reduceEqDiff, reduceIte]
        · simp only [AMem.get_put, AMem.get_push, AMem.next_push, next_empty, Nat.reduceAdd, Nat.reduceEqDiff, reduceIte]; rfl
        · simp [next_empty]
      have t4 := st.t4
      have t6 := st.t6
      have t7 := st.t7
      have g1 := st.g1
      obtain ⟨lk, g2⟩ := st.g2
      rw [came_end] at g1
      simp only [runOps, runD, again, step1, wantA, opSem, evalO, evalL, evalOpt, evalParts, putA, ofConst, ofScalar, ofScalars, abin, abinInt, aun, convA, builtinA, oneTy, elemTy, loadA, storeA, storeCellsA, setAt, partA, fillA, placesA, isFn, TyI.isAgg, isSeq, isNum, sliceA, boundA, setParams, minL, minF, maxL, maxF, repZ, reduceIte, Nat.reduceLT, Nat.reduceLeDiff, Nat.reduceEqDiff, Nat.reduceAdd, Nat.reduceMul, Nat.reduceSub, Nat.reduceBEq, Int.reduceEq, Int.reduceLT, Int.reduceLE, Int.reduceToNat, reduceCtorEq, sx, fx4]
      generalize hL2 : execC _ _ _ _ _ (Code.loop _) _ _ = r
      obtain ⟨e, T2, σ2, rfl, _, rfl, rfl, u7⟩ : ∃ e T2 σ2, r = some (e, T2, σ2) ∧ e ≠ .normal ∧ (e = .exit 4 ∧ σ2 = σ' ∧ T2.get 7 = some (.ptr 2 0)) := by
        rw [← hL2]
        refine exec_loop (fun i T σ => i ≤ all.length ∧ σ = σ' ∧ T.get 6 = some (.slice 1 0 all.length (some all.length) 1) ∧ T.get 7 = some (.ptr 2 0) ∧ T.get 16 = some (.int .i64 (i : Nat))) all.length (by omega) ?_ ?_ ?_
        · rintro i hi T σ ⟨_, rfl, v6, v7, v16⟩
          have hlt : ((i : Nat) : Int) < ((all.length : Nat) : Int) := by omega
          have hw := i64_succ (i := i) (by omega)
          have hget : (List.replicate all.length (AVal.int .i64 1))[i]? = some (.int .i64 1) := by rw [List.getElem?_replicate, if_pos hi]
          have hlen : i < (List.replicate all.length (AVal.int .i64 1)).length := by simpa using hi
          refine ⟨_, _, by
            simp only [runOps, runD, again, step1, wantA, opSem, evalO, evalL, evalOpt, evalParts, putA, ofConst, ofScalar, ofScalars, abin, abinInt, aun, convA, builtinA, oneTy, elemTy, loadA, storeA, storeCellsA, setAt, partA, fillA, placesA, isFn, TyI.isAgg, isSeq, isNum, sliceA, boundA, setParams, minL, minF, maxL, maxF, repZ, reduceIte, Nat.reduceLT, Nat.reduceLeDiff, Nat.reduceEqDiff, Nat.reduceAdd, Nat.reduceMul, Nat.reduceSub, Nat.reduceBEq, Int.reduceEq, Int.reduceLT, Int.reduceLE, Int.reduceToNat, reduceCtorEq, sx, fx4, Nat.add_assoc, Nat.add_eq_left, Nat.left_eq_add, Nat.add_left_cancel_iff, v6, v16, g1, hlt, hget, hi, hlen, hw, Int.toNat_natCast, Int.natCast_nonneg, bne_self_eq_false]
            rfl, by omega, rfl, ?_, ?_, ?_⟩
          · simp only [Tr.get_set, Nat.reduceEqDiff, reduceIte, v6]
          · simp only [Tr.get_set, Nat.reduceEqDiff, reduceIte, v7]
          · simp only [Tr.get_set, Nat.reduceEqDiff, reduceIte]
        · rintro T σ ⟨_, rfl, v6, v7, v16⟩
          have hge : ¬ (((all.length : Nat) : Int) < ((all.length : Nat) : Int)) := by omega
          refine ⟨_, _, _, by
            simp only [runOps, runD, again, step1, wantA, opSem, evalO, evalL, evalOpt, evalParts, putA, ofConst, ofScalar, ofScalars, abin, abinInt, aun, convA, builtinA, oneTy, elemTy, loadA, storeA, storeCellsA, setAt, partA, fillA, placesA, isFn, TyI.isAgg, isSeq, isNum, sliceA, boundA, setParams, minL, minF, maxL, maxF, repZ, reduceIte, Nat.reduceLT, Nat.reduceLeDiff, Nat.reduceEqDiff, Nat.reduceAdd, Nat.reduceMul, Nat.reduceSub, Nat.reduceBEq, Int.reduceEq, Int.reduceLT, Int.reduceLE, Int.reduceToNat, reduceCtorEq, sx, fx4, v6, v16, hge]
            rfl, by simp, rfl, rfl, ?_⟩
          simp only [Tr.get_set, Nat.reduceEqDiff, reduceIte, v7]
        · refine ⟨Nat.zero_le _, rfl, ?_, ?_, ?_⟩
          · simp only [Tr.get_set, Nat.reduceEqDiff, reduceIte, t6]
          · simp only [Tr.get_set, Nat.reduceEqDiff, reduceIte, t7]
          · simp only [Tr.get_set, Nat.reduceEqDiff, reduceIte]; rfl
      simp only [runOps, runD, again, step1, wantA, opSem, evalO, evalL, evalOpt, evalParts, putA, ofConst, ofScalar, ofScalars, abin, abinInt, aun, convA, builtinA, oneTy, elemTy, loadA, storeA, storeCellsA, setAt, partA, fillA, placesA, isFn, TyI.isAgg, isSeq, isNum, sliceA, boundA, setParams, minL, minF, maxL, maxF, repZ, reduceIte, Nat.reduceLT, Nat.reduceLeDiff, Nat.reduceEqDiff, Nat.reduceAdd, Nat.reduceMul, Nat.reduceSub, Nat.reduceBEq, Int.reduceEq, Int.reduceLT, Int.reduceLE, Int.reduceToNat, reduceCtorEq, sx, fx4, u7, g2, awake_call, List.map_nil, show (((0 : Nat) : Int) == 0) = true from rfl]
      exact ⟨_, _, rfl, by simp only [Tr.get_set, Nat.reduceEqDiff, reduceIte]⟩
    · have hd : decide ((all.length : Int) > 0) = false := decide_eq_false h0
      simp only [hd] at hch0
      have hch : ∀ σ : AMem, pureCall lawProg (callN lawProg k) (.func 17 [] []) [.agg [.int .u8 (z : Nat), .vs kl (ms.map partV), .vs kw (bytesV way)], .int .i64 4] σ = some (.tuple [.vs K (left.map ckV), .vs KA (all.map partV), .bool false], σ) := hch0
      simp only [bodyOf, Tryz.f4, Option.getD_some, initT, runOps, runD, again, step1, wantA, opSem, evalO, evalL, evalOpt, evalParts, putA, ofConst, ofScalar, ofScalars, abin, abinInt, aun, convA, builtinA, oneTy, elemTy, loadA, storeA, storeCellsA, setAt, partA, fillA, placesA, isFn, TyI.isAgg, isSeq, isNum, sliceA, boundA, setParams, minL, minF, maxL, maxF, repZ, reduceIte, Nat.reduceLT, Nat.reduceLeDiff, Nat.reduceEqDiff, Nat.reduceAdd, Nat.reduceMul, Nat.reduceSub, Nat.reduceBEq, Int.reduceEq, Int.reduceLT, Int.reduceLE, Int.reduceToNat, reduceCtorEq, sx, fx4, hch, awake_call]
      exact ⟨_, _, rfl, by simp only [Tr.get_set, Nat.reduceEqDiff, reduceIte]⟩
  obtain ⟨T1, σ1, h1, h2⟩ := run
  exact ⟨σ1, q_call (first := []) (caps := []) fn4 rfl (by simp [Tryz.f4]) h1 (by simp) (res_one h2)⟩
end Go.Proofs.YtkamjhhodnmoiaaGreatDoor

