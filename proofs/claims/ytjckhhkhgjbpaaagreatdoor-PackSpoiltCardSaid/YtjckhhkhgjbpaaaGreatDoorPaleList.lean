/- Lists that grow by one value at a time; how they read. -/
import Derived.Test.YtjckhhkhgjbpaaaGreatDoorPaleSym
set_option linter.unusedVariables false
namespace Go.Proofs.YtjckhhkhgjbpaaaGreatDoor.Pale
open Go

def pureB : AVal → Bool
  | .int .. => true
  | .bool _ => true
  | .str _ => true
  | .vs .. => true
  | _ => false
theorem snapL_pure {σ : AMem} (d : Nat) : ∀ (l : List AVal), l.all pureB = true → snapL (snapF false σ (d + 1)) l = some (l, []) := by
  intro l
  induction l with
  | nil => intro _; rfl
  | cons c l ih =>
    intro h
    simp only [List.all_cons, Bool.and_eq_true] at h
    have hc : snapF false σ (d + 1) c = some (c, []) := by
      cases c <;> first | rfl | (simp [pureB] at h)
    simp only [snapL, hc, ih h.2, List.append_nil]
theorem pure_one : ∀ (l : List AVal), l.all pureB = true → l.all AVal.oneCell = true := by
  intro l h
  rw [List.all_eq_true] at h ⊢
  intro x hx
  have := h x hx
  cases x <;> first | rfl | (simp [pureB] at this)

/-- A list that grows by one element that was built as a row of its own. -/
theorem Grew.one {low : Nat} {σ : AMem} {e : TyI} {out : AVal} {j : Nat} {cells xs : List AVal} (h : Grew low σ e.size e.isAgg out j cells) (hlow : low ≤ σ.next) (hlen : xs.length = e.size)
    (hs0 : e.size ≠ 0) (hb0 : e.bytes ≠ 0) (hb1 : e.bytes ≤ 1048576) (hby : (j + 1) * e.bytes ≤ mostBytes) (hone : xs.all AVal.oneCell = true) :
    ∃ σ', appendA e (σ.push (.row e.size e.isAgg xs)) out (.slice σ.next 0 1 (some 1) e.size) = some (.slice (σ.next + 1) 0 (j + 1) none e.size, σ') ∧ Grew low σ' e.size e.isAgg (.slice (σ.next + 1) 0 (j + 1) none e.size) (j + 1) (cells ++ xs) ∧ σ'.next = σ.next + 2 ∧ (∀ s, s < low → σ'.get s = σ.get s) ∧ (∀ s, s < σ.next → out ≠ .slice s 0 j none e.size → σ'.get s = σ.get s) := by
  have hg : Grew low (σ.push (.row e.size e.isAgg xs)) e.size e.isAgg out j cells := by
    obtain ⟨hcl, hcase⟩ := h
    refine ⟨hcl, ?_⟩
    rcases hcase with h | ⟨r, h6, h7, h8, h9⟩
    · exact .inl h
    · exact .inr ⟨r, h6, by simp; omega, h8, by rw [AMem.get_push, if_neg (by omega)]; exact h9⟩
  obtain ⟨σ', h1, h2, h3, h4⟩ := Grew.append2 (x := .slice σ.next 0 1 (some 1) e.size) (xs := xs) (n := 1) hg (by simp; omega) (by
    have : (σ.push (.row e.size e.isAgg xs)).get σ.next = some (.row e.size e.isAgg xs) := by rw [AMem.get_push, if_pos rfl]
    simp only [sourceA, this, List.drop_zero, Nat.zero_add, Nat.one_mul, hlen, Nat.le_refl, if_true]
    rw [← hlen, List.take_length]) (by simpa using hlen) (by simp) hs0 hb0 hb1 hby hone
  have keep : ∀ s, s < σ.next → out ≠ .slice s 0 j none e.size → σ'.get s = σ.get s := fun s hs hne => by
    rw [h4 s (by simp; omega) hne, AMem.get_push, if_neg (by omega)]
  refine ⟨σ', h1, h2, by rw [h3]; simp, fun s hs => keep s (by omega) ?_, keep⟩
  rcases h.2 with ⟨_, rfl⟩ | ⟨r, h6, _, rfl, _⟩
  · intro h; cases h
  · intro h; simp only [AVal.slice.injEq] at h; omega

/-- What a list that grew reads as. -/
def lkOf (n : Nat) : VK := if n = 0 then .nil else .some
theorem snap_grew {σ : AMem} {d low sz j : Nat} {out : AVal} {ls ps : List (List AVal)} {S : List Nat} (h : Grew low σ sz true out j ls.flatten) (h0 : j = 0 → out = .vs .nil []) (hj : j = ls.length) (hsz : 0 < sz) (hps : ps.length = ls.length) (hl : ∀ l, l ∈ ls → l.length = sz) (hp : ∀ l, l ∈ ps → l.length = sz) (hs : snapL (snapF false σ (d + 1)) ls.flatten = some (ps.flatten, S)) :
    ∃ seen, snapF false σ (d + 2) out = some (.vs (lkOf j) (ps.map AVal.agg), seen) := by
  by_cases hz : j = 0
  · rw [h0 hz]
    have : ps = [] := List.eq_nil_of_length_eq_zero (by omega)
    subst this
    subst hz
    exact ⟨[], rfl⟩
  · rcases h.2 with ⟨hj0, rfl⟩ | ⟨r, h1, h2, rfl, h3⟩
    · exact absurd ‹j = 0› hz
    · refine ⟨r :: S, ?_⟩
      rw [show lkOf j = .some by simp [lkOf, hz]]
      exact snap_structs (d := d) (ls := ls) (ps := ps) (S := S) hsz hj hps hl hp h3 hs

theorem mkElems_ones : ∀ (cs : List AVal), cs.all AVal.oneCell = true → mkElems false (chunk 1 cs.length cs) = some cs := by
  intro cs
  induction cs with
  | nil => intro _; rfl
  | cons c cs ih =>
    intro h
    simp only [List.all_cons, Bool.and_eq_true] at h
    simp only [List.length_cons, chunk, List.take_succ_cons, List.take_zero, List.drop_succ_cons, List.drop_zero, mkElems, mkElem, h.1, Bool.false_eq_true, if_false, if_true, ih h.2]
/-- A slice over values of one cell. -/
theorem snap_ones {σ : AMem} {d r n : Nat} {cs more : List AVal} {cap : Option Nat} (hn : n = cs.length) (hp : cs.all pureB = true) (h : σ.get r = some (.row 1 false (cs ++ more))) : snapF false σ (d + 2) (.slice r 0 n cap 1) = some (.vs .some cs, [r]) := by
  subst hn
  have e2 : ((cs ++ more).drop 0).take (cs.length * 1) = cs := by rw [List.drop_zero, Nat.mul_one, List.take_left]
  have e3 : (decide (0 < 1) && decide (0 + cs.length * 1 ≤ (cs ++ more).length)) = true := by simp
  rw [snapF]
  simp only [h, e3, if_true, e2, snapL_pure d cs hp, mkElems_ones cs (pure_one cs hp)]

/-! ### a list that may begin empty, but not nil -/
def GrewE (low : Nat) (σ : AMem) (sz : Nat) (g : Bool) (out : AVal) (j : Nat) (cells : List AVal) : Prop :=
  Grew low σ sz g out j cells ∨ (j = 0 ∧ cells = [] ∧ ∃ r, low ≤ r ∧ r < σ.next ∧ out = .slice r 0 0 (some 0) sz ∧ σ.get r = some (.row sz g []))
theorem GrewE.one {low : Nat} {σ : AMem} {e : TyI} {out : AVal} {j : Nat} {cells xs : List AVal} (h : GrewE low σ e.size e.isAgg out j cells) (hlow : low ≤ σ.next) (hlen : xs.length = e.size)
    (hs0 : e.size ≠ 0) (hb0 : e.bytes ≠ 0) (hb1 : e.bytes ≤ 1048576) (hby : (j + 1) * e.bytes ≤ mostBytes) (hone : xs.all AVal.oneCell = true) :
    ∃ σ', appendA e (σ.push (.row e.size e.isAgg xs)) out (.slice σ.next 0 1 (some 1) e.size) = some (.slice (σ.next + 1) 0 (j + 1) none e.size, σ') ∧ Grew low σ' e.size e.isAgg (.slice (σ.next + 1) 0 (j + 1) none e.size) (j + 1) (cells ++ xs) ∧ σ'.next = σ.next + 2 ∧ (∀ s, s < low → σ'.get s = σ.get s) := by
  rcases h with h | ⟨rfl, rfl, r, h1, h2, rfl, h3⟩
  · obtain ⟨σ', a1, a2, a3, a4, _⟩ := h.one hlow hlen hs0 hb0 hb1 hby hone
    exact ⟨σ', a1, a2, a3, a4⟩
  · refine ⟨(σ.push (.row e.size e.isAgg xs)).push (.row e.size e.isAgg xs), ?_, ⟨by simpa using hlen, .inr ⟨σ.next + 1, by omega, by simp, rfl, by rw [AMem.get_push, if_pos (by simp)]; rfl⟩⟩, by simp, fun s hs => by rw [AMem.get_push, if_neg (by simp; omega), AMem.get_push, if_neg (by omega)]⟩
    have hsrc : sourceA e.size (σ.push (.row e.size e.isAgg xs)) (.slice σ.next 0 1 (some 1) e.size) = some (xs, 1) := by
      have : (σ.push (.row e.size e.isAgg xs)).get σ.next = some (.row e.size e.isAgg xs) := by rw [AMem.get_push, if_pos rfl]
      simp only [sourceA, this, List.drop_zero, Nat.zero_add, Nat.one_mul, hlen, Nat.le_refl, if_true]
      rw [← hlen, List.take_length]
    have hg : (σ.push (.row e.size e.isAgg xs)).get r = some (.row e.size e.isAgg []) := by rw [AMem.get_push, if_neg (by omega)]; exact h3
    simp only [appendA, hsrc, hg]
    rw [if_neg (by simp), if_neg (by simp [hs0, hb0]; omega), if_pos hby, if_pos trivial, if_neg (by simp), if_pos (by simp)]
    simp
theorem GrewE.oneCell {low : Nat} {σ : AMem} {sz : Nat} {g : Bool} {out : AVal} {j : Nat} {cells : List AVal} (h : GrewE low σ sz g out j cells) : out.oneCell = true := by
  rcases h with ⟨_, ⟨_, rfl⟩ | ⟨_, _, _, rfl, _⟩⟩ | ⟨_, _, _, _, _, rfl, _⟩ <;> rfl
theorem GrewE.same {low : Nat} {σ σ' : AMem} {sz : Nat} {g : Bool} {out : AVal} {j : Nat} {cells : List AVal} (h : GrewE low σ sz g out j cells) (hn : σ.next ≤ σ'.next) (hs : ∀ s, low ≤ s → s < σ.next → σ'.get s = σ.get s) : GrewE low σ' sz g out j cells := by
  rcases h with ⟨h0, h | ⟨r, h1, h2, h3, h4⟩⟩ | ⟨a, b, r, h1, h2, h3, h4⟩
  · exact .inl ⟨h0, .inl h⟩
  · exact .inl ⟨h0, .inr ⟨r, h1, by omega, h3, by rw [hs r h1 h2]; exact h4⟩⟩
  · exact .inr ⟨a, b, r, h1, by omega, h3, by rw [hs r h1 h2]; exact h4⟩
/-- What such a list of values of one cell reads as. -/
theorem GrewE.snap {low : Nat} {σ : AMem} {out : AVal} {cells : List AVal} (d : Nat) {j : Nat} (h : GrewE low σ 1 false out j cells) (hp : cells.all pureB = true) : ∃ vk seen, snapF false σ (d + 2) out = some (.vs vk cells, seen) ∧ (out ≠ .vs .nil [] → vk = .some) ∧ (out = .vs .nil [] → vk = .nil) ∧ cells.length = j := by
  rcases h with ⟨h0, ⟨h1, rfl⟩ | ⟨r, h1, h2, rfl, h4⟩⟩ | ⟨rfl, rfl, r, h1, h2, rfl, h4⟩
  · have : cells = [] := List.eq_nil_of_length_eq_zero (by omega)
    subst this
    exact ⟨.nil, [], rfl, fun h => absurd rfl h, fun _ => rfl, by simpa using h1.symm⟩
  · exact ⟨.some, _, snap_ones (d := d) (cs := cells) (more := []) (by omega) hp (by rw [List.append_nil]; exact h4), fun _ => rfl, fun h => by (try cases h), by omega⟩
  · exact ⟨.some, _, snap_ones (d := d) (cs := []) (more := []) rfl rfl h4, fun _ => rfl, fun h => by (try cases h), rfl⟩

/-! ### memory that has more -/
def Ext (σ σ' : AMem) : Prop := σ.next ≤ σ'.next ∧ ∀ s, s < σ.next → σ'.get s = σ.get s
theorem Ext.refl (σ : AMem) : Ext σ σ := ⟨Nat.le_refl _, fun _ _ => rfl⟩
theorem Ext.trans {a b c : AMem} (h : Ext a b) (h2 : Ext b c) : Ext a c := ⟨Nat.le_trans h.1 h2.1, fun s hs => (h2.2 s (Nat.lt_of_lt_of_le hs h.1)).trans (h.2 s hs)⟩
theorem Ext.push (σ : AMem) (o : AObj) : Ext σ (σ.push o) := ⟨by simp, fun s hs => by rw [AMem.get_push, if_neg (by omega)]⟩
theorem Ext.put {σ σ' : AMem} (h : Ext σ σ') (r : Nat) (o : AObj) (hr : σ.next ≤ r) : Ext σ (σ'.put r o) := ⟨by simpa using h.1, fun s hs => by rw [AMem.get_put, if_neg (by omega)]; exact h.2 s hs⟩

/-! ### copies of bytes, wherever -/
def capOf (b : List Nat) : Option Nat := if b.length = 0 then some 0 else none
/-- append([]byte{}, x...) on bytes that are known. -/
theorem copy_at {σ : AMem} (x : AVal) {bs : List Nat} (hsrc : ∀ σ, sourceA 1 σ x = some (bytesV bs, bs.length)) (hn : bs.length ≤ 1000000) : ∃ r σ', appendA ⟨.int .u8, 1, 1, [.int .u8 0]⟩ (σ.push (.row 1 false [])) (.slice σ.next 0 0 (some 0) 1) x = some (.slice r 0 bs.length (capOf bs) 1, σ') ∧ Ext σ σ' ∧ σ.next ≤ r ∧ r < σ'.next ∧ σ'.get r = some (.row 1 false (bytesV bs)) := by
  have h := append_bytes (σ := σ.push (.row 1 false [])) (e := ⟨.int .u8, 1, 1, [.int .u8 0]⟩) (r := σ.next) (x := x) (bs := bs) rfl rfl rfl (hsrc _) (by rw [AMem.get_push, if_pos rfl]) hn
  by_cases h0 : bs.length = 0
  · have hb : bs = [] := List.eq_nil_of_length_eq_zero h0
    subst hb
    rw [if_pos h0, if_pos h0] at h
    exact ⟨σ.next, _, h, Ext.push _ _, Nat.le_refl _, by simp, by rw [AMem.get_push, if_pos rfl]; rfl⟩
  · rw [if_neg h0, if_neg h0] at h
    refine ⟨σ.next + 1, (σ.push (.row 1 false [])).push (.row 1 false (bytesV bs)), ?_, (Ext.push _ _).trans (Ext.push _ _), by omega, by simp, by rw [AMem.get_push, if_pos (by simp)]⟩
    rw [h, capOf, if_neg h0]
    rfl

/-- A LOOP THAT MAY END EARLY. -/
theorem exec_loop2 {A : AProg} {call : CallA} {k f N : Nat} {T : Tr AVal} {σ : AMem} {c : Code} {R : AExit → Tr AVal → AMem → Prop} (I : Nat → Tr AVal → AMem → Prop) (n : Nat) (hn : n < k)
    (hstep : ∀ i, i < n → ∀ T σ, I i T σ → (∃ T' σ', execC A call k f N c T σ = some (.normal, T', σ') ∧ I (i + 1) T' σ') ∨ ∃ e T' σ', execC A call k f N c T σ = some (e, T', σ') ∧ e ≠ .normal ∧ R e T' σ')
    (hend : ∀ T σ, I n T σ → ∃ e T' σ', execC A call k f N c T σ = some (e, T', σ') ∧ e ≠ .normal ∧ R e T' σ') (h0 : I 0 T σ) :
    ∃ e T' σ', execC A call k f N (.loop c) T σ = some (e, T', σ') ∧ e ≠ .normal ∧ R e T' σ' := by
  have go : ∀ (m i j : Nat) (T : Tr AVal) (σ : AMem), i + m = n → m < j → I i T σ → ∃ e T' σ', iterL j (fun T σ => execC A call k f N c T σ) T σ = some (e, T', σ') ∧ e ≠ .normal ∧ R e T' σ' := by
    intro m
    have last : ∀ (j : Nat) (T : Tr AVal) (σ : AMem), (∃ e T' σ', execC A call k f N c T σ = some (e, T', σ') ∧ e ≠ .normal ∧ R e T' σ') → ∃ e T' σ', iterL (j + 1) (fun T σ => execC A call k f N c T σ) T σ = some (e, T', σ') ∧ e ≠ .normal ∧ R e T' σ' := by
      rintro j T σ ⟨e, T', σ', h1, h2, h3⟩
      refine ⟨e, T', σ', ?_, h2, h3⟩
      simp only [iterL, h1]
      cases e with
      | normal => exact absurd rfl h2
      | _ => rfl
    induction m with
    | zero =>
      intro i j T σ hi hj hI
      obtain ⟨j, rfl⟩ : ∃ q, j = q + 1 := ⟨j - 1, by omega⟩
      have : i = n := by omega
      subst this
      exact last j T σ (hend T σ hI)
    | succ m ih =>
      intro i j T σ hi hj hI
      obtain ⟨j, rfl⟩ : ∃ q, j = q + 1 := ⟨j - 1, by omega⟩
      rcases hstep i (by omega) T σ hI with ⟨T', σ', h1, h2⟩ | h
      · obtain ⟨e, T2, σ2, h3, h4, h5⟩ := ih (i + 1) j T' σ' (by omega) (by omega) h2
        exact ⟨e, T2, σ2, by simp only [iterL, h1]; exact h3, h4, h5⟩
      · exact last j T σ h
  simp only [execC]
  exact go n 0 k T σ (by omega) hn h0
theorem take_all {α : Type} {P : α → Prop} {l : List α} {i : Nat} (hi : i < l.length) (h : ∀ x, x ∈ l.take i → P x) (hx : P l[i]) : ∀ x, x ∈ l.take (i + 1) → P x := by
  intro x hm
  rw [List.take_succ_eq_append_getElem hi, List.mem_append] at hm
  rcases hm with hm | hm
  · exact h x hm
  · simp only [List.mem_singleton] at hm; subst hm; exact hx
theorem i64_succ {i : Nat} (h : i < 1000000000) : IntKind.i64.wrap ((i : Int) + 1) = ((i + 1 : Nat) : Int) := by rw [i64_id (by omega) (by omega)]; omega
end Go.Proofs.YtjckhhkhgjbpaaaGreatDoor.Pale
