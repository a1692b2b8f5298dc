/- Lists that grow, of cells that are lists themselves: what the cells read as, and what is kept. -/
import Derived.Test.YtjckhhkhgjbpaaaGreatDoorPaleItems
set_option linter.unusedVariables false
namespace Go.Proofs.YtjckhhkhgjbpaaaGreatDoor.Pale
open Go

/-- These cells read as these values, by rows from low on, none of them bad. -/
def ReadsL (d low : Nat) (σ : AMem) (bad : List Nat) (cs ys : List AVal) : Prop := ∃ S, snapL (snapF false σ d) cs = some (ys, S) ∧ ∀ s, s ∈ S → low ≤ s ∧ s < σ.next ∧ s ∉ bad
theorem ReadsL.nil (d low : Nat) (σ : AMem) (bad : List Nat) : ReadsL d low σ bad [] [] := ⟨[], rfl, by simp⟩
theorem ReadsL.same {d low low' : Nat} {σ σ' : AMem} {bad bad' cs ys : _} (h : ReadsL d low σ bad cs ys) (hl : low' ≤ low) (hn : σ.next ≤ σ'.next) (hs : ∀ s, low ≤ s → s < σ.next → s ∉ bad → σ'.get s = σ.get s) (hb : ∀ s, low ≤ s → s < σ.next → s ∉ bad → s ∉ bad') : ReadsL d low' σ' bad' cs ys := by
  obtain ⟨S, h1, h2⟩ := h
  refine ⟨S, snapL_same (snapF_same d) _ _ _ h1 fun s hS => ?_, fun s hS => ?_⟩
  · obtain ⟨a, b, c⟩ := h2 s hS
    exact hs s a b c
  · obtain ⟨a, b, c⟩ := h2 s hS
    exact ⟨by omega, by omega, hb s a b c⟩
theorem ReadsL.append {d low : Nat} {σ : AMem} {bad a b x y : _} (h : ReadsL d low σ bad a x) (h2 : ReadsL d low σ bad b y) : ReadsL d low σ bad (a ++ b) (x ++ y) := by
  obtain ⟨S, h1, hS⟩ := h
  obtain ⟨S2, h3, hS2⟩ := h2
  refine ⟨S ++ S2, ?_, fun s hs => by rcases List.mem_append.1 hs with h | h; exact hS s h; exact hS2 s h⟩
  clear hS hS2
  induction a generalizing x S with
  | nil => simp only [snapL] at h1; cases h1; exact h3
  | cons c a ih =>
    simp only [snapL] at h1
    split at h1
    · rename_i z s zs t hz hzs
      cases h1
      simp only [List.cons_append, snapL, hz, ih _ hzs, List.append_assoc]
    · cases h1
theorem ReadsL.pure {d low : Nat} {σ : AMem} {bad : List Nat} {cs : List AVal} (h : cs.all pureB = true) : ReadsL (d + 1) low σ bad cs cs := ⟨[], snapL_pure d cs h, by simp⟩
theorem ReadsL.snap {d low : Nat} {σ : AMem} {bad cs ys : _} (h : ReadsL d low σ bad cs ys) : ∃ S, snapL (snapF false σ d) cs = some (ys, S) := ⟨h.choose, h.choose_spec.1⟩
theorem snapL_len {f : AVal → Option (AVal × List Nat)} : ∀ {l u : List AVal} {S : List Nat}, snapL f l = some (u, S) → u.length = l.length := by
  intro l
  induction l with
  | nil => intro u S h; simp only [snapL] at h; cases h; rfl
  | cons x l ih =>
    intro u S h
    simp only [snapL] at h
    split at h
    · rename_i y s ys t hy hys
      cases h
      simp only [List.length_cons, ih hys]
    · cases h
theorem ReadsL.length {d low : Nat} {σ : AMem} {bad cs ys : _} (h : ReadsL d low σ bad cs ys) : ys.length = cs.length := by
  obtain ⟨S, h1, _⟩ := h
  exact snapL_len h1

/-- A list that grew, of cells that read as values. -/
def Deep (d low : Nat) (σ : AMem) (sz : Nat) (g : Bool) (out : AVal) (j : Nat) (cells ys : List AVal) : Prop := Grew low σ sz g out j cells ∧ ReadsL d low σ (rowOf out) cells ys
theorem Deep.start (d low : Nat) (σ : AMem) (sz : Nat) (g : Bool) : Deep d low σ sz g (.vs .nil []) 0 [] [] := ⟨⟨by simp, .inl ⟨rfl, rfl⟩⟩, ReadsL.nil _ _ _ _⟩
theorem Grew.rows {low : Nat} {σ : AMem} {sz : Nat} {g : Bool} {out : AVal} {j : Nat} {cells : List AVal} (h : Grew low σ sz g out j cells) : ∀ r, r ∈ rowOf out → low ≤ r ∧ r < σ.next ∧ out = .slice r 0 j none sz := by
  intro r hr
  rcases h.2 with ⟨_, rfl⟩ | ⟨r', a, b, rfl, _⟩
  · simp [rowOf] at hr
  · simp only [rowOf, List.mem_singleton] at hr
    subst hr
    exact ⟨a, b, rfl⟩
theorem Grew.oneC {low : Nat} {σ : AMem} {sz : Nat} {g : Bool} {out : AVal} {j : Nat} {cells : List AVal} (h : Grew low σ sz g out j cells) : out.oneCell = true := by
  rcases h.2 with ⟨_, rfl⟩ | ⟨r', a, b, rfl, _⟩ <;> rfl
theorem Deep.same {d low : Nat} {σ σ' : AMem} {sz : Nat} {g : Bool} {out : AVal} {j : Nat} {cells ys : List AVal} (h : Deep d low σ sz g out j cells ys) (hn : σ.next ≤ σ'.next) (hs : ∀ s, low ≤ s → s < σ.next → σ'.get s = σ.get s) : Deep d low σ' sz g out j cells ys := by
  refine ⟨⟨h.1.1, ?_⟩, h.2.same (Nat.le_refl _) hn (fun s a b _ => hs s a b) fun _ _ _ h => h⟩
  rcases h.1.2 with h | ⟨r, h1, h2, h3, h4⟩
  · exact .inl h
  · exact .inr ⟨r, h1, by omega, h3, by rw [hs r h1 h2]; exact h4⟩
theorem Deep.one {d low : Nat} {σ : AMem} {e : TyI} {out : AVal} {j : Nat} {cells ys xs zs : List AVal} (h : Deep d low σ e.size e.isAgg out j cells ys) (hx : ReadsL d low σ (rowOf out) xs zs) (hlow : low ≤ σ.next) (hlen : xs.length = e.size)
    (hs0 : e.size ≠ 0) (hb0 : e.bytes ≠ 0) (hb1 : e.bytes ≤ 1048576) (hby : (j + 1) * e.bytes ≤ mostBytes) (hone : xs.all AVal.oneCell = true) :
    ∃ σ', appendA e (σ.push (.row e.size e.isAgg xs)) out (.slice σ.next 0 1 (some 1) e.size) = some (.slice (σ.next + 1) 0 (j + 1) none e.size, σ') ∧ Deep d low σ' e.size e.isAgg (.slice (σ.next + 1) 0 (j + 1) none e.size) (j + 1) (cells ++ xs) (ys ++ zs) ∧ σ'.next = σ.next + 2 ∧ (∀ s, s < low → σ'.get s = σ.get s) := by
  obtain ⟨σ', h1, h2, h3, h4, h5⟩ := h.1.one hlow hlen hs0 hb0 hb1 hby hone
  have hk : ∀ s, s < σ.next → s ∉ rowOf out → σ'.get s = σ.get s := fun s hs hb => h5 s hs fun e => hb (by rw [e]; simp [rowOf])
  have hr : ∀ {cs us : List AVal}, ReadsL d low σ (rowOf out) cs us → ReadsL d low σ' (rowOf (.slice (σ.next + 1) 0 (j + 1) none e.size)) cs us := fun hh => hh.same (Nat.le_refl _) (by omega) (fun s _ b c => hk s b c) fun s _ b _ => by simp only [rowOf, List.mem_singleton]; omega
  exact ⟨σ', h1, ⟨h2, (hr h.2).append (hr hx)⟩, h3, h4⟩
/-- A slice over cells of one each. -/
theorem snap_ones_deep {σ : AMem} {d r n : Nat} {cs ys S : List _} {cap : Option Nat} (hn : n = cs.length) (hs : snapL (snapF false σ (d + 1)) cs = some (ys, S)) (hp : ys.all AVal.oneCell = true) (h : σ.get r = some (.row 1 false cs)) : snapF false σ (d + 2) (.slice r 0 n cap 1) = some (.vs .some ys, r :: S) := by
  subst hn
  have e2 : (cs.drop 0).take (cs.length * 1) = cs := by rw [List.drop_zero, Nat.mul_one, List.take_length]
  have e3 : (decide (0 < 1) && decide (0 + cs.length * 1 ≤ cs.length)) = true := by simp
  have hl := snapL_len hs
  rw [snapF]
  simp only [h, e3, if_true, e2, hs]
  rw [← hl, mkElems_ones ys hp]
/-- What such a list of cells of one each reads as. -/
theorem Deep.ones {d low : Nat} {σ : AMem} {out : AVal} {j : Nat} {cells ys : List AVal} (h : Deep (d + 1) low σ 1 false out j cells ys) (h0j : j = 0 → out = .vs .nil []) (hp : ys.all AVal.oneCell = true) (bad : List Nat) (hb : ∀ s, s ∈ bad → s < low) : ReadsL (d + 2) low σ bad [out] [.vs (lkOf j) ys] := by
  obtain ⟨⟨h0, hc⟩, S, h1, h2⟩ := h
  have hl := snapL_len h1
  rcases hc with ⟨rfl, rfl⟩ | ⟨r, a1, a2, rfl, a4⟩
  · have : cells = [] := List.eq_nil_of_length_eq_zero (by omega)
    subst this
    have : ys = [] := List.eq_nil_of_length_eq_zero (by simpa using hl)
    subst this
    exact ⟨[], rfl, by simp⟩
  · by_cases hj : j = 0
    · cases h0j hj
    · refine ⟨(r :: S) ++ [], ?_, fun s hs => ?_⟩
      · have := snap_ones_deep (d := d) (cap := none) (r := r) (n := j) (by omega) h1 hp a4
        simp only [snapL, this, lkOf, hj, if_false]
      · rw [List.append_nil] at hs
        rcases List.mem_cons.1 hs with rfl | hs
        · exact ⟨a1, a2, fun h => by have := hb s h; omega⟩
        · obtain ⟨b1, b2, _⟩ := h2 s hs
          exact ⟨b1, b2, fun h => by have := hb s h; omega⟩
/-- What a list of records reads as. -/
theorem Deep.recs {d low sz j : Nat} {σ : AMem} {out : AVal} {ls ps : List (List AVal)} (h : Deep (d + 1) low σ sz true out j ls.flatten ps.flatten) (h0 : j = 0 → out = .vs .nil []) (hj : j = ls.length) (hsz : 0 < sz) (hps : ps.length = ls.length) (hl : ∀ l, l ∈ ls → l.length = sz) (hp : ∀ l, l ∈ ps → l.length = sz) : ∃ S, snapF false σ (d + 2) out = some (.vs (lkOf j) (ps.map AVal.agg), S) := by
  obtain ⟨h1, S, h2, _⟩ := h
  exact snap_grew h1 h0 hj hsz hps hl hp h2
end Go.Proofs.YtjckhhkhgjbpaaaGreatDoor.Pale
