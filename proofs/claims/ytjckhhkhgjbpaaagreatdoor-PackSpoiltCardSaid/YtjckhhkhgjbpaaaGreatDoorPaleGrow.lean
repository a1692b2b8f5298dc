/- Bytes that grow at the end of a list: what is kept. -/
import Derived.Test.YtjckhhkhgjbpaaaGreatDoorPaleRuns
import Derived.Test.YtjckhhkhgjbpaaaGreatDoorPaleDeep
set_option linter.unusedVariables false
namespace Go.Proofs.YtjckhhkhgjbpaaaGreatDoor.Pale
open Go
variable {σ : AMem}

theorem GrewE.rowsE {low : Nat} {σ : AMem} {sz : Nat} {g : Bool} {out : AVal} {j : Nat} {cells : List AVal} (h : GrewE low σ sz g out j cells) : ∀ r, r ∈ rowOf out → low ≤ r ∧ r < σ.next := by
  intro r hr
  rcases h with h | ⟨_, _, r', h1, h2, rfl, _⟩
  · exact ⟨(Grew.rows h r hr).1, (Grew.rows h r hr).2.1⟩
  · simp only [rowOf, List.mem_singleton] at hr
    subst hr
    exact ⟨h1, h2⟩
theorem GrewE.app {low : Nat} {e : TyI} {out x : AVal} {j n : Nat} {cells xs : List AVal} (h : GrewE low σ e.size e.isAgg out j cells) (hlow : low ≤ σ.next) (hsrc : sourceA e.size σ x = some (xs, n)) (hlen : xs.length = n * e.size) (hs0 : e.size ≠ 0) (hb0 : e.bytes ≠ 0) (hb1 : e.bytes ≤ 1048576) (hby : (j + n) * e.bytes ≤ mostBytes) (hone : xs.all AVal.oneCell = true) :
    ∃ out' σ', appendA e σ out x = some (out', σ') ∧ GrewE low σ' e.size e.isAgg out' (j + n) (cells ++ xs) ∧ σ.next ≤ σ'.next ∧ (∀ s, s < σ.next → s ∉ rowOf out → σ'.get s = σ.get s) ∧ (∀ s, s ∈ rowOf out' → s ∈ rowOf out ∨ σ.next ≤ s) := by
  by_cases hn : n = 0
  · subst hn
    have : xs = [] := List.eq_nil_of_length_eq_zero (by omega)
    subst this
    refine ⟨out, σ, ?_, by simpa using h, Nat.le_refl _, fun _ _ _ => rfl, fun s hs => .inl hs⟩
    simp only [appendA, hsrc, if_pos]
    rcases h with ⟨_, ⟨_, rfl⟩ | ⟨_, _, _, rfl, _⟩⟩ | ⟨_, _, _, _, _, rfl, _⟩ <;> rfl
  · rcases h with h | ⟨rfl, rfl, r, h1, h2, rfl, h3⟩
    · obtain ⟨σ', a1, a2, a3, a4⟩ := Grew.append2 h hlow hsrc hlen hn hs0 hb0 hb1 hby hone
      refine ⟨_, σ', a1, .inl a2, by omega, fun s hs hb => a4 s hs fun e => hb (by rw [e]; simp [rowOf]), fun s hs => ?_⟩
      simp only [rowOf, List.mem_singleton] at hs
      exact .inr (by omega)
    · refine ⟨.slice σ.next 0 (0 + n) none e.size, σ.push (.row e.size e.isAgg xs), ?_, .inl ⟨by simpa using hlen, .inr ⟨σ.next, hlow, by simp, rfl, by rw [AMem.get_push, if_pos rfl]; simp⟩⟩, by simp, fun s hs _ => by rw [AMem.get_push, if_neg (by omega)], fun s hs => ?_⟩
      · simp only [appendA, hsrc, h3]
        rw [if_neg hn, if_neg (by simp [hs0, hb0]; omega), if_pos hby, if_pos trivial, if_neg (by omega), if_pos (by simp)]
        simp
      · simp only [rowOf, List.mem_singleton] at hs
        exact .inr (by omega)

def tyByte : TyI := ⟨.int .u8, 1, 1, [.int .u8 0]⟩
/-- A list of bytes that grows. -/
def GB (low : Nat) (σ : AMem) (b : AVal) (bs : List Nat) : Prop := GrewE low σ 1 false b bs.length (bytesV bs)
/-- Some bytes more: what is kept. -/
def Adv (low : Nat) (σ : AMem) (b : AVal) (bs : List Nat) (σ' : AMem) (b' : AVal) (more : List Nat) : Prop :=
  GB low σ' b' (bs ++ more) ∧ σ.next ≤ σ'.next ∧ (∀ s, s < σ.next → s ∉ rowOf b → σ'.get s = σ.get s) ∧ (∀ s, s ∈ rowOf b' → s ∈ rowOf b ∨ σ.next ≤ s)
theorem GB.start (low : Nat) (σ : AMem) : GB low σ (.vs .nil []) [] := .inl ⟨rfl, .inl ⟨rfl, rfl⟩⟩
theorem GB.one {low : Nat} {b : AVal} {bs : List Nat} (h : GB low σ b bs) : b.oneCell = true := GrewE.oneCell h
theorem GB.rows {low : Nat} {b : AVal} {bs : List Nat} (h : GB low σ b bs) : ∀ r, r ∈ rowOf b → low ≤ r ∧ r < σ.next := GrewE.rowsE h
theorem GB.keep {low : Nat} {σ' : AMem} {b : AVal} {bs : List Nat} (h : GB low σ b bs) (hn : σ.next ≤ σ'.next) (hs : ∀ s, s ∈ rowOf b → σ'.get s = σ.get s) : GB low σ' b bs := by
  rcases h with ⟨h0, h | ⟨r, h1, h2, h3, h4⟩⟩ | ⟨a, c, r, h1, h2, h3, h4⟩
  · exact .inl ⟨h0, .inl h⟩
  · exact .inl ⟨h0, .inr ⟨r, h1, by omega, h3, by rw [hs r (by rw [h3]; simp [rowOf])]; exact h4⟩⟩
  · exact .inr ⟨a, c, r, h1, by omega, h3, by rw [hs r (by rw [h3]; simp [rowOf])]; exact h4⟩
theorem Adv.refl {low : Nat} {b : AVal} {bs : List Nat} (h : GB low σ b bs) : Adv low σ b bs σ b [] := ⟨by rw [List.append_nil]; exact h, Nat.le_refl _, fun _ _ _ => rfl, fun _ h => .inl h⟩
theorem Adv.trans {low : Nat} {σ1 σ2 : AMem} {b b1 b2 : AVal} {bs m1 m2 : List Nat} (h : Adv low σ b bs σ1 b1 m1) (h2 : Adv low σ1 b1 (bs ++ m1) σ2 b2 m2) : Adv low σ b bs σ2 b2 (m1 ++ m2) := by
  obtain ⟨a1, a2, a3, a4⟩ := h
  obtain ⟨c1, c2, c3, c4⟩ := h2
  refine ⟨by rw [← List.append_assoc]; exact c1, by omega, fun s hs hn => ?_, fun s hs => ?_⟩
  · rw [c3 s (by omega) (fun hm => by rcases a4 s hm with h | h; exact hn h; omega), a3 s hs hn]
  · rcases c4 s hs with h | h
    · rcases a4 s h with h | h
      · exact .inl h
      · exact .inr h
    · exact .inr (by omega)
/-- Something more in memory before. -/
theorem Adv.push {low : Nat} {σ0 σ' : AMem} {b b' : AVal} {bs more : List Nat} (hx : Ext σ0 σ) (hb : ∀ s, s ∈ rowOf b → s < σ0.next) (h : Adv low σ b bs σ' b' more) : Adv low σ0 b bs σ' b' more := by
  obtain ⟨a1, a2, a3, a4⟩ := h
  refine ⟨a1, Nat.le_trans hx.1 a2, fun s hs hn => by rw [a3 s (Nat.lt_of_lt_of_le hs hx.1) hn]; exact hx.2 s hs, fun s hs => ?_⟩
  rcases a4 s hs with h | h
  · exact .inl h
  · exact .inr (Nat.le_trans hx.1 h)
theorem GB.app {low : Nat} {b x : AVal} {bs more : List Nat} (h : GB low σ b bs) (hlow : low ≤ σ.next) (hsrc : sourceA 1 σ x = some (bytesV more, more.length)) (hb : bs.length + more.length ≤ 1000000000000) :
    ∃ b' σ', appendA tyByte σ b x = some (b', σ') ∧ Adv low σ b bs σ' b' more := by
  obtain ⟨b', σ', a1, a2, a3, a4, a5⟩ := GrewE.app (e := tyByte) h hlow hsrc (by rw [bytesV_length]; exact (Nat.mul_one _).symm) (by decide) (by decide) (by decide) (by unfold mostBytes; simp only [tyByte]; omega) (bytesV_all _)
  refine ⟨b', σ', a1, ?_, a3, a4, a5⟩
  unfold GB
  rw [List.length_append, ← bytesV_append]
  exact a2
/-- One byte more, that was built as a row of its own. -/
theorem GB.byte {low : Nat} {b : AVal} {bs : List Nat} (h : GB low σ b bs) (hlow : low ≤ σ.next) (c : Nat) (hb : bs.length + 1 ≤ 1000000000000) :
    ∃ b' σ', appendA tyByte (σ.push (.row 1 false [.int .u8 (c : Nat)])) b (.slice σ.next 0 1 (some 1) 1) = some (b', σ') ∧ Adv low σ b bs σ' b' [c] := by
  have hx : Ext σ (σ.push (.row 1 false [.int .u8 (c : Nat)])) := Ext.push _ _
  have hr := h.rows
  obtain ⟨b', σ', a1, a2⟩ := GB.app (σ := σ.push (.row 1 false [.int .u8 (c : Nat)])) (x := .slice σ.next 0 1 (some 1) 1) (more := [c]) (h.keep (by simp) fun s hs => hx.2 s (hr s hs).2) (by simp; omega) (by
    have : (σ.push (.row 1 false [.int .u8 (c : Nat)])).get σ.next = some (.row 1 false [.int .u8 (c : Nat)]) := by rw [AMem.get_push, if_pos rfl]
    simp only [sourceA, this]
    rfl) hb
  exact ⟨b', σ', a1, a2.push hx fun s hs => (hr s hs).2⟩
theorem GB.snap {low d : Nat} {b : AVal} {bs : List Nat} (h : GB low σ b bs) : ∃ K S, snapF true σ (d + 2) b = some (.vs K (bytesV bs), S) := by
  rcases h with ⟨h0, ⟨h1, rfl⟩ | ⟨r, h1, h2, rfl, h4⟩⟩ | ⟨h0, h00, r, h1, h2, rfl, h4⟩
  · have : bs = [] := List.eq_nil_of_length_eq_zero h1
    subst this
    exact ⟨.nil, [], rfl⟩
  · exact ⟨.some, _, snap_bytes (d := d) (bs := bs) (more := []) rfl (by rw [List.append_nil]; exact h4)⟩
  · have : bs = [] := List.eq_nil_of_length_eq_zero h0
    subst this
    exact ⟨.some, _, snap_bytes (d := d) (bs := []) (more := []) rfl h4⟩
theorem GB.source {low : Nat} {b : AVal} {bs : List Nat} (h : GB low σ b bs) : sourceA 1 σ b = some (bytesV bs, bs.length) := by
  rcases h with ⟨h0, ⟨h1, rfl⟩ | ⟨r, h1, h2, rfl, h4⟩⟩ | ⟨h0, h00, r, h1, h2, rfl, h4⟩
  · have : bs = [] := List.eq_nil_of_length_eq_zero h1
    subst this
    rfl
  · simp only [sourceA, h4, List.drop_zero, bytesV_length, Nat.mul_one, Nat.zero_add, Nat.le_refl, if_true]
    rw [List.take_of_length_le (by rw [bytesV_length]; exact Nat.le_refl _)]
  · have : bs = [] := List.eq_nil_of_length_eq_zero h0
    subst this
    simp only [sourceA, h4]
    rfl
end Go.Proofs.YtjckhhkhgjbpaaaGreatDoor.Pale
