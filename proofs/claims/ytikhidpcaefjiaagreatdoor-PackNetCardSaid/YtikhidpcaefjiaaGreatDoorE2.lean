/- A list of packets that were sent, in memory; a packet that is copied out of memory. -/
import Derived.Test.YtikhidpcaefjiaaGreatDoorE1
set_option maxRecDepth 100000
set_option linter.unusedSimpArgs false
set_option linter.unusedVariables false
namespace Go.Proofs.YtikhidpcaefjiaaGreatDoor
open Go Go.Proofs.YtikhidpcaefjiaaGreatDoor.Pale
variable {k : Nat} {σ : AMem}

def stM (p : Pk) (r : Nat) : List AVal := [.int .i64 p.fr, .int .i64 p.to, .slice r 0 2 (some 2) 1]
def SentMem (low : Nat) (σ : AMem) (out : AVal) (l : List (Pk × Nat)) : Prop :=
  Grew low σ 3 true out l.length (l.map fun x => stM x.1 x.2).flatten ∧ (l.length = 0 → out = .vs .nil []) ∧
    ∀ x, x ∈ l → low ≤ x.2 ∧ x.2 < σ.next ∧ σ.get x.2 = some (.row 1 false (bytesV x.1.b)) ∧ x.1.b.length = 2 ∧ x.1.vk = .some ∧ ∀ n c z, out ≠ .slice x.2 0 n c z
theorem SentMem.nil (low : Nat) (σ : AMem) : SentMem low σ (.vs .nil []) [] := ⟨⟨rfl, .inl ⟨rfl, rfl⟩⟩, fun _ => rfl, by simp⟩
theorem SentMem.same {low : Nat} {σ σ' : AMem} {out : AVal} {l : List (Pk × Nat)} (h : SentMem low σ out l) (hn : σ.next ≤ σ'.next) (hs : ∀ s, low ≤ s → s < σ.next → σ'.get s = σ.get s) : SentMem low σ' out l := by
  obtain ⟨⟨hcl, hcase⟩, h2, h4⟩ := h
  refine ⟨⟨hcl, ?_⟩, h2, fun x hx => ?_⟩
  · rcases hcase with h | ⟨r, h6, h7, h8, h9⟩
    · exact .inl h
    · exact .inr ⟨r, h6, Nat.lt_of_lt_of_le h7 hn, h8, by rw [hs r h6 h7]; exact h9⟩
  · obtain ⟨a, b, c, d⟩ := h4 x hx
    exact ⟨a, Nat.lt_of_lt_of_le b hn, by rw [hs _ a b]; exact c, d⟩
theorem SentMem.one {low : Nat} {σ : AMem} {out : AVal} {l : List (Pk × Nat)} (h : SentMem low σ out l) : out.oneCell = true := by
  rcases h.1.2 with ⟨_, rfl⟩ | ⟨_, _, _, rfl, _⟩ <;> rfl
theorem SentMem.add {low r : Nat} {σ : AMem} {out : AVal} {l : List (Pk × Nat)} {p : Pk} (h : SentMem low σ out l) (hlow : low ≤ σ.next) (hr1 : low ≤ r) (hr2 : r < σ.next) (hr3 : σ.get r = some (.row 1 false (bytesV p.b))) (hl2 : p.b.length = 2) (hpv : p.vk = .some) (hne : ∀ n c z, out ≠ .slice r 0 n c z) (hn : l.length ≤ 1000000) :
    ∃ σ', appendA tyPk (σ.push (.row 3 true (stM p r))) out (.slice σ.next 0 1 (some 1) 3) = some (.slice (σ.next + 1) 0 (l.length + 1) none 3, σ') ∧ SentMem low σ' (.slice (σ.next + 1) 0 (l.length + 1) none 3) (l ++ [(p, r)]) ∧ σ'.next = σ.next + 2 ∧ (∀ s, s < low → σ'.get s = σ.get s) ∧ ∀ s, s < σ.next → out ≠ .slice s 0 l.length none 3 → σ'.get s = σ.get s := by
  obtain ⟨hg, h2, h4⟩ := h
  obtain ⟨σ', a1, a2, a3, a4, a5⟩ := Grew.one (e := tyPk) (xs := stM p r) hg hlow rfl (by decide) (by decide) (by decide) (by simp only [tyPk, mostBytes]; omega) (by rfl)
  refine ⟨σ', a1, ⟨?_, by simp, ?_⟩, a3, a4, a5⟩
  · rw [List.length_append, List.map_append, List.flatten_append]
    simp only [List.map_cons, List.map_nil, List.flatten_cons, List.flatten_nil, List.append_nil, List.length_cons, List.length_nil]
    exact a2
  · intro x hx
    rcases List.mem_append.1 hx with hx | hx
    · obtain ⟨b1, b2, b3, b4, b5, b6⟩ := h4 x hx
      refine ⟨b1, by omega, by rw [a5 _ b2 (b6 _ _ _)]; exact b3, b4, b5, ?_⟩
      intro n c z hc
      simp only [AVal.slice.injEq] at hc
      omega
    · simp only [List.mem_singleton] at hx
      subst hx
      refine ⟨hr1, by simp only; omega, by rw [a5 _ hr2 (hne _ _ _)]; exact hr3, hl2, hpv, ?_⟩
      intro n c z hc
      simp only [AVal.slice.injEq] at hc
      omega
theorem sent_snapL {σ : AMem} (d : Nat) : ∀ (l : List (Pk × Nat)), (∀ x, x ∈ l → σ.get x.2 = some (.row 1 false (bytesV x.1.b)) ∧ x.1.b.length = 2 ∧ x.1.vk = .some) → snapL (snapF false σ (d + 2)) (l.map fun x => stM x.1 x.2).flatten = some ((l.map fun x => pkC x.1).flatten, l.map (·.2)) := by
  intro l
  induction l with
  | nil => intro _; rfl
  | cons x l ih =>
    intro h
    obtain ⟨g1, g2, g3⟩ := h x (by simp)
    have h1 : snapL (snapF false σ (d + 2)) (stM x.1 x.2) = some (pkC x.1, [x.2]) := by
      simp only [stM, snapL, snap_int, snap_bytes (d := d) (cap := some 2) (n := 2) (more := []) g2.symm (by rw [List.append_nil]; exact g1), pkC, g3]
      rfl
    exact snapL_append h1 (ih fun y hy => h y (by simp [hy]))
theorem SentMem.snap {low : Nat} {σ : AMem} {out : AVal} {l : List (Pk × Nat)} (d : Nat) (h : SentMem low σ out l) : ∃ seen, snapF false σ (d + 3) out = some (.vs (lkOf l.length) ((l.map (·.1)).map pkV), seen) := by
  obtain ⟨hg, h2, h4⟩ := h
  have := snap_grew (d := d + 1) (ls := l.map fun x => stM x.1 x.2) (ps := l.map fun x => pkC x.1) (S := l.map (·.2)) hg h2 (by simp) (by simp) (by simp) (by
    intro y hy; obtain ⟨x, _, rfl⟩ := List.mem_map.1 hy; rfl) (by
    intro y hy; obtain ⟨x, _, rfl⟩ := List.mem_map.1 hy; rfl) (sent_snapL d l fun x hx => ⟨(h4 x hx).2.2.1, (h4 x hx).2.2.2.1, (h4 x hx).2.2.2.2.1⟩)
  simpa [List.map_map, Function.comp_def, pkV] using this

/-- A copy of a packet whose bytes lie in memory: it is new. -/
theorem snapT_pkM {σ : AMem} (d : Nat) {p : Pk} {r : Nat} (h : σ.get r = some (.row 1 false (bytesV p.b))) : ∃ seen, snapF true σ (d + 3) (.agg (pkM p r)) = some (pkV (cp p), seen) := by
  refine ⟨[] ++ ([] ++ ([r] ++ [])), ?_⟩
  show (snapL (snapF true σ (d + 2)) (pkM p r)).map (fun (l, a) => (AVal.agg l, a)) = _
  simp only [pkM, snapL, snap_int, snap_bytes (fr := true) (d := d) (cap := capOf p.b) (more := []) rfl (by rw [List.append_nil]; exact h), Option.map_some]
  rfl
theorem copyPacket_mem {r : Nat} (p : Pk) (hb : σ.get r = some (.row 1 false (bytesV p.b))) (h2 : p.b.length = 2) (hv : p.vk = .some) (hk : 1 ≤ k) : pureCall lawProg (callN lawProg k) (.func 24 [] []) [.agg (stM p r)] σ = some (.agg [.int .i64 p.fr, .int .i64 p.to, .vs .some (bytesV p.b)], σ) := by
  obtain ⟨k, rfl⟩ : ∃ m, k = m + 1 := ⟨k - 1, by omega⟩
  obtain ⟨T1, σ1, q, e1, e2, _, _, _, e3⟩ := copyPacket_exec (k := k) (σ := AMem.empty) p (by omega)
  obtain ⟨seen, hs⟩ := snapT_pkM (σ := σ1) 9 e3
  have hsn : snapL (snapF false σ snapDepth) [.agg (stM p r)] = some ([pkV p], [r] ++ []) := by
    have := sent_snapL (σ := σ) 9 [(p, r)] (by intro x hx; simp only [List.mem_singleton] at hx; subst hx; exact ⟨hb, h2, hv⟩)
    simp only [List.map_cons, List.map_nil, List.flatten_cons, List.flatten_nil, List.append_nil] at this
    have h3 : snapF false σ snapDepth (.agg (stM p r)) = some (pkV p, [r]) := by
      show (snapL (snapF false σ 11) (stM p r)).map (fun (l, a) => (AVal.agg l, a)) = _
      rw [this]; rfl
    simp only [snapL, h3]
  exact pureCall_of hsn (memo24 _) (pureRun_of fn24 rfl (by simp [Tryz.f24]) e1 (by simp) e2 hs)
end Go.Proofs.YtikhidpcaefjiaaGreatDoor
