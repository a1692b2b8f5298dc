/- Packets, nets and moves as arguments: how they read. -/
import Derived.Test.YtikhidpcaefjiaaGreatDoorC1
import Derived.Test.YtikhidpcaefjiaaGreatDoorPaleRead
set_option linter.unusedVariables false
namespace Go.Proofs.YtikhidpcaefjiaaGreatDoor
open Go Go.Proofs.YtikhidpcaefjiaaGreatDoor.Pale
variable {P : Program} {tn tl tp tb tu ti n : Nat}

theorem fit_packet {cs : List AVal} (hp : rkOf P tp = .agg [(ti, 0), (ti, 1), (tb, 2)]) (cp3 : P.cellsOf tp = 3) (ci : P.cellsOf ti = 1) (cb : P.cellsOf tb = 1) (hi : rkOf P ti = .int .i64) (hb : rkOf P tb = .slice tu) (hu : rkOf P tu = .int .u8) (h : CellsFit P n tp cs) : ∃ p : Pk, cs = pkC p ∧ ∀ b, b ∈ p.b → b < 256 := by
  obtain ⟨m, hlen, hall⟩ := fit_agg hp h
  rw [cp3] at hlen
  obtain ⟨a, b, c, rfl⟩ : ∃ a b c, cs = [a, b, c] := by
    match cs, hlen with
    | [a, b, c], _ => exact ⟨a, b, c, rfl⟩
  have h0 := hall (ti, 0) (by simp)
  have h1 := hall (ti, 1) (by simp)
  have h2 := hall (tb, 2) (by simp)
  simp only [ci, cb, List.drop_zero, List.drop_succ_cons, List.take_succ_cons, List.take_zero] at h0 h1 h2
  obtain ⟨x, e0, _⟩ := fit_int hi h0
  obtain ⟨y, e1, _⟩ := fit_int hi h1
  obtain ⟨vk, bs, e2, _, _, e3⟩ := fit_bytes hb hu h2
  simp only [List.cons.injEq, and_true] at e0 e1 e2
  subst e0; subst e1; subst e2
  exact ⟨⟨x, y, vk, bs⟩, rfl, e3⟩
theorem elem_packet {x : AVal} (hp : rkOf P tp = .agg [(ti, 0), (ti, 1), (tb, 2)]) (cp3 : P.cellsOf tp = 3) (ci : P.cellsOf ti = 1) (cb : P.cellsOf tb = 1) (hi : rkOf P ti = .int .i64) (hb : rkOf P tb = .slice tu) (hu : rkOf P tu = .int .u8) (h : ElemFit P n tp x) : ∃ p : Pk, x = pkV p ∧ ∀ b, b ∈ p.b → b < 256 := by
  unfold ElemFit at h
  rw [hp] at h
  obtain ⟨c, rfl, h⟩ := h
  obtain ⟨p, rfl, hb⟩ := fit_packet hp cp3 ci cb hi hb hu h
  exact ⟨p, rfl, hb⟩
theorem elem_net {x : AVal} (hn : rkOf P tn = .agg [(ti, 0), (tl, 1)]) (cn : P.cellsOf tn = 2) (cl : P.cellsOf tl = 1) (hl : rkOf P tl = .slice tp) (hp : rkOf P tp = .agg [(ti, 0), (ti, 1), (tb, 2)]) (cp3 : P.cellsOf tp = 3) (ci : P.cellsOf ti = 1) (cb : P.cellsOf tb = 1) (hi : rkOf P ti = .int .i64) (hb : rkOf P tb = .slice tu) (hu : rkOf P tu = .int .u8)
    (h : ElemFit P n tn x) : ∃ (h : Int) (vk : VK) (ps : List Pk), x = .agg [.int .i64 h, .vs vk (ps.map pkV)] ∧ ∀ p, p ∈ ps → ∀ b, b ∈ p.b → b < 256 := by
  obtain ⟨cs, m, rfl, hlen, hall⟩ := elem_agg hn h
  rw [cn] at hlen
  obtain ⟨a, b, rfl⟩ : ∃ a b, cs = [a, b] := by
    match cs, hlen with
    | [a, b], _ => exact ⟨a, b, rfl⟩
  have h0 := hall (ti, 0) (by simp)
  have h1 := hall (tl, 1) (by simp)
  simp only [ci, cl, List.drop_zero, List.drop_succ_cons, List.take_succ_cons, List.take_zero] at h0 h1
  obtain ⟨x, e0, _⟩ := fit_int hi h0
  obtain ⟨m2, vk, es, e1, _, _, _, h2⟩ := fit_slice hl h1
  simp only [List.cons.injEq, and_true] at e0 e1
  subst e0; subst e1
  obtain ⟨ps, rfl, hq⟩ := list_form (f := pkV) (Q := fun p => ∀ b, b ∈ p.b → b < 256) es (fun x hx => elem_packet hp cp3 ci cb hi hb hu (h2 x hx))
  exact ⟨x, vk, ps, rfl, hq⟩
end Go.Proofs.YtikhidpcaefjiaaGreatDoor
