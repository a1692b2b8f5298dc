/- Chunks as arguments: how they read. -/
import Derived.Test.YtkamjhhodnmoiaaGreatDoorG0
import Derived.Test.YtkamjhhodnmoiaaGreatDoorPaleRead
set_option linter.unusedVariables false
namespace Go.Proofs.YtkamjhhodnmoiaaGreatDoor
open Go Go.Proofs.YtkamjhhodnmoiaaGreatDoor.Pale
variable {P : Program} {tl tc tb tu ti n : Nat}

structure Ck where
  name : Int
  at_ : Int
  of : Int
  vk : VK
  d : List Nat
def ckV (c : Ck) : AVal := .agg [.int .i64 c.name, .int .i64 c.at_, .int .i64 c.of, .vs c.vk (bytesV c.d)]
theorem ck_get {l : List Ck} {i : Nat} (hi : i < l.length) : (l.map ckV)[i]? = some (.agg [.int .i64 l[i].name, .int .i64 l[i].at_, .int .i64 l[i].of, .vs l[i].vk (bytesV l[i].d)]) := by rw [List.getElem?_map, List.getElem?_eq_getElem hi]; rfl

theorem elem_chunk {x : AVal} (hc : rkOf P tc = .agg [(ti, 0), (ti, 1), (ti, 2), (tb, 3)]) (cc : P.cellsOf tc = 4) (ci : P.cellsOf ti = 1) (cb : P.cellsOf tb = 1) (hi : rkOf P ti = .int .i64) (hb : rkOf P tb = .slice tu) (hu : rkOf P tu = .int .u8) (h : ElemFit P n tc x) : ∃ c : Ck, x = ckV c ∧ ∀ b, b ∈ c.d → b < 256 := by
  obtain ⟨cs, m, rfl, hlen, hall⟩ := elem_agg hc h
  rw [cc] at hlen
  obtain ⟨a, b, c, d, rfl⟩ : ∃ a b c d, cs = [a, b, c, d] := by
    match cs, hlen with
    | [a, b, c, d], _ => exact ⟨a, b, c, d, rfl⟩
  have h0 := hall (ti, 0) (by simp)
  have h1 := hall (ti, 1) (by simp)
  have h2 := hall (ti, 2) (by simp)
  have h3 := hall (tb, 3) (by simp)
  simp only [ci, cb, List.drop_zero, List.drop_succ_cons, List.take_succ_cons, List.take_zero] at h0 h1 h2 h3
  obtain ⟨x, e0, _⟩ := fit_int hi h0
  obtain ⟨y, e1, _⟩ := fit_int hi h1
  obtain ⟨z, e2, _⟩ := fit_int hi h2
  obtain ⟨vk, bs, e3, _, _, e4⟩ := fit_bytes hb hu h3
  simp only [List.cons.injEq, and_true] at e0 e1 e2 e3
  subst e0; subst e1; subst e2; subst e3
  exact ⟨⟨x, y, z, vk, bs⟩, rfl, e4⟩
theorem elem_chunks {x : AVal} (hl : rkOf P tl = .slice tc) (hc : rkOf P tc = .agg [(ti, 0), (ti, 1), (ti, 2), (tb, 3)]) (cc : P.cellsOf tc = 4) (ci : P.cellsOf ti = 1) (cb : P.cellsOf tb = 1) (hi : rkOf P ti = .int .i64) (hb : rkOf P tb = .slice tu) (hu : rkOf P tu = .int .u8) (h : ElemFit P n tl x) : ∃ (vk : VK) (cs : List Ck), x = .vs vk (cs.map ckV) := by
  obtain ⟨m, vk, es, rfl, _, _, _, h2⟩ := elem_slice hl h
  obtain ⟨cs, rfl, _⟩ := list_form (f := ckV) (Q := fun c => ∀ b, b ∈ c.d → b < 256) es (fun x hx => elem_chunk hc cc ci cb hi hb hu (h2 x hx))
  exact ⟨vk, cs, rfl⟩
end Go.Proofs.YtkamjhhodnmoiaaGreatDoor
