/- The abstract machine against the model: what any argument reads as, by its type. -/
import Derived.Test.YtjckhhkhgjbpaaaGreatDoorPaleArgs
import Derived.ChangeArms
import Derived.OpenShut
import Derived.ChangeMaps5
set_option linter.unusedVariables false
namespace Go.Proofs.YtjckhhkhgjbpaaaGreatDoor.Pale
open Go Go.RowKit

/-- What a type is made of; the parts of a struct or an array with where they lie. -/
inductive RK where
  | bool
  | int (k : IntKind)
  | str
  | slice (e : Nat)
  | agg (l : List (Nat × Nat))
  | no
def rkOf (P : Program) (t : Nat) : RK := match P.underlying t with
  | some .bool => .bool
  | some (.int k) => .int k
  | some .string => .str
  | some (.slice e) => .slice e
  | some (.struct fs) => .agg (fs.toList.map fun f => (f.type, f.offset))
  | some (.array n e) => .agg ((List.range n).map fun i => (e, i * P.cellsOf e))
  | _ => .no
def tilesB (P : Program) : Nat → List (Nat × Nat) → Nat → Bool
  | o, [], tot => o == tot
  | o, a :: l, tot => a.2 == o && tilesB P (o + P.cellsOf a.1) l tot
/-- These types are made of each other. -/
def supB (P : Program) (T : List Nat) : Bool := T.all fun t => match rkOf P t with
  | .bool => P.cellsOf t == 1
  | .int _ => P.cellsOf t == 1
  | .str => P.cellsOf t == 1
  | .slice e => P.cellsOf t == 1 && T.contains e && decide (0 < P.cellsOf e)
  | .agg l => (l.all fun a => T.contains a.1) && tilesB P 0 l (P.cellsOf t)
  | .no => false

/-- Cells that are of a type. -/
def CellsFit (P : Program) : Nat → Nat → List AVal → Prop
  | 0, _, _ => False
  | n + 1, t, cs => match rkOf P t with
    | .bool => ∃ b, cs = [.bool b]
    | .int k => ∃ z, cs = [.int k z] ∧ (Lit.int k z).wf = true
    | .str => ∃ s, cs = [.str s]
    | .slice e => ∃ vk es, cs = [.vs vk es] ∧ (vk = .nil → es = []) ∧ vk ≠ .zero ∧ es.length ≤ maxLen ∧ ∀ x, x ∈ es → match rkOf P e with
      | .agg _ => ∃ c, x = .agg c ∧ CellsFit P n e c
      | _ => CellsFit P n e [x]
    | .agg l => cs.length = P.cellsOf t ∧ ∀ a, a ∈ l → CellsFit P n a.1 ((cs.drop a.2).take (P.cellsOf a.1))
    | .no => False
/-- A value that is of a type. -/
def ElemFit (P : Program) (n t : Nat) (x : AVal) : Prop := match rkOf P t with
  | .agg _ => ∃ c, x = .agg c ∧ CellsFit P n t c
  | _ => CellsFit P n t [x]

theorem PAtL_mk {w : World} {ro : Nat → Prop} {b : Nat} (hb : ro b) : ∀ (cs : List AVal) (l : List Value) (o : Nat), PRelL w ro cs l → (∀ j x, l[j]? = some x → w.cell? ⟨b, o + j, none⟩ = some x) → PAtL w ro b o cs := by
  intro cs
  induction cs with
  | nil => intro l o _ _; simp [PAtL]
  | cons c cs ih =>
    intro l o h hc
    obtain ⟨x, xs, rfl, h1, h2⟩ := h
    simp only [PAtL]
    refine ⟨⟨hb, x, by have := hc 0 x rfl; simpa using this, h1⟩, ih xs (o + 1) h2 fun j y hj => ?_⟩
    have := hc (j + 1) y (by simpa using hj)
    rwa [show o + 1 + j = o + (j + 1) by omega]

theorem PRelL_append {w : World} {ro : Nat → Prop} : ∀ (a b : List AVal) (l m : List Value), PRelL w ro a l → PRelL w ro b m → PRelL w ro (a ++ b) (l ++ m) := by
  intro a
  induction a with
  | nil => intro b l m h hm; simp only [PRelL] at h; subst h; exact hm
  | cons x a ih =>
    intro b l m h hm
    obtain ⟨v, vs, rfl, h1, h2⟩ := h
    exact ⟨v, vs ++ m, rfl, h1, ih b vs m h2 hm⟩

section
variable {P : Program} {T : List Nat}

theorem sup_of (hT : supB P T = true) {t : Nat} (ht : t ∈ T) : (match rkOf P t with
  | .bool => P.cellsOf t == 1
  | .int _ => P.cellsOf t == 1
  | .str => P.cellsOf t == 1
  | .slice e => P.cellsOf t == 1 && T.contains e && decide (0 < P.cellsOf e)
  | .agg l => (l.all fun a => T.contains a.1) && tilesB P 0 l (P.cellsOf t)
  | .no => false) = true := (List.all_eq_true.1 hT) t ht

theorem fit_length (hT : supB P T = true) {n t : Nat} {cs : List AVal} (ht : t ∈ T) (h : CellsFit P n t cs) : cs.length = P.cellsOf t := by
  have hs := sup_of hT ht
  cases n with
  | zero => simp [CellsFit] at h
  | succ n =>
    unfold CellsFit at h
    split at h
    · rename_i hk; rw [hk] at hs; obtain ⟨b, rfl⟩ := h; simp at hs; simp [hs]
    · rename_i hk; rw [hk] at hs; obtain ⟨b, rfl, _⟩ := h; simp at hs; simp [hs]
    · rename_i hk; rw [hk] at hs; obtain ⟨b, rfl⟩ := h; simp at hs; simp [hs]
    · rename_i hk; rw [hk] at hs; obtain ⟨a, b, rfl, _⟩ := h; simp at hs; simp [hs]
    · exact h.1
    · exact h.elim

/-- The elements of a slice, one by one. -/
theorem elems_build (hT : supB P T = true) {W : World} {ro : Nat → Prop} {n e b : Nat} (he : e ∈ T) (hro : ∀ len, 0 < len → ro b) : ∀ (len off : Nat),
    (∀ i, i < len → ∃ acs cs', PRelL W ro acs cs' ∧ CellsFit P n e acs ∧ ∀ j x, cs'[j]? = some x → W.cell? ⟨b, off + i * P.cellsOf e + j, none⟩ = some x) →
    ∃ es : List AVal, es.length = len ∧ PRelE W ro (P.cellsOf e) b off es ∧ ∀ x, x ∈ es → ElemFit P n e x := by
  intro len
  induction len with
  | zero => intro off _; exact ⟨[], rfl, by simp [PRelE], by simp⟩
  | succ len ih =>
    intro off h
    obtain ⟨acs, cs', h1, h2, h3⟩ := h 0 (by omega)
    obtain ⟨es, e1, e2, e3⟩ := ih (off + P.cellsOf e) (fun i hi => by
      obtain ⟨acs, cs', g1, g2, g3⟩ := h (i + 1) (by omega)
      refine ⟨acs, cs', g1, g2, fun j x hj => ?_⟩
      have := g3 j x hj
      rwa [show off + P.cellsOf e + i * P.cellsOf e + j = off + (i + 1) * P.cellsOf e + j by rw [Nat.add_mul]; omega])
    have hlen := fit_length hT he h2
    have hs := sup_of hT he
    have hb := hro 1 (by omega)
    simp only [Nat.zero_mul, Nat.add_zero] at h3
    have single : ∀ a, acs = [a] → (∀ c, a ≠ .agg c) → P.cellsOf e = 1 → (∀ l, rkOf P e ≠ .agg l) → ∃ es : List AVal, es.length = len + 1 ∧ PRelE W ro (P.cellsOf e) b off es ∧ ∀ x, x ∈ es → ElemFit P n e x := by
      rintro a rfl hna hc1 hk
      obtain ⟨x, xs, rfl, g1, g2⟩ := h1
      refine ⟨a :: es, by simp [e1], ?_, ?_⟩
      · have : PRelE W ro (P.cellsOf e) b off (a :: es) = ((P.cellsOf e = 1 ∧ ro b ∧ ∃ x, W.cell? ⟨b, off, none⟩ = some x ∧ PRel W ro a x) ∧ PRelE W ro (P.cellsOf e) b (off + P.cellsOf e) es) := by
          cases a <;> first | rfl | exact absurd rfl (hna _) | simp only [PRelE]
        rw [this]
        exact ⟨⟨hc1, hb, x, by have := h3 0 x rfl; simpa using this, g1⟩, e2⟩
      · intro y hy
        rcases List.mem_cons.1 hy with rfl | hy
        · unfold ElemFit
          split
          · rename_i hk2; exact absurd hk2 (hk _)
          · exact h2
        · exact e3 y hy
    cases n with
    | zero => simp [CellsFit] at h2
    | succ n =>
      have h2' := h2
      unfold CellsFit at h2'
      split at h2'
      · rename_i hk; rw [hk] at hs; obtain ⟨z, hz⟩ := h2'; exact single _ hz (by intro c hc; cases hc) (by simpa using hs) (by rw [hk]; intro l hl; cases hl)
      · rename_i hk; rw [hk] at hs; obtain ⟨z, hz, _⟩ := h2'; exact single _ hz (by intro c hc; cases hc) (by simpa using hs) (by rw [hk]; intro l hl; cases hl)
      · rename_i hk; rw [hk] at hs; obtain ⟨z, hz⟩ := h2'; exact single _ hz (by intro c hc; cases hc) (by simpa using hs) (by rw [hk]; intro l hl; cases hl)
      · rename_i hk; rw [hk] at hs; obtain ⟨z, y, hz, _⟩ := h2'; exact single _ hz (by intro c hc; cases hc) (by simp at hs; exact hs.1.1) (by rw [hk]; intro l hl; cases hl)
      · rename_i l hk
        refine ⟨.agg acs :: es, by simp [e1], ?_, ?_⟩
        · simp only [PRelE]
          exact ⟨⟨hlen, PAtL_mk hb acs cs' off h1 h3⟩, e2⟩
        · intro y hy
          rcases List.mem_cons.1 hy with rfl | hy
          · unfold ElemFit
            rw [hk]
            exact ⟨acs, rfl, h2⟩
          · exact e3 y hy
      · exact h2'.elim

theorem cell_spot {w : World} {a : Addr} {x : Value} (h : w.cell? a = some x) : a.spot = none ∧ a.block < w.heap.size := by
  unfold World.cell? at h
  split at h
  · rename_i hb
    split at h
    · cases h
    · rename_i hs
      exact ⟨by simpa using hs, (Array.getElem?_eq_some_iff.1 hb).1⟩
  · cases h

theorem read_cells {H : Type} {enc : TypeId × Value → H} {W : World} {sp : Nat → Bool} {held : Bool} (hT : supB P T = true) : ∀ (n t : Nat) (cs : List Value) (x : DataW H × List MemPlace), t ∈ T →
    DataW.trod enc P W 0 sp held n t cs = some x → ∃ acs, PRelL W (fun b => b < W.heap.size) acs cs ∧ CellsFit P n t acs := by
  intro n
  induction n with
  | zero => intro t cs x _ h; simp [DataW.trod] at h
  | succ n ih =>
    intro t cs x ht h
    have hs := sup_of hT ht
    unfold CellsFit
    cases hu : P.underlying t with
    | none => simp [rkOf, hu] at hs
    | some td =>
      have hrk : rkOf P t = (match some td with
        | some .bool => RK.bool
        | some (.int k) => .int k
        | some .string => .str
        | some (.slice e) => .slice e
        | some (.struct fs) => .agg (fs.toList.map fun f => (f.type, f.offset))
        | some (.array n e) => .agg ((List.range n).map fun i => (e, i * P.cellsOf e))
        | _ => .no) := by rw [← hu]; rfl
      have agg : ∀ l : List (Nat × Nat), rkOf P t = .agg l → cs.length = P.cellsOf t → (∀ a, a ∈ l → ∃ y, DataW.trod enc P W 0 sp held n a.1 ((cs.drop a.2).take (P.cellsOf a.1)) = some y) →
          ∃ acs, PRelL W (fun b => b < W.heap.size) acs cs ∧ acs.length = P.cellsOf t ∧ ∀ a, a ∈ l → CellsFit P n a.1 ((acs.drop a.2).take (P.cellsOf a.1)) := by
        intro l hl hlen hparts
        rw [hl] at hs
        simp only [Bool.and_eq_true, List.all_eq_true] at hs
        obtain ⟨hs1, hs2⟩ := hs
        have go : ∀ (l : List (Nat × Nat)) (o : Nat), (∀ a, a ∈ l → a.1 ∈ T) → tilesB P o l (P.cellsOf t) = true → (∀ a, a ∈ l → ∃ y, DataW.trod enc P W 0 sp held n a.1 ((cs.drop a.2).take (P.cellsOf a.1)) = some y) →
            ∃ acs, PRelL W (fun b => b < W.heap.size) acs (cs.drop o) ∧ ∀ a, a ∈ l → o ≤ a.2 ∧ CellsFit P n a.1 ((acs.drop (a.2 - o)).take (P.cellsOf a.1)) := by
          intro l
          induction l with
          | nil =>
            intro o _ htl _
            simp only [tilesB, beq_iff_eq] at htl
            refine ⟨[], ?_, by simp⟩
            rw [htl, ← hlen, List.drop_length]
            simp [PRelL]
          | cons a l ihl =>
            intro o hin htl hp
            simp only [tilesB, Bool.and_eq_true, beq_iff_eq] at htl
            obtain ⟨htl1, htl2⟩ := htl
            obtain ⟨y, hy⟩ := hp a (by simp)
            obtain ⟨acs0, g1, g2⟩ := ih _ _ _ (hin a (by simp)) hy
            obtain ⟨acs1, g3, g4⟩ := ihl (o + P.cellsOf a.1) (fun b hb => hin b (by simp [hb])) htl2 (fun b hb => hp b (by simp [hb]))
            have hl0 := fit_length hT (hin a (by simp)) g2
            refine ⟨acs0 ++ acs1, ?_, ?_⟩
            · have hd : cs.drop o = (cs.drop a.2).take (P.cellsOf a.1) ++ cs.drop (o + P.cellsOf a.1) := by
                rw [htl1, ← List.drop_drop, List.take_append_drop]
              rw [hd]
              exact PRelL_append _ _ _ _ g1 g3
            · intro b hb
              rcases List.mem_cons.1 hb with rfl | hb
              · refine ⟨by omega, ?_⟩
                rw [htl1, Nat.sub_self, List.drop_zero, ← hl0, List.take_left]
                exact g2
              · obtain ⟨q1, q2⟩ := g4 b hb
                refine ⟨by omega, ?_⟩
                rw [show b.2 - o = acs0.length + (b.2 - (o + P.cellsOf a.1)) by omega, ← List.drop_drop, List.drop_left]
                exact q2
        obtain ⟨acs, g1, g2⟩ := go l 0 (fun a ha => by simpa using hs1 a ha) hs2 hparts
        rw [List.drop_zero] at g1
        refine ⟨acs, g1, ?_, fun a ha => by simpa using (g2 a ha).2⟩
        rw [← hlen, PRelL.length _ _ g1]
      cases td
      case bool =>
        rw [hrk]
        obtain ⟨b, rfl, _⟩ := DataW.trod_bool hu h
        exact ⟨[.bool b], ⟨_, _, rfl, rfl, rfl⟩, b, rfl⟩
      case int k =>
        rw [hrk]
        obtain ⟨z, rfl, _, hw⟩ := DataW.trod_int hu h
        exact ⟨[.int k z], ⟨_, _, rfl, rfl, rfl⟩, z, rfl, hw⟩
      case string =>
        rw [hrk]
        obtain ⟨s, rfl, _⟩ := DataW.trod_string hu h
        exact ⟨[.str s.data.toList], ⟨_, _, rfl, by simp [PRel], rfl⟩, _, rfl⟩
      case slice e =>
        rw [hrk] at hs ⊢
        simp only [Bool.and_eq_true, decide_eq_true_eq, beq_iff_eq] at hs
        obtain ⟨⟨hs1, hs2⟩, hs3⟩ := hs
        have he : e ∈ T := by simpa using hs2
        rcases DataW.trod_slice hu h with ⟨rfl, _⟩ | ⟨a, len, cap, elems, rest, m, hm, rfl, _, _, hle, hcap, hlen, hel, _⟩
        · exact ⟨[.vs .nil []], ⟨_, _, rfl, by simp [PRel], rfl⟩, .nil, [], rfl, fun _ => rfl, by simp, by simp, by simp⟩
        · obtain rfl : n = m := by omega
          have each : ∀ i, i < len → ∃ acs cs', PRelL W (fun b => b < W.heap.size) acs cs' ∧ CellsFit P n e acs ∧ cs'.length = P.cellsOf e ∧ ∀ j, j < P.cellsOf e → W.cell? ((a.add (i * P.cellsOf e)).add j) = cs'[j]? := by
            intro i hi
            have := hel i hi
            rw [List.getElem?_eq_getElem (by omega), Option.bind_eq_some_iff] at this
            obtain ⟨cs', h1, h2⟩ := this
            obtain ⟨acs, g1, g2⟩ := ih e cs' _ he h2
            obtain ⟨c1, c2, c3⟩ := World.cells?_some h1
            exact ⟨acs, cs', g1, g2, c2, fun j hj => c3 j hj⟩
          have hsp : 0 < len → a.spot = none ∧ a.block < W.heap.size := by
            intro h0
            obtain ⟨acs, cs', _, _, c2, c3⟩ := each 0 h0
            have := c3 0 hs3
            rw [List.getElem?_eq_getElem (by omega)] at this
            have e0 : (a.add (0 * P.cellsOf e)).add 0 = a := by simp [Addr.add]
            rw [e0] at this
            exact cell_spot this
          have hadd : 0 < len → ∀ i j, (a.add i).add j = ⟨a.block, a.off + i + j, none⟩ := by
            intro h0 i j
            have hs := (hsp h0).1
            obtain ⟨ab, ao, as⟩ := a
            simp only at hs
            subst hs
            simp only [Addr.add]
            split <;> split <;> simp_all <;> omega
          rcases Nat.eq_zero_or_pos len with h0 | h0
          · subst h0
            refine ⟨[.vs .some []], ⟨_, _, rfl, ?_, rfl⟩, .some, [], rfl, by simp, by simp, by simp, by simp⟩
            simp only [PRel]
            exact .inr (.inr ⟨by first | rfl | trivial, a, cap, 1, rfl, by simp, by simp, by simp [PRelE]⟩)
          · obtain ⟨es, e1, e2, e3⟩ := elems_build (P := P) (T := T) hT (W := W) (ro := fun b => b < W.heap.size) (n := n) (e := e) (b := a.block) he (fun _ _ => (hsp h0).2) len a.off (fun i hi => by
              obtain ⟨acs, cs', g1, g2, g3, g4⟩ := each i hi
              refine ⟨acs, cs', g1, g2, fun j x hj => ?_⟩
              have hjl := (List.getElem?_eq_some_iff.1 hj).1
              rw [← hj, ← g4 j (by omega), hadd h0])
            refine ⟨[.vs .some es], ⟨_, _, rfl, ?_, rfl⟩, .some, es, rfl, by simp, by simp, by omega, e3⟩
            simp only [PRel]
            exact .inr (.inr ⟨by first | rfl | trivial, a, cap, P.cellsOf e, by rw [e1], by omega, fun _ => (hsp h0).1, e2⟩)
      case struct fs =>
        have hl : rkOf P t = .agg (fs.toList.map fun f => (f.type, f.offset)) := hrk
        rw [hl]
        obtain ⟨xs, m, hm, _, hlen, hxl, hel⟩ := DataW.trod_struct hu h
        obtain rfl : n = m := by omega
        obtain ⟨acs, g1, g2, g3⟩ := agg _ hl hlen (fun a ha => by
          obtain ⟨f, hf, rfl⟩ := List.mem_map.1 ha
          obtain ⟨i, hi⟩ := List.getElem?_of_mem hf
          have hi' : fs[i]? = some f := by rw [← Array.getElem?_toList]; exact hi
          have hlt : i < xs.length := by rw [hxl]; exact (Array.getElem?_eq_some_iff.1 hi').1
          exact ⟨_, (hel i f hi').trans (List.getElem?_eq_getElem hlt)⟩)
        exact ⟨acs, g1, g2, g3⟩
      case array q e =>
        have hl : rkOf P t = .agg ((List.range q).map fun i => (e, i * P.cellsOf e)) := hrk
        rw [hl]
        obtain ⟨xs, m, hm, _, hlen, hxl, hel⟩ := DataW.trod_array hu h
        obtain rfl : n = m := by omega
        obtain ⟨acs, g1, g2, g3⟩ := agg _ hl hlen (fun a ha => by
          obtain ⟨i, hi, rfl⟩ := List.mem_map.1 ha
          have hi' : i < q := by simpa using hi
          exact ⟨_, (hel i hi').trans (List.getElem?_eq_getElem (by omega))⟩)
        exact ⟨acs, g1, g2, g3⟩
      all_goals (rw [hrk] at hs; simp at hs)

/-- AN ARGUMENT, WHATEVER ITS TYPE. -/
theorem read_arg {H : Type} {enc : TypeId × Value → H} {W : World} {r : Reach} {b0 : Nat} {sp : Nat → Bool} {held : Bool} (hT : supB P T = true) {t : TypeId} {v : Value} {d : DataW H} {ps : List MemPlace} (ht : t ∈ T)
    (hval : Value.okWide P W r b0 t v) (hd : DataW.Trod enc P W 0 sp held t v d ps) : ∃ n x, PRel W (fun b => b < W.heap.size) x v ∧ ElemFit P n t x := by
  obtain ⟨n, hf⟩ := hd
  obtain ⟨acs, h1, h2⟩ := read_cells hT n t _ _ ht hf
  unfold ElemFit
  have single : ∀ u, v = u → u.cells = #[u] → (∀ l, rkOf P t ≠ .agg l) → ∃ n x, PRel W (fun b => b < W.heap.size) x v ∧ (match rkOf P t with
      | .agg _ => ∃ c, x = .agg c ∧ CellsFit P n t c
      | _ => CellsFit P n t [x]) := by
    rintro u rfl hc hk
    rw [hc] at h1
    match acs, h1 with
    | [], h => simp [PRelL] at h
    | [a], ⟨x, xs, hx, g1, g2⟩ =>
      simp only [List.cons.injEq] at hx
      obtain ⟨rfl, _⟩ := hx
      refine ⟨n, a, g1, ?_⟩
      split
      · rename_i hk2; exact absurd hk2 (hk _)
      · exact h2
    | a :: b :: l, ⟨x, xs, hx, g1, y, ys, hy, g2, g3⟩ => simp only [List.cons.injEq] at hx; obtain ⟨_, rfl⟩ := hx; cases hy
  have whole : ∀ l, rkOf P t = .agg l → (∃ cs, v = .agg cs) → ∃ n x, PRel W (fun b => b < W.heap.size) x v ∧ (match rkOf P t with
      | .agg _ => ∃ c, x = .agg c ∧ CellsFit P n t c
      | _ => CellsFit P n t [x]) := by
    rintro l hl ⟨cs, rfl⟩
    rw [hl]
    exact ⟨n, .agg acs, ⟨cs.toList, by simp, h1⟩, acs, rfl, h2⟩
  have hs := sup_of hT ht
  cases hu : P.underlying t with
  | none => simp [rkOf, hu] at hs
  | some td =>
    cases td
    case bool =>
      obtain ⟨b, rfl, _⟩ := open_bool hu hval ⟨n, hf⟩
      exact single _ rfl rfl (by simp [rkOf, hu])
    case int k =>
      obtain ⟨b, rfl, _⟩ := ChangeShapes.open_int hu hval ⟨n, hf⟩
      exact single _ rfl rfl (by simp [rkOf, hu])
    case string =>
      have := ChangeMaps.open_string hu hval ⟨n, hf⟩
      obtain ⟨s, rfl, _⟩ := this
      exact single _ rfl rfl (by simp [rkOf, hu])
    case slice e =>
      obtain ⟨a, l, c, rfl⟩ := WideShapes.okWide_slice hu hval
      exact single _ rfl rfl (by simp [rkOf, hu])
    case struct fs =>
      obtain ⟨cs, rfl, _⟩ := WideShapes.okWide_struct hu hval
      exact whole _ (by simp only [rkOf, hu]; rfl) ⟨cs, rfl⟩
    case array q e =>
      have : ∃ cs, v = .agg cs := by
        unfold Value.okWide at hval
        rw [hu] at hval
        obtain ⟨cs, h, _⟩ := hval
        exact ⟨cs, h⟩
      exact whole _ (by simp only [rkOf, hu]; rfl) this
    all_goals (simp [rkOf, hu] at hs)

/-! ### how a fit is opened -/
theorem fit_int {n t : Nat} {cs : List AVal} {k : IntKind} (ht : rkOf P t = .int k) (h : CellsFit P n t cs) : ∃ z, cs = [.int k z] ∧ (Lit.int k z).wf = true := by
  cases n with
  | zero => simp [CellsFit] at h
  | succ n => unfold CellsFit at h; rw [ht] at h; exact h
theorem fit_bool {n t : Nat} {cs : List AVal} (ht : rkOf P t = .bool) (h : CellsFit P n t cs) : ∃ z, cs = [.bool z] := by
  cases n with
  | zero => simp [CellsFit] at h
  | succ n => unfold CellsFit at h; rw [ht] at h; exact h
theorem fit_slice {n t e : Nat} {cs : List AVal} (ht : rkOf P t = .slice e) (h : CellsFit P n t cs) : ∃ m vk es, cs = [.vs vk es] ∧ (vk = .nil → es = []) ∧ vk ≠ .zero ∧ es.length ≤ maxLen ∧ ∀ x, x ∈ es → ElemFit P m e x := by
  cases n with
  | zero => simp [CellsFit] at h
  | succ n => unfold CellsFit at h; rw [ht] at h; obtain ⟨vk, es, h⟩ := h; exact ⟨n, vk, es, h⟩
theorem fit_agg {n t : Nat} {cs : List AVal} {l : List (Nat × Nat)} (ht : rkOf P t = .agg l) (h : CellsFit P n t cs) : ∃ m, cs.length = P.cellsOf t ∧ ∀ a, a ∈ l → CellsFit P m a.1 ((cs.drop a.2).take (P.cellsOf a.1)) := by
  cases n with
  | zero => simp [CellsFit] at h
  | succ n => unfold CellsFit at h; rw [ht] at h; exact ⟨n, h⟩
theorem elem_agg {n t : Nat} {x : AVal} {l : List (Nat × Nat)} (ht : rkOf P t = .agg l) (h : ElemFit P n t x) : ∃ c m, x = .agg c ∧ c.length = P.cellsOf t ∧ ∀ a, a ∈ l → CellsFit P m a.1 ((c.drop a.2).take (P.cellsOf a.1)) := by
  unfold ElemFit at h
  rw [ht] at h
  obtain ⟨c, rfl, h⟩ := h
  obtain ⟨m, h1, h2⟩ := fit_agg ht h
  exact ⟨c, m, rfl, h1, h2⟩
theorem elem_int {n t : Nat} {x : AVal} {k : IntKind} (ht : rkOf P t = .int k) (h : ElemFit P n t x) : ∃ z, x = .int k z ∧ (Lit.int k z).wf = true := by
  unfold ElemFit at h
  rw [ht] at h
  obtain ⟨z, h1, h2⟩ := fit_int ht h
  exact ⟨z, by simpa using h1, h2⟩
theorem elem_bool {n t : Nat} {x : AVal} (ht : rkOf P t = .bool) (h : ElemFit P n t x) : ∃ z, x = .bool z := by
  unfold ElemFit at h
  rw [ht] at h
  obtain ⟨z, h1⟩ := fit_bool ht h
  exact ⟨z, by simpa using h1⟩
theorem elem_slice {n t e : Nat} {x : AVal} (ht : rkOf P t = .slice e) (h : ElemFit P n t x) : ∃ m vk es, x = .vs vk es ∧ (vk = .nil → es = []) ∧ vk ≠ .zero ∧ es.length ≤ maxLen ∧ ∀ x, x ∈ es → ElemFit P m e x := by
  unfold ElemFit at h
  rw [ht] at h
  obtain ⟨m, vk, es, h1, h2⟩ := fit_slice ht h
  exact ⟨m, vk, es, by simpa using h1, h2⟩
/-- A list of things of one form, as the image of a list. -/
theorem list_form {α : Type} {f : α → AVal} {Q : α → Prop} : ∀ (es : List AVal), (∀ x, x ∈ es → ∃ a, x = f a ∧ Q a) → ∃ l : List α, es = l.map f ∧ ∀ a, a ∈ l → Q a := by
  intro es
  induction es with
  | nil => intro _; exact ⟨[], rfl, by simp⟩
  | cons x es ih =>
    intro h
    obtain ⟨a, rfl, ha⟩ := h x (by simp)
    obtain ⟨l, rfl, hl⟩ := ih (fun y hy => h y (by simp [hy]))
    exact ⟨a :: l, rfl, by intro b hb; rcases List.mem_cons.1 hb with rfl | hb; exact ha; exact hl b hb⟩
theorem u8_range {z : Int} (h : (Lit.int .u8 z).wf = true) : 0 ≤ z ∧ z ≤ 255 := by
  simp only [Lit.wf, Bool.and_eq_true, decide_eq_true_eq] at h
  have e1 : IntKind.u8.min = 0 := by rfl
  have e2 : IntKind.u8.max = 255 := by rfl
  rw [e1, e2] at h
  exact h
theorem i64_range {z : Int} (h : (Lit.int .i64 z).wf = true) : -9223372036854775808 ≤ z ∧ z ≤ 9223372036854775807 := by
  simp only [Lit.wf, Bool.and_eq_true, decide_eq_true_eq] at h
  have e1 : IntKind.i64.min = -9223372036854775808 := by rfl
  have e2 : IntKind.i64.max = 9223372036854775807 := by rfl
  rw [e1, e2] at h
  exact h
theorem fit_bytes {n t e : Nat} {cs : List AVal} (ht : rkOf P t = .slice e) (he : rkOf P e = .int .u8) (h : CellsFit P n t cs) : ∃ vk bs, cs = [.vs vk (bytesV bs)] ∧ (vk = .nil → bs = []) ∧ vk ≠ .zero ∧ ∀ b, b ∈ bs → b < 256 := by
  obtain ⟨m, vk, es, rfl, h1, h2, _, h3⟩ := fit_slice ht h
  obtain ⟨bs, rfl, hb⟩ := list_form (f := fun (b : Nat) => AVal.int .u8 b) (Q := fun b => b < 256) es (fun x hx => by
    obtain ⟨z, rfl, hz⟩ := elem_int he (h3 x hx)
    have := u8_range hz
    exact ⟨z.toNat, by rw [Int.toNat_of_nonneg this.1], by omega⟩)
  exact ⟨vk, bs, rfl, fun hv => by have := h1 hv; simpa using this, h2, hb⟩
end
end Go.Proofs.YtjckhhkhgjbpaaaGreatDoor.Pale
