/- Lists of spans as sets of numbers, and words of 64 bits: no program in sight. -/
import Derived.Test.YtoomnecfapihaaaGreatDoorPaleList
set_option maxRecDepth 100000
set_option linter.unusedSimpArgs false
set_option linter.unusedVariables false
namespace Go.Proofs.YtoomnecfapihaaaGreatDoor
open Go Go.Proofs.YtoomnecfapihaaaGreatDoor.Pale

abbrev Sp := Int × Int
def inSp (l : List Sp) (m : Int) : Bool := l.any fun s => decide (s.1 ≤ m) && decide (m ≤ s.2)
def okS (s : Sp) : Prop := 1 ≤ s.1 ∧ s.1 ≤ s.2 ∧ s.2 ≤ 60
def OkSp (l : List Sp) : Prop := (∀ s, s ∈ l → okS s) ∧ l.Pairwise fun a b => a.2 + 2 ≤ b.1
/-- How far a list goes. -/
def lastTo (l : List Sp) : Int := ((l.getLast?).map (·.2)).getD (-1)

theorem nil_or_snoc {α : Type} (l : List α) : l = [] ∨ ∃ m s, l = m ++ [s] := by
  rcases List.eq_nil_or_concat l with h | ⟨m, s, h⟩
  · exact .inl h
  · exact .inr ⟨m, s, by rw [h, List.concat_eq_append]⟩
theorem OkSp.nil : OkSp [] := ⟨by simp, by simp⟩
theorem lastTo_snoc (l : List Sp) (s : Sp) : lastTo (l ++ [s]) = s.2 := by simp [lastTo]
theorem lastTo_bound {l : List Sp} (h : OkSp l) : (∀ a, a ∈ l → a.2 ≤ lastTo l) ∧ -1 ≤ lastTo l ∧ lastTo l ≤ 60 := by
  rcases nil_or_snoc l with rfl | ⟨l, s, rfl⟩
  · simp [lastTo]
  · rw [lastTo_snoc]
    obtain ⟨h1, h2⟩ := h
    rw [List.pairwise_append] at h2
    have hs := h1 s (by simp)
    unfold okS at hs
    refine ⟨fun a ha => ?_, by omega, by omega⟩
    rcases List.mem_append.1 ha with ha | ha
    · have := h2.2.2 a ha s (by simp)
      omega
    · simp only [List.mem_singleton] at ha
      subst ha
      omega
theorem ok_snoc (l : List Sp) (s : Sp) : OkSp (l ++ [s]) ↔ OkSp l ∧ okS s ∧ (∀ a, a ∈ l → a.2 + 2 ≤ s.1) := by
  unfold OkSp
  constructor
  · rintro ⟨h1, h2⟩
    rw [List.pairwise_append] at h2
    exact ⟨⟨fun x hx => h1 x (by simp [hx]), h2.1⟩, h1 s (by simp), fun a ha => h2.2.2 a ha s (by simp)⟩
  · rintro ⟨⟨h1, h2⟩, h3, h4⟩
    refine ⟨fun x hx => ?_, ?_⟩
    · rcases List.mem_append.1 hx with hx | hx
      · exact h1 x hx
      · simp only [List.mem_singleton] at hx
        subst hx
        exact h3
    · rw [List.pairwise_append]
      refine ⟨h2, by simp, fun a ha b hb => ?_⟩
      simp only [List.mem_singleton] at hb
      subst hb
      exact h4 a ha
theorem ok_last {l : List Sp} (h : OkSp l) (s : Sp) : OkSp (l ++ [s]) ↔ okS s ∧ lastTo l + 2 ≤ s.1 := by
  rw [ok_snoc]
  have hb := lastTo_bound h
  constructor
  · rintro ⟨_, h1, h2⟩
    refine ⟨h1, ?_⟩
    rcases nil_or_snoc l with rfl | ⟨l, t, rfl⟩
    · have := h1.1
      simp [lastTo]
      omega
    · rw [lastTo_snoc]
      exact h2 t (by simp)
  · rintro ⟨h1, h2⟩
    exact ⟨h, h1, fun a ha => by have := hb.1 a ha; omega⟩
theorem ok_take {l : List Sp} (h : OkSp l) (n : Nat) : OkSp (l.take n) :=
  ⟨fun s hs => h.1 s (List.mem_of_mem_take hs), List.Pairwise.sublist (List.take_sublist n l) h.2⟩
theorem ok_app {l m : List Sp} (h : OkSp (l ++ m)) : OkSp l := ⟨fun s hs => h.1 s (by simp [hs]), (List.pairwise_append.1 h.2).1⟩
theorem inSp_iff {l : List Sp} {m : Int} : inSp l m = true ↔ ∃ s, s ∈ l ∧ s.1 ≤ m ∧ m ≤ s.2 := by
  unfold inSp
  rw [List.any_eq_true]
  constructor
  · rintro ⟨s, hs, h⟩
    simp only [Bool.and_eq_true, decide_eq_true_eq] at h
    exact ⟨s, hs, h⟩
  · rintro ⟨s, hs, h⟩
    exact ⟨s, hs, by simp only [Bool.and_eq_true, decide_eq_true_eq]; exact h⟩
theorem inSp_range {l : List Sp} (h : OkSp l) {m : Int} (hm : inSp l m = true) : 1 ≤ m ∧ m ≤ 60 := by
  obtain ⟨s, hs, h1⟩ := inSp_iff.1 hm
  have := h.1 s hs
  unfold okS at this
  omega
/-- Two lists that are right and have the same numbers are the same. -/
theorem ok_ext : ∀ {a b : List Sp}, OkSp a → OkSp b → (∀ m, inSp a m = inSp b m) → a = b := by
  intro a
  induction a with
  | nil =>
    intro b _ hb h
    cases b with
    | nil => rfl
    | cons s b =>
      exfalso
      have hs := hb.1 s (by simp)
      have := h s.1
      rw [show inSp (s :: b) s.1 = true from inSp_iff.2 ⟨s, by simp, Int.le_refl _, hs.2.1⟩] at this
      cases this
  | cons x a ih =>
    intro b ha hb h
    cases b with
    | nil =>
      exfalso
      have hs := ha.1 x (by simp)
      have := h x.1
      rw [show inSp (x :: a) x.1 = true from inSp_iff.2 ⟨x, by simp, Int.le_refl _, hs.2.1⟩] at this
      cases this
    | cons y b =>
      obtain ⟨ha1, ha2⟩ := ha
      obtain ⟨hb1, hb2⟩ := hb
      rw [List.pairwise_cons] at ha2 hb2
      have hx := ha1 x (by simp)
      have hy := hb1 y (by simp)
      unfold okS at hx hy
      have low : ∀ (z : Sp) (c : List Sp), (∀ w, w ∈ c → z.2 + 2 ≤ w.1) → ∀ m, inSp (z :: c) m = true → z.1 ≤ m ∨ z.2 + 2 ≤ m := by
        intro z c hc m hm
        obtain ⟨w, hw, h1⟩ := inSp_iff.1 hm
        rcases List.mem_cons.1 hw with rfl | hw
        · exact .inl h1.1
        · have := hc w hw
          exact .inr (by omega)
      have gap : ∀ (z : Sp) (c : List Sp), (∀ w, w ∈ c → z.2 + 2 ≤ w.1) → inSp (z :: c) (z.2 + 1) = false := by
        intro z c hc
        rw [Bool.eq_false_iff]
        intro hm
        obtain ⟨w, hw, h1⟩ := inSp_iff.1 hm
        rcases List.mem_cons.1 hw with rfl | hw
        · omega
        · have := hc w hw
          omega
      have inx : ∀ m, x.1 ≤ m → m ≤ x.2 → inSp (x :: a) m = true := fun m h1 h2 => inSp_iff.2 ⟨x, by simp, h1, h2⟩
      have iny : ∀ m, y.1 ≤ m → m ≤ y.2 → inSp (y :: b) m = true := fun m h1 h2 => inSp_iff.2 ⟨y, by simp, h1, h2⟩
      have e1 : x.1 = y.1 := by
        have h1 := low y b hb2.1 x.1 (by rw [← h]; exact inx _ (Int.le_refl _) hx.2.1)
        have h2 := low x a ha2.1 y.1 (by rw [h]; exact iny _ (Int.le_refl _) hy.2.1)
        omega
      have e2 : x.2 = y.2 := by
        rcases Int.lt_trichotomy x.2 y.2 with hlt | heq | hgt
        · exfalso
          have h1 := iny (x.2 + 1) (by omega) (by omega)
          rw [← h, gap x a ha2.1] at h1
          cases h1
        · exact heq
        · exfalso
          have h1 := inx (y.2 + 1) (by omega) (by omega)
          rw [h, gap y b hb2.1] at h1
          cases h1
      have exy : x = y := Prod.ext e1 e2
      subst exy
      rw [ih ⟨fun s hs => ha1 s (by simp [hs]), ha2.2⟩ ⟨fun s hs => hb1 s (by simp [hs]), hb2.2⟩ fun m => ?_]
      have hm := h m
      have split : ∀ (c : List Sp), inSp (x :: c) m = (decide (x.1 ≤ m) && decide (m ≤ x.2) || inSp c m) := fun c => by simp [inSp]
      rw [split, split] at hm
      by_cases hin : x.1 ≤ m ∧ m ≤ x.2
      · have no : ∀ (c : List Sp), (∀ w, w ∈ c → x.2 + 2 ≤ w.1) → inSp c m = false := by
          intro c hc
          rw [Bool.eq_false_iff]
          intro hm
          obtain ⟨w, hw, h1⟩ := inSp_iff.1 hm
          have := hc w hw
          omega
        rw [no a ha2.1, no b hb2.1]
      · have : (decide (x.1 ≤ m) && decide (m ≤ x.2)) = false := by
          rw [Bool.eq_false_iff]
          simp only [ne_eq, Bool.and_eq_true, decide_eq_true_eq]
          exact hin
        rw [this, Bool.false_or, Bool.false_or] at hm
        exact hm

/-! ### the list of a set -/
/-- One number more: what the list is then. -/
def addN (l : List Sp) (n : Int) : List Sp := match l.getLast? with
  | some s => if s.2 = n - 1 then l.dropLast ++ [(s.1, n)] else l ++ [(n, n)]
  | none => [(n, n)]
def listN (p : Nat → Bool) : Nat → List Sp
  | 0 => []
  | n + 1 => if n ≠ 0 ∧ p n = true then addN (listN p n) n else listN p n
theorem inSp_snoc (l : List Sp) (s : Sp) (m : Int) : inSp (l ++ [s]) m = (inSp l m || (decide (s.1 ≤ m) && decide (m ≤ s.2))) := by simp [inSp]
theorem listN_ok (p : Nat → Bool) : ∀ n, n ≤ 61 → OkSp (listN p n) ∧ (lastTo (listN p n) < n) ∧ ∀ m : Nat, inSp (listN p n) m = (decide (1 ≤ m) && decide (m < n) && p m) := by
  intro n
  induction n with
  | zero => intro _; exact ⟨OkSp.nil, by simp [listN, lastTo], fun m => by simp [listN, inSp]⟩
  | succ n ih =>
    intro hn
    obtain ⟨h1, h2, h3⟩ := ih (by omega)
    rw [listN]
    split
    · rename_i hc
      obtain ⟨hn0, hp⟩ := hc
      have fin : ∀ (m : Nat) (b : Bool), (b = (inSp (listN p n) m || decide (m = n))) → b = (decide (1 ≤ m) && decide (m < n + 1) && p m) := by
        intro m b hb
        rw [hb, h3]
        by_cases e : m = n
        · subst e
          rw [hp]
          simp
          omega
        · by_cases e2 : m < n
          · simp [e, e2, show m < n + 1 by omega]
          · simp [e, e2, show ¬ m < n + 1 by omega]
      unfold addN
      rcases nil_or_snoc (listN p n) with hl | ⟨l, s, hl⟩
      · rw [hl] at fin ⊢
        simp only [List.getLast?_nil]
        refine ⟨⟨by simp [okS]; omega, by simp⟩, by simp [lastTo]; omega, fun m => fin m _ ?_⟩
        simp only [inSp, List.any_cons, List.any_nil, Bool.or_false, Bool.false_or]
        rw [Bool.eq_iff_iff]
        simp only [Bool.and_eq_true, decide_eq_true_eq]
        omega
      · rw [hl] at h1 h2 fin ⊢
        rw [lastTo_snoc] at h2
        have hs := h1.1 s (by simp)
        unfold okS at hs
        have hx := (ok_snoc l s).1 h1
        simp only [List.getLast?_concat, List.dropLast_concat]
        split
        · rename_i he
          refine ⟨(ok_snoc _ _).2 ⟨hx.1, ⟨hs.1, by simp only; omega, by simp only; omega⟩, hx.2.2⟩, by rw [lastTo_snoc]; simp only; omega, fun m => fin m _ ?_⟩
          rw [inSp_snoc, inSp_snoc, Bool.or_assoc]
          congr 1
          rw [Bool.eq_iff_iff]
          simp only [Bool.and_eq_true, Bool.or_eq_true, decide_eq_true_eq]
          omega
        · rename_i he
          refine ⟨(ok_last h1 _).2 ⟨⟨by simp only; omega, Int.le_refl _, by simp only; omega⟩, by rw [lastTo_snoc]; simp only; omega⟩, by rw [lastTo_snoc]; simp only; omega, fun m => fin m _ ?_⟩
          rw [inSp_snoc (l ++ [s])]
          congr 1
          rw [Bool.eq_iff_iff]
          simp only [Bool.and_eq_true, decide_eq_true_eq]
          omega
    · rename_i hc
      refine ⟨h1, by omega, fun m => ?_⟩
      rw [h3]
      by_cases e : m = n
      · subst e
        by_cases e2 : m = 0
        · subst e2; simp
        · have : p m = false := by
            rw [Bool.eq_false_iff]
            exact fun h => hc ⟨e2, h⟩
          simp [this]
      · by_cases e2 : m < n
        · simp [e2, show m < n + 1 by omega]
        · simp [e2, show ¬ m < n + 1 by omega]
/-- The list of a set of numbers from 1 to 60. -/
def spansOf (p : Nat → Bool) : List Sp := listN p 61
theorem spansOf_ok (p : Nat → Bool) : OkSp (spansOf p) ∧ ∀ m : Nat, inSp (spansOf p) m = (decide (1 ≤ m) && decide (m ≤ 60) && p m) := by
  obtain ⟨h1, _, h3⟩ := listN_ok p 61 (by omega)
  exact ⟨h1, fun m => by rw [spansOf, h3]; congr 2; exact decide_eq_decide.2 (by omega)⟩
theorem spansOf_eq {p : Nat → Bool} {l : List Sp} (h : OkSp l) (hm : ∀ m : Nat, 1 ≤ m → m ≤ 60 → inSp l m = p m) : l = spansOf p := by
  refine ok_ext h (spansOf_ok p).1 fun m => ?_
  by_cases hr : 1 ≤ m ∧ m ≤ 60
  · obtain ⟨n, rfl⟩ : ∃ n : Nat, m = (n : Int) := ⟨m.toNat, by omega⟩
    rw [(spansOf_ok p).2, hm n (by omega) (by omega)]
    simp [show 1 ≤ n by omega, show n ≤ 60 by omega]
  · have f : ∀ l : List Sp, OkSp l → inSp l m = false := fun l hl => by
      rw [Bool.eq_false_iff]
      exact fun h => hr (inSp_range hl h)
    rw [f l h, f _ (spansOf_ok p).1]

/-! ### words as sets -/

def upW (n : Nat) : BitVec 64 := BitVec.ofNat 64 (2 ^ (n + 1) - 2)
def betW (f t : Nat) : BitVec 64 := upW t &&& ~~~(upW (f - 1))
theorem upW_all : ∀ n, n < 61 → ∀ i, i < 64 → (upW n).getLsbD i = (decide (1 ≤ i) && decide (i ≤ n)) := by decide +kernel
theorem upW_bit {n : Nat} (hn : n ≤ 60) (i : Nat) : (upW n).getLsbD i = (decide (1 ≤ i) && decide (i ≤ n)) := by
  by_cases hi : i < 64
  · exact upW_all n (by omega) i hi
  · rw [BitVec.getLsbD_of_ge _ _ (by omega)]
    simp [show ¬ i ≤ n by omega]
theorem betW_bit {f t : Nat} (hf : 1 ≤ f) (hft : f ≤ t) (ht : t ≤ 60) (i : Nat) : (betW f t).getLsbD i = (decide (f ≤ i) && decide (i ≤ t)) := by
  unfold betW
  rw [BitVec.getLsbD_and, BitVec.getLsbD_not, upW_bit ht, upW_bit (by omega)]
  by_cases hi : i < 64
  · rw [Bool.eq_iff_iff]
    simp only [Bool.and_eq_true, Bool.not_eq_true', Bool.and_eq_false_iff, decide_eq_true_eq, decide_eq_false_iff_not]
    omega
  · simp [show ¬ i ≤ t by omega]
/-- The lowest bit. -/
def Low (x : BitVec 64) (i : Nat) : Prop := i < 64 ∧ x.getLsbD i = true ∧ ∀ j, j < i → x.getLsbD j = false
theorem low_get {x : BitVec 64} (h : x ≠ 0#64) : ∃ i, Low x i := by
  have h1 : ∃ i, i < 64 ∧ x.getLsbD i = true := by
    apply Classical.byContradiction
    intro hn
    apply h
    apply BitVec.eq_of_getLsbD_eq
    intro i hi
    rw [BitVec.getLsbD_zero, Bool.eq_false_iff]
    exact fun hx => hn ⟨i, hi, hx⟩
  have key : ∀ n, (∃ i, i < n ∧ i < 64 ∧ x.getLsbD i = true) → ∃ i, Low x i := by
    intro n
    induction n with
    | zero => rintro ⟨i, h, _⟩; omega
    | succ n ih =>
      rintro ⟨i, h2, h3, h4⟩
      by_cases hx : ∃ j, j < i ∧ x.getLsbD j = true
      · obtain ⟨j, hj, hj2⟩ := hx
        exact ih ⟨j, by omega, by omega, hj2⟩
      · exact ⟨i, h3, h4, fun j hj => by rw [Bool.eq_false_iff]; exact fun h => hx ⟨j, hj, h⟩⟩
  obtain ⟨i, hi, hx⟩ := h1
  exact key 64 ⟨i, hi, hi, hx⟩
theorem low_bit {x : BitVec 64} {i : Nat} (h : Low x i) : x &&& -x = BitVec.twoPow 64 i := by
  obtain ⟨hi, h1, h2⟩ := h
  apply BitVec.eq_of_getLsbD_eq
  intro j hj
  rw [BitVec.getLsbD_and, BitVec.getLsbD_neg, BitVec.getLsbD_twoPow]
  by_cases e : j < i
  · rw [h2 j e]
    simp
    omega
  · by_cases e2 : j = i
    · subst e2
      have : ¬ ∃ k, k < j ∧ x.getLsbD k = true := by
        rintro ⟨k, hk, hx⟩
        rw [h2 k hk] at hx
        cases hx
      simp [h1, hj, this]
    · have : ∃ k, k < j ∧ x.getLsbD k = true := ⟨i, by omega, h1⟩
      simp only [hj, decide_true, Bool.true_and, this]
      cases x.getLsbD j <;> simp
      all_goals omega
theorem low_ne {x : BitVec 64} {i : Nat} (h : Low x i) : x ≠ 0#64 := by
  rintro rfl
  have := h.2.1
  simp at this

/-! ### what the operations give -/

theorem u64_of (x : BitVec 64) : BitVec.ofInt 64 (x.toNat : Int) = x := by
  rw [BitVec.ofInt_natCast]
  exact BitVec.eq_of_toNat_eq (by rw [BitVec.toNat_ofNat]; exact Nat.mod_eq_of_lt x.isLt)
theorem u64_id {n : Int} (h1 : 0 ≤ n) (h2 : n < 18446744073709551616) : IntKind.u64.wrap n = n := by
  show n % 18446744073709551616 = n
  exact Int.emod_eq_of_lt h1 h2
theorem u64_wrap (x : BitVec 64) : IntKind.u64.wrap (x.toNat : Int) = (x.toNat : Int) := u64_id (by omega) (by have := x.isLt; omega)
theorem u64_and (x y : BitVec 64) : IntKind.u64.wrap ((BitVec.ofInt IntKind.u64.bits (x.toNat : Int) &&& BitVec.ofInt IntKind.u64.bits (y.toNat : Int)).toNat : Int) = ((x &&& y).toNat : Int) := by
  show IntKind.u64.wrap ((BitVec.ofInt 64 (x.toNat : Int) &&& BitVec.ofInt 64 (y.toNat : Int)).toNat : Int) = _
  rw [u64_of, u64_of, u64_wrap]
theorem u64_or (x y : BitVec 64) : IntKind.u64.wrap ((BitVec.ofInt IntKind.u64.bits (x.toNat : Int) ||| BitVec.ofInt IntKind.u64.bits (y.toNat : Int)).toNat : Int) = ((x ||| y).toNat : Int) := by
  show IntKind.u64.wrap ((BitVec.ofInt 64 (x.toNat : Int) ||| BitVec.ofInt 64 (y.toNat : Int)).toNat : Int) = _
  rw [u64_of, u64_of, u64_wrap]
theorem u64_andNot (x y : BitVec 64) : IntKind.u64.wrap ((BitVec.ofInt IntKind.u64.bits (x.toNat : Int) &&& ~~~(BitVec.ofInt IntKind.u64.bits (y.toNat : Int))).toNat : Int) = ((x &&& ~~~y).toNat : Int) := by
  show IntKind.u64.wrap ((BitVec.ofInt 64 (x.toNat : Int) &&& ~~~(BitVec.ofInt 64 (y.toNat : Int))).toNat : Int) = _
  rw [u64_of, u64_of, u64_wrap]
theorem u64_not (x : BitVec 64) : IntKind.u64.wrap ((BitVec.ofInt IntKind.u64.bits (if IntKind.u64.signed = true then -1 else IntKind.u64.max) ^^^ BitVec.ofInt IntKind.u64.bits (x.toNat : Int)).toNat : Int) = ((~~~x).toNat : Int) := by
  show IntKind.u64.wrap ((BitVec.ofInt 64 18446744073709551615 ^^^ BitVec.ofInt 64 (x.toNat : Int)).toNat : Int) = _
  rw [u64_of, u64_wrap]
  congr 2
theorem u64_neg (x : BitVec 64) : IntKind.u64.wrap (0 - (x.toNat : Int)) = ((-x).toNat : Int) := by
  show (0 - (x.toNat : Int)) % 18446744073709551616 = _
  rw [BitVec.toNat_neg]
  have := x.isLt
  omega
theorem u64_mul (x y : BitVec 64) : IntKind.u64.wrap ((x.toNat : Int) * (y.toNat : Int)) = ((x * y).toNat : Int) := by
  show ((x.toNat : Int) * (y.toNat : Int)) % 18446744073709551616 = _
  rw [BitVec.toNat_mul]
  omega
theorem u64_shr (x : BitVec 64) (n : Nat) (hn : n ≤ 64) : (x.toNat : Int).fdiv (2 ^ (min ((n : Nat) : Int).toNat IntKind.u64.bits)) = ((x >>> n).toNat : Int) := by
  show (x.toNat : Int).fdiv (2 ^ (min ((n : Nat) : Int).toNat 64)) = _
  rw [Int.toNat_natCast, Nat.min_eq_left hn, BitVec.toNat_ushiftRight, Nat.shiftRight_eq_div_pow]
  rw [show ((2 : Int) ^ n) = ((2 ^ n : Nat) : Int) by simp, Int.fdiv_eq_ediv_of_nonneg _ (Int.natCast_nonneg _)]
  rfl
theorem upW_run : ∀ n, n < 61 → IntKind.u64.wrap (IntKind.u64.wrap (1 * 2 ^ (min ((n + 1 : Nat) : Int).toNat IntKind.u64.bits)) - 2) = ((upW n).toNat : Int) := by decide +kernel

/-! ### how they stand in memory -/
def spanC (s : Sp) : List AVal := [.int .i64 s.1, .int .i64 s.2]
def spanV (s : Sp) : AVal := .agg (spanC s)
def spansV (l : List Sp) : List AVal := l.map spanV
def spansC (l : List Sp) : List AVal := (l.map spanC).flatten
def boolsV (n : Nat) (p : Nat → Bool) : List AVal := (List.range n).map fun m => .bool (p m)
theorem spansV_length (l : List Sp) : (spansV l).length = l.length := by simp [spansV]
theorem spansV_get {l : List Sp} {i : Nat} (hi : i < l.length) : (spansV l)[i]? = some (.agg [.int .i64 (l[i]).1, .int .i64 (l[i]).2]) := by
  unfold spansV
  rw [List.getElem?_map, List.getElem?_eq_getElem hi]
  rfl
theorem spansC_length (l : List Sp) : (spansC l).length = l.length * 2 := by
  induction l with
  | nil => rfl
  | cons s l ih => simp only [spansC, List.map_cons, List.flatten_cons, List.length_append, List.length_cons] at ih ⊢; rw [ih]; simp only [spanC, List.length_cons, List.length_nil]; omega
theorem spansC_snoc (l : List Sp) (s : Sp) : spansC (l ++ [s]) = spansC l ++ spanC s := by simp [spansC]
theorem boolsV_length (n : Nat) (p : Nat → Bool) : (boolsV n p).length = n := by simp [boolsV]
theorem boolsV_get {n i : Nat} (p : Nat → Bool) (hi : i < n) : (boolsV n p)[i]? = some (.bool (p i)) := by
  unfold boolsV
  rw [List.getElem?_map, List.getElem?_range hi]
  rfl
theorem boolsV_set {n i : Nat} (p : Nat → Bool) (b : Bool) : (boolsV n p).set i (.bool b) = boolsV n (fun m => if m = i then b else p m) := by
  unfold boolsV
  apply List.ext_getElem (by simp)
  intro m h1 h2
  simp only [List.getElem_set, List.getElem_map, List.getElem_range]
  by_cases e : i = m
  · subst e; simp
  · rw [if_neg e, if_neg (fun h => e h.symm)]
theorem boolsV_pure (n : Nat) (p : Nat → Bool) : (boolsV n p).all pureB = true := by
  rw [List.all_eq_true]
  intro x hx
  obtain ⟨m, _, rfl⟩ := List.mem_map.1 hx
  rfl
theorem boolsV_congr {n : Nat} {p q : Nat → Bool} (h : ∀ m, m < n → p m = q m) : boolsV n p = boolsV n q := by
  unfold boolsV
  exact List.map_congr_left fun m hm => by rw [h m (List.mem_range.1 hm)]
theorem boolsV_zero (n : Nat) : List.replicate n (AVal.bool false) = boolsV n fun _ => false := by
  unfold boolsV
  apply List.ext_getElem (by simp)
  intro m h1 h2
  simp
end Go.Proofs.YtoomnecfapihaaaGreatDoor
