/- The abstract machine against the model: what it is for values and memories to stand for each other. -/
import Derived.Test.YtjckhhkhgjbpaaaGreatDoorPaleCore
import Derived.Below
set_option linter.unusedVariables false
set_option linter.unusedSimpArgs false
namespace Go.Proofs.YtjckhhkhgjbpaaaGreatDoor.Pale
open Go

/-! ### trees -/
theorem Tr.get_nil {α : Type} (n : Nat) : (Tr.nil : Tr α).get n = none := rfl
theorem Tr.get_zero {α : Type} (v : Option α) (l r : Tr α) : (Tr.node v l r).get 0 = v := rfl
theorem Tr.get_succ {α : Type} (v : Option α) (l r : Tr α) (m : Nat) : (Tr.node v l r).get (m + 1) = (match m % 2 with
    | 0 => l.get (m / 2)
    | _ => r.get (m / 2)) := by
  show (Nat.casesOn (m % 2) (l.get (m / 2)) (fun _ => r.get (m / 2)) : Option α) = _
  cases m % 2 <;> rfl

theorem half_ne {a b : Nat} (h2 : a % 2 = b % 2) (h : a ≠ b) : a / 2 ≠ b / 2 := by omega

theorem Tr.get_setF {α : Type} (x : α) : ∀ (f : Nat) (t : Tr α) (n m : Nat), n < f → (t.setF f n x).get m = if n = m then some x else t.get m := by
  intro f
  induction f with
  | zero => intro t n m h; omega
  | succ f ih =>
    intro t n m h
    cases t with
    | nil =>
      cases n with
      | zero => cases m with
        | zero => simp [Tr.setF, Tr.get_nil, Tr.get_zero, Tr.get_succ]
        | succ m =>
          simp only [Tr.setF, Tr.get_nil, Tr.get_zero, Tr.get_succ]
          split <;> simp
      | succ n =>
        simp only [Tr.setF]
        cases m with
        | zero => split <;> simp [Tr.get_nil, Tr.get_zero, Tr.get_succ]
        | succ m =>
          have hlt : n / 2 < f := by omega
          rcases Nat.mod_two_eq_zero_or_one n with hn | hn <;> rcases Nat.mod_two_eq_zero_or_one m with hm | hm <;> simp only [hn, hm, Tr.get_nil, Tr.get_succ, ih _ _ _ hlt]
          · by_cases e : n = m
            · subst e; simp
            · simp [e, half_ne (by omega : n % 2 = m % 2) e]
          · have : n ≠ m := by intro e; subst e; omega
            simp [this]
          · have : n ≠ m := by intro e; subst e; omega
            simp [this]
          · by_cases e : n = m
            · subst e; simp
            · simp [e, half_ne (by omega : n % 2 = m % 2) e]
    | node v l r =>
      cases n with
      | zero => cases m with
        | zero => simp [Tr.setF, Tr.get_nil, Tr.get_zero, Tr.get_succ]
        | succ m => simp only [Tr.setF, Tr.get_nil, Tr.get_zero, Tr.get_succ]; simp
      | succ n =>
        simp only [Tr.setF]
        cases m with
        | zero => split <;> simp [Tr.get_nil, Tr.get_zero, Tr.get_succ]
        | succ m =>
          have hlt : n / 2 < f := by omega
          rcases Nat.mod_two_eq_zero_or_one n with hn | hn <;> rcases Nat.mod_two_eq_zero_or_one m with hm | hm <;> simp only [hn, hm, Tr.get_nil, Tr.get_succ, ih _ _ _ hlt]
          · by_cases e : n = m
            · subst e; simp
            · simp [e, half_ne (by omega : n % 2 = m % 2) e]
          · have : n ≠ m := by intro e; subst e; omega
            simp [this]
          · have : n ≠ m := by intro e; subst e; omega
            simp [this]
          · by_cases e : n = m
            · subst e; simp
            · simp [e, half_ne (by omega : n % 2 = m % 2) e]

theorem Tr.set_nil {α : Type} (n : Nat) (x : α) : (Tr.nil : Tr α).set n x = Tr.setF (n + 1) .nil n x := rfl
theorem Tr.set_zero {α : Type} (v : Option α) (l r : Tr α) (x : α) : (Tr.node v l r).set 0 x = .node (some x) l r := rfl
theorem Tr.set_succ {α : Type} (v : Option α) (l r : Tr α) (m : Nat) (x : α) : (Tr.node v l r).set (m + 1) x = (match m % 2 with
    | 0 => .node v (l.set (m / 2) x) r
    | _ => .node v l (r.set (m / 2) x)) := by
  show (Nat.casesOn (m % 2) (.node v (l.set (m / 2) x) r) (fun _ => .node v l (r.set (m / 2) x)) : Tr α) = _
  cases m % 2 <;> rfl

theorem Tr.get_set {α : Type} : ∀ (t : Tr α) (n m : Nat) (x : α), (t.set n x).get m = if n = m then some x else t.get m := by
  intro t
  induction t with
  | nil => intro n m x; rw [Tr.set_nil]; exact Tr.get_setF x (n + 1) .nil n m (by omega)
  | node v l r ihl ihr =>
    intro n m x
    cases n with
    | zero => cases m with
      | zero => simp [Tr.set_zero, Tr.get_zero]
      | succ m => simp [Tr.set_zero, Tr.get_succ]
    | succ n =>
      rw [Tr.set_succ]
      cases m with
      | zero => split <;> simp [Tr.get_zero]
      | succ m =>
        rcases Nat.mod_two_eq_zero_or_one n with hn | hn <;> rcases Nat.mod_two_eq_zero_or_one m with hm | hm <;> simp only [hn, hm, Tr.get_succ, ihl, ihr]
        · by_cases e : n = m
          · subst e; simp
          · simp [e, half_ne (by omega : n % 2 = m % 2) e]
        · have : n ≠ m := by intro e; subst e; omega
          simp [this]
        · have : n ≠ m := by intro e; subst e; omega
          simp [this]
        · by_cases e : n = m
          · subst e; simp
          · simp [e, half_ne (by omega : n % 2 = m % 2) e]

theorem Tr.get_del {α : Type} : ∀ (t : Tr α) (n m : Nat), (t.del n).get m = if n = m then none else t.get m := by
  intro t
  induction t with
  | nil => intro n m; simp [Tr.del, Tr.get_nil, Tr.get_zero, Tr.get_succ]
  | node v l r ihl ihr =>
    intro n m
    cases n with
    | zero => cases m with
      | zero => simp [Tr.del, Tr.get_nil, Tr.get_zero, Tr.get_succ]
      | succ m => simp only [Tr.del, Tr.get_nil, Tr.get_zero, Tr.get_succ]; simp
    | succ n =>
      simp only [Tr.del]
      cases m with
      | zero => split <;> simp [Tr.get_nil, Tr.get_zero, Tr.get_succ]
      | succ m =>
        rcases Nat.mod_two_eq_zero_or_one n with hn | hn <;> rcases Nat.mod_two_eq_zero_or_one m with hm | hm <;> simp only [hn, hm, Tr.get_succ, ihl, ihr]
        · by_cases e : n = m
          · subst e; simp
          · simp [e, half_ne (by omega : n % 2 = m % 2) e]
        · have : n ≠ m := by intro e; subst e; omega
          simp [this]
        · have : n ≠ m := by intro e; subst e; omega
          simp [this]
        · by_cases e : n = m
          · subst e; simp
          · simp [e, half_ne (by omega : n % 2 = m % 2) e]

theorem AMem.get_put (σ : AMem) (r s : Nat) (o : AObj) : (σ.put r o).get s = if r = s then some o else σ.get s := Tr.get_set _ _ _ _
theorem AMem.get_push (σ : AMem) (s : Nat) (o : AObj) : (σ.push o).get s = if σ.next = s then some o else σ.get s := Tr.get_set _ _ _ _
theorem AMem.get_del (σ : AMem) (r s : Nat) : (σ.del r).get s = if r = s then none else σ.get s := Tr.get_del _ _ _
@[simp] theorem AMem.next_put (σ : AMem) (r : Nat) (o : AObj) : (σ.put r o).next = σ.next := rfl
@[simp] theorem AMem.next_push (σ : AMem) (o : AObj) : (σ.push o).next = σ.next + 1 := rfl
@[simp] theorem AMem.next_del (σ : AMem) (r : Nat) : (σ.del r).next = σ.next := rfl
@[simp] theorem AMem.get_empty (r : Nat) : AMem.empty.get r = none := rfl

/-! ### ghosts -/
structure Place where
  block : Nat
  off : Nat
  room : Nat
  sz : Nat

inductive Stat where
  | none
  | live (p : Place)
  | dead

structure Ghost where
  st : Nat → Stat
  ro : Nat → Prop

mutual
/-- A value without references into abstract memory: it reads so in the blocks that nobody writes. -/
def PRel (w : World) (ro : Nat → Prop) : AVal → Value → Prop
  | .bool b, v => v = .bool b
  | .int k n, v => v = .int k n
  | .str s, v => v = .string ⟨s.toArray⟩
  | .nilptr, v => v = .pointer none
  | .nilfn, v => v = .nilFunc
  | .nilmap, v => v = .map none
  | .agg cs, v => ∃ l, v = .agg (List.toArray l) ∧ PRelL w ro cs l
  | .tuple cs, v => ∃ l, v = .tuple (List.toArray l) ∧ PRelL w ro cs l
  | .vs k es, v =>
    (k = .nil ∧ es = [] ∧ v = .slice none 0 0) ∨
    (k = .zero ∧ es = [] ∧ ∃ a, v = .slice (some a) 0 0) ∨
    (k = .some ∧ ∃ a cap sz, v = .slice (some a) es.length cap ∧ es.length ≤ cap ∧ (es ≠ [] → a.spot = none) ∧ PRelE w ro sz a.block a.off es)
  | .vptr (.agg cs), v => ∃ b o, v = .pointer (some ⟨b, o, none⟩) ∧ PAtL w ro b o cs
  | .vptr u, v => ∃ b o x, v = .pointer (some ⟨b, o, none⟩) ∧ ro b ∧ w.cell? ⟨b, o, none⟩ = some x ∧ PRel w ro u x
  | .ptr .., _ => False
  | .slice .., _ => False
  | .func .., _ => False
  | .yield _, _ => False
  | .map _, _ => False
def PRelL (w : World) (ro : Nat → Prop) : List AVal → List Value → Prop
  | [], l => l = []
  | c :: cs, l => ∃ x xs, l = x :: xs ∧ PRel w ro c x ∧ PRelL w ro cs xs
def PAtL (w : World) (ro : Nat → Prop) (b : Nat) : Nat → List AVal → Prop
  | _, [] => True
  | o, c :: cs => (ro b ∧ ∃ x, w.cell? ⟨b, o, none⟩ = some x ∧ PRel w ro c x) ∧ PAtL w ro b (o + 1) cs
def PRelE (w : World) (ro : Nat → Prop) (sz b : Nat) : Nat → List AVal → Prop
  | _, [] => True
  | o, (.agg cs) :: es => (cs.length = sz ∧ PAtL w ro b o cs) ∧ PRelE w ro sz b (o + sz) es
  | o, e :: es => (sz = 1 ∧ ro b ∧ ∃ x, w.cell? ⟨b, o, none⟩ = some x ∧ PRel w ro e x) ∧ PRelE w ro sz b (o + sz) es
end

mutual
def Rel (g : Ghost) (w : World) : AVal → Value → Prop
  | .ptr r off, v => ∃ a, v = .pointer (some a) ∧ (g.st r = .dead ∨ ∃ p, g.st r = .live p ∧ a = ⟨p.block, p.off + off, none⟩)
  | .slice r off len cap sz, v => ∃ a c, v = .slice (some a) len c ∧ len ≤ c ∧ (∀ k, cap = some k → c = k) ∧
      (g.st r = .dead ∨ ∃ p, g.st r = .live p ∧ p.sz = sz ∧ off + c * sz ≤ p.room ∧ (c ≠ 0 → a = ⟨p.block, p.off + off, none⟩) ∧ (cap = none → off + c * sz = p.room))
  | .func f first caps, v => ∃ l m, v = .func (.func f) (List.toArray l) (List.toArray m) ∧ RelL g w first l ∧ RelL g w caps m
  | .yield l, v => ∃ b, v = .func (.yield b) #[] #[] ∧ (g.st l = .dead ∨ ∃ p, g.st l = .live p ∧ b = p.block)
  | .map r, v => ∃ b, v = .map (some b) ∧ (g.st r = .dead ∨ ∃ p, g.st r = .live p ∧ b = p.block)
  | .agg cs, v => ∃ l, v = .agg (List.toArray l) ∧ RelL g w cs l
  | .tuple cs, v => ∃ l, v = .tuple (List.toArray l) ∧ RelL g w cs l
  | .bool b, v => v = .bool b
  | .int k n, v => v = .int k n
  | .str s, v => v = .string ⟨s.toArray⟩
  | .nilptr, v => v = .pointer none
  | .nilfn, v => v = .nilFunc
  | .nilmap, v => v = .map none
  | .vs k es, v => PRel w g.ro (.vs k es) v
  | .vptr u, v => PRel w g.ro (.vptr u) v
def RelL (g : Ghost) (w : World) : List AVal → List Value → Prop
  | [], l => l = []
  | c :: cs, l => ∃ x xs, l = x :: xs ∧ Rel g w c x ∧ RelL g w cs xs
end


/-! ### what stays -/
structure Stays (w w' : World) (ro ro' : Nat → Prop) : Prop where
  keep : ∀ b : Nat, ro b → ro' b
  heap : ∀ b : Nat, ro b → w'.heap[b]? = w.heap[b]?

theorem Stays.cell {w w' : World} {ro ro' : Nat → Prop} (h : Stays w w' ro ro') {b o : Nat} (hb : ro b) : w'.cell? ⟨b, o, none⟩ = w.cell? ⟨b, o, none⟩ := by
  unfold World.cell?
  simp only [h.heap b hb]

mutual
theorem PRel.mono {w w' : World} {ro ro' : Nat → Prop} (h : Stays w w' ro ro') : ∀ (v : AVal) (x : Value), PRel w ro v x → PRel w' ro' v x
  | .bool b, x, hh => by simpa only [PRel] using hh
  | .int k n, x, hh => by simpa only [PRel] using hh
  | .str s, x, hh => by simpa only [PRel] using hh
  | .nilptr, x, hh => by simpa only [PRel] using hh
  | .nilfn, x, hh => by simpa only [PRel] using hh
  | .nilmap, x, hh => by simpa only [PRel] using hh
  | .agg cs, x, hh => by
    simp only [PRel] at hh ⊢
    obtain ⟨l, e, hl⟩ := hh
    exact ⟨l, e, PRelL.mono h cs l hl⟩
  | .tuple cs, x, hh => by
    simp only [PRel] at hh ⊢
    obtain ⟨l, e, hl⟩ := hh
    exact ⟨l, e, PRelL.mono h cs l hl⟩
  | .vs k es, x, hh => by
    simp only [PRel] at hh ⊢
    rcases hh with h1 | h1 | ⟨hk, a, cap, sz, e, hle, hs, hE⟩
    · exact .inl h1
    · exact .inr (.inl h1)
    · exact .inr (.inr ⟨hk, a, cap, sz, e, hle, hs, PRelE.mono h sz a.block es a.off hE⟩)
  | .vptr v, x, hh => by
    cases v with
    | agg cs =>
      simp only [PRel] at hh ⊢
      obtain ⟨b, o, e, hl⟩ := hh
      exact ⟨b, o, e, PAtL.mono h b cs o hl⟩
    | bool c => simp only [PRel] at hh ⊢; obtain ⟨b, o, y, e, hr, hc, hp⟩ := hh; exact ⟨b, o, y, e, h.keep b hr, (h.cell hr).trans hc, hp⟩
    | int k n => simp only [PRel] at hh ⊢; obtain ⟨b, o, y, e, hr, hc, hp⟩ := hh; exact ⟨b, o, y, e, h.keep b hr, (h.cell hr).trans hc, hp⟩
    | str s => simp only [PRel] at hh ⊢; obtain ⟨b, o, y, e, hr, hc, hp⟩ := hh; exact ⟨b, o, y, e, h.keep b hr, (h.cell hr).trans hc, hp⟩
    | nilptr => simp only [PRel] at hh ⊢; obtain ⟨b, o, y, e, hr, hc, hp⟩ := hh; exact ⟨b, o, y, e, h.keep b hr, (h.cell hr).trans hc, hp⟩
    | nilfn => simp only [PRel] at hh ⊢; obtain ⟨b, o, y, e, hr, hc, hp⟩ := hh; exact ⟨b, o, y, e, h.keep b hr, (h.cell hr).trans hc, hp⟩
    | nilmap => simp only [PRel] at hh ⊢; obtain ⟨b, o, y, e, hr, hc, hp⟩ := hh; exact ⟨b, o, y, e, h.keep b hr, (h.cell hr).trans hc, hp⟩
    | tuple cs =>
      have ih := PRel.mono h (.tuple cs)
      rw [PRel] at hh ⊢
      · obtain ⟨b, o, y, e, hr, hc, hp⟩ := hh; exact ⟨b, o, y, e, h.keep b hr, (h.cell hr).trans hc, ih y hp⟩
      all_goals (intro cs h; cases h)
    | vs k es =>
      have ih := PRel.mono h (.vs k es)
      rw [PRel] at hh ⊢
      · obtain ⟨b, o, y, e, hr, hc, hp⟩ := hh; exact ⟨b, o, y, e, h.keep b hr, (h.cell hr).trans hc, ih y hp⟩
      all_goals (intro cs h; cases h)
    | vptr u =>
      have ih := PRel.mono h (.vptr u)
      rw [PRel] at hh ⊢
      · obtain ⟨b, o, y, e, hr, hc, hp⟩ := hh; exact ⟨b, o, y, e, h.keep b hr, (h.cell hr).trans hc, ih y hp⟩
      all_goals (intro cs h; cases h)
    | ptr r off => simp [PRel] at hh
    | slice r off len cap z => simp [PRel] at hh
    | func f a c => simp [PRel] at hh
    | yield l => simp [PRel] at hh
    | map r => simp [PRel] at hh
  | .ptr r off, x, hh => by simp [PRel] at hh
  | .slice r off len cap z, x, hh => by simp [PRel] at hh
  | .func f a c, x, hh => by simp [PRel] at hh
  | .yield l, x, hh => by simp [PRel] at hh
  | .map r, x, hh => by simp [PRel] at hh
theorem PRelL.mono {w w' : World} {ro ro' : Nat → Prop} (h : Stays w w' ro ro') : ∀ (cs : List AVal) (l : List Value), PRelL w ro cs l → PRelL w' ro' cs l
  | [], l, hh => by simpa only [PRelL] using hh
  | c :: cs, l, hh => by
    simp only [PRelL] at hh ⊢
    obtain ⟨x, xs, e, h1, h2⟩ := hh
    exact ⟨x, xs, e, PRel.mono h c x h1, PRelL.mono h cs xs h2⟩
theorem PAtL.mono {w w' : World} {ro ro' : Nat → Prop} (h : Stays w w' ro ro') (b : Nat) : ∀ (cs : List AVal) (o : Nat), PAtL w ro b o cs → PAtL w' ro' b o cs
  | [], o, hh => by simp only [PAtL]
  | c :: cs, o, hh => by
    simp only [PAtL] at hh ⊢
    obtain ⟨⟨hr, x, hc, h1⟩, h2⟩ := hh
    exact ⟨⟨h.keep b hr, x, (h.cell hr).trans hc, PRel.mono h c x h1⟩, PAtL.mono h b cs (o + 1) h2⟩
theorem PRelE.mono {w w' : World} {ro ro' : Nat → Prop} (h : Stays w w' ro ro') (sz b : Nat) : ∀ (es : List AVal) (o : Nat), PRelE w ro sz b o es → PRelE w' ro' sz b o es
  | [], o, hh => by simp only [PRelE]
  | e :: es, o, hh => by
    cases e with
    | agg cs =>
      simp only [PRelE] at hh ⊢
      exact ⟨⟨hh.1.1, PAtL.mono h b cs o hh.1.2⟩, PRelE.mono h sz b es (o + sz) hh.2⟩
    | bool c => simp only [PRelE, PRel] at hh ⊢; obtain ⟨⟨h1, hr, x, hc, hp⟩, h2⟩ := hh; exact ⟨⟨h1, h.keep b hr, x, (h.cell hr).trans hc, hp⟩, PRelE.mono h sz b es (o + sz) h2⟩
    | int k n => simp only [PRelE, PRel] at hh ⊢; obtain ⟨⟨h1, hr, x, hc, hp⟩, h2⟩ := hh; exact ⟨⟨h1, h.keep b hr, x, (h.cell hr).trans hc, hp⟩, PRelE.mono h sz b es (o + sz) h2⟩
    | str s => simp only [PRelE, PRel] at hh ⊢; obtain ⟨⟨h1, hr, x, hc, hp⟩, h2⟩ := hh; exact ⟨⟨h1, h.keep b hr, x, (h.cell hr).trans hc, hp⟩, PRelE.mono h sz b es (o + sz) h2⟩
    | nilptr => simp only [PRelE, PRel] at hh ⊢; obtain ⟨⟨h1, hr, x, hc, hp⟩, h2⟩ := hh; exact ⟨⟨h1, h.keep b hr, x, (h.cell hr).trans hc, hp⟩, PRelE.mono h sz b es (o + sz) h2⟩
    | nilfn => simp only [PRelE, PRel] at hh ⊢; obtain ⟨⟨h1, hr, x, hc, hp⟩, h2⟩ := hh; exact ⟨⟨h1, h.keep b hr, x, (h.cell hr).trans hc, hp⟩, PRelE.mono h sz b es (o + sz) h2⟩
    | nilmap => simp only [PRelE, PRel] at hh ⊢; obtain ⟨⟨h1, hr, x, hc, hp⟩, h2⟩ := hh; exact ⟨⟨h1, h.keep b hr, x, (h.cell hr).trans hc, hp⟩, PRelE.mono h sz b es (o + sz) h2⟩
    | tuple cs =>
      have ih := PRel.mono h (.tuple cs)
      rw [PRelE] at hh ⊢
      · obtain ⟨⟨h1, hr, x, hc, hp⟩, h2⟩ := hh; exact ⟨⟨h1, h.keep b hr, x, (h.cell hr).trans hc, ih x hp⟩, PRelE.mono h sz b es (o + sz) h2⟩
      all_goals (intro cs h; cases h)
    | vs k l =>
      have ih := PRel.mono h (.vs k l)
      rw [PRelE] at hh ⊢
      · obtain ⟨⟨h1, hr, x, hc, hp⟩, h2⟩ := hh; exact ⟨⟨h1, h.keep b hr, x, (h.cell hr).trans hc, ih x hp⟩, PRelE.mono h sz b es (o + sz) h2⟩
      all_goals (intro cs h; cases h)
    | vptr u =>
      have ih := PRel.mono h (.vptr u)
      rw [PRelE] at hh ⊢
      · obtain ⟨⟨h1, hr, x, hc, hp⟩, h2⟩ := hh; exact ⟨⟨h1, h.keep b hr, x, (h.cell hr).trans hc, ih x hp⟩, PRelE.mono h sz b es (o + sz) h2⟩
      all_goals (intro cs h; cases h)
    | ptr r off => simp [PRelE, PRel] at hh
    | slice r off len cap z => simp [PRelE, PRel] at hh
    | func f a c => simp [PRelE, PRel] at hh
    | yield l => simp [PRelE, PRel] at hh
    | map r => simp [PRelE, PRel] at hh
end

/-- The ghost goes on: what was alive lives at its place or has died. -/
structure GLe (g g' : Ghost) : Prop where
  live : ∀ r p, g.st r = .live p → g'.st r = .live p ∨ g'.st r = .dead
  dead : ∀ r, g.st r = .dead → g'.st r = .dead

theorem GLe.either {g g' : Ghost} (h : GLe g g') {r : Nat} {φ : Place → Prop} (hh : g.st r = .dead ∨ ∃ p, g.st r = .live p ∧ φ p) : g'.st r = .dead ∨ ∃ p, g'.st r = .live p ∧ φ p := by
  rcases hh with hd | ⟨p, hp, hφ⟩
  · exact .inl (h.dead r hd)
  · rcases h.live r p hp with h1 | h1
    · exact .inr ⟨p, h1, hφ⟩
    · exact .inl h1

mutual
theorem Rel.mono {g g' : Ghost} {w w' : World} (h : GLe g g') (hs : Stays w w' g.ro g'.ro) : ∀ (v : AVal) (x : Value), Rel g w v x → Rel g' w' v x
  | .bool b, x, hh => by simpa only [Rel] using hh
  | .int k n, x, hh => by simpa only [Rel] using hh
  | .str s, x, hh => by simpa only [Rel] using hh
  | .nilptr, x, hh => by simpa only [Rel] using hh
  | .nilfn, x, hh => by simpa only [Rel] using hh
  | .nilmap, x, hh => by simpa only [Rel] using hh
  | .ptr r off, x, hh => by
    simp only [Rel] at hh ⊢
    obtain ⟨a, e, h1⟩ := hh
    exact ⟨a, e, h.either h1⟩
  | .slice r off len cap z, x, hh => by
    simp only [Rel] at hh ⊢
    obtain ⟨a, c, e, h1, h2, h3⟩ := hh
    exact ⟨a, c, e, h1, h2, h.either h3⟩
  | .func f a c, x, hh => by
    simp only [Rel] at hh ⊢
    obtain ⟨l, m, e, h1, h2⟩ := hh
    exact ⟨l, m, e, RelL.mono h hs a l h1, RelL.mono h hs c m h2⟩
  | .yield l, x, hh => by
    simp only [Rel] at hh ⊢
    obtain ⟨b, e, h1⟩ := hh
    exact ⟨b, e, h.either h1⟩
  | .map r, x, hh => by
    simp only [Rel] at hh ⊢
    obtain ⟨b, e, h1⟩ := hh
    exact ⟨b, e, h.either h1⟩
  | .agg cs, x, hh => by
    simp only [Rel] at hh ⊢
    obtain ⟨l, e, h1⟩ := hh
    exact ⟨l, e, RelL.mono h hs cs l h1⟩
  | .tuple cs, x, hh => by
    simp only [Rel] at hh ⊢
    obtain ⟨l, e, h1⟩ := hh
    exact ⟨l, e, RelL.mono h hs cs l h1⟩
  | .vs k es, x, hh => by
    simp only [Rel] at hh ⊢
    exact PRel.mono hs _ _ hh
  | .vptr u, x, hh => by
    simp only [Rel] at hh ⊢
    exact PRel.mono hs _ _ hh
theorem RelL.mono {g g' : Ghost} {w w' : World} (h : GLe g g') (hs : Stays w w' g.ro g'.ro) : ∀ (cs : List AVal) (l : List Value), RelL g w cs l → RelL g' w' cs l
  | [], l, hh => by simpa only [RelL] using hh
  | c :: cs, l, hh => by
    simp only [RelL] at hh ⊢
    obtain ⟨x, xs, e, h1, h2⟩ := hh
    exact ⟨x, xs, e, Rel.mono h hs c x h1, RelL.mono h hs cs xs h2⟩
end

/-! ### lists that stand for each other -/
theorem RelL.iff {g : Ghost} {w : World} : ∀ (cs : List AVal) (l : List Value), RelL g w cs l ↔ cs.length = l.length ∧ ∀ (i : Nat) (c : AVal), cs[i]? = some c → ∃ x, l[i]? = some x ∧ Rel g w c x := by
  intro cs
  induction cs with
  | nil =>
    intro l
    simp only [RelL]
    constructor
    · rintro rfl; simp
    · rintro ⟨h, _⟩; cases l with
      | nil => rfl
      | cons => simp at h
  | cons c cs ih =>
    intro l
    simp only [RelL]
    constructor
    · rintro ⟨x, xs, rfl, h1, h2⟩
      obtain ⟨hl, hi⟩ := (ih xs).1 h2
      refine ⟨by simp [hl], fun i d hd => ?_⟩
      cases i with
      | zero => simp at hd; subst hd; exact ⟨x, rfl, h1⟩
      | succ i => exact hi i d (by simpa using hd)
    · rintro ⟨hl, hi⟩
      cases l with
      | nil => simp at hl
      | cons x xs =>
        obtain ⟨y, hy, hr⟩ := hi 0 c rfl
        simp at hy; subst hy
        exact ⟨x, xs, rfl, hr, (ih xs).2 ⟨by simpa using hl, fun i d hd => hi (i + 1) d (by simpa using hd)⟩⟩

theorem RelL.append {g : Ghost} {w : World} {a b : List AVal} {l m : List Value} (h1 : RelL g w a l) (h2 : RelL g w b m) : RelL g w (a ++ b) (l ++ m) := by
  induction a generalizing l with
  | nil => simp only [RelL] at h1; subst h1; simpa using h2
  | cons c cs ih =>
    simp only [RelL] at h1
    obtain ⟨x, xs, rfl, h3, h4⟩ := h1
    simp only [List.cons_append, RelL]
    exact ⟨x, xs ++ m, rfl, h3, ih h4⟩

theorem RelL.length {g : Ghost} {w : World} {a : List AVal} {l : List Value} (h : RelL g w a l) : a.length = l.length := ((RelL.iff a l).1 h).1
theorem RelL.get {g : Ghost} {w : World} {a : List AVal} {l : List Value} (h : RelL g w a l) {i : Nat} {c : AVal} (hi : a[i]? = some c) : ∃ x, l[i]? = some x ∧ Rel g w c x := ((RelL.iff a l).1 h).2 i c hi

theorem RelL.drop {g : Ghost} {w : World} {a : List AVal} {l : List Value} (h : RelL g w a l) (n : Nat) : RelL g w (a.drop n) (l.drop n) := by
  rw [RelL.iff] at h ⊢
  exact ⟨by simp [h.1], fun i c hc => by rw [List.getElem?_drop] at hc ⊢; exact h.2 _ _ hc⟩
theorem RelL.take {g : Ghost} {w : World} {a : List AVal} {l : List Value} (h : RelL g w a l) (n : Nat) : RelL g w (a.take n) (l.take n) := by
  rw [RelL.iff] at h ⊢
  refine ⟨by simp [h.1], fun i c hc => ?_⟩
  rw [List.getElem?_take] at hc ⊢
  split at hc
  · rename_i hlt; simp only [hlt, if_true]; exact h.2 _ _ hc
  · cases hc

end Go.Proofs.YtjckhhkhgjbpaaaGreatDoor.Pale
