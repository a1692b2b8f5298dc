/- A book of calls that are known, and the abstract machine that looks into it. -/
import Derived.Test.YtjckhhkhgjbpaaaGreatDoorPaleFast
set_option linter.unusedVariables false
namespace Go.Proofs.YtjckhhkhgjbpaaaGreatDoor.Pale
open Go

/-! ### values are compared quickly -/
noncomputable section
def listF {α : Type} (eq : α → α → Bool) (a : List α) : List α → Bool :=
  List.rec (motive := fun _ => List α → Bool) (fun b => List.rec (motive := fun _ => Bool) true (fun _ _ _ => false) b)
    (fun x _ ih b => List.rec (motive := fun _ => Bool) false (fun y ys _ => Bool.rec false (ih ys) (eq x y)) b) a
theorem listF_eq {α : Type} {eq : α → α → Bool} : ∀ (a b : List α), (∀ x, x ∈ a → ∀ y, eq x y = true → x = y) → listF eq a b = true → a = b := by
  intro a
  induction a with
  | nil => intro b _ h; cases b with
    | nil => rfl
    | cons y ys => exact Bool.noConfusion (h : false = true)
  | cons x xs ih =>
    intro b he h
    cases b with
    | nil => exact Bool.noConfusion (h : false = true)
    | cons y ys =>
      have h' : Bool.rec (motive := fun _ => Bool) false (listF eq xs ys) (eq x y) = true := h
      cases hx : eq x y with
      | false => rw [hx] at h'; exact Bool.noConfusion (h' : false = true)
      | true =>
        rw [hx] at h'
        rw [he x List.mem_cons_self y hx, ih ys (fun z hz => he z (List.mem_cons_of_mem _ hz)) h']

def byteF (a b : UInt8) : Bool := Nat.beq a.toNat b.toNat
theorem byteF_eq {a b : UInt8} (h : byteF a b = true) : a = b := UInt8.toNat_inj.1 (Nat.eq_of_beq_eq_true h)

def vkF (a b : VK) : Bool := Nat.beq a.ctorIdx b.ctorIdx
theorem vkF_eq {a b : VK} (h : vkF a b = true) : a = b := by cases a <;> cases b <;> first | rfl | exact Bool.noConfusion (h : false = true)

abbrev Like := AVal → Bool
abbrev LikeL := List AVal → Bool
def l_bool (x : Bool) : Like := fun b => match b with | .bool y => Bool.rec (Bool.rec true false y) y x | _ => false
def l_int (k : IntKind) (x : Int) : Like := fun b => match b with | .int j y => Bool.rec false (eqF x y) (sameF k j) | _ => false
def l_str (x : List UInt8) : Like := fun b => match b with | .str y => listF byteF x y | _ => false
def l_nilptr : Like := fun b => match b with | .nilptr => true | _ => false
def l_vs (k : VK) (_ : List AVal) (ih : LikeL) : Like := fun b => match b with | .vs j ys => Bool.rec false (ih ys) (vkF k j) | _ => false
def l_vptr (_ : AVal) (ih : Like) : Like := fun b => match b with | .vptr y => ih y | _ => false
def l_nilfn : Like := fun b => match b with | .nilfn => true | _ => false
def l_nilmap : Like := fun b => match b with | .nilmap => true | _ => false
def l_agg (_ : List AVal) (ih : LikeL) : Like := fun b => match b with | .agg ys => ih ys | _ => false
def l_tuple (_ : List AVal) (ih : LikeL) : Like := fun b => match b with | .tuple ys => ih ys | _ => false
def l_nil : LikeL := fun b => match b with | [] => true | _ => false
def l_cons (_ : AVal) (_ : List AVal) (ihx : Like) (ih : LikeL) : LikeL := fun b => match b with | y :: ys => Bool.rec false (ih ys) (ihx y) | [] => false
/-- The pure values that stand in a book; others are never alike. -/
def likeF (a : AVal) : Like :=
  AVal.rec (motive_1 := fun _ => Like) (motive_2 := fun _ => LikeL) l_bool l_int l_str (fun _ _ _ => false) l_nilptr (fun _ _ _ _ _ _ => false) l_vs l_vptr (fun _ _ _ _ _ _ => false) (fun _ _ => false) l_nilfn l_nilmap (fun _ _ => false) l_agg l_tuple l_nil l_cons a
def likeL (a : List AVal) : LikeL :=
  AVal.rec_1 (motive_1 := fun _ => Like) (motive_2 := fun _ => LikeL) l_bool l_int l_str (fun _ _ _ => false) l_nilptr (fun _ _ _ _ _ _ => false) l_vs l_vptr (fun _ _ _ _ _ _ => false) (fun _ _ => false) l_nilfn l_nilmap (fun _ _ => false) l_agg l_tuple l_nil l_cons a

theorem and_of_rec {a b : Bool} (h : Bool.rec (motive := fun _ => Bool) false b a = true) : a = true ∧ b = true := by
  cases a with
  | false => exact Bool.noConfusion (h : false = true)
  | true => exact ⟨rfl, h⟩

mutual
theorem likeF_eq : ∀ (a b : AVal), likeF a b = true → a = b
  | .bool x, b, h => by
    cases b with
    | bool y => cases x <;> cases y <;> first | rfl | exact Bool.noConfusion (h : false = true)
    | _ => exact Bool.noConfusion (h : false = true)
  | .int k x, b, h => by
    cases b with
    | int j y =>
      obtain ⟨h1, h2⟩ := and_of_rec (h : Bool.rec (motive := fun _ => Bool) false (eqF x y) (sameF k j) = true)
      rw [sameF_eq] at h1
      rw [eqF_eq] at h2
      rw [of_decide_eq_true h1, eq_of_beq h2]
    | _ => exact Bool.noConfusion (h : false = true)
  | .str x, b, h => by
    cases b with
    | str y => rw [listF_eq x y (fun _ _ _ h => byteF_eq h) (h : listF byteF x y = true)]
    | _ => exact Bool.noConfusion (h : false = true)
  | .ptr _ _, b, h => Bool.noConfusion (h : false = true)
  | .nilptr, b, h => by
    cases b with
    | nilptr => rfl
    | _ => exact Bool.noConfusion (h : false = true)
  | .slice _ _ _ _ _, b, h => Bool.noConfusion (h : false = true)
  | .vs k xs, b, h => by
    cases b with
    | vs j ys =>
      obtain ⟨h1, h2⟩ := and_of_rec (h : Bool.rec (motive := fun _ => Bool) false (likeL xs ys) (vkF k j) = true)
      rw [vkF_eq h1, likeL_eq xs ys h2]
    | _ => exact Bool.noConfusion (h : false = true)
  | .vptr x, b, h => by
    cases b with
    | vptr y => rw [likeF_eq x y h]
    | _ => exact Bool.noConfusion (h : false = true)
  | .func _ _ _, b, h => Bool.noConfusion (h : false = true)
  | .yield _, b, h => Bool.noConfusion (h : false = true)
  | .nilfn, b, h => by
    cases b with
    | nilfn => rfl
    | _ => exact Bool.noConfusion (h : false = true)
  | .nilmap, b, h => by
    cases b with
    | nilmap => rfl
    | _ => exact Bool.noConfusion (h : false = true)
  | .map _, b, h => Bool.noConfusion (h : false = true)
  | .agg xs, b, h => by
    cases b with
    | agg ys => rw [likeL_eq xs ys h]
    | _ => exact Bool.noConfusion (h : false = true)
  | .tuple xs, b, h => by
    cases b with
    | tuple ys => rw [likeL_eq xs ys h]
    | _ => exact Bool.noConfusion (h : false = true)
theorem likeL_eq : ∀ (a b : List AVal), likeL a b = true → a = b
  | [], b, h => by
    cases b with
    | nil => rfl
    | cons y ys => exact Bool.noConfusion (h : false = true)
  | x :: xs, b, h => by
    cases b with
    | nil => exact Bool.noConfusion (h : false = true)
    | cons y ys =>
      obtain ⟨h1, h2⟩ := and_of_rec (h : Bool.rec (motive := fun _ => Bool) false (likeL xs ys) (likeF x y) = true)
      rw [likeF_eq x y h1, likeL_eq xs ys h2]
end

/-! ### books -/
/-- A page: a function's arguments, its result, and whether that is new. -/
abbrev Page := List AVal × AVal × Bool
def findF (l : List Page) (args : List AVal) : Option (AVal × Bool) :=
  List.rec (motive := fun _ => Option (AVal × Bool)) none (fun p _ ih => Bool.rec ih (some p.2) (likeL p.1 args)) l
theorem findF_mem {l : List Page} {args : List AVal} {r : AVal × Bool} (h : findF l args = some r) : (args, r) ∈ l := by
  induction l with
  | nil => cases (h : (none : Option (AVal × Bool)) = some r)
  | cons p l ih =>
    have h' : Bool.rec (motive := fun _ => Option (AVal × Bool)) (findF l args) (some p.2) (likeL p.1 args) = some r := h
    cases hp : likeL p.1 args with
    | false => rw [hp] at h'; exact List.mem_cons_of_mem _ (ih h')
    | true =>
      rw [hp] at h'
      have e := likeL_eq _ _ hp
      obtain ⟨a, b⟩ := p
      simp only at e h'
      cases h'
      subst e
      exact List.mem_cons_self

def Book := Tr (List Page)
def lookB (B : Tr (List Page)) (f : Nat) (args : List AVal) : Option (AVal × Bool) :=
  match B.get f with
  | some l => findF l args
  | none => none

/-- The machine with a book: which calls are calls of values, and what is known of them. -/
def AProg.withBook (A : AProg) (iv : Nat → Nat → Bool) (B : Tr (List Page)) : AProg := { A with isVal := iv, memo := lookB B }

end

def PageOk (P : Program) (glob : Nat → Option (List AVal)) (f : Nat) (p : Page) : Prop := MemoOk P glob f p.1 p.2.1 p.2.2

variable {A : AProg} {P : Program}

theorem codeOkB_withBook (iv : Nat → Nat → Bool) (B : Tr (List Page)) (f : Nat) : ∀ (c : Code), codeOkB (A.withBook iv B) f c = codeOkB A f c := by
  intro c
  induction c with
  | seq a b iha ihb => simp only [codeOkB, iha, ihb]
  | cond _ a b iha ihb => simp only [codeOkB, iha, ihb]
  | block _ c ih => simp only [codeOkB, ih]
  | loop c ih => simp only [codeOkB, ih]
  | rangeFunc _ _ a b iha ihb => simp only [codeOkB, iha, ihb]
  | scope c ih => simp only [codeOkB, ih]
  | _ => rfl

theorem AOk.withBook (hA : AOk P A) (iv : Nat → Nat → Bool) (B : Tr (List Page)) (h : ∀ f l, B.get f = some l → ∀ p ∈ l, PageOk P A.glob f p) : AOk P (A.withBook iv B) where
  mixed := hA.mixed
  ty := hA.ty
  zsz := hA.zsz
  eqs := hA.eqs
  func := fun f fn hf => by
    obtain ⟨h1, h2, h3⟩ := hA.func f fn hf
    exact ⟨h1, h2, fun c hc => by rw [codeOkB_withBook]; exact h3 c hc⟩
  memo := fun f args v fresh hm => by
    unfold AProg.withBook lookB at hm
    simp only at hm
    split at hm
    · rename_i l hl
      exact h f l hl _ (findF_mem hm)
    · cases hm

/-- A call runs to what stands on a page. -/
noncomputable def ranB (A : AProg) (k f : Nat) (p : Page) : Bool :=
  match pureRun (callF k A) (.func f [] []) p.1 with
  | some (v, fresh) => Bool.rec false (Bool.rec (Bool.rec true false fresh) fresh p.2.2) (likeF v p.2.1)
  | none => false

theorem PageOk.of_ran (hA : AOk P A) {k f : Nat} {p : Page} (h : ranB A k f p = true) : PageOk P A.glob f p := by
  unfold ranB at h
  split at h
  · rename_i v fresh hr
    obtain ⟨h1, h2⟩ := and_of_rec h
    have e1 := likeF_eq _ _ h1
    have e2 : fresh = p.2.2 := by
      cases fresh <;> cases hp : p.2.2 <;> rw [hp] at h2 <;> first | rfl | exact Bool.noConfusion (h2 : false = true)
    rw [callF_eq] at hr
    unfold PageOk
    rw [← e1, ← e2]
    exact pureRun_ok (callN_ok hA k) hr
  · cases h

/-- Pages of one table. -/
def BookOk (P : Program) (glob : Nat → Option (List AVal)) (l : List (Nat × Page)) : Prop := ∀ x ∈ l, PageOk P glob x.1 x.2

theorem BookOk.nil {glob : Nat → Option (List AVal)} : BookOk P glob [] := fun _ h => absurd h List.not_mem_nil
theorem BookOk.cons {glob : Nat → Option (List AVal)} {f : Nat} {p : Page} {l : List (Nat × Page)} (h : PageOk P glob f p) (hl : BookOk P glob l) : BookOk P glob ((f, p) :: l) := fun x hx => by
  rcases List.mem_cons.1 hx with e | e
  · subst e; exact h
  · exact hl x e
theorem BookOk.append {glob : Nat → Option (List AVal)} {l m : List (Nat × Page)} (hl : BookOk P glob l) (hm : BookOk P glob m) : BookOk P glob (l ++ m) := fun x hx => by
  rcases List.mem_append.1 hx with e | e
  · exact hl x e
  · exact hm x e

/-- A book of pages in a row. -/
noncomputable def bookOf : List (Nat × Page) → Tr (List Page)
  | [] => .nil
  | (f, p) :: l => (bookOf l).set f (p :: ((bookOf l).get f).getD [])
theorem bookOf_ok {glob : Nat → Option (List AVal)} : ∀ (l : List (Nat × Page)), BookOk P glob l → ∀ f m, (bookOf l).get f = some m → ∀ p ∈ m, PageOk P glob f p := by
  intro l
  induction l with
  | nil => intro _ f m h; simp [bookOf, Tr.get_nil] at h
  | cons x l ih =>
    obtain ⟨g, q⟩ := x
    intro hl f m h p hp
    have hl' : BookOk P glob l := fun x hx => hl x (List.mem_cons_of_mem _ hx)
    rw [bookOf, Tr.get_set] at h
    split at h
    · rename_i e
      cases h
      subst e
      rcases List.mem_cons.1 hp with e | e
      · subst e; exact hl (g, p) List.mem_cons_self
      · cases hm : (bookOf l).get g with
        | none => rw [hm] at e; simp at e
        | some m' => rw [hm] at e; exact ih hl' g m' hm p e
    · exact ih hl' f m h p hp

end Go.Proofs.YtjckhhkhgjbpaaaGreatDoor.Pale
