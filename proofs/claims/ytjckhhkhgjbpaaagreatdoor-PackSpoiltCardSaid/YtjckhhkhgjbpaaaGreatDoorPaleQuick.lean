/- Pieces of the abstract machine in a form that the kernel runs quickly; each is the piece that it stands for. -/
import Derived.Test.YtjckhhkhgjbpaaaGreatDoorPaleRow
set_option linter.unusedVariables false
namespace Go.Proofs.YtjckhhkhgjbpaaaGreatDoor.Pale
open Go
noncomputable section

def nthF {α : Type} (l : List α) : Nat → Option α := List.rec (motive := fun _ => Nat → Option α) (fun _ => none) (fun x _ ih n => Nat.rec (some x) (fun m _ => ih m) n) l
theorem nthF_eq {α : Type} : ∀ (l : List α) (n : Nat), nthF l n = l[n]? := by
  intro l
  induction l with
  | nil => intro n; rfl
  | cons x l ih =>
    intro n
    cases n with
    | zero => rfl
    | succ n => exact ih n

/-- One place of a row is written; none if there is no such place. -/
def putAtF {α : Type} (l : List α) : Nat → α → Option (List α) :=
  List.rec (motive := fun _ => Nat → α → Option (List α)) (fun _ _ => none) (fun x l ih n v => Nat.rec (some (v :: l)) (fun m _ => Option.rec (motive := fun _ => Option (List α)) none (fun l' => some (x :: l')) (ih m v)) n) l
theorem putAtF_eq {α : Type} (v : α) : ∀ (l : List α) (n : Nat), putAtF l n v = if n < l.length then some (l.set n v) else none := by
  intro l
  induction l with
  | nil => intro n; rfl
  | cons x l ih =>
    intro n
    cases n with
    | zero => rfl
    | succ n =>
      show Option.rec (motive := fun _ => Option (List α)) none (fun l' => some (x :: l')) (putAtF l n v) = _
      rw [ih]
      by_cases h : n < l.length
      · rw [if_pos h, if_pos (by simpa using h)]; rfl
      · rw [if_neg h, if_neg (by simpa using h)]

/-! ### numbers -/
def topF (k : IntKind) : Nat := IntKind.rec (motive := fun _ => Nat) 128 32768 2147483648 9223372036854775808 256 65536 4294967296 18446744073709551616 k
def lowF (k : IntKind) : Nat := IntKind.rec (motive := fun _ => Nat) 128 32768 2147483648 9223372036854775808 0 0 0 0 k
def outF1 (k : IntKind) (a : Nat) : Int := IntKind.rec (motive := fun _ => Int) (IntKind.wrap .i8 (.ofNat a)) (IntKind.wrap .i16 (.ofNat a)) (IntKind.wrap .i32 (.ofNat a)) (IntKind.wrap .i64 (.ofNat a)) (.ofNat (Nat.mod a 256)) (.ofNat (Nat.mod a 65536)) (.ofNat (Nat.mod a 4294967296)) (.ofNat (Nat.mod a 18446744073709551616)) k
theorem outF1_eq (k : IntKind) (a : Nat) : outF1 k a = k.wrap (.ofNat a) := by
  cases k <;> first | rfl | (show Int.ofNat (a % _) = _; simp only [IntKind.wrap, IntKind.bits, IntKind.signed, Bool.false_and, Bool.false_eq_true, if_false, Int.reducePow]; rfl)
def wrapF (k : IntKind) (n : Int) : Int := Int.rec (motive := fun _ => Int) (fun a => Bool.rec (outF1 k a) (.ofNat a) (Nat.blt a (topF k))) (fun a => Bool.rec (k.wrap (.negSucc a)) (.negSucc a) (Nat.blt a (lowF k))) n

theorem wrap_fits (k : IntKind) (n : Int) (h1 : -(lowF k : Int) ≤ n) (h2 : n < (topF k : Int)) : k.wrap n = n := by
  cases k <;> simp only [lowF, topF] at h1 h2 <;> simp only [IntKind.wrap, IntKind.bits, IntKind.signed, Bool.true_and, Bool.false_and, decide_eq_true_eq, Bool.false_eq_true, if_false, Int.reducePow, Nat.reduceSub, ge_iff_le] <;> (try split) <;> omega

theorem blt_true {a b : Nat} (h : Nat.blt a b = true) : a < b := by simpa [Nat.blt_eq] using h
theorem blt_false {a b : Nat} (h : Nat.blt a b = false) : ¬ a < b := fun e => by
  have : Nat.blt a b = true := by simpa [Nat.blt_eq] using e
  rw [h] at this; cases this

theorem wrapF_eq (k : IntKind) (n : Int) : wrapF k n = k.wrap n := by
  cases n with
  | ofNat a =>
    show Bool.rec (motive := fun _ => Int) (outF1 k a) (.ofNat a) (Nat.blt a (topF k)) = _
    cases h : Nat.blt a (topF k) with
    | false => exact outF1_eq k a
    | true =>
      have := blt_true h
      show Int.ofNat a = _
      exact (wrap_fits k (Int.ofNat a) (by have : (0 : Int) ≤ Int.ofNat a := Int.natCast_nonneg a; omega) (by show ((a : Nat) : Int) < _; omega)).symm
  | negSucc a =>
    show Bool.rec (motive := fun _ => Int) (k.wrap (.negSucc a)) (.negSucc a) (Nat.blt a (lowF k)) = _
    cases h : Nat.blt a (lowF k) with
    | false => rfl
    | true =>
      have := blt_true h
      show Int.negSucc a = _
      exact (wrap_fits k (Int.negSucc a) (by rw [Int.negSucc_eq]; omega) (by rw [Int.negSucc_eq]; omega)).symm

def ltF (a b : Int) : Bool := Int.rec (motive := fun _ => Bool) (fun x => Int.rec (motive := fun _ => Bool) (fun y => Nat.blt x y) (fun _ => false) b) (fun x => Int.rec (motive := fun _ => Bool) (fun _ => true) (fun y => Nat.blt y x) b) a
theorem ltF_eq (a b : Int) : ltF a b = decide (a < b) := by
  cases a <;> cases b <;> rename_i x y
  · show Nat.blt x y = _
    rw [Bool.eq_iff_iff]; simp [Nat.blt_eq]
  · show false = _
    rw [Bool.eq_iff_iff]; simp [Int.negSucc_eq] <;> omega
  · show true = _
    rw [Bool.eq_iff_iff]; simp [Int.negSucc_eq] <;> omega
  · show Nat.blt y x = _
    rw [Bool.eq_iff_iff]; simp [Nat.blt_eq, Int.negSucc_eq] <;> omega
def eqF (a b : Int) : Bool := Int.rec (motive := fun _ => Bool) (fun x => Int.rec (motive := fun _ => Bool) (fun y => Nat.beq x y) (fun _ => false) b) (fun x => Int.rec (motive := fun _ => Bool) (fun _ => false) (fun y => Nat.beq x y) b) a
theorem eqF_eq (a b : Int) : eqF a b = (a == b) := by
  cases a <;> cases b <;> rename_i x y
  · show Nat.beq x y = _
    rw [Bool.eq_iff_iff]; simp <;> omega
  · show false = _
    rw [Bool.eq_iff_iff]; simp
  · show false = _
    rw [Bool.eq_iff_iff]; simp
  · show Nat.beq x y = _
    rw [Bool.eq_iff_iff]; simp <;> omega

def sameF (j k : IntKind) : Bool := Nat.beq j.ctorIdx k.ctorIdx
theorem sameF_eq (j k : IntKind) : sameF j k = decide (j = k) := by cases j <;> cases k <;> rfl

abbrev IntOp := IntKind → IntKind → Int → Int → Option AVal
def iAdd : IntOp := fun k j a b => Bool.rec none (some (.int k (wrapF k (a + b)))) (sameF k j)
def iSub : IntOp := fun k j a b => Bool.rec none (some (.int k (wrapF k (a - b)))) (sameF k j)
def iMul : IntOp := fun k j a b => Bool.rec none (some (.int k (wrapF k (a * b)))) (sameF k j)
def iEql : IntOp := fun k j a b => Bool.rec none (some (.bool (eqF a b))) (sameF k j)
def iNeq : IntOp := fun k j a b => Bool.rec none (some (.bool (Bool.rec true false (eqF a b)))) (sameF k j)
def iLss : IntOp := fun k j a b => Bool.rec none (some (.bool (ltF a b))) (sameF k j)
def iGtr : IntOp := fun k j a b => Bool.rec none (some (.bool (ltF b a))) (sameF k j)
def iLeq : IntOp := fun k j a b => Bool.rec none (some (.bool (Bool.rec true false (ltF b a)))) (sameF k j)
def iGeq : IntOp := fun k j a b => Bool.rec none (some (.bool (Bool.rec true false (ltF a b)))) (sameF k j)
/-- Two numbers that are not negative and fit, by a quick operation on natural numbers; else as it is. -/
def natF (op : BinOp) (f : Nat → Nat → Nat) : IntOp := fun k j a b =>
  Int.rec (motive := fun _ => Option AVal) (fun x => Int.rec (motive := fun _ => Option AVal) (fun y =>
    Bool.rec (motive := fun _ => Option AVal) (abin op none none (.int k (.ofNat x)) (.int j (.ofNat y))) (some (.int k (.ofNat (f x y)))) (Bool.rec (motive := fun _ => Bool) false (Bool.rec (motive := fun _ => Bool) false (Nat.blt y (topF k)) (Nat.blt x (topF k))) (sameF k j)))
    (fun y => abin op none none (.int k (.ofNat x)) (.int j (.negSucc y))) b) (fun x => abin op none none (.int k (.negSucc x)) (.int j b)) a
def topBits (k : IntKind) : Nat := IntKind.rec (motive := fun _ => Nat) 7 15 31 63 8 16 32 64 k
theorem topF_pow (k : IntKind) : topF k = 2 ^ topBits k := by cases k <;> rfl
theorem topBits_le (k : IntKind) : topBits k ≤ k.bits := by cases k <;> decide

theorem natF_eq (op : BinOp) (f : Nat → Nat → Nat) (k j : IntKind) (a b : Int) (h : ∀ x y, x < topF k → y < topF k → abin op none none (.int k (.ofNat x)) (.int k (.ofNat y)) = some (.int k (.ofNat (f x y)))) : natF op f k j a b = abin op none none (.int k a) (.int j b) := by
  cases a with
  | negSucc x => rfl
  | ofNat x =>
    cases b with
    | negSucc y => rfl
    | ofNat y =>
      show Bool.rec (motive := fun _ => Option AVal) (abin op none none (.int k (.ofNat x)) (.int j (.ofNat y))) (some (.int k (.ofNat (f x y)))) (Bool.rec (motive := fun _ => Bool) false (Bool.rec (motive := fun _ => Bool) false (Nat.blt y (topF k)) (Nat.blt x (topF k))) (sameF k j)) = _
      cases hs : sameF k j with
      | false => rfl
      | true =>
        have e : k = j := by rw [sameF_eq] at hs; exact of_decide_eq_true hs
        subst e
        cases hx : Nat.blt x (topF k) with
        | false => rfl
        | true =>
          cases hy : Nat.blt y (topF k) with
          | false => rfl
          | true => exact (h x y (blt_true hx) (blt_true hy)).symm

theorem ofInt_small (k : IntKind) (x : Nat) (h : x < topF k) : (BitVec.ofInt k.bits (Int.ofNat x)).toNat = x := by
  have h2 : x < 2 ^ k.bits := by
    rw [topF_pow] at h
    exact Nat.lt_of_lt_of_le h (Nat.pow_le_pow_right (by decide) (topBits_le k))
  have e : BitVec.ofInt k.bits (Int.ofNat x) = BitVec.ofNat k.bits x := BitVec.ofInt_natCast _ _
  rw [e, BitVec.toNat_ofNat, Nat.mod_eq_of_lt h2]

theorem fits_nat (k : IntKind) (x : Nat) (h : x < topF k) : k.wrap (x : Int) = Int.ofNat x := wrap_fits k _ (by omega) (by omega)

theorem and_small (k : IntKind) (x y : Nat) (hx : x < topF k) (hy : y < topF k) : abin .and none none (.int k (.ofNat x)) (.int k (.ofNat y)) = some (.int k (.ofNat (Nat.land x y))) := by
  simp only [abin, if_true, abinInt, BitVec.toNat_and, ofInt_small k x hx, ofInt_small k y hy]
  rw [fits_nat k (x &&& y) (Nat.lt_of_le_of_lt Nat.and_le_left hx)]
  rfl
theorem or_small (k : IntKind) (x y : Nat) (hx : x < topF k) (hy : y < topF k) : abin .or none none (.int k (.ofNat x)) (.int k (.ofNat y)) = some (.int k (.ofNat (Nat.lor x y))) := by
  simp only [abin, if_true, abinInt, BitVec.toNat_or, ofInt_small k x hx, ofInt_small k y hy]
  rw [fits_nat k (x ||| y) (by rw [topF_pow] at *; exact Nat.or_lt_two_pow hx hy)]
  rfl
theorem xor_small (k : IntKind) (x y : Nat) (hx : x < topF k) (hy : y < topF k) : abin .xor none none (.int k (.ofNat x)) (.int k (.ofNat y)) = some (.int k (.ofNat (Nat.xor x y))) := by
  simp only [abin, if_true, abinInt, BitVec.toNat_xor, ofInt_small k x hx, ofInt_small k y hy]
  rw [fits_nat k (x ^^^ y) (by rw [topF_pow] at *; exact Nat.xor_lt_two_pow hx hy)]
  rfl

def bitsF (k : IntKind) : Nat := IntKind.rec (motive := fun _ => Nat) 8 16 32 64 8 16 32 64 k
theorem bitsF_eq (k : IntKind) : bitsF k = k.bits := by cases k <;> rfl
def iShr : IntOp := fun k j a b =>
  Int.rec (motive := fun _ => Option AVal) (fun x => Int.rec (motive := fun _ => Option AVal) (fun y =>
    Bool.rec (motive := fun _ => Option AVal) (abin .shr none none (.int k (.ofNat x)) (.int j (.ofNat y))) (some (.int k (.ofNat (Nat.shiftRight x y)))) (Nat.ble y (bitsF k)))
    (fun y => abin .shr none none (.int k (.ofNat x)) (.int j (.negSucc y))) b) (fun x => abin .shr none none (.int k (.negSucc x)) (.int j b)) a
def iShl : IntOp := fun k j a b =>
  Int.rec (motive := fun _ => Option AVal) (fun x => Int.rec (motive := fun _ => Option AVal) (fun y =>
    Bool.rec (motive := fun _ => Option AVal) (abin .shl none none (.int k (.ofNat x)) (.int j (.ofNat y))) (some (.int k (wrapF k (.ofNat (Nat.shiftLeft x y))))) (Nat.ble y (bitsF k)))
    (fun y => abin .shl none none (.int k (.ofNat x)) (.int j (.negSucc y))) b) (fun x => abin .shl none none (.int k (.negSucc x)) (.int j b)) a
theorem iShr_eq (k j : IntKind) (a b : Int) : iShr k j a b = abin .shr none none (.int k a) (.int j b) := by
  cases a with
  | negSucc x => rfl
  | ofNat x =>
    cases b with
    | negSucc y => rfl
    | ofNat y =>
      show Bool.rec (motive := fun _ => Option AVal) (abin .shr none none (.int k (.ofNat x)) (.int j (.ofNat y))) (some (.int k (.ofNat (Nat.shiftRight x y)))) (Nat.ble y (bitsF k)) = _
      cases h : Nat.ble y (bitsF k) with
      | false => rfl
      | true =>
        have h1 : y ≤ k.bits := by rw [← bitsF_eq]; exact Nat.le_of_ble_eq_true h
        show some (AVal.int k (.ofNat (Nat.shiftRight x y))) = _
        have e : ¬ ((Int.ofNat y) < 0) := by have : (0 : Int) ≤ Int.ofNat y := Int.natCast_nonneg y; omega
        simp only [abin, if_neg e]
        have e2 : (Int.ofNat y).toNat = y := rfl
        rw [e2, Nat.min_eq_left h1]
        have e3 : Nat.shiftRight x y = x / 2 ^ y := Nat.shiftRight_eq_div_pow x y
        rw [e3]
        have e4 : ((2 : Int) ^ y) = ((2 ^ y : Nat) : Int) := by norm_cast
        rw [e4, Int.fdiv_eq_ediv_of_nonneg _ (Int.natCast_nonneg _)]
        rfl
theorem iShl_eq (k j : IntKind) (a b : Int) : iShl k j a b = abin .shl none none (.int k a) (.int j b) := by
  cases a with
  | negSucc x => rfl
  | ofNat x =>
    cases b with
    | negSucc y => rfl
    | ofNat y =>
      show Bool.rec (motive := fun _ => Option AVal) (abin .shl none none (.int k (.ofNat x)) (.int j (.ofNat y))) (some (.int k (wrapF k (.ofNat (Nat.shiftLeft x y))))) (Nat.ble y (bitsF k)) = _
      cases h : Nat.ble y (bitsF k) with
      | false => rfl
      | true =>
        have h1 : y ≤ k.bits := by rw [← bitsF_eq]; exact Nat.le_of_ble_eq_true h
        show some (AVal.int k (wrapF k (.ofNat (Nat.shiftLeft x y)))) = _
        have e : ¬ ((Int.ofNat y) < 0) := by have : (0 : Int) ≤ Int.ofNat y := Int.natCast_nonneg y; omega
        simp only [abin, if_neg e]
        have e2 : (Int.ofNat y).toNat = y := rfl
        rw [e2, Nat.min_eq_left h1, wrapF_eq]
        have e3 : Nat.shiftLeft x y = x * 2 ^ y := Nat.shiftLeft_eq x y
        rw [e3]
        have e4 : ((2 : Int) ^ y) = ((2 ^ y : Nat) : Int) := by norm_cast
        rw [e4]
        rfl

/-- The same, where the second number must not be 0. -/
def natD (op : BinOp) (f : Nat → Nat → Nat) : IntOp := fun k j a b =>
  Int.rec (motive := fun _ => Option AVal) (fun x => Int.rec (motive := fun _ => Option AVal) (fun y =>
    Bool.rec (motive := fun _ => Option AVal) (abin op none none (.int k (.ofNat x)) (.int j (.ofNat y))) (some (.int k (.ofNat (f x y)))) (Bool.rec (motive := fun _ => Bool) false (Bool.rec (motive := fun _ => Bool) false (Bool.rec (motive := fun _ => Bool) true false (Nat.beq y 0)) (Nat.blt x (topF k))) (sameF k j)))
    (fun y => abin op none none (.int k (.ofNat x)) (.int j (.negSucc y))) b) (fun x => abin op none none (.int k (.negSucc x)) (.int j b)) a
theorem natD_eq (op : BinOp) (f : Nat → Nat → Nat) (k j : IntKind) (a b : Int) (h : ∀ x y, x < topF k → y ≠ 0 → abin op none none (.int k (.ofNat x)) (.int k (.ofNat y)) = some (.int k (.ofNat (f x y)))) : natD op f k j a b = abin op none none (.int k a) (.int j b) := by
  cases a with
  | negSucc x => rfl
  | ofNat x =>
    cases b with
    | negSucc y => rfl
    | ofNat y =>
      show Bool.rec (motive := fun _ => Option AVal) (abin op none none (.int k (.ofNat x)) (.int j (.ofNat y))) (some (.int k (.ofNat (f x y)))) (Bool.rec (motive := fun _ => Bool) false (Bool.rec (motive := fun _ => Bool) false (Bool.rec (motive := fun _ => Bool) true false (Nat.beq y 0)) (Nat.blt x (topF k))) (sameF k j)) = _
      cases hs : sameF k j with
      | false => rfl
      | true =>
        have e : k = j := by rw [sameF_eq] at hs; exact of_decide_eq_true hs
        subst e
        cases hx : Nat.blt x (topF k) with
        | false => rfl
        | true =>
          cases hy : Nat.beq y 0 with
          | true => rfl
          | false => exact (h x y (blt_true hx) (fun e => by subst e; cases hy)).symm
theorem quo_small (k : IntKind) (x y : Nat) (hx : x < topF k) (hy : y ≠ 0) : abin .quo none none (.int k (.ofNat x)) (.int k (.ofNat y)) = some (.int k (.ofNat (Nat.div x y))) := by
  have e : ¬ ((Int.ofNat y) = 0) := by intro h; exact hy (by simpa using h)
  simp only [abin, if_true, abinInt, if_neg e]
  show some (AVal.int k (k.wrap ((x / y : Nat) : Int))) = _
  rw [fits_nat k (x / y) (Nat.lt_of_le_of_lt (Nat.div_le_self x y) hx)]
  rfl
theorem rem_small (k : IntKind) (x y : Nat) (hx : x < topF k) (hy : y ≠ 0) : abin .rem none none (.int k (.ofNat x)) (.int k (.ofNat y)) = some (.int k (.ofNat (Nat.mod x y))) := by
  have e : ¬ ((Int.ofNat y) = 0) := by intro h; exact hy (by simpa using h)
  simp only [abin, if_true, abinInt, if_neg e]
  rfl

def iElse (op : BinOp) : IntOp := fun k j a b => abin op none none (.int k a) (.int j b)
def intF (op : BinOp) : IntOp :=
  BinOp.rec (motive := fun _ => IntOp) iAdd iSub iMul (natD .quo Nat.div) (natD .rem Nat.mod) (natF .and Nat.land) (natF .or Nat.lor) (natF .xor Nat.xor) iShl iShr (iElse .andNot) iEql iNeq iLss iLeq iGtr iGeq op

theorem intF_eq (op : BinOp) (t e : Option TyI) (k j : IntKind) (a b : Int) : intF op k j a b = abin op t e (.int k a) (.int j b) := by
  have hs : ∀ (X : Option AVal), (Bool.rec (motive := fun _ => Option AVal) none X (sameF k j)) = if k = j then X else none := fun X => by
    rw [sameF_eq]
    by_cases h : k = j
    · simp [h]
    · simp [h]
  have hn : ∀ (x : Bool), (Bool.rec (motive := fun _ => Bool) true false x) = !x := fun x => by cases x <;> rfl
  cases op
  case add => show Bool.rec (motive := fun _ => Option AVal) none _ (sameF k j) = _; rw [hs, wrapF_eq]; rfl
  case sub => show Bool.rec (motive := fun _ => Option AVal) none _ (sameF k j) = _; rw [hs, wrapF_eq]; rfl
  case mul => show Bool.rec (motive := fun _ => Option AVal) none _ (sameF k j) = _; rw [hs, wrapF_eq]; rfl
  case eql => show Bool.rec (motive := fun _ => Option AVal) none _ (sameF k j) = _; rw [hs, eqF_eq]; rfl
  case neq => show Bool.rec (motive := fun _ => Option AVal) none _ (sameF k j) = _; rw [hs, hn, eqF_eq]; rfl
  case lss => show Bool.rec (motive := fun _ => Option AVal) none _ (sameF k j) = _; rw [hs, ltF_eq]; rfl
  case gtr => show Bool.rec (motive := fun _ => Option AVal) none _ (sameF k j) = _; rw [hs, ltF_eq]; rfl
  case leq =>
    show Bool.rec (motive := fun _ => Option AVal) none _ (sameF k j) = _
    rw [hs, hn, ltF_eq, show (!decide (b < a)) = decide (a ≤ b) from by rw [Bool.eq_iff_iff]; simp]; rfl
  case geq =>
    show Bool.rec (motive := fun _ => Option AVal) none _ (sameF k j) = _
    rw [hs, hn, ltF_eq, show (!decide (a < b)) = decide (a ≥ b) from by rw [Bool.eq_iff_iff]; simp]; rfl
  case and => exact natF_eq .and Nat.land k j a b (and_small k)
  case or => exact natF_eq .or Nat.lor k j a b (or_small k)
  case xor => exact natF_eq .xor Nat.xor k j a b (xor_small k)
  case quo => exact natD_eq .quo Nat.div k j a b (quo_small k)
  case rem => exact natD_eq .rem Nat.mod k j a b (rem_small k)
  case shl => exact iShl_eq k j a b
  case shr => exact iShr_eq k j a b
  all_goals rfl

def abinF (op : BinOp) (t e : Option TyI) (x y : AVal) : Option AVal :=
  match x, y with
  | .int k a, .int j b => intF op k j a b
  | x, y => abin op t e x y
theorem abinF_eq (op : BinOp) (t e : Option TyI) (x y : AVal) : abinF op t e x y = abin op t e x y := by
  unfold abinF
  split
  · exact intF_eq op t e _ _ _ _
  · rfl

/-! ### memory -/
def oneF (σ : AMem) (r : Option AVal) : Option (AVal × AMem) := Option.rec (motive := fun _ => Option (AVal × AMem)) none (fun v => some (v, σ)) r
theorem oneF_eq (σ : AMem) (r : Option AVal) : oneF σ r = r.map (·, σ) := by cases r <;> rfl

def cellF (agg : Bool) (t : TyI) (σ : AMem) (p : AVal) (cells : List AVal) (off : Nat) : Option AVal := Bool.rec (nthF cells off) (loadA t σ p) agg
def loadF (t : TyI) (σ : AMem) (p : AVal) : Option AVal :=
  match p with
  | .ptr r off => match σ.get r with
    | some (.row _ _ cells) => cellF t.isAgg t σ p cells off
    | _ => none
  | p => loadA t σ p
theorem loadF_eq (t : TyI) (σ : AMem) (p : AVal) : loadF t σ p = loadA t σ p := by
  unfold loadF
  split
  · rename_i r off
    cases ho : σ.get r with
    | none => simp [loadA, ho]
    | some o =>
      cases o with
      | row sz g cells =>
        simp only
        unfold cellF
        cases ha : t.isAgg with
        | true => rfl
        | false => simp [loadA, ho, ha, nthF_eq]
      | loop r => simp [loadA, ho]
      | map es => simp [loadA, ho]
  · rfl

def store1F (σ : AMem) (r sz : Nat) (g : Bool) (cells : List AVal) (off : Nat) (v : AVal) : Option AMem :=
  Bool.rec (motive := fun _ => Option AMem) none (Option.rec (motive := fun _ => Option AMem) none (fun cells' => some (σ.put r (.row sz g cells'))) (putAtF cells off v)) v.oneCell
def store2F (t : TyI) (σ : AMem) (r off : Nat) (v : AVal) : Option AMem :=
  Bool.rec (motive := fun _ => Option AMem) none (match σ.get r with
      | some (.row sz g cells) => store1F σ r sz g cells off v
      | _ => none) (Nat.beq 1 t.size)
def storeF (t : TyI) (σ : AMem) (a v : AVal) : Option AMem :=
  match a with
  | .ptr r off => match v with
    | .agg cs => storeA t σ (.ptr r off) (.agg cs)
    | v => store2F t σ r off v
  | a => none
theorem store2F_eq (t : TyI) (σ : AMem) (r off : Nat) (v : AVal) (hcells : v.cells = [v]) : store2F t σ r off v = storeA t σ (.ptr r off) v := by
  unfold storeA store2F
  simp only [hcells, List.length_singleton]
  by_cases h1 : 1 = t.size
  · rw [if_pos h1, ← h1]
    show (match σ.get r with
      | some (.row sz g cells) => store1F σ r sz g cells off v
      | _ => none) = _
    unfold storeCellsA
    cases ho : σ.get r with
    | none => rfl
    | some o =>
      cases o with
      | row sz g cells =>
        simp only
        unfold store1F
        rw [putAtF_eq]
        cases hv1 : v.oneCell with
        | false => simp [hv1]
        | true =>
          by_cases hlt : off < cells.length
          · rw [if_pos hlt]
            simp [hv1, setAt, Nat.succ_le_of_lt hlt]
          · rw [if_neg hlt]
            have : ¬ off + 1 ≤ cells.length := by omega
            simp [this]
      | loop r => rfl
      | map es => rfl
  · rw [if_neg h1]
    cases hb : Nat.beq 1 t.size with
    | false => rfl
    | true => exact absurd (Nat.eq_of_beq_eq_true hb) h1
theorem storeF_eq (t : TyI) (σ : AMem) (a v : AVal) : storeF t σ a v = storeA t σ a v := by
  cases a with
  | ptr r off => cases v with
    | agg cs => rfl
    | _ => exact store2F_eq t σ r off _ rfl
  | _ => rfl

end
end Go.Proofs.YtjckhhkhgjbpaaaGreatDoor.Pale
