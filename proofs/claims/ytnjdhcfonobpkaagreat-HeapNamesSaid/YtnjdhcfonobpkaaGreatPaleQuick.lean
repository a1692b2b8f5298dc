/- Pieces of the abstract machine in a form that the kernel runs quickly; each is the piece that it stands for. -/
import Derived.Test.YtnjdhcfonobpkaaGreatPaleRow
set_option linter.unusedVariables false
namespace Go.Proofs.YtnjdhcfonobpkaaGreat.Pale
open Go
noncomputable section

def nthF {α : Type} (l : List α) : Nat → Option α := List.rec (motive := fun _ => Nat → Option α) (fun _ => none) (fun x _ ih n => Nat.rec (some x) (fun m _ => ih m) n) l
theorem nthF_eq {α : Type} : ∀ (l : List α) (n : Nat), nthF l n = l[n]? := by
  intro l
  induction l with
  | nil => intro n; rfl
  | cons x l ih =>
    intro n
    cases n with
    | zero => rfl
    | succ n => exact ih n

/-- One place of a row is written; none if there is no such place. -/
def putAtF {α : Type} (l : List α) : Nat → α → Option (List α) :=
  List.rec (motive := fun _ => Nat → α → Option (List α)) (fun _ _ => none) (fun x l ih n v => Nat.rec (some (v :: l)) (fun m _ => Option.rec (motive := fun _ => Option (List α)) none (fun l' => some (x :: l')) (ih m v)) n) l
theorem putAtF_eq {α : Type} (v : α) : ∀ (l : List α) (n : Nat), putAtF l n v = if n < l.length then some (l.set n v) else none := by
  intro l
  induction l with
  | nil => intro n; rfl
  | cons x l ih =>
    intro n
    cases n with
    | zero => rfl
    | succ n =>
      show Option.rec (motive := fun _ => Option (List α)) none (fun l' => some (x :: l')) (putAtF l n v) = _
      rw [ih]
      by_cases h : n < l.length
      · rw [if_pos h, if_pos (by simpa using h)]; rfl
      · rw [if_neg h, if_neg (by simpa using h)]

/-! ### numbers -/
def topF (k : IntKind) : Nat := IntKind.rec (motive := fun _ => Nat) 128 32768 2147483648 9223372036854775808 256 65536 4294967296 18446744073709551616 k
def lowF (k : IntKind) : Nat := IntKind.rec (motive := fun _ => Nat) 128 32768 2147483648 9223372036854775808 0 0 0 0 k
def wrapF (k : IntKind) (n : Int) : Int := Int.rec (motive := fun _ => Int) (fun a => Bool.rec (k.wrap (.ofNat a)) (.ofNat a) (Nat.blt a (topF k))) (fun a => Bool.rec (k.wrap (.negSucc a)) (.negSucc a) (Nat.blt a (lowF k))) n

theorem wrap_fits (k : IntKind) (n : Int) (h1 : -(lowF k : Int) ≤ n) (h2 : n < (topF k : Int)) : k.wrap n = n := by
  cases k <;> simp only [lowF, topF] at h1 h2 <;> simp only [IntKind.wrap, IntKind.bits, IntKind.signed, Bool.true_and, Bool.false_and, decide_eq_true_eq, Bool.false_eq_true, if_false, Int.reducePow, Nat.reduceSub, ge_iff_le] <;> (try split) <;> omega

theorem blt_true {a b : Nat} (h : Nat.blt a b = true) : a < b := by simpa [Nat.blt_eq] using h
theorem blt_false {a b : Nat} (h : Nat.blt a b = false) : ¬ a < b := fun e => by
  have : Nat.blt a b = true := by simpa [Nat.blt_eq] using e
  rw [h] at this; cases this

theorem wrapF_eq (k : IntKind) (n : Int) : wrapF k n = k.wrap n := by
  cases n with
  | ofNat a =>
    show Bool.rec (motive := fun _ => Int) (k.wrap (.ofNat a)) (.ofNat a) (Nat.blt a (topF k)) = _
    cases h : Nat.blt a (topF k) with
    | false => rfl
    | true =>
      have := blt_true h
      show Int.ofNat a = _
      exact (wrap_fits k (Int.ofNat a) (by have : (0 : Int) ≤ Int.ofNat a := Int.natCast_nonneg a; omega) (by show ((a : Nat) : Int) < _; omega)).symm
  | negSucc a =>
    show Bool.rec (motive := fun _ => Int) (k.wrap (.negSucc a)) (.negSucc a) (Nat.blt a (lowF k)) = _
    cases h : Nat.blt a (lowF k) with
    | false => rfl
    | true =>
      have := blt_true h
      show Int.negSucc a = _
      exact (wrap_fits k (Int.negSucc a) (by rw [Int.negSucc_eq]; omega) (by rw [Int.negSucc_eq]; omega)).symm

def ltF (a b : Int) : Bool := Int.rec (motive := fun _ => Bool) (fun x => Int.rec (motive := fun _ => Bool) (fun y => Nat.blt x y) (fun _ => false) b) (fun x => Int.rec (motive := fun _ => Bool) (fun _ => true) (fun y => Nat.blt y x) b) a
theorem ltF_eq (a b : Int) : ltF a b = decide (a < b) := by
  cases a <;> cases b <;> rename_i x y
  · show Nat.blt x y = _
    rw [Bool.eq_iff_iff]; simp [Nat.blt_eq]
  · show false = _
    rw [Bool.eq_iff_iff]; simp [Int.negSucc_eq] <;> omega
  · show true = _
    rw [Bool.eq_iff_iff]; simp [Int.negSucc_eq] <;> omega
  · show Nat.blt y x = _
    rw [Bool.eq_iff_iff]; simp [Nat.blt_eq, Int.negSucc_eq] <;> omega
def eqF (a b : Int) : Bool := Int.rec (motive := fun _ => Bool) (fun x => Int.rec (motive := fun _ => Bool) (fun y => Nat.beq x y) (fun _ => false) b) (fun x => Int.rec (motive := fun _ => Bool) (fun _ => false) (fun y => Nat.beq x y) b) a
theorem eqF_eq (a b : Int) : eqF a b = (a == b) := by
  cases a <;> cases b <;> rename_i x y
  · show Nat.beq x y = _
    rw [Bool.eq_iff_iff]; simp <;> omega
  · show false = _
    rw [Bool.eq_iff_iff]; simp
  · show false = _
    rw [Bool.eq_iff_iff]; simp
  · show Nat.beq x y = _
    rw [Bool.eq_iff_iff]; simp <;> omega

def sameF (j k : IntKind) : Bool := Nat.beq j.ctorIdx k.ctorIdx
theorem sameF_eq (j k : IntKind) : sameF j k = decide (j = k) := by cases j <;> cases k <;> rfl

abbrev IntOp := IntKind → IntKind → Int → Int → Option AVal
def iAdd : IntOp := fun k j a b => Bool.rec none (some (.int k (wrapF k (a + b)))) (sameF k j)
def iSub : IntOp := fun k j a b => Bool.rec none (some (.int k (wrapF k (a - b)))) (sameF k j)
def iMul : IntOp := fun k j a b => Bool.rec none (some (.int k (wrapF k (a * b)))) (sameF k j)
def iEql : IntOp := fun k j a b => Bool.rec none (some (.bool (eqF a b))) (sameF k j)
def iNeq : IntOp := fun k j a b => Bool.rec none (some (.bool (Bool.rec true false (eqF a b)))) (sameF k j)
def iLss : IntOp := fun k j a b => Bool.rec none (some (.bool (ltF a b))) (sameF k j)
def iGtr : IntOp := fun k j a b => Bool.rec none (some (.bool (ltF b a))) (sameF k j)
def iLeq : IntOp := fun k j a b => Bool.rec none (some (.bool (Bool.rec true false (ltF b a)))) (sameF k j)
def iGeq : IntOp := fun k j a b => Bool.rec none (some (.bool (Bool.rec true false (ltF a b)))) (sameF k j)
def iElse (op : BinOp) : IntOp := fun k j a b => abin op none none (.int k a) (.int j b)
def intF (op : BinOp) : IntOp :=
  BinOp.rec (motive := fun _ => IntOp) iAdd iSub iMul (iElse .quo) (iElse .rem) (iElse .and) (iElse .or) (iElse .xor) (iElse .shl) (iElse .shr) (iElse .andNot) iEql iNeq iLss iLeq iGtr iGeq op

theorem intF_eq (op : BinOp) (t e : Option TyI) (k j : IntKind) (a b : Int) : intF op k j a b = abin op t e (.int k a) (.int j b) := by
  have hs : ∀ (X : Option AVal), (Bool.rec (motive := fun _ => Option AVal) none X (sameF k j)) = if k = j then X else none := fun X => by
    rw [sameF_eq]
    by_cases h : k = j
    · simp [h]
    · simp [h]
  have hn : ∀ (x : Bool), (Bool.rec (motive := fun _ => Bool) true false x) = !x := fun x => by cases x <;> rfl
  cases op
  case add => show Bool.rec (motive := fun _ => Option AVal) none _ (sameF k j) = _; rw [hs, wrapF_eq]; rfl
  case sub => show Bool.rec (motive := fun _ => Option AVal) none _ (sameF k j) = _; rw [hs, wrapF_eq]; rfl
  case mul => show Bool.rec (motive := fun _ => Option AVal) none _ (sameF k j) = _; rw [hs, wrapF_eq]; rfl
  case eql => show Bool.rec (motive := fun _ => Option AVal) none _ (sameF k j) = _; rw [hs, eqF_eq]; rfl
  case neq => show Bool.rec (motive := fun _ => Option AVal) none _ (sameF k j) = _; rw [hs, hn, eqF_eq]; rfl
  case lss => show Bool.rec (motive := fun _ => Option AVal) none _ (sameF k j) = _; rw [hs, ltF_eq]; rfl
  case gtr => show Bool.rec (motive := fun _ => Option AVal) none _ (sameF k j) = _; rw [hs, ltF_eq]; rfl
  case leq =>
    show Bool.rec (motive := fun _ => Option AVal) none _ (sameF k j) = _
    rw [hs, hn, ltF_eq, show (!decide (b < a)) = decide (a ≤ b) from by rw [Bool.eq_iff_iff]; simp]; rfl
  case geq =>
    show Bool.rec (motive := fun _ => Option AVal) none _ (sameF k j) = _
    rw [hs, hn, ltF_eq, show (!decide (a < b)) = decide (a ≥ b) from by rw [Bool.eq_iff_iff]; simp]; rfl
  all_goals rfl

def abinF (op : BinOp) (t e : Option TyI) (x y : AVal) : Option AVal :=
  match x, y with
  | .int k a, .int j b => intF op k j a b
  | x, y => abin op t e x y
theorem abinF_eq (op : BinOp) (t e : Option TyI) (x y : AVal) : abinF op t e x y = abin op t e x y := by
  unfold abinF
  split
  · exact intF_eq op t e _ _ _ _
  · rfl

/-! ### memory -/
def oneF (σ : AMem) (r : Option AVal) : Option (AVal × AMem) := Option.rec (motive := fun _ => Option (AVal × AMem)) none (fun v => some (v, σ)) r
theorem oneF_eq (σ : AMem) (r : Option AVal) : oneF σ r = r.map (·, σ) := by cases r <;> rfl

def cellF (agg : Bool) (t : TyI) (σ : AMem) (p : AVal) (cells : List AVal) (off : Nat) : Option AVal := Bool.rec (nthF cells off) (loadA t σ p) agg
def loadF (t : TyI) (σ : AMem) (p : AVal) : Option AVal :=
  match p with
  | .ptr r off => match σ.get r with
    | some (.row _ _ cells) => cellF t.isAgg t σ p cells off
    | _ => none
  | p => loadA t σ p
theorem loadF_eq (t : TyI) (σ : AMem) (p : AVal) : loadF t σ p = loadA t σ p := by
  unfold loadF
  split
  · rename_i r off
    cases ho : σ.get r with
    | none => simp [loadA, ho]
    | some o =>
      cases o with
      | row sz g cells =>
        simp only
        unfold cellF
        cases ha : t.isAgg with
        | true => rfl
        | false => simp [loadA, ho, ha, nthF_eq]
      | loop r => simp [loadA, ho]
      | map es => simp [loadA, ho]
  · rfl

def store1F (σ : AMem) (r sz : Nat) (g : Bool) (cells : List AVal) (off : Nat) (v : AVal) : Option AMem :=
  Bool.rec (motive := fun _ => Option AMem) none (Option.rec (motive := fun _ => Option AMem) none (fun cells' => some (σ.put r (.row sz g cells'))) (putAtF cells off v)) v.oneCell
def store2F (t : TyI) (σ : AMem) (r off : Nat) (v : AVal) : Option AMem :=
  Bool.rec (motive := fun _ => Option AMem) none (match σ.get r with
      | some (.row sz g cells) => store1F σ r sz g cells off v
      | _ => none) (Nat.beq 1 t.size)
def storeF (t : TyI) (σ : AMem) (a v : AVal) : Option AMem :=
  match a with
  | .ptr r off => match v with
    | .agg cs => storeA t σ (.ptr r off) (.agg cs)
    | v => store2F t σ r off v
  | a => none
theorem store2F_eq (t : TyI) (σ : AMem) (r off : Nat) (v : AVal) (hcells : v.cells = [v]) : store2F t σ r off v = storeA t σ (.ptr r off) v := by
  unfold storeA store2F
  simp only [hcells, List.length_singleton]
  by_cases h1 : 1 = t.size
  · rw [if_pos h1, ← h1]
    show (match σ.get r with
      | some (.row sz g cells) => store1F σ r sz g cells off v
      | _ => none) = _
    unfold storeCellsA
    cases ho : σ.get r with
    | none => rfl
    | some o =>
      cases o with
      | row sz g cells =>
        simp only
        unfold store1F
        rw [putAtF_eq]
        cases hv1 : v.oneCell with
        | false => simp [hv1]
        | true =>
          by_cases hlt : off < cells.length
          · rw [if_pos hlt]
            simp [hv1, setAt, Nat.succ_le_of_lt hlt]
          · rw [if_neg hlt]
            have : ¬ off + 1 ≤ cells.length := by omega
            simp [this]
      | loop r => rfl
      | map es => rfl
  · rw [if_neg h1]
    cases hb : Nat.beq 1 t.size with
    | false => rfl
    | true => exact absurd (Nat.eq_of_beq_eq_true hb) h1
theorem storeF_eq (t : TyI) (σ : AMem) (a v : AVal) : storeF t σ a v = storeA t σ a v := by
  cases a with
  | ptr r off => cases v with
    | agg cs => rfl
    | _ => exact store2F_eq t σ r off _ rfl
  | _ => rfl

end
end Go.Proofs.YtnjdhcfonobpkaaGreat.Pale
