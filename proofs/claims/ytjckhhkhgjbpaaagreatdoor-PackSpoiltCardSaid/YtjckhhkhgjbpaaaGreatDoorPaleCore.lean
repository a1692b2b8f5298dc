/- An abstract machine over the kit's Code: deterministic, without a tape: its definitions. -/
import Derived.OrdersIn
import Derived.RangeFuncNested
import Derived.RangeFuncLeaves
set_option linter.unusedVariables false
namespace Go.Proofs.YtjckhhkhgjbpaaaGreatDoor.Pale
open Go

noncomputable section

/-! ### total maps from numbers, as binary trees -/
inductive Tr (α : Type) where
  | nil
  | node (v : Option α) (l r : Tr α)
  deriving Inhabited

def Tr.get {α : Type} (t : Tr α) : Nat → Option α :=
  Tr.rec (motive := fun _ => Nat → Option α) (fun _ => none) (fun v _ _ gl gr n => Nat.casesOn n v (fun m => Nat.casesOn (Nat.mod m 2) (gl (Nat.div m 2)) (fun _ => gr (Nat.div m 2)))) t

def Tr.setF {α : Type} : Nat → Tr α → Nat → α → Tr α
  | 0, t, _, _ => t
  | f + 1, t, n, x =>
    match t, n with
    | .nil, 0 => .node (some x) .nil .nil
    | .node _ l r, 0 => .node (some x) l r
    | .nil, m + 1 => match m % 2 with
      | 0 => .node none (setF f .nil (m / 2) x) .nil
      | _ => .node none .nil (setF f .nil (m / 2) x)
    | .node v l r, m + 1 => match m % 2 with
      | 0 => .node v (setF f l (m / 2) x) r
      | _ => .node v l (setF f r (m / 2) x)

def Tr.set {α : Type} (t : Tr α) (n : Nat) (x : α) : Tr α :=
  Tr.rec (motive := fun _ => Nat → Tr α) (fun n => Tr.setF (n + 1) .nil n x) (fun v l r sl sr n => Nat.casesOn n (.node (some x) l r) (fun m => Nat.casesOn (Nat.mod m 2) (.node v (sl (Nat.div m 2)) r) (fun _ => .node v l (sr (Nat.div m 2))))) t n

def Tr.del {α : Type} : Tr α → Nat → Tr α
  | .nil, _ => .nil
  | .node v l r, n => match n with
    | 0 => .node none l r
    | m + 1 => match m % 2 with
      | 0 => .node v (l.del (m / 2)) r
      | _ => .node v l (r.del (m / 2))

/-! ### values and memory -/
inductive VK where
  | nil | zero | some
  deriving DecidableEq, Inhabited

inductive AVal where
  | bool (b : Bool)
  | int (k : IntKind) (n : Int)
  | str (s : List UInt8)
  | ptr (r off : Nat)
  | nilptr
  | slice (r off len : Nat) (cap : Option Nat) (sz : Nat)
  | vs (k : VK) (es : List AVal)
  | vptr (v : AVal)
  | func (f : Nat) (first caps : List AVal)
  | yield (l : Nat)
  | nilfn
  | nilmap
  | map (r : Nat)
  | agg (cs : List AVal)
  | tuple (vs : List AVal)
  deriving Inhabited

def AVal.cells : AVal → List AVal
  | .agg cs => cs
  | v => [v]

mutual
def AVal.beq : AVal → AVal → Bool
  | .bool a, .bool b => a == b
  | .int j a, .int k b => j == k && a == b
  | .str a, .str b => a == b
  | .ptr a b, .ptr c d => a == c && b == d
  | .nilptr, .nilptr => true
  | .slice a b c d i, .slice e f g h j => a == e && b == f && c == g && d == h && i == j
  | .vs k a, .vs l b => k == l && AVal.beqL a b
  | .vptr a, .vptr b => AVal.beq a b
  | .func f a c, .func g b d => f == g && AVal.beqL a b && AVal.beqL c d
  | .yield a, .yield b => a == b
  | .nilfn, .nilfn => true
  | .nilmap, .nilmap => true
  | .map a, .map b => a == b
  | .agg a, .agg b => AVal.beqL a b
  | .tuple a, .tuple b => AVal.beqL a b
  | _, _ => false
def AVal.beqL : List AVal → List AVal → Bool
  | [], [] => true
  | a :: as, b :: bs => AVal.beq a b && AVal.beqL as bs
  | _, _ => false
end

inductive AExit where
  | normal
  | exit (id : Nat)
  | ret
  deriving DecidableEq, Inhabited

structure ALoop where
  state : LoopState
  pending : Option AExit
  fn : Nat
  N : Nat
  T : Tr AVal
  params : List Nat
  assign : Code
  body : Code

inductive AObj where
  | row (sz : Nat) (isAgg : Bool) (cells : List AVal)
  | loop (r : ALoop)
  | map (es : List (AVal × AVal))

structure AMem where
  objs : Tr AObj
  next : Nat

def AMem.empty : AMem := ⟨.nil, 0⟩
def AMem.get (σ : AMem) (r : Nat) : Option AObj := σ.objs.get r
def AMem.put (σ : AMem) (r : Nat) (o : AObj) : AMem := { σ with objs := σ.objs.set r o }
def AMem.push (σ : AMem) (o : AObj) : AMem := ⟨σ.objs.set σ.next o, σ.next + 1⟩
def AMem.del (σ : AMem) (r : Nat) : AMem := { σ with objs := σ.objs.del r }

/-! ### types -/
inductive TyK where
  | bool
  | int (k : IntKind)
  | string
  | pointer
  | func
  | struct (fs : List (Nat × Nat))
  | array (n e : Nat)
  | slice (e : Nat)
  | map (k e : Nat)
  | other
  deriving Inhabited

structure TyI where
  k : TyK
  size : Nat
  bytes : Nat
  zero : List AVal
  deriving Inhabited

def TyI.isAgg (t : TyI) : Bool := match t.k with
  | .struct _ | .array _ _ => true
  | _ => false

/-- How a region that draws its order is run: the operations in an order, behind each the loads that are asked again; and of each operation some that come before it in every order. -/
structure Drawn where
  steps : List (Nat × List Nat)
  anc : List (List Nat)
  deriving Inhabited

structure AProg where
  func : Nat → Option Func
  ty : Nat → Option TyI
  ord : Nat → Nat → Option Drawn
  isVal : Nat → Nat → Bool
  /-- Structs of integers that are compared with each other. -/
  eqs : Nat → Bool
  glob : Nat → Option (List AVal)
  memo : Nat → List AVal → Option (AVal × Bool)

/-! ### operands, constants -/
def ofScalar : Value → Option AVal
  | .bool b => some (.bool b)
  | .int k n => some (.int k n)
  | .string s => some (.str s.data.toList)
  | .pointer none => some .nilptr
  | .slice none 0 0 => some (.vs .nil [])
  | .nilFunc => some .nilfn
  | .map none => some .nilmap
  | _ => none

def ofScalars : List Value → Option (List AVal)
  | [] => some []
  | v :: vs => match ofScalar v, ofScalars vs with
    | some x, some xs => some (x :: xs)
    | _, _ => none

def ofConst : Value → Option AVal
  | .agg cs => (ofScalars cs.toList).map .agg
  | .tuple cs => match cs.toList with
    | [] => some (.tuple [])
    | _ => none
  | v => ofScalar v

def evalO (A : AProg) (T : Tr AVal) : Operand → Option AVal
  | .tmp t => T.get t
  | .const v => ofConst v
  | .func f => some (.func f [] [])
  | .global k => match A.glob k with
    | some cs => some (.vptr (.agg cs))
    | none => none

def evalL (A : AProg) (T : Tr AVal) : List Operand → Option (List AVal)
  | [] => some []
  | x :: xs => match evalO A T x, evalL A T xs with
    | some v, some vs => some (v :: vs)
    | _, _ => none

/-! ### cells -/
def setAt (l : List AVal) (off : Nat) : List AVal → List AVal
  | [] => l
  | v :: vs => setAt (l.set off v) (off + 1) vs

/-- A value that one cell can hold. -/
def AVal.oneCell : AVal → Bool
  | .agg _ | .tuple _ => false
  | _ => true

def chunk (sz : Nat) : Nat → List AVal → List (List AVal)
  | 0, _ => []
  | n + 1, l => l.take sz :: chunk sz n (l.drop sz)

def mkElem (isAgg : Bool) (cs : List AVal) : Option AVal :=
  if isAgg then some (.agg cs) else match cs with
  | [v] => if v.oneCell then some v else none
  | _ => none

def mkElems (isAgg : Bool) : List (List AVal) → Option (List AVal)
  | [] => some []
  | c :: cs => match mkElem isAgg c, mkElems isAgg cs with
    | some v, some vs => some (v :: vs)
    | _, _ => none

def loadA (t : TyI) (σ : AMem) : AVal → Option AVal
  | .ptr r off => match σ.get r with
    | some (.row _ _ cells) =>
      if t.isAgg then (if off + t.size ≤ cells.length then some (.agg ((cells.drop off).take t.size)) else none)
      else cells[off]?
    | _ => none
  | .vptr v => match v with
    | .agg cs => if t.isAgg && cs.length == t.size then some v else none
    | _ => if t.isAgg then none else some v
  | _ => none

def storeCellsA (σ : AMem) (r off : Nat) (vs : List AVal) : Option AMem :=
  match σ.get r with
  | some (.row sz g cells) =>
    if off + vs.length ≤ cells.length && vs.all AVal.oneCell then some (σ.put r (.row sz g (setAt cells off vs))) else none
  | _ => none

def storeA (t : TyI) (σ : AMem) (a v : AVal) : Option AMem :=
  match a with
  | .ptr r off => if v.cells.length = t.size then storeCellsA σ r off v.cells else none
  | _ => none

def partA (t : TyI) (cs : List AVal) (off : Nat) : Option AVal :=
  if t.isAgg then (if off + t.size ≤ cs.length then some (.agg ((cs.drop off).take t.size)) else none)
  else match cs[off]? with
    | some v => if v.oneCell then some v else none
    | none => none

def fillA (place : Nat → Option (Nat × Nat)) (cells : List AVal) : List (Nat × AVal) → Option (List AVal)
  | [] => some cells
  | (i, v) :: rest => match place i with
    | none => none
    | some (off, size) => if v.cells.length = size && off + size ≤ cells.length then fillA place (setAt cells off v.cells) rest else none

def repZ (z : List AVal) : Nat → List AVal
  | 0 => []
  | n + 1 => z ++ repZ z n

/-! ### arithmetic -/
def abinInt (op : BinOp) (k : IntKind) (a b : Int) : Option AVal :=
  match op with
  | .add => some (.int k (k.wrap (a + b)))
  | .sub => some (.int k (k.wrap (a - b)))
  | .mul => some (.int k (k.wrap (a * b)))
  | .quo => if b = 0 then none else some (.int k (k.wrap (a.tdiv b)))
  | .rem => if b = 0 then none else some (.int k (a.tmod b))
  | .and => some (.int k (k.wrap (BitVec.ofInt k.bits a &&& BitVec.ofInt k.bits b).toNat))
  | .or => some (.int k (k.wrap (BitVec.ofInt k.bits a ||| BitVec.ofInt k.bits b).toNat))
  | .xor => some (.int k (k.wrap (BitVec.ofInt k.bits a ^^^ BitVec.ofInt k.bits b).toNat))
  | .andNot => some (.int k (k.wrap (BitVec.ofInt k.bits a &&& ~~~(BitVec.ofInt k.bits b)).toNat))
  | .eql => some (.bool (a == b))
  | .neq => some (.bool (a != b))
  | .lss => some (.bool (decide (a < b)))
  | .leq => some (.bool (decide (a ≤ b)))
  | .gtr => some (.bool (decide (a > b)))
  | .geq => some (.bool (decide (a ≥ b)))
  | _ => none

def abinStr (op : BinOp) (x y : List UInt8) : Option AVal :=
  match op with
  | .eql => some (.bool (x == y))
  | .neq => some (.bool (!(x == y)))
  | .lss => some (.bool (Op.bytesLess x y))
  | .leq => some (.bool (Op.bytesLess x y || x == y))
  | .gtr => some (.bool (!(Op.bytesLess x y || x == y)))
  | .geq => some (.bool (!(Op.bytesLess x y)))
  | _ => none

def eqInts : List AVal → List AVal → Option Bool
  | [], [] => some true
  | .int j a :: xs, .int k b :: ys => if j = k then (eqInts xs ys).map (fun r => (a == b) && r) else none
  | _, _ => none

def eqBools : List AVal → List AVal → Option Bool
  | [], [] => some true
  | .bool a :: xs, .bool b :: ys => (eqBools xs ys).map (fun r => (a == b) && r)
  | _, _ => none

def eqNilS : AVal → AVal → Option Bool
  | .vs .nil _, .vs .nil _ => some true
  | .vs .nil _, .vs _ _ => some false
  | .vs .nil _, .slice .. => some false
  | .vs _ _, .vs .nil _ => some false
  | .slice .., .vs .nil _ => some false
  | _, _ => none
def eqNilP : AVal → AVal → Option Bool
  | .nilptr, .nilptr => some true
  | .nilptr, .ptr .. => some false
  | .nilptr, .vptr _ => some false
  | .ptr .., .nilptr => some false
  | .vptr _, .nilptr => some false
  | _, _ => none
def eqNilF : AVal → AVal → Option Bool
  | .nilfn, .nilfn => some true
  | .nilfn, .func .. => some false
  | .func .., .nilfn => some false
  | _, _ => none
def eqBool : AVal → AVal → Option Bool
  | .bool a, .bool b => some (a == b)
  | _, _ => none
def eqAggI (n : Nat) : AVal → AVal → Option Bool
  | .agg a, .agg b => if a.length = n then eqInts a b else none
  | _, _ => none

def eqAggB (n : Nat) : AVal → AVal → Option Bool
  | .agg a, .agg b => if a.length = n then eqBools a b else none
  | _, _ => none

/-- Equality of two values of a type; of an array the type of its elements. -/
def aeq (t : TyI) (e : Option TyI) (x y : AVal) : Option Bool :=
  match t.k with
  | .bool => eqBool x y
  | .slice _ => eqNilS x y
  | .pointer => eqNilP x y
  | .func => eqNilF x y
  | .array n _ => match e with
    | some ei => match ei.k with
      | .int _ => if ei.size = 1 then eqAggI n x y else none
      | .bool => if ei.size = 1 then eqAggB n x y else none
      | _ => none
    | none => none
  | .struct fs => match e with
    | some _ => eqAggI fs.length x y
    | none => none
  | _ => none

/-- What the comparison of two values of a type asks of another type. -/
def eqTy (A : AProg) (t : Nat) : Option TyI :=
  match A.ty t with
  | some i => match i.k with
    | .array _ e => A.ty e
    | .struct _ => if A.eqs t then some default else none
    | _ => none
  | none => none

def abin (op : BinOp) (t e : Option TyI) (x y : AVal) : Option AVal :=
  match x, y with
  | .int k a, .int k' b =>
    match op with
    | .shl => if b < 0 then none else some (.int k (k.wrap (a * 2 ^ (min b.toNat k.bits))))
    | .shr => if b < 0 then none else some (.int k (a.fdiv (2 ^ (min b.toNat k.bits))))
    | _ => if k = k' then abinInt op k a b else none
  | .str a, .str b => abinStr op a b
  | _, _ => match t, op with
    | some t, .eql => (aeq t e x y).map .bool
    | some t, .neq => (aeq t e x y).map fun b => .bool (!b)
    | _, _ => none

def aun (op : UnOp) (x : AVal) : Option AVal :=
  match op, x with
  | .neg, .int k n => some (.int k (k.wrap (0 - n)))
  | .xor, .int k n => some (.int k (k.wrap (BitVec.ofInt k.bits (if k.signed then -1 else k.max) ^^^ BitVec.ofInt k.bits n).toNat))
  | .not, .bool b => some (.bool (!b))
  | _, _ => none

/-! ### slices -/
/-- The elements of a slice or a string, as cells; how many there are. -/
def sourceA (size : Nat) (σ : AMem) : AVal → Option (List AVal × Nat)
  | .vs _ es => if es.all (fun e => e.cells.length == size) then some (es.flatMap AVal.cells, es.length) else none
  | .slice r off len _ _ => match σ.get r with
    | some (.row _ _ cells) => if off + len * size ≤ cells.length then some ((cells.drop off).take (len * size), len) else none
    | _ => none
  | .str s => if size = 1 then some (s.map (fun b => .int .u8 b.toNat), s.length) else none
  | _ => none

def mostBytes : Nat := 1099511627776

def appendA (e : TyI) (σ : AMem) (s x : AVal) : Option (AVal × AMem) :=
  match sourceA e.size σ x with
  | none => none
  | some (xs, n) =>
    if n = 0 then (match s with
      | .vs .. | .slice .. => some (s, σ)
      | _ => none)
    else if e.size = 0 || e.bytes = 0 || decide (e.bytes > 1048576) then none else
    match s with
    | .vs .some _ => none
    | .vs _ _ => if n * e.bytes ≤ mostBytes then some (.slice σ.next 0 n none e.size, σ.push (.row e.size e.isAgg xs)) else none
    | .slice r off len cap z =>
      if (len + n) * e.bytes ≤ mostBytes then
        match σ.get r with
        | some (.row sz g cells) =>
          if sz = e.size then
          match cap with
          | some c =>
            if len + n ≤ c then (storeCellsA σ r (off + len * e.size) xs).map fun σ' => (.slice r off (len + n) (some c) z, σ')
            else if off + len * e.size ≤ cells.length then some (.slice σ.next 0 (len + n) none e.size, σ.push (.row e.size e.isAgg ((cells.drop off).take (len * e.size) ++ xs)))
            else none
          | none =>
            if off + (len + n) * e.size ≤ cells.length then (storeCellsA σ r (off + len * e.size) xs).map fun σ' => (.slice r off (len + n) none z, σ')
            else if off + len * e.size ≤ cells.length && xs.all AVal.oneCell then some (.slice σ.next 0 (len + n) none z, (σ.del r).push (.row sz g ((cells.drop off).take (len * e.size) ++ xs)))
            else none
          else none
        | _ => none
      else none
    | _ => none

/-- So many zeros behind a slice that has no room. -/
def appendZ (e : TyI) (σ : AMem) (s x : AVal) : Option (AVal × AMem) :=
  match s, x with
  | .vs .some _, _ => none
  | .vs _ _, .int _ n =>
    if 0 < n ∧ 0 < e.size ∧ 0 < e.bytes ∧ e.bytes ≤ 1048576 ∧ n.toNat * e.bytes ≤ mostBytes then some (.slice σ.next 0 n.toNat none e.size, σ.push (.row e.size e.isAgg (repZ e.zero n.toNat))) else none
  | _, _ => none

def isNum (t : TyI) : Bool := match t.k with
  | .int _ => true
  | _ => false

def lenA : AVal → Option Nat
  | .vs _ es => some es.length
  | .slice _ _ len _ _ => some len
  | .str s => some s.length
  | _ => none

def copyA (e : TyI) (σ : AMem) (d x : AVal) : Option (AVal × AMem) :=
  match sourceA e.size σ x, d with
  | some (xs, n), .vs _ es => if Nat.min n es.length = 0 then some (.int .i64 0, σ) else none
  | some (xs, n), .slice r off len _ _ =>
    if Nat.min n len = 0 then some (.int .i64 0, σ) else
    (storeCellsA σ r off (xs.take (Nat.min n len * e.size))).map fun σ' => (.int .i64 (Nat.min n len), σ')
  | _, _ => none

def clearA (e : TyI) (σ : AMem) (x : AVal) : Option (AVal × AMem) :=
  match x with
  | .vs _ [] => some (.tuple [], σ)
  | .slice r off len _ _ =>
    if len = 0 then some (.tuple [], σ) else
    (storeCellsA σ r off (repZ e.zero len)).map fun σ' => (.tuple [], σ')
  | _ => none

def maxF : AVal → List AVal → Option AVal
  | x, [] => some x
  | .int k x, .int j y :: rest => if k = j then maxF (.int k (if y > x then y else x)) rest else none
  | _, _ => none
def minF : AVal → List AVal → Option AVal
  | x, [] => some x
  | .int k x, .int j y :: rest => if k = j then minF (.int k (if y < x then y else x)) rest else none
  | _, _ => none
def maxL : List AVal → Option AVal
  | .int k x :: rest => maxF (.int k x) rest
  | _ => none
def minL : List AVal → Option AVal
  | .int k x :: rest => minF (.int k x) rest
  | _ => none

def boundA (v : Option AVal) (dflt most : Nat) : Option Nat :=
  match v with
  | none => some dflt
  | some (.int _ i) => if 0 ≤ i ∧ i ≤ (most : Int) then some i.toNat else none
  | _ => none

def sliceA (size : Nat) (x : AVal) (lo hi mx : Option AVal) : Option AVal :=
  match x with
  | .str s => match mx, boundA hi s.length s.length with
    | none, some h => match boundA lo 0 h with
      | some l => some (.str ((s.take h).drop l))
      | none => none
    | _, _ => none
  | .vs k es =>
    match boundA mx es.length es.length with
    | none => none
    | some m => match boundA hi es.length m with
      | none => none
      | some h => match boundA lo 0 h with
        | none => none
        | some l => some (.vs (if k = .nil then .nil else if mx.isSome && m == l then .zero else k) ((es.take h).drop l))
  | .slice r off len cap z =>
    match cap with
    | some c => match boundA mx c c with
      | none => none
      | some m => match boundA hi len m with
        | none => none
        | some h => match boundA lo 0 h with
          | none => none
          | some l => some (.slice r (off + l * size) (h - l) (some (m - l)) z)
    | none => match mx with
      | some _ => match boundA mx len len with
        | none => none
        | some m => match boundA hi len m with
          | none => none
          | some h => match boundA lo 0 h with
            | none => none
            | some l => some (.slice r (off + l * size) (h - l) (some (m - l)) z)
      | none => match boundA hi len len with
        | none => none
        | some h => match boundA lo 0 h with
          | none => none
          | some l => some (.slice r (off + l * size) (h - l) none z)
  | _ => none

/-! ### maps -/
/-- Keys that are integers (true) or strings. -/
def keyEq (ki : Bool) (x y : AVal) : Option Bool :=
  match ki, x, y with
  | true, .int j a, .int k b => if j = k then some (a == b) else none
  | false, .str a, .str b => some (a == b)
  | _, _, _ => none

def findA (ki : Bool) (k : AVal) : List (AVal × AVal) → Option (Option AVal)
  | [] => some none
  | (x, v) :: es => match keyEq ki k x with
    | some true => some (some v)
    | some false => findA ki k es
    | none => none

def updA (ki : Bool) (k v : AVal) : List (AVal × AVal) → Option (List (AVal × AVal))
  | [] => some [(k, v)]
  | (x, u) :: es => match keyEq ki k x with
    | some true => some ((k, v) :: es)
    | some false => (updA ki k v es).map ((x, u) :: ·)
    | none => none

/-! ### a value without references, out of memory -/
def snapL (f : AVal → Option (AVal × List Nat)) : List AVal → Option (List AVal × List Nat)
  | [] => some ([], [])
  | v :: vs => match f v, snapL f vs with
    | some (x, a), some (xs, b) => some (x :: xs, a ++ b)
    | _, _ => none

/-- Does a value hang on no memory at all? -/
def AVal.indep : AVal → Bool
  | .bool _ | .int .. | .str _ | .nilptr | .nilfn | .nilmap => true
  | .vs _ [] => true
  | _ => false

/-- With `fr`: of what is new only. -/
def snapF (fr : Bool) (σ : AMem) : Nat → AVal → Option (AVal × List Nat)
  | 0, _ => none
  | k + 1, v => match v with
    | .bool _ | .int .. | .str _ | .nilptr | .nilfn | .nilmap => some (v, [])
    | .vs _ _ | .vptr _ => if fr && !v.indep then none else some (v, [])
    | .agg cs => (snapL (snapF fr σ k) cs).map fun (l, a) => (.agg l, a)
    | .tuple cs => (snapL (snapF fr σ k) cs).map fun (l, a) => (.tuple l, a)
    | .ptr r off => match σ.get r with
      | some (.row _ _ cells) => if off = 0 then (snapL (snapF fr σ k) cells).map fun (l, a) => (.vptr (.agg l), r :: a) else none
      | _ => none
    | .slice r off len cap z => match σ.get r with
      | some (.row sz g cells) =>
        if 0 < sz && off + len * sz ≤ cells.length then
          match snapL (snapF fr σ k) ((cells.drop off).take (len * sz)) with
          | some (l, a) => match mkElems g (chunk sz len l) with
            | some es => some (.vs .some es, r :: a)
            | none => none
          | none => none
        else none
      | _ => none
    | _ => none

def delAll (σ : AMem) : List Nat → AMem
  | [] => σ
  | r :: rs => delAll (σ.del r) rs

abbrev CallA := AVal → List AVal → AMem → Option (AVal × AMem)

def snapDepth : Nat := 12

def isFn : AVal → Option Nat
  | .func f [] [] => some f
  | _ => none

/-- A call from the empty memory; what it gives, and whether that is new all through. -/
def pureRun (call : CallA) (f : AVal) (args : List AVal) : Option (AVal × Bool) :=
  match call f args AMem.empty with
  | none => none
  | some (v, σ1) => match snapF true σ1 snapDepth v with
    | some (v', _) => some (v', true)
    | none => match snapF false σ1 snapDepth v with
      | some (v', _) => some (v', false)
      | none => none

/-- The same, or what is known of it. -/
def memoRun (A : AProg) (call : CallA) (f : AVal) (args : List AVal) : Option (AVal × Bool) :=
  match isFn f with
  | some g => match A.memo g args with
    | some r => some r
    | none => pureRun call f args
  | none => none

def pureCall (A : AProg) (call : CallA) (f : AVal) (args : List AVal) (σ : AMem) : Option (AVal × AMem) :=
  match snapL (snapF false σ snapDepth) args with
  | none => none
  | some (args', seen) => match memoRun A call f args' with
    | none => none
    | some (v, fresh) => some (v, if fresh then σ else delAll σ seen)

/-! ### one operation -/
def oneTy (A : AProg) (ts : Array TypeId) : Option TyI := match ts.toList with
  | t :: _ => A.ty t
  | [] => none

def elemTy (A : AProg) (t : TypeId) : Option TyI := match A.ty t with
  | some i => match i.k with
    | .slice e => A.ty e
    | _ => none
  | none => none

def bytesOfA : List AVal → Option (List UInt8)
  | [] => some []
  | .int .u8 n :: l => (bytesOfA l).map (UInt8.ofNat n.toNat :: ·)
  | _ => none

/-- A conversion; of a slice the type of its elements. -/
def convA (s d : TyI) (e : Option TyI) (σ : AMem) (x : AVal) : Option (AVal × AMem) :=
  match d.k with
  | .int k => match s.k, x with
    | .int _, .int _ n => some (.int k (k.wrap n), σ)
    | _, _ => none
  | .string => match s.k with
    | .string => match x with
      | .str s' => some (.str s', σ)
      | _ => none
    | .slice _ => match e with
      | some ei => match ei.k with
        | .int .u8 => match x with
          | .str _ => none
          | x => match sourceA 1 σ x with
            | some (xs, _) => (bytesOfA xs).map fun l => (.str l, σ)
            | none => none
        | _ => none
      | none => none
    | _ => none
  | _ => none

def keyKind (t : Option TyI) : Option Bool := match t with
  | some i => match i.k with
    | .int _ => some true
    | .string => some false
    | _ => none
  | none => none

def lenB (t : TyI) (x : AVal) : Option AVal :=
  match t.k with
  | .string => match x with
    | .str s => some (.int .i64 s.length)
    | _ => none
  | .slice _ => match x with
    | .vs _ es => some (.int .i64 es.length)
    | .slice _ _ n _ _ => some (.int .i64 n)
    | _ => none
  | .array n _ => some (.int .i64 n)
  | _ => none

def capB (t : TyI) (x : AVal) : Option AVal :=
  match t.k with
  | .slice _ => match x with
    | .slice _ _ _ (some c) _ => some (.int .i64 c)
    | .vs .nil _ => some (.int .i64 0)
    | .vs .zero _ => some (.int .i64 0)
    | _ => none
  | _ => none

def isSeq (t : TyI) : Bool := match t.k with
  | .slice _ => true
  | .string => true
  | _ => false

def builtinA (A : AProg) (b : Builtin) (ts : Array TypeId) (args : List AVal) (σ : AMem) : Option (AVal × AMem) :=
  match b with
  | .len => match args, oneTy A ts with
    | [x], some t => (lenB t x).map (·, σ)
    | _, _ => none
  | .cap => match args, oneTy A ts with
    | [x], some t => (capB t x).map (·, σ)
    | _, _ => none
  | .max => (maxL args).map (·, σ)
  | .min => (minL args).map (·, σ)
  | .append => match args, ts.toList with
    | [s, x], [t, u] => match elemTy A t, A.ty u with
      | some e, some i => if isSeq i then appendA e σ s x else if isNum i then appendZ e σ s x else none
      | _, _ => none
    | _, _ => none
  | .copy => match args, ts.toList with
    | [d, x], t :: _ => match elemTy A t with
      | some e => copyA e σ d x
      | none => none
    | _, _ => none
  | .clear => match args, ts.toList with
    | [x], t :: _ => match elemTy A t with
      | some e => clearA e σ x
      | none => none
    | _, _ => none
  | _ => none

/-- How far a slice of a row reaches at least. -/
def limA (σ : AMem) (r off len size : Nat) : Nat :=
  match σ.get r with
  | some (.row _ _ cells) => Nat.max len ((cells.length - off) / size)
  | _ => len

def sliceM (σ : AMem) (size r off len : Nat) (cap : Option Nat) (z : Nat) (lo hi mx : Option AVal) : Option AVal :=
  match cap, mx with
  | none, none => match boundA hi len (limA σ r off len size) with
    | none => none
    | some h => match boundA lo 0 h with
      | none => none
      | some l => some (.slice r (off + l * size) (h - l) none z)
  | _, _ => sliceA size (.slice r off len cap z) lo hi mx

def evalOpt (A : AProg) (T : Tr AVal) : Option Operand → Option (Option AVal)
  | none => some none
  | some x => (evalO A T x).map some

def evalParts (A : AProg) (T : Tr AVal) : List (Nat × Operand) → Option (List (Nat × AVal))
  | [] => some []
  | (i, x) :: rest => match evalO A T x, evalParts A T rest with
    | some v, some l => some ((i, v) :: l)
    | _, _ => none

def placesA (A : AProg) : List (Nat × Nat) → Option (List (Nat × Nat))
  | [] => some []
  | (off, t) :: fs => match A.ty t, placesA A fs with
    | some i, some l => some ((off, i.size) :: l)
    | _, _ => none

def opSem (A : AProg) (call : CallA) (caller : Nat) (o : Oper) (T : Tr AVal) (σ : AMem) : Option (AVal × AMem) :=
  match o.op with
  | .move x | .assign x => (evalO A T x).map (·, σ)
  | .pick c a b => match evalO A T c with
    | some (.bool true) => (evalO A T a).map (·, σ)
    | some (.bool false) => (evalO A T b).map (·, σ)
    | _ => none
  | .alloc t => match A.ty t with
    | some i => some (.ptr σ.next 0, σ.push (.row i.size i.isAgg i.zero))
    | none => none
  | .box t x => match A.ty t, evalO A T x with
    | some i, some v => some (.ptr σ.next 0, σ.push (.row i.size i.isAgg v.cells))
    | _, _ => none
  | .build t parts => match A.ty t, evalParts A T parts.toList with
    | some i, some ps => match i.k with
      | .struct fs => match placesA A fs with
        | some pl => (fillA (fun j => pl[j]?) i.zero ps).map fun cs => (.agg cs, σ)
        | none => none
      | .array _ e => match A.ty e with
        | some ei => (fillA (fun j => some (j * ei.size, ei.size)) i.zero ps).map fun cs => (.agg cs, σ)
        | none => none
      | _ => none
    | _, _ => none
  | .buildSlice t len parts => match elemTy A t, evalParts A T parts.toList with
    | some e, some ps =>
      if len * e.size ≤ 16777216 && e.zero.length == e.size then
        (fillA (fun j => some (j * e.size, e.size)) (repZ e.zero len) ps).map fun cs => (.slice σ.next 0 len (some len) e.size, σ.push (.row e.size e.isAgg cs))
      else none
    | _, _ => none
  | .load t a => match A.ty t, evalO A T a with
    | some i, some p => (loadA i σ p).map (·, σ)
    | _, _ => none
  | .store t a x => match A.ty t, evalO A T a, evalO A T x with
    | some i, some p, some v => (storeA i σ p v).map (.tuple [], ·)
    | _, _, _ => none
  | .nilCheck x => match evalO A T x with
    | some (.ptr r off) => some (.ptr r off, σ)
    | some (.vptr v) => some (.vptr v, σ)
    | some (.func f fs cs) => some (.func f fs cs, σ)
    | _ => none
  | .binOp op t x y _ => match evalO A T x, evalO A T y with
    | some a, some b => (abin op (A.ty t) (eqTy A t) a b).map (·, σ)
    | _, _ => none
  | .unOp op _ x => match evalO A T x with
    | some a => (aun op a).map (·, σ)
    | none => none
  | .convert s d x => match A.ty s, A.ty d, evalO A T x with
    | some si, some di, some v => convA si di (elemTy A s) σ v
    | _, _, _ => none
  | .makeFunc fn first captured => match fn, evalL A T first.toList, evalL A T captured.toList with
    | .func f, some fs, some cs => some (.func f fs cs, σ)
    | _, _, _ => none
  | .makeMap _ r => match r with
    | none => some (.map σ.next, σ.push (.map []))
    | some x => match evalO A T x with
      | some (.int _ _) => none
      | _ => none
  | .makeSlice t l c => match elemTy A t, evalO A T l, evalO A T c with
    | some e, some (.int .i64 n), some (.int .i64 m) =>
      if 0 ≤ n ∧ n ≤ m ∧ m * e.bytes ≤ mostBytes ∧ m ≤ 9223372036854775807 ∧ e.zero.length = e.size ∧ 0 < e.size then
        some (.slice σ.next 0 n.toNat (some m.toNat) e.size, σ.push (.row e.size e.isAgg (repZ e.zero m.toNat)))
      else none
    | _, _, _ => none
  | .slice t x lo hi mx => match A.ty t, evalO A T x, evalOpt A T lo, evalOpt A T hi, evalOpt A T mx with
    | some i, some v, some l, some h, some m => match i.k with
      | .string => match v with
        | .str _ => (sliceA 1 v l h m).map (·, σ)
        | _ => none
      | .slice e => match A.ty e, v with
        | some ei, .vs _ es => if es.all (fun c => c.cells.length == ei.size) && (m.isNone || h.isSome) then (sliceA ei.size v l h m).map (·, σ) else none
        | some ei, .slice r off len cap z => if z == ei.size && (m.isNone || h.isSome) then (sliceM σ ei.size r off len cap z l h m).map (·, σ) else none
        | _, _ => none
      | _ => none
    | _, _, _, _, _ => none
  | .fieldAddr s x f => match A.ty s, evalO A T x with
    | some i, some p => match i.k with
      | .struct fs => match fs[f]? with
        | some (off, t) => match A.ty t with
          | some ti => if ti.size = 0 then none else match p with
            | .ptr r o => some (.ptr r (o + off), σ)
            | .vptr (.agg cs) => (partA ti cs off).map fun v => (.vptr v, σ)
            | _ => none
          | none => none
        | none => none
      | _ => none
    | _, _ => none
  | .field t x f => match A.ty t, evalO A T x with
    | some i, some (.agg cs) => match i.k with
      | .struct fs => match fs[f]? with
        | some (off, u) => match A.ty u with
          | some ui => (partA ui cs off).map (·, σ)
          | none => none
        | none => none
      | _ => none
    | _, _ => none
  | .indexAddr t x ix => match A.ty t, evalO A T x, evalO A T ix with
    | some i, some v, some (.int _ n) => match i.k with
      | .slice e => match A.ty e with
        | some ei => match v with
          | .slice r off len _ _ => if 0 ≤ n ∧ n < (len : Int) ∧ ei.size ≠ 0 then some (.ptr r (off + n.toNat * ei.size), σ) else none
          | .vs _ es => if 0 ≤ n then (es[n.toNat]?).bind fun v => if v.cells.length = ei.size then some (.vptr v, σ) else none else none
          | _ => none
        | none => none
      | .array len e => match A.ty e with
        | some ei => match v with
          | .ptr r off => if 0 ≤ n ∧ n < (len : Int) ∧ ei.size ≠ 0 then some (.ptr r (off + n.toNat * ei.size), σ) else none
          | .vptr (.agg cs) => if 0 ≤ n ∧ n < (len : Int) ∧ ei.size ≠ 0 then (partA ei cs (n.toNat * ei.size)).map fun v => (.vptr v, σ) else none
          | _ => none
        | none => none
      | _ => none
    | _, _, _ => none
  | .index t x ix => match A.ty t, evalO A T x, evalO A T ix with
    | some i, some v, some (.int _ n) => match i.k, v with
      | .string, .str s => if 0 ≤ n then (s[n.toNat]?).map fun b => (.int .u8 b.toNat, σ) else none
      | .array len e, .agg cs => match A.ty e with
        | some ei => if 0 ≤ n ∧ n < (len : Int) then (partA ei cs (n.toNat * ei.size)).map (·, σ) else none
        | none => none
      | _, _ => none
    | _, _, _ => none
  | .lookup t x ix ok => match A.ty t, evalO A T x, evalO A T ix with
    | some i, some (.map r), some kv => match i.k, σ.get r with
      | .map k e, some (.map es) => match A.ty e, ((keyKind (A.ty k)).bind fun ki => findA ki kv es) with
        | some ei, some res => match (match res with | some v => some (v, true) | none => (mkElem ei.isAgg ei.zero).map (·, false)) with
          | some (v, b) => some (if ok then .tuple [v, .bool b] else v, σ)
          | none => none
        | _, _ => none
      | _, _ => none
    | _, _, _ => none
  | .mapUpdate t m kx vx | .insert t m kx vx => match A.ty t, evalO A T m, evalO A T kx, evalO A T vx with
    | some i, some (.map r), some kv, some v => match i.k, σ.get r with
      | .map k _, some (.map es) => ((keyKind (A.ty k)).bind fun ki => updA ki kv v es).map fun es' => (.tuple [], σ.put r (.map es'))
      | _, _ => none
    | _, _, _, _ => none
  | .extract t ix => match evalO A T t with
    | some (.tuple vs) => (vs[ix]?).map (·, σ)
    | _ => none
  | .call c => match evalL A T c.args.toList with
    | some args => match c.callee with
      | .builtin b => builtinA A b c.argTypes args σ
      | .value f => match evalO A T f with
        | some fv => match isFn fv with
          | some g => if A.isVal caller g then pureCall A call fv args σ else call fv args σ
          | none => call fv args σ
        | none => none
      | _ => none
    | none => none
  | _ => none

/-! ### regions -/
def wantA (ops : Array Oper) (T : Tr AVal) (o : Oper) : Option Bool :=
  match o.guard with
  | none => some true
  | some (j, want) => match (ops[j]?).bind (·.dst) with
    | none => none
    | some d => match T.get d with
      | some (.bool b) => some (b == want)
      | some (.tuple _) => some false
      | _ => none

def putA (N : Nat) (T : Tr AVal) (d : Option Nat) (v : AVal) : Option (Tr AVal) :=
  match d with
  | none => some T
  | some d => if d < N then some (T.set d v) else none

def step1 (A : AProg) (call : CallA) (caller N : Nat) (ops : Array Oper) (o : Oper) (T : Tr AVal) (σ : AMem) : Option (Tr AVal × AMem) :=
  match wantA ops T o with
  | some true => match opSem A call caller o T σ with
    | some (v, σ') => (putA N T o.dst v).map (·, σ')
    | none => none
  | some false => (putA N T o.dst (.tuple [])).map (·, σ)
  | none => none

def runOps (A : AProg) (call : CallA) (caller N : Nat) (ops : Array Oper) : List Oper → Tr AVal → AMem → Option (Tr AVal × AMem)
  | [], T, σ => some (T, σ)
  | o :: rest, T, σ => match step1 A call caller N ops o T σ with
    | some (T', σ') => runOps A call caller N ops rest T' σ'
    | none => none

/-- What reads, again: it must give what it gave. -/
def again (A : AProg) (call : CallA) (caller : Nat) (ops : Array Oper) (T : Tr AVal) (σ : AMem) (j : Nat) : Bool :=
  match ops[j]? with
  | some o => match wantA ops T o with
    | some false => true
    | some true => match o.dst with
      | some d => match opSem A call caller o T σ, T.get d with
        | some (u, _), some v => AVal.beq u v
        | _, _ => false
      | none => false
    | none => false
  | none => false

def runD (A : AProg) (call : CallA) (caller N : Nat) (ops : Array Oper) : List (Nat × List Nat) → Tr AVal → AMem → Option (Tr AVal × AMem)
  | [], T, σ => some (T, σ)
  | (i, chk) :: rest, T, σ => match ops[i]? with
    | some o => match step1 A call caller N ops o T σ with
      | some (T', σ') => if chk.all (again A call caller ops T' σ') then runD A call caller N ops rest T' σ' else none
      | none => none
    | none => none

/-! ### code -/
abbrev Out := Option (AExit × Tr AVal × AMem)

def iterL : Nat → (Tr AVal → AMem → Out) → Tr AVal → AMem → Out
  | 0, _, _, _ => none
  | n + 1, b, T, σ => match b T σ with
    | some (.normal, T', σ') => iterL n b T' σ'
    | r => r

def rangeA (A : AProg) (call : CallA) (caller N : Nat) (g : Operand) (ps : List Nat) (assign body : Code) (T : Tr AVal) (σ : AMem) : Out :=
  match evalO A T g with
  | some (.func f fs cs) => match call (.func f fs cs) [.yield σ.next] (σ.push (.loop { state := .ready, pending := none, fn := caller, N, T, params := ps, assign, body })) with
    | none => none
    | some (_, σ2) => match σ2.get σ.next with
      | some (.loop r) =>
        if r.state = .busy then none else
        match r.pending with
        | none => some (.normal, T, σ2.put σ.next (.loop { r with state := .exhausted }))
        | some e => some (e, T, σ2.put σ.next (.loop { r with state := .exhausted }))
      | _ => none
  | _ => none

def execC (A : AProg) (call : CallA) (k caller N : Nat) : Code → Tr AVal → AMem → Out
  | .skip, T, σ => some (.normal, T, σ)
  | .region id ops draw, T, σ => match draw with
    | false => (runOps A call caller N ops ops.toList T σ).map fun (T', σ') => (.normal, T', σ')
    | true => match A.ord caller id with
      | some d => (runD A call caller N ops d.steps T σ).map fun (T', σ') => (.normal, T', σ')
      | none => none
  | .seq a b, T, σ => match execC A call k caller N a T σ with
    | some (.normal, T', σ') => execC A call k caller N b T' σ'
    | r => r
  | .cond c a b, T, σ => match evalO A T c with
    | some (.bool true) => execC A call k caller N a T σ
    | some (.bool false) => execC A call k caller N b T σ
    | _ => none
  | .block id c, T, σ => match execC A call k caller N c T σ with
    | some (.exit i, T', σ') => if i = id then some (.normal, T', σ') else some (.exit i, T', σ')
    | r => r
  | .loop c, T, σ => iterL k (fun T σ => execC A call k caller N c T σ) T σ
  | .exit id, T, σ => some (.exit id, T, σ)
  | .ret, T, σ => some (.ret, T, σ)
  | .rangeFunc g ps assign body, T, σ => rangeA A call caller N g ps.toList assign body T σ
  | _, _, _ => none

def initT : Nat → List AVal → Tr AVal → Tr AVal
  | _, [], T => T
  | i, v :: vs, T => initT (i + 1) vs (T.set i v)

def resultA (A : AProg) (T : Tr AVal) (σ : AMem) : ResultVar → Option AVal
  | .tmp t => T.get t
  | .cell a t => match A.ty t, T.get a with
    | some i, some p => match p with
      | .ptr r off => loadA i σ (.ptr r off)
      | _ => none
    | _, _ => none

def resultsA (A : AProg) (T : Tr AVal) (σ : AMem) : List ResultVar → Option (List AVal)
  | [] => some []
  | r :: rs => match resultA A T σ r, resultsA A T σ rs with
    | some v, some vs => some (v :: vs)
    | _, _ => none

def packA : List AVal → AVal
  | [v] => v
  | vs => .tuple vs

def setParams (T : Tr AVal) : List Nat → List AVal → Tr AVal
  | p :: ps, v :: vs => setParams (T.set p v) ps vs
  | _, _ => T

def roundA (A : AProg) (call : CallA) (k l : Nat) (args : List AVal) (σ : AMem) : Option (AVal × AMem) :=
  match σ.get l with
  | some (.loop r) =>
    if args.length = r.params.length && r.params.all (· < r.N) then
      match execC A call k r.fn r.N r.assign (setParams r.T r.params args) σ with
      | some (.normal, T1, σ1) => match σ1.get l with
        | some (.loop r1) =>
          if r1.state = .ready then
            match execC A call k r.fn r.N r.body T1 (σ1.put l (.loop { r1 with state := .busy })) with
            | some (e, _, σ2) => match σ2.get l with
              | some (.loop r2) => match e with
                | .normal => some (.bool true, σ2.put l (.loop { r2 with state := .ready, pending := none }))
                | e => some (.bool false, σ2.put l (.loop { r2 with state := .done, pending := some e }))
              | _ => none
            | none => none
          else none
        | _ => none
      | _ => none
    else none
  | _ => none

def callN (A : AProg) : Nat → CallA
  | 0, _, _, _ => none
  | k + 1, fv, args, σ => match fv with
    | .func f first caps => match A.func f with
      | some fn => match fn.body with
        | some c =>
          if (first ++ args ++ caps).length ≤ fn.ntmps then
            match execC A (callN A k) k f fn.ntmps c (initT 0 (first ++ args ++ caps) .nil) σ with
            | some (e, T, σ') => match e with
              | .exit _ => none
              | _ => match resultsA A T σ' fn.results.toList with
                | some vs => some (packA vs, σ')
                | none => none
            | none => none
          else none
        | none => none
      | none => none
    | .yield l => roundA A (callN A k) k l args σ
    | _ => none

end
end Go.Proofs.YtjckhhkhgjbpaaaGreatDoor.Pale
