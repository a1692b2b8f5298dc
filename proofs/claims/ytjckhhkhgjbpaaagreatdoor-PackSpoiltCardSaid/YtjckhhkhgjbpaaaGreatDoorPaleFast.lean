/- The abstract machine, cut into small pieces that the kernel runs quickly; and that it is the same machine. -/
import Derived.Test.YtjckhhkhgjbpaaaGreatDoorPaleQuick
set_option linter.unusedVariables false
namespace Go.Proofs.YtjckhhkhgjbpaaaGreatDoor.Pale
open Go
noncomputable section
def oNone (A : AProg) (call : CallA) (caller : Nat) (T : Tr AVal) (σ : AMem) : Option (AVal × AMem) := none
def o_move (x : Operand) (A : AProg) (call : CallA) (caller : Nat) (T : Tr AVal) (σ : AMem) : Option (AVal × AMem) := oneF σ (evalO A T x)
def o_assign (x : Operand) (A : AProg) (call : CallA) (caller : Nat) (T : Tr AVal) (σ : AMem) : Option (AVal × AMem) := oneF σ (evalO A T x)
def o_pick (c : Operand) (a : Operand) (b : Operand) (A : AProg) (call : CallA) (caller : Nat) (T : Tr AVal) (σ : AMem) : Option (AVal × AMem) := match evalO A T c with
    | some (.bool true) => (evalO A T a).map (·, σ)
    | some (.bool false) => (evalO A T b).map (·, σ)
    | _ => none
def o_alloc (t : TypeId) (A : AProg) (call : CallA) (caller : Nat) (T : Tr AVal) (σ : AMem) : Option (AVal × AMem) := match A.ty t with
    | some i => some (.ptr σ.next 0, σ.push (.row i.size i.isAgg i.zero))
    | none => none
def o_box (t : TypeId) (x : Operand) (A : AProg) (call : CallA) (caller : Nat) (T : Tr AVal) (σ : AMem) : Option (AVal × AMem) := match A.ty t, evalO A T x with
    | some i, some v => some (.ptr σ.next 0, σ.push (.row i.size i.isAgg v.cells))
    | _, _ => none
def o_build (t : TypeId) (parts : Array (Nat × Operand)) (A : AProg) (call : CallA) (caller : Nat) (T : Tr AVal) (σ : AMem) : Option (AVal × AMem) := match A.ty t, evalParts A T parts.toList with
    | some i, some ps => match i.k with
      | .struct fs => match placesA A fs with
        | some pl => (fillA (fun j => pl[j]?) i.zero ps).map fun cs => (.agg cs, σ)
        | none => none
      | .array _ e => match A.ty e with
        | some ei => (fillA (fun j => some (j * ei.size, ei.size)) i.zero ps).map fun cs => (.agg cs, σ)
        | none => none
      | _ => none
    | _, _ => none
def o_buildSlice (t : TypeId) (len : Nat) (parts : Array (Nat × Operand)) (A : AProg) (call : CallA) (caller : Nat) (T : Tr AVal) (σ : AMem) : Option (AVal × AMem) := match elemTy A t, evalParts A T parts.toList with
    | some e, some ps =>
      if len * e.size ≤ 16777216 && e.zero.length == e.size then
        (fillA (fun j => some (j * e.size, e.size)) (repZ e.zero len) ps).map fun cs => (.slice σ.next 0 len (some len) e.size, σ.push (.row e.size e.isAgg cs))
      else none
    | _, _ => none
def o_insert (t : TypeId) (m : Operand) (kx : Operand) (vx : Operand) (A : AProg) (call : CallA) (caller : Nat) (T : Tr AVal) (σ : AMem) : Option (AVal × AMem) := match A.ty t, evalO A T m, evalO A T kx, evalO A T vx with
    | some i, some (.map r), some kv, some v => match i.k, σ.get r with
      | .map k _, some (.map es) => ((keyKind (A.ty k)).bind fun ki => updA ki kv v es).map fun es' => (.tuple [], σ.put r (.map es'))
      | _, _ => none
    | _, _, _, _ => none
def o_load (t : TypeId) (a : Operand) (A : AProg) (call : CallA) (caller : Nat) (T : Tr AVal) (σ : AMem) : Option (AVal × AMem) := match A.ty t, evalO A T a with
    | some i, some p => oneF σ (loadF i σ p)
    | _, _ => none
def o_store (t : TypeId) (a : Operand) (x : Operand) (A : AProg) (call : CallA) (caller : Nat) (T : Tr AVal) (σ : AMem) : Option (AVal × AMem) := match A.ty t, evalO A T a, evalO A T x with
    | some i, some p, some v => (storeF i σ p v).map (.tuple [], ·)
    | _, _, _ => none
def o_nilCheck (x : Operand) (A : AProg) (call : CallA) (caller : Nat) (T : Tr AVal) (σ : AMem) : Option (AVal × AMem) := match evalO A T x with
    | some (.ptr r off) => some (.ptr r off, σ)
    | some (.vptr v) => some (.vptr v, σ)
    | some (.func f fs cs) => some (.func f fs cs, σ)
    | _ => none
def o_binOp (op : BinOp) (t : TypeId) (x : Operand) (y : Operand) (_z : TypeId) (A : AProg) (call : CallA) (caller : Nat) (T : Tr AVal) (σ : AMem) : Option (AVal × AMem) := match evalO A T x, evalO A T y with
    | some a, some b => oneF σ (abinF op (A.ty t) (eqTy A t) a b)
    | _, _ => none
def o_unOp (op : UnOp) (_z : TypeId) (x : Operand) (A : AProg) (call : CallA) (caller : Nat) (T : Tr AVal) (σ : AMem) : Option (AVal × AMem) := match evalO A T x with
    | some a => (aun op a).map (·, σ)
    | none => none
def o_convert (s : TypeId) (d : TypeId) (x : Operand) (A : AProg) (call : CallA) (caller : Nat) (T : Tr AVal) (σ : AMem) : Option (AVal × AMem) := match A.ty s, A.ty d, evalO A T x with
    | some si, some di, some v => convA si di (elemTy A s) σ v
    | _, _, _ => none
def o_makeFunc (fn : Fn) (first : Array Operand) (captured : Array Operand) (A : AProg) (call : CallA) (caller : Nat) (T : Tr AVal) (σ : AMem) : Option (AVal × AMem) := match fn, evalL A T first.toList, evalL A T captured.toList with
    | .func f, some fs, some cs => some (.func f fs cs, σ)
    | _, _, _ => none
def o_makeMap (_z : TypeId) (r : Option Operand) (A : AProg) (call : CallA) (caller : Nat) (T : Tr AVal) (σ : AMem) : Option (AVal × AMem) := match r with
    | none => some (.map σ.next, σ.push (.map []))
    | some x => match evalO A T x with
      | some (.int _ _) => none
      | _ => none
def o_makeSlice (t : TypeId) (l : Operand) (c : Operand) (A : AProg) (call : CallA) (caller : Nat) (T : Tr AVal) (σ : AMem) : Option (AVal × AMem) := match elemTy A t, evalO A T l, evalO A T c with
    | some e, some (.int .i64 n), some (.int .i64 m) =>
      if 0 ≤ n ∧ n ≤ m ∧ m * e.bytes ≤ mostBytes ∧ m ≤ 9223372036854775807 ∧ e.zero.length = e.size ∧ 0 < e.size then
        some (.slice σ.next 0 n.toNat (some m.toNat) e.size, σ.push (.row e.size e.isAgg (repZ e.zero m.toNat)))
      else none
    | _, _, _ => none
def o_slice (t : TypeId) (x : Operand) (lo : Option Operand) (hi : Option Operand) (mx : Option Operand) (A : AProg) (call : CallA) (caller : Nat) (T : Tr AVal) (σ : AMem) : Option (AVal × AMem) := match A.ty t, evalO A T x, evalOpt A T lo, evalOpt A T hi, evalOpt A T mx with
    | some i, some v, some l, some h, some m => match i.k with
      | .string => match v with
        | .str _ => (sliceA 1 v l h m).map (·, σ)
        | _ => none
      | .slice e => match A.ty e, v with
        | some ei, .vs _ es => if es.all (fun c => c.cells.length == ei.size) && (m.isNone || h.isSome) then (sliceA ei.size v l h m).map (·, σ) else none
        | some ei, .slice r off len cap z => if z == ei.size && (m.isNone || h.isSome) then (sliceM σ ei.size r off len cap z l h m).map (·, σ) else none
        | _, _ => none
      | _ => none
    | _, _, _, _, _ => none
def o_fieldAddr (s : TypeId) (x : Operand) (f : Nat) (A : AProg) (call : CallA) (caller : Nat) (T : Tr AVal) (σ : AMem) : Option (AVal × AMem) := match A.ty s, evalO A T x with
    | some i, some p => match i.k with
      | .struct fs => match fs[f]? with
        | some (off, t) => match A.ty t with
          | some ti => if ti.size = 0 then none else match p with
            | .ptr r o => some (.ptr r (o + off), σ)
            | .vptr (.agg cs) => (partA ti cs off).map fun v => (.vptr v, σ)
            | _ => none
          | none => none
        | none => none
      | _ => none
    | _, _ => none
def o_field (t : TypeId) (x : Operand) (f : Nat) (A : AProg) (call : CallA) (caller : Nat) (T : Tr AVal) (σ : AMem) : Option (AVal × AMem) := match A.ty t, evalO A T x with
    | some i, some (.agg cs) => match i.k with
      | .struct fs => match fs[f]? with
        | some (off, u) => match A.ty u with
          | some ui => (partA ui cs off).map (·, σ)
          | none => none
        | none => none
      | _ => none
    | _, _ => none
def o_indexAddr (t : TypeId) (x : Operand) (ix : Operand) (A : AProg) (call : CallA) (caller : Nat) (T : Tr AVal) (σ : AMem) : Option (AVal × AMem) := match A.ty t, evalO A T x, evalO A T ix with
    | some i, some v, some (.int _ n) => match i.k with
      | .slice e => match A.ty e with
        | some ei => match v with
          | .slice r off len _ _ => if 0 ≤ n ∧ n < (len : Int) ∧ ei.size ≠ 0 then some (.ptr r (off + n.toNat * ei.size), σ) else none
          | .vs _ es => if 0 ≤ n then (es[n.toNat]?).bind fun v => if v.cells.length = ei.size then some (.vptr v, σ) else none else none
          | _ => none
        | none => none
      | .array len e => match A.ty e with
        | some ei => match v with
          | .ptr r off => if 0 ≤ n ∧ n < (len : Int) ∧ ei.size ≠ 0 then some (.ptr r (off + n.toNat * ei.size), σ) else none
          | .vptr (.agg cs) => if 0 ≤ n ∧ n < (len : Int) ∧ ei.size ≠ 0 then (partA ei cs (n.toNat * ei.size)).map fun v => (.vptr v, σ) else none
          | _ => none
        | none => none
      | _ => none
    | _, _, _ => none
def o_index (t : TypeId) (x : Operand) (ix : Operand) (A : AProg) (call : CallA) (caller : Nat) (T : Tr AVal) (σ : AMem) : Option (AVal × AMem) := match A.ty t, evalO A T x, evalO A T ix with
    | some i, some v, some (.int _ n) => match i.k, v with
      | .string, .str s => if 0 ≤ n then (s[n.toNat]?).map fun b => (.int .u8 b.toNat, σ) else none
      | .array len e, .agg cs => match A.ty e with
        | some ei => if 0 ≤ n ∧ n < (len : Int) then (partA ei cs (n.toNat * ei.size)).map (·, σ) else none
        | none => none
      | _, _ => none
    | _, _, _ => none
def o_lookup (t : TypeId) (x : Operand) (ix : Operand) (ok : Bool) (A : AProg) (call : CallA) (caller : Nat) (T : Tr AVal) (σ : AMem) : Option (AVal × AMem) := match A.ty t, evalO A T x, evalO A T ix with
    | some i, some (.map r), some kv => match i.k, σ.get r with
      | .map k e, some (.map es) => match A.ty e, ((keyKind (A.ty k)).bind fun ki => findA ki kv es) with
        | some ei, some res => match (match res with | some v => some (v, true) | none => (mkElem ei.isAgg ei.zero).map (·, false)) with
          | some (v, b) => some (if ok then .tuple [v, .bool b] else v, σ)
          | none => none
        | _, _ => none
      | _, _ => none
    | _, _, _ => none
def o_mapUpdate (t : TypeId) (m : Operand) (kx : Operand) (vx : Operand) (A : AProg) (call : CallA) (caller : Nat) (T : Tr AVal) (σ : AMem) : Option (AVal × AMem) := match A.ty t, evalO A T m, evalO A T kx, evalO A T vx with
    | some i, some (.map r), some kv, some v => match i.k, σ.get r with
      | .map k _, some (.map es) => ((keyKind (A.ty k)).bind fun ki => updA ki kv v es).map fun es' => (.tuple [], σ.put r (.map es'))
      | _, _ => none
    | _, _, _, _ => none
def o_extract (t : Operand) (ix : Nat) (A : AProg) (call : CallA) (caller : Nat) (T : Tr AVal) (σ : AMem) : Option (AVal × AMem) := match evalO A T t with
    | some (.tuple vs) => (vs[ix]?).map (·, σ)
    | _ => none
def o_call (c : Call) (A : AProg) (call : CallA) (caller : Nat) (T : Tr AVal) (σ : AMem) : Option (AVal × AMem) := match evalL A T c.args.toList with
    | some args => match c.callee with
      | .builtin b => builtinA A b c.argTypes args σ
      | .value f => match evalO A T f with
        | some fv => match isFn fv with
          | some g => if A.isVal caller g then pureCall A call fv args σ else call fv args σ
          | none => call fv args σ
        | none => none
      | _ => none
    | none => none
def opF (op : Op) : AProg → CallA → Nat → Tr AVal → AMem → Option (AVal × AMem) :=
  Op.rec (motive := fun _ => AProg → CallA → Nat → Tr AVal → AMem → Option (AVal × AMem)) o_move o_assign o_pick o_alloc o_box o_build o_buildSlice o_insert o_load o_store (fun _ => oNone) (fun _ => oNone) o_nilCheck o_binOp o_unOp o_convert (fun _ _ => oNone) (fun _ _ => oNone) o_makeFunc o_makeMap (fun _ _ => oNone) o_makeSlice o_slice o_fieldAddr o_field o_indexAddr o_index o_lookup o_mapUpdate (fun _ _ _ => oNone) (fun _ _ _ _ => oNone) (fun _ _ => oNone) (fun _ _ => oNone) (fun _ => oNone) (fun _ _ _ _ => oNone) o_extract o_call (fun _ => oNone) (fun _ => oNone) (fun _ => oNone) (fun _ _ => oNone) (fun _ _ _ => oNone) (fun _ _ => oNone) op

theorem opF_eq (A : AProg) (call : CallA) (caller : Nat) (o : Oper) (T : Tr AVal) (σ : AMem) : opF o.op A call caller T σ = opSem A call caller o T σ := by
  unfold opSem
  cases o.op
  case move x => exact oneF_eq _ _
  case assign x => exact oneF_eq _ _
  case load t a =>
    show o_load t a A call caller T σ = _
    unfold o_load
    simp only [oneF_eq, loadF_eq]
    rfl
  case store t a x =>
    show o_store t a x A call caller T σ = _
    unfold o_store
    simp only [storeF_eq]
    rfl
  case binOp op t x y yt =>
    show o_binOp op t x y yt A call caller T σ = _
    unfold o_binOp
    simp only [oneF_eq, abinF_eq]
    rfl
  all_goals rfl

def guardF (l : List Oper) (T : Tr AVal) (g : Nat × Bool) : Option Bool :=
  match (nthF l g.1).bind (·.dst) with
  | none => none
  | some d => match T.get d with
    | some (.bool b) => some (b == g.2)
    | some (.tuple _) => some false
    | _ => none
def wantF (l : List Oper) (T : Tr AVal) (o : Oper) : Option Bool :=
  Option.rec (motive := fun _ => Option Bool) (some true) (guardF l T) o.guard
theorem wantF_eq (ops : Array Oper) (T : Tr AVal) (o : Oper) : wantF ops.toList T o = wantA ops T o := by
  unfold wantF wantA
  cases o.guard with
  | none => rfl
  | some g =>
    obtain ⟨j, w⟩ := g
    simp only [guardF, nthF_eq, Array.getElem?_toList]
    rfl

def putF (d : Option Nat) (N : Nat) (T : Tr AVal) (v : AVal) : Option (Tr AVal) :=
  Option.rec (motive := fun _ => Option (Tr AVal)) (some T) (fun d => Bool.rec none (some (T.set d v)) (Nat.blt d N)) d
theorem putF_eq (d : Option Nat) (N : Nat) (T : Tr AVal) (v : AVal) : putF d N T v = putA N T d v := by
  cases d with
  | none => rfl
  | some d =>
    unfold putF putA
    simp only
    by_cases h : d < N
    · rw [if_pos h, show Nat.blt d N = true from by simpa [Nat.blt_eq] using h]
    · rw [if_neg h]
      cases hb : Nat.blt d N with
      | false => rfl
      | true => exact absurd (by simpa [Nat.blt_eq] using hb) h

def putP (d : Option Nat) (N : Nat) (T : Tr AVal) (v : AVal) (σ : AMem) : Option (Tr AVal × AMem) :=
  Option.rec (motive := fun _ => Option (Tr AVal × AMem)) none (fun T' => some (T', σ)) (putF d N T v)
def stepY (o : Oper) (A : AProg) (call : CallA) (caller N : Nat) (T : Tr AVal) (σ : AMem) : Option (Tr AVal × AMem) :=
  Option.rec (motive := fun _ => Option (Tr AVal × AMem)) none (fun p => Prod.rec (fun v σ' => putP o.dst N T v σ') p) (opF o.op A call caller T σ)
def stepF (o : Oper) (l : List Oper) (A : AProg) (call : CallA) (caller N : Nat) (T : Tr AVal) (σ : AMem) : Option (Tr AVal × AMem) :=
  Option.rec (motive := fun _ => Option (Tr AVal × AMem)) none (fun b => Bool.rec (putP o.dst N T (.tuple []) σ) (stepY o A call caller N T σ) b) (wantF l T o)
theorem stepF_eq (A : AProg) (call : CallA) (caller N : Nat) (ops : Array Oper) (o : Oper) (T : Tr AVal) (σ : AMem) : stepF o ops.toList A call caller N T σ = step1 A call caller N ops o T σ := by
  have hput : ∀ v σ', putP o.dst N T v σ' = (putA N T o.dst v).map (·, σ') := fun v σ' => by
    unfold putP
    rw [putF_eq]
    cases putA N T o.dst v <;> rfl
  unfold stepF step1
  rw [wantF_eq]
  cases wantA ops T o with
  | none => rfl
  | some b =>
    cases b with
    | false => exact hput _ _
    | true =>
      show stepY o A call caller N T σ = _
      unfold stepY
      rw [opF_eq]
      cases opSem A call caller o T σ with
      | none => rfl
      | some p => exact hput _ _

def runF (rest : List Oper) : List Oper → AProg → CallA → Nat → Nat → Tr AVal → AMem → Option (Tr AVal × AMem) :=
  List.rec (motive := fun _ => List Oper → AProg → CallA → Nat → Nat → Tr AVal → AMem → Option (Tr AVal × AMem)) (fun _ _ _ _ _ T σ => some (T, σ))
    (fun o _ ih l A call caller N T σ => Option.rec (motive := fun _ => Option (Tr AVal × AMem)) none (fun p => Prod.rec (fun T' σ' => ih l A call caller N T' σ') p) (stepF o l A call caller N T σ)) rest
theorem runF_eq (A : AProg) (call : CallA) (caller N : Nat) (ops : Array Oper) : ∀ (rest : List Oper) (T : Tr AVal) (σ : AMem), runF rest ops.toList A call caller N T σ = runOps A call caller N ops rest T σ := by
  intro rest
  induction rest with
  | nil => intro T σ; rfl
  | cons o rest ih =>
    intro T σ
    show Option.rec (motive := fun _ => Option (Tr AVal × AMem)) none (fun p => Prod.rec (fun T' σ' => runF rest ops.toList A call caller N T' σ') p) (stepF o ops.toList A call caller N T σ) = _
    rw [stepF_eq, runOps]
    cases step1 A call caller N ops o T σ with
    | none => rfl
    | some p => exact ih _ _

def againF (l : List Oper) (A : AProg) (call : CallA) (caller : Nat) (T : Tr AVal) (σ : AMem) (j : Nat) : Bool :=
  match nthF l j with
  | some o => match wantF l T o with
    | some false => true
    | some true => match o.dst with
      | some d => match opF o.op A call caller T σ, T.get d with
        | some (u, _), some v => AVal.beq u v
        | _, _ => false
      | none => false
    | none => false
  | none => false
theorem againF_eq (A : AProg) (call : CallA) (caller : Nat) (ops : Array Oper) (T : Tr AVal) (σ : AMem) (j : Nat) : againF ops.toList A call caller T σ j = again A call caller ops T σ j := by
  unfold againF again
  rw [nthF_eq, Array.getElem?_toList]
  cases ops[j]? with
  | none => rfl
  | some o => simp only [wantF_eq, opF_eq]; rfl

def allF (chk : List Nat) (f : Nat → Bool) : Bool := List.rec (motive := fun _ => Bool) true (fun j _ ih => Bool.rec false ih (f j)) chk
theorem allF_eq (f : Nat → Bool) : ∀ (l : List Nat), allF l f = l.all f := by
  intro l
  induction l with
  | nil => rfl
  | cons x l ih =>
    show Bool.rec (motive := fun _ => Bool) false (allF l f) (f x) = _
    rw [List.all_cons, ih]
    cases f x <;> rfl

def drawF (steps : List (Nat × List Nat)) : List Oper → AProg → CallA → Nat → Nat → Tr AVal → AMem → Option (Tr AVal × AMem) :=
  List.rec (motive := fun _ => List Oper → AProg → CallA → Nat → Nat → Tr AVal → AMem → Option (Tr AVal × AMem)) (fun _ _ _ _ _ T σ => some (T, σ))
    (fun s _ ih l A call caller N T σ => Option.rec (motive := fun _ => Option (Tr AVal × AMem)) none
      (fun o => Option.rec (motive := fun _ => Option (Tr AVal × AMem)) none (fun p => Prod.rec (fun T' σ' => Bool.rec none (ih l A call caller N T' σ') (allF s.2 (againF l A call caller T' σ'))) p) (stepF o l A call caller N T σ)) (nthF l s.1)) steps
theorem drawF_eq (A : AProg) (call : CallA) (caller N : Nat) (ops : Array Oper) : ∀ (steps : List (Nat × List Nat)) (T : Tr AVal) (σ : AMem), drawF steps ops.toList A call caller N T σ = runD A call caller N ops steps T σ := by
  intro steps
  induction steps with
  | nil => intro T σ; rfl
  | cons s steps ih =>
    intro T σ
    obtain ⟨i, chk⟩ := s
    show Option.rec (motive := fun _ => Option (Tr AVal × AMem)) none
      (fun o => Option.rec (motive := fun _ => Option (Tr AVal × AMem)) none (fun p => Prod.rec (fun T' σ' => Bool.rec none (drawF steps ops.toList A call caller N T' σ') (allF chk (againF ops.toList A call caller T' σ'))) p) (stepF o ops.toList A call caller N T σ)) (nthF ops.toList i) = _
    rw [nthF_eq, Array.getElem?_toList, runD]
    cases ops[i]? with
    | none => rfl
    | some o =>
      simp only [stepF_eq]
      cases step1 A call caller N ops o T σ with
      | none => rfl
      | some p =>
        obtain ⟨T', σ'⟩ := p
        show Bool.rec (motive := fun _ => Option (Tr AVal × AMem)) none (drawF steps ops.toList A call caller N T' σ') (allF chk (againF ops.toList A call caller T' σ')) = _
        rw [allF_eq, show againF ops.toList A call caller T' σ' = again A call caller ops T' σ' from funext fun j => againF_eq A call caller ops T' σ' j, ih]
        cases h : chk.all (again A call caller ops T' σ') <;> simp [h]

/-! ### code -/
def outF (p : Option (Tr AVal × AMem)) : Out := Option.rec (motive := fun _ => Out) none (fun p => Prod.rec (fun T σ => some (.normal, T, σ)) p) p
def iterF (n : Nat) : (Tr AVal → AMem → Out) → Tr AVal → AMem → Out :=
  Nat.rec (motive := fun _ => (Tr AVal → AMem → Out) → Tr AVal → AMem → Out) (fun _ _ _ => none)
    (fun _ ih b T σ => Option.rec (motive := fun _ => Out) none (fun r => Prod.rec (fun e p => AExit.rec (motive := fun _ => Out) (Prod.rec (fun T' σ' => ih b T' σ') p) (fun id => some (.exit id, p)) (some (.ret, p)) e) r) (b T σ)) n
theorem iterF_eq (b : Tr AVal → AMem → Out) : ∀ (n : Nat) (T : Tr AVal) (σ : AMem), iterF n b T σ = iterL n b T σ := by
  intro n
  induction n with
  | zero => intro T σ; rfl
  | succ n ih =>
    intro T σ
    show Option.rec (motive := fun _ => Out) none (fun r => Prod.rec (fun e p => AExit.rec (motive := fun _ => Out) (Prod.rec (fun T' σ' => iterF n b T' σ') p) (fun id => some (.exit id, p)) (some (.ret, p)) e) r) (b T σ) = _
    rw [iterL]
    cases b T σ with
    | none => rfl
    | some r =>
      obtain ⟨e, T', σ'⟩ := r
      cases e with
      | normal => exact ih _ _
      | exit id => rfl
      | ret => rfl

abbrev Run := AProg → CallA → Nat → Nat → Nat → Tr AVal → AMem → Out
def e_region (id : Nat) (ops : Array Oper) (draw : Bool) (A : AProg) (call : CallA) (k caller N : Nat) (T : Tr AVal) (σ : AMem) : Out :=
  Bool.rec (motive := fun _ => Out) (outF (runF ops.toList ops.toList A call caller N T σ)) (Option.rec (motive := fun _ => Out) none (fun d => outF (drawF d.steps ops.toList A call caller N T σ)) (A.ord caller id)) draw
def e_seq (a b : Code) (iha ihb : Run) (A : AProg) (call : CallA) (k caller N : Nat) (T : Tr AVal) (σ : AMem) : Out :=
  Option.rec (motive := fun _ => Out) none (fun r => Prod.rec (fun e p => AExit.rec (motive := fun _ => Out) (Prod.rec (fun T' σ' => ihb A call k caller N T' σ') p) (fun id => some (.exit id, p)) (some (.ret, p)) e) r) (iha A call k caller N T σ)
def e_cond (c : Operand) (a b : Code) (iha ihb : Run) (A : AProg) (call : CallA) (k caller N : Nat) (T : Tr AVal) (σ : AMem) : Out :=
  match evalO A T c with
  | some (.bool b) => Bool.rec (motive := fun _ => Out) (ihb A call k caller N T σ) (iha A call k caller N T σ) b
  | _ => none
def e_block (id : Nat) (c : Code) (ih : Run) (A : AProg) (call : CallA) (k caller N : Nat) (T : Tr AVal) (σ : AMem) : Out :=
  Option.rec (motive := fun _ => Out) none (fun r => Prod.rec (fun e p => AExit.rec (motive := fun _ => Out) (some (.normal, p)) (fun i => Bool.rec (motive := fun _ => Out) (some (.exit i, p)) (some (.normal, p)) (Nat.beq i id)) (some (.ret, p)) e) r) (ih A call k caller N T σ)
def e_loop (c : Code) (ih : Run) (A : AProg) (call : CallA) (k caller N : Nat) (T : Tr AVal) (σ : AMem) : Out := iterF k (ih A call k caller N) T σ
def e_range (g : Operand) (ps : Array Nat) (assign body : Code) (iha ihb : Run) (A : AProg) (call : CallA) (k caller N : Nat) (T : Tr AVal) (σ : AMem) : Out := rangeA A call caller N g ps.toList assign body T σ
def e_none (A : AProg) (call : CallA) (k caller N : Nat) (T : Tr AVal) (σ : AMem) : Out := none
def e_skip (A : AProg) (call : CallA) (k caller N : Nat) (T : Tr AVal) (σ : AMem) : Out := some (.normal, T, σ)
def e_exit (id : Nat) (A : AProg) (call : CallA) (k caller N : Nat) (T : Tr AVal) (σ : AMem) : Out := some (.exit id, T, σ)
def e_ret (A : AProg) (call : CallA) (k caller N : Nat) (T : Tr AVal) (σ : AMem) : Out := some (.ret, T, σ)
def execF (c : Code) : Run :=
  Code.rec (motive := fun _ => Run) e_skip e_region e_seq e_cond e_block e_loop e_range e_exit (fun _ _ => e_none) (fun _ => e_none) (fun _ => e_none) e_ret (fun _ => e_none) c

theorem execF_eq (A : AProg) (call : CallA) (k caller N : Nat) : ∀ (c : Code) (T : Tr AVal) (σ : AMem), execF c A call k caller N T σ = execC A call k caller N c T σ := by
  intro c
  induction c with
  | skip => intro T σ; rfl
  | exit id => intro T σ; rfl
  | ret => intro T σ; rfl
  | region id ops draw =>
    intro T σ
    show e_region id ops draw A call k caller N T σ = _
    unfold e_region
    cases draw with
    | false =>
      simp only [execC]
      show outF _ = _
      rw [runF_eq]
      cases runOps A call caller N ops ops.toList T σ <;> rfl
    | true =>
      simp only [execC]
      cases A.ord caller id with
      | none => rfl
      | some d =>
        show outF _ = Option.map _ _
        rw [drawF_eq]
        cases runD A call caller N ops d.steps T σ <;> rfl
  | seq a b iha ihb =>
    intro T σ
    show e_seq a b (execF a) (execF b) A call k caller N T σ = _
    unfold e_seq
    rw [iha]; simp only [execC]
    cases execC A call k caller N a T σ with
    | none => rfl
    | some r =>
      obtain ⟨e, T', σ'⟩ := r
      cases e with
      | normal => exact ihb _ _
      | exit id => rfl
      | ret => rfl
  | cond c a b iha ihb =>
    intro T σ
    show e_cond c a b (execF a) (execF b) A call k caller N T σ = _
    unfold e_cond
    simp only [execC]
    cases evalO A T c with
    | none => rfl
    | some v =>
      cases v with
      | bool t => cases t; exact ihb T σ; exact iha T σ
      | _ => rfl
  | block id c ih =>
    intro T σ
    show e_block id c (execF c) A call k caller N T σ = _
    unfold e_block
    rw [ih]; simp only [execC]
    cases execC A call k caller N c T σ with
    | none => rfl
    | some r =>
      obtain ⟨e, T', σ'⟩ := r
      cases e with
      | normal => rfl
      | exit i =>
        show Bool.rec (motive := fun _ => Out) (some (.exit i, T', σ')) (some (.normal, T', σ')) (Nat.beq i id) = _
        by_cases e : i = id
        · subst e
          simp only [if_true]
          rw [Nat.beq_refl]
        · simp only [if_neg e]
          cases hb : Nat.beq i id with
          | false => rfl
          | true => exact absurd (Nat.eq_of_beq_eq_true hb) e
      | ret => rfl
  | loop c ih =>
    intro T σ
    show iterF k (execF c A call k caller N) T σ = _
    rw [iterF_eq]; simp only [execC]
    rw [show execF c A call k caller N = fun T σ => execC A call k caller N c T σ from funext fun T => funext fun σ => ih T σ]
  | rangeFunc g ps a b iha ihb => intro T σ; rfl
  | _ => intros; rfl

/-! ### calls -/
def roundF (A : AProg) (call : CallA) (k l : Nat) (args : List AVal) (σ : AMem) : Option (AVal × AMem) :=
  match σ.get l with
  | some (.loop r) =>
    if args.length = r.params.length && r.params.all (· < r.N) then
      match execF r.assign A call k r.fn r.N (setParams r.T r.params args) σ with
      | some (.normal, T1, σ1) => match σ1.get l with
        | some (.loop r1) =>
          if r1.state = .ready then
            match execF r.body A call k r.fn r.N T1 (σ1.put l (.loop { r1 with state := .busy })) with
            | some (e, _, σ2) => match σ2.get l with
              | some (.loop r2) => match e with
                | .normal => some (.bool true, σ2.put l (.loop { r2 with state := .ready, pending := none }))
                | e => some (.bool false, σ2.put l (.loop { r2 with state := .done, pending := some e }))
              | _ => none
            | none => none
          else none
        | _ => none
      | _ => none
    else none
  | _ => none
theorem roundF_eq (A : AProg) (call : CallA) (k l : Nat) (args : List AVal) (σ : AMem) : roundF A call k l args σ = roundA A call k l args σ := by
  unfold roundF roundA
  simp only [execF_eq]
  rfl

def endF (A : AProg) (fn : Func) (o : Out) : Option (AVal × AMem) :=
  match o with
  | some (e, T, σ') => match e with
    | .exit _ => none
    | _ => match resultsA A T σ' fn.results.toList with
      | some vs => some (packA vs, σ')
      | none => none
  | none => none
def bodyF (A : AProg) (call : CallA) (k f : Nat) (all : List AVal) (σ : AMem) (fn : Func) : Option (AVal × AMem) :=
  match fn.body with
  | some c => Bool.rec (motive := fun _ => Option (AVal × AMem)) none (endF A fn (execF c A call k f fn.ntmps (initT 0 all .nil) σ)) (Nat.ble all.length fn.ntmps)
  | none => none
def enterF (A : AProg) (call : CallA) (k f : Nat) (all : List AVal) (σ : AMem) : Option (AVal × AMem) :=
  match A.func f with
  | some fn => bodyF A call k f all σ fn
  | none => none
def c_succ (k : Nat) (ih : AProg → CallA) (A : AProg) (fv : AVal) (args : List AVal) (σ : AMem) : Option (AVal × AMem) :=
  match fv with
  | .func f first caps => enterF A (ih A) k f (first ++ args ++ caps) σ
  | .yield l => roundF A (ih A) k l args σ
  | _ => none
def callF (k : Nat) : AProg → CallA := Nat.rec (motive := fun _ => AProg → CallA) (fun _ _ _ _ => none) c_succ k

theorem callF_eq (A : AProg) : ∀ k, callF k A = callN A k := by
  intro k
  induction k with
  | zero => funext fv args σ; rfl
  | succ k ih =>
    funext fv args σ
    show c_succ k (callF k) A fv args σ = _
    unfold c_succ
    rw [ih]
    cases fv with
    | func f first caps =>
      simp only [enterF, callN]
      cases A.func f with
      | none => rfl
      | some fn =>
        simp only [bodyF]
        cases fn.body with
        | none => rfl
        | some c =>
          simp only [execF_eq, endF]
          by_cases h : (first ++ args ++ caps).length ≤ fn.ntmps
          · rw [if_pos h, show Nat.ble (first ++ args ++ caps).length fn.ntmps = true from Nat.ble_eq_true_of_le h]
            cases execC A (callN A k) k f fn.ntmps c (initT 0 (first ++ args ++ caps) Tr.nil) σ with
            | none => rfl
            | some r =>
              obtain ⟨e, T', σ'⟩ := r
              cases e <;> rfl
          · rw [if_neg h]
            cases hb : Nat.ble (first ++ args ++ caps).length fn.ntmps with
            | false => rfl
            | true => exact absurd (Nat.le_of_ble_eq_true hb) h
    | yield l => simp only [callN]; exact roundF_eq A _ k l args σ
    | _ => rfl
end
end Go.Proofs.YtjckhhkhgjbpaaaGreatDoor.Pale
