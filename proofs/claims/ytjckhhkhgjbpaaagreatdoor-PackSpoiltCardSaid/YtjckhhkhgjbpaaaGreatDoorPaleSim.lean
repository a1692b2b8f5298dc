/- The abstract machine against the model: memories. -/
import Derived.Test.YtjckhhkhgjbpaaaGreatDoorPaleRel
set_option linter.unusedVariables false
set_option linter.unusedSimpArgs false
namespace Go.Proofs.YtjckhhkhgjbpaaaGreatDoor.Pale
open Go

def kindOf : TypeDesc → TyK
  | .bool => .bool
  | .int k => .int k
  | .string => .string
  | .pointer _ => .pointer
  | .func .. => .func
  | .struct fs => .struct (fs.toList.map fun f => (f.offset, f.type))
  | .array n e => .array n e
  | .slice e => .slice e
  | .map k e => .map k e
  | _ => .other

def isAggV : Value → Bool
  | .agg _ => true
  | _ => false

/-- A type's row, out of the program. -/
def tyOf (P : Program) (t : Nat) : Option TyI :=
  match P.info? t, P.underlying t with
  | some i, some d => match i.zero with
    | some z => match ofScalars z.cells.toList with
      | some l => if isAggV z = TyI.isAgg ⟨kindOf d, i.size, i.bytes, l⟩ then some ⟨kindOf d, i.size, i.bytes, l⟩ else none
      | none => none
    | none => none
  | _, _ => none

/-! ### what draws its order -/
inductive Cls where
  | pure | load | alloc | eff
  deriving DecidableEq

def clsOf (A : AProg) (o : Oper) : Cls :=
  match o.op with
  | .move _ | .assign _ | .pick .. | .fieldAddr .. | .field .. | .indexAddr .. | .index .. | .binOp .. | .unOp .. | .nilCheck _ | .extract .. | .build .. | .makeFunc .. => .pure
  | .load .. => .load
  | .slice t .. => match A.ty t with
    | some i => (match i.k with
      | .slice _ => .load
      | _ => .pure)
    | none => .pure
  | .alloc _ | .box .. | .buildSlice .. | .makeSlice .. | .makeMap .. => .alloc
  | .convert s d _ => match A.ty s, A.ty d with
    | some i, some j => (match i.k, j.k with
      | .int _, .int _ => .pure
      | .string, .string => .pure
      | .slice _, .string => .load
      | _, _ => .eff)
    | _, _ => .eff
  | .call c => match c.callee with
    | .builtin .len | .builtin .cap | .builtin .max | .builtin .min => .pure
    | _ => .eff
  | _ => .eff

def bindsA (e : Edge) : Bool := Region.binds .any e

/-- The temporaries that an operation looks at. -/
def looks (ops : Array Oper) (o : Oper) : List Nat := o.looksAt ops

def posIn (d : Drawn) (i : Nat) : Nat := (d.steps.map (·.1)).idxOf i

def drawOkB (A : AProg) (ops : Array Oper) (d : Drawn) : Bool :=
  let n := ops.size
  let anc (j : Nat) : List Nat := d.anc.getD j []
  let dst (j : Nat) : Option Nat := (ops[j]?).bind (·.dst)
  let cl (j : Nat) : Cls := match ops[j]? with
    | some o => clsOf A o
    | none => .eff
  let lk (j : Nat) : List Nat := match ops[j]? with
    | some o => looks ops o
    | none => []
  let idx := List.range n
  -- each once, all of them
  d.steps.length == n && idx.all (fun i => posIn d i < n && (d.steps[posIn d i]?).map (·.1) == some i) && idx.all (fun p => match d.steps[p]? with
    | some s => s.1 < n && posIn d s.1 == p
    | none => false) &&
  -- what is told to come before does
  idx.all (fun j => (anc j).all fun i => i < j && (match ops[j]? with
    | some o => o.after.any fun e => bindsA e && e.on < j && (e.on == i || (anc e.on).contains i)
    | none => false)) &&
  -- the order respects every edge
  idx.all (fun j => match ops[j]? with
    | some o => o.after.all fun e => !bindsA e || (posIn d e.on < posIn d j && (anc j).contains e.on)
    | none => true) &&
  -- temporaries: written once; read by another before or behind in every order
  idx.all (fun j => idx.all fun i => i == j ||
    ((match dst i with | none => true | some x => dst j != some x && (!(lk j).contains x || (anc j).contains i || (anc i).contains j)))) &&
  -- effects stand in one order; what is no effect comes as early as it can, and loads are asked again
  idx.all (fun e => cl e != .eff || idx.all fun i => i == e ||
    (match cl i with
     | .eff => (anc e).contains i || (anc i).contains e
     | .load => (anc i).contains e || (anc e).contains i || (posIn d i < posIn d e && ((d.steps[posIn d e]?).map (·.2.contains i)).getD false && idx.all fun k => match dst k with
       | none => true
       | some x => !(lk i).contains x || (anc i).contains k || posIn d e < posIn d k)
     | _ => (anc i).contains e || posIn d i < posIn d e))

def codeOkB (A : AProg) (f : Nat) : Code → Bool
  | .region id ops draw => !draw || (match A.ord f id with
    | some d => drawOkB A ops d
    | none => true)
  | .seq a b => codeOkB A f a && codeOkB A f b
  | .cond _ a b => codeOkB A f a && codeOkB A f b
  | .block _ c => codeOkB A f c
  | .loop c => codeOkB A f c
  | .rangeFunc _ _ a b => codeOkB A f a && codeOkB A f b
  | .scope c => codeOkB A f c
  | _ => true

/-! ### calls of the model -/
/-- The fence of everything, in a round or in none. -/
def FW (ro : Option Nat) : Fence := { Fence.wide with round := ro }

theorem FW_calls {P : Program} {ro ro' : Option Nat} {n : Nat} {f : FuncId} {args : Array Value} {w : World} {R : Ending → World → Prop} (h : CallsIn (FW ro) n P f args w R) : CallsIn (FW ro') n P f args w R := h
theorem FW_round {P : Program} {ro ro' : Option Nat} {n l : Nat} {f : FuncId} {tmps : Array Value} {a b : Code} {w : World} {R : Ending → World → Prop} (h : RoundIn (FW ro) n P l f tmps a b w R) : RoundIn (FW ro') n P l f tmps a b w R := h

/-- The model's call of a function value comes back with a value. -/
def Invoked (n : Nat) (P : Program) (fx : Value) (argx : Array Value) (w : World) (R : Value → World → Prop) : Prop :=
  (∃ f first cap, fx = .func (.func f) first cap ∧ (∀ as w, (callFunc f as).run P w = .ok (.enter f as) w) ∧ CallsIn (FW none) n P f (first ++ argx ++ cap) w (fun e w' => ∃ x, e = .returned x ∧ R x w')) ∨
  (∃ l fn tmps assign body, fx = .func (.yield l) #[] #[] ∧ (Instr.yield l argx).run P w = .ok (.round l fn tmps assign body) w ∧ RoundIn (FW none) n P l fn tmps assign body w (fun e w' => ∃ x, e = .returned x ∧ R x w'))

theorem Invoked.mono {P : Program} {n : Nat} {fx : Value} {argx : Array Value} {w : World} {R R' : Value → World → Prop} (h : Invoked n P fx argx w R) (hr : ∀ x w', R x w' → R' x w') : Invoked n P fx argx w R' := by
  rcases h with ⟨f, first, cap, h1, h2, h3⟩ | ⟨l, fn, tmps, assign, body, h1, h2, h3⟩
  · exact .inl ⟨f, first, cap, h1, h2, h3.mono fun e w' ⟨x, he, hx⟩ => ⟨x, he, hr x w' hx⟩⟩
  · exact .inr ⟨l, fn, tmps, assign, body, h1, h2, h3.mono fun e w' ⟨x, he, hx⟩ => ⟨x, he, hr x w' hx⟩⟩

/-- What is known of a call of a named function on values without references. -/
def MemoOk (P : Program) (glob : Nat → Option (List AVal)) (f : Nat) (args : List AVal) (v : AVal) (fresh : Bool) : Prop :=
  ∀ (n : Nat) (w : World) (ro : Nat → Prop) (argx : Array Value), (∀ b, ro b → b < w.heap.size) → (∀ k cs, glob k = some cs → PAtL w ro k 0 cs) → PRelL w ro args argx.toList →
    Invoked n P (.func (.func f) #[] #[]) argx w (fun x w' => w'.os = w.os ∧ w'.tape = w.tape ∧ w'.output = w.output ∧ w.heap.size ≤ w'.heap.size ∧ (∀ b, b < w.heap.size → w'.heap[b]? = w.heap[b]?) ∧
      ∃ ro', (∀ b, ro' b → b < w'.heap.size) ∧ (∀ b, ro' b → (fresh = false ∧ ro b) ∨ w.heap.size ≤ b) ∧ PRel w' ro' v x)

/-- A struct of integers, that the model compares field by field. -/
def plainEq (P : Program) (t : Nat) : Bool :=
  match P.underlying t with
  | some (.struct fields) => !(P.stoodInHeld t) && !(P.eqGuardType P.depth t) && (List.range fields.size).all fun j => match fields[j]? with
    | some f => f.name != "_" && f.offset == j && (match tyOf P f.type with
      | some i => (match i.k with
        | .int _ => true
        | _ => false)
      | none => false)
    | none => false
  | _ => false

structure AOk (P : Program) (A : AProg) : Prop where
  mixed : P.follows .mixedOrders = true
  ty : ∀ t i, A.ty t = some i → tyOf P t = some i
  zsz : ∀ t i, A.ty t = some i → i.zero.length = i.size
  eqs : ∀ t, A.eqs t = true → plainEq P t = true
  func : ∀ f fn, A.func f = some fn → P.funcs[f]? = some fn ∧ (fn.name == "runtime.NumGoroutine") = false ∧ ∀ c, fn.body = some c → codeOkB A f c = true
  memo : ∀ f args v fresh, A.memo f args = some (v, fresh) → MemoOk P A.glob f args v fresh

/-! ### frames and objects -/
def FrameRel (g : Ghost) (w : World) (N : Nat) (T : Tr AVal) (tmps : Array Value) : Prop :=
  tmps.size = N ∧ ∀ (i : Nat) (v : AVal), T.get i = some v → ∃ x, tmps[i]? = some x ∧ Rel g w v x

def exitCode : AExit → Code
  | .normal => .skip
  | .exit id => .exit id
  | .ret => .ret

structure LoopRel (A : AProg) (g : Ghost) (w : World) (r : ALoop) (L : Loop) : Prop where
  state : L.state = r.state
  pending : L.pending = r.pending.map exitCode
  frame : FrameRel g w r.N r.T L.tmps
  params : L.params.toList = r.params
  assign : L.assign = r.assign
  body : L.body = r.body
  okA : codeOkB A r.fn r.assign = true
  okB : codeOkB A r.fn r.body = true

def RowIs (w : World) (p : Place) (C : Array Value) : Prop :=
  ∃ (e : TypeId) (fz : Nat × Nat), w.heap[p.block]? = some (.cells C e fz) ∧ (∀ i, i < C.size → ¬ (fz.1 ≤ i ∧ i < fz.2)) ∧ p.off + p.room ≤ C.size

def ObjRel (A : AProg) (g : Ghost) (w : World) (p : Place) : AObj → Prop
  | .row sz _ cells => p.sz = sz ∧ cells.length ≤ p.room ∧ ∃ C, RowIs w p C ∧ ∀ (i : Nat) (c : AVal), cells[i]? = some c → ∃ x, C[p.off + i]? = some x ∧ Rel g w c x
  | .loop r => ∃ L, w.heap[p.block]? = some (.loop L) ∧ LoopRel A g w r L
  | .map es => ∃ (E : Array MapEntry) (clk : Nat), w.heap[p.block]? = some (.map E clk) ∧ es.length = E.size ∧
      ∀ (i : Nat) (k v : AVal), es[i]? = some (k, v) → ∃ m, E[i]? = some m ∧ Rel g w k m.key ∧ Rel g w v m.val

structure Sim (A : AProg) (g : Ghost) (σ : AMem) (w : World) : Prop where
  obj : ∀ r p, g.st r = .live p → ∃ o, σ.get r = some o ∧ ObjRel A g w p o
  inj : ∀ r s p q, g.st r = .live p → g.st s = .live q → p.block = q.block → r = s
  ro : ∀ r p, g.st r = .live p → ¬ g.ro p.block
  rolt : ∀ b, g.ro b → b < w.heap.size
  fresh : ∀ r, σ.next ≤ r → g.st r = .none ∧ σ.get r = none
  dead : ∀ r, g.st r = .dead → σ.get r = none
  glob : ∀ k cs, A.glob k = some cs → PAtL w g.ro k 0 cs

structure Trans (g : Ghost) (σ : AMem) (w : World) (g' : Ghost) (σ' : AMem) (w' : World) : Prop where
  os : w'.os = w.os
  tape : w'.tape = w.tape
  output : w'.output = w.output
  size : w.heap.size ≤ w'.heap.size
  frame : ∀ b, b < w.heap.size → (∀ r p, g.st r = .live p → p.block ≠ b) → w'.heap[b]? = w.heap[b]?
  le : GLe g g'
  none : ∀ r, r < σ.next → g.st r = .none → g'.st r = .none ∧ σ'.get r = σ.get r
  new : ∀ r p, g'.st r = .live p → g.st r = .live p ∨ w.heap.size ≤ p.block ∨ ∃ s q, g.st s = .live q ∧ q.block = p.block
  ro : ∀ b, g.ro b → g'.ro b
  ronew : ∀ b, g'.ro b → g.ro b ∨ w.heap.size ≤ b ∨ ∃ s q, g.st s = .live q ∧ q.block = b
  next : σ.next ≤ σ'.next
  loops : ∀ (b : Nat) (r : Loop), w.heap[b]? = some (.loop r) → ∃ r', w'.heap[b]? = some (.loop r')

theorem ObjRel.block_lt {A : AProg} {g : Ghost} {w : World} {p : Place} {o : AObj} (h : ObjRel A g w p o) : p.block < w.heap.size := by
  cases o with
  | row sz b cells => obtain ⟨_, _, C, ⟨e, fz, hh, _⟩, _⟩ := h; exact (Array.getElem?_eq_some_iff.1 hh).1
  | loop r => obtain ⟨L, hh, _⟩ := h; exact (Array.getElem?_eq_some_iff.1 hh).1
  | map es => obtain ⟨E, c, hh, _⟩ := h; exact (Array.getElem?_eq_some_iff.1 hh).1

theorem Sim.block_lt {A : AProg} {g : Ghost} {σ : AMem} {w : World} (h : Sim A g σ w) {r : Nat} {p : Place} (hr : g.st r = .live p) : p.block < w.heap.size := by
  obtain ⟨o, _, ho⟩ := h.obj r p hr
  exact ho.block_lt

theorem GLe.refl (g : Ghost) : GLe g g := ⟨fun _ _ h => .inl h, fun _ h => h⟩
theorem GLe.trans {a b c : Ghost} (h : GLe a b) (k : GLe b c) : GLe a c :=
  ⟨fun r p hr => by
    rcases h.live r p hr with h1 | h1
    · exact k.live r p h1
    · exact .inr (k.dead r h1), fun r hr => k.dead r (h.dead r hr)⟩

theorem Trans.refl (g : Ghost) (σ : AMem) (w : World) : Trans g σ w g σ w :=
  ⟨rfl, rfl, rfl, Nat.le_refl _, fun _ _ _ => rfl, GLe.refl g, fun _ _ h => ⟨h, rfl⟩, fun _ _ h => .inl h, fun _ h => h, fun _ h => .inl h, Nat.le_refl _, fun _ r h => ⟨r, h⟩⟩

theorem Trans.trans {g1 g2 g3 : Ghost} {σ1 σ2 σ3 : AMem} {w1 w2 w3 : World} (h : Trans g1 σ1 w1 g2 σ2 w2) (k : Trans g2 σ2 w2 g3 σ3 w3) : Trans g1 σ1 w1 g3 σ3 w3 where
  os := k.os.trans h.os
  tape := k.tape.trans h.tape
  output := k.output.trans h.output
  size := Nat.le_trans h.size k.size
  frame := fun b hb hn => by
    rw [k.frame b (Nat.lt_of_lt_of_le hb h.size) ?_, h.frame b hb hn]
    intro r p hr e
    rcases h.new r p hr with h1 | h1 | ⟨s, q, hs, hq⟩
    · exact hn r p h1 e
    · omega
    · exact hn s q hs (hq.trans e)
  le := h.le.trans k.le
  none := fun r hr hn => by
    obtain ⟨h1, h2⟩ := h.none r hr hn
    obtain ⟨h3, h4⟩ := k.none r (Nat.lt_of_lt_of_le hr h.next) h1
    exact ⟨h3, h4.trans h2⟩
  new := fun r p hr => by
    rcases k.new r p hr with h1 | h1 | ⟨s, q, hs, hq⟩
    · exact h.new r p h1
    · exact .inr (.inl (Nat.le_trans h.size h1))
    · rcases h.new s q hs with h2 | h2 | ⟨s2, q2, hs2, hq2⟩
      · exact .inr (.inr ⟨s, q, h2, hq⟩)
      · exact .inr (.inl (by rw [← hq]; exact h2))
      · exact .inr (.inr ⟨s2, q2, hs2, hq2.trans hq⟩)
  ro := fun b hb => k.ro b (h.ro b hb)
  ronew := fun b hb => by
    rcases k.ronew b hb with h1 | h1 | ⟨s, q, hs, hq⟩
    · exact h.ronew b h1
    · exact .inr (.inl (Nat.le_trans h.size h1))
    · rcases h.new s q hs with h2 | h2 | ⟨s2, q2, hs2, hq2⟩
      · exact .inr (.inr ⟨s, q, h2, hq⟩)
      · exact .inr (.inl (by rw [← hq]; exact h2))
      · exact .inr (.inr ⟨s2, q2, hs2, hq2.trans hq⟩)
  next := Nat.le_trans h.next k.next
  loops := fun b r hb => by
    obtain ⟨r', h1⟩ := h.loops b r hb
    exact k.loops b r' h1

theorem Trans.stays {A : AProg} {g g' : Ghost} {σ σ' : AMem} {w w' : World} (h : Trans g σ w g' σ' w') (hs : Sim A g σ w) : Stays w w' g.ro g'.ro :=
  ⟨h.ro, fun b hb => h.frame b (hs.rolt b hb) fun r p hr e => hs.ro r p hr (e ▸ hb)⟩

theorem Trans.rel {A : AProg} {g g' : Ghost} {σ σ' : AMem} {w w' : World} (h : Trans g σ w g' σ' w') (hs : Sim A g σ w) {v : AVal} {x : Value} (hr : Rel g w v x) : Rel g' w' v x :=
  Rel.mono h.le (h.stays hs) v x hr
theorem Trans.relL {A : AProg} {g g' : Ghost} {σ σ' : AMem} {w w' : World} (h : Trans g σ w g' σ' w') (hs : Sim A g σ w) {v : List AVal} {x : List Value} (hr : RelL g w v x) : RelL g' w' v x :=
  RelL.mono h.le (h.stays hs) v x hr
theorem Trans.frameRel {A : AProg} {g g' : Ghost} {σ σ' : AMem} {w w' : World} (h : Trans g σ w g' σ' w') (hs : Sim A g σ w) {N : Nat} {T : Tr AVal} {tmps : Array Value} (hf : FrameRel g w N T tmps) : FrameRel g' w' N T tmps :=
  ⟨hf.1, fun i v hv => let ⟨x, hx, hr⟩ := hf.2 i v hv; ⟨x, hx, h.rel hs hr⟩⟩

/-- An object whose block stays as it is. -/
theorem ObjRel.mono {A : AProg} {g g' : Ghost} {w w' : World} {p : Place} {o : AObj} (h : ObjRel A g w p o) (hb : w'.heap[p.block]? = w.heap[p.block]?) (hle : GLe g g') (hst : Stays w w' g.ro g'.ro) : ObjRel A g' w' p o := by
  cases o with
  | row sz b cells =>
    obtain ⟨h1, h2, C, ⟨e, fz, hh, hfz, hsz⟩, h3⟩ := h
    exact ⟨h1, h2, C, ⟨e, fz, hb.trans hh, hfz, hsz⟩, fun i c hc => let ⟨x, hx, hr⟩ := h3 i c hc; ⟨x, hx, Rel.mono hle hst _ _ hr⟩⟩
  | loop r =>
    obtain ⟨L, hh, hL⟩ := h
    exact ⟨L, hb.trans hh, { hL with frame := ⟨hL.frame.1, fun i v hv => let ⟨x, hx, hr⟩ := hL.frame.2 i v hv; ⟨x, hx, Rel.mono hle hst _ _ hr⟩⟩ }⟩
  | map es =>
    obtain ⟨E, c, hh, hl, h1⟩ := h
    exact ⟨E, c, hb.trans hh, hl, fun i k v hi => let ⟨m, hm, hk, hv⟩ := h1 i k v hi; ⟨m, hm, Rel.mono hle hst _ _ hk, Rel.mono hle hst _ _ hv⟩⟩

end Go.Proofs.YtjckhhkhgjbpaaaGreatDoor.Pale
