/- The abstract machine against the model: regions that draw their order. -/
import Derived.Test.YtjckhhkhgjbpaaaGreatDoorPaleRun
import Derived.OrdersIn
set_option linter.unusedVariables false
set_option linter.unusedSimpArgs false
namespace Go.Proofs.YtjckhhkhgjbpaaaGreatDoor.Pale
open Go

variable {A : AProg} {P : Program}

mutual
theorem AVal.beq_eq : ∀ (a b : AVal), AVal.beq a b = true → a = b
  | .bool a, b, h => by cases b <;> simp_all [AVal.beq]
  | .int j a, b, h => by cases b <;> simp_all [AVal.beq]
  | .str a, b, h => by cases b <;> simp_all [AVal.beq]
  | .ptr a c, b, h => by cases b <;> simp_all [AVal.beq]
  | .nilptr, b, h => by cases b <;> simp_all [AVal.beq]
  | .slice a c d e f, b, h => by cases b <;> simp_all [AVal.beq]
  | .vs k a, b, h => by
    cases b <;> simp only [AVal.beq, Bool.false_eq_true, Bool.and_eq_true, beq_iff_eq] at h
    rw [h.1, AVal.beqL_eq a _ h.2]
  | .vptr a, b, h => by
    cases b <;> simp only [AVal.beq, Bool.false_eq_true] at h
    rw [AVal.beq_eq a _ h]
  | .func f a c, b, h => by
    cases b <;> simp only [AVal.beq, Bool.false_eq_true, Bool.and_eq_true, beq_iff_eq] at h
    rw [h.1.1, AVal.beqL_eq a _ h.1.2, AVal.beqL_eq c _ h.2]
  | .yield a, b, h => by cases b <;> simp_all [AVal.beq]
  | .nilfn, b, h => by cases b <;> simp_all [AVal.beq]
  | .nilmap, b, h => by cases b <;> simp_all [AVal.beq]
  | .map a, b, h => by cases b <;> simp_all [AVal.beq]
  | .agg a, b, h => by
    cases b <;> simp only [AVal.beq, Bool.false_eq_true] at h
    rw [AVal.beqL_eq a _ h]
  | .tuple a, b, h => by
    cases b <;> simp only [AVal.beq, Bool.false_eq_true] at h
    rw [AVal.beqL_eq a _ h]
theorem AVal.beqL_eq : ∀ (a b : List AVal), AVal.beqL a b = true → a = b
  | [], b, h => by cases b <;> simp_all [AVal.beqL]
  | x :: xs, b, h => by
    cases b with
    | nil => simp [AVal.beqL] at h
    | cons y ys =>
      simp only [AVal.beqL, Bool.and_eq_true] at h
      rw [AVal.beq_eq x y h.1, AVal.beqL_eq xs ys h.2]
end

def ancIn (d : Drawn) (j : Nat) : List Nat := d.anc.getD j []

structure DOk (A : AProg) (ops : Array Oper) (d : Drawn) : Prop where
  len : d.steps.length = ops.size
  pos_lt : ∀ i, i < ops.size → posIn d i < ops.size
  at_ : ∀ i, i < ops.size → ∃ chk, d.steps[posIn d i]? = some (i, chk)
  onto : ∀ p i chk, d.steps[p]? = some (i, chk) → i < ops.size ∧ posIn d i = p
  ancs : ∀ i j, j < ops.size → i ∈ ancIn d j → i < j ∧ ∃ o e, ops[j]? = some o ∧ e ∈ o.after ∧ bindsA e = true ∧ e.on < j ∧ (e.on = i ∨ i ∈ ancIn d e.on)
  edges : ∀ j o e, ops[j]? = some o → e ∈ o.after → bindsA e = true → posIn d e.on < posIn d j ∧ e.on ∈ ancIn d j
  slots : ∀ i j x oi oj, ops[i]? = some oi → ops[j]? = some oj → i ≠ j → oi.dst = some x → oj.dst ≠ some x ∧ (x ∈ oj.looksAt ops → i ∈ ancIn d j ∨ j ∈ ancIn d i)
  eff_eff : ∀ e i oe oi, ops[e]? = some oe → ops[i]? = some oi → clsOf A oe = .eff → i ≠ e → clsOf A oi = .eff → i ∈ ancIn d e ∨ e ∈ ancIn d i
  eff_load : ∀ e i oe oi, ops[e]? = some oe → ops[i]? = some oi → clsOf A oe = .eff → i ≠ e → clsOf A oi = .load → e ∈ ancIn d i ∨ i ∈ ancIn d e ∨
    (posIn d i < posIn d e ∧ (∃ chk, d.steps[posIn d e]? = some (e, chk) ∧ i ∈ chk) ∧ ∀ k ok x, ops[k]? = some ok → ok.dst = some x → x ∈ oi.looksAt ops → k ∈ ancIn d i ∨ posIn d e < posIn d k)
  eff_else : ∀ e i oe oi, ops[e]? = some oe → ops[i]? = some oi → clsOf A oe = .eff → i ≠ e → clsOf A oi ≠ .eff → e ∈ ancIn d i ∨ i ∈ ancIn d e ∨ posIn d i < posIn d e

theorem lt_of_some {ops : Array Oper} {i : Nat} {o : Oper} (h : ops[i]? = some o) : i < ops.size := (Array.getElem?_eq_some_iff.1 h).1

theorem drawOkB_spec {ops : Array Oper} {d : Drawn} (h : drawOkB A ops d = true) : DOk A ops d := by
  unfold drawOkB at h
  simp only [Bool.and_eq_true, List.all_eq_true, List.mem_range, beq_iff_eq, decide_eq_true_eq] at h
  obtain ⟨⟨⟨⟨⟨⟨h1, h2⟩, h3⟩, h4⟩, h5⟩, h6⟩, h7⟩ := h
  have hat : ∀ i, i < ops.size → ∃ chk, d.steps[posIn d i]? = some (i, chk) := fun i hi => by
    have := (h2 i hi).2
    cases hd : d.steps[posIn d i]? with
    | none => rw [hd] at this; simp at this
    | some s => rw [hd] at this; simp at this; exact ⟨s.2, by rw [← this]⟩
  refine ⟨h1, fun i hi => (h2 i hi).1, hat, ?_, ?_, ?_, ?_, ?_, ?_, ?_⟩
  · intro p i chk hp
    have hlt : p < ops.size := by rw [← h1]; exact (List.getElem?_eq_some_iff.1 hp).1
    have := h3 p hlt
    rw [hp] at this
    simpa using this
  · intro i j hj hi
    obtain ⟨h8, h9⟩ := h4 j hj i hi
    refine ⟨h8, ?_⟩
    rw [Array.getElem?_eq_getElem hj] at h9
    rw [Array.getElem?_eq_getElem hj]
    simp only [Array.any_eq_true', Bool.and_eq_true, decide_eq_true_eq, Bool.or_eq_true, beq_iff_eq, List.contains_iff_mem] at h9
    obtain ⟨e, he, ⟨hb, hlt⟩, hor⟩ := h9
    exact ⟨_, e, rfl, he, hb, hlt, hor⟩
  · intro j o e ho he hb
    have := h5 j (lt_of_some ho)
    rw [ho] at this
    simp only [Array.all_eq_true_iff_forall_mem, Bool.or_eq_true, Bool.not_eq_true', Bool.and_eq_true, decide_eq_true_eq, List.contains_iff_mem] at this
    rcases this e he with h | h
    · rw [hb] at h; cases h
    · exact h
  · intro i j x oi oj hi hj hne hx
    have := h6 j (lt_of_some hj) i (lt_of_some hi)
    simp only [hi, hj, Option.bind_some, hx, Bool.or_eq_true, beq_iff_eq, Bool.and_eq_true, bne_iff_ne, Bool.not_eq_true', List.contains_iff_mem] at this
    rcases this with h | ⟨h, h'⟩
    · exact absurd h hne
    · refine ⟨h, fun hm => ?_⟩
      rcases h' with (h' | h') | h'
      · unfold looks at h'
        have : (oj.looksAt ops).contains x = true := List.contains_iff_mem.2 hm
        rw [h'] at this; cases this
      · exact .inl h'
      · exact .inr h'
  all_goals
    intro e i oe oi he hi hce hne hci
    have := h7 e (lt_of_some he)
    simp only [he, hce, bne_self_eq_false, Bool.false_or, Bool.or_eq_true, Bool.false_eq_true, false_or, List.all_eq_true, List.mem_range] at this
    have := this i (lt_of_some hi)
    simp only [hi, beq_iff_eq] at this
    have := this.resolve_left hne
  · rw [hci] at this
    simpa [ancIn] using this
  · rw [hci] at this
    simp only [Bool.or_eq_true, List.contains_iff_mem, Bool.and_eq_true, decide_eq_true_eq, List.all_eq_true, List.mem_range] at this
    rcases this with (h | h) | ⟨⟨hp, hc⟩, hk⟩
    · exact .inl h
    · exact .inr (.inl h)
    · refine .inr (.inr ⟨hp, ?_, ?_⟩)
      · obtain ⟨chk, hs⟩ := hat e (lt_of_some he)
        rw [hs] at hc
        exact ⟨chk, hs, by simpa using hc⟩
      · intro k ok x hok hx hm
        have := hk k (lt_of_some hok)
        simp only [hok, Option.bind_some, hx, Bool.or_eq_true, Bool.not_eq_true', List.contains_iff_mem, decide_eq_true_eq] at this
        rcases this with (h | h) | h
        · unfold looks at h
          have : (oi.looksAt ops).contains x = true := List.contains_iff_mem.2 hm
          rw [h] at this; cases this
        · exact .inl h
        · exact .inr h
  · cases hc : clsOf A oi with
    | eff => exact absurd hc hci
    | load =>
      rw [hc] at this
      simp only [Bool.or_eq_true, List.contains_iff_mem, Bool.and_eq_true, decide_eq_true_eq, List.all_eq_true, List.mem_range] at this
      rcases this with (h | h) | ⟨⟨hp, _⟩, _⟩
      · exact .inl h
      · exact .inr (.inl h)
      · exact .inr (.inr hp)
    | pure =>
      rw [hc] at this
      simp only [Bool.or_eq_true, List.contains_iff_mem, decide_eq_true_eq] at this
      rcases this with h | h
      · exact .inl h
      · exact .inr (.inr h)
    | alloc =>
      rw [hc] at this
      simp only [Bool.or_eq_true, List.contains_iff_mem, decide_eq_true_eq] at this
      rcases this with h | h
      · exact .inl h
      · exact .inr (.inr h)

theorem DOk.anc_pos {ops : Array Oper} {d : Drawn} (h : DOk A ops d) : ∀ (j i : Nat), j < ops.size → i ∈ ancIn d j → posIn d i < posIn d j := by
  intro j
  induction j using Nat.strongRecOn with
  | _ j ih =>
    intro i hj hi
    obtain ⟨_, o, e, ho, he, hb, hlt, hor⟩ := h.ancs i j hj hi
    have h1 := (h.edges j o e ho he hb).1
    rcases hor with rfl | hm
    · exact h1
    · exact Nat.lt_trans (ih e.on hlt i (Nat.lt_trans hlt hj) hm) h1

/-- What is carried out is closed under what must come before. -/
def Closed (ops : Array Oper) (E : Nat → Bool) : Prop := ∀ j o e, E j = true → ops[j]? = some o → e ∈ o.after → bindsA e = true → E e.on = true

theorem DOk.anc_done {ops : Array Oper} {d : Drawn} {E : Nat → Bool} (h : DOk A ops d) (hE : Closed ops E) : ∀ (j i : Nat), j < ops.size → E j = true → i ∈ ancIn d j → E i = true := by
  intro j
  induction j using Nat.strongRecOn with
  | _ j ih =>
    intro i hj hEj hi
    obtain ⟨_, o, e, ho, he, hb, hlt, hor⟩ := h.ancs i j hj hi
    have h1 := hE j o e hEj ho he hb
    rcases hor with rfl | hm
    · exact h1
    · exact ih e.on hlt i (Nat.lt_trans hlt hj) h1 hm

theorem DOk.anc_ready {ops : Array Oper} {d : Drawn} {E : Nat → Bool} (h : DOk A ops d) (hE : Closed ops E) {j : Nat} {o : Oper} (ho : ops[j]? = some o) (hr : ∀ e ∈ o.after, bindsA e = true → E e.on = true) {i : Nat} (hi : i ∈ ancIn d j) : E i = true := by
  obtain ⟨_, o', e, ho', he, hb, hlt, hor⟩ := h.ancs i j (lt_of_some ho) hi
  rw [ho] at ho'; cases ho'
  have h1 := hr e he hb
  rcases hor with rfl | hm
  · exact h1
  · exact h.anc_done hE e.on i (Nat.lt_trans hlt (lt_of_some ho)) h1 hm

/-! ### the trace -/
theorem step1_cases {call : CallA} {caller N : Nat} {ops : Array Oper} {o : Oper} {T T' : Tr AVal} {σ σ' : AMem} (h : step1 A call caller N ops o T σ = some (T', σ')) :
    (wantA ops T o = some true ∧ ∃ v, opSem A call caller o T σ = some (v, σ') ∧ putA N T o.dst v = some T') ∨ (wantA ops T o = some false ∧ σ' = σ ∧ putA N T o.dst (.tuple []) = some T') := by
  unfold step1 at h
  split at h
  · rename_i hw
    split at h
    · rename_i v σ2 hop
      obtain ⟨T2, h1, h2⟩ := map_some h
      cases h2
      exact .inl ⟨hw, v, hop, h1⟩
    · cases h
  · rename_i hw
    obtain ⟨T2, h1, h2⟩ := map_some h
    cases h2
    exact .inr ⟨hw, rfl, h1⟩
  · cases h

theorem putA_get {N : Nat} {T T' : Tr AVal} {dst : Option Nat} {v : AVal} (h : putA N T dst v = some T') (x : Nat) : T'.get x = if dst = some x then some v else T.get x := by
  unfold putA at h
  split at h
  · cases h; simp
  · split at h
    · cases h
      rw [Tr.get_set]
      simp
    · cases h
theorem putA_lt {N : Nat} {T T' : Tr AVal} {x : Nat} {v : AVal} (h : putA N T (some x) v = some T') : x < N := by
  unfold putA at h
  simp only at h
  split at h
  · assumption
  · cases h

structure Trace (A : AProg) (call : CallA) (caller N : Nat) (ops : Array Oper) (steps : List (Nat × List Nat)) (Tf : Nat → Tr AVal) (σf : Nat → AMem) : Prop where
  step : ∀ p i chk, steps[p]? = some (i, chk) → ∃ o, ops[i]? = some o ∧ step1 A call caller N ops o (Tf p) (σf p) = some (Tf (p + 1), σf (p + 1)) ∧ ∀ j ∈ chk, again A call caller ops (Tf (p + 1)) (σf (p + 1)) j = true

theorem trace_of_runD {call : CallA} {caller N : Nat} {ops : Array Oper} : ∀ (steps : List (Nat × List Nat)) (T T' : Tr AVal) (σ σ' : AMem), runD A call caller N ops steps T σ = some (T', σ') →
    ∃ Tf σf, Tf 0 = T ∧ σf 0 = σ ∧ Tf steps.length = T' ∧ σf steps.length = σ' ∧ Trace A call caller N ops steps Tf σf := by
  intro steps
  induction steps with
  | nil =>
    intro T T' σ σ' h
    simp only [runD, Option.some.injEq, Prod.mk.injEq] at h
    exact ⟨fun _ => T, fun _ => σ, rfl, rfl, h.1, h.2, ⟨fun p i chk hp => by simp at hp⟩⟩
  | cons s rest ih =>
    obtain ⟨i, chk⟩ := s
    intro T T' σ σ' h
    simp only [runD] at h
    split at h
    · rename_i o ho
      split at h
      · rename_i T1 σ1 hst
        split at h
        · rename_i hchk
          obtain ⟨Tf, σf, e1, e2, e3, e4, ht⟩ := ih _ _ _ _ h
          refine ⟨fun p => match p with | 0 => T | p + 1 => Tf p, fun p => match p with | 0 => σ | p + 1 => σf p, rfl, rfl, e3, e4, ⟨?_⟩⟩
          intro p j c hp
          cases p with
          | zero =>
            simp only [List.getElem?_cons_zero, Option.some.injEq, Prod.mk.injEq] at hp
            obtain ⟨rfl, rfl⟩ := hp
            refine ⟨o, ho, by simp only [e1, e2]; exact hst, fun k hk => ?_⟩
            simp only [e1, e2]
            exact List.all_eq_true.1 hchk k hk
          | succ p =>
            simp only [List.getElem?_cons_succ] at hp
            exact ht.step p j c hp
        · cases h
      · cases h
    · cases h

/-! ### slots along the trace -/
section
variable {call : CallA} {caller N : Nat} {ops : Array Oper} {d : Drawn} {Tf : Nat → Tr AVal} {σf : Nat → AMem}

/-- The step of an operation. -/
theorem DOk.step (h : DOk A ops d) (ht : Trace A call caller N ops d.steps Tf σf) {i : Nat} {o : Oper} (ho : ops[i]? = some o) : step1 A call caller N ops o (Tf (posIn d i)) (σf (posIn d i)) = some (Tf (posIn d i + 1), σf (posIn d i + 1)) := by
  obtain ⟨chk, hs⟩ := h.at_ i (lt_of_some ho)
  obtain ⟨o', ho', h1, _⟩ := ht.step _ _ _ hs
  rw [ho] at ho'; cases ho'
  exact h1

theorem DOk.op_at (h : DOk A ops d) {q : Nat} (hq : q < ops.size) : ∃ i o, ops[i]? = some o ∧ posIn d i = q := by
  have : q < d.steps.length := by rw [h.len]; exact hq
  obtain ⟨hi, hp⟩ := h.onto q (d.steps[q]).1 (d.steps[q]).2 (by rw [List.getElem?_eq_getElem this])
  exact ⟨_, _, Array.getElem?_eq_getElem hi, hp⟩

theorem DOk.inj (h : DOk A ops d) {i j : Nat} (hi : i < ops.size) (hj : j < ops.size) (e : posIn d i = posIn d j) : i = j := by
  obtain ⟨c, h1⟩ := h.at_ i hi
  obtain ⟨c', h2⟩ := h.at_ j hj
  rw [e, h2] at h1
  cases h1
  rfl

theorem DOk.same (h : DOk A ops d) (ht : Trace A call caller N ops d.steps Tf σf) {x : Nat} : ∀ (n q : Nat), q + n ≤ ops.size → (∀ j o, ops[j]? = some o → o.dst = some x → q ≤ posIn d j → posIn d j < q + n → False) → (Tf (q + n)).get x = (Tf q).get x := by
  intro n
  induction n with
  | zero => intro q _ _; rfl
  | succ n ih =>
    intro q hle hno
    have h1 := ih q (by omega) fun j o ho hd h1 h2 => hno j o ho hd h1 (by omega)
    obtain ⟨i, o, ho, hp⟩ := h.op_at (q := q + n) (by omega)
    have hs := h.step ht ho
    rw [hp] at hs
    have hne : o.dst ≠ some x := fun e => hno i o ho e (by omega) (by omega)
    rcases step1_cases hs with ⟨_, v, _, hput⟩ | ⟨_, _, hput⟩
    · have := putA_get hput x
      rw [if_neg hne, h1] at this
      exact this
    · have := putA_get hput x
      rw [if_neg hne, h1] at this
      exact this

theorem DOk.same' (h : DOk A ops d) (ht : Trace A call caller N ops d.steps Tf σf) {x q q' : Nat} (hq : q ≤ q') (hq' : q' ≤ ops.size) (hno : ∀ j o, ops[j]? = some o → o.dst = some x → q ≤ posIn d j → posIn d j < q' → False) : (Tf q').get x = (Tf q).get x := by
  have := h.same ht (x := x) (q' - q) q (by omega) (fun j o ho hd h1 h2 => hno j o ho hd h1 (by omega))
  rwa [show q + (q' - q) = q' by omega] at this

/-- Behind its writer, a temporary holds what it holds at the end. -/
theorem DOk.after (h : DOk A ops d) (ht : Trace A call caller N ops d.steps Tf σf) {x q k : Nat} {ok : Oper} (hk : ops[k]? = some ok) (hd : ok.dst = some x) (hp : posIn d k < q) (hq : q ≤ ops.size) : (Tf q).get x = (Tf ops.size).get x := by
  refine (h.same' ht hq (Nat.le_refl _) fun j o ho hdj h1 h2 => ?_).symm
  by_cases e : k = j
  · subst e; omega
  · exact (h.slots k j x ok o hk ho e hd).1 hdj

theorem DOk.before (h : DOk A ops d) (ht : Trace A call caller N ops d.steps Tf σf) {x q : Nat} (hq : q ≤ ops.size) (hno : ∀ k ok, ops[k]? = some ok → ok.dst = some x → q ≤ posIn d k) : (Tf q).get x = (Tf 0).get x :=
  h.same' ht (Nat.zero_le _) hq fun j o ho hd _ h2 => by have := hno j o ho hd; omega

theorem wantA_congr {T T' : Tr AVal} {o : Oper} (h : ∀ x, x ∈ o.looksAt ops → T.get x = T'.get x) : wantA ops T o = wantA ops T' o := by
  unfold wantA
  cases hg : o.guard with
  | none => rfl
  | some gj =>
    obtain ⟨j, want⟩ := gj
    try simp only
    cases hd : (ops[j]?).bind (·.dst) with
    | none => rfl
    | some x =>
      have hm : x ∈ o.looksAt ops := by
        unfold Oper.looksAt
        refine List.mem_append_right _ ?_
        simp [hg, hd]
      simp only [h x hm]
theorem evalO_congr {T T' : Tr AVal} {o : Oper} (h : ∀ x, x ∈ o.looksAt ops → T.get x = T'.get x) {x : Operand} (hx : x ∈ o.op.operands) : evalO A T x = evalO A T' x := by
  cases x with
  | tmp t => exact h t (mem_looks_opnd hx)
  | const c => rfl
  | func f => rfl
  | global k => rfl

theorem evalOpt_congr {T T' : Tr AVal} {x : Option Operand} (h : ∀ y, x = some y → evalO A T y = evalO A T' y) : evalOpt A T x = evalOpt A T' x := by
  cases x with
  | none => rfl
  | some y => simp only [evalOpt, h y rfl]

/-- What reads looks at what it looks at. -/
theorem read_congr {T T' : Tr AVal} {o : Oper} {σ : AMem} (hc : clsOf A o = .load) (h : ∀ x, x ∈ o.looksAt ops → T.get x = T'.get x) : opSem A call caller o T σ = opSem A call caller o T' σ := by
  cases ho : o.op
  case load t p =>
    unfold opSem
    simp only [ho]
    rw [evalO_congr h (by rw [ho]; simp [Op.operands])]
  case convert s d x =>
    unfold opSem
    simp only [ho]
    rw [evalO_congr h (by rw [ho]; simp [Op.operands])]
  case slice t x lo hi mx =>
    unfold opSem
    simp only [ho]
    rw [evalO_congr h (x := x) (by rw [ho]; simp [Op.operands]), evalOpt_congr (x := lo) (fun y e => evalO_congr h (by rw [ho, e]; simp [Op.operands])), evalOpt_congr (x := hi) (fun y e => evalO_congr h (by rw [ho, e]; simp [Op.operands])), evalOpt_congr (x := mx) (fun y e => evalO_congr h (by rw [ho, e]; simp [Op.operands]))]
  case call c =>
    exfalso
    unfold clsOf at hc
    simp only [ho] at hc
    split at hc <;> cases hc
  all_goals
    exfalso
    unfold clsOf at hc
    simp only [ho] at hc
    cases hc

/-! ### what holds while a region is under way -/
structure FInv (N : Nat) (ops : Array Oper) (Tf : Nat → Tr AVal) (a0 : Act) (E : Nat → Bool) (g : Ghost) (w : World) (a : Act) : Prop where
  size : a.tmps.size = N
  defers : a.defers = a0.defers
  closed : Closed ops E
  done : ∀ j o x v, E j = true → ops[j]? = some o → o.dst = some x → (Tf ops.size).get x = some v → ∃ y, a.tmps[x]? = some y ∧ Rel g w v y
  rest : ∀ x v, (∀ j o, E j = true → ops[j]? = some o → o.dst ≠ some x) → (Tf 0).get x = some v → ∃ y, a.tmps[x]? = some y ∧ Rel g w v y

def upd (E : Nat → Bool) (i : Nat) : Nat → Bool := fun j => if j = i then true else E j
theorem upd_same (E : Nat → Bool) (i : Nat) : upd E i i = true := by simp [upd]
theorem upd_other (E : Nat → Bool) {i j : Nat} (h : j ≠ i) : upd E i j = E j := by simp [upd, h]
theorem upd_mono {E : Nat → Bool} {i j : Nat} (h : E j = true) : upd E i j = true := by simp [upd, h]
theorem upd_false {E : Nat → Bool} {i j : Nat} (h : upd E i j = false) : E j = false ∧ j ≠ i := by
  unfold upd at h
  split at h
  · cases h
  · exact ⟨h, by assumption⟩

theorem FInv.put {a0 a : Act} {E : Nat → Bool} {g : Ghost} {w : World} {i : Nat} {o : Oper} {v : AVal} {y : Value} (h : FInv N ops Tf a0 E g w a) (hd : DOk A ops d) (ho : ops[i]? = some o) (hr : ∀ e ∈ o.after, bindsA e = true → E e.on = true)
    (hv : ∀ x, o.dst = some x → x < N ∧ (Tf ops.size).get x = some v) (hrel : Rel g w v y) : FInv N ops Tf a0 (upd E i) g w (a.put o.dst y) := by
  have hget : ∀ x, o.dst ≠ some x → (a.put o.dst y).tmps[x]? = a.tmps[x]? := fun x hx => by
    cases hd : o.dst with
    | none => rfl
    | some z =>
      simp only [Act.put]
      rw [Array.getElem?_setIfInBounds_ne (fun e => hx (by rw [hd, e]))]
  refine ⟨?_, by rw [put_defers]; exact h.defers, ?_, ?_, ?_⟩
  · cases hd : o.dst with
    | none => exact h.size
    | some z => simp [Act.put, h.size]
  · intro j oj e hj hoj he hb
    by_cases hji : j = i
    · subst hji
      rw [ho] at hoj; cases hoj
      exact upd_mono (hr e he hb)
    · rw [upd_other E hji] at hj
      exact upd_mono (h.closed j oj e hj hoj he hb)
  · intro j oj x u hj hoj hdj hu
    by_cases hji : j = i
    · subst hji
      rw [ho] at hoj; cases hoj
      obtain ⟨hlt, hvv⟩ := hv x hdj
      rw [hvv] at hu; cases hu
      refine ⟨y, ?_, hrel⟩
      rw [hdj]
      simp only [Act.put]
      rw [Array.getElem?_setIfInBounds_self_of_lt (by rw [h.size]; exact hlt)]
    · rw [upd_other E hji] at hj
      rw [hget x (hd.slots j i x oj o hoj ho hji hdj).1]
      exact h.done j oj x u hj hoj hdj hu
  · intro x u hno hu
    rw [hget x (hno i o (upd_same E i) ho)]
    exact h.rest x u (fun j oj hj hoj => hno j oj (upd_mono hj) hoj) hu

theorem FInv.mono {a0 a : Act} {E : Nat → Bool} {g g' : Ghost} {w w' : World} (h : FInv N ops Tf a0 E g w a) (hm : ∀ v x, Rel g w v x → Rel g' w' v x) : FInv N ops Tf a0 E g' w' a :=
  { h with
    done := fun j o x v h1 h2 h3 h4 => let ⟨y, h5, h6⟩ := h.done j o x v h1 h2 h3 h4; ⟨y, h5, hm _ _ h6⟩
    rest := fun x v h1 h2 => let ⟨y, h5, h6⟩ := h.rest x v h1 h2; ⟨y, h5, hm _ _ h6⟩ }

/-- What a ready operation looks at. -/
theorem FInv.look {a0 a : Act} {E : Nat → Bool} {g : Ghost} {w : World} {i : Nat} {o : Oper} (h : FInv N ops Tf a0 E g w a) (hd : DOk A ops d) (ht : Trace A call caller N ops d.steps Tf σf) (ho : ops[i]? = some o) (hE : E i = false) (hr : ∀ e ∈ o.after, bindsA e = true → E e.on = true) :
    LookRel g w ops (Tf (posIn d i)) a o := by
  intro x hx v hv
  have hi := lt_of_some ho
  have hpi := hd.pos_lt i hi
  by_cases hw : ∃ (k : Nat) (ok : Oper), ops[k]? = some ok ∧ ok.dst = some x
  · obtain ⟨k, ok, hok, hdk⟩ := hw
    have huniq : ∀ j oj, ops[j]? = some oj → oj.dst = some x → j = k := fun j oj hoj hdj => by
      by_cases e : k = j
      · exact e.symm
      · exact absurd hdj (hd.slots k j x ok oj hok hoj e hdk).1
    by_cases hki : k = i
    · subst hki
      rw [hd.before ht (Nat.le_of_lt hpi) (fun j oj hoj hdj => by rw [huniq j oj hoj hdj]; exact Nat.le_refl _)] at hv
      exact h.rest x v (fun j oj hj hoj hdj => by rw [huniq j oj hoj hdj, hE] at hj; cases hj) hv
    · rcases (hd.slots k i x ok o hok ho hki hdk).2 hx with hm | hm
      · have hEk := hd.anc_ready h.closed ho hr hm
        rw [hd.after ht hok hdk (hd.anc_pos i k hi hm) (Nat.le_of_lt hpi)] at hv
        exact h.done k ok x v hEk hok hdk hv
      · have hpk := hd.anc_pos k i (lt_of_some hok) hm
        rw [hd.before ht (Nat.le_of_lt hpi) (fun j oj hoj hdj => by rw [huniq j oj hoj hdj]; omega)] at hv
        refine h.rest x v (fun j oj hj hoj hdj => ?_) hv
        rw [huniq j oj hoj hdj] at hj
        have := hd.anc_done h.closed k i (lt_of_some hok) hj hm
        rw [hE] at this; cases this
  · have hno : ∀ (k : Nat) (ok : Oper), ops[k]? = some ok → ok.dst ≠ some x := fun k ok h1 h2 => hw ⟨k, ok, h1, h2⟩
    rw [hd.before ht (Nat.le_of_lt hpi) (fun j oj hoj hdj => absurd hdj (hno j oj hoj))] at hv
    exact h.rest x v (fun j oj _ hoj => hno j oj hoj) hv

structure MInv (A : AProg) (P : Program) (call : CallA) (caller : Nat) (ops : Array Oper) (d : Drawn) (Tf : Nat → Tr AVal) (σf : Nat → AMem) (g0 : Ghost) (w0 : World) (E : Nat → Bool) (q : Nat) (g : Ghost) (w : World) : Prop where
  sim : Sim A g (σf q) w
  trans : Trans g0 (σf 0) w0 g (σf q) w
  qle : q ≤ ops.size
  before : ∀ j, j < ops.size → E j = true → posIn d j < q
  effs : ∀ j o, ops[j]? = some o → clsOf A o = .eff → posIn d j < q → E j = true
  allocs : ∀ j o, ops[j]? = some o → clsOf A o = .alloc → E j = false → posIn d j < q → wantA ops (Tf (posIn d j)) o = some true →
    ∃ v s new, opSem A call caller o (Tf (posIn d j)) (σf (posIn d j)) = some (v, s) ∧ AllocOk P A o v (Tf (posIn d j)) (σf (posIn d j)).next new ∧ g.st (σf (posIn d j)).next = .none ∧ (σf q).get (σf (posIn d j)).next = some new ∧ (σf 0).next ≤ (σf (posIn d j)).next ∧ (σf (posIn d j)).next < (σf q).next
  apart : ∀ j o k ok, ops[j]? = some o → ops[k]? = some ok → clsOf A o = .alloc → clsOf A ok = .alloc → E j = false → E k = false → posIn d j < q → posIn d k < q → wantA ops (Tf (posIn d j)) o = some true → wantA ops (Tf (posIn d k)) ok = some true → j ≠ k → (σf (posIn d j)).next ≠ (σf (posIn d k)).next
  loads : ∀ j o v s, ops[j]? = some o → clsOf A o = .load → E j = false → posIn d j < q → wantA ops (Tf (posIn d j)) o = some true → opSem A call caller o (Tf (posIn d j)) (σf (posIn d j)) = some (v, s) → opSem A call caller o (Tf (posIn d j)) (σf q) = some (v, σf q)

variable {g0 : Ghost} {w0 : World}

theorem MInv.did {E : Nat → Bool} {q : Nat} {g : Ghost} {w : World} (h : MInv A P call caller ops d Tf σf g0 w0 E q g w) {i : Nat} (hp : posIn d i < q) : MInv A P call caller ops d Tf σf g0 w0 (upd E i) q g w where
  sim := h.sim
  trans := h.trans
  qle := h.qle
  before := fun j hj hE => by
    by_cases e : j = i
    · subst e; exact hp
    · rw [upd_other E e] at hE; exact h.before j hj hE
  effs := fun j o h1 h2 h3 => upd_mono (h.effs j o h1 h2 h3)
  allocs := fun j o h1 h2 h3 => h.allocs j o h1 h2 (upd_false h3).1
  apart := fun j o k ok h1 h2 h3 h4 h5 h6 => h.apart j o k ok h1 h2 h3 h4 (upd_false h5).1 (upd_false h6).1
  loads := fun j o v s h1 hc h2 => h.loads j o v s h1 hc (upd_false h2).1

/-- A new object in the model, for a number that the abstract memory has had since before. -/
theorem Trans.late {σ0 σ : AMem} {w : World} {g : Ghost} (h : Trans g0 σ0 w0 g σ w) {r : Nat} {p : Place} {O : Obj} (hr : g.st r = .none) (hlt : σ0.next ≤ r) (hp : p.block = w.heap.size) : Trans g0 σ0 w0 (g.add r p) σ (w.alloc O) where
  os := h.os
  tape := h.tape
  output := h.output
  size := by simp; have := h.size; omega
  frame := fun b hb hn => by rw [heap_alloc_lt w O (Nat.lt_of_lt_of_le hb h.size)]; exact h.frame b hb hn
  le := h.le.trans (Ghost.add_le p hr)
  none := fun s hs hn => by rw [Ghost.add_other g p (by omega)]; exact h.none s hs hn
  new := fun s q hq => by
    by_cases e : s = r
    · subst e; rw [Ghost.add_same] at hq; cases hq; exact .inr (.inl (by rw [hp]; exact h.size))
    · rw [Ghost.add_other g p e] at hq; exact h.new s q hq
  ro := h.ro
  ronew := h.ronew
  next := h.next
  loops := fun b r hb => by
    obtain ⟨r', h1⟩ := h.loops b r hb
    exact ⟨r', by rw [heap_alloc_lt w O (Array.getElem?_eq_some_iff.1 h1).1]; exact h1⟩

theorem MInv.alloc {E : Nat → Bool} {q : Nat} {g : Ghost} {w : World} (h : MInv A P call caller ops d Tf σf g0 w0 E q g w) {i : Nat} {o : Oper} {new : AObj} {O : Obj} {p : Place} (ho : ops[i]? = some o) (hc : clsOf A o = .alloc) (hE : E i = false) (hq : posIn d i < q) (hw : wantA ops (Tf (posIn d i)) o = some true)
    (hn : g.st (σf (posIn d i)).next = .none) (hlt : (σf (posIn d i)).next < (σf q).next) (h0 : (σf 0).next ≤ (σf (posIn d i)).next) (hget : (σf q).get (σf (posIn d i)).next = some new) (hp : p.block = w.heap.size) (hobj : ObjRel A (g.add (σf (posIn d i)).next p) (w.alloc O) p new) :
    MInv A P call caller ops d Tf σf g0 w0 (upd E i) q (g.add (σf (posIn d i)).next p) (w.alloc O) := by
  have h1 := h.did hq
  refine { h1 with sim := alloc_at h.sim hn hlt hget hp hobj, trans := h.trans.late hn h0 hp, allocs := ?_ }
  intro j oj hj hcj hEj hpj hwj
  obtain ⟨v, s, nw, a1, a2, a3, a4, a5, a6⟩ := h1.allocs j oj hj hcj hEj hpj hwj
  obtain ⟨hEj', hji⟩ := upd_false hEj
  exact ⟨v, s, nw, a1, a2, by rw [Ghost.add_other g p (h.apart j oj i o hj ho hcj hc hEj' hE hpj hq hwj hw hji)]; exact a3, a4, a5, a6⟩

theorem MInv.eff (hA : AOk P A) {E : Nat → Bool} {q : Nat} {g g' : Ghost} {w w' : World} (hd : DOk A ops d) (ht : Trace A call caller N ops d.steps Tf σf) (hcl : Closed ops E) (h : MInv A P call caller ops d Tf σf g0 w0 E q g w) {i : Nat} {o : Oper} (ho : ops[i]? = some o) (hc : clsOf A o = .eff) (hE : E i = false) (hq : posIn d i = q)
    (hr : ∀ e ∈ o.after, bindsA e = true → E e.on = true) (hs : Sim A g' (σf (q + 1)) w') (htr : Trans g (σf q) w g' (σf (q + 1)) w') : MInv A P call caller ops d Tf σf g0 w0 (upd E i) (q + 1) g' w' := by
  have hi := lt_of_some ho
  have hlt := hd.pos_lt i hi
  refine ⟨hs, h.trans.trans htr, by omega, ?_, ?_, ?_, ?_, ?_⟩
  · intro j hj hEj
    by_cases e : j = i
    · subst e; omega
    · rw [upd_other E e] at hEj; have := h.before j hj hEj; omega
  · intro j oj hoj hcj hpj
    by_cases e : j = i
    · subst e; exact upd_same E j
    · refine upd_mono (h.effs j oj hoj hcj ?_)
      have : posIn d j ≠ q := fun e' => e (hd.inj (lt_of_some hoj) hi (e'.trans hq.symm))
      omega
  · intro j oj hoj hcj hEj hpj hwj
    obtain ⟨hEj', hji⟩ := upd_false hEj
    have : posIn d j ≠ q := fun e' => hji (hd.inj (lt_of_some hoj) hi (e'.trans hq.symm))
    obtain ⟨v, s, nw, a1, a2, a3, a4, a5, a6⟩ := h.allocs j oj hoj hcj hEj' (by omega) hwj
    obtain ⟨b1, b2⟩ := htr.none _ a6 a3
    exact ⟨v, s, nw, a1, a2, b1, b2.trans a4, a5, Nat.lt_of_lt_of_le a6 htr.next⟩
  · intro j oj k ok hj hk hcj hck hEj hEk hpj hpk hwj hwk hjk
    obtain ⟨hEj', hji⟩ := upd_false hEj
    obtain ⟨hEk', hki⟩ := upd_false hEk
    have : posIn d j ≠ q := fun e' => hji (hd.inj (lt_of_some hj) hi (e'.trans hq.symm))
    have : posIn d k ≠ q := fun e' => hki (hd.inj (lt_of_some hk) hi (e'.trans hq.symm))
    exact h.apart j oj k ok hj hk hcj hck hEj' hEk' (by omega) (by omega) hwj hwk hjk
  · intro j oj v s hoj hclj hEj hpj hwj hl
    obtain ⟨hEj', hji⟩ := upd_false hEj
    have hne : posIn d j ≠ q := fun e' => hji (hd.inj (lt_of_some hoj) hi (e'.trans hq.symm))
    rcases hd.eff_load i j o oj ho hoj hc hji hclj with hm | hm | ⟨h1, ⟨chk, hs1, hm⟩, hk⟩
    · have := hd.anc_pos j i (lt_of_some hoj) hm; omega
    · have := hd.anc_ready hcl ho hr hm; rw [hEj'] at this; cases this
    · obtain ⟨o', ho', _, hag⟩ := ht.step _ _ _ hs1
      have hag := hag j hm
      rw [hq] at hag
      have hsame : ∀ x, x ∈ oj.looksAt ops → (Tf (q + 1)).get x = (Tf (posIn d j)).get x := fun x hx =>
        hd.same' ht (by omega) (by omega) fun k ok hok hdk h2 h3 => by
          rcases hk k ok x hok hdk hx with h4 | h4
          · have := hd.anc_pos j k (lt_of_some hoj) h4; omega
          · omega
      -- what stands in the temporary is what was read
      have hvd : ∀ dj, oj.dst = some dj → (Tf (q + 1)).get dj = some v := fun dj hdj => by
        have hst := hd.step ht hoj
        rcases step1_cases hst with ⟨_, v2, hsem, hput⟩ | ⟨hw2, _, _⟩
        · have hv2 := putA_get hput dj
          rw [if_pos hdj] at hv2
          have e4 := hd.after ht hoj hdj (q := q + 1) (by omega) (by omega)
          have e5 := hd.after ht hoj hdj (q := posIn d j + 1) (by omega) (by omega)
          rw [e4, ← e5, hv2]
          rw [hl] at hsem
          cases hsem
          rfl
        · rw [hwj] at hw2; cases hw2
      unfold again at hag
      rw [hoj] at hag
      simp only [wantA_congr hsame, hwj] at hag
      cases hdj : oj.dst with
      | none => simp [hdj] at hag
      | some dj =>
        simp only [hdj, hvd dj hdj] at hag
        rw [read_congr hclj hsame] at hag
        split at hag
        · rename_i u m2 v3 hsem e3
          cases e3
          rw [AVal.beq_eq _ _ hag] at hsem
          rw [hsem, (read_sound hA hclj hsem).1]
        · cases hag

/-- The abstract memory goes on to where the next effect stands. -/
theorem MInv.adv1 (hA : AOk P A) {E : Nat → Bool} {q : Nat} {g : Ghost} {w : World} (hd : DOk A ops d) (ht : Trace A call caller N ops d.steps Tf σf) (h : MInv A P call caller ops d Tf σf g0 w0 E q g w) {i : Nat} {o : Oper} (ho : ops[i]? = some o) (hc : clsOf A o ≠ .eff) (hq : posIn d i = q) :
    MInv A P call caller ops d Tf σf g0 w0 E (q + 1) g w := by
  have hi := lt_of_some ho
  have hlt := hd.pos_lt i hi
  have hother : ∀ j, j < ops.size → j ≠ i → posIn d j < q + 1 → posIn d j < q := fun j hj hji hp => by
    have : posIn d j ≠ q := fun e' => hji (hd.inj hj hi (e'.trans hq.symm))
    omega
  have hst := hd.step ht ho
  rw [hq] at hst
  -- the memory stays, or gets one object more
  have hmem : σf (q + 1) = σf q ∨ (clsOf A o = .alloc ∧ wantA ops (Tf q) o = some true ∧ ∃ v new, opSem A call caller o (Tf q) (σf q) = some (v, σf (q + 1)) ∧ AllocOk P A o v (Tf q) (σf q).next new ∧ σf (q + 1) = (σf q).push new) := by
    rcases step1_cases hst with ⟨hw, v, hsem, _⟩ | ⟨_, e, _⟩
    · cases hcl : clsOf A o with
      | eff => exact absurd hcl hc
      | pure => exact .inl (pure_sound hA hcl hsem).1
      | load => exact .inl (read_sound hA hcl hsem).1
      | alloc =>
        obtain ⟨new, e1, e2⟩ := alloc_sound hA hcl hsem
        exact .inr ⟨rfl, hw, v, new, hsem, e2, e1⟩
    · exact .inl e
  have hfr := h.sim.fresh (σf q).next (Nat.le_refl _)
  have hread : ∀ (oj : Oper) (T : Tr AVal) v, clsOf A oj = .load → opSem A call caller oj T (σf q) = some (v, σf q) → opSem A call caller oj T (σf (q + 1)) = some (v, σf (q + 1)) := fun oj T v hcj hl => by
    rcases hmem with e | ⟨_, _, _, new, _, _, e⟩
    · rw [e]; exact hl
    · rw [e]; exact read_push hA hcj hfr.2 hl
  have hnext : (σf q).next ≤ (σf (q + 1)).next := by
    rcases hmem with e | ⟨_, _, _, new, _, _, e⟩
    · rw [e]; exact Nat.le_refl _
    · rw [e]; simp
  have hkeep : ∀ r new, (σf q).get r = some new → (σf (q + 1)).get r = some new := fun r new hr => by
    rcases hmem with e | ⟨_, _, _, nw, _, _, e⟩
    · rw [e]; exact hr
    · rw [e, AMem.get_push, if_neg (fun e' => by rw [← e', hfr.2] at hr; cases hr)]; exact hr
  refine ⟨?_, ?_, by omega, fun j hj hE => by have := h.before j hj hE; omega, ?_, ?_, ?_, ?_⟩
  · rcases hmem with e | ⟨_, _, _, new, _, _, e⟩
    · rw [e]; exact h.sim
    · rw [e]; exact h.sim.push new
  · rcases hmem with e | ⟨_, _, _, new, _, _, e⟩
    · rw [e]; exact h.trans
    · rw [e]; exact h.trans.trans (Trans.push g _ w new)
  · intro j oj hoj hcj hpj
    refine h.effs j oj hoj hcj (hother j (lt_of_some hoj) (fun e => ?_) hpj)
    subst e
    rw [ho] at hoj; cases hoj
    exact hc hcj
  · intro j oj hoj hcj hEj hpj hwj
    by_cases e : j = i
    · subst e
      rw [ho] at hoj; cases hoj
      rcases step1_cases hst with ⟨hw, v, hsem, _⟩ | ⟨hw2, _, _⟩
      · obtain ⟨new, e1, e2⟩ := alloc_sound hA hcj hsem
        rw [hq]
        refine ⟨v, _, new, hsem, e2, hfr.1, ?_, h.trans.next, ?_⟩
        · rw [e1, AMem.get_push, if_pos rfl]
        · rw [e1]; simp
      · rw [hq, hw2] at hwj; cases hwj
    · obtain ⟨v, s, nw, a1, a2, a3, a4, a5, a6⟩ := h.allocs j oj hoj hcj hEj (hother j (lt_of_some hoj) e hpj) hwj
      exact ⟨v, s, nw, a1, a2, a3, hkeep _ _ a4, a5, Nat.lt_of_lt_of_le a6 hnext⟩
  · intro j oj k ok hj hk hcj hck hEj hEk hpj hpk hwj hwk hjk
    by_cases e : j = i
    · subst e
      have hki : k ≠ j := Ne.symm hjk
      obtain ⟨_, _, _, _, _, _, _, _, a6⟩ := h.allocs k ok hk hck hEk (hother k (lt_of_some hk) hki hpk) hwk
      rw [hq]; omega
    · by_cases e2 : k = i
      · subst e2
        obtain ⟨_, _, _, _, _, _, _, _, a6⟩ := h.allocs j oj hj hcj hEj (hother j (lt_of_some hj) e hpj) hwj
        rw [hq]; omega
      · exact h.apart j oj k ok hj hk hcj hck hEj hEk (hother j (lt_of_some hj) e hpj) (hother k (lt_of_some hk) e2 hpk) hwj hwk hjk
  · intro j oj v s hoj hclj hEj hpj hwj hl
    by_cases e : j = i
    · subst e
      rw [hq] at hl
      have := (read_sound hA hclj hl).1
      rw [this] at hl
      rw [hq]
      exact hread oj _ v hclj hl
    · exact hread oj _ v hclj (h.loads j oj v s hoj hclj hEj (hother j (lt_of_some hoj) e hpj) hwj hl)

def Stop (A : AProg) (ops : Array Oper) (d : Drawn) (q : Nat) : Prop := ∀ i o, ops[i]? = some o → posIn d i = q → clsOf A o = .eff

theorem MInv.adv (hA : AOk P A) {E : Nat → Bool} {g : Ghost} {w : World} (hd : DOk A ops d) (ht : Trace A call caller N ops d.steps Tf σf) : ∀ (n q : Nat), ops.size - q ≤ n → MInv A P call caller ops d Tf σf g0 w0 E q g w → ∃ q', MInv A P call caller ops d Tf σf g0 w0 E q' g w ∧ Stop A ops d q' := by
  intro n
  induction n with
  | zero =>
    intro q hn h
    refine ⟨q, h, fun i o ho hp => ?_⟩
    have := hd.pos_lt i (lt_of_some ho)
    omega
  | succ n ih =>
    intro q hn h
    by_cases hs : Stop A ops d q
    · exact ⟨q, h, hs⟩
    · have : ∃ i o, ops[i]? = some o ∧ posIn d i = q ∧ clsOf A o ≠ .eff := by
        apply Classical.byContradiction
        intro hno
        exact hs fun i o ho hp => Classical.byContradiction fun hc => hno ⟨i, o, ho, hp, hc⟩
      obtain ⟨i, o, ho, hp, hc⟩ := this
      exact ih (q + 1) (by omega) (h.adv1 hA hd ht ho hc hp)

theorem filter_lt {i : Nat} {p p' : Nat → Bool} : ∀ (l : List Nat), i ∈ l → (∀ j, p' j = true → p j = true) → p i = true → p' i = false → (l.filter p').length < (l.filter p).length := by
  intro l
  induction l with
  | nil => intro h; cases h
  | cons x xs ih =>
    intro hm hsub hp hp'
    have hle : (xs.filter p').length ≤ (xs.filter p).length := by
      clear ih hm
      induction xs with
      | nil => simp
      | cons y ys ih2 =>
        simp only [List.filter_cons]
        cases h1 : p' y with
        | false => cases h2 : p y <;> simp <;> omega
        | true => rw [hsub y h1]; simp; omega
    simp only [List.filter_cons]
    by_cases e : i = x
    · subst e
      rw [hp, hp']
      simp
      omega
    · have := ih ((List.mem_cons.1 hm).resolve_left e) hsub hp hp'
      cases h1 : p' x with
      | false => cases h2 : p x <;> simp <;> omega
      | true => rw [hsub x h1]; simp; omega

theorem region_draw_sound (hA : AOk P A) (hcall : CallOk A P call) {id : Nat} {ro : Option Nat} {n : Nat} {Q : Exit → Act → World → Prop} {T T' : Tr AVal} {σ σ' : AMem} {g : Ghost} {w : World} {a : Act} (hok : drawOkB A ops d = true)
    (h : runD A call caller N ops d.steps T σ = some (T', σ')) (hs : Sim A g σ w) (hf : FrameRel g w N T a.tmps)
    (hQ : ∀ a' w' g', Sim A g' σ' w' → Trans g σ w g' σ' w' → FrameRel g' w' N T' a'.tmps → a'.defers = a.defers → Q .normal a' w') : (Code.region id ops true).wpIn (FW ro) n P Q a w := by
  have hd := drawOkB_spec hok
  obtain ⟨Tf, σf, e1, e2, e3, e4, ht⟩ := trace_of_runD _ _ _ _ _ h
  rw [hd.len] at e3 e4
  subst e1 e2 e3 e4
  refine wpIn_region_any hA.mixed ?_
  -- the walk
  have walk : ∀ (fuel : Nat) (listed : Array Bool) (a' : Act) (w' : World) (g' : Ghost) (q : Nat), listed.size = ops.size → ((List.range ops.size).filter fun j => !listed.getD j false).length ≤ fuel →
      FInv N ops Tf a (fun j => listed.getD j false) g' w' a' → MInv A P call caller ops d Tf σf g w (fun j => listed.getD j false) q g' w' → Stop A ops d q → wpAnyIn (FW ro) n P .any ops Q fuel listed a' w' := by
    have fin : ∀ (listed : Array Bool) (a' : Act) (w' : World) (g' : Ghost) (q : Nat), Region.ready .any ops listed = [] → listed.size = ops.size → 
      FInv N ops Tf a (fun j => listed.getD j false) g' w' a' → MInv A P call caller ops d Tf σf g w (fun j => listed.getD j false) q g' w' → Stop A ops d q → Q .normal a' w' := by
      intro listed a' w' g' q hr hsz hF hM hst
      have hall : ∀ (m j : Nat), j < ops.size → posIn d j < m → listed.getD j false = true := by
        intro m
        induction m with
        | zero => intro j _ h; omega
        | succ m ih =>
          intro j hj hp
          cases hl : listed.getD j false with
          | true => rfl
          | false =>
            exfalso
            have hmem : j ∈ Region.ready .any ops listed := by
              refine mem_ready.2 ⟨?_, ops[j], Array.getElem?_eq_getElem hj, fun e he hb => ?_⟩
              · rw [Array.getD_eq_getD_getElem?] at hl ⊢
                rw [Array.getElem?_eq_getElem (by rw [hsz]; exact hj)] at hl ⊢
                exact hl
              · obtain ⟨h1, h2⟩ := hd.edges j _ e (Array.getElem?_eq_getElem hj) he hb
                exact ih e.on (Nat.lt_trans (hd.ancs _ _ hj h2).1 hj) (by omega)
            rw [hr] at hmem
            cases hmem
      have hE : ∀ j, j < ops.size → listed.getD j false = true := fun j hj => hall _ j hj (Nat.lt_succ_self _)
      have hq : q = ops.size := by
        rcases Nat.lt_or_ge q ops.size with hlt | hge
        · exfalso
          obtain ⟨i, o, ho, hp⟩ := hd.op_at hlt
          have := hM.before i (lt_of_some ho) (hE i (lt_of_some ho))
          omega
        · exact Nat.le_antisymm hM.qle hge
      subst hq
      refine hQ a' w' g' hM.sim hM.trans ⟨hF.size, fun x v hv => ?_⟩ hF.defers
      by_cases hw : ∃ (k : Nat) (ok : Oper), ops[k]? = some ok ∧ ok.dst = some x
      · obtain ⟨k, ok, hok, hdk⟩ := hw
        exact hF.done k ok x v (hE k (lt_of_some hok)) hok hdk hv
      · have hno : ∀ (k : Nat) (ok : Oper), ops[k]? = some ok → ok.dst ≠ some x := fun k ok h1 h2 => hw ⟨k, ok, h1, h2⟩
        rw [hd.before ht (Nat.le_refl _) (fun j oj hoj hdj => absurd hdj (hno j oj hoj))] at hv
        exact hF.rest x v (fun j oj _ hoj => hno j oj hoj) hv
    intro fuel
    induction fuel with
    | zero =>
      intro listed a' w' g' q hsz hcnt hF hM hst
      have hr : Region.ready .any ops listed = [] := by
        cases hh : Region.ready .any ops listed with
        | nil => rfl
        | cons j js =>
          exfalso
          obtain ⟨h1, o, ho, _⟩ := mem_ready.1 (show j ∈ Region.ready .any ops listed by rw [hh]; simp)
          have hj := lt_of_some ho
          have : j ∈ (List.range ops.size).filter fun j => !listed.getD j false := by
            rw [List.mem_filter, List.mem_range]
            refine ⟨hj, ?_⟩
            rw [Array.getD_eq_getD_getElem?] at h1 ⊢
            rw [Array.getElem?_eq_getElem (by rw [hsz]; exact hj)] at h1 ⊢
            simpa using h1
          have := List.length_pos_of_mem this
          omega
      exact ⟨hr, fin listed a' w' g' q hr hsz hF hM hst⟩
    | succ fuel ih =>
      intro listed a' w' g' q hsz hcnt hF hM hst
      refine ⟨fun hr => fin listed a' w' g' q hr hsz hF hM hst, fun i hi => ?_⟩
      obtain ⟨h1, o, ho, hr⟩ := mem_ready.1 hi
      have hlt := lt_of_some ho
      have hE : listed.getD i false = false := by
        rw [Array.getD_eq_getD_getElem?] at h1 ⊢
        rw [Array.getElem?_eq_getElem (by rw [hsz]; exact hlt)] at h1 ⊢
        exact h1
      have hupd : (fun j => (listed.setIfInBounds i true).getD j false) = upd (fun j => listed.getD j false) i := by
        funext j
        unfold upd
        split
        · rename_i e
          subst e
          simp [hsz, hlt]
        · rename_i e
          exact getD_set_ne false (Ne.symm e)
      have hnext : ∀ a2 w2 g2 q2, FInv N ops Tf a (upd (fun j => listed.getD j false) i) g2 w2 a2 → MInv A P call caller ops d Tf σf g w (upd (fun j => listed.getD j false) i) q2 g2 w2 → wpAnyIn (FW ro) n P .any ops Q fuel (listed.setIfInBounds i true) a2 w2 := by
        intro a2 w2 g2 q2 hF2 hM2
        obtain ⟨q3, hM3, hs3⟩ := hM2.adv hA hd ht _ q2 (Nat.le_refl _)
        refine ih _ a2 w2 g2 q3 (by simp [hsz]) ?_ (by rw [hupd]; exact hF2) (by rw [hupd]; exact hM3) hs3
        have := filter_lt (i := i) (p := fun j => !listed.getD j false) (p' := fun j => !(listed.setIfInBounds i true).getD j false) (List.range ops.size) (List.mem_range.2 hlt) ?_ ?_ ?_
        · omega
        · intro j hj
          have := congrFun hupd j
          rw [this] at hj
          simp only [Bool.not_eq_true'] at hj ⊢
          exact (upd_false hj).1
        · simp only [hE, Bool.not_false]
        · have := congrFun hupd i
          rw [upd_same] at this
          show (!(listed.setIfInBounds i true).getD i false) = false
          rw [this]; rfl
      have hlook := hF.look hd ht ho hE hr
      have hput : ∀ v, (∃ s, step1 A call caller N ops o (Tf (posIn d i)) (σf (posIn d i)) = some (Tf (posIn d i + 1), s) ∧ putA N (Tf (posIn d i)) o.dst v = some (Tf (posIn d i + 1))) → ∀ x, o.dst = some x → x < N ∧ (Tf ops.size).get x = some v := by
        rintro v ⟨s, _, hp⟩ x hx
        rw [hx] at hp
        refine ⟨putA_lt hp, ?_⟩
        have := putA_get hp x
        rw [if_pos rfl] at this
        rw [← hd.after ht ho hx (q := posIn d i + 1) (by omega) (by have := hd.pos_lt i hlt; omega), this]
      have hstep := hd.step ht ho
      -- where the memory stands
      have hpos : clsOf A o ≠ .eff → posIn d i < q := by
        intro hc
        rcases Nat.lt_or_ge (posIn d i) q with h' | h'
        · exact h'
        · exfalso
          have hqlt : q < ops.size := by have := hd.pos_lt i hlt; omega
          obtain ⟨e, oe, hoe, hpe⟩ := hd.op_at hqlt
          have hce := hst e oe hoe hpe
          have hne : i ≠ e := fun e' => by subst e'; rw [ho] at hoe; cases hoe; exact hc hce
          have hEe : listed.getD e false = false := by
            cases hl : listed.getD e false with
            | false => rfl
            | true => have := hM.before e (lt_of_some hoe) hl; omega
          rcases hd.eff_else e i oe o hoe ho hce hne hc with hm | hm | hm
          · have := hd.anc_ready hF.closed ho hr hm
            simp only [hEe] at this
            cases this
          · have := hd.anc_pos e i (lt_of_some hoe) hm; omega
          · omega
      have hposE : clsOf A o = .eff → posIn d i = q := by
        intro hc
        have hge : q ≤ posIn d i := by
          rcases Nat.lt_or_ge (posIn d i) q with h' | h'
          · have := hM.effs i o ho hc h'
            simp only [hE] at this
            cases this
          · exact h'
        have hqlt : q < ops.size := by have := hd.pos_lt i hlt; omega
        obtain ⟨e, oe, hoe, hpe⟩ := hd.op_at hqlt
        have hce := hst e oe hoe hpe
        by_cases hne : i = e
        · subst hne; exact hpe
        · exfalso
          have hEe : listed.getD e false = false := by
            cases hl : listed.getD e false with
            | false => rfl
            | true => have := hM.before e (lt_of_some hoe) hl; omega
          rcases hd.eff_eff e i oe o hoe ho hce hne hc with hm | hm
          · have := hd.anc_pos e i (lt_of_some hoe) hm; omega
          · have := hd.anc_ready hF.closed ho hr hm
            simp only [hEe] at this
            cases this
      unfold wpOpIn
      simp only [ho]
      rcases step1_cases hstep with ⟨hw, v, hsem, hp⟩ | ⟨hw, hσ, hp⟩
      · rw [want_sound hlook hw]
        simp only [if_true]
        have hval := hput v ⟨_, hstep, hp⟩
        cases hc : clsOf A o with
        | eff =>
          have hq := hposE hc
          rw [hq] at hsem hlook
          refine op_sound hA hcall hsem hM.sim (hlook.opnd hM.sim) fun x w2 g2 hs2 ht2 hr2 => ?_
          exact hnext _ _ _ _ ((hF.mono fun _ _ h => ht2.rel hM.sim h).put hd ho hr hval hr2) (hM.eff hA hd ht hF.closed ho hc hE hq hr hs2 ht2)
        | pure =>
          obtain ⟨_, hpo⟩ := pure_sound hA hc hsem
          obtain ⟨y, hy, hr2⟩ := hpo g' w' a' (hlook.opnd hM.sim)
          exact step_value (not_defer hsem) (.inl hy) (hnext _ _ _ _ (hF.put hd ho hr hval hr2) (hM.did (hpos (by rw [hc]; decide))))
        | load =>
          have hl2 := hM.loads i o v _ ho hc hE (hpos (by rw [hc]; decide)) hw hsem
          obtain ⟨y, hy, hr2⟩ := (read_sound hA hc hl2).2 g' w' a' hM.sim (hlook.opnd hM.sim)
          exact step_value (not_defer hsem) hy (hnext _ _ _ _ (hF.put hd ho hr hval hr2) (hM.did (hpos (by rw [hc]; decide))))
        | alloc =>
          have hq := hpos (by rw [hc]; decide)
          obtain ⟨v', s', new, b1, b2, b3, b4, b5, b6⟩ := hM.allocs i o ho hc hE hq hw
          rw [hsem] at b1
          cases b1
          obtain ⟨y, O, p, hy, hpb, hobj, hr2⟩ := b2 g' w' a' b3 hM.sim.rolt (hlook.opnd hM.sim)
          have hle := Ghost.add_le p b3
          have hst2 := stays_alloc (g := g') (w := w') O (σf (posIn d i)).next p hM.sim.rolt
          exact step_value (not_defer hsem) (.inl hy) (hnext _ _ _ _ ((hF.mono fun v x h => Rel.mono hle hst2 v x h).put hd ho hr hval hr2) (hM.alloc ho hc hE hq hw b3 b6 b5 b4 hpb hobj))
      · rw [want_sound hlook hw]
        simp only [Bool.false_eq_true, if_false]
        have hval := hput _ ⟨_, hstep, hp⟩
        refine ⟨fun f _ => trivial, ?_⟩
        have hF2 := hF.put hd ho hr hval (undef_rel g' w')
        by_cases hc : clsOf A o = .eff
        · have hq := hposE hc
          rw [hq] at hσ
          refine hnext _ _ _ _ hF2 (hM.eff hA hd ht hF.closed ho hc hE hq hr (by rw [hσ]; exact hM.sim) (by rw [hσ]; exact Trans.refl _ _ _))
        · exact hnext _ _ _ _ hF2 (hM.did (hpos hc))
  -- the start
  have hempty : (fun j => (Array.replicate ops.size false).getD j false) = fun _ => false := by
    funext j
    rw [Array.getD_eq_getD_getElem?, Array.getElem?_replicate]
    split <;> rfl
  have hM0 : MInv A P call caller ops d Tf σf g w (fun j => (Array.replicate ops.size false).getD j false) 0 g { w with drawn := w.drawn + 1 } := by
    rw [hempty]
    exact ⟨hs.drewN _, Trans.drewN _ _ _ _, Nat.zero_le _, fun j _ h => by simp at h, fun j o _ _ h => by omega, fun j o _ _ _ h => by omega, fun j o k ok _ _ _ _ _ _ h => by omega, fun j o v s _ _ _ h => by omega⟩
  obtain ⟨q, hM, hst⟩ := hM0.adv hA hd ht _ 0 (Nat.le_refl _)
  refine walk ops.size _ a _ g q (by simp) ?_ ?_ hM hst
  · exact Nat.le_trans (List.length_filter_le _ _) (by simp)
  · rw [hempty]
    have hf' := (Trans.drewN g (σf 0) w (w.drawn + 1)).frameRel hs hf
    exact ⟨hf'.1, rfl, fun j o e h => by simp at h, fun j o x v h => by simp at h, fun x v _ hv => hf'.2 x v hv⟩

end
end Go.Proofs.YtjckhhkhgjbpaaaGreatDoor.Pale
