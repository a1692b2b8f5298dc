/- The abstract machine against the model: operations as steps, regions in the order of the text. -/
import Derived.Test.YtnjdhcfonobpkaaGreatPaleVal
set_option linter.unusedVariables false
set_option linter.unusedSimpArgs false
namespace Go.Proofs.YtnjdhcfonobpkaaGreat.Pale
open Go

variable {A : AProg} {P : Program}

theorem run_call_func {o : Oper} {c : Call} {f : Operand} {a : Act} {w : World} {k : FuncId} {first cap : Array Value} (ho : o.op = .call c) (hf : c.callee = .value f) (hv : a.eval f = .func (.func k) first cap) (he : ∀ as w, (callFunc k as).run P w = .ok (.enter k as) w) :
    (execOp a.eval o).run P w = .ok (.enter k (first ++ c.args.map a.eval ++ cap)) w := by
  simp [execOp, ho, resolve, hf, hv, Deferred.ofValue, invoke, he, Result.andThen]
theorem run_call_yield {o : Oper} {c : Call} {f : Operand} {a : Act} {w : World} {l : Nat} {x : Next} (ho : o.op = .call c) (hf : c.callee = .value f) (hv : a.eval f = .func (.yield l) #[] #[]) (he : (Instr.yield l (c.args.map a.eval)).run P w = .ok x w) :
    (execOp a.eval o).run P w = .ok x w := by
  have e1 : (resolve a.eval c o.type).run P w = .ok { target := .fn (.yield l) #[], args := #[] ++ c.args.map a.eval } w := by
    simp [resolve, hf, hv, Deferred.ofValue]
  simp only [execOp, ho, Sem.run_bind, e1, Result.andThen, invoke]
  simpa using he

theorem wide_room (ro : Option Nat) (n : Nat) : ((FW ro).depth.isSome = true → 1 ≤ n) := fun h => by simp [FW, Fence.wide] at h

/-- An operation that yields a value, as a step of the walk. -/
theorem step_value {o : Oper} {a : Act} {w w' : World} {x : Value} {ro : Option Nat} {n : Nat} {next : Act → World → Prop} {Q : Exit → Act → World → Prop} (hd : ∀ c, o.op ≠ .defer c) (hy : Yields P o a w x w') (hn : next (a.put o.dst x) w') : o.wpIn (FW ro) n P a w next Q := by
  refine ⟨fun f _ => trivial, ?_⟩
  rw [Oper.semAt_eq _ _ _ hd]
  rcases hy with h | ⟨h, rfl⟩
  · rw [h]; exact hn
  · rw [h]; exact hn

theorem step_call {o : Oper} {c : Call} {f : Operand} {a : Act} {w : World} {R : Value → World → Prop} {ro : Option Nat} {n : Nat} {next : Act → World → Prop} {Q : Exit → Act → World → Prop} (ho : o.op = .call c) (hf : c.callee = .value f)
    (hi : ∀ n, Invoked n P (a.eval f) (c.args.map a.eval) w R) (hn : ∀ x w', R x w' → next (a.put o.dst x) w') : o.wpIn (FW ro) n P a w next Q := by
  refine ⟨fun f _ => trivial, ?_⟩
  rw [Oper.semAt_eq _ _ _ (by intro c' h; rw [ho] at h; cases h)]
  rcases hi (n - 1) with ⟨k, first, cap, hv, he, hc⟩ | ⟨l, fn, tmps, assign, body, hv, hy, hr⟩
  · rw [run_call_func ho hf hv he]
    rw [Oper.uponIn_enter]
    refine ⟨wide_room ro n, CallsIn.mono (F := FW ro) (R := fun e w' => ∃ x, e = .returned x ∧ R x w') hc ?_⟩
    rintro e w' ⟨x, rfl, hx⟩
    exact hn x w' hx
  · rw [run_call_yield ho hf hv hy]
    rw [Oper.uponIn_round]
    refine ⟨wide_room ro n, RoundIn.mono (F := FW ro) (R := fun e w' => ∃ x, e = .returned x ∧ R x w') hr ?_⟩
    rintro e w' ⟨x, rfl, hx⟩
    exact hn x w' hx

theorem load_sound (hA : AOk P A) {call : CallA} {caller : Nat} {o : Oper} {T : Tr AVal} {σ σ' : AMem} {v : AVal} (hc : clsOf A o = .load) (h : opSem A call caller o T σ = some (v, σ')) : σ' = σ ∧ ∃ t p i pv, o.op = .load t p ∧ A.ty t = some i ∧ evalO T p = some pv ∧ loadA i σ pv = some v := by
  unfold opSem at h
  unfold clsOf at hc
  cases ho : o.op <;> simp only [ho] at h hc <;> try (cases hc; done)
  case load t p =>
    split at h
    · rename_i i pv hi hp
      obtain ⟨h1, h2⟩ := snd_of_map h
      exact ⟨h2, t, p, i, pv, rfl, hi, hp, h1⟩
    · cases h
  case convert s d x =>
    exfalso
    split at hc
    · split at hc <;> cases hc
    · cases hc
  case call c =>
    exfalso
    split at hc <;> cases hc

theorem load_yields (hA : AOk P A) {o : Oper} {t : Nat} {p : Operand} {i : TyI} {pv v : AVal} {T : Tr AVal} {g : Ghost} {σ : AMem} {w : World} {a : Act} (hs : Sim A g σ w) (ho : o.op = .load t p) (hi : A.ty t = some i) (hp : evalO T p = some pv) (hl : loadA i σ pv = some v) (hop : OpndRel g w T a o) : ∃ x, Yields P o a w x w ∧ Rel g w v x := by
  obtain ⟨y, hy, hr⟩ := loadA_sound (P := P) hs (hA.ty _ _ hi) hl (hop p (by simp [ho, Op.operands]) _ hp)
  exact ⟨y, .inl (exec_v (s := Instr.loadAt t (a.eval p)) (by simp [execOp, ho]) hy), hr⟩

theorem not_defer {call : CallA} {caller : Nat} {o : Oper} {T : Tr AVal} {σ : AMem} {r : AVal × AMem} (h : opSem A call caller o T σ = some r) : ∀ c, o.op ≠ .defer c := by
  intro c ho
  unfold opSem at h
  simp [ho] at h

/-- What one operation gives, in both. -/
theorem op_sound (hA : AOk P A) {call : CallA} (hcall : CallOk A P call) {caller : Nat} {o : Oper} {T : Tr AVal} {σ σ' : AMem} {v : AVal} (h : opSem A call caller o T σ = some (v, σ'))
    {g : Ghost} {w : World} {a : Act} (hs : Sim A g σ w) (hop : OpndRel g w T a o) {ro : Option Nat} {n : Nat} {next : Act → World → Prop} {Q : Exit → Act → World → Prop}
    (hn : ∀ x w' g', Sim A g' σ' w' → Trans g σ w g' σ' w' → Rel g' w' v x → next (a.put o.dst x) w') : o.wpIn (FW ro) n P a w next Q := by
  have hnd := not_defer h
  by_cases hcv : ∃ c f, o.op = .call c ∧ c.callee = .value f
  · obtain ⟨c, f, ho, hf⟩ := hcv
    unfold opSem at h
    simp only [ho] at h
    split at h
    · rename_i args hargs
      simp only [hf] at h
      have hfop : f ∈ o.op.operands := by simp [ho, Op.operands, Call.operands, hf]
      have hrel : RelL g w args (c.args.toList.map a.eval) :=
        evalL_rel c.args.toList args (fun x hx => hop x (by
          simp only [ho, Op.operands, Call.operands]
          simp only [Array.mem_append]
          exact .inr (by simpa using hx))) hargs
      have hrel' : RelL g w args (c.args.map a.eval).toList := by simpa using hrel
      split at h
      · rename_i fv hfv
        have hfr := hop f hfop fv hfv
        have hinv : ∀ n, Invoked n P (a.eval f) (c.args.map a.eval) w (fun x w' => ∃ g', Sim A g' σ' w' ∧ Trans g σ w g' σ' w' ∧ Rel g' w' v x) := by
          intro n
          split at h
          · rename_i k hk
            split at h
            · exact pureCall_ok hcall h ⟨k, hk⟩ n g w _ _ hs hfr hrel'
            · exact hcall _ _ _ _ _ h n g w _ _ hs hfr hrel'
          · exact hcall _ _ _ _ _ h n g w _ _ hs hfr hrel'
        exact step_call ho hf hinv fun x w' ⟨g', h1, h2, h3⟩ => hn x w' g' h1 h2 h3
      · cases h
    · cases h
  · have hncall : ∀ c f, o.op = .call c → c.callee ≠ .value f := fun c f h1 h2 => hcv ⟨c, f, h1, h2⟩
    cases hcls : clsOf A o with
    | pure =>
      obtain ⟨rfl, hp⟩ := pure_sound hA hcls h
      obtain ⟨y, hy, hr⟩ := hp g w a hop
      exact step_value hnd (.inl hy) (hn y w g hs (Trans.refl g _ w) hr)
    | load =>
      obtain ⟨rfl, t, p, i, pv, ho, hi, hp, hl⟩ := load_sound hA hcls h
      obtain ⟨y, hy, hr⟩ := load_yields hA hs ho hi hp hl hop
      exact step_value hnd hy (hn y w g hs (Trans.refl g _ w) hr)
    | alloc =>
      obtain ⟨new, rfl, hall⟩ := alloc_sound hA hcls h
      have hf := (hs.fresh σ.next (Nat.le_refl _)).1
      obtain ⟨y, O, p, hy, hpb, hobj, hr⟩ := hall g w a hf hs.rolt hop
      have h1 := alloc_step hs hpb hobj
      exact step_value hnd (.inl hy) (hn y _ _ h1.1 h1.2 hr)
    | eff =>
      obtain ⟨x, w', g', hy, h1, h2, h3⟩ := eff_sound hA hcls hncall h hs hop
      exact step_value hnd hy (hn x w' g' h1 h2 h3)

/-! ### frames -/
/-- The temporaries that an operation looks at, its guard's too. -/
def LookRel (g : Ghost) (w : World) (ops : Array Oper) (T : Tr AVal) (a : Act) (o : Oper) : Prop :=
  ∀ d, d ∈ o.looksAt ops → ∀ v, T.get d = some v → ∃ x, a.tmps[d]? = some x ∧ Rel g w v x

theorem mem_looks_opnd {ops : Array Oper} {o : Oper} {t : Nat} (h : Operand.tmp t ∈ o.op.operands) : t ∈ o.looksAt ops := by
  unfold Oper.looksAt
  refine List.mem_append_left _ ?_
  rw [List.mem_filterMap]
  exact ⟨.tmp t, by simpa using h, rfl⟩

theorem LookRel.opnd {g : Ghost} {w : World} {ops : Array Oper} {T : Tr AVal} {a : Act} {o : Oper} (h : LookRel g w ops T a o) : OpndRel g w T a o := by
  intro x hx v hv
  cases x with
  | tmp t =>
    obtain ⟨y, hy, hr⟩ := h t (mem_looks_opnd hx) v hv
    have : a.eval (.tmp t) = y := by
      simp only [Act.eval]
      rw [Array.getD_eq_getD_getElem?, hy]
      rfl
    rw [this]; exact hr
  | const c => exact ofConst_rel hv g w
  | func f => simp only [evalO, Option.some.injEq] at hv; subst hv; simp only [Rel, RelL]; exact ⟨[], [], rfl, rfl, rfl⟩
  | global k => simp [evalO] at hv

theorem FrameRel.look {g : Ghost} {w : World} {N : Nat} {ops : Array Oper} {T : Tr AVal} {a : Act} (h : FrameRel g w N T a.tmps) (o : Oper) : LookRel g w ops T a o := fun d _ v hv => h.2 d v hv

theorem want_sound {g : Ghost} {w : World} {ops : Array Oper} {T : Tr AVal} {a : Act} {o : Oper} {b : Bool} (h : LookRel g w ops T a o) (hw : wantA ops T o = some b) : Region.wanted o (yielded ops a.tmps) = b := by
  unfold wantA at hw
  unfold Region.wanted
  split at hw
  · rename_i hg
    cases hw
    simp [hg]
  · rename_i j want hg
    simp only [hg]
    split at hw
    · cases hw
    · rename_i d hd
      have hmem : d ∈ o.looksAt ops := by
        unfold Oper.looksAt
        refine List.mem_append_right _ ?_
        simp [hg, hd]
      split at hw
      · rename_i bb hT
        cases hw
        obtain ⟨x, hx, hr⟩ := h d hmem _ hT
        simp only [Rel] at hr
        subst hr
        simp [yielded, hd, hx]
      · rename_i vs hT
        cases hw
        obtain ⟨x, hx, hr⟩ := h d hmem _ hT
        simp only [Rel] at hr
        obtain ⟨l, rfl, _⟩ := hr
        simp [yielded, hd, hx]
      · cases hw

theorem put_frame {g : Ghost} {w : World} {N : Nat} {T T' : Tr AVal} {a : Act} {d : Option Nat} {v : AVal} {x : Value} (h : FrameRel g w N T a.tmps) (hp : putA N T d v = some T') (hr : Rel g w v x) : FrameRel g w N T' (a.put d x).tmps := by
  unfold putA at hp
  split at hp
  · cases hp; exact h
  · rename_i d
    split at hp
    · rename_i hlt
      cases hp
      refine ⟨by simp [Act.put, h.1], fun i u hu => ?_⟩
      rw [Tr.get_set] at hu
      simp only [Act.put]
      by_cases e : d = i
      · subst e
        rw [if_pos rfl] at hu
        cases hu
        exact ⟨x, by rw [Array.getElem?_setIfInBounds_self_of_lt (by rw [h.1]; exact hlt)], hr⟩
      · rw [if_neg e] at hu
        obtain ⟨y, hy, hyr⟩ := h.2 i u hu
        exact ⟨y, by rw [Array.getElem?_setIfInBounds_ne e]; exact hy, hyr⟩
    · cases hp

@[simp] theorem put_defers (a : Act) (d : Option Nat) (x : Value) : (a.put d x).defers = a.defers := by cases d <;> rfl

/-! ### a region in the order of the text -/
theorem runOps_sound (hA : AOk P A) {call : CallA} (hcall : CallOk A P call) {caller N : Nat} {ops : Array Oper} {ro : Option Nat} {n : Nat} {Q : Exit → Act → World → Prop} :
    ∀ (rest : List Oper) (i : Nat) (T T' : Tr AVal) (σ σ' : AMem) (g : Ghost) (w : World) (a : Act), (∀ j, rest[j]? = ops[i + j]?) → runOps A call caller N ops rest T σ = some (T', σ') → Sim A g σ w → FrameRel g w N T a.tmps →
      (∀ a' w' g', Sim A g' σ' w' → Trans g σ w g' σ' w' → FrameRel g' w' N T' a'.tmps → a'.defers = a.defers → Q .normal a' w') → wpOpsIn (FW ro) n P ops Q (List.range' i rest.length) a w := by
  intro rest
  induction rest with
  | nil =>
    intro i T T' σ σ' g w a hr h hs hf hQ
    simp [runOps] at h
    obtain ⟨rfl, rfl⟩ := h
    simp only [List.length_nil, List.range'_zero, wpOpsIn]
    exact hQ a w g hs (Trans.refl g _ w) hf rfl
  | cons o rest ih =>
    intro i T T' σ σ' g w a hr h hs hf hQ
    have ho : ops[i]? = some o := by simpa using (hr 0).symm
    have hr' : ∀ j, rest[j]? = ops[i + 1 + j]? := fun j => by
      have := hr (j + 1)
      simp only [List.getElem?_cons_succ] at this
      rw [this]; congr 1; omega
    simp only [List.length_cons, List.range'_succ, wpOpsIn, ho]
    simp only [runOps] at h
    split at h
    · rename_i T1 σ1 hst
      unfold step1 at hst
      have hlook := hf.look (ops := ops) o
      split at hst
      · rename_i hw
        rw [want_sound hlook hw]
        simp only [if_true]
        split at hst
        · rename_i v σ2 hop
          obtain ⟨T2, h1, h2⟩ := map_some hst
          cases h2
          refine op_sound hA hcall hop hs hlook.opnd fun x w' g' hs' ht hrel => ?_
          refine ih (i + 1) T1 T' σ1 σ' g' w' _ hr' h hs' (put_frame (ht.frameRel hs hf) h1 hrel) fun a' w'' g'' h3 h4 h5 h6 => ?_
          exact hQ a' w'' g'' h3 (ht.trans h4) h5 (by rw [h6, put_defers])
        · cases hst
      · rename_i hw
        rw [want_sound hlook hw]
        simp only [Bool.false_eq_true, if_false]
        obtain ⟨T2, h1, h2⟩ := map_some hst
        cases h2
        refine ⟨fun f _ => trivial, ?_⟩
        refine ih (i + 1) T1 T' σ σ' g w _ hr' h hs (put_frame hf h1 (undef_rel g w)) fun a' w'' g'' h3 h4 h5 h6 => ?_
        exact hQ a' w'' g'' h3 h4 h5 (by rw [h6, put_defers])
      · cases hst
    · cases h

theorem region_sound (hA : AOk P A) {call : CallA} (hcall : CallOk A P call) {caller N id : Nat} {ops : Array Oper} {ro : Option Nat} {n : Nat} {Q : Exit → Act → World → Prop} {T T' : Tr AVal} {σ σ' : AMem} {g : Ghost} {w : World} {a : Act}
    (h : runOps A call caller N ops ops.toList T σ = some (T', σ')) (hs : Sim A g σ w) (hf : FrameRel g w N T a.tmps)
    (hQ : ∀ a' w' g', Sim A g' σ' w' → Trans g σ w g' σ' w' → FrameRel g' w' N T' a'.tmps → a'.defers = a.defers → Q .normal a' w') : (Code.region id ops false).wpIn (FW ro) n P Q a w := by
  refine wpIn_region ?_
  have := runOps_sound (ro := ro) (n := n) (Q := Q) hA hcall ops.toList 0 T T' σ σ' g w a (by simp) h hs hf hQ
  rw [List.range_eq_range', ← Array.length_toList]
  exact this

end Go.Proofs.YtnjdhcfonobpkaaGreat.Pale
