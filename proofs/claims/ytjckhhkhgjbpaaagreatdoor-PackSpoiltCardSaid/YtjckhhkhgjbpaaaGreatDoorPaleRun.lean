/- The abstract machine against the model: operations as steps, regions in the order of the text. -/
import Derived.Test.YtjckhhkhgjbpaaaGreatDoorPaleVal
set_option linter.unusedVariables false
set_option linter.unusedSimpArgs false
namespace Go.Proofs.YtjckhhkhgjbpaaaGreatDoor.Pale
open Go

variable {A : AProg} {P : Program}

theorem run_call_func {o : Oper} {c : Call} {f : Operand} {a : Act} {w : World} {k : FuncId} {first cap : Array Value} (ho : o.op = .call c) (hf : c.callee = .value f) (hv : a.eval f = .func (.func k) first cap) (he : ∀ as w, (callFunc k as).run P w = .ok (.enter k as) w) :
    (execOp a.eval o).run P w = .ok (.enter k (first ++ c.args.map a.eval ++ cap)) w := by
  simp [execOp, ho, resolve, hf, hv, Deferred.ofValue, invoke, he, Result.andThen]
theorem run_call_yield {o : Oper} {c : Call} {f : Operand} {a : Act} {w : World} {l : Nat} {x : Next} (ho : o.op = .call c) (hf : c.callee = .value f) (hv : a.eval f = .func (.yield l) #[] #[]) (he : (Instr.yield l (c.args.map a.eval)).run P w = .ok x w) :
    (execOp a.eval o).run P w = .ok x w := by
  have e1 : (resolve a.eval c o.type).run P w = .ok { target := .fn (.yield l) #[], args := #[] ++ c.args.map a.eval } w := by
    simp [resolve, hf, hv, Deferred.ofValue]
  simp only [execOp, ho, Sem.run_bind, e1, Result.andThen, invoke]
  simpa using he

theorem wide_room (ro : Option Nat) (n : Nat) : ((FW ro).depth.isSome = true → 1 ≤ n) := fun h => by simp [FW, Fence.wide] at h

/-- An operation that yields a value, as a step of the walk. -/
theorem step_value {o : Oper} {a : Act} {w w' : World} {x : Value} {ro : Option Nat} {n : Nat} {next : Act → World → Prop} {Q : Exit → Act → World → Prop} (hd : ∀ c, o.op ≠ .defer c) (hy : Yields P o a w x w') (hn : next (a.put o.dst x) w') : o.wpIn (FW ro) n P a w next Q := by
  refine ⟨fun f _ => trivial, ?_⟩
  rw [Oper.semAt_eq _ _ _ hd]
  rcases hy with h | ⟨h, rfl⟩
  · rw [h]; exact hn
  · rw [h]; exact hn

theorem step_call {o : Oper} {c : Call} {f : Operand} {a : Act} {w : World} {R : Value → World → Prop} {ro : Option Nat} {n : Nat} {next : Act → World → Prop} {Q : Exit → Act → World → Prop} (ho : o.op = .call c) (hf : c.callee = .value f)
    (hi : ∀ n, Invoked n P (a.eval f) (c.args.map a.eval) w R) (hn : ∀ x w', R x w' → next (a.put o.dst x) w') : o.wpIn (FW ro) n P a w next Q := by
  refine ⟨fun f _ => trivial, ?_⟩
  rw [Oper.semAt_eq _ _ _ (by intro c' h; rw [ho] at h; cases h)]
  rcases hi (n - 1) with ⟨k, first, cap, hv, he, hc⟩ | ⟨l, fn, tmps, assign, body, hv, hy, hr⟩
  · rw [run_call_func ho hf hv he]
    rw [Oper.uponIn_enter]
    refine ⟨wide_room ro n, CallsIn.mono (F := FW ro) (R := fun e w' => ∃ x, e = .returned x ∧ R x w') hc ?_⟩
    rintro e w' ⟨x, rfl, hx⟩
    exact hn x w' hx
  · rw [run_call_yield ho hf hv hy]
    rw [Oper.uponIn_round]
    refine ⟨wide_room ro n, RoundIn.mono (F := FW ro) (R := fun e w' => ∃ x, e = .returned x ∧ R x w') hr ?_⟩
    rintro e w' ⟨x, rfl, hx⟩
    exact hn x w' hx

/-- A cut of a slice of memory, up to where the row reaches. -/
theorem sliceM_sound {g : Ghost} {σ : AMem} {w : World} {t e : Nat} {ei : TyI} {r off len : Nat} {cap : Option Nat} {x : Value} {lo hi mx : Option AVal} {lo' hi' mx' : Option Value} {v : AVal} (hs : Sim A g σ w) (ht : P.underlying t = some (.slice e)) (he : tyOf P e = some ei)
    (hx : Rel g w (.slice r off len cap ei.size) x) (h1 : BoundRel g w lo lo') (h2 : BoundRel g w hi hi') (h3 : BoundRel g w mx mx') (hmx : mx.isSome = true → hi.isSome = true) (h : sliceM σ ei.size r off len cap ei.size lo hi mx = some v) :
    ∃ y, (Instr.sliceAt t x lo' hi' mx').run P w = .ok y w ∧ Rel g w v y := by
  unfold sliceM at h
  split at h
  · simp only [Rel] at hx
    obtain ⟨a, c, rfl, hle, hcap, hd⟩ := hx
    replace hd : g.st r = .dead ∨ ∃ p, g.st r = .live p ∧ p.sz = ei.size ∧ off + c * ei.size ≤ p.room ∧ (c ≠ 0 → a = ⟨p.block, p.off + off, none⟩) ∧ ((none : Option Nat) = none → off + c * ei.size = p.room) :=
      hd.imp id fun ⟨p, k1, k2, k3, k4, k5⟩ => ⟨p, k1, k2, k3, k4, fun _ => k5 trivial⟩
    have hlim : limA σ r off len ei.size ≤ c := by
      unfold limA
      split
      · rename_i sz b cells hget
        rcases hd with hd | ⟨p, hp, hpz, hroom, ha, hnone⟩
        · rw [hs.dead _ hd] at hget; cases hget
        · obtain ⟨o, ho, hor⟩ := hs.obj _ _ hp
          rw [hget] at ho
          cases ho
          have h4 := hor.2.1
          have h5 := hnone rfl
          refine Nat.max_le.2 ⟨hle, Nat.div_le_of_le_mul ?_⟩
          rw [Nat.mul_comm]
          omega
      · exact hle
    have hlen : len ≤ limA σ r off len ei.size := by
      unfold limA
      split
      · exact Nat.le_max_left _ _
      · exact Nat.le_refl _
    split at h
    · cases h
    · rename_i hh hhe
      split at h
      · cases h
      · rename_i l hl
        cases h
        have e3 := boundA_le hl (Nat.zero_le _)
        have e2 := boundA_le hhe hlen
        exact cut_key (P := P) (cap := none) ht he hle hd h1 h2 h3 hmx l hh c _ (by simp [boundA]) (boundA_mono hhe hlim) hl e3 (by omega) (Nat.le_refl _) (fun k hk => by cases hk) (fun _ => ⟨rfl, rfl⟩)
  · exact sliceA_slice_sound (P := P) ht he hx h1 h2 h3 hmx h

theorem limA_push {σ : AMem} {new : AObj} {r off len size : Nat} (hf : σ.get σ.next = none) : limA σ r off len size ≤ limA (σ.push new) r off len size := by
  unfold limA
  rw [AMem.get_push]
  split
  · rename_i sz b cells hget
    rw [if_neg (fun e => by rw [← e, hf] at hget; cases hget), hget]
    exact Nat.le_refl _
  · split
    · exact Nat.le_max_left _ _
    · exact Nat.le_refl _

theorem sliceM_push {σ : AMem} {new : AObj} {size r off len : Nat} {cap : Option Nat} {z : Nat} {lo hi mx : Option AVal} {v : AVal} (hf : σ.get σ.next = none) (h : sliceM σ size r off len cap z lo hi mx = some v) : sliceM (σ.push new) size r off len cap z lo hi mx = some v := by
  unfold sliceM at h ⊢
  split at h
  · split at h
    · cases h
    · rename_i hh hhe
      rw [boundA_mono hhe (limA_push hf)]
      exact h
  · exact h

/-- What an operation that reads gives, in whatever memory. -/
theorem read_sound (hA : AOk P A) {call : CallA} {caller : Nat} {o : Oper} {T : Tr AVal} {σ σ' : AMem} {v : AVal} (hc : clsOf A o = .load) (h : opSem A call caller o T σ = some (v, σ')) : σ' = σ ∧
    ∀ (g : Ghost) (w : World) (a : Act), Sim A g σ w → OpndRel A g w T a o → ∃ x, Yields P o a w x w ∧ Rel g w v x := by
  cases ho : o.op
  case load t p =>
    unfold opSem at h
    simp only [ho] at h
    split at h
    · rename_i i pv hi hp
      obtain ⟨h1, h2⟩ := snd_of_map h
      refine ⟨h2, fun g w a hs hop => ?_⟩
      obtain ⟨y, hy, hr⟩ := loadA_sound (P := P) hs (hA.ty _ _ hi) h1 (hop p (by simp [ho, Op.operands]) _ hp)
      exact ⟨y, .inl (exec_v (s := Instr.loadAt t (a.eval p)) (by simp [execOp, ho]) hy), hr⟩
    · cases h
  case slice t x lo hi mx =>
    unfold opSem at h
    unfold clsOf at hc
    simp only [ho] at h hc
    split at h
    · rename_i i u l hh m hi' hu hl hhi hmx
      have hb : ∀ (g : Ghost) (w : World) (a : Act), OpndRel A g w T a o → BoundRel g w l (lo.map a.eval) ∧ BoundRel g w hh (hi.map a.eval) ∧ BoundRel g w m (mx.map a.eval) ∧ Rel g w u (a.eval x) := by
        intro g w a hop
        refine ⟨evalOpt_rel (fun y hy => hop y ?_) hl, evalOpt_rel (fun y hy => hop y ?_) hhi, evalOpt_rel (fun y hy => hop y ?_) hmx, hop x ?_ _ hu⟩
        all_goals (try subst hy)
        all_goals simp [ho, Op.operands]
      have hmm : m.isNone = true ∨ hh.isSome = true → (m.isSome = true → hh.isSome = true) := by
        intro h hs
        rcases h with h | h
        · cases m <;> simp at h hs
        · exact h
      split at h
      · rename_i hk
        simp only [hi', hk] at hc
        cases hc
      · rename_i e hk
        obtain ⟨d, hd, hdk⟩ := ty_under (hA.ty _ _ hi')
        rw [hk] at hdk
        have e1 := kind_slice hdk
        subst e1
        split at h
        · rename_i ei kk es he
          split at h
          · rename_i hcond
            simp only [Bool.and_eq_true, List.all_eq_true, beq_iff_eq, Bool.or_eq_true] at hcond
            obtain ⟨h1, h2⟩ := snd_of_map h
            refine ⟨h2, fun g w a hs hop => ?_⟩
            obtain ⟨b1, b2, b3, b4⟩ := hb g w a hop
            obtain ⟨y, hy, hr⟩ := sliceA_vs_sound (P := P) (ti := i) hd (hA.ty _ _ he) hcond.1 b4 b1 b2 b3 (hmm hcond.2) h1
            exact ⟨y, .inl (exec_v (by simp [execOp, ho]) hy), hr⟩
          · cases h
        · rename_i ei r off len cap z he
          split at h
          · rename_i hcond
            simp only [Bool.and_eq_true, beq_iff_eq, Bool.or_eq_true] at hcond
            obtain ⟨hz, hcond⟩ := hcond
            subst hz
            obtain ⟨h1, h2⟩ := snd_of_map h
            refine ⟨h2, fun g w a hs hop => ?_⟩
            obtain ⟨b1, b2, b3, b4⟩ := hb g w a hop
            obtain ⟨y, hy, hr⟩ := sliceM_sound (P := P) hs hd (hA.ty _ _ he) b4 b1 b2 b3 (hmm hcond) h1
            exact ⟨y, .inl (exec_v (by simp [execOp, ho]) hy), hr⟩
          · cases h
        · cases h
      · cases h
    · cases h
  case convert s d x =>
    obtain ⟨_, _, _, _, _, _, _, h1, h2⟩ := convS_sound hA ho hc h
    exact ⟨h1, h2⟩
  case call c =>
    exfalso
    unfold clsOf at hc
    simp only [ho] at hc
    split at hc <;> cases hc
  all_goals
    exfalso
    unfold clsOf at hc
    simp only [ho] at hc
    cases hc

/-- What reads gives the same behind a new object. -/
theorem read_push (hA : AOk P A) {call : CallA} {caller : Nat} {o : Oper} {T : Tr AVal} {σ : AMem} {v : AVal} {new : AObj} (hc : clsOf A o = .load) (hf : σ.get σ.next = none) (h : opSem A call caller o T σ = some (v, σ)) : opSem A call caller o T (σ.push new) = some (v, σ.push new) := by
  have hkeep : ∀ r o', σ.get r = some o' → (σ.push new).get r = some o' := fun r o' hr => by
    rw [AMem.get_push, if_neg (fun e => by rw [← e, hf] at hr; cases hr)]; exact hr
  cases ho : o.op
  case load t p =>
    unfold opSem at h ⊢
    simp only [ho] at h ⊢
    split at h
    · rename_i i pv hi hp
      obtain ⟨h1, _⟩ := snd_of_map h
      have : loadA i (σ.push new) pv = some v := by
        unfold loadA at h1 ⊢
        split at h1
        · rename_i r off
          have e1 : (σ.push new).get r = σ.get r := by
            rw [AMem.get_push, if_neg]
            intro e
            rw [← e, hf] at h1
            cases h1
          simp only [e1]
          exact h1
        · exact h1
        · cases h1
      rw [this]; rfl
    · cases h
  case slice t x lo hi mx =>
    unfold opSem at h ⊢
    simp only [ho] at h ⊢
    split at h
    · rename_i i u l hh m hi' hu hl hhi hmx
      split at h
      · rename_i hk
        split at h
        · obtain ⟨h1, _⟩ := snd_of_map h
          rw [h1]; rfl
        · cases h
      · rename_i e hk
        split at h
        · rename_i ei kk es he
          split at h
          · rename_i hcond
            obtain ⟨h1, _⟩ := snd_of_map h
            simp only [he, hcond, if_true, h1]; rfl
          · cases h
        · rename_i ei r off len cap z he
          split at h
          · rename_i hcond
            obtain ⟨h1, _⟩ := snd_of_map h
            simp only [he, hcond, if_true, sliceM_push hf h1]; rfl
          · cases h
        · cases h
      · cases h
    · cases h
  case convert s d x =>
    obtain ⟨si, di, u, hsi, hdi, hu, hcv, _, _⟩ := convS_sound hA ho hc h
    unfold opSem
    simp only [ho, hsi, hdi, hu]
    unfold convA at hcv ⊢
    split at hcv
    · rename_i k hk
      split at hcv
      · rename_i k1 k2 n hk1
        cases hcv; rfl
      · cases hcv
    · rename_i hk
      split at hcv
      · rename_i hk1
        split at hcv
        · cases hcv; rfl
        · cases hcv
      · rename_i e0 hk1
        split at hcv
        · rename_i ei hel
          split at hcv
          · rename_i hek
            split at hcv
            · cases hcv
            · rename_i hns
              split at hcv
              · rename_i xs n hsrc
                obtain ⟨l, h1, h2⟩ := map_some hcv
                cases h2
                have e1 : sourceA 1 (σ.push new) u = some (xs, n) := by
                  unfold sourceA at hsrc ⊢
                  split at hsrc
                  · exact hsrc
                  · rename_i r off len c z
                    have e1 : (σ.push new).get r = σ.get r := by
                      rw [AMem.get_push, if_neg]
                      intro e
                      rw [← e, hf] at hsrc
                      cases hsrc
                    simp only [e1]
                    exact hsrc
                  · exact hsrc
                  · cases hsrc
                simp only [e1, h1, Option.map_some]
              · cases hcv
          · cases hcv
        · cases hcv
      · cases hcv
    · cases hcv
  case call c =>
    exfalso
    unfold clsOf at hc
    simp only [ho] at hc
    split at hc <;> cases hc
  all_goals
    exfalso
    unfold clsOf at hc
    simp only [ho] at hc
    cases hc

theorem not_defer {call : CallA} {caller : Nat} {o : Oper} {T : Tr AVal} {σ : AMem} {r : AVal × AMem} (h : opSem A call caller o T σ = some r) : ∀ c, o.op ≠ .defer c := by
  intro c ho
  unfold opSem at h
  simp [ho] at h

/-- What one operation gives, in both. -/
theorem op_sound (hA : AOk P A) {call : CallA} (hcall : CallOk A P call) {caller : Nat} {o : Oper} {T : Tr AVal} {σ σ' : AMem} {v : AVal} (h : opSem A call caller o T σ = some (v, σ'))
    {g : Ghost} {w : World} {a : Act} (hs : Sim A g σ w) (hop : OpndRel A g w T a o) {ro : Option Nat} {n : Nat} {next : Act → World → Prop} {Q : Exit → Act → World → Prop}
    (hn : ∀ x w' g', Sim A g' σ' w' → Trans g σ w g' σ' w' → Rel g' w' v x → next (a.put o.dst x) w') : o.wpIn (FW ro) n P a w next Q := by
  have hnd := not_defer h
  by_cases hcv : ∃ c f, o.op = .call c ∧ c.callee = .value f
  · obtain ⟨c, f, ho, hf⟩ := hcv
    unfold opSem at h
    simp only [ho] at h
    split at h
    · rename_i args hargs
      simp only [hf] at h
      have hfop : f ∈ o.op.operands := by simp [ho, Op.operands, Call.operands, hf]
      have hrel : RelL g w args (c.args.toList.map a.eval) :=
        evalL_rel c.args.toList args (fun x hx => hop x (by
          simp only [ho, Op.operands, Call.operands]
          simp only [Array.mem_append]
          exact .inr (by simpa using hx))) hargs
      have hrel' : RelL g w args (c.args.map a.eval).toList := by simpa using hrel
      split at h
      · rename_i fv hfv
        have hfr := hop f hfop fv hfv
        have hinv : ∀ n, Invoked n P (a.eval f) (c.args.map a.eval) w (fun x w' => ∃ g', Sim A g' σ' w' ∧ Trans g σ w g' σ' w' ∧ Rel g' w' v x) := by
          intro n
          split at h
          · rename_i k hk
            split at h
            · exact pureCall_ok hA hcall h ⟨k, hk⟩ n g w _ _ hs hfr hrel'
            · exact hcall _ _ _ _ _ h n g w _ _ hs hfr hrel'
          · exact hcall _ _ _ _ _ h n g w _ _ hs hfr hrel'
        exact step_call ho hf hinv fun x w' ⟨g', h1, h2, h3⟩ => hn x w' g' h1 h2 h3
      · cases h
    · cases h
  · have hncall : ∀ c f, o.op = .call c → c.callee ≠ .value f := fun c f h1 h2 => hcv ⟨c, f, h1, h2⟩
    cases hcls : clsOf A o with
    | pure =>
      obtain ⟨rfl, hp⟩ := pure_sound hA hcls h
      obtain ⟨y, hy, hr⟩ := hp g w a hop
      exact step_value hnd (.inl hy) (hn y w g hs (Trans.refl g _ w) hr)
    | load =>
      obtain ⟨rfl, hread⟩ := read_sound hA hcls h
      obtain ⟨y, hy, hr⟩ := hread g w a hs hop
      exact step_value hnd hy (hn y w g hs (Trans.refl g _ w) hr)
    | alloc =>
      obtain ⟨new, rfl, hall⟩ := alloc_sound hA hcls h
      have hf := (hs.fresh σ.next (Nat.le_refl _)).1
      obtain ⟨y, O, p, hy, hpb, hobj, hr⟩ := hall g w a hf hs.rolt hop
      have h1 := alloc_step hs hpb hobj
      exact step_value hnd (.inl hy) (hn y _ _ h1.1 h1.2 hr)
    | eff =>
      obtain ⟨x, w', g', hy, h1, h2, h3⟩ := eff_sound hA hcls hncall h hs hop
      exact step_value hnd hy (hn x w' g' h1 h2 h3)

/-! ### frames -/
/-- The temporaries that an operation looks at, its guard's too. -/
def LookRel (g : Ghost) (w : World) (ops : Array Oper) (T : Tr AVal) (a : Act) (o : Oper) : Prop :=
  ∀ d, d ∈ o.looksAt ops → ∀ v, T.get d = some v → ∃ x, a.tmps[d]? = some x ∧ Rel g w v x

theorem mem_looks_opnd {ops : Array Oper} {o : Oper} {t : Nat} (h : Operand.tmp t ∈ o.op.operands) : t ∈ o.looksAt ops := by
  unfold Oper.looksAt
  refine List.mem_append_left _ ?_
  rw [List.mem_filterMap]
  exact ⟨.tmp t, by simpa using h, rfl⟩

theorem LookRel.opnd {g : Ghost} {σ : AMem} {w : World} (hs : Sim A g σ w) {ops : Array Oper} {T : Tr AVal} {a : Act} {o : Oper} (h : LookRel g w ops T a o) : OpndRel A g w T a o := by
  intro x hx v hv
  cases x with
  | tmp t =>
    obtain ⟨y, hy, hr⟩ := h t (mem_looks_opnd hx) v hv
    have : a.eval (.tmp t) = y := by
      simp only [Act.eval]
      rw [Array.getD_eq_getD_getElem?, hy]
      rfl
    rw [this]; exact hr
  | const c => exact ofConst_rel hv g w
  | func f => simp only [evalO, Option.some.injEq] at hv; subst hv; simp only [Rel, RelL]; exact ⟨[], [], rfl, rfl, rfl⟩
  | global k =>
    simp only [evalO] at hv
    split at hv
    · rename_i cs hcs
      cases hv
      simp only [Rel, PRel]
      exact ⟨k, 0, rfl, hs.glob k cs hcs⟩
    · cases hv

theorem FrameRel.look {g : Ghost} {w : World} {N : Nat} {ops : Array Oper} {T : Tr AVal} {a : Act} (h : FrameRel g w N T a.tmps) (o : Oper) : LookRel g w ops T a o := fun d _ v hv => h.2 d v hv

theorem want_sound {g : Ghost} {w : World} {ops : Array Oper} {T : Tr AVal} {a : Act} {o : Oper} {b : Bool} (h : LookRel g w ops T a o) (hw : wantA ops T o = some b) : Region.wanted o (yielded ops a.tmps) = b := by
  unfold wantA at hw
  unfold Region.wanted
  split at hw
  · rename_i hg
    cases hw
    simp [hg]
  · rename_i j want hg
    simp only [hg]
    split at hw
    · cases hw
    · rename_i d hd
      have hmem : d ∈ o.looksAt ops := by
        unfold Oper.looksAt
        refine List.mem_append_right _ ?_
        simp [hg, hd]
      split at hw
      · rename_i bb hT
        cases hw
        obtain ⟨x, hx, hr⟩ := h d hmem _ hT
        simp only [Rel] at hr
        subst hr
        simp [yielded, hd, hx]
      · rename_i vs hT
        cases hw
        obtain ⟨x, hx, hr⟩ := h d hmem _ hT
        simp only [Rel] at hr
        obtain ⟨l, rfl, _⟩ := hr
        simp [yielded, hd, hx]
      · cases hw

theorem put_frame {g : Ghost} {w : World} {N : Nat} {T T' : Tr AVal} {a : Act} {d : Option Nat} {v : AVal} {x : Value} (h : FrameRel g w N T a.tmps) (hp : putA N T d v = some T') (hr : Rel g w v x) : FrameRel g w N T' (a.put d x).tmps := by
  unfold putA at hp
  split at hp
  · cases hp; exact h
  · rename_i d
    split at hp
    · rename_i hlt
      cases hp
      refine ⟨by simp [Act.put, h.1], fun i u hu => ?_⟩
      rw [Tr.get_set] at hu
      simp only [Act.put]
      by_cases e : d = i
      · subst e
        rw [if_pos rfl] at hu
        cases hu
        exact ⟨x, by rw [Array.getElem?_setIfInBounds_self_of_lt (by rw [h.1]; exact hlt)], hr⟩
      · rw [if_neg e] at hu
        obtain ⟨y, hy, hyr⟩ := h.2 i u hu
        exact ⟨y, by rw [Array.getElem?_setIfInBounds_ne e]; exact hy, hyr⟩
    · cases hp

@[simp] theorem put_defers (a : Act) (d : Option Nat) (x : Value) : (a.put d x).defers = a.defers := by cases d <;> rfl

/-! ### a region in the order of the text -/
theorem runOps_sound (hA : AOk P A) {call : CallA} (hcall : CallOk A P call) {caller N : Nat} {ops : Array Oper} {ro : Option Nat} {n : Nat} {Q : Exit → Act → World → Prop} :
    ∀ (rest : List Oper) (i : Nat) (T T' : Tr AVal) (σ σ' : AMem) (g : Ghost) (w : World) (a : Act), (∀ j, rest[j]? = ops[i + j]?) → runOps A call caller N ops rest T σ = some (T', σ') → Sim A g σ w → FrameRel g w N T a.tmps →
      (∀ a' w' g', Sim A g' σ' w' → Trans g σ w g' σ' w' → FrameRel g' w' N T' a'.tmps → a'.defers = a.defers → Q .normal a' w') → wpOpsIn (FW ro) n P ops Q (List.range' i rest.length) a w := by
  intro rest
  induction rest with
  | nil =>
    intro i T T' σ σ' g w a hr h hs hf hQ
    simp [runOps] at h
    obtain ⟨rfl, rfl⟩ := h
    simp only [List.length_nil, List.range'_zero, wpOpsIn]
    exact hQ a w g hs (Trans.refl g _ w) hf rfl
  | cons o rest ih =>
    intro i T T' σ σ' g w a hr h hs hf hQ
    have ho : ops[i]? = some o := by simpa using (hr 0).symm
    have hr' : ∀ j, rest[j]? = ops[i + 1 + j]? := fun j => by
      have := hr (j + 1)
      simp only [List.getElem?_cons_succ] at this
      rw [this]; congr 1; omega
    simp only [List.length_cons, List.range'_succ, wpOpsIn, ho]
    simp only [runOps] at h
    split at h
    · rename_i T1 σ1 hst
      unfold step1 at hst
      have hlook := hf.look (ops := ops) o
      split at hst
      · rename_i hw
        rw [want_sound hlook hw]
        simp only [if_true]
        split at hst
        · rename_i v σ2 hop
          obtain ⟨T2, h1, h2⟩ := map_some hst
          cases h2
          refine op_sound hA hcall hop hs (hlook.opnd hs) fun x w' g' hs' ht hrel => ?_
          refine ih (i + 1) T1 T' σ1 σ' g' w' _ hr' h hs' (put_frame (ht.frameRel hs hf) h1 hrel) fun a' w'' g'' h3 h4 h5 h6 => ?_
          exact hQ a' w'' g'' h3 (ht.trans h4) h5 (by rw [h6, put_defers])
        · cases hst
      · rename_i hw
        rw [want_sound hlook hw]
        simp only [Bool.false_eq_true, if_false]
        obtain ⟨T2, h1, h2⟩ := map_some hst
        cases h2
        refine ⟨fun f _ => trivial, ?_⟩
        refine ih (i + 1) T1 T' σ σ' g w _ hr' h hs (put_frame hf h1 (undef_rel g w)) fun a' w'' g'' h3 h4 h5 h6 => ?_
        exact hQ a' w'' g'' h3 h4 h5 (by rw [h6, put_defers])
      · cases hst
    · cases h

theorem region_sound (hA : AOk P A) {call : CallA} (hcall : CallOk A P call) {caller N id : Nat} {ops : Array Oper} {ro : Option Nat} {n : Nat} {Q : Exit → Act → World → Prop} {T T' : Tr AVal} {σ σ' : AMem} {g : Ghost} {w : World} {a : Act}
    (h : runOps A call caller N ops ops.toList T σ = some (T', σ')) (hs : Sim A g σ w) (hf : FrameRel g w N T a.tmps)
    (hQ : ∀ a' w' g', Sim A g' σ' w' → Trans g σ w g' σ' w' → FrameRel g' w' N T' a'.tmps → a'.defers = a.defers → Q .normal a' w') : (Code.region id ops false).wpIn (FW ro) n P Q a w := by
  refine wpIn_region ?_
  have := runOps_sound (ro := ro) (n := n) (Q := Q) hA hcall ops.toList 0 T T' σ σ' g w a (by simp) h hs hf hQ
  rw [List.range_eq_range', ← Array.length_toList]
  exact this

end Go.Proofs.YtjckhhkhgjbpaaaGreatDoor.Pale
