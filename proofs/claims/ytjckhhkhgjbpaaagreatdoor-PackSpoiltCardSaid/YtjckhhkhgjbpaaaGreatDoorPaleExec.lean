/- The abstract machine against the model: code. -/
import Derived.Test.YtjckhhkhgjbpaaaGreatDoorPaleDraw
import Derived.LoopNIn
import Derived.RangeFuncNested
set_option linter.unusedVariables false
set_option linter.unusedSimpArgs false
namespace Go.Proofs.YtjckhhkhgjbpaaaGreatDoor.Pale
open Go

variable {A : AProg} {P : Program}

def exitOf : AExit → Exit
  | .normal => .normal
  | .exit id => .exit id
  | .ret => .ret

/-- In a round, the loop's record is there. -/
def RoOk (ro : Option Nat) (w : World) : Prop := ∀ l, ro = some l → ∃ r, w.heap[l]? = some (.loop r)

theorem RoOk.trans {ro : Option Nat} {g g' : Ghost} {σ σ' : AMem} {w w' : World} (h : RoOk ro w) (ht : Trans g σ w g' σ' w') : RoOk ro w' := fun l hl => by
  obtain ⟨r, hr⟩ := h l hl
  exact ht.loops l r hr

/-- A block of the model's own. -/
def Free (g : Ghost) (D : Nat) : Prop := (∀ r p, g.st r = .live p → p.block ≠ D) ∧ ¬ g.ro D

/-- The marks that the loops of an activation have left: each one's block is there, and empty. -/
def DefOk (B : Nat) (g : Ghost) (w : World) : List Deferred → Prop
  | [] => True
  | d :: ds => (∃ D, d.target = .collected D ∧ B ≤ D ∧ w.heap[D]? = some (.deferred (some [])) ∧ Free g D ∧ ∀ d' ∈ ds, d'.target ≠ .collected D) ∧ DefOk B g w ds

theorem Free.trans {g g' : Ghost} {σ σ' : AMem} {w w' : World} {D : Nat} (h : Free g D) (hlt : D < w.heap.size) (ht : Trans g σ w g' σ' w') : Free g' D := by
  refine ⟨fun r p hr e => ?_, fun hro => ?_⟩
  · rcases ht.new r p hr with h1 | h1 | ⟨s, q, hs, hq⟩
    · exact h.1 r p h1 e
    · omega
    · exact h.1 s q hs (hq.trans e)
  · rcases ht.ronew D hro with h1 | h1 | ⟨s, q, hs, hq⟩
    · exact h.2 h1
    · omega
    · exact h.1 s q hs hq

theorem DefOk.trans {B : Nat} {g g' : Ghost} {σ σ' : AMem} {w w' : World} (ht : Trans g σ w g' σ' w') : ∀ (ds : List Deferred), DefOk B g w ds → DefOk B g' w' ds := by
  intro ds
  induction ds with
  | nil => intro _; trivial
  | cons d ds ih =>
    rintro ⟨⟨D, h1, h2, h3, h4, h5⟩, hr⟩
    have hlt := (Array.getElem?_eq_some_iff.1 h3).1
    exact ⟨⟨D, h1, h2, by rw [ht.frame D hlt h4.1]; exact h3, h4.trans hlt ht, h5⟩, ih hr⟩

theorem DefOk.lt {B : Nat} {g : Ghost} {w : World} : ∀ (ds : List Deferred), DefOk B g w ds → ∀ d' ∈ ds, ∀ D, d'.target = .collected D → D < w.heap.size := by
  intro ds
  induction ds with
  | nil => intro _ d' h; cases h
  | cons d ds ih =>
    rintro ⟨⟨D, h1, h2, h3, h4, h5⟩, hr⟩ d' hd' D' hD'
    rcases List.mem_cons.1 hd' with rfl | hd'
    · rw [h1] at hD'; cases hD'; exact (Array.getElem?_eq_some_iff.1 h3).1
    · exact ih hr d' hd' D' hD'

/-- The model lays a block of its own. -/
theorem foreign_alloc {g : Ghost} {σ : AMem} {w : World} (hs : Sim A g σ w) (O : Obj) : Sim A g σ (w.alloc O) ∧ Trans g σ w g σ (w.alloc O) := by
  have hst : Stays w (w.alloc O) g.ro g.ro := ⟨fun b hb => hb, fun b hb => heap_alloc_lt w O (hs.rolt b hb)⟩
  refine ⟨⟨fun r p hr => let ⟨o, h1, h2⟩ := hs.obj r p hr; ⟨o, h1, h2.mono (heap_alloc_lt w O h2.block_lt) (GLe.refl g) hst⟩, hs.inj, hs.ro, fun b hb => ?_, hs.fresh, hs.dead, fun k cs h => PAtL.mono hst _ _ _ (hs.glob k cs h)⟩, ?_⟩
  · have := hs.rolt b hb; simp; omega
  · exact { Trans.refl g σ w with
      size := by simp
      frame := fun b hb _ => heap_alloc_lt w O hb
      loops := fun b r hb => ⟨r, by rw [heap_alloc_lt w O (Array.getElem?_eq_some_iff.1 hb).1]; exact hb⟩ }

/-- A block of the model's own turns. -/
theorem foreign_put {g : Ghost} {σ : AMem} {w : World} (hs : Sim A g σ w) {D : Nat} (O : Obj) (hf : Free g D) : Sim A g σ (w.putObj D O) := by
  have hst : Stays w (w.putObj D O) g.ro g.ro := ⟨fun b hb => hb, fun b hb => World.putObj_heap_other (fun e => hf.2 (e ▸ hb))⟩
  exact ⟨fun r p hr => let ⟨o, h1, h2⟩ := hs.obj r p hr; ⟨o, h1, h2.mono (World.putObj_heap_other (hf.1 r p hr)) (GLe.refl g) hst⟩, hs.inj, hs.ro, fun b hb => by simpa using hs.rolt b hb, hs.fresh, hs.dead, fun k cs h => PAtL.mono hst _ _ _ (hs.glob k cs h)⟩

theorem run_rangeCall {a : Act} {w : World} {gx : Operand} {l : Nat} {k : FuncId} {first cap : Array Value} (hv : a.eval gx = .func (.func k) first cap) :
    (resolve a.eval (rangeCall gx l) 0).run P w = .ok { target := .fn (.func k) cap, args := first ++ #[.func (.yield l) #[] #[]] } w := by
  have e1 : a.eval (.const (.func (.yield l) #[] #[])) = .func (.yield l) #[] #[] := rfl
  simp [resolve, rangeCall, hv, Deferred.ofValue, e1]

/-- What holds when code has been left. -/
def Leaves (A : AProg) (B : Nat) (g : Ghost) (σ : AMem) (w : World) (N : Nat) (T' : Tr AVal) (σ' : AMem) (a' : Act) (w' : World) : Prop :=
  ∃ g', Sim A g' σ' w' ∧ Trans g σ w g' σ' w' ∧ FrameRel g' w' N T' a'.tmps ∧ DefOk B g' w' a'.defers

def ExecOk (A : AProg) (P : Program) (N : Nat) (c : Code) (T : Tr AVal) (σ : AMem) (e : AExit) (T' : Tr AVal) (σ' : AMem) : Prop :=
  ∀ (B n : Nat) (ro : Option Nat) (g : Ghost) (w : World) (a : Act) (Q : Exit → Act → World → Prop), Sim A g σ w → FrameRel g w N T a.tmps → RoOk ro w → B ≤ w.heap.size → DefOk B g w a.defers →
    (∀ a' w', Leaves A B g σ w N T' σ' a' w' → Q (exitOf e) a' w') → c.wpIn (FW ro) n P Q a w

/-- A loop over a function, from outside or within a round. -/
theorem rangeA_sound (hA : AOk P A) {call : CallA} (hcall : CallOk A P call) {caller N : Nat} {gx : Operand} {ps : Array Nat} {assign body : Code} {T T' : Tr AVal} {σ σ' : AMem} {e : AExit}
    (hokA : codeOkB A caller assign = true) (hokB : codeOkB A caller body = true) (h : rangeA A call caller N gx ps.toList assign body T σ = some (e, T', σ')) : ExecOk A P N (.rangeFunc gx ps assign body) T σ e T' σ' := by
  intro B n ro g w a Q hs hf hro hB hdef hQ
  unfold rangeA at h
  split at h
  · rename_i f fs cs hfv
    split at h
    · cases h
    · rename_i v2 σ2 hc
      split at h
      · rename_i r hr
        split at h
        · cases h
        · rename_i hbusy
          -- the record in the model, and what is laid ahead of it
          refine wpIn_rangeFunc fun fn _ => ?_
          have hstart : ∃ (w0 : World) (mark : List Deferred) (D : Nat), (Instr.enterLoop fn a.tmps ps assign body ro).run P w = .ok (w0.heap.size, mark) (w0.alloc (.loop { state := .ready, pending := none, fn, tmps := a.tmps, params := ps, assign, body, defers := D })) ∧
              Sim A g σ w0 ∧ Trans g σ w g σ w0 ∧ DefOk B g w0 (mark ++ a.defers) := by
            cases hro' : ro with
            | none =>
              obtain ⟨h1, h2⟩ := foreign_alloc hs (.deferred (some []))
              refine ⟨w.alloc (.deferred (some [])), [{ target := .collected w.heap.size, args := #[] }], w.heap.size, ?_, h1, h2, ?_⟩
              · rw [run_enterLoop_outer]; simp
              · refine ⟨⟨w.heap.size, rfl, hB, World.alloc_heap_new _ _, ⟨fun r p hr e => ?_, fun hb => ?_⟩, fun d' hd' e => ?_⟩, hdef.trans h2⟩
                · have := hs.block_lt hr; omega
                · have := hs.rolt _ hb; omega
                · have := hdef.lt _ d' hd' _ e; omega
            | some l0 =>
              obtain ⟨r0, hr0⟩ := hro l0 hro'
              exact ⟨w, [], r0.defers, run_enterLoop_inner hr0 _ _ _ _ _, hs, Trans.refl g σ w, hdef⟩
          obtain ⟨w0, mark, D, hent, hs0, ht0, hdef0⟩ := hstart
          -- the abstract record
          have hf0 := ht0.frameRel hs hf
          let L0 : Loop := { state := .ready, pending := none, fn, tmps := a.tmps, params := ps, assign, body, defers := D }
          let p : Place := ⟨w0.heap.size, 0, 0, 0⟩
          let o0 : AObj := .loop { state := .ready, pending := none, fn := caller, N, T, params := ps.toList, assign, body }
          have hfr := (hs0.fresh σ.next (Nat.le_refl _)).1
          have hle := Ghost.add_le p hfr
          have hst : Stays w0 (w0.alloc (.loop L0)) g.ro (g.add σ.next p).ro := ⟨fun b hb => hb, fun b hb => heap_alloc_lt w0 _ (hs0.rolt b hb)⟩
          have hobj : ObjRel A (g.add σ.next p) (w0.alloc (.loop L0)) p o0 :=
            ⟨L0, World.alloc_heap_new _ _, rfl, rfl, ⟨hf0.1, fun i v hv => let ⟨x, hx, hr⟩ := hf0.2 i v hv; ⟨x, hx, Rel.mono hle hst _ _ hr⟩⟩, rfl, rfl, rfl, hokA, hokB⟩
          obtain ⟨hs1, ht1⟩ := alloc_step (O := .loop L0) hs0 rfl hobj
          have ht01 := ht0.trans ht1
          -- the function
          have hfx : Rel g w (.func f fs cs) (a.eval gx) := by
            cases gx with
            | tmp t =>
              obtain ⟨y, hy, hr⟩ := hf.2 t _ hfv
              have : a.eval (.tmp t) = y := by
                simp only [Act.eval]
                rw [Array.getD_eq_getD_getElem?, hy]
                rfl
              rw [this]; exact hr
            | const c => exact ofConst_rel hfv g w
            | func k =>
              simp only [evalO, Option.some.injEq, AVal.func.injEq] at hfv
              obtain ⟨rfl, rfl, rfl⟩ := hfv
              simp only [Rel, RelL]; exact ⟨[], [], rfl, rfl, rfl⟩
            | global k => simp only [evalO] at hfv; split at hfv <;> cases hfv
          have hfx1 := ht01.rel hs hfx
          have hy : RelL (g.add σ.next p) (w0.alloc (.loop L0)) [.yield σ.next] (#[Value.func (.yield w0.heap.size) #[] #[]]).toList := by
            refine ⟨_, [], rfl, ?_, rfl⟩
            simp only [Rel]
            exact ⟨w0.heap.size, rfl, .inr ⟨p, Ghost.add_same g _ p, rfl⟩⟩
          obtain ⟨l, m, hev, _, _⟩ := (show ∃ l m, a.eval gx = .func (.func f) (List.toArray l) (List.toArray m) ∧ RelL g w fs l ∧ RelL g w cs m by simpa only [Rel] using hfx)
          have hinv := hcall _ _ _ _ _ hc (n - 1) _ _ _ _ hs1 hfx1 hy
          rcases hinv with ⟨k, first, cap, hv, he, hcalls⟩ | ⟨l', fn', tmps', as', bd', hv, _, _⟩
          · refine ⟨w0.heap.size, mark, _, { target := .fn (.func k) cap, args := first ++ #[.func (.yield w0.heap.size) #[] #[]] }, _, k, first ++ #[.func (.yield w0.heap.size) #[] #[]] ++ cap, w0.alloc (.loop L0), hent, run_rangeCall hv, fun _ _ => trivial, ?_, wide_room ro n, ?_⟩
            · simp [invoke, he, L0]
            · refine CallsIn.mono (F := FW ro) (FW_calls (ro' := ro) hcalls) ?_
              rintro e' w3 ⟨x, rfl, g2, hs2, ht2, _⟩
              -- the record when the function has returned
              have hlive : g2.st σ.next = .live p := by
                rcases ht2.le.live _ _ (Ghost.add_same g σ.next p) with h1 | h1
                · exact h1
                · rw [hs2.dead _ h1] at hr; cases hr
              obtain ⟨o, ho, hor⟩ := hs2.obj _ _ hlive
              rw [hr] at ho
              cases ho
              obtain ⟨L, hL, hrel⟩ := hor
              have hnb : L.state ≠ .busy := by rw [hrel.state]; exact hbusy
              have hend := run_endLoop (P := P) hL hnb
              obtain ⟨hs3, ht3⟩ := update_step (o' := .loop { r with state := .exhausted }) (O' := .loop { L with state := .exhausted }) hs2 hlive (fun r' _ => ⟨_, rfl⟩) (fun hst3 =>
                ⟨_, World.putObj_heap_same (hs2.block_lt hlive), { hrel with state := rfl, frame := ⟨hrel.frame.1, fun i v hv => let ⟨x, hx, hr⟩ := hrel.frame.2 i v hv; ⟨x, hx, Rel.mono (GLe.refl g2) hst3 _ _ hr⟩⟩ }⟩)
              have htr := (ht01.trans ht2).trans ht3
              have hfin : Leaves A B g σ w N T (σ2.put σ.next (.loop { r with state := .exhausted })) { a with defers := mark ++ a.defers } (w3.putObj p.block (.loop { L with state := .exhausted })) :=
                ⟨g2, hs3, htr, htr.frameRel hs hf, hdef0.trans ((ht1.trans ht2).trans ht3)⟩
              refine ⟨L.pending, _, hend, ?_⟩
              clear hs3 ht3 htr hend
              generalize σ2.put σ.next (.loop { r with state := .exhausted }) = S at h hfin
              generalize w3.putObj p.block (.loop { L with state := .exhausted }) = W at hfin ⊢
              rw [hrel.pending]
              cases hp : r.pending with
              | none =>
                rw [hp] at h
                simp only [Option.some.injEq, Prod.mk.injEq] at h
                obtain ⟨rfl, rfl, rfl⟩ := h
                exact hQ _ _ hfin
              | some e0 =>
                rw [hp] at h
                simp only [Option.some.injEq, Prod.mk.injEq] at h
                obtain ⟨rfl, rfl, rfl⟩ := h
                simp only [Option.map_some]
                have := hQ _ _ hfin
                cases e0 with
                | normal => exact wpIn_skip this
                | exit id => exact wpIn_exit this
                | ret => exact wpIn_ret this
          · rw [hev] at hv; cases hv
      · cases h
  · cases h

theorem iterL_sound {N : Nat} {c : Code} {body : Tr AVal → AMem → Out} (hb : ∀ T σ e T' σ', body T σ = some (e, T', σ') → ExecOk A P N c T σ e T' σ') : ∀ (k : Nat) (T : Tr AVal) (σ : AMem) (e : AExit) (T' : Tr AVal) (σ' : AMem), iterL k body T σ = some (e, T', σ') →
    ∀ (B n : Nat) (ro : Option Nat) (g : Ghost) (w : World) (a : Act) (Q : Exit → Act → World → Prop), Sim A g σ w → FrameRel g w N T a.tmps → RoOk ro w → B ≤ w.heap.size → DefOk B g w a.defers →
    (∀ a' w', Leaves A B g σ w N T' σ' a' w' → Q (exitOf e) a' w') → Code.roundsIn (FW ro) n P c Q k a w := by
  intro k
  induction k with
  | zero => intro T σ e T' σ' h; simp [iterL] at h
  | succ k ih =>
    intro T σ e T' σ' h B n ro g w a Q hs hf hro hB hdef hQ
    simp only [iterL] at h
    rw [roundsIn_succ]
    split at h
    · rename_i T1 σ1 hb1
      refine hb _ _ _ _ _ hb1 B n ro g w a _ hs hf hro hB hdef ?_
      rintro a1 w1 ⟨g1, hs1, ht1, hf1, hd1⟩
      refine ih T1 σ1 e T' σ' h B n ro g1 w1 a1 Q hs1 hf1 (hro.trans ht1) (Nat.le_trans hB ht1.size) hd1 ?_
      rintro a2 w2 ⟨g2, hs2, ht2, hf2, hd2⟩
      exact hQ a2 w2 ⟨g2, hs2, ht1.trans ht2, hf2, hd2⟩
    · rename_i hne
      refine hb _ _ _ _ _ h B n ro g w a _ hs hf hro hB hdef ?_
      intro a1 w1 h1
      have := hQ a1 w1 h1
      cases e with
      | normal => exact absurd h (hne _ _)
      | exit id => exact this
      | ret => exact this

/-- CODE. -/
theorem exec_sound (hA : AOk P A) {call : CallA} (hcall : CallOk A P call) (k caller N : Nat) : ∀ (c : Code) (T : Tr AVal) (σ : AMem) (e : AExit) (T' : Tr AVal) (σ' : AMem), execC A call k caller N c T σ = some (e, T', σ') → codeOkB A caller c = true → ExecOk A P N c T σ e T' σ' := by
  intro c
  induction c with
  | skip =>
    intro T σ e T' σ' h _ B n ro g w a Q hs hf hro hB hdef hQ
    simp only [execC, Option.some.injEq, Prod.mk.injEq] at h
    obtain ⟨rfl, rfl, rfl⟩ := h
    exact wpIn_skip (hQ a w ⟨g, hs, Trans.refl g σ w, hf, hdef⟩)
  | exit id =>
    intro T σ e T' σ' h _ B n ro g w a Q hs hf hro hB hdef hQ
    simp only [execC, Option.some.injEq, Prod.mk.injEq] at h
    obtain ⟨rfl, rfl, rfl⟩ := h
    exact wpIn_exit (hQ a w ⟨g, hs, Trans.refl g σ w, hf, hdef⟩)
  | ret =>
    intro T σ e T' σ' h _ B n ro g w a Q hs hf hro hB hdef hQ
    simp only [execC, Option.some.injEq, Prod.mk.injEq] at h
    obtain ⟨rfl, rfl, rfl⟩ := h
    exact wpIn_ret (hQ a w ⟨g, hs, Trans.refl g σ w, hf, hdef⟩)
  | region id ops draw =>
    intro T σ e T' σ' h hok B n ro g w a Q hs hf hro hB hdef hQ
    simp only [execC] at h
    cases draw with
    | false =>
      simp only at h
      obtain ⟨⟨T1, σ1⟩, h1, h2⟩ := map_some h
      cases h2
      refine region_sound hA hcall h1 hs hf fun a' w' g' hs' ht' hf' hd' => ?_
      exact hQ a' w' ⟨g', hs', ht', hf', by rw [hd']; exact hdef.trans ht'⟩
    | true =>
      simp only at h
      split at h
      · rename_i d hd
        obtain ⟨⟨T1, σ1⟩, h1, h2⟩ := map_some h
        cases h2
        simp only [codeOkB, Bool.not_true, Bool.false_or, hd] at hok
        refine region_draw_sound hA hcall hok h1 hs hf fun a' w' g' hs' ht' hf' hd' => ?_
        exact hQ a' w' ⟨g', hs', ht', hf', by rw [hd']; exact hdef.trans ht'⟩
      · cases h
  | seq x y ihx ihy =>
    intro T σ e T' σ' h hok B n ro g w a Q hs hf hro hB hdef hQ
    simp only [codeOkB, Bool.and_eq_true] at hok
    simp only [execC] at h
    refine wpIn_seq ?_
    split at h
    · rename_i T1 σ1 h1
      refine ihx _ _ _ _ _ h1 hok.1 B n ro g w a _ hs hf hro hB hdef ?_
      rintro a1 w1 ⟨g1, hs1, ht1, hf1, hd1⟩
      refine ihy _ _ _ _ _ h hok.2 B n ro g1 w1 a1 Q hs1 hf1 (hro.trans ht1) (Nat.le_trans hB ht1.size) hd1 ?_
      rintro a2 w2 ⟨g2, hs2, ht2, hf2, hd2⟩
      exact hQ a2 w2 ⟨g2, hs2, ht1.trans ht2, hf2, hd2⟩
    · rename_i hne
      refine ihx _ _ _ _ _ h hok.1 B n ro g w a _ hs hf hro hB hdef ?_
      intro a1 w1 h1
      have := hQ a1 w1 h1
      cases e with
      | normal => exact absurd h (hne _ _)
      | exit id => exact this
      | ret => exact this
  | cond c x y ihx ihy =>
    intro T σ e T' σ' h hok B n ro g w a Q hs hf hro hB hdef hQ
    simp only [codeOkB, Bool.and_eq_true] at hok
    simp only [execC] at h
    have hev : ∀ b, evalO A T c = some (.bool b) → a.eval c = .bool b := fun b hb => by
      have : Rel g w (.bool b) (a.eval c) := by
        cases c with
        | tmp t =>
          obtain ⟨y, hy, hr⟩ := hf.2 t _ hb
          have : a.eval (.tmp t) = y := by
            simp only [Act.eval]
            rw [Array.getD_eq_getD_getElem?, hy]
            rfl
          rw [this]; exact hr
        | const c => exact ofConst_rel hb g w
        | func k => simp [evalO] at hb
        | global k => simp only [evalO] at hb; split at hb <;> cases hb
      simpa only [Rel] using this
    split at h
    · rename_i hc
      exact wpIn_cond_true (hev _ hc) (ihx _ _ _ _ _ h hok.1 B n ro g w a Q hs hf hro hB hdef hQ)
    · rename_i hc
      exact wpIn_cond_false (hev _ hc) (ihy _ _ _ _ _ h hok.2 B n ro g w a Q hs hf hro hB hdef hQ)
    · cases h
  | block id c ih =>
    intro T σ e T' σ' h hok B n ro g w a Q hs hf hro hB hdef hQ
    simp only [codeOkB] at hok
    simp only [execC] at h
    refine wpIn_block ?_
    split at h
    · rename_i i T1 σ1 h1
      refine ih _ _ _ _ _ h1 hok B n ro g w a _ hs hf hro hB hdef ?_
      intro a1 w1 hl
      show Exit.inBlock id Q (.exit i) a1 w1
      simp only [Exit.inBlock]
      split at h
      · rename_i e1
        cases h
        rw [if_pos e1]
        exact hQ a1 w1 hl
      · rename_i e1
        cases h
        rw [if_neg e1]
        exact hQ a1 w1 hl
    · rename_i hne
      refine ih _ _ _ _ _ h hok B n ro g w a _ hs hf hro hB hdef ?_
      intro a1 w1 hl
      have := hQ a1 w1 hl
      cases e with
      | normal => exact this
      | exit id => exact absurd h (hne _ _ _)
      | ret => exact this
  | loop c ih =>
    intro T σ e T' σ' h hok B n ro g w a Q hs hf hro hB hdef hQ
    simp only [codeOkB] at hok
    simp only [execC] at h
    refine wpIn_loop_rounds k ?_
    exact iterL_sound (fun T σ e T' σ' h => ih T σ e T' σ' h hok) k T σ e T' σ' h B n ro g w a Q hs hf hro hB hdef hQ
  | rangeFunc gx ps assign body iha ihb =>
    intro T σ e T' σ' h hok
    simp only [codeOkB, Bool.and_eq_true] at hok
    simp only [execC] at h
    exact rangeA_sound hA hcall hok.1 hok.2 h
  | _ =>
    intro T σ e T' σ' h
    simp [execC] at h

end Go.Proofs.YtjckhhkhgjbpaaaGreatDoor.Pale
