/- The abstract machine against the model: rounds and calls. -/
import Derived.Test.YtjckhhkhgjbpaaaGreatDoorPaleExec
set_option linter.unusedVariables false
set_option linter.unusedSimpArgs false
namespace Go.Proofs.YtjckhhkhgjbpaaaGreatDoor.Pale
open Go

variable {A : AProg} {P : Program}

theorem frame_set {g : Ghost} {w : World} {N : Nat} {T : Tr AVal} {tmps : Array Value} {i : Nat} {v : AVal} {x : Value} (h : FrameRel g w N T tmps) (hi : i < N) (hr : Rel g w v x) : FrameRel g w N (T.set i v) (tmps.setIfInBounds i x) := by
  refine ⟨by simp [h.1], fun j u hu => ?_⟩
  rw [Tr.get_set] at hu
  by_cases e : i = j
  · subst e
    rw [if_pos rfl] at hu
    cases hu
    exact ⟨x, by rw [Array.getElem?_setIfInBounds_self_of_lt (by rw [h.1]; exact hi)], hr⟩
  · rw [if_neg e] at hu
    obtain ⟨y, hy, hyr⟩ := h.2 j u hu
    exact ⟨y, by rw [Array.getElem?_setIfInBounds_ne e]; exact hy, hyr⟩

theorem setParams_frame {g : Ghost} {w : World} {N : Nat} : ∀ (ps : List Nat) (args : List AVal) (xs : List Value) (T : Tr AVal) (tmps : Array Value), RelL g w args xs → (∀ p ∈ ps, p < N) → FrameRel g w N T tmps →
    FrameRel g w N (setParams T ps args) ((ps.zip xs).foldl (fun tmps (t, a) => tmps.setIfInBounds t a) tmps) := by
  intro ps
  induction ps with
  | nil => intro args xs T tmps _ _ hf; simpa [setParams] using hf
  | cons p ps ih =>
    intro args xs T tmps hr hp hf
    cases args with
    | nil =>
      simp only [RelL] at hr
      subst hr
      simpa [setParams] using hf
    | cons v vs =>
      obtain ⟨x, xs', rfl, h1, h2⟩ := hr
      simp only [setParams, List.zip_cons_cons, List.foldl_cons]
      exact ih vs xs' _ _ h2 (fun q hq => hp q (List.mem_cons_of_mem _ hq)) (frame_set hf (hp p (by simp)) h1)

theorem zip_fold (ps : Array Nat) (xs : Array Value) (tmps : Array Value) : ((ps.zip xs).foldl (fun tmps (t, a) => tmps.setIfInBounds t a) tmps) = ((ps.toList.zip xs.toList).foldl (fun tmps (t, a) => tmps.setIfInBounds t a) tmps) := by
  rw [← Array.foldl_toList, Array.toList_zip]

/-- The loop's object turns. -/
theorem loop_step {g : Ghost} {σ : AMem} {w : World} {l : Nat} {p : Place} {r r' : ALoop} {L L' : Loop} (hs : Sim A g σ w) (hl : g.st l = .live p) (hrel : LoopRel A g w r L) (h : ∀ g w, LoopRel A g w r L → LoopRel A g w r' L') :
    Sim A g (σ.put l (.loop r')) (w.putObj p.block (.loop L')) ∧ Trans g σ w g (σ.put l (.loop r')) (w.putObj p.block (.loop L')) :=
  update_step hs hl (fun _ _ => ⟨_, rfl⟩) fun hst =>
    ⟨L', World.putObj_heap_same (hs.block_lt hl), h _ _ { hrel with frame := ⟨hrel.frame.1, fun i v hv => let ⟨x, hx, hr⟩ := hrel.frame.2 i v hv; ⟨x, hx, Rel.mono (GLe.refl g) hst _ _ hr⟩⟩ }⟩

theorem loop_of {g : Ghost} {σ : AMem} {w : World} {l : Nat} {p : Place} {r : ALoop} (hs : Sim A g σ w) (hl : g.st l = .live p) (hget : σ.get l = some (.loop r)) : ∃ L, w.heap[p.block]? = some (.loop L) ∧ LoopRel A g w r L := by
  obtain ⟨o, ho, hor⟩ := hs.obj l p hl
  rw [hget] at ho
  cases ho
  exact hor

theorem still_live {g g' : Ghost} {σ σ' : AMem} {w w' : World} {l : Nat} {p : Place} {o : AObj} (ht : Trans g σ w g' σ' w') (hs : Sim A g' σ' w') (hl : g.st l = .live p) (hget : σ'.get l = some o) : g'.st l = .live p := by
  rcases ht.le.live _ _ hl with h1 | h1
  · exact h1
  · rw [hs.dead _ h1] at hget; cases hget

/-- A ROUND. -/
theorem roundA_ok (hA : AOk P A) {call : CallA} (hcall : CallOk A P call) {k l : Nat} {args : List AVal} {σ σ' : AMem} {v : AVal} (h : roundA A call k l args σ = some (v, σ')) (n : Nat) {g : Ghost} {w : World} {fx : Value} {argx : Array Value}
    (hs : Sim A g σ w) (hfx : Rel g w (.yield l) fx) (har : RelL g w args argx.toList) : Invoked n P fx argx w (fun x w' => ∃ g', Sim A g' σ' w' ∧ Trans g σ w g' σ' w' ∧ Rel g' w' v x) := by
  unfold roundA at h
  split at h
  · rename_i r hget
    split at h
    · rename_i hlen
      simp only [Bool.and_eq_true, beq_iff_eq, List.all_eq_true, decide_eq_true_eq] at hlen
      obtain ⟨hlen, hlt⟩ := hlen
      simp only [Rel] at hfx
      obtain ⟨b, rfl, hb⟩ := hfx
      have hlive : ∃ p, g.st l = .live p ∧ b = p.block := by
        rcases hb with h1 | h1
        · rw [hs.dead _ h1] at hget; cases hget
        · exact h1
      obtain ⟨p, hl, rfl⟩ := hlive
      obtain ⟨L, hL, hrel⟩ := loop_of hs hl hget
      have hsz : argx.size = L.params.size := by
        have h1 := har.length
        have h2 := congrArg List.length hrel.params
        simp only [Array.length_toList] at h1 h2
        omega
      refine .inr ⟨p.block, L.fn, _, L.assign, L.body, rfl, run_yield hL hsz, roundIn_of_wpIn (F := FW none) trivial ?_⟩
      have hf0 := setParams_frame (N := r.N) r.params args argx.toList r.T L.tmps har hlt hrel.frame
      rw [← hrel.params, ← zip_fold] at hf0
      split at h
      · rename_i T1 σ1 hex
        have e1 := exec_sound hA hcall k r.fn r.N r.assign _ _ _ _ _ hex hrel.okA
        rw [hrel.assign, hrel.body]
        rw [← hrel.params] at e1
        refine e1 0 n (some p.block) g w _ _ hs hf0 (fun l' hl' => by cases hl'; exact ⟨L, hL⟩) (Nat.zero_le _) trivial ?_
        rintro a1 w1 ⟨g1, hs1, ht1, hf1, hd1⟩
        split at h
        · rename_i r1 hget1
          split at h
          · rename_i hready
            have hl1 := still_live ht1 hs1 hl hget1
            obtain ⟨L1, hL1, hrel1⟩ := loop_of hs1 hl1 hget1
            obtain ⟨hs2, ht2⟩ := loop_step (r' := { r1 with state := .busy }) (L' := { L1 with state := .busy }) hs1 hl1 hrel1 fun g w h => { h with state := rfl }
            refine ⟨_, run_beginRound hL1 (by rw [hrel1.state]; exact hready), ?_⟩
            split at h
            · rename_i e T2 σ2 hex2
              have e2 := exec_sound hA hcall k r.fn r.N r.body _ _ _ _ _ hex2 hrel.okB
              have ht12 := ht1.trans ht2
              refine e2 0 n (some p.block) g1 _ a1 _ hs2 (ht2.frameRel hs1 hf1) (fun l' hl' => by cases hl'; exact ⟨_, World.putObj_heap_same (hs1.block_lt hl1)⟩) (Nat.zero_le _) (DefOk.trans ht2 _ hd1) ?_
              rintro a3 w3 ⟨g3, hs3, ht3, hf3, _⟩
              split at h
              · rename_i r2 hget2
                have hl3 := still_live ht3 hs3 hl1 hget2
                obtain ⟨L2, hL2, hrel2⟩ := loop_of hs3 hl3 hget2
                have ht13 := ht12.trans ht3
                cases e with
                | normal =>
                  cases h
                  obtain ⟨hs4, ht4⟩ := loop_step (r' := { r2 with state := .ready, pending := none }) (L' := { L2 with state := .ready, pending := none }) hs3 hl3 hrel2 fun g w h => { h with state := rfl, pending := rfl }
                  exact ⟨_, _, run_endRound none hL2, _, rfl, g3, hs4, ht13.trans ht4, by simp [Rel]⟩
                | ret =>
                  cases h
                  obtain ⟨hs4, ht4⟩ := loop_step (r' := { r2 with state := .done, pending := some .ret }) (L' := { L2 with state := .done, pending := some .ret }) hs3 hl3 hrel2 fun g w h => { h with state := rfl, pending := rfl }
                  exact ⟨_, _, run_endRound (some .ret) hL2, _, rfl, g3, hs4, ht13.trans ht4, by simp [Rel]⟩
                | exit id =>
                  cases h
                  obtain ⟨hs4, ht4⟩ := loop_step (r' := { r2 with state := .done, pending := some (.exit id) }) (L' := { L2 with state := .done, pending := some (.exit id) }) hs3 hl3 hrel2 fun g w h => { h with state := rfl, pending := rfl }
                  exact ⟨_, _, run_endRound (some (.exit id)) hL2, _, rfl, g3, hs4, ht13.trans ht4, by simp [Rel]⟩
              · cases h
            · cases h
          · cases h
        · cases h
      · cases h
    · cases h
  · cases h

/-! ### results -/
def resOne (tmps : Array Value) : ResultVar → Sem Value
  | .tmp t => pure (tmps.getD t undef)
  | .cell a t => do loadVar t (← asAddr (tmps.getD a undef))

theorem resultsA_sound (hA : AOk P A) {g : Ghost} {σ : AMem} {w : World} {N : Nat} {T : Tr AVal} {tmps : Array Value} (hs : Sim A g σ w) (hf : FrameRel g w N T tmps) : ∀ (rs : List ResultVar) (vs : List AVal), resultsA A T σ rs = some vs →
    ∃ l, (rs.mapM (resOne tmps)).run P w = .ok l w ∧ RelL g w vs l := by
  have hget : ∀ t v, T.get t = some v → Rel g w v (tmps.getD t undef) := fun t v hv => by
    obtain ⟨y, hy, hr⟩ := hf.2 t v hv
    have : tmps.getD t undef = y := by
      rw [Array.getD_eq_getD_getElem?, hy]; rfl
    rw [this]; exact hr
  intro rs
  induction rs with
  | nil =>
    intro vs h
    simp only [resultsA, Option.some.injEq] at h
    subst h
    exact ⟨[], by simp, by simp [RelL]⟩
  | cons r rs ih =>
    intro vs h
    simp only [resultsA] at h
    split at h
    · rename_i v vs' h1 h2
      cases h
      obtain ⟨l, hl, hr⟩ := ih vs' h2
      have : ∃ y, (resOne tmps r).run P w = .ok y w ∧ Rel g w v y := by
        cases r with
        | tmp t =>
          exact ⟨_, rfl, hget t v h1⟩
        | cell a t =>
          simp only [resultA] at h1
          split at h1
          · rename_i i p hi hp
            split at h1
            · rename_i r off
              have hx := hget a _ hp
              obtain ⟨y, hy, hyr⟩ := loadA_sound (P := P) hs (hA.ty _ _ hi) h1 hx
              refine ⟨y, ?_, hyr⟩
              simp only [Rel] at hx
              obtain ⟨ad, hax, _⟩ := hx
              rw [hax] at hy
              simp only [resOne, hax]
              simpa [Instr.loadAt, Instr.sureAddr, asAddr] using hy
            · cases h1
          · cases h1
      obtain ⟨y, hy, hyr⟩ := this
      refine ⟨y :: l, ?_, ⟨y, l, rfl, hyr, hr⟩⟩
      simp [List.mapM_cons, Sem.run_bind, hy, hl, Result.andThen]
    · cases h

theorem results_sound (hA : AOk P A) {g : Ghost} {σ : AMem} {w : World} {N : Nat} {T : Tr AVal} {tmps : Array Value} {fn : Func} {vs : List AVal} (hs : Sim A g σ w) (hf : FrameRel g w N T tmps) (h : resultsA A T σ fn.results.toList = some vs) :
    ∃ x, (results fn tmps).run P w = .ok x w ∧ Rel g w (packA vs) x := by
  obtain ⟨l, hl, hr⟩ := resultsA_sound hA hs hf _ _ h
  have e : results fn tmps = (fn.results.mapM (resOne tmps) >>= fun vs => pure (if h : vs.size = 1 then vs[0] else .tuple vs)) := rfl
  rw [e, Array.mapM_eq_mapM_toList]
  simp only [Sem.run_bind, map_eq_pure_bind, hl, Result.andThen, Sem.run_pure]
  refine ⟨_, rfl, ?_⟩
  cases vs with
  | nil =>
    simp only [RelL] at hr
    subst hr
    simp [packA, Rel, RelL]
  | cons v vs =>
    obtain ⟨x, xs, rfl, h1, h2⟩ := hr
    cases vs with
    | nil =>
      simp only [RelL] at h2
      subst h2
      simpa [packA] using h1
    | cons v2 vs =>
      obtain ⟨x2, xs2, rfl, h3, h4⟩ := h2
      simp only [packA, Rel]
      refine ⟨x :: x2 :: xs2, ?_, ⟨x, _, rfl, h1, ⟨x2, xs2, rfl, h3, h4⟩⟩⟩
      simp

/-! ### the marks, when a function is left -/
theorem leaves_marks (hA : AOk P A) {fn : Func} {n : Nat} {g g' : Ghost} {σ σ' : AMem} {w : World} {N : Nat} {T : Tr AVal} {tmps : Array Value} {vs : List AVal} (h : resultsA A T σ' fn.results.toList = some vs) : ∀ (ds : List Deferred) (w' : World), Sim A g' σ' w' → Trans g σ w g' σ' w' → FrameRel g' w' N T tmps → DefOk w.heap.size g' w' ds →
    LeavesInM (FW none) n P fn tmps (fun e w' => ∃ x, e = .returned x ∧ ∃ g', Sim A g' σ' w' ∧ Trans g σ w g' σ' w' ∧ Rel g' w' (packA vs) x) ds .returning w' := by
  intro ds
  induction ds with
  | nil =>
    intro w' hs ht hf _
    obtain ⟨x, hx, hr⟩ := results_sound hA hs hf h
    exact ⟨x, hx, x, rfl, g', hs, ht, hr⟩
  | cons d ds ih =>
    rintro w' hs ht hf ⟨⟨D, h1, h2, h3, h4, h5⟩, hr⟩
    refine ⟨by simp, .inl ⟨D, _, h1, run_takeDeferred h3, ?_⟩⟩
    have hst : Stays w' (w'.putObj D (.deferred none)) g'.ro g'.ro := ⟨fun b hb => hb, fun b hb => World.putObj_heap_other (fun e => h4.2 (e ▸ hb))⟩
    refine ih _ (foreign_put hs _ h4) ?_ ⟨hf.1, fun i v hv => let ⟨x, hx, hr⟩ := hf.2 i v hv; ⟨x, hx, Rel.mono (GLe.refl _) hst _ _ hr⟩⟩ ?_
    · exact { ht with
        size := by simpa using ht.size
        frame := fun b hb hn => by rw [World.putObj_heap_other (by omega)]; exact ht.frame b hb hn
        new := ht.new
        ronew := ht.ronew
        loops := fun b r hb => by
          obtain ⟨r', hr'⟩ := ht.loops b r hb
          refine ⟨r', ?_⟩
          rw [World.putObj_heap_other (fun e => by subst e; rw [h3] at hr'; cases hr')]
          exact hr' }
    · clear ih h
      induction ds with
      | nil => trivial
      | cons d' ds ih2 =>
        obtain ⟨⟨D', k1, k2, k3, k4, k5⟩, kr⟩ := hr
        have hne : D' ≠ D := fun e => h5 d' (by simp) (by rw [k1, e])
        exact ⟨⟨D', k1, k2, by rw [World.putObj_heap_other hne]; exact k3, k4, k5⟩, ih2 kr (fun d'' hd'' => h5 d'' (List.mem_cons_of_mem _ hd''))⟩

theorem initT_get : ∀ (vs : List AVal) (i : Nat) (T : Tr AVal) (j : Nat), (initT i vs T).get j = if i ≤ j ∧ j < i + vs.length then vs[j - i]? else T.get j := by
  intro vs
  induction vs with
  | nil => intro i T j; simp [initT]; intro h1 h2; omega
  | cons v vs ih =>
    intro i T j
    rw [initT, ih, Tr.get_set]
    by_cases e : i = j
    · subst e
      rw [if_neg (by omega), if_pos rfl, if_pos (by simp)]
      simp
    · rw [if_neg e]
      by_cases h : i + 1 ≤ j ∧ j < i + 1 + vs.length
      · rw [if_pos h, if_pos (by simp; omega)]
        have : j - i = (j - (i + 1)) + 1 := by omega
        rw [this, List.getElem?_cons_succ]
      · rw [if_neg h, if_neg (by simp; omega)]

/-- EVERY CALL OF THE ABSTRACT MACHINE THAT COMES BACK, COMES BACK IN THE MODEL. -/
theorem callN_ok (hA : AOk P A) : ∀ k, CallOk A P (callN A k) := by
  intro k
  induction k with
  | zero => intro fv args σ v σ' h; simp [callN] at h
  | succ k ih =>
    intro fv args σ v σ' h n g w fx argx hs hfx har
    simp only [callN] at h
    split at h
    · rename_i f first caps
      split at h
      · rename_i fn hfn
        split at h
        · rename_i c hc
          split at h
          · rename_i hlen
            split at h
            · rename_i e T σ1 hex
              obtain ⟨hpf, hname, hok⟩ := hA.func _ _ hfn
              simp only [Rel] at hfx
              obtain ⟨l, m, rfl, hl, hm⟩ := hfx
              have hname' : fn.name ≠ "runtime.NumGoroutine" := by simpa using hname
              refine .inl ⟨f, l.toArray, m.toArray, rfl, fun as w => by simp [callFunc, hpf, hname', hc], ?_⟩
              refine callsIn_of_wp_marks (F := FW none) hpf hc trivial ?_ rfl
              have hall : RelL g w (first ++ args ++ caps) (l.toArray ++ argx ++ m.toArray).toList := by
                simpa using (hl.append har).append hm
              have hsz : (l.toArray ++ argx ++ m.toArray).size ≤ fn.ntmps := by
                have h1 := hall.length
                have h2 : (l.toArray ++ argx ++ m.toArray).toList.length = (l.toArray ++ argx ++ m.toArray).size := rfl
                rw [h2] at h1
                rw [← h1]
                exact hlen
              have hf0 : FrameRel g w fn.ntmps (initT 0 (first ++ args ++ caps) .nil) ((l.toArray ++ argx ++ m.toArray) ++ Array.replicate (fn.ntmps - (l.toArray ++ argx ++ m.toArray).size) undef) := by
                refine ⟨by simp only [Array.size_append, Array.size_replicate] at hsz ⊢; omega, fun j u hu => ?_⟩
                rw [initT_get] at hu
                split at hu
                · simp only [Nat.sub_zero] at hu
                  obtain ⟨x, hx, hr⟩ := hall.get hu
                  refine ⟨x, ?_, hr⟩
                  rw [Array.getElem?_toList] at hx
                  rw [Array.getElem?_append_left (Array.getElem?_eq_some_iff.1 hx).1]
                  exact hx
                · simp [Tr.get_nil] at hu
              refine exec_sound hA ih k f fn.ntmps c _ _ _ _ _ hex (hok c hc) w.heap.size n none g w _ _ hs hf0 (fun l hl => by cases hl) (Nat.le_refl _) trivial ?_
              rintro a' w' ⟨g', hs', ht', hf', hd'⟩
              cases e with
              | exit id => cases h
              | normal =>
                simp only at h
                split at h
                · rename_i vs hvs
                  cases h
                  exact leaves_marks hA hvs _ _ hs' ht' hf' hd'
                · cases h
              | ret =>
                simp only at h
                split at h
                · rename_i vs hvs
                  cases h
                  exact leaves_marks hA hvs _ _ hs' ht' hf' hd'
                · cases h
            · cases h
          · cases h
        · cases h
      · cases h
    · rename_i l
      exact roundA_ok hA ih h n hs hfx har
    · cases h

/-- A CALL OF A NAMED FUNCTION ON VALUES WITHOUT REFERENCES. -/
theorem calls_of_callN (hA : AOk P A) {k f : Nat} {args : List AVal} {v : AVal} {σ' : AMem} (h : callN A k (.func f [] []) args AMem.empty = some (v, σ')) {w : World} {ro : Nat → Prop} (hro : ∀ b, ro b → b < w.heap.size) (hg : ∀ k cs, A.glob k = some cs → PAtL w ro k 0 cs) {xs : Array Value} (hx : PRelL w ro args xs.toList) :
    Calls P f xs w (fun e w' => ∃ x, e = .returned x ∧ w'.os = w.os ∧ w'.tape = w.tape ∧ w'.output = w.output ∧ w.heap.size ≤ w'.heap.size ∧ (∀ b, b < w.heap.size → w'.heap[b]? = w.heap[b]?) ∧ ∃ g', Sim A g' σ' w' ∧ Rel g' w' v x) := by
  let g : Ghost := { st := fun _ => .none, ro := ro }
  have hs : Sim A g AMem.empty w := Sim.ofEmpty hro hg
  have hf : Rel g w (.func f [] []) (.func (.func f) #[] #[]) := by simp only [Rel, RelL]; exact ⟨[], [], rfl, rfl, rfl⟩
  rcases callN_ok hA k _ _ _ _ _ h 0 g w _ xs hs hf (PRelL.rel (g := g) _ _ hx) with ⟨f', first, cap, hv, _, hc⟩ | ⟨l, fn, tmps, as, bd, hv, _, _⟩
  · cases hv
    have := callsIn_wide.1 (show CallsIn Fence.wide 0 P f (#[] ++ xs ++ #[]) w _ from hc)
    simp only [Array.empty_append, Array.append_empty] at this
    refine Calls.mono this ?_
    rintro e w' ⟨x, rfl, g', hs', ht, hr⟩
    exact ⟨x, rfl, ht.os, ht.tape, ht.output, ht.size, fun b hb => ht.frame b hb (fun r p hr => by cases hr), g', hs', hr⟩
  · cases hv

end Go.Proofs.YtjckhhkhgjbpaaaGreatDoor.Pale
