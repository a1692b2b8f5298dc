import Derived.Test.YtjkfdiglokkceaaHT
/- Heaps: the reference's allocated: large blocks. -/
set_option maxRecDepth 100000
set_option linter.unusedSimpArgs false
set_option linter.unusedVariables false
namespace Go.Proofs.Ytjkfdiglokkceaa
open Go Go.Proofs.Ytjkfdiglokkceaa.Pale
variable {k : Nat} {σ : AMem}

theorem setRun_succ {ps : List Pg} {f j : Nat} {g : Nat → Pg} (h : f + j < ps.length) : (setRun ps f j g).set (f + j) (g j) = setRun ps f (j + 1) g := by
  apply pages_ext
  · rw [List.length_set, setRun_length (by omega), setRun_length (by omega)]
  · intro i hi
    rw [pgAt_set (by rw [setRun_length (by omega)]; exact h), pgAt_setRun (by omega), pgAt_setRun (by omega)]
    by_cases e : i = f + j
    · subst e
      rw [if_pos rfl, if_pos (by omega), show f + j - f = j by omega]
    · rw [if_neg e]
      by_cases e2 : f ≤ i ∧ i < f + j
      · rw [if_pos e2, if_pos (by omega)]
      · rw [if_neg e2, if_neg (by omega)]
set_option maxHeartbeats 1000000 in
theorem rallocated_big {low pr wr : Nat} {its : List MItem} {ps : List Pg} {ws : List Int} {n : Nat} (h : HeapM low (σ.push (.row 2 true [.slice pr 0 its.length none 3, .slice wr 0 ws.length none 1])) σ.next pr none wr none its ps ws) (hr : RightH ps ws) (h1 : 32 < n) (h2 : n ≤ 2560) (hk : 4000 ≤ k) :
    ∃ σ', (∀ r, r < low → σ'.get r = σ.get r) ∧ σ.next ≤ σ'.next ∧
    ((runL ps ((n + 63) / 64) = none ∧ callN lawProg (k + 1) (.func 49 [] []) [.agg [.slice pr 0 its.length none 3, .slice wr 0 ws.length none 1], .int .i64 (n : Nat)] σ = some (.tuple [.agg [.slice pr 0 its.length none 3, .slice wr 0 ws.length none 1], .int .i64 0, .bool false], σ')) ∨
    (∃ f its', runL ps ((n + 63) / 64) = some f ∧ its'.length = its.length ∧ callN lawProg (k + 1) (.func 49 [] []) [.agg [.slice pr 0 its.length none 3, .slice wr 0 ws.length none 1], .int .i64 (n : Nat)] σ = some (.tuple [.agg [.slice pr 0 its.length none 3, .slice wr 0 ws.length none 1], .int .i64 ((64 * f : Nat) : Int), .bool true], σ') ∧ HeapM low σ' σ.next pr none wr none its' (setRun ps f ((n + 63) / 64) (bigG ((n + 63) / 64))) ws)) := by
  obtain ⟨sp, hsp⟩ : ∃ s, s = σ.next := ⟨_, rfl⟩
  rw [← hsp] at h ⊢
  have hil := pg_len h.pi
  have hmany' := hr.many
  have hsz := fun (σ : AMem) => sizeFor_call (k := k) (σ := σ) ((n : Nat) : Int) (by omega)
  have hsz0 : sizeR ((n : Nat) : Int) = 0 := by unfold sizeR; rw [if_neg (by omega)]
  rw [hsz0] at hsz
  obtain ⟨many, hmany⟩ : ∃ m, m = (n + 63) / 64 := ⟨_, rfl⟩
  rw [← hmany]
  have w1 : IntKind.i64.wrap (((n : Nat) : Int) + 64) = ((n + 64 : Nat) : Int) := by rw [i64_id (by omega) (by omega)]; omega
  have w2 : IntKind.i64.wrap (((n + 64 : Nat) : Int) - 1) = ((n + 63 : Nat) : Int) := by rw [i64_id (by omega) (by omega)]; omega
  have w3 : IntKind.i64.wrap ((((n + 63 : Nat) : Int)).tdiv 64) = ((many : Nat) : Int) := by
    have : (((n + 63 : Nat) : Int)).tdiv 64 = (((n + 63) / 64 : Nat) : Int) := rfl
    rw [this, ← hmany]
    exact i64_id (by omega) (by omega)
  have h64 : ¬ (64 : Int) = 0 := by omega
  obtain ⟨σ1, hσ1⟩ : ∃ s, s = (σ.push (.row 2 true [.slice pr 0 its.length none 3, .slice wr 0 ws.length none 1])).push (.row 2 true [.vs .nil [], .vs .nil []]) := ⟨_, rfl⟩
  have n1 : σ1.next = sp + 2 := by rw [hσ1, hsp]; simp
  have hM1 : HeapM low σ1 sp pr none wr none its ps ws := by rw [hσ1]; exact h.ext (Ext.push _ _)
  have ex1 : Ext σ σ1 := by rw [hσ1]; exact (Ext.push _ _).trans (Ext.push _ _)
  have go1 : σ1.get (sp + 1) = some (.row 2 true [.vs .nil [], .vs .nil []]) := by rw [hσ1, AMem.get_push, if_pos (by simp [hsp])]
  obtain ⟨l1, l2, l3⟩ := h.own.lo
  obtain ⟨x1, x2, x3⟩ := h.own.nx
  simp only [AMem.next_push] at x1 x2 x3
  have ms1 := hM1.own.ms
  obtain ⟨l, S, q1, q2, q3⟩ := snap_heap (fr := false) 8 hM1
  have hll : l.length = ps.length := by rw [← q1]; simp [pgsOf]
  have hfr := freeRun_call (k := k) (σ := σ1) (many := many) q3 (by omega) (by omega) (by omega)
  rw [q1] at hfr
  cases hrun : runL ps many with
  | none =>
    have hm1 : runR ps many = -1 := by unfold runR; rw [hrun]
    rw [hm1] at hfr
    obtain ⟨σ2, hσ2⟩ : ∃ s, s = σ1.put (sp + 1) (.row 2 true [.slice pr 0 its.length none 3, .slice wr 0 ws.length none 1]) := ⟨_, rfl⟩
    have n2 : σ2.next = sp + 2 := by rw [hσ2]; simpa using n1
    refine ⟨σ2, fun r hr => by rw [hσ2, AMem.get_put, if_neg (by omega), ex1.2 r (by omega)], by omega, .inl ⟨rfl, ?_⟩⟩
    have run : ∃ T1, execC lawProg (callN lawProg k) k 49 123 (bodyOf Try.f49) (initT 0 [.agg [.slice pr 0 its.length none 3, .slice wr 0 ws.length none 1], .int .i64 (n : Nat)] .nil) σ = some (.ret, T1, σ2) ∧ T1.get 4 = some (.ptr (sp + 1) 0) ∧ T1.get 5 = some (.int .i64 0) ∧ T1.get 6 = some (.bool false) := by
      have hneg : ((-1 : Int) < 0) := by omega
      simp only [bodyOf, Try.f49, Option.getD_some, initT, dx, reduceIte, Nat.reduceLT, Nat.reduceLeDiff, Nat.reduceEqDiff, Nat.reduceAdd, Nat.reduceMul, Nat.reduceSub, Nat.reduceBEq, Int.reduceEq, Int.reduceLT, Int.reduceLE, Int.reduceToNat, reduceCtorEq, sx, fx49, hsz, w1, w2, w3, h64, ← hσ1, ← hsp]
      simp only [dx, reduceIte, Nat.reduceLT, Nat.reduceLeDiff, Nat.reduceEqDiff, Nat.reduceAdd, Nat.reduceMul, Nat.reduceSub, Nat.reduceBEq, Int.reduceEq, Int.reduceLT, Int.reduceLE, Int.reduceToNat, reduceCtorEq, sx, fx49, ms1, hfr, hneg, go1, ← hσ2]
      exact ⟨_, rfl, by simp only [Tr.get_set, Nat.reduceEqDiff, reduceIte], by simp only [Tr.get_set, Nat.reduceEqDiff, reduceIte], by simp only [Tr.get_set, Nat.reduceEqDiff, reduceIte]⟩
    obtain ⟨T1, r1, r2, r3, r4⟩ := run
    refine q_call (first := []) (caps := []) (vs := [.agg [.slice pr 0 its.length none 3, .slice wr 0 ws.length none 1], .int .i64 0, .bool false]) fn49 rfl (by simp [Try.f49]) r1 (by simp) ?_
    have g2 : σ2.get (sp + 1) = some (.row 2 true [.slice pr 0 its.length none 3, .slice wr 0 ws.length none 1]) := by rw [hσ2, AMem.get_put, if_pos rfl]
    simp only [Try.f49, resultsA, resultA, dx, reduceIte, Nat.reduceLT, Nat.reduceLeDiff, Nat.reduceEqDiff, Nat.reduceAdd, Nat.reduceMul, Nat.reduceSub, Nat.reduceBEq, Int.reduceEq, Int.reduceLT, Int.reduceLE, Int.reduceToNat, reduceCtorEq, sx, fx49, r2, r3, r4, g2]
  | some f =>
    have hm1 : runR ps many = (f : Nat) := by unfold runR; rw [hrun]
    rw [hm1] at hfr
    obtain ⟨hf1, hf2⟩ := runL_some hrun
    have hnn : ¬ (((f : Nat) : Int) < 0) := by omega
    have hm1 : 1 ≤ many := by omega
    have mp1 := hM1.own.mp
    have hlt : ((f : Nat) : Int) < ((its.length : Nat) : Int) := by omega
    have hlen := items_len (pg_two h.pi)
    have hin : f * 3 + 3 ≤ its.length * 3 := by omega
    have w4 : IntKind.i64.wrap (((f : Nat) : Int) + 1) = ((f + 1 : Nat) : Int) := i64_succ (by omega)
    have w5 : IntKind.i64.wrap (((f : Nat) : Int) + ((many : Nat) : Int)) = ((f + many : Nat) : Int) := by rw [i64_id (by omega) (by omega)]; omega
    have w6 : IntKind.i64.wrap (((f : Nat) : Int) * 64) = ((64 * f : Nat) : Int) := by rw [i64_id (by omega) (by omega)]; omega
    have hrec := hM1.record (i := f) (by omega) (Ext.refl _) (by omega) ⟨2, (many : Nat), []⟩ (.vs .nil []) (.inl ⟨rfl, rfl⟩)
    obtain ⟨σ2, hσ2⟩ : ∃ s, s = σ1.put pr (.row 3 true (((((its.map MItem.cells).flatten).set (f * 3) (.int .u8 2)).set (f * 3 + 1) (.int .i64 (many : Nat))).set (f * 3 + 1 + 1) (.vs .nil []))) := ⟨_, rfl⟩
    have hset1 : ps.set f ⟨2, (many : Nat), []⟩ = setRun ps f 1 (bigG many) := by
      have := setRun_succ (ps := ps) (f := f) (j := 0) (g := bigG many) (by omega)
      rw [← this]
      unfold setRun
      simp [bigG]
    simp only at hrec
    rw [← hσ2, hset1] at hrec
    have n2 : σ2.next = sp + 2 := by rw [hσ2]; simpa using n1
    have go2 : σ2.get (sp + 1) = some (.row 2 true [.vs .nil [], .vs .nil []]) := by rw [hσ2, AMem.get_put, if_neg (by omega)]; exact go1
    have run : ∃ T1 σ' its', execC lawProg (callN lawProg k) k 49 123 (bodyOf Try.f49) (initT 0 [.agg [.slice pr 0 its.length none 3, .slice wr 0 ws.length none 1], .int .i64 (n : Nat)] .nil) σ = some (.ret, T1, σ') ∧ T1.get 4 = some (.ptr (sp + 1) 0) ∧ T1.get 5 = some (.int .i64 ((64 * f : Nat) : Int)) ∧ T1.get 6 = some (.bool true) ∧ σ'.get (sp + 1) = some (.row 2 true [.slice pr 0 its.length none 3, .slice wr 0 ws.length none 1]) ∧ (∀ r, r < low → σ'.get r = σ.get r) ∧ σ.next ≤ σ'.next ∧ its'.length = its.length ∧ HeapM low σ' sp pr none wr none its' (setRun ps f many (bigG many)) ws := by
      simp only [bodyOf, Try.f49, Option.getD_some, initT, dx, reduceIte, Nat.reduceLT, Nat.reduceLeDiff, Nat.reduceEqDiff, Nat.reduceAdd, Nat.reduceMul, Nat.reduceSub, Nat.reduceBEq, Int.reduceEq, Int.reduceLT, Int.reduceLE, Int.reduceToNat, reduceCtorEq, sx, fx49, hsz, w1, w2, w3, h64, ← hσ1, ← hsp]
      simp only [dx, reduceIte, Nat.reduceLT, Nat.reduceLeDiff, Nat.reduceEqDiff, Nat.reduceAdd, Nat.reduceMul, Nat.reduceSub, Nat.reduceBEq, Int.reduceEq, Int.reduceLT, Int.reduceLE, Int.reduceToNat, reduceCtorEq, sx, fx49, ms1, mp1, hfr, hnn, hlt, hlen, hin, w4, Int.natCast_nonneg, Int.toNat_natCast, ← hσ2]
      generalize hL : execC _ _ _ _ _ (Code.loop _) _ _ = q
      obtain ⟨e, T', σ', rfl, _, rfl, t2, t4, t9, its', hlen', hrw, hM', nx, fr, go⟩ : ∃ e T' σ', q = some (e, T', σ') ∧ e ≠ .normal ∧ e = .exit 0 ∧ T'.get 2 = some (.ptr sp 0) ∧ T'.get 4 = some (.ptr (sp + 1) 0) ∧ T'.get 9 = some (.int .i64 (f : Nat)) ∧ ∃ its', its'.length = its.length ∧ (∀ r, r ∈ rowsOf its' → r < sp) ∧ HeapM low σ' sp pr none wr none its' (setRun ps f many (bigG many)) ws ∧ σ'.next = sp + 2 ∧ (∀ r, r < low → σ'.get r = σ.get r) ∧ σ'.get (sp + 1) = some (.row 2 true [.vs .nil [], .vs .nil []]) := by
        rw [← hL]
        refine exec_loop (fun i T σ' => i + 1 ≤ many ∧ T.get 2 = some (.ptr sp 0) ∧ T.get 4 = some (.ptr (sp + 1) 0) ∧ T.get 8 = some (.int .i64 (many : Nat)) ∧ T.get 9 = some (.int .i64 (f : Nat)) ∧ T.get 10 = some (.int .i64 ((f + (i + 1) : Nat) : Int)) ∧ ∃ its', its'.length = its.length ∧ (∀ r, r ∈ rowsOf its' → r < sp) ∧ HeapM low σ' sp pr none wr none its' (setRun ps f (i + 1) (bigG many)) ws ∧ σ'.next = sp + 2 ∧ (∀ r, r < low → σ'.get r = σ.get r) ∧ σ'.get (sp + 1) = some (.row 2 true [.vs .nil [], .vs .nil []])) (many - 1) (by omega) ?_ ?_ ?_
        · rintro i hi T σ0 ⟨_, t2, t4, t8, t9, t10, its0, hl0, hrw, hM0, nx, fr, go⟩
          have hlt : ((f + (i + 1) : Nat) : Int) < ((f + many : Nat) : Int) := by omega
          have hlt2 : ((f + (i + 1) : Nat) : Int) < ((its0.length : Nat) : Int) := by omega
          have hw' := i64_succ (i := f + (i + 1)) (by omega)
          have ms0 := hM0.own.ms
          have mp0 := hM0.own.mp
          have hlen0 := items_len (pg_two hM0.pi)
          have hin0 : (f + (i + 1)) * 3 + 3 ≤ its0.length * 3 := by omega
          have hrec0 := hM0.record (i := f + (i + 1)) (by rw [setRun_length (by omega)]; omega) (Ext.refl _) (by omega) ⟨3, 0, []⟩ (.vs .nil []) (.inl ⟨rfl, rfl⟩)
          have hset : (setRun ps f (i + 1) (bigG many)).set (f + (i + 1)) ⟨3, 0, []⟩ = setRun ps f (i + 1 + 1) (bigG many) := by
            have hg : bigG many (i + 1) = ⟨3, 0, []⟩ := by unfold bigG; rw [if_neg (by omega)]
            rw [← setRun_succ (ps := ps) (f := f) (j := i + 1) (g := bigG many) (by omega), hg]
          rw [hset] at hrec0
          refine ⟨_, _, by
            simp only [dx, reduceIte, Nat.reduceLT, Nat.reduceLeDiff, Nat.reduceEqDiff, Nat.reduceAdd, Nat.reduceMul, Nat.reduceSub, Nat.reduceBEq, Int.reduceEq, Int.reduceLT, Int.reduceLE, Int.reduceToNat, reduceCtorEq, sx, fx49, t2, t4, t8, t9, t10, w5, hlt, ms0, mp0, hlt2, hlen0, hin0, Int.natCast_nonneg, Int.toNat_natCast, hw']
            rfl, by omega, ?_, ?_, ?_, ?_, ?_, _, ?_, fun r hr => ?_, hrec0, ?_, fun r hr => ?_, ?_⟩
          · simp only [Tr.get_set, Nat.reduceEqDiff, reduceIte, t2]
          · simp only [Tr.get_set, Nat.reduceEqDiff, reduceIte, t4]
          · simp only [Tr.get_set, Nat.reduceEqDiff, reduceIte, t8]
          · simp only [Tr.get_set, Nat.reduceEqDiff, reduceIte, t9]
          · simp only [Tr.get_set, Nat.reduceEqDiff, reduceIte]
            rfl
          · rw [List.length_set]; exact hl0
          · rcases rowsOf_set_mem hr with h5 | h5
            · exact hrw r h5
            · simp [rowOf] at h5
          · simpa using nx
          · rw [AMem.get_put, if_neg (by omega)]; exact fr r hr
          · rw [AMem.get_put, if_neg (by omega)]; exact go
        · rintro T σ0 ⟨_, t2, t4, t8, t9, t10, its0, hl0, hrw, hM0, nx, fr, go⟩
          rw [show many - 1 + 1 = many by omega] at t10 hM0
          have hge : ¬ (((f + many : Nat) : Int) < ((f + many : Nat) : Int)) := by omega
          refine ⟨_, _, _, by
            simp only [dx, reduceIte, Nat.reduceLT, Nat.reduceLeDiff, Nat.reduceEqDiff, Nat.reduceAdd, Nat.reduceMul, Nat.reduceSub, Nat.reduceBEq, Int.reduceEq, Int.reduceLT, Int.reduceLE, Int.reduceToNat, reduceCtorEq, sx, fx49, t8, t9, t10, w5, hge]
            rfl, by simp, rfl, ?_, ?_, ?_, its0, hl0, hrw, hM0, nx, fr, go⟩
          · simp only [Tr.get_set, Nat.reduceEqDiff, reduceIte, t2]
          · simp only [Tr.get_set, Nat.reduceEqDiff, reduceIte, t4]
          · simp only [Tr.get_set, Nat.reduceEqDiff, reduceIte, t9]
        · refine ⟨by omega, ?_, ?_, ?_, ?_, ?_, _, ?_, fun r hr => ?_, hrec, n2, fun r hr => ?_, go2⟩
          · simp only [Tr.get_set, Nat.reduceEqDiff, reduceIte]
          · simp only [Tr.get_set, Nat.reduceEqDiff, reduceIte]
          · simp only [Tr.get_set, Nat.reduceEqDiff, reduceIte]
          · simp only [Tr.get_set, Nat.reduceEqDiff, reduceIte]
          · simp only [Tr.get_set, Nat.reduceEqDiff, reduceIte] <;> rfl
          · rw [List.length_set]
          · rcases rowsOf_set_mem hr with h5 | h5
            · have h6 := h.own.it.bound r h5
              have h7 : r ≠ sp := fun e => h.own.ns (by rw [← e]; exact h5)
              simp only [AMem.next_push] at h6
              omega
            · simp [rowOf] at h5
          · rw [hσ2, AMem.get_put, if_neg (by omega), ex1.2 r (by omega)]
      have ms' := hM'.own.ms
      rw [hlen'] at ms'
      simp only [dx, reduceIte, Nat.reduceLT, Nat.reduceLeDiff, Nat.reduceEqDiff, Nat.reduceAdd, Nat.reduceMul, Nat.reduceSub, Nat.reduceBEq, Int.reduceEq, Int.reduceLT, Int.reduceLE, Int.reduceToNat, reduceCtorEq, sx, fx49, t2, t4, t9, ms', go, w6]
      refine ⟨_, _, its', rfl, by simp only [Tr.get_set, Nat.reduceEqDiff, reduceIte, t4], by simp only [Tr.get_set, Nat.reduceEqDiff, reduceIte], by simp only [Tr.get_set, Nat.reduceEqDiff, reduceIte], by rw [AMem.get_put, if_pos rfl], fun r hr => by rw [AMem.get_put, if_neg (by omega)]; exact fr r hr, by simp only [AMem.next_put]; omega, hlen', hM'.away _ (by omega) (by omega) (by omega) (fun hm => ?_)⟩
      have := hrw _ hm
      omega
    obtain ⟨T1, σ', its', r1, r2, r3, r4, r5, r6, r7, r8, r9⟩ := run
    refine ⟨σ', r6, by omega, .inr ⟨f, its', rfl, r8, ?_, r9⟩⟩
    refine q_call (first := []) (caps := []) (vs := [.agg [.slice pr 0 its.length none 3, .slice wr 0 ws.length none 1], .int .i64 ((64 * f : Nat) : Int), .bool true]) fn49 rfl (by simp [Try.f49]) r1 (by simp) ?_
    simp only [Try.f49, resultsA, resultA, dx, reduceIte, Nat.reduceLT, Nat.reduceLeDiff, Nat.reduceEqDiff, Nat.reduceAdd, Nat.reduceMul, Nat.reduceSub, Nat.reduceBEq, Int.reduceEq, Int.reduceLT, Int.reduceLE, Int.reduceToNat, reduceCtorEq, sx, fx49, r2, r3, r4, r5]
end Go.Proofs.Ytjkfdiglokkceaa

/- Heaps: the reference's allocated: small blocks. -/
set_option maxRecDepth 100000
set_option linter.unusedSimpArgs false
set_option linter.unusedVariables false
namespace Go.Proofs.Ytjkfdiglokkceaa
open Go Go.Proofs.Ytjkfdiglokkceaa.Pale
variable {k : Nat} {σ : AMem}

noncomputable def bodyA : Code := bodyOf Try.f49
set_option maxHeartbeats 1000000 in
/-- The inner loop of allocated. -/
theorem rinner {T : Tr AVal} {X : Out} {low sp pr wr q i : Nat} {its : List MItem} {ps : List Pg} {ws : List Int} {size : Int} (h : HeapM low σ sp pr none wr none its ps ws) (hr : RightH ps ws) (hi : i < ps.length) (hq : σ.get q = some (.row 3 true [.int .u8 (pgAt ps i).kind, .int .i64 (pgAt ps i).n, (its[i]'(by rw [pg_len h.pi]; exact hi)).x])) (ho : σ.get (sp + 1) = some (.row 2 true [.vs .nil [], .vs .nil []])) (hrw : ∀ r, r ∈ rowsOf its → r ≠ sp ∧ r ≠ sp + 1 ∧ r ≠ q) (t2 : T.get 2 = some (.ptr sp 0)) (t4 : T.get 4 = some (.ptr (sp + 1) 0)) (t7 : T.get 7 = some (.int .i64 size)) (t11 : T.get 11 = some (.int .i64 (i : Nat))) (t12 : T.get 12 = some (.ptr q 0)) (t13 : T.get 13 = some (.int .i64 0)) (hk : 2000 ≤ k)
    (hX : execC lawProg (callN lawProg k) k 49 123 (innerC (stmtC (innerC (stmtC (innerC (innerC (stmtC bodyA 5))) 2)) 2)) T σ = X) :
    ∃ e T' σ', X = some (e, T', σ') ∧ ((e = .exit 4 ∧ σ' = σ ∧ T'.get 2 = some (.ptr sp 0) ∧ T'.get 4 = some (.ptr (sp + 1) 0) ∧ T'.get 7 = some (.int .i64 size) ∧ T'.get 11 = some (.int .i64 (i : Nat)) ∧ ((pgAt ps i).kind = 1 → (pgAt ps i).n = size → firstFree (pgAt ps i) = none)) ∨
      (e = .ret ∧ (pgAt ps i).kind = 1 ∧ (pgAt ps i).n = size ∧ ∃ s r cap, firstFree (pgAt ps i) = some s ∧ (its[i]'(by rw [pg_len h.pi]; exact hi)).x = .slice r 0 (pgAt ps i).used.length cap 1 ∧ σ' = (σ.put r (.row 1 false ((boolV (pgAt ps i).used).set s (.bool true)))).put (sp + 1) (.row 2 true [.slice pr 0 its.length none 3, .slice wr 0 ws.length none 1]) ∧ T'.get 4 = some (.ptr (sp + 1) 0) ∧ T'.get 5 = some (.int .i64 (64 * (i : Int) + (s : Int) * size)) ∧ T'.get 6 = some (.bool true))) := by
  have hil := pg_len h.pi
  have hii : i < its.length := by omega
  have hmany := hr.many
  rw [← hX]
  by_cases k1 : (pgAt ps i).kind = 1
  · by_cases kn : (pgAt ps i).n = size
    · have hsc := small_cases (hr.shape i hi) k1
      have hu0 : (pgAt ps i).used ≠ [] := fun e => by rw [e] at hsc; simp at hsc
      obtain ⟨r, cap, hx, r2, r3, hrow⟩ := own_used h.own h.pi h.ox hii hu0
      have hrm : r ∈ rowsOf its := mem_rowsOf (List.getElem_mem hii) (by rw [hx]; simp [rowOf])
      obtain ⟨ns, nso, nq⟩ := hrw r hrm
      rw [hx] at hq
      have hb1 : ((pgAt ps i).kind == 1) = true := by rw [k1]; rfl
      have hb2 : ((pgAt ps i).n == size) = true := by rw [kn]; simp
      have hul : (pgAt ps i).used.length ≤ 32 := by rcases hsc with ⟨_, h⟩ | ⟨_, h⟩ | ⟨_, h⟩ | ⟨_, h⟩ | ⟨_, h⟩ <;> omega
      have hsz : 2 ≤ size ∧ size ≤ 32 := by rw [← kn]; rcases hsc with ⟨h, _⟩ | ⟨h, _⟩ | ⟨h, _⟩ | ⟨h, _⟩ | ⟨h, _⟩ <;> omega
      obtain ⟨e, T', σ', h1, _, h2⟩ := exec_loop2 (A := lawProg) (call := callN lawProg k) (k := k) (f := 49) (N := 123) (T := T) (σ := σ) (c := innerC (innerC (stmtC (innerC (stmtC (innerC (innerC (stmtC bodyA 5))) 2)) 2))) (R := fun e T' σ' => (e = .exit 4 ∧ σ' = σ ∧ T'.get 2 = some (.ptr sp 0) ∧ T'.get 4 = some (.ptr (sp + 1) 0) ∧ T'.get 7 = some (.int .i64 size) ∧ T'.get 11 = some (.int .i64 (i : Nat)) ∧ firstFree (pgAt ps i) = none) ∨
        (e = .ret ∧ ∃ s, firstFree (pgAt ps i) = some s ∧ σ' = (σ.put r (.row 1 false ((boolV (pgAt ps i).used).set s (.bool true)))).put (sp + 1) (.row 2 true [.slice pr 0 its.length none 3, .slice wr 0 ws.length none 1]) ∧ T'.get 4 = some (.ptr (sp + 1) 0) ∧ T'.get 5 = some (.int .i64 (64 * (i : Int) + (s : Int) * size)) ∧ T'.get 6 = some (.bool true)))
        (fun s T σ' => s ≤ (pgAt ps i).used.length ∧ σ' = σ ∧ T.get 2 = some (.ptr sp 0) ∧ T.get 4 = some (.ptr (sp + 1) 0) ∧ T.get 7 = some (.int .i64 size) ∧ T.get 11 = some (.int .i64 (i : Nat)) ∧ T.get 12 = some (.ptr q 0) ∧ T.get 13 = some (.int .i64 (s : Nat)) ∧ ∀ t, t < s → (pgAt ps i).used[t]?.getD false = true) (pgAt ps i).used.length (by omega) (by
          rintro s hs T σ0 ⟨_, rfl, t2, t4, t7, t11, t12, t13, hall⟩
          have hlt : ((s : Nat) : Int) < (((pgAt ps i).used.length : Nat) : Int) := by omega
          have hw' := i64_succ (i := s) (by omega)
          have hget := boolV_get hs
          have hum : (pgAt ps i).used[s]?.getD false = (pgAt ps i).used[s] := by rw [List.getElem?_eq_getElem hs]; rfl
          have hin : s + 1 ≤ (pgAt ps i).used.length := by omega
          cases hus : (pgAt ps i).used[s] with
          | true =>
            rw [hus] at hget hum
            refine .inl ⟨_, _, by
              simp only [bodyA, bodyOf, Try.f49, Option.getD_some, flatC, innerC, stmtC, List.append_assoc, dx, reduceIte, Nat.reduceLT, Nat.reduceLeDiff, Nat.reduceEqDiff, Nat.reduceAdd, Nat.reduceMul, Nat.reduceSub, Nat.reduceBEq, Int.reduceEq, Int.reduceLT, Int.reduceLE, Int.reduceToNat, reduceCtorEq, sx, fx49, t2, t4, t7, t11, t12, t13, hq, hb1, hb2, hlt, hrow, boolV_length, hget, Int.natCast_nonneg, Int.toNat_natCast, Nat.zero_add, Nat.mul_one, hw']
              rfl, by omega, rfl, ?_, ?_, ?_, ?_, ?_, ?_, fun t ht => ?_⟩
            · simp only [Tr.get_set, Nat.reduceEqDiff, reduceIte, t2]
            · simp only [Tr.get_set, Nat.reduceEqDiff, reduceIte, t4]
            · simp only [Tr.get_set, Nat.reduceEqDiff, reduceIte, t7]
            · simp only [Tr.get_set, Nat.reduceEqDiff, reduceIte, t11]
            · simp only [Tr.get_set, Nat.reduceEqDiff, reduceIte, t12]
            · simp only [Tr.get_set, Nat.reduceEqDiff, reduceIte]
            · by_cases e : t = s
              · rw [e]; exact hum
              · exact hall t (by omega)
          | false =>
            rw [hus] at hget hum
            have hff := firstFree_of hs hall hum
            have hsn : 0 ≤ (s : Int) * size ∧ (s : Int) * size ≤ 1024 := by
              obtain ⟨m, hm⟩ : ∃ m : Nat, size = (m : Int) := ⟨size.toNat, by omega⟩
              rw [hm]
              have h1 : s * m ≤ 32 * 32 := Nat.mul_le_mul (by omega) (by omega)
              have h2 : ((s * m : Nat) : Int) = (s : Int) * (m : Int) := by simp
              omega
            have w1 : IntKind.i64.wrap (((i : Nat) : Int) * 64) = 64 * (i : Int) := by rw [i64_id (by omega) (by omega)]; omega
            have w2 : IntKind.i64.wrap (((s : Nat) : Int) * size) = (s : Int) * size := i64_id (by omega) (by omega)
            have w3 : IntKind.i64.wrap (64 * (i : Int) + (s : Int) * size) = 64 * (i : Int) + (s : Int) * size := i64_id (by omega) (by omega)
            have ms := h.own.ms
            have q1 : ¬ r = sp := ns
            have q2 : ¬ r = sp + 1 := nso
            refine .inr ⟨_, _, _, by
              simp only [bodyA, bodyOf, Try.f49, Option.getD_some, flatC, innerC, stmtC, List.append_assoc, dx, reduceIte, Nat.reduceLT, Nat.reduceLeDiff, Nat.reduceEqDiff, Nat.reduceAdd, Nat.reduceMul, Nat.reduceSub, Nat.reduceBEq, Int.reduceEq, Int.reduceLT, Int.reduceLE, Int.reduceToNat, reduceCtorEq, sx, fx49, t2, t4, t7, t11, t12, t13, hq, hb1, hb2, hlt, hrow, boolV_length, hget, Int.natCast_nonneg, Int.toNat_natCast, Nat.zero_add, Nat.mul_one, hin, q1, q2, ms, ho, w1, w2, w3]
              rfl, by simp, .inr ⟨rfl, s, hff, rfl, ?_, ?_, ?_⟩⟩
            · simp only [Tr.get_set, Nat.reduceEqDiff, reduceIte, t4]
            · simp only [Tr.get_set, Nat.reduceEqDiff, reduceIte]
            · simp only [Tr.get_set, Nat.reduceEqDiff, reduceIte]) (by
          rintro T σ0 ⟨_, rfl, t2, t4, t7, t11, t12, t13, hall⟩
          have hge : ¬ ((((pgAt ps i).used.length : Nat) : Int) < (((pgAt ps i).used.length : Nat) : Int)) := by omega
          refine ⟨_, _, _, by
            simp only [bodyA, bodyOf, Try.f49, Option.getD_some, flatC, innerC, stmtC, List.append_assoc, dx, reduceIte, Nat.reduceLT, Nat.reduceLeDiff, Nat.reduceEqDiff, Nat.reduceAdd, Nat.reduceMul, Nat.reduceSub, Nat.reduceBEq, Int.reduceEq, Int.reduceLT, Int.reduceLE, Int.reduceToNat, reduceCtorEq, sx, fx49, t2, t4, t7, t11, t12, t13, hq, hb1, hb2, hge]
            rfl, by simp, .inl ⟨rfl, rfl, ?_, ?_, ?_, ?_, firstFree_none.2 hall⟩⟩
          · simp only [Tr.get_set, Nat.reduceEqDiff, reduceIte, t2]
          · simp only [Tr.get_set, Nat.reduceEqDiff, reduceIte, t4]
          · simp only [Tr.get_set, Nat.reduceEqDiff, reduceIte, t7]
          · simp only [Tr.get_set, Nat.reduceEqDiff, reduceIte, t11]) ⟨Nat.zero_le _, rfl, t2, t4, t7, t11, t12, t13, fun t ht => by omega⟩
      refine ⟨e, T', σ', h1, ?_⟩
      rcases h2 with ⟨a1, a2, a3, a4, a5, a6, a7⟩ | ⟨a1, s, a2, a3⟩
      · exact .inl ⟨a1, a2, a3, a4, a5, a6, fun _ _ => a7⟩
      · exact .inr ⟨a1, k1, kn, s, r, cap, a2, hx, a3⟩
    · have hb1 : ((pgAt ps i).kind == 1) = true := by rw [k1]; rfl
      have hb2 : ((pgAt ps i).n == size) = false := by rw [beq_eq_false_iff_ne]; exact kn
      obtain ⟨e, T', σ', h1, _, h2⟩ := exec_loop (A := lawProg) (call := callN lawProg k) (k := k) (f := 49) (N := 123) (T := T) (σ := σ) (c := innerC (innerC (stmtC (innerC (stmtC (innerC (innerC (stmtC bodyA 5))) 2)) 2))) (R := fun e T' σ' => e = .exit 4 ∧ σ' = σ ∧ T'.get 2 = some (.ptr sp 0) ∧ T'.get 4 = some (.ptr (sp + 1) 0) ∧ T'.get 7 = some (.int .i64 size) ∧ T'.get 11 = some (.int .i64 (i : Nat))) (fun _ T' σ' => T' = T ∧ σ' = σ) 0 (by omega) (by intro i hi; omega) (by
          rintro _ _ ⟨rfl, rfl⟩
          refine ⟨_, _, _, by
            simp only [bodyA, bodyOf, Try.f49, Option.getD_some, flatC, innerC, stmtC, List.append_assoc, dx, reduceIte, Nat.reduceLT, Nat.reduceLeDiff, Nat.reduceEqDiff, Nat.reduceAdd, Nat.reduceMul, Nat.reduceSub, Nat.reduceBEq, Int.reduceEq, Int.reduceLT, Int.reduceLE, Int.reduceToNat, reduceCtorEq, sx, fx49, t2, t4, t7, t11, t12, t13, hq, hb1, hb2]
            rfl, by simp, rfl, rfl, ?_, ?_, ?_, ?_⟩
          · simp only [Tr.get_set, Nat.reduceEqDiff, reduceIte, t2]
          · simp only [Tr.get_set, Nat.reduceEqDiff, reduceIte, t4]
          · simp only [Tr.get_set, Nat.reduceEqDiff, reduceIte, t7]
          · simp only [Tr.get_set, Nat.reduceEqDiff, reduceIte, t11]) ⟨rfl, rfl⟩
      exact ⟨e, T', σ', h1, .inl ⟨h2.1, h2.2.1, h2.2.2.1, h2.2.2.2.1, h2.2.2.2.2.1, h2.2.2.2.2.2, fun _ e => absurd e kn⟩⟩
  · have hb1 : ((pgAt ps i).kind == 1) = false := by rw [beq_eq_false_iff_ne]; exact k1
    obtain ⟨e, T', σ', h1, _, h2⟩ := exec_loop (A := lawProg) (call := callN lawProg k) (k := k) (f := 49) (N := 123) (T := T) (σ := σ) (c := innerC (innerC (stmtC (innerC (stmtC (innerC (innerC (stmtC bodyA 5))) 2)) 2))) (R := fun e T' σ' => e = .exit 4 ∧ σ' = σ ∧ T'.get 2 = some (.ptr sp 0) ∧ T'.get 4 = some (.ptr (sp + 1) 0) ∧ T'.get 7 = some (.int .i64 size) ∧ T'.get 11 = some (.int .i64 (i : Nat))) (fun _ T' σ' => T' = T ∧ σ' = σ) 0 (by omega) (by intro i hi; omega) (by
        rintro _ _ ⟨rfl, rfl⟩
        refine ⟨_, _, _, by
          simp only [bodyA, bodyOf, Try.f49, Option.getD_some, flatC, innerC, stmtC, List.append_assoc, dx, reduceIte, Nat.reduceLT, Nat.reduceLeDiff, Nat.reduceEqDiff, Nat.reduceAdd, Nat.reduceMul, Nat.reduceSub, Nat.reduceBEq, Int.reduceEq, Int.reduceLT, Int.reduceLE, Int.reduceToNat, reduceCtorEq, sx, fx49, t2, t4, t7, t11, t12, t13, hq, hb1]
          rfl, by simp, rfl, rfl, ?_, ?_, ?_, ?_⟩
        · simp only [Tr.get_set, Nat.reduceEqDiff, reduceIte, t2]
        · simp only [Tr.get_set, Nat.reduceEqDiff, reduceIte, t4]
        · simp only [Tr.get_set, Nat.reduceEqDiff, reduceIte, t7]
        · simp only [Tr.get_set, Nat.reduceEqDiff, reduceIte, t11]) ⟨rfl, rfl⟩
    exact ⟨e, T', σ', h1, .inl ⟨h2.1, h2.2.1, h2.2.2.1, h2.2.2.2.1, h2.2.2.2.2.1, h2.2.2.2.2.2, fun e => absurd e k1⟩⟩
end Go.Proofs.Ytjkfdiglokkceaa

/- Heaps: the reference's allocated, and Alloc. -/
set_option maxRecDepth 100000
set_option linter.unusedSimpArgs false
set_option linter.unusedVariables false
namespace Go.Proofs.Ytjkfdiglokkceaa
open Go Go.Proofs.Ytjkfdiglokkceaa.Pale
variable {k : Nat} {σ : AMem}

set_option maxHeartbeats 2000000 in
theorem rallocated_small {low pr wr : Nat} {its : List MItem} {ps : List Pg} {ws : List Int} {n : Nat} (h : HeapM low (σ.push (.row 2 true [.slice pr 0 its.length none 3, .slice wr 0 ws.length none 1])) σ.next pr none wr none its ps ws) (hr : RightH ps ws) (h1 : 1 ≤ n) (h2 : n ≤ 32) (hk : 4000 ≤ k) :
    ∃ σ', (∀ r, r < low → σ'.get r = σ.get r) ∧ σ.next ≤ σ'.next ∧
    ((allocL ps (n : Nat) = none ∧ callN lawProg (k + 1) (.func 49 [] []) [.agg [.slice pr 0 its.length none 3, .slice wr 0 ws.length none 1], .int .i64 (n : Nat)] σ = some (.tuple [.agg [.slice pr 0 its.length none 3, .slice wr 0 ws.length none 1], .int .i64 0, .bool false], σ')) ∨
    (∃ qs b its', allocL ps (n : Nat) = some (qs, b) ∧ its'.length = its.length ∧ callN lawProg (k + 1) (.func 49 [] []) [.agg [.slice pr 0 its.length none 3, .slice wr 0 ws.length none 1], .int .i64 (n : Nat)] σ = some (.tuple [.agg [.slice pr 0 its.length none 3, .slice wr 0 ws.length none 1], .int .i64 b.at_, .bool true], σ') ∧ HeapM low σ' σ.next pr none wr none its' qs ws)) := by
  obtain ⟨sp, hsp⟩ : ∃ s, s = σ.next := ⟨_, rfl⟩
  rw [← hsp] at h ⊢
  have hil := pg_len h.pi
  have hmany := hr.many
  have hsz := fun (σ : AMem) => sizeFor_call (k := k) (σ := σ) ((n : Nat) : Int) (by omega)
  have hsz0 : sizeR ((n : Nat) : Int) = sizeF (n : Nat) := by unfold sizeR; rw [if_pos (by omega)]
  rw [hsz0] at hsz
  obtain ⟨m, hm, m2, m32, sz0, sz2, sz32⟩ := sizeF_cases (n : Nat)
  obtain ⟨size, hsize⟩ : ∃ s, s = sizeF ((n : Nat) : Int) := ⟨_, rfl⟩
  have halloc : allocL ps (n : Nat) = match placeL ps size with
      | some (j, s) => some (ps.set j (useAt (pgAt ps j) s true), slotB j (pgAt ps j) s)
      | none => match runL ps 1 with
        | some f => some (ps.set f (smallG size), ⟨f, 0, 64 * f, size⟩)
        | none => none := by
    unfold allocL
    rw [if_neg (by omega), ← hsize]
    rfl
  rw [← hsize] at hsz hm sz0 sz2 sz32
  have hszb : (size == 0) = false := by rw [beq_eq_false_iff_ne]; exact sz0
  obtain ⟨σ1, hσ1⟩ : ∃ s, s = (σ.push (.row 2 true [.slice pr 0 its.length none 3, .slice wr 0 ws.length none 1])).push (.row 2 true [.vs .nil [], .vs .nil []]) := ⟨_, rfl⟩
  have n1 : σ1.next = sp + 2 := by rw [hσ1, hsp]; simp
  have hM1 : HeapM low σ1 sp pr none wr none its ps ws := by rw [hσ1]; exact h.ext (Ext.push _ _)
  have ex1 : Ext σ σ1 := by rw [hσ1]; exact (Ext.push _ _).trans (Ext.push _ _)
  have go1 : σ1.get (sp + 1) = some (.row 2 true [.vs .nil [], .vs .nil []]) := by rw [hσ1, AMem.get_push, if_pos (by simp [hsp])]
  obtain ⟨l1, l2, l3⟩ := h.own.lo
  obtain ⟨x1, x2, x3⟩ := h.own.nx
  simp only [AMem.next_push] at x1 x2 x3
  have hrb : ∀ r, r ∈ rowsOf its → r < sp := fun r hr => by
    have h6 := h.own.it.bound r hr
    have h7 : r ≠ sp := fun e => h.own.ns (by rw [← e]; exact hr)
    simp only [AMem.next_push] at h6
    omega
  have hlen := items_len (pg_two h.pi)
  have go2 : ∀ {its' : List MItem} {qs : List Pg} {σ' : AMem}, HeapM low σ' sp pr none wr none its' qs ws → (∀ r, r ∈ rowsOf its' → r ≠ sp + 1) → HeapM low (σ'.put (sp + 1) (.row 2 true [.slice pr 0 its.length none 3, .slice wr 0 ws.length none 1])) sp pr none wr none its' qs ws := fun hM hrw => hM.away _ (by omega) (by omega) (by omega) (fun hm => hrw _ hm rfl)
  have fin : ∀ (T1 : Tr AVal) (σ' : AMem) (at_ : Int) (b : Bool), execC lawProg (callN lawProg k) k 49 123 (bodyOf Try.f49) (initT 0 [.agg [.slice pr 0 its.length none 3, .slice wr 0 ws.length none 1], .int .i64 (n : Nat)] .nil) σ = some (.ret, T1, σ') → T1.get 4 = some (.ptr (sp + 1) 0) → T1.get 5 = some (.int .i64 at_) → T1.get 6 = some (.bool b) → σ'.get (sp + 1) = some (.row 2 true [.slice pr 0 its.length none 3, .slice wr 0 ws.length none 1]) → callN lawProg (k + 1) (.func 49 [] []) [.agg [.slice pr 0 its.length none 3, .slice wr 0 ws.length none 1], .int .i64 (n : Nat)] σ = some (.tuple [.agg [.slice pr 0 its.length none 3, .slice wr 0 ws.length none 1], .int .i64 at_, .bool b], σ') := by
    intro T1 σ' at_ b r1 r2 r3 r4 g2
    refine q_call (first := []) (caps := []) (vs := [.agg [.slice pr 0 its.length none 3, .slice wr 0 ws.length none 1], .int .i64 at_, .bool b]) fn49 rfl (by simp [Try.f49]) r1 (by simp) ?_
    simp only [Try.f49, resultsA, resultA, dx, reduceIte, Nat.reduceLT, Nat.reduceLeDiff, Nat.reduceEqDiff, Nat.reduceAdd, Nat.reduceMul, Nat.reduceSub, Nat.reduceBEq, Int.reduceEq, Int.reduceLT, Int.reduceLE, Int.reduceToNat, reduceCtorEq, sx, fx49, r2, r3, r4, g2]
  -- the loop over the pages
  have main : ∀ (T : Tr AVal) (X : Out), T.get 2 = some (.ptr sp 0) → T.get 4 = some (.ptr (sp + 1) 0) → T.get 7 = some (.int .i64 size) → T.get 11 = some (.int .i64 0) → execC lawProg (callN lawProg k) k 49 123 (innerC (stmtC bodyA 5)) T σ1 = X → ∃ e T' σ', X = some (e, T', σ') ∧ ((e = .exit 2 ∧ placeL ps size = none ∧ Ext σ1 σ' ∧ T'.get 2 = some (.ptr sp 0) ∧ T'.get 4 = some (.ptr (sp + 1) 0) ∧ T'.get 7 = some (.int .i64 size)) ∨
      (e = .ret ∧ ∃ j s its', placeL ps size = some (j, s) ∧ (∀ r, r < low → σ'.get r = σ.get r) ∧ σ.next ≤ σ'.next ∧ its'.length = its.length ∧ HeapM low σ' sp pr none wr none its' (ps.set j (useAt (pgAt ps j) s true)) ws ∧ σ'.get (sp + 1) = some (.row 2 true [.slice pr 0 its.length none 3, .slice wr 0 ws.length none 1]) ∧ T'.get 4 = some (.ptr (sp + 1) 0) ∧ T'.get 5 = some (.int .i64 (slotB j (pgAt ps j) s).at_) ∧ T'.get 6 = some (.bool true))) := by
    intro T X t2 t4 t7 t11 hX
    rw [← hX]
    obtain ⟨e, T', σ', g1, _, g2⟩ := exec_loop2 (A := lawProg) (call := callN lawProg k) (k := k) (f := 49) (N := 123) (T := T) (σ := σ1) (c := innerC (innerC (stmtC bodyA 5))) (R := fun e T' σ' => (e = .exit 2 ∧ placeL ps size = none ∧ Ext σ1 σ' ∧ T'.get 2 = some (.ptr sp 0) ∧ T'.get 4 = some (.ptr (sp + 1) 0) ∧ T'.get 7 = some (.int .i64 size)) ∨
      (e = .ret ∧ ∃ j s its', placeL ps size = some (j, s) ∧ (∀ r, r < low → σ'.get r = σ.get r) ∧ σ.next ≤ σ'.next ∧ its'.length = its.length ∧ HeapM low σ' sp pr none wr none its' (ps.set j (useAt (pgAt ps j) s true)) ws ∧ σ'.get (sp + 1) = some (.row 2 true [.slice pr 0 its.length none 3, .slice wr 0 ws.length none 1]) ∧ T'.get 4 = some (.ptr (sp + 1) 0) ∧ T'.get 5 = some (.int .i64 (slotB j (pgAt ps j) s).at_) ∧ T'.get 6 = some (.bool true)))
      (fun i T σ' => i ≤ ps.length ∧ Ext σ1 σ' ∧ T.get 2 = some (.ptr sp 0) ∧ T.get 4 = some (.ptr (sp + 1) 0) ∧ T.get 7 = some (.int .i64 size) ∧ T.get 11 = some (.int .i64 (i : Nat)) ∧ placeTo ps size i = none) ps.length (by omega) (by
        rintro i hi T σ0 ⟨_, ex, t2, t4, t7, t11, hno⟩
        have hii : i < its.length := by omega
        have hlt : ((i : Nat) : Int) < ((its.length : Nat) : Int) := by omega
        have hw' := i64_succ (i := i) (by omega)
        have hload := pg_load h.pi hii
        have hM0 := hM1.ext ex
        have ms0 := hM0.own.ms
        have mp0 := hM0.own.mp
        have hin : i * 3 + 3 ≤ its.length * 3 := by omega
        have hone : its[i].x.oneCell = true := by
          rcases (h.own.it.1 its[i] (List.getElem_mem hii)).2.2 with ⟨_, e⟩ | ⟨_, _, e, _⟩ <;> rw [e] <;> rfl
        have hx := ex.1
        obtain ⟨q, hqd⟩ : ∃ q, q = σ0.next := ⟨_, rfl⟩
        obtain ⟨σ2, hσ2⟩ : ∃ m, m = (σ0.push (.row 3 true [.int .u8 0, .int .i64 0, .vs .nil []])).put q (.row 3 true [.int .u8 (pgAt ps i).kind, .int .i64 (pgAt ps i).n, its[i].x]) := ⟨_, rfl⟩
        have n2 : σ2.next = q + 1 := by rw [hσ2, hqd]; simp
        have ex2 : Ext σ0 σ2 := by rw [hσ2]; exact (Ext.push _ _).put _ _ (by omega)
        have gq : σ2.get q = some (.row 3 true [.int .u8 (pgAt ps i).kind, .int .i64 (pgAt ps i).n, its[i].x]) := by rw [hσ2, AMem.get_put, if_pos rfl]
        have hM2 := hM0.ext ex2
        have goo : σ2.get (sp + 1) = some (.row 2 true [.vs .nil [], .vs .nil []]) := by rw [ex2.2 _ (by omega), ex.2 _ (by omega)]; exact go1
        have hRI := fun (T : Tr AVal) (X : Out) a b c d e f (hX : _ = X) => rinner (k := k) (T := T) (X := X) (σ := σ2) (q := q) (i := i) (size := size) hM2 hr hi gq goo (fun r hr => by have := hrb r hr; exact ⟨by omega, by omega, by omega⟩) a b c d e f (by omega) hX
        simp only [bodyA, bodyOf, Try.f49, Option.getD_some, flatC, innerC, stmtC, List.append_assoc, dx, reduceIte, Nat.reduceLT, Nat.reduceLeDiff, Nat.reduceEqDiff, Nat.reduceAdd, Nat.reduceMul, Nat.reduceSub, Nat.reduceBEq, Int.reduceEq, Int.reduceLT, Int.reduceLE, Int.reduceToNat, reduceCtorEq, sx, fx49, Nat.add_assoc, Nat.add_eq_left, Nat.left_eq_add, Nat.add_left_cancel_iff, t2, t4, t7, t11, ms0, mp0, hlt, hlen, hin, hload, hone, Int.natCast_nonneg, Int.toNat_natCast, ← hqd, ← hσ2]
        generalize hL : execC _ _ _ _ _ (Code.loop _) _ _ = r
        obtain ⟨e, T', σ', rfl, hc⟩ := hRI _ _ (by simp only [Tr.get_set, Nat.reduceEqDiff, reduceIte, t2]) (by simp only [Tr.get_set, Nat.reduceEqDiff, reduceIte, t4]) (by simp only [Tr.get_set, Nat.reduceEqDiff, reduceIte, t7]) (by simp only [Tr.get_set, Nat.reduceEqDiff, reduceIte, t11]) (by simp only [Tr.get_set, Nat.reduceEqDiff, reduceIte]) (by simp only [Tr.get_set, Nat.reduceEqDiff, reduceIte]) hL
        rcases hc with ⟨rfl, rfl, u2, u4, u7, u11, hff⟩ | ⟨rfl, k1, kn, s, r, cap, hff, hx2, rfl, u4, u5, u6⟩
        · refine .inl ⟨_, _, by
            simp only [dx, reduceIte, Nat.reduceLT, Nat.reduceLeDiff, Nat.reduceEqDiff, Nat.reduceAdd, Nat.reduceMul, Nat.reduceSub, Nat.reduceBEq, Int.reduceEq, Int.reduceLT, Int.reduceLE, Int.reduceToNat, reduceCtorEq, sx, fx49, u11, hw']
            rfl, by omega, ex.trans ex2, ?_, ?_, ?_, ?_, ?_⟩
          · simp only [Tr.get_set, Nat.reduceEqDiff, reduceIte, u2]
          · simp only [Tr.get_set, Nat.reduceEqDiff, reduceIte, u4]
          · simp only [Tr.get_set, Nat.reduceEqDiff, reduceIte, u7]
          · simp only [Tr.get_set, Nat.reduceEqDiff, reduceIte]
          · rw [placeTo, hno]
            simp only
            split
            · rename_i hc; rw [hff hc.1 hc.2]; rfl
            · rfl
        · have hrm : r ∈ rowsOf its := mem_rowsOf (List.getElem_mem hii) (by rw [hx2]; simp [rowOf])
          have hrs := hrb r hrm
          have hrl := (h.own.it.bound r hrm).1
          obtain ⟨its', hM', hcells⟩ := hM2.slot (j := s) hii hx2 true
          have hlen' : its'.length = its.length := by simpa using congrArg List.length hcells
          have hrw' : ∀ r, r ∈ rowsOf its' → r < sp := by
            have hxs : its'.map (fun a => a.x) = its.map (fun a => a.x) := by
              have hp1 := pg_two hM'.pi
              have hp2 := pg_two h.pi
              apply List.ext_getElem (by simpa using hlen')
              intro t h1 h2
              simp only [List.getElem_map]
              have := congrArg (fun l => l[t]?) hcells
              simp only [List.getElem?_map] at this
              rw [List.getElem?_eq_getElem (by simpa using h1), List.getElem?_eq_getElem (by simpa using h2)] at this
              simp only [Option.map_some, Option.some.injEq] at this
              unfold MItem.cells at this
              have := congrArg List.getLast? this
              simpa using this
            have hro : rowsOf its' = rowsOf its := by
              unfold rowsOf
              rw [← List.flatMap_map (fun a : MItem => a.x) rowOf, ← List.flatMap_map (fun a : MItem => a.x) rowOf, hxs]
            intro r hr
            rw [hro] at hr
            exact hrb r hr
          refine .inr ⟨_, _, _, by
            simp only [dx, reduceIte, Nat.reduceLT, Nat.reduceLeDiff, Nat.reduceEqDiff, Nat.reduceAdd, Nat.reduceMul, Nat.reduceSub, Nat.reduceBEq, Int.reduceEq, Int.reduceLT, Int.reduceLE, Int.reduceToNat, reduceCtorEq, sx, fx49]
            rfl, by simp, .inr ⟨rfl, i, s, its', placeTo_more (i := i + 1) (by rw [placeTo, hno]; simp only; rw [if_pos ⟨k1, kn⟩, hff]; rfl) (by omega), fun r' hr' => ?_, ?_, hlen', go2 hM' (fun r' hr' => by have := hrw' r' hr'; omega), by rw [AMem.get_put, if_pos rfl], ?_, ?_, ?_⟩⟩
          · rw [AMem.get_put, if_neg (by omega), AMem.get_put, if_neg (by omega), ex2.2 r' (by omega), ex.2 r' (by omega), ex1.2 r' (by omega)]
          · simp only [AMem.next_put]; omega
          · simp only [Tr.get_set, Nat.reduceEqDiff, reduceIte, u4]
          · simp only [Tr.get_set, Nat.reduceEqDiff, reduceIte, u5, slotB, kn]
          · simp only [Tr.get_set, Nat.reduceEqDiff, reduceIte, u6]) (by
        rintro T σ0 ⟨_, ex, t2, t4, t7, t11, hno⟩
        have hge : ¬ (((ps.length : Nat) : Int) < ((its.length : Nat) : Int)) := by omega
        have ms0 := (hM1.ext ex).own.ms
        refine ⟨_, _, _, by
          simp only [bodyA, bodyOf, Try.f49, Option.getD_some, flatC, innerC, stmtC, List.append_assoc, dx, reduceIte, Nat.reduceLT, Nat.reduceLeDiff, Nat.reduceEqDiff, Nat.reduceAdd, Nat.reduceMul, Nat.reduceSub, Nat.reduceBEq, Int.reduceEq, Int.reduceLT, Int.reduceLE, Int.reduceToNat, reduceCtorEq, sx, fx49, t2, t4, t7, t11, ms0, hge]
          rfl, by simp, .inl ⟨rfl, hno, ex, ?_, ?_, ?_⟩⟩
        · simp only [Tr.get_set, Nat.reduceEqDiff, reduceIte, t2]
        · simp only [Tr.get_set, Nat.reduceEqDiff, reduceIte, t4]
        · simp only [Tr.get_set, Nat.reduceEqDiff, reduceIte, t7]) ⟨Nat.zero_le _, Ext.refl _, t2, t4, t7, t11, rfl⟩
    exact ⟨e, T', σ', g1, g2⟩
  have run : ∃ T1 σ' at_ b, execC lawProg (callN lawProg k) k 49 123 (bodyOf Try.f49) (initT 0 [.agg [.slice pr 0 its.length none 3, .slice wr 0 ws.length none 1], .int .i64 (n : Nat)] .nil) σ = some (.ret, T1, σ') ∧ T1.get 4 = some (.ptr (sp + 1) 0) ∧ T1.get 5 = some (.int .i64 at_) ∧ T1.get 6 = some (.bool b) ∧ σ'.get (sp + 1) = some (.row 2 true [.slice pr 0 its.length none 3, .slice wr 0 ws.length none 1]) ∧ (∀ r, r < low → σ'.get r = σ.get r) ∧ σ.next ≤ σ'.next ∧ ((b = false ∧ at_ = 0 ∧ allocL ps (n : Nat) = none) ∨ (b = true ∧ ∃ qs bl its', allocL ps (n : Nat) = some (qs, bl) ∧ at_ = bl.at_ ∧ its'.length = its.length ∧ HeapM low σ' sp pr none wr none its' qs ws)) := by
    simp only [bodyOf, Try.f49, Option.getD_some, initT, dx, reduceIte, Nat.reduceLT, Nat.reduceLeDiff, Nat.reduceEqDiff, Nat.reduceAdd, Nat.reduceMul, Nat.reduceSub, Nat.reduceBEq, Int.reduceEq, Int.reduceLT, Int.reduceLE, Int.reduceToNat, reduceCtorEq, sx, fx49, hsz, hszb, ← hσ1, ← hsp]
    generalize hL : execC _ _ _ _ _ (Code.loop _) _ _ = r
    obtain ⟨e, T', σ2, rfl, hc⟩ := main _ _ (by simp only [Tr.get_set, Nat.reduceEqDiff, reduceIte]) (by simp only [Tr.get_set, Nat.reduceEqDiff, reduceIte]) (by simp only [Tr.get_set, Nat.reduceEqDiff, reduceIte]) (by simp only [Tr.get_set, Nat.reduceEqDiff, reduceIte]) hL
    rcases hc with ⟨rfl, hpl, ex, u2, u4, u7⟩ | ⟨rfl, j, s, its', hpl, fr, nx, hlen', hM', goo, u4, u5, u6⟩
    · rw [hpl] at halloc
      simp only at halloc
      have hM2 := hM1.ext ex
      have hx := ex.1
      have ms2 := hM2.own.ms
      have mp2 := hM2.own.mp
      have goo : σ2.get (sp + 1) = some (.row 2 true [.vs .nil [], .vs .nil []]) := by rw [ex.2 _ (by omega)]; exact go1
      obtain ⟨l, S, q1, q2, q3⟩ := snap_heap (fr := false) 8 hM2
      have hll : l.length = ps.length := by rw [← q1]; simp [pgsOf]
      have hfr := freeRun_call (k := k) (σ := σ2) (many := 1) q3 (by omega) (by omega) (by omega)
      rw [q1] at hfr
      have e1 : ((1 : Nat) : Int) = 1 := rfl
      rw [e1] at hfr
      cases hrun : runL ps 1 with
      | none =>
        have hm1 : runR ps 1 = -1 := by unfold runR; rw [hrun]
        rw [hm1] at hfr
        rw [hrun] at halloc
        have hneg : ((-1 : Int) < 0) := by omega
        simp only [dx, reduceIte, Nat.reduceLT, Nat.reduceLeDiff, Nat.reduceEqDiff, Nat.reduceAdd, Nat.reduceMul, Nat.reduceSub, Nat.reduceBEq, Int.reduceEq, Int.reduceLT, Int.reduceLE, Int.reduceToNat, reduceCtorEq, sx, fx49, u2, u4, u7, ms2, hfr, hneg, goo]
        refine ⟨_, _, 0, false, rfl, ?_, ?_, ?_, by rw [AMem.get_put, if_pos rfl], fun r hr => ?_, ?_, .inl ⟨rfl, rfl, halloc⟩⟩
        · simp only [Tr.get_set, Nat.reduceEqDiff, reduceIte, u4]
        · simp only [Tr.get_set, Nat.reduceEqDiff, reduceIte]
        · simp only [Tr.get_set, Nat.reduceEqDiff, reduceIte]
        · rw [AMem.get_put, if_neg (by omega), ex.2 r (by omega), ex1.2 r (by omega)]
        · simp only [AMem.next_put]; omega
      | some f =>
        have hm1 : runR ps 1 = (f : Nat) := by unfold runR; rw [hrun]
        rw [hm1] at hfr
        rw [hrun] at halloc
        simp only at halloc
        obtain ⟨hf1, hf2⟩ := runL_some hrun
        have hnn : ¬ (((f : Nat) : Int) < 0) := by omega
        obtain ⟨r, hrr⟩ : ∃ r, r = σ2.next := ⟨_, rfl⟩
        obtain ⟨σ4, hσ4⟩ : ∃ s, s = σ2.push (.row 1 false (boolV (List.replicate m false))) := ⟨_, rfl⟩
        have ex4 : Ext σ2 σ4 := by rw [hσ4]; exact Ext.push _ _
        have n4 : σ4.next = r + 1 := by rw [hσ4, hrr]; simp
        have g4 : σ4.get r = some (.row 1 false (boolV (List.replicate m false))) := by rw [hσ4, hrr, AMem.get_push, if_pos rfl]
        have hrec := hM2.record (σ1 := σ4) (i := f) (by omega) ex4 (by omega) ⟨1, size, List.replicate m false⟩ (.slice r 0 m (some m) 1) (.inr ⟨r, some m, by simp, by omega, by omega, g4⟩)
        obtain ⟨its3, hits3⟩ : ∃ x, x = its.set f ⟨[.int .u8 1, .int .i64 size], .slice r 0 m (some m) 1, boolV (List.replicate m false)⟩ := ⟨_, rfl⟩
        obtain ⟨ps3, hps3⟩ : ∃ x, x = ps.set f ⟨1, size, List.replicate m false⟩ := ⟨_, rfl⟩
        simp only at hrec
        rw [← hits3, ← hps3] at hrec
        have hfi : f < its3.length := by rw [hits3, List.length_set]; omega
        have hx3r : its3[f].x = .slice r 0 m (some m) 1 := by simp only [hits3, List.getElem_set_self]
        have hpf : pgAt ps3 f = ⟨1, size, List.replicate m false⟩ := by rw [hps3, pgAt_set (by omega), if_pos rfl]
        have hrow := hrec.own.mp
        rw [AMem.get_put, if_pos rfl] at hrow
        have hflat := (AObj.row.inj (Option.some.inj hrow)).2.2
        rw [hflat] at hrec
        have hri : ∀ q, q ∈ rowsOf its3 → q < sp ∨ q = r := fun q hq => by
          rw [hits3] at hq
          rcases rowsOf_set_mem hq with h5 | h5
          · exact .inl (hrb q h5)
          · simp only [rowOf, List.mem_singleton] at h5; exact .inr h5
        obtain ⟨its4, hM, hcells4⟩ := hrec.slot (j := 0) hfi (r := r) (cap := some m) (by rw [hx3r, hpf]; simp) true
        have hlen4 : its4.length = its.length := by
          have := congrArg List.length hcells4
          simpa [hits3] using this
        rw [hpf] at hM
        have hfin : ps3.set f (useAt ⟨1, size, List.replicate m false⟩ 0 true) = ps.set f (smallG size) := by
          rw [hps3, List.set_set]
          unfold useAt smallG
          rw [hm, Int.toNat_natCast]
        rw [hfin] at hM
        have hrw4 : ∀ q, q ∈ rowsOf its4 → q ≠ sp + 1 := by
          have hxs : its4.map (fun a => a.x) = its3.map (fun a => a.x) := by
            have hl43 : its4.length = its3.length := by rw [hlen4, hits3, List.length_set]
            apply List.ext_getElem (by simpa using hl43)
            intro t h1 h2
            simp only [List.getElem_map]
            have := congrArg (fun l => l[t]?) hcells4
            simp only [List.getElem?_map] at this
            rw [List.getElem?_eq_getElem (by simpa using h1), List.getElem?_eq_getElem (by simpa using h2)] at this
            simp only [Option.map_some, Option.some.injEq] at this
            unfold MItem.cells at this
            have := congrArg List.getLast? this
            simpa using this
          have hro : rowsOf its4 = rowsOf its3 := by
            unfold rowsOf
            rw [← List.flatMap_map (fun a : MItem => a.x) rowOf, ← List.flatMap_map (fun a : MItem => a.x) rowOf, hxs]
          intro q hq
          rw [hro] at hq
          rcases hri q hq with h5 | h5 <;> omega
        have hltf : ((f : Nat) : Int) < ((its.length : Nat) : Int) := by omega
        have hin3 : f * 3 + 3 ≤ its.length * 3 := by omega
        have w1 : IntKind.i64.wrap ((64 : Int).tdiv size) = ((m : Nat) : Int) := by rw [hm]; exact i64_id (by omega) (by omega)
        have w4 : IntKind.i64.wrap (((f : Nat) : Int) * 64) = 64 * (f : Int) := by rw [i64_id (by omega) (by omega)]; omega
        have cm : (0 : Int) ≤ ((m : Nat) : Int) ∧ ((m : Nat) : Int) ≤ ((m : Nat) : Int) ∧ ((m : Nat) : Int) * ((1 : Nat) : Int) ≤ ((mostBytes : Nat) : Int) ∧ ((m : Nat) : Int) ≤ 9223372036854775807 := by unfold mostBytes; omega
        have hg3 := pg_get (j := 2) hrec.pi hfi (by omega)
        simp only [List.getElem?_cons_succ, List.getElem?_cons_zero, hx3r] at hg3
        have hlt0 : (0 : Int) < ((m : Nat) : Int) := by omega
        have hin0 : 0 + 1 ≤ m := by omega
        have hin0' : 1 ≤ m := by omega
        have ms4 : σ4.get sp = some (.row 2 true [.slice pr 0 its.length none 3, .slice wr 0 ws.length none 1]) := by rw [ex4.2 sp (by omega)]; exact ms2
        have mp4 : σ4.get pr = some (.row 3 true (its.map MItem.cells).flatten) := by rw [ex4.2 pr (by omega)]; exact mp2
        have go4 : σ4.get (sp + 1) = some (.row 2 true [.vs .nil [], .vs .nil []]) := by rw [ex4.2 _ (by omega)]; exact goo
        have qps : ¬ pr = sp := fun e => h.own.ne.1 e.symm
        have qpr : ¬ pr = r := by omega
        have qpo : ¬ pr = sp + 1 := by omega
        have qrs : ¬ r = sp := by omega
        have qro : ¬ r = sp + 1 := by omega
        simp only [dx, reduceIte, Nat.reduceLT, Nat.reduceLeDiff, Nat.reduceEqDiff, Nat.reduceAdd, Nat.reduceMul, Nat.reduceSub, Nat.reduceBEq, Int.reduceEq, Int.reduceLT, Int.reduceLE, Int.reduceToNat, reduceCtorEq, sx, fx49, u2, u4, u7, ms2, mp2, hfr, hnn, w1, cm, sz0, repZ_bools, Int.toNat_natCast, ← hrr, ← hσ4]
        simp only [dx, reduceIte, Nat.reduceLT, Nat.reduceLeDiff, Nat.reduceEqDiff, Nat.reduceAdd, Nat.reduceMul, Nat.reduceSub, Nat.reduceBEq, Int.reduceEq, Int.reduceLT, Int.reduceLE, Int.reduceToNat, reduceCtorEq, sx, fx49, u2, u4, u7, ms4, mp4, go4, hltf, hlen, hin3, hflat, w4, qps, qpr, qpo, qrs, qro, hg3, g4, hlt0, hin0, hin0', boolV_length, List.length_replicate, Int.natCast_nonneg, Int.toNat_natCast]
        refine ⟨_, _, 64 * (f : Int), true, rfl, ?_, ?_, ?_, by rw [AMem.get_put, if_pos rfl], fun q hq => ?_, ?_, .inr ⟨rfl, _, _, its4, halloc, rfl, hlen4, go2 hM hrw4⟩⟩
        · simp only [Tr.get_set, Nat.reduceEqDiff, reduceIte, u4]
        · simp only [Tr.get_set, Nat.reduceEqDiff, reduceIte]
        · simp only [Tr.get_set, Nat.reduceEqDiff, reduceIte]
        · rw [AMem.get_put, if_neg (by omega), AMem.get_put, if_neg (by omega), AMem.get_put, if_neg (by omega), ex4.2 q (by omega), ex.2 q (by omega), ex1.2 q (by omega)]
        · simp only [AMem.next_put]; omega
    · rw [hpl] at halloc
      simp only at halloc
      simp only [dx, reduceIte, Nat.reduceLT, Nat.reduceLeDiff, Nat.reduceEqDiff, Nat.reduceAdd, Nat.reduceMul, Nat.reduceSub, Nat.reduceBEq, Int.reduceEq, Int.reduceLT, Int.reduceLE, Int.reduceToNat, reduceCtorEq, sx, fx49]
      exact ⟨_, _, _, true, rfl, u4, u5, u6, goo, fr, by omega, .inr ⟨rfl, _, _, its', halloc, rfl, hlen', hM'⟩⟩
  obtain ⟨T1, σ', at_, b, r1, r2, r3, r4, r5, r6, r7, hc⟩ := run
  have hcall := fin T1 σ' at_ b r1 r2 r3 r4 r5
  refine ⟨σ', r6, by omega, ?_⟩
  rcases hc with ⟨rfl, rfl, ha⟩ | ⟨rfl, qs, bl, its', ha, rfl, hl', hM'⟩
  · exact .inl ⟨ha, hcall⟩
  · exact .inr ⟨qs, bl, its', ha, hl', hcall, hM'⟩
end Go.Proofs.Ytjkfdiglokkceaa

/- Heaps: the reference's Alloc. -/
set_option maxRecDepth 100000
set_option linter.unusedSimpArgs false
set_option linter.unusedVariables false
namespace Go.Proofs.Ytjkfdiglokkceaa
open Go Go.Proofs.Ytjkfdiglokkceaa.Pale
variable {k : Nat} {σ : AMem}

theorem rallocated_exec {low pr wr : Nat} {its : List MItem} {ps : List Pg} {ws : List Int} {n : Int} (h : HeapM low (σ.push (.row 2 true [.slice pr 0 its.length none 3, .slice wr 0 ws.length none 1])) σ.next pr none wr none its ps ws) (hr : RightH ps ws) (h1 : 1 ≤ n) (h2 : n ≤ 2560) (hk : 4000 ≤ k) :
    ∃ σ', (∀ r, r < low → σ'.get r = σ.get r) ∧ σ.next ≤ σ'.next ∧
    ((allocL ps n = none ∧ callN lawProg (k + 1) (.func 49 [] []) [.agg [.slice pr 0 its.length none 3, .slice wr 0 ws.length none 1], .int .i64 n] σ = some (.tuple [.agg [.slice pr 0 its.length none 3, .slice wr 0 ws.length none 1], .int .i64 0, .bool false], σ')) ∨
    (∃ qs b its', allocL ps n = some (qs, b) ∧ its'.length = its.length ∧ callN lawProg (k + 1) (.func 49 [] []) [.agg [.slice pr 0 its.length none 3, .slice wr 0 ws.length none 1], .int .i64 n] σ = some (.tuple [.agg [.slice pr 0 its.length none 3, .slice wr 0 ws.length none 1], .int .i64 b.at_, .bool true], σ') ∧ HeapM low σ' σ.next pr none wr none its' qs ws)) := by
  obtain ⟨m, rfl⟩ : ∃ m : Nat, n = (m : Nat) := ⟨n.toNat, by omega⟩
  by_cases h32 : m ≤ 32
  · exact rallocated_small h hr (by omega) h32 hk
  · have hq : ((((m : Nat) : Int) + 63) / 64).toNat = (m + 63) / 64 := by omega
    have hq2 : (((m : Nat) : Int) + 63) / 64 = (((m + 63) / 64 : Nat) : Int) := by omega
    have ha : allocL ps (m : Nat) = match runL ps ((m + 63) / 64) with
        | some f => some (setRun ps f ((m + 63) / 64) (bigG ((m + 63) / 64)), ⟨f, 0, 64 * f, 64 * (((m + 63) / 64 : Nat) : Int)⟩)
        | none => none := by
      unfold allocL
      rw [if_pos (by omega), hq, hq2]
      rfl
    obtain ⟨σ', g1, g2, ⟨g3, g4⟩ | ⟨f, its', g3, g4, g5, g6⟩⟩ := rallocated_big (k := k) (n := m) h hr (by omega) (by omega) hk
    · exact ⟨σ', g1, g2, .inl ⟨by rw [ha, g3], g4⟩⟩
    · refine ⟨σ', g1, g2, .inr ⟨_, _, its', by rw [ha, g3], g4, ?_, g6⟩⟩
      rw [g5]
      simp only [Int.natCast_mul]
      rfl
set_option maxHeartbeats 1000000 in
theorem RAlloc_run {v : AVal} {ps : List Pg} {ws : List Int} (n : Int) (hv : VH v ps ws) (hb : Bd ps ws) (hk : 9000 ≤ k) : ∃ v', pureRun (callN lawProg (k + 1)) (.func 29 [] []) [v, .int .i64 n] = some (.tuple [v', .int .i64 (allocH ps ws n).at_, .int .i64 (allocH ps ws n).e], true) ∧ VH v' (allocH ps ws n).ps (allocH ps ws n).ws := by
  have hv0 := hv
  obtain ⟨kp, kw, l, rfl, rfl, hkp, hkw, hgood⟩ := hv
  obtain ⟨b1, b2, b3⟩ := hb
  have hlp : (pgsOf l).length = l.length := by simp [pgsOf]
  have hri := fun (σ : AMem) => isRight_call (k := k) (σ := σ) kp kw l ws (fun x hx => b3 x.1 (List.mem_map.2 ⟨x, hx, rfl⟩)) (by omega) (by omega) (by omega)
  have hin := fun (σ : AMem) => in_call (k := k) (σ := σ) n 1 2560 (by omega)
  unfold hpV at hri ⊢
  obtain ⟨σ0, hσ0⟩ : ∃ s, s = (AMem.empty.push (.row 2 true [.vs kp (l.map pv), .vs kw (intV ws)])).push (.row 2 true [.vs .nil [], .vs .nil []]) := ⟨_, rfl⟩
  have n0 : σ0.next = 2 := by rw [hσ0]; simp [next_empty]
  have g0 : σ0.get 0 = some (.row 2 true [.vs kp (l.map pv), .vs kw (intV ws)]) := by rw [hσ0]; simp [AMem.get_push, next_empty]
  have g1 : σ0.get 1 = some (.row 2 true [.vs .nil [], .vs .nil []]) := by rw [hσ0]; simp [AMem.get_push, next_empty]
  have fin : ∀ (T1 : Tr AVal) (σ' : AMem) (o0 o1 : AVal) (at_ e : Int) (v' : AVal) (S : List Nat) (qs : List Pg) (us : List Int), execC lawProg (callN lawProg k) k 29 31 (bodyOf Try.f29) (initT 0 [.agg [.vs kp (l.map pv), .vs kw (intV ws)], .int .i64 n] .nil) AMem.empty = some (.ret, T1, σ') → T1.get 4 = some (.ptr 1 0) → T1.get 5 = some (.int .i64 at_) → T1.get 6 = some (.int .i64 e) → σ'.get 1 = some (.row 2 true [o0, o1]) → snapF true σ' 11 (.agg [o0, o1]) = some (v', S) → VH v' qs us → ∃ v', pureRun (callN lawProg (k + 1)) (.func 29 [] []) [.agg [.vs kp (l.map pv), .vs kw (intV ws)], .int .i64 n] = some (.tuple [v', .int .i64 at_, .int .i64 e], true) ∧ VH v' qs us := by
    intro T1 σ' o0 o1 at_ e v' S qs us r1 r2 r3 r4 r5 hS hvh
    refine ⟨v', ?_, hvh⟩
    refine pureRun_of (vs := [.agg [o0, o1], .int .i64 at_, .int .i64 e]) (seen := S ++ ([] ++ ([] ++ []))) fn29 rfl (by simp [Try.f29]) r1 (by simp) ?_ ?_
    · simp only [Try.f29, resultsA, resultA, dx, reduceIte, Nat.reduceLT, Nat.reduceLeDiff, Nat.reduceEqDiff, Nat.reduceAdd, Nat.reduceMul, Nat.reduceSub, Nat.reduceBEq, Int.reduceEq, Int.reduceLT, Int.reduceLE, Int.reduceToNat, reduceCtorEq, sx, fx29, r2, r3, r4, r5]
    · have c1 : snapF true σ' 11 (.int .i64 at_) = some (.int .i64 at_, []) := rfl
      have c2 : snapF true σ' 11 (.int .i64 e) = some (.int .i64 e, []) := rfl
      show snapF true σ' (11 + 1) (.tuple [.agg [o0, o1], .int .i64 at_, .int .i64 e]) = _
      rw [snapF]
      simp only [snapL, hS, c1, c2, Option.map_some]
  cases hrb : rightB (pgsOf l) ws with
  | false =>
    have hres : allocH (pgsOf l) ws n = ⟨[], [], 0, 4⟩ := by unfold allocH; rw [hrb]; simp
    rw [hres]
    rw [hrb] at hri
    have run : ∃ T1, execC lawProg (callN lawProg k) k 29 31 (bodyOf Try.f29) (initT 0 [.agg [.vs kp (l.map pv), .vs kw (intV ws)], .int .i64 n] .nil) AMem.empty = some (.ret, T1, σ0.put 1 (.row 2 true [.vs .nil [], .vs .nil []])) ∧ T1.get 4 = some (.ptr 1 0) ∧ T1.get 5 = some (.int .i64 0) ∧ T1.get 6 = some (.int .i64 4) := by
      simp only [bodyOf, Try.f29, Option.getD_some, initT, dx, reduceIte, Nat.reduceLT, Nat.reduceLeDiff, Nat.reduceEqDiff, Nat.reduceAdd, Nat.reduceMul, Nat.reduceSub, Nat.reduceBEq, Int.reduceEq, Int.reduceLT, Int.reduceLE, Int.reduceToNat, reduceCtorEq, sx, fx29, ← hσ0]
      simp only [dx, reduceIte, Nat.reduceLT, Nat.reduceLeDiff, Nat.reduceEqDiff, Nat.reduceAdd, Nat.reduceMul, Nat.reduceSub, Nat.reduceBEq, Int.reduceEq, Int.reduceLT, Int.reduceLE, Int.reduceToNat, reduceCtorEq, sx, fx29, g0, g1, hri]
      exact ⟨_, rfl, by simp only [Tr.get_set, Nat.reduceEqDiff, reduceIte], by simp only [Tr.get_set, Nat.reduceEqDiff, reduceIte], by simp only [Tr.get_set, Nat.reduceEqDiff, reduceIte]⟩
    obtain ⟨T1, r1, r2, r3, r4⟩ := run
    exact fin T1 _ _ _ 0 4 _ _ [] [] r1 r2 r3 r4 (by rw [AMem.get_put, if_pos rfl]) (snap_hp0 _ 9) nil_vh
  | true =>
    have hright := rightB_iff.1 hrb
    rw [hrb] at hri
    by_cases hn : 1 ≤ n ∧ n ≤ 2560
    · rw [decide_eq_true hn] at hin
      have hmany := hright.many
      have hwl := hright.len
      obtain ⟨σ2, X, W, its, hcp, ex2, hC⟩ := copy_exec (k := k - 1) (σ := σ0) hv0 ⟨b1, b2, b3⟩ (by omega)
      rw [show k - 1 + 1 = k by omega] at hcp
      unfold hpV at hcp
      rw [n0] at hC
      obtain ⟨pr, wr, rfl, rfl, hM⟩ := hC.heap (by omega) (by omega)
      obtain ⟨σ3, fr, nx, hcase⟩ := rallocated_exec (k := k - 1) (n := n) hM hright hn.1 hn.2 (by omega)
      rw [show k - 1 + 1 = k by omega] at hcase
      have hx2 := ex2.1
      obtain ⟨c, hc⟩ : ∃ c, c = σ3.next := ⟨_, rfl⟩
      obtain ⟨σ4, hσ4⟩ : ∃ s, s = (σ3.push (.row 2 true [.vs .nil [], .vs .nil []])).put c (.row 2 true [.slice pr 0 its.length none 3, .slice wr 0 ws.length none 1]) := ⟨_, rfl⟩
      have ex4 : Ext σ3 σ4 := by rw [hσ4]; exact (Ext.push _ _).put _ _ (by omega)
      have gc4 : σ4.get c = some (.row 2 true [.slice pr 0 its.length none 3, .slice wr 0 ws.length none 1]) := by rw [hσ4, AMem.get_put, if_pos rfl]
      have g14 : σ4.get 1 = some (.row 2 true [.vs .nil [], .vs .nil []]) := by rw [ex4.2 1 (by omega), fr 1 (by omega), ex2.2 1 (by omega)]; exact g1
      rcases hcase with ⟨hal, hcl⟩ | ⟨qs, b, its', hal, hlen', hcl, hM'⟩
      · have hres : allocH (pgsOf l) ws n = ⟨[], [], 0, 8⟩ := by unfold allocH; rw [hrb, if_pos rfl, if_pos hn, hal]
        rw [hres]
        have run : ∃ T1, execC lawProg (callN lawProg k) k 29 31 (bodyOf Try.f29) (initT 0 [.agg [.vs kp (l.map pv), .vs kw (intV ws)], .int .i64 n] .nil) AMem.empty = some (.ret, T1, σ4.put 1 (.row 2 true [.vs .nil [], .vs .nil []])) ∧ T1.get 4 = some (.ptr 1 0) ∧ T1.get 5 = some (.int .i64 0) ∧ T1.get 6 = some (.int .i64 8) := by
          simp only [bodyOf, Try.f29, Option.getD_some, initT, dx, reduceIte, Nat.reduceLT, Nat.reduceLeDiff, Nat.reduceEqDiff, Nat.reduceAdd, Nat.reduceMul, Nat.reduceSub, Nat.reduceBEq, Int.reduceEq, Int.reduceLT, Int.reduceLE, Int.reduceToNat, reduceCtorEq, sx, fx29, ← hσ0]
          simp only [dx, reduceIte, Nat.reduceLT, Nat.reduceLeDiff, Nat.reduceEqDiff, Nat.reduceAdd, Nat.reduceMul, Nat.reduceSub, Nat.reduceBEq, Int.reduceEq, Int.reduceLT, Int.reduceLE, Int.reduceToNat, reduceCtorEq, sx, fx29, g0, g1, hri, hin, hcp, hcl, ← hc, ← hσ4]
          simp only [dx, reduceIte, Nat.reduceLT, Nat.reduceLeDiff, Nat.reduceEqDiff, Nat.reduceAdd, Nat.reduceMul, Nat.reduceSub, Nat.reduceBEq, Int.reduceEq, Int.reduceLT, Int.reduceLE, Int.reduceToNat, reduceCtorEq, sx, fx29, gc4, g14]
          exact ⟨_, rfl, by simp only [Tr.get_set, Nat.reduceEqDiff, reduceIte], by simp only [Tr.get_set, Nat.reduceEqDiff, reduceIte], by simp only [Tr.get_set, Nat.reduceEqDiff, reduceIte]⟩
        obtain ⟨T1, r1, r2, r3, r4⟩ := run
        exact fin T1 _ _ _ 0 8 _ _ [] [] r1 r2 r3 r4 (by rw [AMem.get_put, if_pos rfl]) (snap_hp0 _ 9) nil_vh
      · have hres : allocH (pgsOf l) ws n = ⟨qs, ws, b.at_, 0⟩ := by unfold allocH; rw [hrb, if_pos rfl, if_pos hn, hal]
        rw [hres]
        have run : ∃ T1, execC lawProg (callN lawProg k) k 29 31 (bodyOf Try.f29) (initT 0 [.agg [.vs kp (l.map pv), .vs kw (intV ws)], .int .i64 n] .nil) AMem.empty = some (.ret, T1, σ4.put 1 (.row 2 true [.slice pr 0 its.length none 3, .slice wr 0 ws.length none 1])) ∧ T1.get 4 = some (.ptr 1 0) ∧ T1.get 5 = some (.int .i64 b.at_) ∧ T1.get 6 = some (.int .i64 0) := by
          simp only [bodyOf, Try.f29, Option.getD_some, initT, dx, reduceIte, Nat.reduceLT, Nat.reduceLeDiff, Nat.reduceEqDiff, Nat.reduceAdd, Nat.reduceMul, Nat.reduceSub, Nat.reduceBEq, Int.reduceEq, Int.reduceLT, Int.reduceLE, Int.reduceToNat, reduceCtorEq, sx, fx29, ← hσ0]
          simp only [dx, reduceIte, Nat.reduceLT, Nat.reduceLeDiff, Nat.reduceEqDiff, Nat.reduceAdd, Nat.reduceMul, Nat.reduceSub, Nat.reduceBEq, Int.reduceEq, Int.reduceLT, Int.reduceLE, Int.reduceToNat, reduceCtorEq, sx, fx29, g0, g1, hri, hin, hcp, hcl, ← hc, ← hσ4]
          simp only [dx, reduceIte, Nat.reduceLT, Nat.reduceLeDiff, Nat.reduceEqDiff, Nat.reduceAdd, Nat.reduceMul, Nat.reduceSub, Nat.reduceBEq, Int.reduceEq, Int.reduceLT, Int.reduceLE, Int.reduceToNat, reduceCtorEq, sx, fx29, gc4, g14]
          exact ⟨_, rfl, by simp only [Tr.get_set, Nat.reduceEqDiff, reduceIte], by simp only [Tr.get_set, Nat.reduceEqDiff, reduceIte], by simp only [Tr.get_set, Nat.reduceEqDiff, reduceIte]⟩
        obtain ⟨T1, r1, r2, r3, r4⟩ := run
        have hM5 : HeapM 2 (σ4.put 1 (.row 2 true [.slice pr 0 its.length none 3, .slice wr 0 ws.length none 1])) σ2.next pr none wr none its' qs ws := (hM'.ext ex4).agree (fun r hr => by rw [AMem.get_put, if_neg (by omega)]) (by simp)
        obtain ⟨v', S, hS, hvh⟩ := hM5.vh (fr := true) 7
        rw [hlen'] at hS
        exact fin T1 _ _ _ b.at_ 0 v' S qs ws r1 r2 r3 r4 (by rw [AMem.get_put, if_pos rfl]) hS hvh
    · rw [decide_eq_false hn] at hin
      have hres : allocH (pgsOf l) ws n = ⟨[], [], 0, 3⟩ := by unfold allocH; rw [hrb, if_pos rfl, if_neg hn]
      rw [hres]
      have run : ∃ T1, execC lawProg (callN lawProg k) k 29 31 (bodyOf Try.f29) (initT 0 [.agg [.vs kp (l.map pv), .vs kw (intV ws)], .int .i64 n] .nil) AMem.empty = some (.ret, T1, σ0.put 1 (.row 2 true [.vs .nil [], .vs .nil []])) ∧ T1.get 4 = some (.ptr 1 0) ∧ T1.get 5 = some (.int .i64 0) ∧ T1.get 6 = some (.int .i64 3) := by
        simp only [bodyOf, Try.f29, Option.getD_some, initT, dx, reduceIte, Nat.reduceLT, Nat.reduceLeDiff, Nat.reduceEqDiff, Nat.reduceAdd, Nat.reduceMul, Nat.reduceSub, Nat.reduceBEq, Int.reduceEq, Int.reduceLT, Int.reduceLE, Int.reduceToNat, reduceCtorEq, sx, fx29, ← hσ0]
        simp only [dx, reduceIte, Nat.reduceLT, Nat.reduceLeDiff, Nat.reduceEqDiff, Nat.reduceAdd, Nat.reduceMul, Nat.reduceSub, Nat.reduceBEq, Int.reduceEq, Int.reduceLT, Int.reduceLE, Int.reduceToNat, reduceCtorEq, sx, fx29, g0, g1, hri, hin]
        exact ⟨_, rfl, by simp only [Tr.get_set, Nat.reduceEqDiff, reduceIte], by simp only [Tr.get_set, Nat.reduceEqDiff, reduceIte], by simp only [Tr.get_set, Nat.reduceEqDiff, reduceIte]⟩
      obtain ⟨T1, r1, r2, r3, r4⟩ := run
      exact fin T1 _ _ _ 0 3 _ _ [] [] r1 r2 r3 r4 (by rw [AMem.get_put, if_pos rfl]) (snap_hp0 _ 9) nil_vh
theorem RAlloc_call {v : AVal} {ps : List Pg} {ws : List Int} (n : Int) (hv : VH v ps ws) (hb : Bd ps ws) (hk : 9001 ≤ k) : ∃ v', (∀ σ, pureCall lawProg (callN lawProg k) (.func 29 [] []) [v, .int .i64 n] σ = some (.tuple [v', .int .i64 (allocH ps ws n).at_, .int .i64 (allocH ps ws n).e], σ)) ∧ VH v' (allocH ps ws n).ps (allocH ps ws n).ws := by
  obtain ⟨k, rfl⟩ : ∃ m, k = m + 1 := ⟨k - 1, by omega⟩
  obtain ⟨v', h1, h2⟩ := RAlloc_run n hv hb (k := k) (by omega)
  refine ⟨v', fun σ => pureCall_of (seen := [] ++ ([] ++ [])) ?_ (memo29 _) h1, h2⟩
  have := hv.snap σ 10
  simp only [snapL, snapDepth, this, snapF]
end Go.Proofs.Ytjkfdiglokkceaa

/- Heaps: the program's Blocks. -/
set_option maxRecDepth 100000
set_option linter.unusedSimpArgs false
set_option linter.unusedVariables false
namespace Go.Proofs.Ytjkfdiglokkceaa
open Go Go.Proofs.Ytjkfdiglokkceaa.Pale
variable {k : Nat} {σ : AMem}

/-- A loop over all blocks that does not end early: what is there behind it. -/
theorem range_all {f N k0 low sp pr wr p : Nat} {its : List MItem} {ps : List Pg} {ws : List Int} {T0 : Tr AVal} {g : Nat} {a b : Code} {I : Option (List Blk) → List Nat → AMem → Prop} {O : List Nat} {lp : ALoop}
    (hlp : lp = { state := .ready, pending := none, fn := f, N := N, T := T0, params := [p], assign := a, body := b })
    (hC : Client k0 σ.next (blocksL ps) I) (hno : ∀ O σ, ¬ I none O σ) (hL : ∀ d O σ', I (some d) O σ' → σ'.get σ.next = some (.loop lp))
    (h : HeapM low σ sp pr none wr none its ps ws) (hsh : Shape ps) (hl : ps.length ≤ 40) (hk0 : k0 + 3 ≤ k) (hk : 1004 ≤ k)
    (hO : sp ∉ O ∧ pr ∉ O ∧ wr ∉ O ∧ ∀ r, r ∈ rowsOf its → r ∉ O) (hI : I (some []) O (σ.push (.loop lp))) (hg : T0.get g = some (.func 47 [.ptr sp 0] [])) :
    ∃ O' σ', execC lawProg (callN lawProg k) k f N (.rangeFunc (.tmp g) #[p] a b) T0 σ = some (.normal, T0, σ'.put σ.next (.loop { lp with state := .exhausted })) ∧ I (some (blocksL ps)) O' σ' ∧ Fr (σ.push (.loop lp)) O σ' O' := by
  obtain ⟨O', σ', hcl, hF, hres⟩ := pblocks_exec (k := k - 3) (σ := σ.push (.loop lp)) (O := O) hC (h.ext (Ext.push _ _)) hsh hl (by omega) (by omega) hO hI
  rw [show k - 3 + 3 = k by omega] at hcl
  rcases hres with hi | hi
  · refine ⟨O', σ', ?_, hi, hF⟩
    have hcl' : callN lawProg k (.func 47 [.ptr sp 0] []) [.yield σ.next] (σ.push (.loop { state := .ready, pending := none, fn := f, N := N, T := T0, params := [p], assign := a, body := b })) = some (.tuple [], σ') := by
      obtain ⟨m, hm⟩ : ∃ m, k = m + 1 := ⟨k - 1, by omega⟩
      rw [hm, call_first, ← hm, ← hlp]
      exact hcl
    exact q_range (A := lawProg) (call := callN lawProg k) (k := k) (f := f) (N := N) (T := T0) (σ := σ) (g := .tmp g) (ps := #[p]) (a := a) (b := b) (r := lp) (v := .tuple []) (σ2 := σ') hg hcl' (hL _ _ _ hi) (by rw [hlp]; intro h; cases h) (by rw [hlp])
  · exact absurd hi (hno _ _)
noncomputable def loopBk (T0 : Tr AVal) : ALoop := rfLoop Try.f15 15 T0
def BkI (q L : Nat) (lp : ALoop) : Option (List Blk) → List Nat → AMem → Prop := fun x O σ => match x with
  | some d => ∃ out, O = q :: L :: rowOf out ∧ q < L ∧ L < σ.next ∧ σ.get q = some (.row 1 false [out]) ∧ σ.get L = some (.loop lp) ∧ Grew (L + 1) σ 2 true out d.length (prsC d) ∧ (d = [] → out = .vs .nil [])
  | none => False
theorem grew_one {low sz j : Nat} {g : Bool} {out : AVal} {cells : List AVal} (h : Grew low σ sz g out j cells) : out.oneCell = true := by
  rcases h.2 with ⟨_, rfl⟩ | ⟨_, _, _, rfl, _⟩ <;> rfl
set_option maxHeartbeats 1000000 in
theorem bk_client {T0 : Tr AVal} {q L : Nat} {bs : List Blk} (hT2 : T0.get 2 = some (.ptr q 0)) (hn : bs.length ≤ 10000) : Client 1 L bs (BkI q L (loopBk T0)) := by
  refine ⟨?_, ?_, ?_⟩
  · intro x O σ σ' hi hn hs
    cases x with
    | none => exact hi
    | some d =>
      obtain ⟨out, rfl, h1, h2, h3, h4, h5, h6⟩ := hi
      refine ⟨out, rfl, h1, by omega, by rw [hs q (by simp)]; exact h3, by rw [hs L (by simp)]; exact h4, ⟨h5.1, ?_⟩, h6⟩
      rcases h5.2 with h | ⟨r, a1, a2, a3, a4⟩
      · exact .inl h
      · exact .inr ⟨r, a1, by omega, a3, by rw [hs r (by rw [a3]; simp [rowOf])]; exact a4⟩
  · intro x O σ hi r hr
    cases x with
    | none => exact hi.elim
    | some d =>
      obtain ⟨out, rfl, h1, h2, h3, h4, h5, h6⟩ := hi
      simp only [List.mem_cons] at hr
      rcases hr with rfl | rfl | hr
      · omega
      · omega
      · rcases h5.2 with ⟨_, rfl⟩ | ⟨r', a1, a2, rfl, a4⟩
        · simp [rowOf] at hr
        · simp only [rowOf, List.mem_singleton] at hr; omega
  · rintro k d b rest O σ hbs hk ⟨out, rfl, hqL, hLn, mq, ml, hgr, hnil⟩
    obtain ⟨k, rfl⟩ : ∃ m, k = m + 1 := ⟨k - 1, by omega⟩
    obtain ⟨c, hc⟩ : ∃ c, c = σ.next := ⟨_, rfl⟩
    obtain ⟨B, hB⟩ : ∃ B, B = busyOf (loopBk T0) := ⟨_, rfl⟩
    obtain ⟨σ1, hσ1⟩ : ∃ s, s = (σ.push (.row 4 true blk0)).put σ.next (.row 4 true (blkC b)) := ⟨_, rfl⟩
    have ex1 : Ext σ σ1 := by rw [hσ1]; exact (Ext.push _ _).put _ _ (by omega)
    have gd : σ1.get c = some (.row 4 true (blkC b)) := by rw [hσ1, hc, AMem.get_put, if_pos rfl]
    have n1 : σ1.next = c + 1 := by rw [hσ1, hc]; simp
    have ha : ∃ T1, execC lawProg (callN lawProg k) k 15 26 (loopBk T0).assign (setParams T0 (loopBk T0).params [.agg (blkC b)]) σ = some (.normal, T1, σ1) ∧ T1.get 2 = some (.ptr q 0) ∧ T1.get 5 = some (.ptr c 0) := by
      rw [hσ1, hc]
      simp only [loopBk, rfLoop, bodyOf, Try.f15, Option.getD_some, rfOf]
      simp only [dx, reduceIte, Nat.reduceLT, Nat.reduceLeDiff, Nat.reduceEqDiff, Nat.reduceAdd, Nat.reduceMul, Nat.reduceSub, Nat.reduceBEq, Int.reduceEq, Int.reduceLT, Int.reduceLE, Int.reduceToNat, reduceCtorEq, sx, fx15, blkC, blk0]
      exact ⟨_, rfl, by simp only [Tr.get_set, Nat.reduceEqDiff, reduceIte, hT2], by simp only [Tr.get_set, Nat.reduceEqDiff, reduceIte]⟩
    obtain ⟨T1, ha, u2, u5⟩ := ha
    obtain ⟨σb, hσb⟩ : ∃ s, s = σ1.put L (.loop B) := ⟨_, rfl⟩
    have gb : ∀ r, r < c → r ≠ L → σb.get r = σ.get r := fun r hr hne => by rw [hσb, AMem.get_put, if_neg (fun h => hne h.symm)]; exact ex1.2 r (by omega)
    have gbc : σb.get c = some (.row 4 true (blkC b)) := by rw [hσb, AMem.get_put, if_neg (by omega)]; exact gd
    have nb : σb.next = c + 1 := by rw [hσb]; simpa using n1
    have be : σb.get L = some (.loop B) := by rw [hσb, AMem.get_put, if_pos rfl]
    have bq : σb.get q = some (.row 1 false [out]) := by rw [gb q (by omega) (by omega)]; exact mq
    have hgb : Grew (L + 1) σb 2 true out d.length (prsC d) := by
      refine ⟨hgr.1, ?_⟩
      rcases hgr.2 with h | ⟨r, a1, a2, a3, a4⟩
      · exact .inl h
      · exact .inr ⟨r, a1, by omega, a3, by rw [gb r (by omega) (by omega)]; exact a4⟩
    have hdl : d.length ≤ 10000 := by
      have := congrArg List.length hbs
      simp only [List.length_append, List.length_cons] at this
      omega
    obtain ⟨σ2, a1, a2, a3, a4, a5⟩ := Grew.one (e := (⟨.array 2 3, 2, 16, [.int .i64 0, .int .i64 0]⟩ : TyI)) (xs := [.int .i64 b.at_, .int .i64 b.size]) hgb (by omega) rfl (by decide) (by decide) (by decide) (by simp only [mostBytes]; omega) rfl
    have a1' : appendA (⟨.array 2 3, 2, 16, [.int .i64 0, .int .i64 0]⟩ : TyI) (σb.push (.row 2 true [.int .i64 b.at_, .int .i64 b.size])) out (.slice σb.next 0 1 (some 1) 2) = some (.slice (σb.next + 1) 0 (d.length + 1) none 2, σ2) := a1
    obtain ⟨σ3, hσ3⟩ : ∃ s, s = σ2.put q (.row 1 false [.slice (σb.next + 1) 0 (d.length + 1) none 2]) := ⟨_, rfl⟩
    have g2q : σ2.get q = some (.row 1 false [out]) := by rw [a4 q (by omega)]; exact bq
    have g2L : σ2.get L = some (.loop B) := by rw [a4 L (by omega)]; exact be
    have hoo := grew_one hgr
    have hz1 : loopBk T0 = { B with state := .ready, pending := none } := by rw [hB]; rfl
    have hb2 : ∃ T2, execC lawProg (callN lawProg k) k 15 26 (loopBk T0).body T1 σb = some (.normal, T2, σ3) := by
      rw [hσ3]
      unfold blkC at gbc
      simp only [loopBk, rfLoop, bodyOf, Try.f15, Option.getD_some, rfOf]
      simp only [dx, reduceIte, Nat.reduceLT, Nat.reduceLeDiff, Nat.reduceEqDiff, Nat.reduceAdd, Nat.reduceMul, Nat.reduceSub, Nat.reduceBEq, Int.reduceEq, Int.reduceLT, Int.reduceLE, Int.reduceToNat, reduceCtorEq, sx, fx15, u2, u5, gbc, bq, hoo, a1', g2q]
      exact ⟨_, rfl⟩
    obtain ⟨T2, hb2⟩ := hb2
    have g3L : σ3.get L = some (.loop B) := by rw [hσ3, AMem.get_put, if_neg (by omega)]; exact g2L
    have key := round_body (A := lawProg) (call := callN lawProg k) (k := k) (σ := σ) (l := L) (r := loopBk T0) (T1 := T1) (T2 := T2) (σ1 := σ1) ml rfl rfl rfl ha (by rw [ex1.2 L (by omega)]; exact ml) (by rw [← hB, ← hσb]; exact hb2) (r2 := B) g3L
    rw [← hz1] at key
    have n3 : σ3.next = c + 3 := by rw [hσ3]; simp only [AMem.next_put]; omega
    refine ⟨true, q :: L :: [σb.next + 1], _, by simp only [callN]; exact key, ?_, ⟨?_, fun r hr hn => ?_, fun r hr => ?_⟩⟩
    · simp only [if_true]
      refine ⟨.slice (σb.next + 1) 0 (d.length + 1) none 2, rfl, hqL, ?_, ?_, ?_, ⟨?_, .inr ⟨σb.next + 1, by omega, ?_, by simp, ?_⟩⟩, fun h => by simp at h⟩
      · simp only [AMem.next_put]; omega
      · rw [AMem.get_put, if_neg (by omega), hσ3, AMem.get_put, if_pos rfl]
      · rw [AMem.get_put, if_pos rfl]
      · have := a2.1
        rw [prsC_snoc]
        simpa [prC] using this
      · simp only [AMem.next_put]; omega
      · rw [AMem.get_put, if_neg (by omega), hσ3, AMem.get_put, if_neg (by omega), prsC_snoc]
        rcases a2.2 with ⟨h0, _⟩ | ⟨r', _, _, e1, e2⟩
        · omega
        · simp only [AVal.slice.injEq] at e1
          rw [e1.1]
          exact e2
    · simp only [AMem.next_put]; omega
    · simp only [List.mem_cons, not_or] at hn
      rw [AMem.get_put, if_neg (by omega), hσ3, AMem.get_put, if_neg (by omega), a5 r (by omega) (fun e => hn.2.2 (by rw [e]; simp [rowOf])), gb r (by omega) hn.2.1]
    · simp only [List.mem_cons, List.not_mem_nil, or_false] at hr
      rcases hr with rfl | rfl | rfl
      · exact .inl (by simp)
      · exact .inl (by simp)
      · exact .inr (by omega)
theorem blocks_count {ps : List Pg} (hsh : Shape ps) (hl : ps.length ≤ 40) : (blocksL ps).length ≤ 2560 := by
  have := (blocks_len hsh ps.length (Nat.le_refl _)).1
  unfold blocksL
  omega
theorem snapL_prs2 (fr : Bool) (d : Nat) (l : List Blk) : snapL (snapF fr σ (d + 1)) (prsC l) = some (prsC l, []) := snapL_prs fr σ d l
set_option maxHeartbeats 1000000 in
theorem Blocks_run {v : AVal} {ps : List Pg} {ws : List Int} (hv : VH v ps ws) (hb : Bd ps ws) (hk : 9000 ≤ k) : pureRun (callN lawProg (k + 1)) (.func 15 [] []) [v] = some (if rightB ps ws then .tuple [.vs (lkOf (blocksL ps).length) (prsV (blocksL ps)), .int .i64 0] else .tuple [.vs .nil [], .int .i64 4], true) := by
  obtain ⟨X, Y, rfl, hX, hY⟩ := hv.cells
  obtain ⟨σ0, hσ0⟩ : ∃ s, s = (AMem.empty.push (.row 2 true [X, Y])).push (.row 1 false [.vs .nil []]) := ⟨_, rfl⟩
  have n0 : σ0.next = 2 := by rw [hσ0]; simp [next_empty]
  have g0 : σ0.get 0 = some (.row 2 true [X, Y]) := by rw [hσ0]; simp [AMem.get_push, next_empty]
  have g1 : σ0.get 1 = some (.row 1 false [.vs .nil []]) := by rw [hσ0]; simp [AMem.get_push, next_empty]
  rcases open_vh (k := k - 1) hv hb (by omega) σ0 with ⟨hr, σ2, ho, ex2⟩ | ⟨hr, hright, σ2, sp, pr, wr, its, ho, ex2, hM⟩
  · rw [show k - 1 + 1 = k by omega] at ho
    rw [hr]
    simp only [Bool.false_eq_true, if_false]
    have g12 : σ2.get 1 = some (.row 1 false [.vs .nil []]) := by rw [ex2.2 1 (by omega)]; exact g1
    have run : ∃ T1, execC lawProg (callN lawProg k) k 15 26 (bodyOf Try.f15) (initT 0 [.agg [X, Y]] .nil) AMem.empty = some (.ret, T1, σ2.put 1 (.row 1 false [.vs .nil []])) ∧ T1.get 2 = some (.ptr 1 0) ∧ T1.get 3 = some (.int .i64 4) := by
      simp only [bodyOf, Try.f15, Option.getD_some, initT, dx, reduceIte, Nat.reduceLT, Nat.reduceLeDiff, Nat.reduceEqDiff, Nat.reduceAdd, Nat.reduceMul, Nat.reduceSub, Nat.reduceBEq, Int.reduceEq, Int.reduceLT, Int.reduceLE, Int.reduceToNat, reduceCtorEq, sx, fx15, hX, hY, ← hσ0]
      simp only [dx, reduceIte, Nat.reduceLT, Nat.reduceLeDiff, Nat.reduceEqDiff, Nat.reduceAdd, Nat.reduceMul, Nat.reduceSub, Nat.reduceBEq, Int.reduceEq, Int.reduceLT, Int.reduceLE, Int.reduceToNat, reduceCtorEq, sx, fx15, g0, ho, g12, show ((4 : Int) != 0) = true from rfl]
      exact ⟨_, rfl, by simp only [Tr.get_set, Nat.reduceEqDiff, reduceIte], by simp only [Tr.get_set, Nat.reduceEqDiff, reduceIte]⟩
    obtain ⟨T1, r1, r2, r3⟩ := run
    refine pureRun_of (vs := [.vs .nil [], .int .i64 4]) (seen := [] ++ ([] ++ [])) fn15 rfl (by simp [Try.f15]) r1 (by simp) ?_ rfl
    simp only [Try.f15, resultsA, resultA, dx, reduceIte, Nat.reduceLT, Nat.reduceLeDiff, Nat.reduceEqDiff, Nat.reduceAdd, Nat.reduceMul, Nat.reduceSub, Nat.reduceBEq, Int.reduceEq, Int.reduceLT, Int.reduceLE, Int.reduceToNat, reduceCtorEq, sx, fx15, r2, r3]
  · rw [show k - 1 + 1 = k by omega] at ho
    rw [hr]
    simp only [if_true]
    have hmany := hright.many
    obtain ⟨x1, x2, x3⟩ := hM.own.nx
    obtain ⟨l1, l2, l3⟩ := hM.own.lo
    have hx2 := ex2.1
    have g12 : σ2.get 1 = some (.row 1 false [.vs .nil []]) := by rw [ex2.2 1 (by omega)]; exact g1
    have run : ∃ T1 σ' out, execC lawProg (callN lawProg k) k 15 26 (bodyOf Try.f15) (initT 0 [.agg [X, Y]] .nil) AMem.empty = some (.ret, T1, σ') ∧ T1.get 2 = some (.ptr 1 0) ∧ T1.get 3 = some (.int .i64 0) ∧ σ'.get 1 = some (.row 1 false [out]) ∧ GrewB 2 0 σ' out (blocksL ps) := by
      simp only [bodyOf, Try.f15, Option.getD_some, initT, dx, reduceIte, Nat.reduceLT, Nat.reduceLeDiff, Nat.reduceEqDiff, Nat.reduceAdd, Nat.reduceMul, Nat.reduceSub, Nat.reduceBEq, Int.reduceEq, Int.reduceLT, Int.reduceLE, Int.reduceToNat, reduceCtorEq, sx, fx15, hX, hY, ← hσ0]
      simp only [dx, reduceIte, Nat.reduceLT, Nat.reduceLeDiff, Nat.reduceEqDiff, Nat.reduceAdd, Nat.reduceMul, Nat.reduceSub, Nat.reduceBEq, Int.reduceEq, Int.reduceLT, Int.reduceLE, Int.reduceToNat, reduceCtorEq, sx, fx15, g0, ho, show ((0 : Int) != 0) = false from rfl]
      generalize hR : execC _ _ _ _ _ (Code.rangeFunc _ _ _ _) _ _ = r
      have hrng : ∀ (T0 : Tr AVal) (X' : Out), T0.get 2 = some (.ptr 1 0) → T0.get 15 = some (.func 47 [.ptr sp 0] []) → execC lawProg (callN lawProg k) k 15 26 (.rangeFunc (.tmp 15) #[16] (loopBk T0).assign (loopBk T0).body) T0 σ2 = X' → ∃ σ' out, X' = some (.normal, T0, σ') ∧ σ'.get 1 = some (.row 1 false [out]) ∧ GrewB 2 0 σ' out (blocksL ps) := by
        intro T0 X' t2 t15 hX'
        rw [← hX']
        have hp : ∀ r, r < σ2.next → (σ2.push (.loop (loopBk T0))).get r = σ2.get r := fun r hr => by rw [AMem.get_push, if_neg (by omega)]
        have hmem : ∀ r, 2 ≤ r → r < σ2.next → r ∉ [1, σ2.next] := fun r h1 h2 hm => by
          simp only [List.mem_cons, List.not_mem_nil, or_false] at hm
          omega
        obtain ⟨O', σ', e1, ⟨out, rfl, h1, h2, h3, h4, h5, h6⟩, hF⟩ := range_all (σ := σ2) (k := k) (f := 15) (N := 26) (T0 := T0) (p := 16) (g := 15) (lp := loopBk T0) (O := [1, σ2.next]) (k0 := 1) (a := (loopBk T0).assign) (b := (loopBk T0).body) rfl (bk_client t2 (by have := blocks_count hright.shape hmany.2; omega)) (fun _ _ h => h) (fun d O σ' ⟨_, _, _, _, _, h, _⟩ => h) hM hright.shape hmany.2 (by omega) (by omega) ⟨hmem sp (by omega) x1, hmem pr (by omega) x2, hmem wr (by omega) x3, fun r hr => hmem r (by have := (hM.own.it.bound r hr).1; omega) (hM.own.it.bound r hr).2⟩ ⟨.vs .nil [], rfl, by omega, by simp, by rw [hp 1 (by omega)]; exact g12, by rw [AMem.get_push, if_pos rfl], ⟨rfl, .inl ⟨rfl, rfl⟩⟩, fun _ => rfl⟩ t15
        refine ⟨_, out, e1, by rw [AMem.get_put, if_neg (by omega)]; exact h3, ⟨⟨h5.1, ?_⟩, h6, ?_⟩⟩
        · rcases h5.2 with h | ⟨r, a1, a2, a3, a4⟩
          · exact .inl h
          · exact .inr ⟨r, by omega, by simpa using a2, a3, by rw [AMem.get_put, if_neg (by omega)]; exact a4⟩
        · intro r j c z e
          rcases h5.2 with ⟨_, h⟩ | ⟨r', a1, a2, a3, a4⟩
          · rw [h] at e; cases e
          · rw [a3] at e
            simp only [AVal.slice.injEq] at e
            omega
      obtain ⟨σ', out, rfl, z1, z2⟩ := hrng _ _ (by simp only [Tr.get_set, Nat.reduceEqDiff, reduceIte]) (by simp only [Tr.get_set, Nat.reduceEqDiff, reduceIte]) hR
      have hoo := grew_one z2.1
      have hoc := one_cells hoo
      simp only [dx, reduceIte, Nat.reduceLT, Nat.reduceLeDiff, Nat.reduceEqDiff, Nat.reduceAdd, Nat.reduceMul, Nat.reduceSub, Nat.reduceBEq, Int.reduceEq, Int.reduceLT, Int.reduceLE, Int.reduceToNat, reduceCtorEq, sx, fx15, z1, hoo, hoc]
      refine ⟨_, _, out, rfl, by simp only [Tr.get_set, Nat.reduceEqDiff, reduceIte], by simp only [Tr.get_set, Nat.reduceEqDiff, reduceIte], by rw [AMem.get_put, if_pos rfl], z2.same (by simp) (fun r h1 h2 => by rw [AMem.get_put, if_neg (by omega)]) (.inl rfl)⟩
    obtain ⟨T1, σ', out, r1, r2, r3, r4, r5⟩ := run
    obtain ⟨S, hS⟩ := snap_prs (fr := true) (d := 9) r5
    refine pureRun_of (vs := [out, .int .i64 0]) (seen := S ++ ([] ++ [])) fn15 rfl (by simp [Try.f15]) r1 (by simp) ?_ ?_
    · simp only [Try.f15, resultsA, resultA, dx, reduceIte, Nat.reduceLT, Nat.reduceLeDiff, Nat.reduceEqDiff, Nat.reduceAdd, Nat.reduceMul, Nat.reduceSub, Nat.reduceBEq, Int.reduceEq, Int.reduceLT, Int.reduceLE, Int.reduceToNat, reduceCtorEq, sx, fx15, r2, r3, r4]
    · have c2 : snapF true σ' 11 (.int .i64 0) = some (.int .i64 0, []) := rfl
      show snapF true σ' (11 + 1) (.tuple [out, .int .i64 0]) = _
      rw [snapF]
      simp only [snapL, hS, c2, Option.map_some]
theorem Blocks_call {v : AVal} {ps : List Pg} {ws : List Int} (hv : VH v ps ws) (hb : Bd ps ws) (hk : 9001 ≤ k) : pureCall lawProg (callN lawProg k) (.func 15 [] []) [v] σ = some (if rightB ps ws then .tuple [.vs (lkOf (blocksL ps).length) (prsV (blocksL ps)), .int .i64 0] else .tuple [.vs .nil [], .int .i64 4], σ) := by
  obtain ⟨k, rfl⟩ : ∃ m, k = m + 1 := ⟨k - 1, by omega⟩
  refine pureCall_of (args' := [v]) (seen := [] ++ []) ?_ (memo15 _) (Blocks_run hv hb (by omega))
  have := hv.snap σ 10
  simp only [snapL, snapDepth, this]
end Go.Proofs.Ytjkfdiglokkceaa

/- Heaps: the program's Space. -/
set_option maxRecDepth 100000
set_option linter.unusedSimpArgs false
set_option linter.unusedVariables false
namespace Go.Proofs.Ytjkfdiglokkceaa
open Go Go.Proofs.Ytjkfdiglokkceaa.Pale
variable {k : Nat} {σ : AMem}

/-- The greatest run of free pages, of so many at most. -/
def grRun (ps : List Pg) : Nat → Option Nat
  | 0 => none
  | m + 1 => if (runL ps (m + 1)).isSome then some (m + 1) else grRun ps m
def grSmall (ps : List Pg) : Int := if (placeL ps 32).isSome then 32 else if (placeL ps 16).isSome then 16 else if (placeL ps 8).isSome then 8 else if (placeL ps 4).isSome then 4 else if (placeL ps 2).isSome then 2 else 0
def greatL (ps : List Pg) : Int := match grRun ps 40 with
  | some m => ((64 * m : Nat) : Int)
  | none => grSmall ps
theorem run_h {low sp pr wr many : Nat} {its : List MItem} {ps : List Pg} {ws : List Int} (h : HeapM low σ sp pr none wr none its ps ws) (hl : ps.length ≤ 40) (hm : many ≤ 1000) (hk : 3000 ≤ k) : ∃ (a : Int) (σ' : AMem), callN lawProg k (.func 69 [] []) [.ptr sp 0, .int .i64 (many : Nat)] σ = some (.tuple [.int .i64 a, .bool (runL ps many).isSome], σ') ∧ Ext σ σ' := by
  obtain ⟨k, rfl⟩ : ∃ m, k = m + 1 := ⟨k - 1, by omega⟩
  obtain ⟨σ', h1, h2⟩ := run_exec (k := k) (many := many) (l := ps.map pvOf) h.own (by rw [pi_pvOf]; exact h.pi) (by rw [List.length_map]; omega) hm (by omega)
  rw [pgs_pvOf] at h1
  exact ⟨_, σ', h1, h2⟩
set_option maxHeartbeats 1000000 in
theorem greatest_exec {low sp pr wr : Nat} {its : List MItem} {ps : List Pg} {ws : List Int} (h : HeapM low σ sp pr none wr none its ps ws) (hsh : Shape ps) (hl : ps.length ≤ 40) (hk : 4000 ≤ k) : ∃ σ', callN lawProg (k + 1) (.func 48 [] []) [.ptr sp 0] σ = some (.int .i64 (greatL ps), σ') ∧ Ext σ σ' := by
  have run : ∃ T1 σ', execC lawProg (callN lawProg k) k 48 34 (bodyOf Try.f48) (initT 0 [.ptr sp 0] .nil) σ = some (.ret, T1, σ') ∧ T1.get 2 = some (.int .i64 (greatL ps)) ∧ Ext σ σ' := by
    simp only [bodyOf, Try.f48, Option.getD_some, initT, dx, reduceIte, Nat.reduceLT, Nat.reduceLeDiff, Nat.reduceEqDiff, Nat.reduceAdd, Nat.reduceMul, Nat.reduceSub, Nat.reduceBEq, Int.reduceEq, Int.reduceLT, Int.reduceLE, Int.reduceToNat, reduceCtorEq, sx, fx48]
    generalize hL : execC _ _ _ _ _ (Code.loop _) _ _ = q
    obtain ⟨e, T', σ', rfl, _, hc⟩ : ∃ e T' σ', q = some (e, T', σ') ∧ e ≠ .normal ∧ ((e = .ret ∧ Ext σ σ' ∧ ∃ m, grRun ps 40 = some m ∧ T'.get 2 = some (.int .i64 ((64 * m : Nat) : Int))) ∨ (e = .exit 0 ∧ Ext σ σ' ∧ grRun ps 40 = none ∧ T'.get 0 = some (.ptr sp 0))) := by
      rw [← hL]
      refine exec_loop2 (fun i T σ' => i ≤ 40 ∧ Ext σ σ' ∧ T.get 0 = some (.ptr sp 0) ∧ T.get 3 = some (.int .i64 ((40 - i : Nat) : Int)) ∧ grRun ps 40 = grRun ps (40 - i)) 40 (by omega) ?_ ?_ ?_
      · rintro i hi T σ0 ⟨_, ex, t0, t3, hgr⟩
        obtain ⟨m, hm⟩ : ∃ m, 40 - i = m + 1 := ⟨40 - i - 1, by omega⟩
        rw [hm] at t3 hgr
        have hm2 : 40 - (i + 1) = m := by omega
        have hgt : (((m + 1 : Nat) : Int) > 0) := by omega
        obtain ⟨a, σ1, hrun, ex1⟩ := run_h (k := k) (many := m + 1) (h.ext ex) hl (by omega) (by omega)
        have w1 : IntKind.i64.wrap (((m + 1 : Nat) : Int) - 1) = ((m : Nat) : Int) := by rw [i64_id (by omega) (by omega)]; omega
        have w2 : IntKind.i64.wrap (((m + 1 : Nat) : Int) * 64) = ((64 * (m + 1) : Nat) : Int) := by rw [i64_id (by omega) (by omega)]; omega
        rw [show grRun ps (m + 1) = if (runL ps (m + 1)).isSome then some (m + 1) else grRun ps m from rfl] at hgr
        cases hr : (runL ps (m + 1)).isSome with
        | true =>
          rw [hr] at hrun hgr
          simp only [if_true] at hgr
          refine .inr ⟨_, _, _, by
            simp only [dx, reduceIte, Nat.reduceLT, Nat.reduceLeDiff, Nat.reduceEqDiff, Nat.reduceAdd, Nat.reduceMul, Nat.reduceSub, Nat.reduceBEq, Int.reduceEq, Int.reduceLT, Int.reduceLE, Int.reduceToNat, reduceCtorEq, sx, fx48, t0, t3, hgt, hrun, w2]
            rfl, by simp, .inl ⟨rfl, ex.trans ex1, m + 1, hgr, ?_⟩⟩
          simp only [Tr.get_set, Nat.reduceEqDiff, reduceIte]
        | false =>
          rw [hr] at hrun hgr
          simp only [Bool.false_eq_true, if_false] at hgr
          refine .inl ⟨_, _, by
            simp only [dx, reduceIte, Nat.reduceLT, Nat.reduceLeDiff, Nat.reduceEqDiff, Nat.reduceAdd, Nat.reduceMul, Nat.reduceSub, Nat.reduceBEq, Int.reduceEq, Int.reduceLT, Int.reduceLE, Int.reduceToNat, reduceCtorEq, sx, fx48, t0, t3, hgt, hrun, w1]
            rfl, by omega, ex.trans ex1, ?_, ?_, by rw [hm2]; exact hgr⟩
          · simp only [Tr.get_set, Nat.reduceEqDiff, reduceIte, t0]
          · simp only [Tr.get_set, Nat.reduceEqDiff, reduceIte, hm2]
      · rintro T σ0 ⟨_, ex, t0, t3, hgr⟩
        have hge : ¬ (((40 - 40 : Nat) : Int) > 0) := by omega
        refine ⟨_, _, _, by
          simp only [dx, reduceIte, Nat.reduceLT, Nat.reduceLeDiff, Nat.reduceEqDiff, Nat.reduceAdd, Nat.reduceMul, Nat.reduceSub, Nat.reduceBEq, Int.reduceEq, Int.reduceLT, Int.reduceLE, Int.reduceToNat, reduceCtorEq, sx, fx48, t3, hge]
          rfl, by simp, .inr ⟨rfl, ex, hgr, ?_⟩⟩
        simp only [Tr.get_set, Nat.reduceEqDiff, reduceIte, t0]
      · refine ⟨by omega, Ext.refl _, ?_, ?_, rfl⟩
        all_goals simp only [Tr.get_set, Nat.reduceEqDiff, reduceIte] <;> rfl
    rcases hc with ⟨rfl, ex, m, hgr, t2⟩ | ⟨rfl, ex, hgr, t0⟩
    · simp only [dx, reduceIte, Nat.reduceLT, Nat.reduceLeDiff, Nat.reduceEqDiff, Nat.reduceAdd, Nat.reduceMul, Nat.reduceSub, Nat.reduceBEq, Int.reduceEq, Int.reduceLT, Int.reduceLE, Int.reduceToNat, reduceCtorEq, sx, fx48]
      exact ⟨_, _, rfl, by unfold greatL; rw [hgr]; exact t2, ex⟩
    · have hgl : greatL ps = grSmall ps := by unfold greatL; rw [hgr]
      rw [hgl]
      simp only [dx, reduceIte, Nat.reduceLT, Nat.reduceLeDiff, Nat.reduceEqDiff, Nat.reduceAdd, Nat.reduceMul, Nat.reduceSub, Nat.reduceBEq, Int.reduceEq, Int.reduceLT, Int.reduceLE, Int.reduceToNat, reduceCtorEq, sx, fx48]
      generalize hL : execC _ _ _ _ _ (Code.loop _) _ _ = q
      -- sizes 32, 16, 8, 4, 2
      obtain ⟨e, T5, σ5, rfl, _, hc⟩ : ∃ e T' σ5, q = some (e, T', σ5) ∧ e ≠ .normal ∧ ((e = .ret ∧ Ext σ σ5 ∧ T'.get 2 = some (.int .i64 (grSmall ps))) ∨ (e = .exit 2 ∧ Ext σ σ5 ∧ grSmall ps = 0)) := by
        rw [← hL]
        have szv : ∀ i, i < 5 → ∃ s : Int, [32, 16, 8, 4, 2, 1][i]? = some s ∧ s ≥ 2 ∧ s ≤ 32 ∧ [32, 16, 8, 4, 2, 1][i + 1]? = some (s.tdiv 2) ∧ IntKind.i64.wrap (s.tdiv 2) = s.tdiv 2 := by
          intro i hi
          match i, hi with
          | 0, _ => exact ⟨32, rfl, by omega, by omega, rfl, by decide⟩
          | 1, _ => exact ⟨16, rfl, by omega, by omega, rfl, by decide⟩
          | 2, _ => exact ⟨8, rfl, by omega, by omega, rfl, by decide⟩
          | 3, _ => exact ⟨4, rfl, by omega, by omega, rfl, by decide⟩
          | 4, _ => exact ⟨2, rfl, by omega, by omega, rfl, by decide⟩
        refine exec_loop2 (fun i T σ' => i ≤ 5 ∧ Ext σ σ' ∧ T.get 0 = some (.ptr sp 0) ∧ (∃ s : Int, [32, 16, 8, 4, 2, 1][i]? = some s ∧ T.get 6 = some (.int .i64 s)) ∧ ∀ j s, j < i → [32, 16, 8, 4, 2, 1][j]? = some s → (placeL ps s).isSome = false) 5 (by omega) ?_ ?_ ?_
        · rintro i hi T σ0 ⟨_, ex, t0, ⟨s, hs, t6⟩, hall⟩
          obtain ⟨s', hs', h2, h32, hnx, hw⟩ := szv i hi
          rw [hs] at hs'
          cases hs'
          obtain ⟨σ1, hsm, ex1⟩ := psmall_exec (k := k - 3) (size := s) (h.ext ex).own h.pi h.ox hsh (by omega) (by omega)
          rw [show k - 3 + 3 = k by omega] at hsm
          unfold blkC at hsm
          obtain ⟨b0, hb0⟩ : ∃ b, b = (placeB ps s).1 := ⟨_, rfl⟩
          rw [← hb0] at hsm
          have hpb : (placeB ps s).2 = (placeL ps s).isSome := by unfold placeB; split <;> simp [*]
          rw [hpb] at hsm
          have h2z : ¬ (2 : Int) = 0 := by omega
          cases hp : (placeL ps s).isSome with
          | true =>
            rw [hp] at hsm
            refine .inr ⟨_, _, _, by
              simp only [dx, reduceIte, Nat.reduceLT, Nat.reduceLeDiff, Nat.reduceEqDiff, Nat.reduceAdd, Nat.reduceMul, Nat.reduceSub, Nat.reduceBEq, Int.reduceEq, Int.reduceLT, Int.reduceLE, Int.reduceToNat, reduceCtorEq, sx, fx48, t0, t6, h2, hsm]
              rfl, by simp, .inl ⟨rfl, ((ex.trans ex1).trans (Ext.push _ _)).put _ _ (by have := ex.1; have := ex1.1; omega), ?_⟩⟩
            simp only [Tr.get_set, Nat.reduceEqDiff, reduceIte]
            have key : grSmall ps = s := by
              unfold grSmall
              have f := fun j s hj hs => hall j s hj hs
              match i, hi with
              | 0, _ => cases hs; rw [if_pos hp]
              | 1, _ => cases hs; rw [if_neg (by rw [f 0 32 (by omega) rfl]; simp), if_pos hp]
              | 2, _ => cases hs; rw [if_neg (by rw [f 0 32 (by omega) rfl]; simp), if_neg (by rw [f 1 16 (by omega) rfl]; simp), if_pos hp]
              | 3, _ => cases hs; rw [if_neg (by rw [f 0 32 (by omega) rfl]; simp), if_neg (by rw [f 1 16 (by omega) rfl]; simp), if_neg (by rw [f 2 8 (by omega) rfl]; simp), if_pos hp]
              | 4, _ => cases hs; rw [if_neg (by rw [f 0 32 (by omega) rfl]; simp), if_neg (by rw [f 1 16 (by omega) rfl]; simp), if_neg (by rw [f 2 8 (by omega) rfl]; simp), if_neg (by rw [f 3 4 (by omega) rfl]; simp), if_pos hp]
            rw [key]
          | false =>
            rw [hp] at hsm
            refine .inl ⟨_, _, by
              simp only [dx, reduceIte, Nat.reduceLT, Nat.reduceLeDiff, Nat.reduceEqDiff, Nat.reduceAdd, Nat.reduceMul, Nat.reduceSub, Nat.reduceBEq, Int.reduceEq, Int.reduceLT, Int.reduceLE, Int.reduceToNat, reduceCtorEq, sx, fx48, t0, t6, h2, hsm, h2z, hw]
              rfl, by omega, ((ex.trans ex1).trans (Ext.push _ _)).put _ _ (by have := ex.1; have := ex1.1; omega), ?_, ⟨_, hnx, ?_⟩, fun j s2 hj hs2 => ?_⟩
            · simp only [Tr.get_set, Nat.reduceEqDiff, reduceIte, t0]
            · simp only [Tr.get_set, Nat.reduceEqDiff, reduceIte]
            · by_cases e : j = i
              · subst e
                rw [hs] at hs2
                cases hs2
                exact hp
              · exact hall j s2 (by omega) hs2
        · rintro T σ0 ⟨_, ex, t0, ⟨s, hs, t6⟩, hall⟩
          cases hs
          have hge : ¬ ((1 : Int) ≥ 2) := by omega
          refine ⟨_, _, _, by
            simp only [dx, reduceIte, Nat.reduceLT, Nat.reduceLeDiff, Nat.reduceEqDiff, Nat.reduceAdd, Nat.reduceMul, Nat.reduceSub, Nat.reduceBEq, Int.reduceEq, Int.reduceLT, Int.reduceLE, Int.reduceToNat, reduceCtorEq, sx, fx48, t6, hge]
            rfl, by simp, .inr ⟨rfl, ex, ?_⟩⟩
          unfold grSmall
          rw [if_neg (by rw [hall 0 32 (by omega) rfl]; simp), if_neg (by rw [hall 1 16 (by omega) rfl]; simp), if_neg (by rw [hall 2 8 (by omega) rfl]; simp), if_neg (by rw [hall 3 4 (by omega) rfl]; simp), if_neg (by rw [hall 4 2 (by omega) rfl]; simp)]
        · refine ⟨by omega, ex, ?_, ⟨32, rfl, ?_⟩, fun j s hj => by omega⟩
          · simp only [Tr.get_set, Nat.reduceEqDiff, reduceIte, t0]
          · simp only [Tr.get_set, Nat.reduceEqDiff, reduceIte]
      rcases hc with ⟨rfl, ex5, t2⟩ | ⟨rfl, ex5, h0⟩
      · simp only [dx, reduceIte, Nat.reduceLT, Nat.reduceLeDiff, Nat.reduceEqDiff, Nat.reduceAdd, Nat.reduceMul, Nat.reduceSub, Nat.reduceBEq, Int.reduceEq, Int.reduceLT, Int.reduceLE, Int.reduceToNat, reduceCtorEq, sx, fx48]
        exact ⟨_, _, rfl, t2, ex5⟩
      · simp only [dx, reduceIte, Nat.reduceLT, Nat.reduceLeDiff, Nat.reduceEqDiff, Nat.reduceAdd, Nat.reduceMul, Nat.reduceSub, Nat.reduceBEq, Int.reduceEq, Int.reduceLT, Int.reduceLE, Int.reduceToNat, reduceCtorEq, sx, fx48]
        exact ⟨_, _, rfl, by rw [h0]; simp only [Tr.get_set, Nat.reduceEqDiff, reduceIte], ex5⟩
  obtain ⟨T1, σ', h1, h2, h3⟩ := run
  exact ⟨σ', q_call (first := []) (caps := []) fn48 rfl (by simp [Try.f48]) h1 (by simp) (res_one h2), h3⟩
/-- How many words some blocks have. -/
def sumB (l : List Blk) : Int := (l.map Blk.size).sum
theorem sumB_snoc (l : List Blk) (b : Blk) : sumB (l ++ [b]) = sumB l + b.size := by simp [sumB]
theorem sumB_bound {l : List Blk} (h : ∀ b, b ∈ l → 0 ≤ b.size ∧ b.size ≤ 2560) : 0 ≤ sumB l ∧ sumB l ≤ 2560 * (l.length : Int) := by
  induction l with
  | nil => simp [sumB]
  | cons b l ih =>
    have h1 := ih fun c hc => h c (by simp [hc])
    have h2 := h b (by simp)
    have : sumB (b :: l) = b.size + sumB l := by simp [sumB]
    rw [this, List.length_cons]
    omega
noncomputable def loopSp (T0 : Tr AVal) : ALoop := rfLoop Try.f17 17 T0
def SpI (q L : Nat) (lp : ALoop) : Option (List Blk) → List Nat → AMem → Prop := fun x O σ => match x with
  | some d => O = [q, L] ∧ q < L ∧ L < σ.next ∧ σ.get q = some (.row 1 false [.int .i64 (sumB d)]) ∧ σ.get L = some (.loop lp)
  | none => False
theorem sp_client {T0 : Tr AVal} {q L : Nat} {bs : List Blk} (hT2 : T0.get 2 = some (.ptr q 0)) (hn : bs.length ≤ 10000) (hb : ∀ b, b ∈ bs → 0 ≤ b.size ∧ b.size ≤ 2560) : Client 1 L bs (SpI q L (loopSp T0)) := by
  refine ⟨?_, ?_, ?_⟩
  · intro x O σ σ' hi hn hs
    cases x with
    | none => exact hi
    | some d =>
      obtain ⟨rfl, h1, h2, h3, h4⟩ := hi
      exact ⟨rfl, h1, by omega, by rw [hs q (by simp)]; exact h3, by rw [hs L (by simp)]; exact h4⟩
  · intro x O σ hi r hr
    cases x with
    | none => exact hi.elim
    | some d =>
      obtain ⟨rfl, h1, h2, h3, h4⟩ := hi
      simp only [List.mem_cons, List.not_mem_nil, or_false] at hr
      omega
  · rintro k d b rest O σ hbs hk ⟨rfl, hqL, hLn, mq, ml⟩
    obtain ⟨k, rfl⟩ : ∃ m, k = m + 1 := ⟨k - 1, by omega⟩
    obtain ⟨c, hc⟩ : ∃ c, c = σ.next := ⟨_, rfl⟩
    obtain ⟨B, hB⟩ : ∃ B, B = busyOf (loopSp T0) := ⟨_, rfl⟩
    obtain ⟨σ1, hσ1⟩ : ∃ s, s = (σ.push (.row 4 true blk0)).put σ.next (.row 4 true (blkC b)) := ⟨_, rfl⟩
    have ex1 : Ext σ σ1 := by rw [hσ1]; exact (Ext.push _ _).put _ _ (by omega)
    have gd : σ1.get c = some (.row 4 true (blkC b)) := by rw [hσ1, hc, AMem.get_put, if_pos rfl]
    have n1 : σ1.next = c + 1 := by rw [hσ1, hc]; simp
    have ha : ∃ T1, execC lawProg (callN lawProg k) k 17 25 (loopSp T0).assign (setParams T0 (loopSp T0).params [.agg (blkC b)]) σ = some (.normal, T1, σ1) ∧ T1.get 2 = some (.ptr q 0) ∧ T1.get 6 = some (.ptr c 0) := by
      rw [hσ1, hc]
      simp only [loopSp, rfLoop, bodyOf, Try.f17, Option.getD_some, rfOf]
      simp only [dx, reduceIte, Nat.reduceLT, Nat.reduceLeDiff, Nat.reduceEqDiff, Nat.reduceAdd, Nat.reduceMul, Nat.reduceSub, Nat.reduceBEq, Int.reduceEq, Int.reduceLT, Int.reduceLE, Int.reduceToNat, reduceCtorEq, sx, fx17, blkC, blk0]
      exact ⟨_, rfl, by simp only [Tr.get_set, Nat.reduceEqDiff, reduceIte, hT2], by simp only [Tr.get_set, Nat.reduceEqDiff, reduceIte]⟩
    obtain ⟨T1, ha, u2, u6⟩ := ha
    obtain ⟨σb, hσb⟩ : ∃ s, s = σ1.put L (.loop B) := ⟨_, rfl⟩
    have gb : ∀ r, r < c → r ≠ L → σb.get r = σ.get r := fun r hr hne => by rw [hσb, AMem.get_put, if_neg (fun h => hne h.symm)]; exact ex1.2 r (by omega)
    have gbc : σb.get c = some (.row 4 true (blkC b)) := by rw [hσb, AMem.get_put, if_neg (by omega)]; exact gd
    have nb : σb.next = c + 1 := by rw [hσb]; simpa using n1
    have be : σb.get L = some (.loop B) := by rw [hσb, AMem.get_put, if_pos rfl]
    have bq : σb.get q = some (.row 1 false [.int .i64 (sumB d)]) := by rw [gb q (by omega) (by omega)]; exact mq
    have hdl : d.length ≤ 10000 := by
      have := congrArg List.length hbs
      simp only [List.length_append, List.length_cons] at this
      omega
    have hsd := sumB_bound (l := d) fun x hx => hb x (by rw [hbs]; simp [hx])
    have hsb := hb b (by rw [hbs]; simp)
    have w1 : IntKind.i64.wrap (sumB d + b.size) = sumB (d ++ [b]) := by rw [sumB_snoc]; exact i64_id (by omega) (by omega)
    obtain ⟨σ3, hσ3⟩ : ∃ s, s = σb.put q (.row 1 false [.int .i64 (sumB (d ++ [b]))]) := ⟨_, rfl⟩
    have hz1 : loopSp T0 = { B with state := .ready, pending := none } := by rw [hB]; rfl
    have hb2 : ∃ T2, execC lawProg (callN lawProg k) k 17 25 (loopSp T0).body T1 σb = some (.normal, T2, σ3) := by
      rw [hσ3]
      unfold blkC at gbc
      simp only [loopSp, rfLoop, bodyOf, Try.f17, Option.getD_some, rfOf]
      simp only [dx, reduceIte, Nat.reduceLT, Nat.reduceLeDiff, Nat.reduceEqDiff, Nat.reduceAdd, Nat.reduceMul, Nat.reduceSub, Nat.reduceBEq, Int.reduceEq, Int.reduceLT, Int.reduceLE, Int.reduceToNat, reduceCtorEq, sx, fx17, u2, u6, gbc, bq, w1]
      exact ⟨_, rfl⟩
    obtain ⟨T2, hb2⟩ := hb2
    have g3L : σ3.get L = some (.loop B) := by rw [hσ3, AMem.get_put, if_neg (by omega)]; exact be
    have key := round_body (A := lawProg) (call := callN lawProg k) (k := k) (σ := σ) (l := L) (r := loopSp T0) (T1 := T1) (T2 := T2) (σ1 := σ1) ml rfl rfl rfl ha (by rw [ex1.2 L (by omega)]; exact ml) (by rw [← hB, ← hσb]; exact hb2) (r2 := B) g3L
    rw [← hz1] at key
    have n3 : σ3.next = c + 1 := by rw [hσ3]; simpa using nb
    refine ⟨true, [q, L], _, by simp only [callN]; exact key, ?_, ⟨?_, fun r hr hn => ?_, fun r hr => .inl hr⟩⟩
    · simp only [if_true]
      refine ⟨rfl, hqL, ?_, ?_, ?_⟩
      · simp only [AMem.next_put]; omega
      · rw [AMem.get_put, if_neg (by omega), hσ3, AMem.get_put, if_pos rfl]
      · rw [AMem.get_put, if_pos rfl]
    · simp only [AMem.next_put]; omega
    · simp only [List.mem_cons, List.not_mem_nil, or_false, not_or] at hn
      rw [AMem.get_put, if_neg (by omega), hσ3, AMem.get_put, if_neg (by omega), gb r (by omega) hn.2]
theorem blk_sizes {ps : List Pg} (hsh : Shape ps) (hl : ps.length ≤ 40) : ∀ b, b ∈ blocksL ps → 0 ≤ b.size ∧ b.size ≤ 2560 := fun b hb => by
  obtain ⟨_, _, h1, _, h2, h3⟩ := blk_page hsh hb
  omega
noncomputable def spaceH (ps : List Pg) (ws : List Int) : Int × Int × Int := if rightB ps ws then (sumB (blocksL ps), greatL ps, 0) else (0, 0, 4)
set_option maxHeartbeats 1000000 in
theorem Space_call {v : AVal} {ps : List Pg} {ws : List Int} (hv : VH v ps ws) (hb : Bd ps ws) (hk : 9001 ≤ k) : pureCall lawProg (callN lawProg k) (.func 17 [] []) [v] σ = some (.tuple [.int .i64 (spaceH ps ws).1, .int .i64 (spaceH ps ws).2.1, .int .i64 (spaceH ps ws).2.2], σ) := by
  obtain ⟨k, rfl⟩ : ∃ m, k = m + 1 := ⟨k - 1, by omega⟩
  have hsn := hv.snap σ 10
  obtain ⟨X, Y, rfl, hX, hY⟩ := hv.cells
  obtain ⟨σ0, hσ0⟩ : ∃ s, s = (AMem.empty.push (.row 2 true [X, Y])).push (.row 1 false [.int .i64 0]) := ⟨_, rfl⟩
  have n0 : σ0.next = 2 := by rw [hσ0]; simp [next_empty]
  have g0 : σ0.get 0 = some (.row 2 true [X, Y]) := by rw [hσ0]; simp [AMem.get_push, next_empty]
  have g1 : σ0.get 1 = some (.row 1 false [.int .i64 0]) := by rw [hσ0]; simp [AMem.get_push, next_empty]
  have fin : ∀ (T1 : Tr AVal) (σ' : AMem) (x y z : Int), execC lawProg (callN lawProg k) k 17 25 (bodyOf Try.f17) (initT 0 [.agg [X, Y]] .nil) AMem.empty = some (.ret, T1, σ') → T1.get 2 = some (.ptr 1 0) → T1.get 3 = some (.int .i64 y) → T1.get 4 = some (.int .i64 z) → σ'.get 1 = some (.row 1 false [.int .i64 x]) → pureCall lawProg (callN lawProg (k + 1)) (.func 17 [] []) [.agg [X, Y]] σ = some (.tuple [.int .i64 x, .int .i64 y, .int .i64 z], σ) := by
    intro T1 σ' x y z r1 r2 r3 r4 r5
    refine pureCall_of (args' := [.agg [X, Y]]) (seen := [] ++ []) ?_ (memo17 _) (pureRun_of (vs := [.int .i64 x, .int .i64 y, .int .i64 z]) fn17 rfl (by simp [Try.f17]) r1 (by simp) ?_ rfl)
    · simp only [snapL, snapDepth, hsn]
    · simp only [Try.f17, resultsA, resultA, dx, reduceIte, Nat.reduceLT, Nat.reduceLeDiff, Nat.reduceEqDiff, Nat.reduceAdd, Nat.reduceMul, Nat.reduceSub, Nat.reduceBEq, Int.reduceEq, Int.reduceLT, Int.reduceLE, Int.reduceToNat, reduceCtorEq, sx, fx17, r2, r3, r4, r5]
  rcases open_vh (k := k - 1) hv hb (by omega) σ0 with ⟨hr, σ2, ho, ex2⟩ | ⟨hr, hright, σ2, sp, pr, wr, its, ho, ex2, hM⟩
  · rw [show k - 1 + 1 = k by omega] at ho
    have hres : spaceH ps ws = (0, 0, 4) := by unfold spaceH; rw [hr]; rfl
    rw [hres]
    have g12 : σ2.get 1 = some (.row 1 false [.int .i64 0]) := by rw [ex2.2 1 (by omega)]; exact g1
    have run : ∃ T1, execC lawProg (callN lawProg k) k 17 25 (bodyOf Try.f17) (initT 0 [.agg [X, Y]] .nil) AMem.empty = some (.ret, T1, σ2.put 1 (.row 1 false [.int .i64 0])) ∧ T1.get 2 = some (.ptr 1 0) ∧ T1.get 3 = some (.int .i64 0) ∧ T1.get 4 = some (.int .i64 4) := by
      simp only [bodyOf, Try.f17, Option.getD_some, initT, dx, reduceIte, Nat.reduceLT, Nat.reduceLeDiff, Nat.reduceEqDiff, Nat.reduceAdd, Nat.reduceMul, Nat.reduceSub, Nat.reduceBEq, Int.reduceEq, Int.reduceLT, Int.reduceLE, Int.reduceToNat, reduceCtorEq, sx, fx17, hX, hY, ← hσ0]
      simp only [dx, reduceIte, Nat.reduceLT, Nat.reduceLeDiff, Nat.reduceEqDiff, Nat.reduceAdd, Nat.reduceMul, Nat.reduceSub, Nat.reduceBEq, Int.reduceEq, Int.reduceLT, Int.reduceLE, Int.reduceToNat, reduceCtorEq, sx, fx17, g0, ho, g12, show ((4 : Int) != 0) = true from rfl]
      exact ⟨_, rfl, by simp only [Tr.get_set, Nat.reduceEqDiff, reduceIte], by simp only [Tr.get_set, Nat.reduceEqDiff, reduceIte], by simp only [Tr.get_set, Nat.reduceEqDiff, reduceIte]⟩
    obtain ⟨T1, r1, r2, r3, r4⟩ := run
    exact fin T1 _ 0 0 4 r1 r2 r3 r4 (by rw [AMem.get_put, if_pos rfl])
  · rw [show k - 1 + 1 = k by omega] at ho
    have hres : spaceH ps ws = (sumB (blocksL ps), greatL ps, 0) := by unfold spaceH; rw [hr]; rfl
    rw [hres]
    have hmany := hright.many
    obtain ⟨x1, x2, x3⟩ := hM.own.nx
    obtain ⟨l1, l2, l3⟩ := hM.own.lo
    have hx2 := ex2.1
    have g12 : σ2.get 1 = some (.row 1 false [.int .i64 0]) := by rw [ex2.2 1 (by omega)]; exact g1
    have run : ∃ T1 σ', execC lawProg (callN lawProg k) k 17 25 (bodyOf Try.f17) (initT 0 [.agg [X, Y]] .nil) AMem.empty = some (.ret, T1, σ') ∧ T1.get 2 = some (.ptr 1 0) ∧ T1.get 3 = some (.int .i64 (greatL ps)) ∧ T1.get 4 = some (.int .i64 0) ∧ σ'.get 1 = some (.row 1 false [.int .i64 (sumB (blocksL ps))]) := by
      simp only [bodyOf, Try.f17, Option.getD_some, initT, dx, reduceIte, Nat.reduceLT, Nat.reduceLeDiff, Nat.reduceEqDiff, Nat.reduceAdd, Nat.reduceMul, Nat.reduceSub, Nat.reduceBEq, Int.reduceEq, Int.reduceLT, Int.reduceLE, Int.reduceToNat, reduceCtorEq, sx, fx17, hX, hY, ← hσ0]
      simp only [dx, reduceIte, Nat.reduceLT, Nat.reduceLeDiff, Nat.reduceEqDiff, Nat.reduceAdd, Nat.reduceMul, Nat.reduceSub, Nat.reduceBEq, Int.reduceEq, Int.reduceLT, Int.reduceLE, Int.reduceToNat, reduceCtorEq, sx, fx17, g0, ho, show ((0 : Int) != 0) = false from rfl]
      generalize hR : execC _ _ _ _ _ (Code.rangeFunc _ _ _ _) _ _ = r
      have hrng : ∀ (T0 : Tr AVal) (X' : Out), T0.get 2 = some (.ptr 1 0) → T0.get 16 = some (.func 47 [.ptr sp 0] []) → execC lawProg (callN lawProg k) k 17 25 (.rangeFunc (.tmp 16) #[17] (loopSp T0).assign (loopSp T0).body) T0 σ2 = X' → ∃ σ', X' = some (.normal, T0, σ') ∧ σ'.get 1 = some (.row 1 false [.int .i64 (sumB (blocksL ps))]) ∧ HeapM σ0.next σ' sp pr none wr none its ps ws := by
        intro T0 X' t2 t16 hX'
        rw [← hX']
        have hp : ∀ r, r < σ2.next → (σ2.push (.loop (loopSp T0))).get r = σ2.get r := fun r hr => by rw [AMem.get_push, if_neg (by omega)]
        have hmem : ∀ r, 2 ≤ r → r < σ2.next → r ∉ [1, σ2.next] := fun r h1 h2 hm => by
          simp only [List.mem_cons, List.not_mem_nil, or_false] at hm
          omega
        obtain ⟨O', σ', e1, ⟨rfl, h1, h2, h3, h4⟩, hF⟩ := range_all (σ := σ2) (k := k) (f := 17) (N := 25) (T0 := T0) (p := 17) (g := 16) (lp := loopSp T0) (O := [1, σ2.next]) (k0 := 1) (a := (loopSp T0).assign) (b := (loopSp T0).body) rfl (sp_client t2 (by have := blocks_count hright.shape hmany.2; omega) (blk_sizes hright.shape hmany.2)) (fun _ _ h => h) (fun d O σ' ⟨_, _, _, _, h⟩ => h) hM hright.shape hmany.2 (by omega) (by omega) ⟨hmem sp (by omega) x1, hmem pr (by omega) x2, hmem wr (by omega) x3, fun r hr => hmem r (by have := (hM.own.it.bound r hr).1; omega) (hM.own.it.bound r hr).2⟩ ⟨rfl, by omega, by simp, by rw [hp 1 (by omega)]; exact g12, by rw [AMem.get_push, if_pos rfl]⟩ t16
        refine ⟨_, e1, by rw [AMem.get_put, if_neg (by omega)]; exact h3, ?_⟩
        have hFn := hF.nx
        simp only [AMem.next_push] at hFn
        have hsame : ∀ r, 2 ≤ r → r < σ2.next → (σ'.put σ2.next (.loop { loopSp T0 with state := .exhausted })).get r = σ2.get r := fun r h1 h2 => by
          rw [AMem.get_put, if_neg (by omega), hF.get r (by simp only [AMem.next_push]; omega) (hmem r h1 h2), hp r h2]
        refine ⟨⟨by rw [hsame sp (by omega) x1]; exact hM.own.ms, by rw [hsame pr (by omega) x2]; exact hM.own.mp, by rw [hsame wr (by omega) x3]; exact hM.own.mw, hM.own.it.same (Nat.le_refl _) (by simp only [AMem.next_put]; omega) (fun r hr => hsame r (by have := (hM.own.it.bound r hr).1; omega) (hM.own.it.bound r hr).2) hM.own.it.2.2, hM.own.ns, hM.own.nw, hM.own.ne, hM.own.lo, ⟨by simp only [AMem.next_put]; omega, by simp only [AMem.next_put]; omega, by simp only [AMem.next_put]; omega⟩⟩, hM.pi, hM.ox⟩
      obtain ⟨σ', rfl, z1, z2⟩ := hrng _ _ (by simp only [Tr.get_set, Nat.reduceEqDiff, reduceIte]) (by simp only [Tr.get_set, Nat.reduceEqDiff, reduceIte]) hR
      obtain ⟨σ3, hgr, ex3⟩ := greatest_exec (k := k - 1) z2 hright.shape hmany.2 (by omega)
      rw [show k - 1 + 1 = k by omega] at hgr
      have hn1 : 1 < σ'.next := by have := z2.own.nx; omega
      have z13 : σ3.get 1 = some (.row 1 false [.int .i64 (sumB (blocksL ps))]) := by rw [ex3.2 1 hn1]; exact z1
      simp only [dx, reduceIte, Nat.reduceLT, Nat.reduceLeDiff, Nat.reduceEqDiff, Nat.reduceAdd, Nat.reduceMul, Nat.reduceSub, Nat.reduceBEq, Int.reduceEq, Int.reduceLT, Int.reduceLE, Int.reduceToNat, reduceCtorEq, sx, fx17, z1, hgr, z13]
      exact ⟨_, _, rfl, by simp only [Tr.get_set, Nat.reduceEqDiff, reduceIte], by simp only [Tr.get_set, Nat.reduceEqDiff, reduceIte], by simp only [Tr.get_set, Nat.reduceEqDiff, reduceIte], by rw [AMem.get_put, if_pos rfl]⟩
    obtain ⟨T1, σ', r1, r2, r3, r4, r5⟩ := run
    exact fin T1 _ _ _ 0 r1 r2 r3 r4 r5
end Go.Proofs.Ytjkfdiglokkceaa

/- Heaps: the greatest block that can be handed out. No program in sight. -/
set_option maxRecDepth 100000
set_option linter.unusedSimpArgs false
set_option linter.unusedVariables false
namespace Go.Proofs.Ytjkfdiglokkceaa
open Go Go.Proofs.Ytjkfdiglokkceaa.Pale

theorem grRun_some {ps : List Pg} {m : Nat} : ∀ {n : Nat}, grRun ps n = some m → 1 ≤ m ∧ m ≤ n ∧ (runL ps m).isSome = true ∧ ∀ j, m < j → j ≤ n → runL ps j = none := by
  intro n
  induction n with
  | zero => intro h; cases h
  | succ n ih =>
    intro h
    unfold grRun at h
    split at h
    · rename_i hs
      cases h
      exact ⟨by omega, by omega, hs, fun j h1 h2 => by omega⟩
    · rename_i hs
      obtain ⟨a, b, c, d⟩ := ih h
      refine ⟨a, by omega, c, fun j h1 h2 => ?_⟩
      by_cases e : j = n + 1
      · subst e
        simpa using hs
      · exact d j h1 (by omega)
theorem grRun_none {ps : List Pg} : ∀ {n : Nat}, grRun ps n = none → ∀ j, 1 ≤ j → j ≤ n → runL ps j = none := by
  intro n
  induction n with
  | zero => intro _ j h1 h2; omega
  | succ n ih =>
    intro h j h1 h2
    unfold grRun at h
    split at h
    · cases h
    · rename_i hs
      by_cases e : j = n + 1
      · subst e
        simpa using hs
      · exact ih h j h1 (by omega)
/-- The greatest number, of so many at most, that can be handed out. -/
def greatTo (ps : List Pg) : Nat → Int
  | 0 => 0
  | n + 1 => if (allocL ps ((n + 1 : Nat) : Int)).isSome then ((n + 1 : Nat) : Int) else greatTo ps n
theorem greatTo_none {ps : List Pg} : ∀ {N : Nat}, (∀ n : Nat, 1 ≤ n → n ≤ N → allocL ps (n : Nat) = none) → greatTo ps N = 0 := by
  intro N
  induction N with
  | zero => intro _; rfl
  | succ N ih =>
    intro h
    rw [greatTo, h (N + 1) (by omega) (by omega), if_neg (by simp)]
    exact ih fun n h1 h2 => h n h1 (by omega)
theorem greatTo_max {ps : List Pg} {a : Nat} (ha : (allocL ps (a : Nat)).isSome = true) (h1 : 1 ≤ a) : ∀ {N : Nat}, a ≤ N → (∀ n : Nat, a < n → n ≤ N → allocL ps (n : Nat) = none) → greatTo ps N = (a : Nat) := by
  intro N
  induction N with
  | zero => intro h _; omega
  | succ N ih =>
    intro h hn
    by_cases e : a = N + 1
    · subst e
      rw [greatTo, if_pos ha]
    · rw [greatTo, hn (N + 1) (by omega) (by omega), if_neg (by simp)]
      exact ih (by omega) fun n h1 h2 => hn n h1 (by omega)
theorem alloc_large {ps : List Pg} {n : Nat} (h : 32 < n) : (allocL ps (n : Nat)).isSome = (runL ps ((n + 63) / 64)).isSome := by
  have hq : ((((n : Nat) : Int) + 63) / 64).toNat = (n + 63) / 64 := by omega
  unfold allocL
  rw [if_pos (by omega), hq]
  cases runL ps ((n + 63) / 64) <;> rfl
theorem alloc_small {ps : List Pg} {n : Nat} (h : n ≤ 32) (hr : runL ps 1 = none) : (allocL ps (n : Nat)).isSome = (placeL ps (sizeF (n : Nat))).isSome := by
  unfold allocL
  rw [if_neg (by omega)]
  cases placeL ps (sizeF (n : Nat)) with
  | some x => rfl
  | none => simp only [hr]; rfl
theorem sizeF_at (n : Nat) (h : n ≤ 32) : (n ≤ 2 ∧ sizeF (n : Nat) = 2) ∨ (2 < n ∧ n ≤ 4 ∧ sizeF (n : Nat) = 4) ∨ (4 < n ∧ n ≤ 8 ∧ sizeF (n : Nat) = 8) ∨ (8 < n ∧ n ≤ 16 ∧ sizeF (n : Nat) = 16) ∨ (16 < n ∧ sizeF (n : Nat) = 32) := by
  unfold sizeF
  by_cases h2 : n ≤ 2
  · exact .inl ⟨h2, by rw [if_pos (by omega)]⟩
  · by_cases h4 : n ≤ 4
    · exact .inr (.inl ⟨by omega, h4, by rw [if_neg (by omega), if_pos (by omega)]⟩)
    · by_cases h8 : n ≤ 8
      · exact .inr (.inr (.inl ⟨by omega, h8, by rw [if_neg (by omega), if_neg (by omega), if_pos (by omega)]⟩))
      · by_cases h16 : n ≤ 16
        · exact .inr (.inr (.inr (.inl ⟨by omega, h16, by rw [if_neg (by omega), if_neg (by omega), if_neg (by omega), if_pos (by omega)]⟩)))
        · exact .inr (.inr (.inr (.inr ⟨by omega, by rw [if_neg (by omega), if_neg (by omega), if_neg (by omega), if_neg (by omega)]⟩)))
theorem none_of {α : Type} {o : Option α} (h : o.isSome = false) : o = none := by
  cases o with
  | none => rfl
  | some x => cases h
theorem great_eq {ps : List Pg} (h1 : 1 ≤ ps.length) (h2 : ps.length ≤ 40) : greatTo ps (64 * ps.length) = greatL ps := by
  unfold greatL
  cases hg : grRun ps 40 with
  | some m =>
    obtain ⟨a, b, c, d⟩ := grRun_some hg
    have hf : m ≤ ps.length := by
      cases hr : runL ps m with
      | none => rw [hr] at c; cases c
      | some f => have := (runL_some hr).1; omega
    refine greatTo_max ?_ (by omega) (by omega) fun n hn1 hn2 => none_of ?_
    · rw [alloc_large (by omega), show (64 * m + 63) / 64 = m by omega]
      exact c
    · rw [alloc_large (by omega), d _ (by omega) (by omega)]
      rfl
  | none =>
    have hd := grRun_none hg
    have hr1 := hd 1 (by omega) (by omega)
    have hlarge : ∀ n : Nat, 32 < n → n ≤ 64 * ps.length → allocL ps (n : Nat) = none := fun n a b => none_of (by rw [alloc_large a, hd _ (by omega) (by omega)]; rfl)
    have hsmall : ∀ n : Nat, n ≤ 32 → (placeL ps (sizeF (n : Nat))).isSome = false → allocL ps (n : Nat) = none := fun n a b => none_of (by rw [alloc_small a hr1, b])
    have hsome : ∀ n : Nat, n ≤ 32 → (placeL ps (sizeF (n : Nat))).isSome = true → (allocL ps (n : Nat)).isSome = true := fun n a b => by rw [alloc_small a hr1, b]
    show greatTo ps (64 * ps.length) = grSmall ps
    unfold grSmall
    have pick : ∀ s : Nat, 1 ≤ s → s ≤ 32 → (placeL ps (sizeF (s : Nat))).isSome = true → (∀ n : Nat, s < n → n ≤ 32 → (placeL ps (sizeF (n : Nat))).isSome = false) → greatTo ps (64 * ps.length) = (s : Nat) := fun s a b c d => greatTo_max (hsome s b c) a (by omega) fun n e f => by
      by_cases g : n ≤ 32
      · exact hsmall n g (d n e g)
      · exact hlarge n (by omega) f
    cases p32 : (placeL ps 32).isSome with
    | true => rw [if_pos rfl]; exact pick 32 (by omega) (by omega) p32 fun n a b => by omega
    | false =>
      rw [if_neg (by simp)]
      cases p16 : (placeL ps 16).isSome with
      | true =>
        rw [if_pos rfl]
        refine pick 16 (by omega) (by omega) p16 fun n a b => ?_
        rcases sizeF_at n b with ⟨x, e⟩ | ⟨x, y, e⟩ | ⟨x, y, e⟩ | ⟨x, y, e⟩ | ⟨x, e⟩ <;> first | omega | (rw [e]; assumption)
      | false =>
        rw [if_neg (by simp)]
        cases p8 : (placeL ps 8).isSome with
        | true =>
          rw [if_pos rfl]
          refine pick 8 (by omega) (by omega) p8 fun n a b => ?_
          rcases sizeF_at n b with ⟨x, e⟩ | ⟨x, y, e⟩ | ⟨x, y, e⟩ | ⟨x, y, e⟩ | ⟨x, e⟩ <;> first | omega | (rw [e]; assumption)
        | false =>
          rw [if_neg (by simp)]
          cases p4 : (placeL ps 4).isSome with
          | true =>
            rw [if_pos rfl]
            refine pick 4 (by omega) (by omega) p4 fun n a b => ?_
            rcases sizeF_at n b with ⟨x, e⟩ | ⟨x, y, e⟩ | ⟨x, y, e⟩ | ⟨x, y, e⟩ | ⟨x, e⟩ <;> first | omega | (rw [e]; assumption)
          | false =>
            rw [if_neg (by simp)]
            cases p2 : (placeL ps 2).isSome with
            | true =>
              rw [if_pos rfl]
              refine pick 2 (by omega) (by omega) p2 fun n a b => ?_
              rcases sizeF_at n b with ⟨x, e⟩ | ⟨x, y, e⟩ | ⟨x, y, e⟩ | ⟨x, y, e⟩ | ⟨x, e⟩ <;> first | omega | (rw [e]; assumption)
            | false =>
              rw [if_neg (by simp)]
              refine greatTo_none fun n a b => ?_
              by_cases g : n ≤ 32
              · refine hsmall n g ?_
                rcases sizeF_at n g with ⟨x, e⟩ | ⟨x, y, e⟩ | ⟨x, y, e⟩ | ⟨x, y, e⟩ | ⟨x, e⟩ <;> (rw [e]; assumption)
              · exact hlarge n (by omega) b
end Go.Proofs.Ytjkfdiglokkceaa

/- Heaps: New; the reference's Space; lists of pairs that are compared. -/
set_option maxRecDepth 100000
set_option linter.unusedSimpArgs false
set_option linter.unusedVariables false
namespace Go.Proofs.Ytjkfdiglokkceaa
open Go Go.Proofs.Ytjkfdiglokkceaa.Pale
variable {k : Nat} {σ : AMem}

def newPs (n : Int) : List Pg := if 1 ≤ n ∧ n ≤ 40 then List.replicate n.toNat noPg else []
def newWs (n : Int) : List Int := if 1 ≤ n ∧ n ≤ 40 then List.replicate (64 * n.toNat) 0 else []
def newE (n : Int) : Int := if 1 ≤ n ∧ n ≤ 40 then 0 else 3
theorem new_bd (n : Int) : Bd (newPs n) (newWs n) := by
  unfold newPs newWs
  split
  · refine ⟨by simp; omega, by simp; omega, fun p hp => ?_⟩
    rw [List.eq_of_mem_replicate hp]
    simp [noPg]
  · exact nil_bd
theorem new_heap {m : Nat} {σ : AMem} {r pr wr : Nat} (h1 : σ.get r = some (.row 2 true [.slice pr 0 m (some m) 3, .slice wr 0 (64 * m) (some (64 * m)) 1])) (h2 : σ.get pr = some (.row 3 true (repZ [.int .u8 0, .int .i64 0, .vs .nil []] m))) (h3 : σ.get wr = some (.row 1 false (repZ [.int .i64 0] (64 * m)))) (hn : r < pr ∧ pr < wr ∧ wr < σ.next) : HeapM 0 σ r pr (some m) wr (some (64 * m)) (List.replicate m zItem) (List.replicate m noPg) (List.replicate (64 * m) 0) := by
  have hz : rowsOf (List.replicate m zItem) = [] := by
    unfold rowsOf
    rw [List.flatMap_eq_nil_iff]
    intro a ha
    rw [List.eq_of_mem_replicate ha]
    rfl
  refine ⟨⟨by rw [List.length_replicate, List.length_replicate]; exact h1, by rw [← repZ_items]; exact h2, ?_, ⟨fun a ha => ?_, by rw [hz]; simp, by rw [hz]; simp⟩, by rw [hz]; simp, by rw [hz]; simp, ⟨by omega, by omega, by omega⟩, ⟨by omega, by omega, by omega⟩, ⟨by omega, by omega, by omega⟩⟩, ?_, fun a ha => ?_⟩
  · rw [h3, repZ_one]
    unfold intV
    rw [List.map_replicate]
  · rw [List.eq_of_mem_replicate ha]
    exact ⟨rfl, rfl, .inl ⟨.nil, rfl⟩⟩
  · rw [List.map_replicate, List.map_replicate]
    rfl
  · rw [List.eq_of_mem_replicate ha]
    exact .inl ⟨rfl, rfl⟩
set_option maxHeartbeats 1000000 in
theorem New_call (n : Int) (hk : 5 ≤ k) : ∃ v, (∀ σ, pureCall lawProg (callN lawProg k) (.func 13 [] []) [.int .i64 n] σ = some (.tuple [v, .int .i64 (newE n)], σ)) ∧ VH v (newPs n) (newWs n) := by
  obtain ⟨k, rfl⟩ : ∃ m, k = m + 1 := ⟨k - 1, by omega⟩
  have hw := fun (σ : AMem) => within_call (k := k) (σ := σ) 1 40 n (by omega)
  have fin : ∀ (T1 : Tr AVal) (σ' : AMem) (o0 o1 : AVal) (e : Int) (v' : AVal) (S : List Nat) (qs : List Pg) (us : List Int), execC lawProg (callN lawProg k) k 13 14 (bodyOf Try.f13) (initT 0 [.int .i64 n] .nil) AMem.empty = some (.ret, T1, σ') → T1.get 2 = some (.ptr 0 0) → T1.get 3 = some (.int .i64 e) → σ'.get 0 = some (.row 2 true [o0, o1]) → snapF true σ' 11 (.agg [o0, o1]) = some (v', S) → VH v' qs us → ∃ v', (∀ σ, pureCall lawProg (callN lawProg (k + 1)) (.func 13 [] []) [.int .i64 n] σ = some (.tuple [v', .int .i64 e], σ)) ∧ VH v' qs us := by
    intro T1 σ' o0 o1 e v' S qs us r1 r2 r3 r5 hS hvh
    refine ⟨v', fun σ => pureCall_of (args' := [.int .i64 n]) (seen := []) rfl (memo13 _) (pureRun_of (vs := [.agg [o0, o1], .int .i64 e]) (seen := S ++ ([] ++ [])) fn13 rfl (by simp [Try.f13]) r1 (by simp) ?_ ?_), hvh⟩
    · simp only [Try.f13, resultsA, resultA, dx, reduceIte, Nat.reduceLT, Nat.reduceLeDiff, Nat.reduceEqDiff, Nat.reduceAdd, Nat.reduceMul, Nat.reduceSub, Nat.reduceBEq, Int.reduceEq, Int.reduceLT, Int.reduceLE, Int.reduceToNat, reduceCtorEq, sx, fx13, r2, r3, r5]
    · have c2 : snapF true σ' 11 (.int .i64 e) = some (.int .i64 e, []) := rfl
      show snapF true σ' (11 + 1) (.tuple [.agg [o0, o1], .int .i64 e]) = _
      rw [snapF]
      simp only [snapL, hS, c2, Option.map_some]
  unfold newE newPs newWs
  by_cases hn : 1 ≤ n ∧ n ≤ 40
  · rw [if_pos hn, if_pos hn, if_pos hn]
    rw [decide_eq_true hn] at hw
    obtain ⟨m, rfl⟩ : ∃ m : Nat, n = (m : Nat) := ⟨n.toNat, by omega⟩
    have w1 : IntKind.i64.wrap (((m : Nat) : Int) * 64) = ((64 * m : Nat) : Int) := by rw [i64_id (by omega) (by omega)]; omega
    have cm : (0 : Int) ≤ ((m : Nat) : Int) ∧ ((m : Nat) : Int) ≤ ((m : Nat) : Int) ∧ ((m : Nat) : Int) * ((40 : Nat) : Int) ≤ ((mostBytes : Nat) : Int) ∧ ((m : Nat) : Int) ≤ 9223372036854775807 := by unfold mostBytes; omega
    have cw : (0 : Int) ≤ ((64 * m : Nat) : Int) ∧ ((64 * m : Nat) : Int) ≤ ((64 * m : Nat) : Int) ∧ ((64 * m : Nat) : Int) * ((8 : Nat) : Int) ≤ ((mostBytes : Nat) : Int) ∧ ((64 * m : Nat) : Int) ≤ 9223372036854775807 := by unfold mostBytes; omega
    obtain ⟨σ1, hσ1⟩ : ∃ s, s = (((AMem.empty.push (.row 2 true [.vs .nil [], .vs .nil []])).push (.row 3 true (repZ [.int .u8 0, .int .i64 0, .vs .nil []] m))).push (.row 1 false (repZ [.int .i64 0] (64 * m)))).put 0 (.row 2 true [.slice 1 0 m (some m) 3, .slice 2 0 (64 * m) (some (64 * m)) 1]) := ⟨_, rfl⟩
    have n1 : σ1.next = 3 := by rw [hσ1]; simp [next_empty]
    have g0 : σ1.get 0 = some (.row 2 true [.slice 1 0 m (some m) 3, .slice 2 0 (64 * m) (some (64 * m)) 1]) := by rw [hσ1, AMem.get_put, if_pos rfl]
    have g1 : σ1.get 1 = some (.row 3 true (repZ [.int .u8 0, .int .i64 0, .vs .nil []] m)) := by rw [hσ1]; simp [AMem.get_push, AMem.get_put, next_empty]
    have g2 : σ1.get 2 = some (.row 1 false (repZ [.int .i64 0] (64 * m))) := by rw [hσ1]; simp [AMem.get_push, AMem.get_put, next_empty]
    have run : ∃ T1, execC lawProg (callN lawProg k) k 13 14 (bodyOf Try.f13) (initT 0 [.int .i64 (m : Nat)] .nil) AMem.empty = some (.ret, T1, σ1) ∧ T1.get 2 = some (.ptr 0 0) ∧ T1.get 3 = some (.int .i64 0) := by
      rw [hσ1]
      simp only [bodyOf, Try.f13, Option.getD_some, initT, dx, reduceIte, Nat.reduceLT, Nat.reduceLeDiff, Nat.reduceEqDiff, Nat.reduceAdd, Nat.reduceMul, Nat.reduceSub, Nat.reduceBEq, Int.reduceEq, Int.reduceLT, Int.reduceLE, Int.reduceToNat, reduceCtorEq, sx, fx13, hw, w1, cm, cw, Int.toNat_natCast]
      exact ⟨_, rfl, by simp only [Tr.get_set, Nat.reduceEqDiff, reduceIte], by simp only [Tr.get_set, Nat.reduceEqDiff, reduceIte]⟩
    obtain ⟨T1, r1, r2, r3⟩ := run
    obtain ⟨v', S, hS, hvh⟩ := (new_heap g0 g1 g2 ⟨by omega, by omega, by omega⟩).vh (fr := true) 7
    rw [List.length_replicate, List.length_replicate] at hS
    rw [Int.toNat_natCast]
    exact fin T1 σ1 _ _ 0 v' S _ _ r1 r2 r3 g0 hS hvh
  · rw [if_neg hn, if_neg hn, if_neg hn]
    rw [decide_eq_false hn] at hw
    have run : ∃ T1 σ', execC lawProg (callN lawProg k) k 13 14 (bodyOf Try.f13) (initT 0 [.int .i64 n] .nil) AMem.empty = some (.ret, T1, σ') ∧ T1.get 2 = some (.ptr 0 0) ∧ T1.get 3 = some (.int .i64 3) ∧ σ'.get 0 = some (.row 2 true [.vs .nil [], .vs .nil []]) := by
      simp only [bodyOf, Try.f13, Option.getD_some, initT, dx, reduceIte, Nat.reduceLT, Nat.reduceLeDiff, Nat.reduceEqDiff, Nat.reduceAdd, Nat.reduceMul, Nat.reduceSub, Nat.reduceBEq, Int.reduceEq, Int.reduceLT, Int.reduceLE, Int.reduceToNat, reduceCtorEq, sx, fx13, hw]
      exact ⟨_, _, rfl, by simp only [Tr.get_set, Nat.reduceEqDiff, reduceIte], by simp only [Tr.get_set, Nat.reduceEqDiff, reduceIte], by rw [AMem.get_put, if_pos rfl]⟩
    obtain ⟨T1, σ', r1, r2, r3, r5⟩ := run
    exact fin T1 σ' _ _ 3 _ _ [] [] r1 r2 r3 r5 (snap_hp0 _ 9) nil_vh
set_option maxHeartbeats 1000000 in
theorem RNew_call (n : Int) (hk : 5 ≤ k) : ∃ v, (∀ σ, pureCall lawProg (callN lawProg k) (.func 14 [] []) [.int .i64 n] σ = some (.tuple [v, .int .i64 (newE n)], σ)) ∧ VH v (newPs n) (newWs n) := by
  obtain ⟨k, rfl⟩ : ∃ m, k = m + 1 := ⟨k - 1, by omega⟩
  have hw := fun (σ : AMem) => in_call (k := k) (σ := σ) n 1 40 (by omega)
  have fin : ∀ (T1 : Tr AVal) (σ' : AMem) (o0 o1 : AVal) (e : Int) (v' : AVal) (S : List Nat) (qs : List Pg) (us : List Int), execC lawProg (callN lawProg k) k 14 14 (bodyOf Try.f14) (initT 0 [.int .i64 n] .nil) AMem.empty = some (.ret, T1, σ') → T1.get 2 = some (.ptr 0 0) → T1.get 3 = some (.int .i64 e) → σ'.get 0 = some (.row 2 true [o0, o1]) → snapF true σ' 11 (.agg [o0, o1]) = some (v', S) → VH v' qs us → ∃ v', (∀ σ, pureCall lawProg (callN lawProg (k + 1)) (.func 14 [] []) [.int .i64 n] σ = some (.tuple [v', .int .i64 e], σ)) ∧ VH v' qs us := by
    intro T1 σ' o0 o1 e v' S qs us r1 r2 r3 r5 hS hvh
    refine ⟨v', fun σ => pureCall_of (args' := [.int .i64 n]) (seen := []) rfl (memo14 _) (pureRun_of (vs := [.agg [o0, o1], .int .i64 e]) (seen := S ++ ([] ++ [])) fn14 rfl (by simp [Try.f14]) r1 (by simp) ?_ ?_), hvh⟩
    · simp only [Try.f14, resultsA, resultA, dx, reduceIte, Nat.reduceLT, Nat.reduceLeDiff, Nat.reduceEqDiff, Nat.reduceAdd, Nat.reduceMul, Nat.reduceSub, Nat.reduceBEq, Int.reduceEq, Int.reduceLT, Int.reduceLE, Int.reduceToNat, reduceCtorEq, sx, fx14, r2, r3, r5]
    · have c2 : snapF true σ' 11 (.int .i64 e) = some (.int .i64 e, []) := rfl
      show snapF true σ' (11 + 1) (.tuple [.agg [o0, o1], .int .i64 e]) = _
      rw [snapF]
      simp only [snapL, hS, c2, Option.map_some]
  unfold newE newPs newWs
  by_cases hn : 1 ≤ n ∧ n ≤ 40
  · rw [if_pos hn, if_pos hn, if_pos hn]
    rw [decide_eq_true hn] at hw
    obtain ⟨m, rfl⟩ : ∃ m : Nat, n = (m : Nat) := ⟨n.toNat, by omega⟩
    have w1 : IntKind.i64.wrap (((m : Nat) : Int) * 64) = ((64 * m : Nat) : Int) := by rw [i64_id (by omega) (by omega)]; omega
    have cm : (0 : Int) ≤ ((m : Nat) : Int) ∧ ((m : Nat) : Int) ≤ ((m : Nat) : Int) ∧ ((m : Nat) : Int) * ((40 : Nat) : Int) ≤ ((mostBytes : Nat) : Int) ∧ ((m : Nat) : Int) ≤ 9223372036854775807 := by unfold mostBytes; omega
    have cw : (0 : Int) ≤ ((64 * m : Nat) : Int) ∧ ((64 * m : Nat) : Int) ≤ ((64 * m : Nat) : Int) ∧ ((64 * m : Nat) : Int) * ((8 : Nat) : Int) ≤ ((mostBytes : Nat) : Int) ∧ ((64 * m : Nat) : Int) ≤ 9223372036854775807 := by unfold mostBytes; omega
    obtain ⟨σ1, hσ1⟩ : ∃ s, s = (((AMem.empty.push (.row 2 true [.vs .nil [], .vs .nil []])).push (.row 3 true (repZ [.int .u8 0, .int .i64 0, .vs .nil []] m))).push (.row 1 false (repZ [.int .i64 0] (64 * m)))).put 0 (.row 2 true [.slice 1 0 m (some m) 3, .slice 2 0 (64 * m) (some (64 * m)) 1]) := ⟨_, rfl⟩
    have n1 : σ1.next = 3 := by rw [hσ1]; simp [next_empty]
    have g0 : σ1.get 0 = some (.row 2 true [.slice 1 0 m (some m) 3, .slice 2 0 (64 * m) (some (64 * m)) 1]) := by rw [hσ1, AMem.get_put, if_pos rfl]
    have g1 : σ1.get 1 = some (.row 3 true (repZ [.int .u8 0, .int .i64 0, .vs .nil []] m)) := by rw [hσ1]; simp [AMem.get_push, AMem.get_put, next_empty]
    have g2 : σ1.get 2 = some (.row 1 false (repZ [.int .i64 0] (64 * m))) := by rw [hσ1]; simp [AMem.get_push, AMem.get_put, next_empty]
    have run : ∃ T1, execC lawProg (callN lawProg k) k 14 14 (bodyOf Try.f14) (initT 0 [.int .i64 (m : Nat)] .nil) AMem.empty = some (.ret, T1, σ1) ∧ T1.get 2 = some (.ptr 0 0) ∧ T1.get 3 = some (.int .i64 0) := by
      rw [hσ1]
      simp only [bodyOf, Try.f14, Option.getD_some, initT, dx, reduceIte, Nat.reduceLT, Nat.reduceLeDiff, Nat.reduceEqDiff, Nat.reduceAdd, Nat.reduceMul, Nat.reduceSub, Nat.reduceBEq, Int.reduceEq, Int.reduceLT, Int.reduceLE, Int.reduceToNat, reduceCtorEq, sx, fx14, hw, w1, cm, cw, Int.toNat_natCast]
      exact ⟨_, rfl, by simp only [Tr.get_set, Nat.reduceEqDiff, reduceIte], by simp only [Tr.get_set, Nat.reduceEqDiff, reduceIte]⟩
    obtain ⟨T1, r1, r2, r3⟩ := run
    obtain ⟨v', S, hS, hvh⟩ := (new_heap g0 g1 g2 ⟨by omega, by omega, by omega⟩).vh (fr := true) 7
    rw [List.length_replicate, List.length_replicate] at hS
    rw [Int.toNat_natCast]
    exact fin T1 σ1 _ _ 0 v' S _ _ r1 r2 r3 g0 hS hvh
  · rw [if_neg hn, if_neg hn, if_neg hn]
    rw [decide_eq_false hn] at hw
    have run : ∃ T1 σ', execC lawProg (callN lawProg k) k 14 14 (bodyOf Try.f14) (initT 0 [.int .i64 n] .nil) AMem.empty = some (.ret, T1, σ') ∧ T1.get 2 = some (.ptr 0 0) ∧ T1.get 3 = some (.int .i64 3) ∧ σ'.get 0 = some (.row 2 true [.vs .nil [], .vs .nil []]) := by
      simp only [bodyOf, Try.f14, Option.getD_some, initT, dx, reduceIte, Nat.reduceLT, Nat.reduceLeDiff, Nat.reduceEqDiff, Nat.reduceAdd, Nat.reduceMul, Nat.reduceSub, Nat.reduceBEq, Int.reduceEq, Int.reduceLT, Int.reduceLE, Int.reduceToNat, reduceCtorEq, sx, fx14, hw]
      exact ⟨_, _, rfl, by simp only [Tr.get_set, Nat.reduceEqDiff, reduceIte], by simp only [Tr.get_set, Nat.reduceEqDiff, reduceIte], by rw [AMem.get_put, if_pos rfl]⟩
    obtain ⟨T1, σ', r1, r2, r3, r5⟩ := run
    exact fin T1 σ' _ _ 3 _ _ [] [] r1 r2 r3 r5 (snap_hp0 _ 9) nil_vh
theorem samePairs_call (K K2 : VK) (l : List Blk) (hl : l.length ≤ 8000) (hk : 9000 ≤ k) : pureCall lawProg (callN lawProg k) (.func 22 [] []) [.vs K (prsV l), .vs K2 (prsV l)] σ = some (.bool true, σ) := by
  obtain ⟨k, rfl⟩ : ∃ m, k = m + 1 := ⟨k - 1, by omega⟩
  have run : ∃ T1 σ1, execC lawProg (callN lawProg k) k 22 26 (bodyOf Try.f22) (initT 0 [.vs K (prsV l), .vs K2 (prsV l)] .nil) AMem.empty = some (.ret, T1, σ1) ∧ T1.get 4 = some (.bool true) := by
    have hne : (((l.length : Nat) : Int) != ((l.length : Nat) : Int)) = false := bne_self_eq_false _
    simp only [bodyOf, Try.f22, Option.getD_some, initT, dx, reduceIte, Nat.reduceLT, Nat.reduceLeDiff, Nat.reduceEqDiff, Nat.reduceAdd, Nat.reduceMul, Nat.reduceSub, Nat.reduceBEq, Int.reduceEq, Int.reduceLT, Int.reduceLE, Int.reduceToNat, reduceCtorEq, sx, fx22, prsV_length, hne]
    generalize hL : execC _ _ _ _ _ (Code.loop _) _ _ = q
    obtain ⟨e, T', σ', rfl, _, rfl⟩ : ∃ e T' σ', q = some (e, T', σ') ∧ e ≠ .normal ∧ e = .exit 0 := by
      rw [← hL]
      refine exec_loop (fun i T σ' => i ≤ l.length ∧ T.get 0 = some (.vs K (prsV l)) ∧ T.get 1 = some (.vs K2 (prsV l)) ∧ T.get 5 = some (.int .i64 (i : Nat))) l.length (by omega) ?_ ?_ ?_
      · rintro i hi T σ0 ⟨_, t0, t1, t5⟩
        have hlt : ((i : Nat) : Int) < ((l.length : Nat) : Int) := by omega
        have hw' := i64_succ (i := i) (by omega)
        have hget := prsV_get hi
        have hq1 : ((l[i]).at_ == (l[i]).at_) = true := beq_self_eq_true _
        have hq2 : ((l[i]).size == (l[i]).size) = true := beq_self_eq_true _
        refine ⟨_, _, by
          simp only [dx, reduceIte, Nat.reduceLT, Nat.reduceLeDiff, Nat.reduceEqDiff, Nat.reduceAdd, Nat.reduceMul, Nat.reduceSub, Nat.reduceBEq, Int.reduceEq, Int.reduceLT, Int.reduceLE, Int.reduceToNat, reduceCtorEq, sx, fx22, t0, t1, t5, prsV_length, hlt, Int.natCast_nonneg, Int.toNat_natCast, hget, aeq, eqTy, eqAggI, eqInts, hq1, hq2, hw']
          rfl, by omega, ?_, ?_, ?_⟩
        · simp only [Tr.get_set, Nat.reduceEqDiff, reduceIte, t0]
        · simp only [Tr.get_set, Nat.reduceEqDiff, reduceIte, t1]
        · simp only [Tr.get_set, Nat.reduceEqDiff, reduceIte]
      · rintro T σ0 ⟨_, t0, t1, t5⟩
        have hge : ¬ (((l.length : Nat) : Int) < ((l.length : Nat) : Int)) := by omega
        exact ⟨_, _, _, by
          simp only [dx, reduceIte, Nat.reduceLT, Nat.reduceLeDiff, Nat.reduceEqDiff, Nat.reduceAdd, Nat.reduceMul, Nat.reduceSub, Nat.reduceBEq, Int.reduceEq, Int.reduceLT, Int.reduceLE, Int.reduceToNat, reduceCtorEq, sx, fx22, t0, t5, prsV_length, hge]
          rfl, by simp, rfl⟩
      · refine ⟨Nat.zero_le _, ?_, ?_, ?_⟩
        all_goals simp only [Tr.get_set, Nat.reduceEqDiff, reduceIte] <;> rfl
    simp only [dx, reduceIte, Nat.reduceLT, Nat.reduceLeDiff, Nat.reduceEqDiff, Nat.reduceAdd, Nat.reduceMul, Nat.reduceSub, Nat.reduceBEq, Int.reduceEq, Int.reduceLT, Int.reduceLE, Int.reduceToNat, reduceCtorEq, sx, fx22]
    exact ⟨_, _, rfl, by simp only [Tr.get_set, Nat.reduceEqDiff, reduceIte]⟩
  obtain ⟨T1, σ1, h1, h2⟩ := run
  exact pureCall_of (args' := [.vs K (prsV l), .vs K2 (prsV l)]) (seen := []) rfl (memo22 _) (pureRun_of fn22 rfl (by simp [Try.f22]) h1 (by simp) (res_one h2) rfl)
set_option maxHeartbeats 2000000 in
theorem RSpace_call {v : AVal} {ps : List Pg} {ws : List Int} (hv : VH v ps ws) (hright : RightH ps ws) (hk : 9001 ≤ k) : pureCall lawProg (callN lawProg k) (.func 21 [] []) [v] σ = some (.tuple [.int .i64 (sumB (blocksL ps)), .int .i64 (greatL ps)], σ) := by
  obtain ⟨k, rfl⟩ : ∃ m, k = m + 1 := ⟨k - 1, by omega⟩
  have hsn := hv.snap σ 10
  have hb := right_bd hright
  have hmany := hright.many
  have hwl := hright.len
  have hv0 := hv
  obtain ⟨kp, kw, l, rfl, rfl, hkp, hkw, hgood⟩ := hv
  have hlp : (pgsOf l).length = l.length := by simp [pgsOf]
  have hbl := fun (σ : AMem) => blocks_call (k := k) (σ := σ) kp kw l ws hright.shape (by omega) (by omega)
  obtain ⟨L, hL⟩ : ∃ L, L = blocksL (pgsOf l) := ⟨_, rfl⟩
  have hLl : L.length ≤ 2560 := by rw [hL]; exact blocks_count hright.shape hmany.2
  have hLs := blk_sizes hright.shape hmany.2
  rw [← hL] at hbl hLs ⊢
  unfold hpV at hbl hv0 hsn ⊢
  obtain ⟨σ0, hσ0⟩ : ∃ s, s = AMem.empty.push (.row 2 true [.vs kp (l.map pv), .vs kw (intV ws)]) := ⟨_, rfl⟩
  have n0 : σ0.next = 1 := by rw [hσ0]; simp [next_empty]
  have g0 : σ0.get 0 = some (.row 2 true [.vs kp (l.map pv), .vs kw (intV ws)]) := by rw [hσ0]; simp [AMem.get_push, next_empty]
  have run : ∃ T1 σ1, execC lawProg (callN lawProg k) k 21 46 (bodyOf Try.f21) (initT 0 [.agg [.vs kp (l.map pv), .vs kw (intV ws)]] .nil) AMem.empty = some (.ret, T1, σ1) ∧ T1.get 2 = some (.int .i64 (sumB L)) ∧ T1.get 3 = some (.int .i64 (greatL (pgsOf l))) := by
    simp only [bodyOf, Try.f21, Option.getD_some, initT, dx, reduceIte, Nat.reduceLT, Nat.reduceLeDiff, Nat.reduceEqDiff, Nat.reduceAdd, Nat.reduceMul, Nat.reduceSub, Nat.reduceBEq, Int.reduceEq, Int.reduceLT, Int.reduceLE, Int.reduceToNat, reduceCtorEq, sx, fx21, hbl]
    rw [← hσ0]
    generalize hLp : execC _ _ _ _ _ (Code.loop _) _ _ = q
    obtain ⟨e, T', σ', rfl, _, rfl, hse, t1, t4, t5⟩ : ∃ e T' σ', q = some (e, T', σ') ∧ e ≠ .normal ∧ e = .exit 0 ∧ σ' = σ0 ∧ T'.get 1 = some (.ptr 0 0) ∧ T'.get 4 = some (.int .i64 (sumB L)) ∧ T'.get 5 = some (.int .i64 0) := by
      rw [← hLp]
      refine exec_loop (fun i T σ' => i ≤ L.length ∧ σ' = σ0 ∧ T.get 1 = some (.ptr 0 0) ∧ T.get 4 = some (.int .i64 (sumB (L.take i))) ∧ T.get 5 = some (.int .i64 0) ∧ T.get 6 = some (.vs (lkOf L.length) (prsV L)) ∧ T.get 7 = some (.int .i64 (i : Nat))) L.length (by omega) ?_ ?_ ?_
      · rintro i hi T σ' ⟨_, rfl, t1, t4, t5, t6, t7⟩
        have hlt : ((i : Nat) : Int) < ((L.length : Nat) : Int) := by omega
        have hw' := i64_succ (i := i) (by omega)
        have hget := prsV_get hi
        have i12 : (1 : Int) < ((2 : Nat) : Int) := by decide
        have hsb := sumB_bound (l := L.take i) fun b hb => hLs b (List.mem_of_mem_take hb)
        have htl : (L.take i).length ≤ 2560 := by rw [List.length_take]; omega
        have hsi := hLs L[i] (List.getElem_mem hi)
        have hstep : sumB (L.take (i + 1)) = sumB (L.take i) + (L[i]).size := by rw [List.take_succ_eq_append_getElem hi, sumB_snoc]
        have w1 : IntKind.i64.wrap (sumB (L.take i) + (L[i]).size) = sumB (L.take (i + 1)) := by rw [hstep]; exact i64_id (by omega) (by omega)
        refine ⟨_, _, by
          simp only [dx, reduceIte, Nat.reduceLT, Nat.reduceLeDiff, Nat.reduceEqDiff, Nat.reduceAdd, Nat.reduceMul, Nat.reduceSub, Nat.reduceBEq, Int.reduceEq, Int.reduceLT, Int.reduceLE, Int.reduceToNat, reduceCtorEq, sx, fx21, t4, t6, t7, prsV_length, hlt, Int.natCast_nonneg, Int.toNat_natCast, hget, i12, w1, hw']
          rfl, by omega, rfl, ?_, ?_, ?_, ?_, ?_⟩
        · simp only [Tr.get_set, Nat.reduceEqDiff, reduceIte, t1]
        · simp only [Tr.get_set, Nat.reduceEqDiff, reduceIte]
        · simp only [Tr.get_set, Nat.reduceEqDiff, reduceIte, t5]
        · simp only [Tr.get_set, Nat.reduceEqDiff, reduceIte, t6]
        · simp only [Tr.get_set, Nat.reduceEqDiff, reduceIte]
      · rintro T σ' ⟨_, rfl, t1, t4, t5, t6, t7⟩
        have hge : ¬ (((L.length : Nat) : Int) < ((L.length : Nat) : Int)) := by omega
        rw [List.take_length] at t4
        refine ⟨_, _, _, by
          simp only [dx, reduceIte, Nat.reduceLT, Nat.reduceLeDiff, Nat.reduceEqDiff, Nat.reduceAdd, Nat.reduceMul, Nat.reduceSub, Nat.reduceBEq, Int.reduceEq, Int.reduceLT, Int.reduceLE, Int.reduceToNat, reduceCtorEq, sx, fx21, t6, t7, prsV_length, hge]
          rfl, by simp, rfl, rfl, ?_, ?_, ?_⟩
        · simp only [Tr.get_set, Nat.reduceEqDiff, reduceIte, t1]
        · simp only [Tr.get_set, Nat.reduceEqDiff, reduceIte, t4]
        · simp only [Tr.get_set, Nat.reduceEqDiff, reduceIte, t5]
      · refine ⟨Nat.zero_le _, rfl, ?_, ?_, ?_, ?_, ?_⟩
        all_goals simp only [Tr.get_set, Nat.reduceEqDiff, reduceIte] <;> rfl
    rw [hse]
    simp only [dx, reduceIte, Nat.reduceLT, Nat.reduceLeDiff, Nat.reduceEqDiff, Nat.reduceAdd, Nat.reduceMul, Nat.reduceSub, Nat.reduceBEq, Int.reduceEq, Int.reduceLT, Int.reduceLE, Int.reduceToNat, reduceCtorEq, sx, fx21]
    generalize hLp2 : execC _ _ _ _ _ (Code.loop _) _ _ = q2
    obtain ⟨e, T5, σ5, rfl, _, rfl, u4, u5⟩ : ∃ e T' σ', q2 = some (e, T', σ') ∧ e ≠ .normal ∧ e = .exit 2 ∧ T'.get 4 = some (.int .i64 (sumB L)) ∧ T'.get 5 = some (.int .i64 (greatTo (pgsOf l) ws.length)) := by
      rw [← hLp2]
      refine exec_loop (fun i T σ' => i ≤ ws.length ∧ 1 ≤ σ'.next ∧ σ'.get 0 = σ0.get 0 ∧ T.get 1 = some (.ptr 0 0) ∧ T.get 4 = some (.int .i64 (sumB L)) ∧ T.get 5 = some (.int .i64 (greatTo (pgsOf l) i)) ∧ T.get 8 = some (.int .i64 ((i + 1 : Nat) : Int))) ws.length (by omega) ?_ ?_ ?_
      · rintro i hi T σ1 ⟨_, nx, m0, t1, t4, t5, t8⟩
        rw [g0] at m0
        have hle : ((i + 1 : Nat) : Int) ≤ ((ws.length : Nat) : Int) := by omega
        have hw' := i64_succ (i := i + 1) (by omega)
        obtain ⟨σ2, X, W, its, hcp, ex2, hC⟩ := copy_exec (k := k - 1) (σ := σ1) hv0 hb (by omega)
        rw [show k - 1 + 1 = k by omega] at hcp
        obtain ⟨pr, wr, rfl, rfl, hM⟩ := hC.heap (by omega) (by omega)
        obtain ⟨σ3, fr, nx3, hcase⟩ := rallocated_exec (k := k - 1) (n := ((i + 1 : Nat) : Int)) hM hright (by omega) (by omega) (by omega)
        rw [show k - 1 + 1 = k by omega] at hcase
        have hx2 := ex2.1
        have m03 : σ3.get 0 = σ0.get 0 := by rw [fr 0 (by omega), ex2.2 0 (by omega), m0, g0]
        rcases hcase with ⟨hal, hcl⟩ | ⟨qs, b, its', hal, hlen', hcl, hM'⟩
        · have hg : greatTo (pgsOf l) (i + 1) = greatTo (pgsOf l) i := by rw [greatTo, hal, if_neg (by simp)]
          refine ⟨_, _, by
            simp only [dx, reduceIte, Nat.reduceLT, Nat.reduceLeDiff, Nat.reduceEqDiff, Nat.reduceAdd, Nat.reduceMul, Nat.reduceSub, Nat.reduceBEq, Int.reduceEq, Int.reduceLT, Int.reduceLE, Int.reduceToNat, reduceCtorEq, sx, fx21, t1, t4, t5, t8, m0, intV_length, hle, hcp, hcl, hw']
            rfl, by omega, ?_, ?_, ?_, ?_, ?_, ?_⟩
          · simp only [AMem.next_put, AMem.next_push]; omega
          · rw [AMem.get_put, if_neg (by omega), AMem.get_push, if_neg (by omega)]; exact m03
          · simp only [Tr.get_set, Nat.reduceEqDiff, reduceIte, t1]
          · simp only [Tr.get_set, Nat.reduceEqDiff, reduceIte, t4]
          · simp only [Tr.get_set, Nat.reduceEqDiff, reduceIte, t5, hg]
          · simp only [Tr.get_set, Nat.reduceEqDiff, reduceIte]
        · have hg : greatTo (pgsOf l) (i + 1) = ((i + 1 : Nat) : Int) := by rw [greatTo, hal]; rfl
          refine ⟨_, _, by
            simp only [dx, reduceIte, Nat.reduceLT, Nat.reduceLeDiff, Nat.reduceEqDiff, Nat.reduceAdd, Nat.reduceMul, Nat.reduceSub, Nat.reduceBEq, Int.reduceEq, Int.reduceLT, Int.reduceLE, Int.reduceToNat, reduceCtorEq, sx, fx21, t1, t4, t5, t8, m0, intV_length, hle, hcp, hcl, hw']
            rfl, by omega, ?_, ?_, ?_, ?_, ?_, ?_⟩
          · simp only [AMem.next_put, AMem.next_push]; omega
          · rw [AMem.get_put, if_neg (by omega), AMem.get_push, if_neg (by omega)]; exact m03
          · simp only [Tr.get_set, Nat.reduceEqDiff, reduceIte, t1]
          · simp only [Tr.get_set, Nat.reduceEqDiff, reduceIte, t4]
          · simp only [Tr.get_set, Nat.reduceEqDiff, reduceIte, hg]
          · simp only [Tr.get_set, Nat.reduceEqDiff, reduceIte]
      · rintro T σ1 ⟨_, nx, m0, t1, t4, t5, t8⟩
        rw [g0] at m0
        have hgt : ¬ (((ws.length + 1 : Nat) : Int) ≤ ((ws.length : Nat) : Int)) := by omega
        refine ⟨_, _, _, by
          simp only [dx, reduceIte, Nat.reduceLT, Nat.reduceLeDiff, Nat.reduceEqDiff, Nat.reduceAdd, Nat.reduceMul, Nat.reduceSub, Nat.reduceBEq, Int.reduceEq, Int.reduceLT, Int.reduceLE, Int.reduceToNat, reduceCtorEq, sx, fx21, t1, t8, m0, intV_length, hgt]
          rfl, by simp, rfl, ?_, ?_⟩
        · simp only [Tr.get_set, Nat.reduceEqDiff, reduceIte, t4]
        · simp only [Tr.get_set, Nat.reduceEqDiff, reduceIte, t5]
      · refine ⟨Nat.zero_le _, by omega, rfl, ?_, ?_, ?_, ?_⟩
        · simp only [Tr.get_set, Nat.reduceEqDiff, reduceIte, t1]
        · simp only [Tr.get_set, Nat.reduceEqDiff, reduceIte, t4]
        · simp only [Tr.get_set, Nat.reduceEqDiff, reduceIte, t5]; rfl
        · simp only [Tr.get_set, Nat.reduceEqDiff, reduceIte]; rfl
    rw [hwl, great_eq hmany.1 hmany.2] at u5
    simp only [dx, reduceIte, Nat.reduceLT, Nat.reduceLeDiff, Nat.reduceEqDiff, Nat.reduceAdd, Nat.reduceMul, Nat.reduceSub, Nat.reduceBEq, Int.reduceEq, Int.reduceLT, Int.reduceLE, Int.reduceToNat, reduceCtorEq, sx, fx21, u4, u5]
    exact ⟨_, _, rfl, by simp only [Tr.get_set, Nat.reduceEqDiff, reduceIte], by simp only [Tr.get_set, Nat.reduceEqDiff, reduceIte]⟩
  obtain ⟨T1, σ1, h1, h2, h3⟩ := run
  refine pureCall_of (args' := [.agg [.vs kp (l.map pv), .vs kw (intV ws)]]) (seen := [] ++ []) ?_ (memo21 _) (pureRun_of fn21 rfl (by simp [Try.f21]) h1 (by simp) (res_two h2 h3) rfl)
  simp only [snapL, snapDepth, hsn]
end Go.Proofs.Ytjkfdiglokkceaa

/- HeapChecks: the run. -/
set_option maxRecDepth 100000
set_option linter.unusedSimpArgs false
set_option linter.unusedVariables false
namespace Go.Proofs.Ytjkfdiglokkceaa
open Go Go.Proofs.Ytjkfdiglokkceaa.Pale
variable {k : Nat} {σ : AMem}

theorem pCheck_vh {v : AVal} {ps : List Pg} {ws : List Int} (hv : VH v ps ws) (hb : Bd ps ws) (hk : 8000 ≤ k) (σ : AMem) : pureCall lawProg (callN lawProg k) (.func 20 [] []) [v] σ = some (.int .i64 (if rightB ps ws then 0 else 4), σ) := by
  obtain ⟨kp, kw, l, rfl, rfl, hkp, hkw, hx⟩ := hv
  have hl : (pgsOf l).length = l.length := by simp [pgsOf]
  obtain ⟨b1, b2, b3⟩ := hb
  exact pCheck_call hkp hkw (fun x hm => ⟨(hx x hm).1, (hx x hm).2, b3 x.1 (List.mem_map.2 ⟨x, hm, rfl⟩)⟩) (by omega) (by omega) hk
theorem rCheck_vh {v : AVal} {ps : List Pg} {ws : List Int} (hv : VH v ps ws) (hb : Bd ps ws) (hk : 8000 ≤ k) (σ : AMem) : pureCall lawProg (callN lawProg k) (.func 18 [] []) [v] σ = some (.int .i64 (if rightB ps ws then 0 else 4), σ) := by
  obtain ⟨kp, kw, l, rfl, rfl, hkp, hkw, hx⟩ := hv
  have hl : (pgsOf l).length = l.length := by simp [pgsOf]
  obtain ⟨b1, b2, b3⟩ := hb
  exact check_call kp kw l ws (fun x hm => b3 x.1 (List.mem_map.2 ⟨x, hm, rfl⟩)) (by omega) (by omega) (by omega)
theorem rBlocks_vh {v : AVal} {ps : List Pg} {ws : List Int} (hv : VH v ps ws) (hright : RightH ps ws) (hk : 8000 ≤ k) (σ : AMem) : pureCall lawProg (callN lawProg k) (.func 23 [] []) [v] σ = some (.vs (lkOf (blocksL ps).length) (prsV (blocksL ps)), σ) := by
  obtain ⟨kp, kw, l, rfl, rfl, hkp, hkw, hx⟩ := hv
  have hl : (pgsOf l).length = l.length := by simp [pgsOf]
  have := hright.many
  exact blocks_call kp kw l ws hright.shape (by omega) (by omega)
set_option maxHeartbeats 2000000 in
theorem checks_run {v : AVal} {ps : List Pg} {ws : List Int} (n : Int) (hv : VH v ps ws) (hk : 12000 ≤ k) : ∃ σ', callN lawProg (k + 1) (.func 3 [] []) [v, .int .i64 n] AMem.empty = some (.bool true, σ') := by
  obtain ⟨X0, Y0, rfl, hX0, hY0⟩ := hv.cells
  obtain ⟨tb, hthin, hbd⟩ := thin_vh (k := k) hv (by omega)
  have haw := fun (σ : AMem) => awake_call (σ := σ) (callN lawProg k)
  have run : ∃ T1 σ', execC lawProg (callN lawProg k) k 3 106 (bodyOf Try.f3) (initT 0 [.agg [X0, Y0], .int .i64 n] .nil) AMem.empty = some (.ret, T1, σ') ∧ T1.get 4 = some (.bool true) := by
    cases tb with
    | false =>
      simp only [bodyOf, Try.f3, Option.getD_some, initT, dx, reduceIte, Nat.reduceLT, Nat.reduceLeDiff, Nat.reduceEqDiff, Nat.reduceAdd, Nat.reduceMul, Nat.reduceSub, Nat.reduceBEq, Int.reduceEq, Int.reduceLT, Int.reduceLE, Int.reduceToNat, reduceCtorEq, sx, fx3, hX0, hY0, hthin, haw]
      exact ⟨_, _, rfl, by simp only [Tr.get_set, Nat.reduceEqDiff, reduceIte]⟩
    | true =>
      obtain ⟨hb, _, _⟩ := hbd rfl
      obtain ⟨v1, hc1, hv1⟩ := Copy_call (k := k) hv hb (by omega)
      obtain ⟨v2, hc2, hv2⟩ := New_call (k := k) n (by omega)
      obtain ⟨v3, hc3, hv3⟩ := RNew_call (k := k) n (by omega)
      have hs1 := same_vh (k := k) hv2 hv3 (new_bd n) (by omega)
      have hbl := fun (σ : AMem) => Blocks_call (k := k) (σ := σ) hv1 hb (by omega)
      have hsp := fun (σ : AMem) => Space_call (k := k) (σ := σ) hv1 hb (by omega)
      have hck := rCheck_vh (k := k) hv hb (by omega)
      have hcp := pCheck_vh (k := k) hv1 hb (by omega)
      obtain ⟨X2, Y2, rfl, hX2, hY2⟩ := hv2.cells
      obtain ⟨X3, Y3, rfl, hX3, hY3⟩ := hv3.cells
      obtain ⟨e, he⟩ : ∃ e, e = newE n := ⟨_, rfl⟩
      rw [← he] at hc2 hc3
      have q1 : (e != e) = false := bne_self_eq_false _
      cases hrb : rightB ps ws with
      | false =>
        rw [hrb] at hbl hck hcp
        have hsh : spaceH ps ws = (0, 0, 4) := by unfold spaceH; rw [hrb]; rfl
        rw [hsh] at hsp
        simp only [Bool.false_eq_true, if_false] at hbl hck hcp hsp
        have z1 : IntKind.i64.wrap ((0 : Int) + 0) = 0 := by decide
        have z2 : ((4 : Int) != 4) = false := rfl
        have z3 : ((4 : Int) != 0) = true := rfl
        have z4 : ((0 : Int) == 0) = true := rfl
        have z5 : ((0 : Nat) : Int) = 0 := rfl
        simp only [bodyOf, Try.f3, Option.getD_some, initT, dx, reduceIte, Nat.reduceLT, Nat.reduceLeDiff, Nat.reduceEqDiff, Nat.reduceAdd, Nat.reduceMul, Nat.reduceSub, Nat.reduceBEq, Int.reduceEq, Int.reduceLT, Int.reduceLE, Int.reduceToNat, reduceCtorEq, sx, fx3, hX0, hY0, hthin, hc2, hX2, hY2, hc3, hX3, hY3, hc1, hbl, hsp, hck, hcp, hs1, q1, z1, z2, z3, z4, z5, haw]
        exact ⟨_, _, rfl, by simp only [Tr.get_set, Nat.reduceEqDiff, reduceIte]⟩
      | true =>
        have hright := rightB_iff.1 hrb
        rw [hrb] at hbl hck hcp
        have hsh : spaceH ps ws = (sumB (blocksL ps), greatL ps, 0) := by unfold spaceH; rw [hrb]; rfl
        rw [hsh] at hsp
        simp only [if_true] at hbl hck hcp hsp
        have hrs := fun (σ : AMem) => RSpace_call (k := k) (σ := σ) hv hright (by omega)
        have hrbk := rBlocks_vh (k := k) hv hright (by omega)
        have hsm := fun (σ : AMem) => samePairs_call (k := k) (σ := σ) (lkOf (blocksL ps).length) (lkOf (blocksL ps).length) (blocksL ps) (by have := blocks_count hright.shape hright.many.2; omega) (by omega)
        generalize sumB (blocksL ps) = su at *
        generalize greatL ps = gr at *
        generalize prsV (blocksL ps) = pr at *
        generalize lkOf (blocksL ps).length = lk at *
        have z2 : ((0 : Int) != 0) = false := rfl
        have q2 : (su == su) = true := beq_self_eq_true _
        have q3 : (gr == gr) = true := beq_self_eq_true _
        simp only [bodyOf, Try.f3, Option.getD_some, initT, dx, reduceIte, Nat.reduceLT, Nat.reduceLeDiff, Nat.reduceEqDiff, Nat.reduceAdd, Nat.reduceMul, Nat.reduceSub, Nat.reduceBEq, Int.reduceEq, Int.reduceLT, Int.reduceLE, Int.reduceToNat, reduceCtorEq, sx, fx3, hX0, hY0, hthin, hc2, hX2, hY2, hc3, hX3, hY3, hc1, hbl, hsp, hck, hcp, hs1, q1, z2, hrs, hrbk, hsm, q2, q3, haw]
        exact ⟨_, _, rfl, by simp only [Tr.get_set, Nat.reduceEqDiff, reduceIte]⟩
  obtain ⟨T1, σ', h1, h2⟩ := run
  exact ⟨σ', q_call (first := []) (caps := []) fn3 rfl (by simp [Try.f3]) h1 (by simp) (res_one h2)⟩
end Go.Proofs.Ytjkfdiglokkceaa

