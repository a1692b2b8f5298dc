import Derived.Test.YtjkfdiglokkceaaHT
import Derived.Test.YtjkfdiglokkceaaHP
/- Heaps: the reference's allocated: large blocks. -/
set_option maxRecDepth 100000
set_option linter.unusedSimpArgs false
set_option linter.unusedVariables false
namespace Go.Proofs.Ytjkfdiglokkceaa
open Go Go.Proofs.Ytjkfdiglokkceaa.Pale
variable {k : Nat} {σ : AMem}

theorem setRun_succ {ps : List Pg} {f j : Nat} {g : Nat → Pg} (h : f + j < ps.length) : (setRun ps f j g).set (f + j) (g j) = setRun ps f (j + 1) g := by
  apply pages_ext
  · rw [List.length_set, setRun_length (by omega), setRun_length (by omega)]
  · intro i hi
    rw [pgAt_set (by rw [setRun_length (by omega)]; exact h), pgAt_setRun (by omega), pgAt_setRun (by omega)]
    by_cases e : i = f + j
    · subst e
      rw [if_pos rfl, if_pos (by omega), show f + j - f = j by omega]
    · rw [if_neg e]
      by_cases e2 : f ≤ i ∧ i < f + j
      · rw [if_pos e2, if_pos (by omega)]
      · rw [if_neg e2, if_neg (by omega)]
set_option maxHeartbeats 1000000 in
theorem rallocated_big {low pr wr : Nat} {its : List MItem} {ps : List Pg} {ws : List Int} {n : Nat} (h : HeapM low (σ.push (.row 2 true [.slice pr 0 its.length none 3, .slice wr 0 ws.length none 1])) σ.next pr none wr none its ps ws) (hr : RightH ps ws) (h1 : 32 < n) (h2 : n ≤ 2560) (hk : 4000 ≤ k) :
    ∃ σ', (∀ r, r < low → σ'.get r = σ.get r) ∧ σ.next ≤ σ'.next ∧
    ((runL ps ((n + 63) / 64) = none ∧ callN lawProg (k + 1) (.func 49 [] []) [.agg [.slice pr 0 its.length none 3, .slice wr 0 ws.length none 1], .int .i64 (n : Nat)] σ = some (.tuple [.agg [.slice pr 0 its.length none 3, .slice wr 0 ws.length none 1], .int .i64 0, .bool false], σ')) ∨
    (∃ f its', runL ps ((n + 63) / 64) = some f ∧ its'.length = its.length ∧ callN lawProg (k + 1) (.func 49 [] []) [.agg [.slice pr 0 its.length none 3, .slice wr 0 ws.length none 1], .int .i64 (n : Nat)] σ = some (.tuple [.agg [.slice pr 0 its.length none 3, .slice wr 0 ws.length none 1], .int .i64 ((64 * f : Nat) : Int), .bool true], σ') ∧ HeapM low σ' σ.next pr none wr none its' (setRun ps f ((n + 63) / 64) (bigG ((n + 63) / 64))) ws)) := by
  obtain ⟨sp, hsp⟩ : ∃ s, s = σ.next := ⟨_, rfl⟩
  rw [← hsp] at h ⊢
  have hil := pg_len h.pi
  have hmany' := hr.many
  have hsz := fun (σ : AMem) => sizeFor_call (k := k) (σ := σ) ((n : Nat) : Int) (by omega)
  have hsz0 : sizeR ((n : Nat) : Int) = 0 := by unfold sizeR; rw [if_neg (by omega)]
  rw [hsz0] at hsz
  obtain ⟨many, hmany⟩ : ∃ m, m = (n + 63) / 64 := ⟨_, rfl⟩
  rw [← hmany]
  have w1 : IntKind.i64.wrap (((n : Nat) : Int) + 64) = ((n + 64 : Nat) : Int) := by rw [i64_id (by omega) (by omega)]; omega
  have w2 : IntKind.i64.wrap (((n + 64 : Nat) : Int) - 1) = ((n + 63 : Nat) : Int) := by rw [i64_id (by omega) (by omega)]; omega
  have w3 : IntKind.i64.wrap ((((n + 63 : Nat) : Int)).tdiv 64) = ((many : Nat) : Int) := by
    have : (((n + 63 : Nat) : Int)).tdiv 64 = (((n + 63) / 64 : Nat) : Int) := rfl
    rw [this, ← hmany]
    exact i64_id (by omega) (by omega)
  have h64 : ¬ (64 : Int) = 0 := by omega
  obtain ⟨σ1, hσ1⟩ : ∃ s, s = (σ.push (.row 2 true [.slice pr 0 its.length none 3, .slice wr 0 ws.length none 1])).push (.row 2 true [.vs .nil [], .vs .nil []]) := ⟨_, rfl⟩
  have n1 : σ1.next = sp + 2 := by rw [hσ1, hsp]; simp
  have hM1 : HeapM low σ1 sp pr none wr none its ps ws := by rw [hσ1]; exact h.ext (Ext.push _ _)
  have ex1 : Ext σ σ1 := by rw [hσ1]; exact (Ext.push _ _).trans (Ext.push _ _)
  have go1 : σ1.get (sp + 1) = some (.row 2 true [.vs .nil [], .vs .nil []]) := by rw [hσ1, AMem.get_push, if_pos (by simp [hsp])]
  obtain ⟨l1, l2, l3⟩ := h.own.lo
  obtain ⟨x1, x2, x3⟩ := h.own.nx
  simp only [AMem.next_push] at x1 x2 x3
  have ms1 := hM1.own.ms
  obtain ⟨l, S, q1, q2, q3⟩ := snap_heap (fr := false) 8 hM1
  have hll : l.length = ps.length := by rw [← q1]; simp [pgsOf]
  have hfr := freeRun_call (k := k) (σ := σ1) (many := many) q3 (by omega) (by omega) (by omega)
  rw [q1] at hfr
  cases hrun : runL ps many with
  | none =>
    have hm1 : runR ps many = -1 := by unfold runR; rw [hrun]
    rw [hm1] at hfr
    obtain ⟨σ2, hσ2⟩ : ∃ s, s = σ1.put (sp + 1) (.row 2 true [.slice pr 0 its.length none 3, .slice wr 0 ws.length none 1]) := ⟨_, rfl⟩
    have n2 : σ2.next = sp + 2 := by rw [hσ2]; simpa using n1
    refine ⟨σ2, fun r hr => by rw [hσ2, AMem.get_put, if_neg (by omega), ex1.2 r (by omega)], by omega, .inl ⟨rfl, ?_⟩⟩
    have run : ∃ T1, execC lawProg (callN lawProg k) k 49 123 (bodyOf Try.f49) (initT 0 [.agg [.slice pr 0 its.length none 3, .slice wr 0 ws.length none 1], .int .i64 (n : Nat)] .nil) σ = some (.ret, T1, σ2) ∧ T1.get 4 = some (.ptr (sp + 1) 0) ∧ T1.get 5 = some (.int .i64 0) ∧ T1.get 6 = some (.bool false) := by
      have hneg : ((-1 : Int) < 0) := by omega
      simp only [bodyOf, Try.f49, Option.getD_some, initT, dx, reduceIte, Nat.reduceLT, Nat.reduceLeDiff, Nat.reduceEqDiff, Nat.reduceAdd, Nat.reduceMul, Nat.reduceSub, Nat.reduceBEq, Int.reduceEq, Int.reduceLT, Int.reduceLE, Int.reduceToNat, reduceCtorEq, sx, fx49, hsz, w1, w2, w3, h64, ← hσ1, ← hsp]
      simp only [dx, reduceIte, Nat.reduceLT, Nat.reduceLeDiff, Nat.reduceEqDiff, Nat.reduceAdd, Nat.reduceMul, Nat.reduceSub, Nat.reduceBEq, Int.reduceEq, Int.reduceLT, Int.reduceLE, Int.reduceToNat, reduceCtorEq, sx, fx49, ms1, hfr, hneg, go1, ← hσ2]
      exact ⟨_, rfl, by simp only [Tr.get_set, Nat.reduceEqDiff, reduceIte], by simp only [Tr.get_set, Nat.reduceEqDiff, reduceIte], by simp only [Tr.get_set, Nat.reduceEqDiff, reduceIte]⟩
    obtain ⟨T1, r1, r2, r3, r4⟩ := run
    refine q_call (first := []) (caps := []) (vs := [.agg [.slice pr 0 its.length none 3, .slice wr 0 ws.length none 1], .int .i64 0, .bool false]) fn49 rfl (by simp [Try.f49]) r1 (by simp) ?_
    have g2 : σ2.get (sp + 1) = some (.row 2 true [.slice pr 0 its.length none 3, .slice wr 0 ws.length none 1]) := by rw [hσ2, AMem.get_put, if_pos rfl]
    simp only [Try.f49, resultsA, resultA, dx, reduceIte, Nat.reduceLT, Nat.reduceLeDiff, Nat.reduceEqDiff, Nat.reduceAdd, Nat.reduceMul, Nat.reduceSub, Nat.reduceBEq, Int.reduceEq, Int.reduceLT, Int.reduceLE, Int.reduceToNat, reduceCtorEq, sx, fx49, r2, r3, r4, g2]
  | some f =>
    have hm1 : runR ps many = (f : Nat) := by unfold runR; rw [hrun]
    rw [hm1] at hfr
    obtain ⟨hf1, hf2⟩ := runL_some hrun
    have hnn : ¬ (((f : Nat) : Int) < 0) := by omega
    have hm1 : 1 ≤ many := by omega
    have mp1 := hM1.own.mp
    have hlt : ((f : Nat) : Int) < ((its.length : Nat) : Int) := by omega
    have hlen := items_len (pg_two h.pi)
    have hin : f * 3 + 3 ≤ its.length * 3 := by omega
    have w4 : IntKind.i64.wrap (((f : Nat) : Int) + 1) = ((f + 1 : Nat) : Int) := i64_succ (by omega)
    have w5 : IntKind.i64.wrap (((f : Nat) : Int) + ((many : Nat) : Int)) = ((f + many : Nat) : Int) := by rw [i64_id (by omega) (by omega)]; omega
    have w6 : IntKind.i64.wrap (((f : Nat) : Int) * 64) = ((64 * f : Nat) : Int) := by rw [i64_id (by omega) (by omega)]; omega
    have hrec := hM1.record (i := f) (by omega) (Ext.refl _) (by omega) ⟨2, (many : Nat), []⟩ (.vs .nil []) (.inl ⟨rfl, rfl⟩)
    obtain ⟨σ2, hσ2⟩ : ∃ s, s = σ1.put pr (.row 3 true (((((its.map MItem.cells).flatten).set (f * 3) (.int .u8 2)).set (f * 3 + 1) (.int .i64 (many : Nat))).set (f * 3 + 1 + 1) (.vs .nil []))) := ⟨_, rfl⟩
    have hset1 : ps.set f ⟨2, (many : Nat), []⟩ = setRun ps f 1 (bigG many) := by
      have := setRun_succ (ps := ps) (f := f) (j := 0) (g := bigG many) (by omega)
      rw [← this]
      unfold setRun
      simp [bigG]
    simp only at hrec
    rw [← hσ2, hset1] at hrec
    have n2 : σ2.next = sp + 2 := by rw [hσ2]; simpa using n1
    have go2 : σ2.get (sp + 1) = some (.row 2 true [.vs .nil [], .vs .nil []]) := by rw [hσ2, AMem.get_put, if_neg (by omega)]; exact go1
    have run : ∃ T1 σ' its', execC lawProg (callN lawProg k) k 49 123 (bodyOf Try.f49) (initT 0 [.agg [.slice pr 0 its.length none 3, .slice wr 0 ws.length none 1], .int .i64 (n : Nat)] .nil) σ = some (.ret, T1, σ') ∧ T1.get 4 = some (.ptr (sp + 1) 0) ∧ T1.get 5 = some (.int .i64 ((64 * f : Nat) : Int)) ∧ T1.get 6 = some (.bool true) ∧ σ'.get (sp + 1) = some (.row 2 true [.slice pr 0 its.length none 3, .slice wr 0 ws.length none 1]) ∧ (∀ r, r < low → σ'.get r = σ.get r) ∧ σ.next ≤ σ'.next ∧ its'.length = its.length ∧ HeapM low σ' sp pr none wr none its' (setRun ps f many (bigG many)) ws := by
      simp only [bodyOf, Try.f49, Option.getD_some, initT, dx, reduceIte, Nat.reduceLT, Nat.reduceLeDiff, Nat.reduceEqDiff, Nat.reduceAdd, Nat.reduceMul, Nat.reduceSub, Nat.reduceBEq, Int.reduceEq, Int.reduceLT, Int.reduceLE, Int.reduceToNat, reduceCtorEq, sx, fx49, hsz, w1, w2, w3, h64, ← hσ1, ← hsp]
      simp only [dx, reduceIte, Nat.reduceLT, Nat.reduceLeDiff, Nat.reduceEqDiff, Nat.reduceAdd, Nat.reduceMul, Nat.reduceSub, Nat.reduceBEq, Int.reduceEq, Int.reduceLT, Int.reduceLE, Int.reduceToNat, reduceCtorEq, sx, fx49, ms1, mp1, hfr, hnn, hlt, hlen, hin, w4, Int.natCast_nonneg, Int.toNat_natCast, ← hσ2]
      generalize hL : execC _ _ _ _ _ (Code.loop _) _ _ = q
      obtain ⟨e, T', σ', rfl, _, rfl, t2, t4, t9, its', hlen', hrw, hM', nx, fr, go⟩ : ∃ e T' σ', q = some (e, T', σ') ∧ e ≠ .normal ∧ e = .exit 0 ∧ T'.get 2 = some (.ptr sp 0) ∧ T'.get 4 = some (.ptr (sp + 1) 0) ∧ T'.get 9 = some (.int .i64 (f : Nat)) ∧ ∃ its', its'.length = its.length ∧ (∀ r, r ∈ rowsOf its' → r < sp) ∧ HeapM low σ' sp pr none wr none its' (setRun ps f many (bigG many)) ws ∧ σ'.next = sp + 2 ∧ (∀ r, r < low → σ'.get r = σ.get r) ∧ σ'.get (sp + 1) = some (.row 2 true [.vs .nil [], .vs .nil []]) := by
        rw [← hL]
        refine exec_loop (fun i T σ' => i + 1 ≤ many ∧ T.get 2 = some (.ptr sp 0) ∧ T.get 4 = some (.ptr (sp + 1) 0) ∧ T.get 8 = some (.int .i64 (many : Nat)) ∧ T.get 9 = some (.int .i64 (f : Nat)) ∧ T.get 10 = some (.int .i64 ((f + (i + 1) : Nat) : Int)) ∧ ∃ its', its'.length = its.length ∧ (∀ r, r ∈ rowsOf its' → r < sp) ∧ HeapM low σ' sp pr none wr none its' (setRun ps f (i + 1) (bigG many)) ws ∧ σ'.next = sp + 2 ∧ (∀ r, r < low → σ'.get r = σ.get r) ∧ σ'.get (sp + 1) = some (.row 2 true [.vs .nil [], .vs .nil []])) (many - 1) (by omega) ?_ ?_ ?_
        · rintro i hi T σ0 ⟨_, t2, t4, t8, t9, t10, its0, hl0, hrw, hM0, nx, fr, go⟩
          have hlt : ((f + (i + 1) : Nat) : Int) < ((f + many : Nat) : Int) := by omega
          have hlt2 : ((f + (i + 1) : Nat) : Int) < ((its0.length : Nat) : Int) := by omega
          have hw' := i64_succ (i := f + (i + 1)) (by omega)
          have ms0 := hM0.own.ms
          have mp0 := hM0.own.mp
          have hlen0 := items_len (pg_two hM0.pi)
          have hin0 : (f + (i + 1)) * 3 + 3 ≤ its0.length * 3 := by omega
          have hrec0 := hM0.record (i := f + (i + 1)) (by rw [setRun_length (by omega)]; omega) (Ext.refl _) (by omega) ⟨3, 0, []⟩ (.vs .nil []) (.inl ⟨rfl, rfl⟩)
          have hset : (setRun ps f (i + 1) (bigG many)).set (f + (i + 1)) ⟨3, 0, []⟩ = setRun ps f (i + 1 + 1) (bigG many) := by
            have hg : bigG many (i + 1) = ⟨3, 0, []⟩ := by unfold bigG; rw [if_neg (by omega)]
            rw [← setRun_succ (ps := ps) (f := f) (j := i + 1) (g := bigG many) (by omega), hg]
          rw [hset] at hrec0
          refine ⟨_, _, by
            simp only [dx, reduceIte, Nat.reduceLT, Nat.reduceLeDiff, Nat.reduceEqDiff, Nat.reduceAdd, Nat.reduceMul, Nat.reduceSub, Nat.reduceBEq, Int.reduceEq, Int.reduceLT, Int.reduceLE, Int.reduceToNat, reduceCtorEq, sx, fx49, t2, t4, t8, t9, t10, w5, hlt, ms0, mp0, hlt2, hlen0, hin0, Int.natCast_nonneg, Int.toNat_natCast, hw']
            rfl, by omega, ?_, ?_, ?_, ?_, ?_, _, ?_, fun r hr => ?_, hrec0, ?_, fun r hr => ?_, ?_⟩
          · simp only [Tr.get_set, Nat.reduceEqDiff, reduceIte, t2]
          · simp only [Tr.get_set, Nat.reduceEqDiff, reduceIte, t4]
          · simp only [Tr.get_set, Nat.reduceEqDiff, reduceIte, t8]
          · simp only [Tr.get_set, Nat.reduceEqDiff, reduceIte, t9]
          · simp only [Tr.get_set, Nat.reduceEqDiff, reduceIte]
            rfl
          · rw [List.length_set]; exact hl0
          · rcases rowsOf_set_mem hr with h5 | h5
            · exact hrw r h5
            · simp [rowOf] at h5
          · simpa using nx
          · rw [AMem.get_put, if_neg (by omega)]; exact fr r hr
          · rw [AMem.get_put, if_neg (by omega)]; exact go
        · rintro T σ0 ⟨_, t2, t4, t8, t9, t10, its0, hl0, hrw, hM0, nx, fr, go⟩
          rw [show many - 1 + 1 = many by omega] at t10 hM0
          have hge : ¬ (((f + many : Nat) : Int) < ((f + many : Nat) : Int)) := by omega
          refine ⟨_, _, _, by
            simp only [dx, reduceIte, Nat.reduceLT, Nat.reduceLeDiff, Nat.reduceEqDiff, Nat.reduceAdd, Nat.reduceMul, Nat.reduceSub, Nat.reduceBEq, Int.reduceEq, Int.reduceLT, Int.reduceLE, Int.reduceToNat, reduceCtorEq, sx, fx49, t8, t9, t10, w5, hge]
            rfl, by simp, rfl, ?_, ?_, ?_, its0, hl0, hrw, hM0, nx, fr, go⟩
          · simp only [Tr.get_set, Nat.reduceEqDiff, reduceIte, t2]
          · simp only [Tr.get_set, Nat.reduceEqDiff, reduceIte, t4]
          · simp only [Tr.get_set, Nat.reduceEqDiff, reduceIte, t9]
        · refine ⟨by omega, ?_, ?_, ?_, ?_, ?_, _, ?_, fun r hr => ?_, hrec, n2, fun r hr => ?_, go2⟩
          · simp only [Tr.get_set, Nat.reduceEqDiff, reduceIte]
          · simp only [Tr.get_set, Nat.reduceEqDiff, reduceIte]
          · simp only [Tr.get_set, Nat.reduceEqDiff, reduceIte]
          · simp only [Tr.get_set, Nat.reduceEqDiff, reduceIte]
          · simp only [Tr.get_set, Nat.reduceEqDiff, reduceIte] <;> rfl
          · rw [List.length_set]
          · rcases rowsOf_set_mem hr with h5 | h5
            · have h6 := h.own.it.bound r h5
              have h7 : r ≠ sp := fun e => h.own.ns (by rw [← e]; exact h5)
              simp only [AMem.next_push] at h6
              omega
            · simp [rowOf] at h5
          · rw [hσ2, AMem.get_put, if_neg (by omega), ex1.2 r (by omega)]
      have ms' := hM'.own.ms
      rw [hlen'] at ms'
      simp only [dx, reduceIte, Nat.reduceLT, Nat.reduceLeDiff, Nat.reduceEqDiff, Nat.reduceAdd, Nat.reduceMul, Nat.reduceSub, Nat.reduceBEq, Int.reduceEq, Int.reduceLT, Int.reduceLE, Int.reduceToNat, reduceCtorEq, sx, fx49, t2, t4, t9, ms', go, w6]
      refine ⟨_, _, its', rfl, by simp only [Tr.get_set, Nat.reduceEqDiff, reduceIte, t4], by simp only [Tr.get_set, Nat.reduceEqDiff, reduceIte], by simp only [Tr.get_set, Nat.reduceEqDiff, reduceIte], by rw [AMem.get_put, if_pos rfl], fun r hr => by rw [AMem.get_put, if_neg (by omega)]; exact fr r hr, by simp only [AMem.next_put]; omega, hlen', hM'.away _ (by omega) (by omega) (by omega) (fun hm => ?_)⟩
      have := hrw _ hm
      omega
    obtain ⟨T1, σ', its', r1, r2, r3, r4, r5, r6, r7, r8, r9⟩ := run
    refine ⟨σ', r6, by omega, .inr ⟨f, its', rfl, r8, ?_, r9⟩⟩
    refine q_call (first := []) (caps := []) (vs := [.agg [.slice pr 0 its.length none 3, .slice wr 0 ws.length none 1], .int .i64 ((64 * f : Nat) : Int), .bool true]) fn49 rfl (by simp [Try.f49]) r1 (by simp) ?_
    simp only [Try.f49, resultsA, resultA, dx, reduceIte, Nat.reduceLT, Nat.reduceLeDiff, Nat.reduceEqDiff, Nat.reduceAdd, Nat.reduceMul, Nat.reduceSub, Nat.reduceBEq, Int.reduceEq, Int.reduceLT, Int.reduceLE, Int.reduceToNat, reduceCtorEq, sx, fx49, r2, r3, r4, r5]
end Go.Proofs.Ytjkfdiglokkceaa

/- Heaps: the reference's allocated: small blocks. -/
set_option maxRecDepth 100000
set_option linter.unusedSimpArgs false
set_option linter.unusedVariables false
namespace Go.Proofs.Ytjkfdiglokkceaa
open Go Go.Proofs.Ytjkfdiglokkceaa.Pale
variable {k : Nat} {σ : AMem}

noncomputable def bodyA : Code := bodyOf Try.f49
set_option maxHeartbeats 1000000 in
/-- The inner loop of allocated. -/
theorem rinner {T : Tr AVal} {X : Out} {low sp pr wr q i : Nat} {its : List MItem} {ps : List Pg} {ws : List Int} {size : Int} (h : HeapM low σ sp pr none wr none its ps ws) (hr : RightH ps ws) (hi : i < ps.length) (hq : σ.get q = some (.row 3 true [.int .u8 (pgAt ps i).kind, .int .i64 (pgAt ps i).n, (its[i]'(by rw [pg_len h.pi]; exact hi)).x])) (ho : σ.get (sp + 1) = some (.row 2 true [.vs .nil [], .vs .nil []])) (hrw : ∀ r, r ∈ rowsOf its → r ≠ sp ∧ r ≠ sp + 1 ∧ r ≠ q) (t2 : T.get 2 = some (.ptr sp 0)) (t4 : T.get 4 = some (.ptr (sp + 1) 0)) (t7 : T.get 7 = some (.int .i64 size)) (t11 : T.get 11 = some (.int .i64 (i : Nat))) (t12 : T.get 12 = some (.ptr q 0)) (t13 : T.get 13 = some (.int .i64 0)) (hk : 2000 ≤ k)
    (hX : execC lawProg (callN lawProg k) k 49 123 (innerC (stmtC (innerC (stmtC (innerC (innerC (stmtC bodyA 5))) 2)) 2)) T σ = X) :
    ∃ e T' σ', X = some (e, T', σ') ∧ ((e = .exit 4 ∧ σ' = σ ∧ T'.get 2 = some (.ptr sp 0) ∧ T'.get 4 = some (.ptr (sp + 1) 0) ∧ T'.get 7 = some (.int .i64 size) ∧ T'.get 11 = some (.int .i64 (i : Nat)) ∧ ((pgAt ps i).kind = 1 → (pgAt ps i).n = size → firstFree (pgAt ps i) = none)) ∨
      (e = .ret ∧ (pgAt ps i).kind = 1 ∧ (pgAt ps i).n = size ∧ ∃ s r cap, firstFree (pgAt ps i) = some s ∧ (its[i]'(by rw [pg_len h.pi]; exact hi)).x = .slice r 0 (pgAt ps i).used.length cap 1 ∧ σ' = (σ.put r (.row 1 false ((boolV (pgAt ps i).used).set s (.bool true)))).put (sp + 1) (.row 2 true [.slice pr 0 its.length none 3, .slice wr 0 ws.length none 1]) ∧ T'.get 4 = some (.ptr (sp + 1) 0) ∧ T'.get 5 = some (.int .i64 (64 * (i : Int) + (s : Int) * size)) ∧ T'.get 6 = some (.bool true))) := by
  have hil := pg_len h.pi
  have hii : i < its.length := by omega
  have hmany := hr.many
  rw [← hX]
  by_cases k1 : (pgAt ps i).kind = 1
  · by_cases kn : (pgAt ps i).n = size
    · have hsc := small_cases (hr.shape i hi) k1
      have hu0 : (pgAt ps i).used ≠ [] := fun e => by rw [e] at hsc; simp at hsc
      obtain ⟨r, cap, hx, r2, r3, hrow⟩ := own_used h.own h.pi h.ox hii hu0
      have hrm : r ∈ rowsOf its := mem_rowsOf (List.getElem_mem hii) (by rw [hx]; simp [rowOf])
      obtain ⟨ns, nso, nq⟩ := hrw r hrm
      rw [hx] at hq
      have hb1 : ((pgAt ps i).kind == 1) = true := by rw [k1]; rfl
      have hb2 : ((pgAt ps i).n == size) = true := by rw [kn]; simp
      have hul : (pgAt ps i).used.length ≤ 32 := by rcases hsc with ⟨_, h⟩ | ⟨_, h⟩ | ⟨_, h⟩ | ⟨_, h⟩ | ⟨_, h⟩ <;> omega
      have hsz : 2 ≤ size ∧ size ≤ 32 := by rw [← kn]; rcases hsc with ⟨h, _⟩ | ⟨h, _⟩ | ⟨h, _⟩ | ⟨h, _⟩ | ⟨h, _⟩ <;> omega
      obtain ⟨e, T', σ', h1, _, h2⟩ := exec_loop2 (A := lawProg) (call := callN lawProg k) (k := k) (f := 49) (N := 123) (T := T) (σ := σ) (c := innerC (innerC (stmtC (innerC (stmtC (innerC (innerC (stmtC bodyA 5))) 2)) 2))) (R := fun e T' σ' => (e = .exit 4 ∧ σ' = σ ∧ T'.get 2 = some (.ptr sp 0) ∧ T'.get 4 = some (.ptr (sp + 1) 0) ∧ T'.get 7 = some (.int .i64 size) ∧ T'.get 11 = some (.int .i64 (i : Nat)) ∧ firstFree (pgAt ps i) = none) ∨
        (e = .ret ∧ ∃ s, firstFree (pgAt ps i) = some s ∧ σ' = (σ.put r (.row 1 false ((boolV (pgAt ps i).used).set s (.bool true)))).put (sp + 1) (.row 2 true [.slice pr 0 its.length none 3, .slice wr 0 ws.length none 1]) ∧ T'.get 4 = some (.ptr (sp + 1) 0) ∧ T'.get 5 = some (.int .i64 (64 * (i : Int) + (s : Int) * size)) ∧ T'.get 6 = some (.bool true)))
        (fun s T σ' => s ≤ (pgAt ps i).used.length ∧ σ' = σ ∧ T.get 2 = some (.ptr sp 0) ∧ T.get 4 = some (.ptr (sp + 1) 0) ∧ T.get 7 = some (.int .i64 size) ∧ T.get 11 = some (.int .i64 (i : Nat)) ∧ T.get 12 = some (.ptr q 0) ∧ T.get 13 = some (.int .i64 (s : Nat)) ∧ ∀ t, t < s → (pgAt ps i).used[t]?.getD false = true) (pgAt ps i).used.length (by omega) (by
          rintro s hs T σ0 ⟨_, rfl, t2, t4, t7, t11, t12, t13, hall⟩
          have hlt : ((s : Nat) : Int) < (((pgAt ps i).used.length : Nat) : Int) := by omega
          have hw' := i64_succ (i := s) (by omega)
          have hget := boolV_get hs
          have hum : (pgAt ps i).used[s]?.getD false = (pgAt ps i).used[s] := by rw [List.getElem?_eq_getElem hs]; rfl
          have hin : s + 1 ≤ (pgAt ps i).used.length := by omega
          cases hus : (pgAt ps i).used[s] with
          | true =>
            rw [hus] at hget hum
            refine .inl ⟨_, _, by
              simp only [bodyA, bodyOf, Try.f49, Option.getD_some, flatC, innerC, stmtC, List.append_assoc, dx, reduceIte, Nat.reduceLT, Nat.reduceLeDiff, Nat.reduceEqDiff, Nat.reduceAdd, Nat.reduceMul, Nat.reduceSub, Nat.reduceBEq, Int.reduceEq, Int.reduceLT, Int.reduceLE, Int.reduceToNat, reduceCtorEq, sx, fx49, t2, t4, t7, t11, t12, t13, hq, hb1, hb2, hlt, hrow, boolV_length, hget, Int.natCast_nonneg, Int.toNat_natCast, Nat.zero_add, Nat.mul_one, hw']
              rfl, by omega, rfl, ?_, ?_, ?_, ?_, ?_, ?_, fun t ht => ?_⟩
            · simp only [Tr.get_set, Nat.reduceEqDiff, reduceIte, t2]
            · simp only [Tr.get_set, Nat.reduceEqDiff, reduceIte, t4]
            · simp only [Tr.get_set, Nat.reduceEqDiff, reduceIte, t7]
            · simp only [Tr.get_set, Nat.reduceEqDiff, reduceIte, t11]
            · simp only [Tr.get_set, Nat.reduceEqDiff, reduceIte, t12]
            · simp only [Tr.get_set, Nat.reduceEqDiff, reduceIte]
            · by_cases e : t = s
              · rw [e]; exact hum
              · exact hall t (by omega)
          | false =>
            rw [hus] at hget hum
            have hff := firstFree_of hs hall hum
            have hsn : 0 ≤ (s : Int) * size ∧ (s : Int) * size ≤ 1024 := by
              obtain ⟨m, hm⟩ : ∃ m : Nat, size = (m : Int) := ⟨size.toNat, by omega⟩
              rw [hm]
              have h1 : s * m ≤ 32 * 32 := Nat.mul_le_mul (by omega) (by omega)
              have h2 : ((s * m : Nat) : Int) = (s : Int) * (m : Int) := by simp
              omega
            have w1 : IntKind.i64.wrap (((i : Nat) : Int) * 64) = 64 * (i : Int) := by rw [i64_id (by omega) (by omega)]; omega
            have w2 : IntKind.i64.wrap (((s : Nat) : Int) * size) = (s : Int) * size := i64_id (by omega) (by omega)
            have w3 : IntKind.i64.wrap (64 * (i : Int) + (s : Int) * size) = 64 * (i : Int) + (s : Int) * size := i64_id (by omega) (by omega)
            have ms := h.own.ms
            have q1 : ¬ r = sp := ns
            have q2 : ¬ r = sp + 1 := nso
            refine .inr ⟨_, _, _, by
              simp only [bodyA, bodyOf, Try.f49, Option.getD_some, flatC, innerC, stmtC, List.append_assoc, dx, reduceIte, Nat.reduceLT, Nat.reduceLeDiff, Nat.reduceEqDiff, Nat.reduceAdd, Nat.reduceMul, Nat.reduceSub, Nat.reduceBEq, Int.reduceEq, Int.reduceLT, Int.reduceLE, Int.reduceToNat, reduceCtorEq, sx, fx49, t2, t4, t7, t11, t12, t13, hq, hb1, hb2, hlt, hrow, boolV_length, hget, Int.natCast_nonneg, Int.toNat_natCast, Nat.zero_add, Nat.mul_one, hin, q1, q2, ms, ho, w1, w2, w3]
              rfl, by simp, .inr ⟨rfl, s, hff, rfl, ?_, ?_, ?_⟩⟩
            · simp only [Tr.get_set, Nat.reduceEqDiff, reduceIte, t4]
            · simp only [Tr.get_set, Nat.reduceEqDiff, reduceIte]
            · simp only [Tr.get_set, Nat.reduceEqDiff, reduceIte]) (by
          rintro T σ0 ⟨_, rfl, t2, t4, t7, t11, t12, t13, hall⟩
          have hge : ¬ ((((pgAt ps i).used.length : Nat) : Int) < (((pgAt ps i).used.length : Nat) : Int)) := by omega
          refine ⟨_, _, _, by
            simp only [bodyA, bodyOf, Try.f49, Option.getD_some, flatC, innerC, stmtC, List.append_assoc, dx, reduceIte, Nat.reduceLT, Nat.reduceLeDiff, Nat.reduceEqDiff, Nat.reduceAdd, Nat.reduceMul, Nat.reduceSub, Nat.reduceBEq, Int.reduceEq, Int.reduceLT, Int.reduceLE, Int.reduceToNat, reduceCtorEq, sx, fx49, t2, t4, t7, t11, t12, t13, hq, hb1, hb2, hge]
            rfl, by simp, .inl ⟨rfl, rfl, ?_, ?_, ?_, ?_, firstFree_none.2 hall⟩⟩
          · simp only [Tr.get_set, Nat.reduceEqDiff, reduceIte, t2]
          · simp only [Tr.get_set, Nat.reduceEqDiff, reduceIte, t4]
          · simp only [Tr.get_set, Nat.reduceEqDiff, reduceIte, t7]
          · simp only [Tr.get_set, Nat.reduceEqDiff, reduceIte, t11]) ⟨Nat.zero_le _, rfl, t2, t4, t7, t11, t12, t13, fun t ht => by omega⟩
      refine ⟨e, T', σ', h1, ?_⟩
      rcases h2 with ⟨a1, a2, a3, a4, a5, a6, a7⟩ | ⟨a1, s, a2, a3⟩
      · exact .inl ⟨a1, a2, a3, a4, a5, a6, fun _ _ => a7⟩
      · exact .inr ⟨a1, k1, kn, s, r, cap, a2, hx, a3⟩
    · have hb1 : ((pgAt ps i).kind == 1) = true := by rw [k1]; rfl
      have hb2 : ((pgAt ps i).n == size) = false := by rw [beq_eq_false_iff_ne]; exact kn
      obtain ⟨e, T', σ', h1, _, h2⟩ := exec_loop (A := lawProg) (call := callN lawProg k) (k := k) (f := 49) (N := 123) (T := T) (σ := σ) (c := innerC (innerC (stmtC (innerC (stmtC (innerC (innerC (stmtC bodyA 5))) 2)) 2))) (R := fun e T' σ' => e = .exit 4 ∧ σ' = σ ∧ T'.get 2 = some (.ptr sp 0) ∧ T'.get 4 = some (.ptr (sp + 1) 0) ∧ T'.get 7 = some (.int .i64 size) ∧ T'.get 11 = some (.int .i64 (i : Nat))) (fun _ T' σ' => T' = T ∧ σ' = σ) 0 (by omega) (by intro i hi; omega) (by
          rintro _ _ ⟨rfl, rfl⟩
          refine ⟨_, _, _, by
            simp only [bodyA, bodyOf, Try.f49, Option.getD_some, flatC, innerC, stmtC, List.append_assoc, dx, reduceIte, Nat.reduceLT, Nat.reduceLeDiff, Nat.reduceEqDiff, Nat.reduceAdd, Nat.reduceMul, Nat.reduceSub, Nat.reduceBEq, Int.reduceEq, Int.reduceLT, Int.reduceLE, Int.reduceToNat, reduceCtorEq, sx, fx49, t2, t4, t7, t11, t12, t13, hq, hb1, hb2]
            rfl, by simp, rfl, rfl, ?_, ?_, ?_, ?_⟩
          · simp only [Tr.get_set, Nat.reduceEqDiff, reduceIte, t2]
          · simp only [Tr.get_set, Nat.reduceEqDiff, reduceIte, t4]
          · simp only [Tr.get_set, Nat.reduceEqDiff, reduceIte, t7]
          · simp only [Tr.get_set, Nat.reduceEqDiff, reduceIte, t11]) ⟨rfl, rfl⟩
      exact ⟨e, T', σ', h1, .inl ⟨h2.1, h2.2.1, h2.2.2.1, h2.2.2.2.1, h2.2.2.2.2.1, h2.2.2.2.2.2, fun _ e => absurd e kn⟩⟩
  · have hb1 : ((pgAt ps i).kind == 1) = false := by rw [beq_eq_false_iff_ne]; exact k1
    obtain ⟨e, T', σ', h1, _, h2⟩ := exec_loop (A := lawProg) (call := callN lawProg k) (k := k) (f := 49) (N := 123) (T := T) (σ := σ) (c := innerC (innerC (stmtC (innerC (stmtC (innerC (innerC (stmtC bodyA 5))) 2)) 2))) (R := fun e T' σ' => e = .exit 4 ∧ σ' = σ ∧ T'.get 2 = some (.ptr sp 0) ∧ T'.get 4 = some (.ptr (sp + 1) 0) ∧ T'.get 7 = some (.int .i64 size) ∧ T'.get 11 = some (.int .i64 (i : Nat))) (fun _ T' σ' => T' = T ∧ σ' = σ) 0 (by omega) (by intro i hi; omega) (by
        rintro _ _ ⟨rfl, rfl⟩
        refine ⟨_, _, _, by
          simp only [bodyA, bodyOf, Try.f49, Option.getD_some, flatC, innerC, stmtC, List.append_assoc, dx, reduceIte, Nat.reduceLT, Nat.reduceLeDiff, Nat.reduceEqDiff, Nat.reduceAdd, Nat.reduceMul, Nat.reduceSub, Nat.reduceBEq, Int.reduceEq, Int.reduceLT, Int.reduceLE, Int.reduceToNat, reduceCtorEq, sx, fx49, t2, t4, t7, t11, t12, t13, hq, hb1]
          rfl, by simp, rfl, rfl, ?_, ?_, ?_, ?_⟩
        · simp only [Tr.get_set, Nat.reduceEqDiff, reduceIte, t2]
        · simp only [Tr.get_set, Nat.reduceEqDiff, reduceIte, t4]
        · simp only [Tr.get_set, Nat.reduceEqDiff, reduceIte, t7]
        · simp only [Tr.get_set, Nat.reduceEqDiff, reduceIte, t11]) ⟨rfl, rfl⟩
    exact ⟨e, T', σ', h1, .inl ⟨h2.1, h2.2.1, h2.2.2.1, h2.2.2.2.1, h2.2.2.2.2.1, h2.2.2.2.2.2, fun e => absurd e k1⟩⟩
end Go.Proofs.Ytjkfdiglokkceaa

/- Heaps: the reference's allocated, and Alloc. -/
set_option maxRecDepth 100000
set_option linter.unusedSimpArgs false
set_option linter.unusedVariables false
namespace Go.Proofs.Ytjkfdiglokkceaa
open Go Go.Proofs.Ytjkfdiglokkceaa.Pale
variable {k : Nat} {σ : AMem}

set_option maxHeartbeats 2000000 in
theorem rallocated_small {low pr wr : Nat} {its : List MItem} {ps : List Pg} {ws : List Int} {n : Nat} (h : HeapM low (σ.push (.row 2 true [.slice pr 0 its.length none 3, .slice wr 0 ws.length none 1])) σ.next pr none wr none its ps ws) (hr : RightH ps ws) (h1 : 1 ≤ n) (h2 : n ≤ 32) (hk : 4000 ≤ k) :
    ∃ σ', (∀ r, r < low → σ'.get r = σ.get r) ∧ σ.next ≤ σ'.next ∧
    ((allocL ps (n : Nat) = none ∧ callN lawProg (k + 1) (.func 49 [] []) [.agg [.slice pr 0 its.length none 3, .slice wr 0 ws.length none 1], .int .i64 (n : Nat)] σ = some (.tuple [.agg [.slice pr 0 its.length none 3, .slice wr 0 ws.length none 1], .int .i64 0, .bool false], σ')) ∨
    (∃ qs b its', allocL ps (n : Nat) = some (qs, b) ∧ its'.length = its.length ∧ callN lawProg (k + 1) (.func 49 [] []) [.agg [.slice pr 0 its.length none 3, .slice wr 0 ws.length none 1], .int .i64 (n : Nat)] σ = some (.tuple [.agg [.slice pr 0 its.length none 3, .slice wr 0 ws.length none 1], .int .i64 b.at_, .bool true], σ') ∧ HeapM low σ' σ.next pr none wr none its' qs ws)) := by
  obtain ⟨sp, hsp⟩ : ∃ s, s = σ.next := ⟨_, rfl⟩
  rw [← hsp] at h ⊢
  have hil := pg_len h.pi
  have hmany := hr.many
  have hsz := fun (σ : AMem) => sizeFor_call (k := k) (σ := σ) ((n : Nat) : Int) (by omega)
  have hsz0 : sizeR ((n : Nat) : Int) = sizeF (n : Nat) := by unfold sizeR; rw [if_pos (by omega)]
  rw [hsz0] at hsz
  obtain ⟨m, hm, m2, m32, sz0, sz2, sz32⟩ := sizeF_cases (n : Nat)
  obtain ⟨size, hsize⟩ : ∃ s, s = sizeF ((n : Nat) : Int) := ⟨_, rfl⟩
  have halloc : allocL ps (n : Nat) = match placeL ps size with
      | some (j, s) => some (ps.set j (useAt (pgAt ps j) s true), slotB j (pgAt ps j) s)
      | none => match runL ps 1 with
        | some f => some (ps.set f (smallG size), ⟨f, 0, 64 * f, size⟩)
        | none => none := by
    unfold allocL
    rw [if_neg (by omega), ← hsize]
    rfl
  rw [← hsize] at hsz hm sz0 sz2 sz32
  have hszb : (size == 0) = false := by rw [beq_eq_false_iff_ne]; exact sz0
  obtain ⟨σ1, hσ1⟩ : ∃ s, s = (σ.push (.row 2 true [.slice pr 0 its.length none 3, .slice wr 0 ws.length none 1])).push (.row 2 true [.vs .nil [], .vs .nil []]) := ⟨_, rfl⟩
  have n1 : σ1.next = sp + 2 := by rw [hσ1, hsp]; simp
  have hM1 : HeapM low σ1 sp pr none wr none its ps ws := by rw [hσ1]; exact h.ext (Ext.push _ _)
  have ex1 : Ext σ σ1 := by rw [hσ1]; exact (Ext.push _ _).trans (Ext.push _ _)
  have go1 : σ1.get (sp + 1) = some (.row 2 true [.vs .nil [], .vs .nil []]) := by rw [hσ1, AMem.get_push, if_pos (by simp [hsp])]
  obtain ⟨l1, l2, l3⟩ := h.own.lo
  obtain ⟨x1, x2, x3⟩ := h.own.nx
  simp only [AMem.next_push] at x1 x2 x3
  have hrb : ∀ r, r ∈ rowsOf its → r < sp := fun r hr => by
    have h6 := h.own.it.bound r hr
    have h7 : r ≠ sp := fun e => h.own.ns (by rw [← e]; exact hr)
    simp only [AMem.next_push] at h6
    omega
  have hlen := items_len (pg_two h.pi)
  have go2 : ∀ {its' : List MItem} {qs : List Pg} {σ' : AMem}, HeapM low σ' sp pr none wr none its' qs ws → (∀ r, r ∈ rowsOf its' → r ≠ sp + 1) → HeapM low (σ'.put (sp + 1) (.row 2 true [.slice pr 0 its.length none 3, .slice wr 0 ws.length none 1])) sp pr none wr none its' qs ws := fun hM hrw => hM.away _ (by omega) (by omega) (by omega) (fun hm => hrw _ hm rfl)
  have fin : ∀ (T1 : Tr AVal) (σ' : AMem) (at_ : Int) (b : Bool), execC lawProg (callN lawProg k) k 49 123 (bodyOf Try.f49) (initT 0 [.agg [.slice pr 0 its.length none 3, .slice wr 0 ws.length none 1], .int .i64 (n : Nat)] .nil) σ = some (.ret, T1, σ') → T1.get 4 = some (.ptr (sp + 1) 0) → T1.get 5 = some (.int .i64 at_) → T1.get 6 = some (.bool b) → σ'.get (sp + 1) = some (.row 2 true [.slice pr 0 its.length none 3, .slice wr 0 ws.length none 1]) → callN lawProg (k + 1) (.func 49 [] []) [.agg [.slice pr 0 its.length none 3, .slice wr 0 ws.length none 1], .int .i64 (n : Nat)] σ = some (.tuple [.agg [.slice pr 0 its.length none 3, .slice wr 0 ws.length none 1], .int .i64 at_, .bool b], σ') := by
    intro T1 σ' at_ b r1 r2 r3 r4 g2
    refine q_call (first := []) (caps := []) (vs := [.agg [.slice pr 0 its.length none 3, .slice wr 0 ws.length none 1], .int .i64 at_, .bool b]) fn49 rfl (by simp [Try.f49]) r1 (by simp) ?_
    simp only [Try.f49, resultsA, resultA, dx, reduceIte, Nat.reduceLT, Nat.reduceLeDiff, Nat.reduceEqDiff, Nat.reduceAdd, Nat.reduceMul, Nat.reduceSub, Nat.reduceBEq, Int.reduceEq, Int.reduceLT, Int.reduceLE, Int.reduceToNat, reduceCtorEq, sx, fx49, r2, r3, r4, g2]
  -- the loop over the pages
  have main : ∀ (T : Tr AVal) (X : Out), T.get 2 = some (.ptr sp 0) → T.get 4 = some (.ptr (sp + 1) 0) → T.get 7 = some (.int .i64 size) → T.get 11 = some (.int .i64 0) → execC lawProg (callN lawProg k) k 49 123 (innerC (stmtC bodyA 5)) T σ1 = X → ∃ e T' σ', X = some (e, T', σ') ∧ ((e = .exit 2 ∧ placeL ps size = none ∧ Ext σ1 σ' ∧ T'.get 2 = some (.ptr sp 0) ∧ T'.get 4 = some (.ptr (sp + 1) 0) ∧ T'.get 7 = some (.int .i64 size)) ∨
      (e = .ret ∧ ∃ j s its', placeL ps size = some (j, s) ∧ (∀ r, r < low → σ'.get r = σ.get r) ∧ σ.next ≤ σ'.next ∧ its'.length = its.length ∧ HeapM low σ' sp pr none wr none its' (ps.set j (useAt (pgAt ps j) s true)) ws ∧ σ'.get (sp + 1) = some (.row 2 true [.slice pr 0 its.length none 3, .slice wr 0 ws.length none 1]) ∧ T'.get 4 = some (.ptr (sp + 1) 0) ∧ T'.get 5 = some (.int .i64 (slotB j (pgAt ps j) s).at_) ∧ T'.get 6 = some (.bool true))) := by
    intro T X t2 t4 t7 t11 hX
    rw [← hX]
    obtain ⟨e, T', σ', g1, _, g2⟩ := exec_loop2 (A := lawProg) (call := callN lawProg k) (k := k) (f := 49) (N := 123) (T := T) (σ := σ1) (c := innerC (innerC (stmtC bodyA 5))) (R := fun e T' σ' => (e = .exit 2 ∧ placeL ps size = none ∧ Ext σ1 σ' ∧ T'.get 2 = some (.ptr sp 0) ∧ T'.get 4 = some (.ptr (sp + 1) 0) ∧ T'.get 7 = some (.int .i64 size)) ∨
      (e = .ret ∧ ∃ j s its', placeL ps size = some (j, s) ∧ (∀ r, r < low → σ'.get r = σ.get r) ∧ σ.next ≤ σ'.next ∧ its'.length = its.length ∧ HeapM low σ' sp pr none wr none its' (ps.set j (useAt (pgAt ps j) s true)) ws ∧ σ'.get (sp + 1) = some (.row 2 true [.slice pr 0 its.length none 3, .slice wr 0 ws.length none 1]) ∧ T'.get 4 = some (.ptr (sp + 1) 0) ∧ T'.get 5 = some (.int .i64 (slotB j (pgAt ps j) s).at_) ∧ T'.get 6 = some (.bool true)))
      (fun i T σ' => i ≤ ps.length ∧ Ext σ1 σ' ∧ T.get 2 = some (.ptr sp 0) ∧ T.get 4 = some (.ptr (sp + 1) 0) ∧ T.get 7 = some (.int .i64 size) ∧ T.get 11 = some (.int .i64 (i : Nat)) ∧ placeTo ps size i = none) ps.length (by omega) (by
        rintro i hi T σ0 ⟨_, ex, t2, t4, t7, t11, hno⟩
        have hii : i < its.length := by omega
        have hlt : ((i : Nat) : Int) < ((its.length : Nat) : Int) := by omega
        have hw' := i64_succ (i := i) (by omega)
        have hload := pg_load h.pi hii
        have hM0 := hM1.ext ex
        have ms0 := hM0.own.ms
        have mp0 := hM0.own.mp
        have hin : i * 3 + 3 ≤ its.length * 3 := by omega
        have hone : its[i].x.oneCell = true := by
          rcases (h.own.it.1 its[i] (List.getElem_mem hii)).2.2 with ⟨_, e⟩ | ⟨_, _, e, _⟩ <;> rw [e] <;> rfl
        have hx := ex.1
        obtain ⟨q, hqd⟩ : ∃ q, q = σ0.next := ⟨_, rfl⟩
        obtain ⟨σ2, hσ2⟩ : ∃ m, m = (σ0.push (.row 3 true [.int .u8 0, .int .i64 0, .vs .nil []])).put q (.row 3 true [.int .u8 (pgAt ps i).kind, .int .i64 (pgAt ps i).n, its[i].x]) := ⟨_, rfl⟩
        have n2 : σ2.next = q + 1 := by rw [hσ2, hqd]; simp
        have ex2 : Ext σ0 σ2 := by rw [hσ2]; exact (Ext.push _ _).put _ _ (by omega)
        have gq : σ2.get q = some (.row 3 true [.int .u8 (pgAt ps i).kind, .int .i64 (pgAt ps i).n, its[i].x]) := by rw [hσ2, AMem.get_put, if_pos rfl]
        have hM2 := hM0.ext ex2
        have goo : σ2.get (sp + 1) = some (.row 2 true [.vs .nil [], .vs .nil []]) := by rw [ex2.2 _ (by omega), ex.2 _ (by omega)]; exact go1
        have hRI := fun (T : Tr AVal) (X : Out) a b c d e f (hX : _ = X) => rinner (k := k) (T := T) (X := X) (σ := σ2) (q := q) (i := i) (size := size) hM2 hr hi gq goo (fun r hr => by have := hrb r hr; exact ⟨by omega, by omega, by omega⟩) a b c d e f (by omega) hX
        simp only [bodyA, bodyOf, Try.f49, Option.getD_some, flatC, innerC, stmtC, List.append_assoc, dx, reduceIte, Nat.reduceLT, Nat.reduceLeDiff, Nat.reduceEqDiff, Nat.reduceAdd, Nat.reduceMul, Nat.reduceSub, Nat.reduceBEq, Int.reduceEq, Int.reduceLT, Int.reduceLE, Int.reduceToNat, reduceCtorEq, sx, fx49, Nat.add_assoc, Nat.add_eq_left, Nat.left_eq_add, Nat.add_left_cancel_iff, t2, t4, t7, t11, ms0, mp0, hlt, hlen, hin, hload, hone, Int.natCast_nonneg, Int.toNat_natCast, ← hqd, ← hσ2]
        generalize hL : execC _ _ _ _ _ (Code.loop _) _ _ = r
        obtain ⟨e, T', σ', rfl, hc⟩ := hRI _ _ (by simp only [Tr.get_set, Nat.reduceEqDiff, reduceIte, t2]) (by simp only [Tr.get_set, Nat.reduceEqDiff, reduceIte, t4]) (by simp only [Tr.get_set, Nat.reduceEqDiff, reduceIte, t7]) (by simp only [Tr.get_set, Nat.reduceEqDiff, reduceIte, t11]) (by simp only [Tr.get_set, Nat.reduceEqDiff, reduceIte]) (by simp only [Tr.get_set, Nat.reduceEqDiff, reduceIte]) hL
        rcases hc with ⟨rfl, rfl, u2, u4, u7, u11, hff⟩ | ⟨rfl, k1, kn, s, r, cap, hff, hx2, rfl, u4, u5, u6⟩
        · refine .inl ⟨_, _, by
            simp only [dx, reduceIte, Nat.reduceLT, Nat.reduceLeDiff, Nat.reduceEqDiff, Nat.reduceAdd, Nat.reduceMul, Nat.reduceSub, Nat.reduceBEq, Int.reduceEq, Int.reduceLT, Int.reduceLE, Int.reduceToNat, reduceCtorEq, sx, fx49, u11, hw']
            rfl, by omega, ex.trans ex2, ?_, ?_, ?_, ?_, ?_⟩
          · simp only [Tr.get_set, Nat.reduceEqDiff, reduceIte, u2]
          · simp only [Tr.get_set, Nat.reduceEqDiff, reduceIte, u4]
          · simp only [Tr.get_set, Nat.reduceEqDiff, reduceIte, u7]
          · simp only [Tr.get_set, Nat.reduceEqDiff, reduceIte]
          · rw [placeTo, hno]
            simp only
            split
            · rename_i hc; rw [hff hc.1 hc.2]; rfl
            · rfl
        · have hrm : r ∈ rowsOf its := mem_rowsOf (List.getElem_mem hii) (by rw [hx2]; simp [rowOf])
          have hrs := hrb r hrm
          have hrl := (h.own.it.bound r hrm).1
          obtain ⟨its', hM', hcells⟩ := hM2.slot (j := s) hii hx2 true
          have hlen' : its'.length = its.length := by simpa using congrArg List.length hcells
          have hrw' : ∀ r, r ∈ rowsOf its' → r < sp := by
            have hxs : its'.map (fun a => a.x) = its.map (fun a => a.x) := by
              have hp1 := pg_two hM'.pi
              have hp2 := pg_two h.pi
              apply List.ext_getElem (by simpa using hlen')
              intro t h1 h2
              simp only [List.getElem_map]
              have := congrArg (fun l => l[t]?) hcells
              simp only [List.getElem?_map] at this
              rw [List.getElem?_eq_getElem (by simpa using h1), List.getElem?_eq_getElem (by simpa using h2)] at this
              simp only [Option.map_some, Option.some.injEq] at this
              unfold MItem.cells at this
              have := congrArg List.getLast? this
              simpa using this
            have hro : rowsOf its' = rowsOf its := by
              unfold rowsOf
              rw [← List.flatMap_map (fun a : MItem => a.x) rowOf, ← List.flatMap_map (fun a : MItem => a.x) rowOf, hxs]
            intro r hr
            rw [hro] at hr
            exact hrb r hr
          refine .inr ⟨_, _, _, by
            simp only [dx, reduceIte, Nat.reduceLT, Nat.reduceLeDiff, Nat.reduceEqDiff, Nat.reduceAdd, Nat.reduceMul, Nat.reduceSub, Nat.reduceBEq, Int.reduceEq, Int.reduceLT, Int.reduceLE, Int.reduceToNat, reduceCtorEq, sx, fx49]
            rfl, by simp, .inr ⟨rfl, i, s, its', placeTo_more (i := i + 1) (by rw [placeTo, hno]; simp only; rw [if_pos ⟨k1, kn⟩, hff]; rfl) (by omega), fun r' hr' => ?_, ?_, hlen', go2 hM' (fun r' hr' => by have := hrw' r' hr'; omega), by rw [AMem.get_put, if_pos rfl], ?_, ?_, ?_⟩⟩
          · rw [AMem.get_put, if_neg (by omega), AMem.get_put, if_neg (by omega), ex2.2 r' (by omega), ex.2 r' (by omega), ex1.2 r' (by omega)]
          · simp only [AMem.next_put]; omega
          · simp only [Tr.get_set, Nat.reduceEqDiff, reduceIte, u4]
          · simp only [Tr.get_set, Nat.reduceEqDiff, reduceIte, u5, slotB, kn]
          · simp only [Tr.get_set, Nat.reduceEqDiff, reduceIte, u6]) (by
        rintro T σ0 ⟨_, ex, t2, t4, t7, t11, hno⟩
        have hge : ¬ (((ps.length : Nat) : Int) < ((its.length : Nat) : Int)) := by omega
        have ms0 := (hM1.ext ex).own.ms
        refine ⟨_, _, _, by
          simp only [bodyA, bodyOf, Try.f49, Option.getD_some, flatC, innerC, stmtC, List.append_assoc, dx, reduceIte, Nat.reduceLT, Nat.reduceLeDiff, Nat.reduceEqDiff, Nat.reduceAdd, Nat.reduceMul, Nat.reduceSub, Nat.reduceBEq, Int.reduceEq, Int.reduceLT, Int.reduceLE, Int.reduceToNat, reduceCtorEq, sx, fx49, t2, t4, t7, t11, ms0, hge]
          rfl, by simp, .inl ⟨rfl, hno, ex, ?_, ?_, ?_⟩⟩
        · simp only [Tr.get_set, Nat.reduceEqDiff, reduceIte, t2]
        · simp only [Tr.get_set, Nat.reduceEqDiff, reduceIte, t4]
        · simp only [Tr.get_set, Nat.reduceEqDiff, reduceIte, t7]) ⟨Nat.zero_le _, Ext.refl _, t2, t4, t7, t11, rfl⟩
    exact ⟨e, T', σ', g1, g2⟩
  have run : ∃ T1 σ' at_ b, execC lawProg (callN lawProg k) k 49 123 (bodyOf Try.f49) (initT 0 [.agg [.slice pr 0 its.length none 3, .slice wr 0 ws.length none 1], .int .i64 (n : Nat)] .nil) σ = some (.ret, T1, σ') ∧ T1.get 4 = some (.ptr (sp + 1) 0) ∧ T1.get 5 = some (.int .i64 at_) ∧ T1.get 6 = some (.bool b) ∧ σ'.get (sp + 1) = some (.row 2 true [.slice pr 0 its.length none 3, .slice wr 0 ws.length none 1]) ∧ (∀ r, r < low → σ'.get r = σ.get r) ∧ σ.next ≤ σ'.next ∧ ((b = false ∧ at_ = 0 ∧ allocL ps (n : Nat) = none) ∨ (b = true ∧ ∃ qs bl its', allocL ps (n : Nat) = some (qs, bl) ∧ at_ = bl.at_ ∧ its'.length = its.length ∧ HeapM low σ' sp pr none wr none its' qs ws)) := by
    simp only [bodyOf, Try.f49, Option.getD_some, initT, dx, reduceIte, Nat.reduceLT, Nat.reduceLeDiff, Nat.reduceEqDiff, Nat.reduceAdd, Nat.reduceMul, Nat.reduceSub, Nat.reduceBEq, Int.reduceEq, Int.reduceLT, Int.reduceLE, Int.reduceToNat, reduceCtorEq, sx, fx49, hsz, hszb, ← hσ1, ← hsp]
    generalize hL : execC _ _ _ _ _ (Code.loop _) _ _ = r
    obtain ⟨e, T', σ2, rfl, hc⟩ := main _ _ (by simp only [Tr.get_set, Nat.reduceEqDiff, reduceIte]) (by simp only [Tr.get_set, Nat.reduceEqDiff, reduceIte]) (by simp only [Tr.get_set, Nat.reduceEqDiff, reduceIte]) (by simp only [Tr.get_set, Nat.reduceEqDiff, reduceIte]) hL
    rcases hc with ⟨rfl, hpl, ex, u2, u4, u7⟩ | ⟨rfl, j, s, its', hpl, fr, nx, hlen', hM', goo, u4, u5, u6⟩
    · rw [hpl] at halloc
      simp only at halloc
      have hM2 := hM1.ext ex
      have hx := ex.1
      have ms2 := hM2.own.ms
      have mp2 := hM2.own.mp
      have goo : σ2.get (sp + 1) = some (.row 2 true [.vs .nil [], .vs .nil []]) := by rw [ex.2 _ (by omega)]; exact go1
      obtain ⟨l, S, q1, q2, q3⟩ := snap_heap (fr := false) 8 hM2
      have hll : l.length = ps.length := by rw [← q1]; simp [pgsOf]
      have hfr := freeRun_call (k := k) (σ := σ2) (many := 1) q3 (by omega) (by omega) (by omega)
      rw [q1] at hfr
      have e1 : ((1 : Nat) : Int) = 1 := rfl
      rw [e1] at hfr
      cases hrun : runL ps 1 with
      | none =>
        have hm1 : runR ps 1 = -1 := by unfold runR; rw [hrun]
        rw [hm1] at hfr
        rw [hrun] at halloc
        have hneg : ((-1 : Int) < 0) := by omega
        simp only [dx, reduceIte, Nat.reduceLT, Nat.reduceLeDiff, Nat.reduceEqDiff, Nat.reduceAdd, Nat.reduceMul, Nat.reduceSub, Nat.reduceBEq, Int.reduceEq, Int.reduceLT, Int.reduceLE, Int.reduceToNat, reduceCtorEq, sx, fx49, u2, u4, u7, ms2, hfr, hneg, goo]
        refine ⟨_, _, 0, false, rfl, ?_, ?_, ?_, by rw [AMem.get_put, if_pos rfl], fun r hr => ?_, ?_, .inl ⟨rfl, rfl, halloc⟩⟩
        · simp only [Tr.get_set, Nat.reduceEqDiff, reduceIte, u4]
        · simp only [Tr.get_set, Nat.reduceEqDiff, reduceIte]
        · simp only [Tr.get_set, Nat.reduceEqDiff, reduceIte]
        · rw [AMem.get_put, if_neg (by omega), ex.2 r (by omega), ex1.2 r (by omega)]
        · simp only [AMem.next_put]; omega
      | some f =>
        have hm1 : runR ps 1 = (f : Nat) := by unfold runR; rw [hrun]
        rw [hm1] at hfr
        rw [hrun] at halloc
        simp only at halloc
        obtain ⟨hf1, hf2⟩ := runL_some hrun
        have hnn : ¬ (((f : Nat) : Int) < 0) := by omega
        obtain ⟨r, hrr⟩ : ∃ r, r = σ2.next := ⟨_, rfl⟩
        obtain ⟨σ4, hσ4⟩ : ∃ s, s = σ2.push (.row 1 false (boolV (List.replicate m false))) := ⟨_, rfl⟩
        have ex4 : Ext σ2 σ4 := by rw [hσ4]; exact Ext.push _ _
        have n4 : σ4.next = r + 1 := by rw [hσ4, hrr]; simp
        have g4 : σ4.get r = some (.row 1 false (boolV (List.replicate m false))) := by rw [hσ4, hrr, AMem.get_push, if_pos rfl]
        have hrec := hM2.record (σ1 := σ4) (i := f) (by omega) ex4 (by omega) ⟨1, size, List.replicate m false⟩ (.slice r 0 m (some m) 1) (.inr ⟨r, some m, by simp, by omega, by omega, g4⟩)
        obtain ⟨its3, hits3⟩ : ∃ x, x = its.set f ⟨[.int .u8 1, .int .i64 size], .slice r 0 m (some m) 1, boolV (List.replicate m false)⟩ := ⟨_, rfl⟩
        obtain ⟨ps3, hps3⟩ : ∃ x, x = ps.set f ⟨1, size, List.replicate m false⟩ := ⟨_, rfl⟩
        simp only at hrec
        rw [← hits3, ← hps3] at hrec
        have hfi : f < its3.length := by rw [hits3, List.length_set]; omega
        have hx3r : its3[f].x = .slice r 0 m (some m) 1 := by simp only [hits3, List.getElem_set_self]
        have hpf : pgAt ps3 f = ⟨1, size, List.replicate m false⟩ := by rw [hps3, pgAt_set (by omega), if_pos rfl]
        have hrow := hrec.own.mp
        rw [AMem.get_put, if_pos rfl] at hrow
        have hflat := (AObj.row.inj (Option.some.inj hrow)).2.2
        rw [hflat] at hrec
        have hri : ∀ q, q ∈ rowsOf its3 → q < sp ∨ q = r := fun q hq => by
          rw [hits3] at hq
          rcases rowsOf_set_mem hq with h5 | h5
          · exact .inl (hrb q h5)
          · simp only [rowOf, List.mem_singleton] at h5; exact .inr h5
        obtain ⟨its4, hM, hcells4⟩ := hrec.slot (j := 0) hfi (r := r) (cap := some m) (by rw [hx3r, hpf]; simp) true
        have hlen4 : its4.length = its.length := by
          have := congrArg List.length hcells4
          simpa [hits3] using this
        rw [hpf] at hM
        have hfin : ps3.set f (useAt ⟨1, size, List.replicate m false⟩ 0 true) = ps.set f (smallG size) := by
          rw [hps3, List.set_set]
          unfold useAt smallG
          rw [hm, Int.toNat_natCast]
        rw [hfin] at hM
        have hrw4 : ∀ q, q ∈ rowsOf its4 → q ≠ sp + 1 := by
          have hxs : its4.map (fun a => a.x) = its3.map (fun a => a.x) := by
            have hl43 : its4.length = its3.length := by rw [hlen4, hits3, List.length_set]
            apply List.ext_getElem (by simpa using hl43)
            intro t h1 h2
            simp only [List.getElem_map]
            have := congrArg (fun l => l[t]?) hcells4
            simp only [List.getElem?_map] at this
            rw [List.getElem?_eq_getElem (by simpa using h1), List.getElem?_eq_getElem (by simpa using h2)] at this
            simp only [Option.map_some, Option.some.injEq] at this
            unfold MItem.cells at this
            have := congrArg List.getLast? this
            simpa using this
          have hro : rowsOf its4 = rowsOf its3 := by
            unfold rowsOf
            rw [← List.flatMap_map (fun a : MItem => a.x) rowOf, ← List.flatMap_map (fun a : MItem => a.x) rowOf, hxs]
          intro q hq
          rw [hro] at hq
          rcases hri q hq with h5 | h5 <;> omega
        have hltf : ((f : Nat) : Int) < ((its.length : Nat) : Int) := by omega
        have hin3 : f * 3 + 3 ≤ its.length * 3 := by omega
        have w1 : IntKind.i64.wrap ((64 : Int).tdiv size) = ((m : Nat) : Int) := by rw [hm]; exact i64_id (by omega) (by omega)
        have w4 : IntKind.i64.wrap (((f : Nat) : Int) * 64) = 64 * (f : Int) := by rw [i64_id (by omega) (by omega)]; omega
        have cm : (0 : Int) ≤ ((m : Nat) : Int) ∧ ((m : Nat) : Int) ≤ ((m : Nat) : Int) ∧ ((m : Nat) : Int) * ((1 : Nat) : Int) ≤ ((mostBytes : Nat) : Int) ∧ ((m : Nat) : Int) ≤ 9223372036854775807 := by unfold mostBytes; omega
        have hg3 := pg_get (j := 2) hrec.pi hfi (by omega)
        simp only [List.getElem?_cons_succ, List.getElem?_cons_zero, hx3r] at hg3
        have hlt0 : (0 : Int) < ((m : Nat) : Int) := by omega
        have hin0 : 0 + 1 ≤ m := by omega
        have hin0' : 1 ≤ m := by omega
        have ms4 : σ4.get sp = some (.row 2 true [.slice pr 0 its.length none 3, .slice wr 0 ws.length none 1]) := by rw [ex4.2 sp (by omega)]; exact ms2
        have mp4 : σ4.get pr = some (.row 3 true (its.map MItem.cells).flatten) := by rw [ex4.2 pr (by omega)]; exact mp2
        have go4 : σ4.get (sp + 1) = some (.row 2 true [.vs .nil [], .vs .nil []]) := by rw [ex4.2 _ (by omega)]; exact goo
        have qps : ¬ pr = sp := fun e => h.own.ne.1 e.symm
        have qpr : ¬ pr = r := by omega
        have qpo : ¬ pr = sp + 1 := by omega
        have qrs : ¬ r = sp := by omega
        have qro : ¬ r = sp + 1 := by omega
        simp only [dx, reduceIte, Nat.reduceLT, Nat.reduceLeDiff, Nat.reduceEqDiff, Nat.reduceAdd, Nat.reduceMul, Nat.reduceSub, Nat.reduceBEq, Int.reduceEq, Int.reduceLT, Int.reduceLE, Int.reduceToNat, reduceCtorEq, sx, fx49, u2, u4, u7, ms2, mp2, hfr, hnn, w1, cm, sz0, repZ_bools, Int.toNat_natCast, ← hrr, ← hσ4]
        simp only [dx, reduceIte, Nat.reduceLT, Nat.reduceLeDiff, Nat.reduceEqDiff, Nat.reduceAdd, Nat.reduceMul, Nat.reduceSub, Nat.reduceBEq, Int.reduceEq, Int.reduceLT, Int.reduceLE, Int.reduceToNat, reduceCtorEq, sx, fx49, u2, u4, u7, ms4, mp4, go4, hltf, hlen, hin3, hflat, w4, qps, qpr, qpo, qrs, qro, hg3, g4, hlt0, hin0, hin0', boolV_length, List.length_replicate, Int.natCast_nonneg, Int.toNat_natCast]
        refine ⟨_, _, 64 * (f : Int), true, rfl, ?_, ?_, ?_, by rw [AMem.get_put, if_pos rfl], fun q hq => ?_, ?_, .inr ⟨rfl, _, _, its4, halloc, rfl, hlen4, go2 hM hrw4⟩⟩
        · simp only [Tr.get_set, Nat.reduceEqDiff, reduceIte, u4]
        · simp only [Tr.get_set, Nat.reduceEqDiff, reduceIte]
        · simp only [Tr.get_set, Nat.reduceEqDiff, reduceIte]
        · rw [AMem.get_put, if_neg (by omega), AMem.get_put, if_neg (by omega), AMem.get_put, if_neg (by omega), ex4.2 q (by omega), ex.2 q (by omega), ex1.2 q (by omega)]
        · simp only [AMem.next_put]; omega
    · rw [hpl] at halloc
      simp only at halloc
      simp only [dx, reduceIte, Nat.reduceLT, Nat.reduceLeDiff, Nat.reduceEqDiff, Nat.reduceAdd, Nat.reduceMul, Nat.reduceSub, Nat.reduceBEq, Int.reduceEq, Int.reduceLT, Int.reduceLE, Int.reduceToNat, reduceCtorEq, sx, fx49]
      exact ⟨_, _, _, true, rfl, u4, u5, u6, goo, fr, by omega, .inr ⟨rfl, _, _, its', halloc, rfl, hlen', hM'⟩⟩
  obtain ⟨T1, σ', at_, b, r1, r2, r3, r4, r5, r6, r7, hc⟩ := run
  have hcall := fin T1 σ' at_ b r1 r2 r3 r4 r5
  refine ⟨σ', r6, by omega, ?_⟩
  rcases hc with ⟨rfl, rfl, ha⟩ | ⟨rfl, qs, bl, its', ha, rfl, hl', hM'⟩
  · exact .inl ⟨ha, hcall⟩
  · exact .inr ⟨qs, bl, its', ha, hl', hcall, hM'⟩
end Go.Proofs.Ytjkfdiglokkceaa

/- Heaps: the reference's Alloc. -/
set_option maxRecDepth 100000
set_option linter.unusedSimpArgs false
set_option linter.unusedVariables false
namespace Go.Proofs.Ytjkfdiglokkceaa
open Go Go.Proofs.Ytjkfdiglokkceaa.Pale
variable {k : Nat} {σ : AMem}

theorem rallocated_exec {low pr wr : Nat} {its : List MItem} {ps : List Pg} {ws : List Int} {n : Int} (h : HeapM low (σ.push (.row 2 true [.slice pr 0 its.length none 3, .slice wr 0 ws.length none 1])) σ.next pr none wr none its ps ws) (hr : RightH ps ws) (h1 : 1 ≤ n) (h2 : n ≤ 2560) (hk : 4000 ≤ k) :
    ∃ σ', (∀ r, r < low → σ'.get r = σ.get r) ∧ σ.next ≤ σ'.next ∧
    ((allocL ps n = none ∧ callN lawProg (k + 1) (.func 49 [] []) [.agg [.slice pr 0 its.length none 3, .slice wr 0 ws.length none 1], .int .i64 n] σ = some (.tuple [.agg [.slice pr 0 its.length none 3, .slice wr 0 ws.length none 1], .int .i64 0, .bool false], σ')) ∨
    (∃ qs b its', allocL ps n = some (qs, b) ∧ its'.length = its.length ∧ callN lawProg (k + 1) (.func 49 [] []) [.agg [.slice pr 0 its.length none 3, .slice wr 0 ws.length none 1], .int .i64 n] σ = some (.tuple [.agg [.slice pr 0 its.length none 3, .slice wr 0 ws.length none 1], .int .i64 b.at_, .bool true], σ') ∧ HeapM low σ' σ.next pr none wr none its' qs ws)) := by
  obtain ⟨m, rfl⟩ : ∃ m : Nat, n = (m : Nat) := ⟨n.toNat, by omega⟩
  by_cases h32 : m ≤ 32
  · exact rallocated_small h hr (by omega) h32 hk
  · have hq : ((((m : Nat) : Int) + 63) / 64).toNat = (m + 63) / 64 := by omega
    have hq2 : (((m : Nat) : Int) + 63) / 64 = (((m + 63) / 64 : Nat) : Int) := by omega
    have ha : allocL ps (m : Nat) = match runL ps ((m + 63) / 64) with
        | some f => some (setRun ps f ((m + 63) / 64) (bigG ((m + 63) / 64)), ⟨f, 0, 64 * f, 64 * (((m + 63) / 64 : Nat) : Int)⟩)
        | none => none := by
      unfold allocL
      rw [if_pos (by omega), hq, hq2]
      rfl
    obtain ⟨σ', g1, g2, ⟨g3, g4⟩ | ⟨f, its', g3, g4, g5, g6⟩⟩ := rallocated_big (k := k) (n := m) h hr (by omega) (by omega) hk
    · exact ⟨σ', g1, g2, .inl ⟨by rw [ha, g3], g4⟩⟩
    · refine ⟨σ', g1, g2, .inr ⟨_, _, its', by rw [ha, g3], g4, ?_, g6⟩⟩
      rw [g5]
      simp only [Int.natCast_mul]
      rfl
set_option maxHeartbeats 1000000 in
theorem RAlloc_run {v : AVal} {ps : List Pg} {ws : List Int} (n : Int) (hv : VH v ps ws) (hb : Bd ps ws) (hk : 9000 ≤ k) : ∃ v', pureRun (callN lawProg (k + 1)) (.func 29 [] []) [v, .int .i64 n] = some (.tuple [v', .int .i64 (allocH ps ws n).at_, .int .i64 (allocH ps ws n).e], true) ∧ VH v' (allocH ps ws n).ps (allocH ps ws n).ws := by
  have hv0 := hv
  obtain ⟨kp, kw, l, rfl, rfl, hkp, hkw, hgood⟩ := hv
  obtain ⟨b1, b2, b3⟩ := hb
  have hlp : (pgsOf l).length = l.length := by simp [pgsOf]
  have hri := fun (σ : AMem) => isRight_call (k := k) (σ := σ) kp kw l ws (fun x hx => b3 x.1 (List.mem_map.2 ⟨x, hx, rfl⟩)) (by omega) (by omega) (by omega)
  have hin := fun (σ : AMem) => in_call (k := k) (σ := σ) n 1 2560 (by omega)
  unfold hpV at hri ⊢
  obtain ⟨σ0, hσ0⟩ : ∃ s, s = (AMem.empty.push (.row 2 true [.vs kp (l.map pv), .vs kw (intV ws)])).push (.row 2 true [.vs .nil [], .vs .nil []]) := ⟨_, rfl⟩
  have n0 : σ0.next = 2 := by rw [hσ0]; simp [next_empty]
  have g0 : σ0.get 0 = some (.row 2 true [.vs kp (l.map pv), .vs kw (intV ws)]) := by rw [hσ0]; simp [AMem.get_push, next_empty]
  have g1 : σ0.get 1 = some (.row 2 true [.vs .nil [], .vs .nil []]) := by rw [hσ0]; simp [AMem.get_push, next_empty]
  have fin : ∀ (T1 : Tr AVal) (σ' : AMem) (o0 o1 : AVal) (at_ e : Int) (v' : AVal) (S : List Nat) (qs : List Pg) (us : List Int), execC lawProg (callN lawProg k) k 29 31 (bodyOf Try.f29) (initT 0 [.agg [.vs kp (l.map pv), .vs kw (intV ws)], .int .i64 n] .nil) AMem.empty = some (.ret, T1, σ') → T1.get 4 = some (.ptr 1 0) → T1.get 5 = some (.int .i64 at_) → T1.get 6 = some (.int .i64 e) → σ'.get 1 = some (.row 2 true [o0, o1]) → snapF true σ' 11 (.agg [o0, o1]) = some (v', S) → VH v' qs us → ∃ v', pureRun (callN lawProg (k + 1)) (.func 29 [] []) [.agg [.vs kp (l.map pv), .vs kw (intV ws)], .int .i64 n] = some (.tuple [v', .int .i64 at_, .int .i64 e], true) ∧ VH v' qs us := by
    intro T1 σ' o0 o1 at_ e v' S qs us r1 r2 r3 r4 r5 hS hvh
    refine ⟨v', ?_, hvh⟩
    refine pureRun_of (vs := [.agg [o0, o1], .int .i64 at_, .int .i64 e]) (seen := S ++ ([] ++ ([] ++ []))) fn29 rfl (by simp [Try.f29]) r1 (by simp) ?_ ?_
    · simp only [Try.f29, resultsA, resultA, dx, reduceIte, Nat.reduceLT, Nat.reduceLeDiff, Nat.reduceEqDiff, Nat.reduceAdd, Nat.reduceMul, Nat.reduceSub, Nat.reduceBEq, Int.reduceEq, Int.reduceLT, Int.reduceLE, Int.reduceToNat, reduceCtorEq, sx, fx29, r2, r3, r4, r5]
    · have c1 : snapF true σ' 11 (.int .i64 at_) = some (.int .i64 at_, []) := rfl
      have c2 : snapF true σ' 11 (.int .i64 e) = some (.int .i64 e, []) := rfl
      show snapF true σ' (11 + 1) (.tuple [.agg [o0, o1], .int .i64 at_, .int .i64 e]) = _
      rw [snapF]
      simp only [snapL, hS, c1, c2, Option.map_some]
  cases hrb : rightB (pgsOf l) ws with
  | false =>
    have hres : allocH (pgsOf l) ws n = ⟨[], [], 0, 4⟩ := by unfold allocH; rw [hrb]; simp
    rw [hres]
    rw [hrb] at hri
    have run : ∃ T1, execC lawProg (callN lawProg k) k 29 31 (bodyOf Try.f29) (initT 0 [.agg [.vs kp (l.map pv), .vs kw (intV ws)], .int .i64 n] .nil) AMem.empty = some (.ret, T1, σ0.put 1 (.row 2 true [.vs .nil [], .vs .nil []])) ∧ T1.get 4 = some (.ptr 1 0) ∧ T1.get 5 = some (.int .i64 0) ∧ T1.get 6 = some (.int .i64 4) := by
      simp only [bodyOf, Try.f29, Option.getD_some, initT, dx, reduceIte, Nat.reduceLT, Nat.reduceLeDiff, Nat.reduceEqDiff, Nat.reduceAdd, Nat.reduceMul, Nat.reduceSub, Nat.reduceBEq, Int.reduceEq, Int.reduceLT, Int.reduceLE, Int.reduceToNat, reduceCtorEq, sx, fx29, ← hσ0]
      simp only [dx, reduceIte, Nat.reduceLT, Nat.reduceLeDiff, Nat.reduceEqDiff, Nat.reduceAdd, Nat.reduceMul, Nat.reduceSub, Nat.reduceBEq, Int.reduceEq, Int.reduceLT, Int.reduceLE, Int.reduceToNat, reduceCtorEq, sx, fx29, g0, g1, hri]
      exact ⟨_, rfl, by simp only [Tr.get_set, Nat.reduceEqDiff, reduceIte], by simp only [Tr.get_set, Nat.reduceEqDiff, reduceIte], by simp only [Tr.get_set, Nat.reduceEqDiff, reduceIte]⟩
    obtain ⟨T1, r1, r2, r3, r4⟩ := run
    exact fin T1 _ _ _ 0 4 _ _ [] [] r1 r2 r3 r4 (by rw [AMem.get_put, if_pos rfl]) (snap_hp0 _ 9) nil_vh
  | true =>
    have hright := rightB_iff.1 hrb
    rw [hrb] at hri
    by_cases hn : 1 ≤ n ∧ n ≤ 2560
    · rw [decide_eq_true hn] at hin
      have hmany := hright.many
      have hwl := hright.len
      obtain ⟨σ2, X, W, its, hcp, ex2, hC⟩ := copy_exec (k := k - 1) (σ := σ0) hv0 ⟨b1, b2, b3⟩ (by omega)
      rw [show k - 1 + 1 = k by omega] at hcp
      unfold hpV at hcp
      rw [n0] at hC
      obtain ⟨pr, wr, rfl, rfl, hM⟩ := hC.heap (by omega) (by omega)
      obtain ⟨σ3, fr, nx, hcase⟩ := rallocated_exec (k := k - 1) (n := n) hM hright hn.1 hn.2 (by omega)
      rw [show k - 1 + 1 = k by omega] at hcase
      have hx2 := ex2.1
      obtain ⟨c, hc⟩ : ∃ c, c = σ3.next := ⟨_, rfl⟩
      obtain ⟨σ4, hσ4⟩ : ∃ s, s = (σ3.push (.row 2 true [.vs .nil [], .vs .nil []])).put c (.row 2 true [.slice pr 0 its.length none 3, .slice wr 0 ws.length none 1]) := ⟨_, rfl⟩
      have ex4 : Ext σ3 σ4 := by rw [hσ4]; exact (Ext.push _ _).put _ _ (by omega)
      have gc4 : σ4.get c = some (.row 2 true [.slice pr 0 its.length none 3, .slice wr 0 ws.length none 1]) := by rw [hσ4, AMem.get_put, if_pos rfl]
      have g14 : σ4.get 1 = some (.row 2 true [.vs .nil [], .vs .nil []]) := by rw [ex4.2 1 (by omega), fr 1 (by omega), ex2.2 1 (by omega)]; exact g1
      rcases hcase with ⟨hal, hcl⟩ | ⟨qs, b, its', hal, hlen', hcl, hM'⟩
      · have hres : allocH (pgsOf l) ws n = ⟨[], [], 0, 8⟩ := by unfold allocH; rw [hrb, if_pos rfl, if_pos hn, hal]
        rw [hres]
        have run : ∃ T1, execC lawProg (callN lawProg k) k 29 31 (bodyOf Try.f29) (initT 0 [.agg [.vs kp (l.map pv), .vs kw (intV ws)], .int .i64 n] .nil) AMem.empty = some (.ret, T1, σ4.put 1 (.row 2 true [.vs .nil [], .vs .nil []])) ∧ T1.get 4 = some (.ptr 1 0) ∧ T1.get 5 = some (.int .i64 0) ∧ T1.get 6 = some (.int .i64 8) := by
          simp only [bodyOf, Try.f29, Option.getD_some, initT, dx, reduceIte, Nat.reduceLT, Nat.reduceLeDiff, Nat.reduceEqDiff, Nat.reduceAdd, Nat.reduceMul, Nat.reduceSub, Nat.reduceBEq, Int.reduceEq, Int.reduceLT, Int.reduceLE, Int.reduceToNat, reduceCtorEq, sx, fx29, ← hσ0]
          simp only [dx, reduceIte, Nat.reduceLT, Nat.reduceLeDiff, Nat.reduceEqDiff, Nat.reduceAdd, Nat.reduceMul, Nat.reduceSub, Nat.reduceBEq, Int.reduceEq, Int.reduceLT, Int.reduceLE, Int.reduceToNat, reduceCtorEq, sx, fx29, g0, g1, hri, hin, hcp, hcl, ← hc, ← hσ4]
          simp only [dx, reduceIte, Nat.reduceLT, Nat.reduceLeDiff, Nat.reduceEqDiff, Nat.reduceAdd, Nat.reduceMul, Nat.reduceSub, Nat.reduceBEq, Int.reduceEq, Int.reduceLT, Int.reduceLE, Int.reduceToNat, reduceCtorEq, sx, fx29, gc4, g14]
          exact ⟨_, rfl, by simp only [Tr.get_set, Nat.reduceEqDiff, reduceIte], by simp only [Tr.get_set, Nat.reduceEqDiff, reduceIte], by simp only [Tr.get_set, Nat.reduceEqDiff, reduceIte]⟩
        obtain ⟨T1, r1, r2, r3, r4⟩ := run
        exact fin T1 _ _ _ 0 8 _ _ [] [] r1 r2 r3 r4 (by rw [AMem.get_put, if_pos rfl]) (snap_hp0 _ 9) nil_vh
      · have hres : allocH (pgsOf l) ws n = ⟨qs, ws, b.at_, 0⟩ := by unfold allocH; rw [hrb, if_pos rfl, if_pos hn, hal]
        rw [hres]
        have run : ∃ T1, execC lawProg (callN lawProg k) k 29 31 (bodyOf Try.f29) (initT 0 [.agg [.vs kp (l.map pv), .vs kw (intV ws)], .int .i64 n] .nil) AMem.empty = some (.ret, T1, σ4.put 1 (.row 2 true [.slice pr 0 its.length none 3, .slice wr 0 ws.length none 1])) ∧ T1.get 4 = some (.ptr 1 0) ∧ T1.get 5 = some (.int .i64 b.at_) ∧ T1.get 6 = some (.int .i64 0) := by
          simp only [bodyOf, Try.f29, Option.getD_some, initT, dx, reduceIte, Nat.reduceLT, Nat.reduceLeDiff, Nat.reduceEqDiff, Nat.reduceAdd, Nat.reduceMul, Nat.reduceSub, Nat.reduceBEq, Int.reduceEq, Int.reduceLT, Int.reduceLE, Int.reduceToNat, reduceCtorEq, sx, fx29, ← hσ0]
          simp only [dx, reduceIte, Nat.reduceLT, Nat.reduceLeDiff, Nat.reduceEqDiff, Nat.reduceAdd, Nat.reduceMul, Nat.reduceSub, Nat.reduceBEq, Int.reduceEq, Int.reduceLT, Int.reduceLE, Int.reduceToNat, reduceCtorEq, sx, fx29, g0, g1, hri, hin, hcp, hcl, ← hc, ← hσ4]
          simp only [dx, reduceIte, Nat.reduceLT, Nat.reduceLeDiff, Nat.reduceEqDiff, Nat.reduceAdd, Nat.reduceMul, Nat.reduceSub, Nat.reduceBEq, Int.reduceEq, Int.reduceLT, Int.reduceLE, Int.reduceToNat, reduceCtorEq, sx, fx29, gc4, g14]
          exact ⟨_, rfl, by simp only [Tr.get_set, Nat.reduceEqDiff, reduceIte], by simp only [Tr.get_set, Nat.reduceEqDiff, reduceIte], by simp only [Tr.get_set, Nat.reduceEqDiff, reduceIte]⟩
        obtain ⟨T1, r1, r2, r3, r4⟩ := run
        have hM5 : HeapM 2 (σ4.put 1 (.row 2 true [.slice pr 0 its.length none 3, .slice wr 0 ws.length none 1])) σ2.next pr none wr none its' qs ws := (hM'.ext ex4).agree (fun r hr => by rw [AMem.get_put, if_neg (by omega)]) (by simp)
        obtain ⟨v', S, hS, hvh⟩ := hM5.vh (fr := true) 7
        rw [hlen'] at hS
        exact fin T1 _ _ _ b.at_ 0 v' S qs ws r1 r2 r3 r4 (by rw [AMem.get_put, if_pos rfl]) hS hvh
    · rw [decide_eq_false hn] at hin
      have hres : allocH (pgsOf l) ws n = ⟨[], [], 0, 3⟩ := by unfold allocH; rw [hrb, if_pos rfl, if_neg hn]
      rw [hres]
      have run : ∃ T1, execC lawProg (callN lawProg k) k 29 31 (bodyOf Try.f29) (initT 0 [.agg [.vs kp (l.map pv), .vs kw (intV ws)], .int .i64 n] .nil) AMem.empty = some (.ret, T1, σ0.put 1 (.row 2 true [.vs .nil [], .vs .nil []])) ∧ T1.get 4 = some (.ptr 1 0) ∧ T1.get 5 = some (.int .i64 0) ∧ T1.get 6 = some (.int .i64 3) := by
        simp only [bodyOf, Try.f29, Option.getD_some, initT, dx, reduceIte, Nat.reduceLT, Nat.reduceLeDiff, Nat.reduceEqDiff, Nat.reduceAdd, Nat.reduceMul, Nat.reduceSub, Nat.reduceBEq, Int.reduceEq, Int.reduceLT, Int.reduceLE, Int.reduceToNat, reduceCtorEq, sx, fx29, ← hσ0]
        simp only [dx, reduceIte, Nat.reduceLT, Nat.reduceLeDiff, Nat.reduceEqDiff, Nat.reduceAdd, Nat.reduceMul, Nat.reduceSub, Nat.reduceBEq, Int.reduceEq, Int.reduceLT, Int.reduceLE, Int.reduceToNat, reduceCtorEq, sx, fx29, g0, g1, hri, hin]
        exact ⟨_, rfl, by simp only [Tr.get_set, Nat.reduceEqDiff, reduceIte], by simp only [Tr.get_set, Nat.reduceEqDiff, reduceIte], by simp only [Tr.get_set, Nat.reduceEqDiff, reduceIte]⟩
      obtain ⟨T1, r1, r2, r3, r4⟩ := run
      exact fin T1 _ _ _ 0 3 _ _ [] [] r1 r2 r3 r4 (by rw [AMem.get_put, if_pos rfl]) (snap_hp0 _ 9) nil_vh
theorem RAlloc_call {v : AVal} {ps : List Pg} {ws : List Int} (n : Int) (hv : VH v ps ws) (hb : Bd ps ws) (hk : 9001 ≤ k) : ∃ v', (∀ σ, pureCall lawProg (callN lawProg k) (.func 29 [] []) [v, .int .i64 n] σ = some (.tuple [v', .int .i64 (allocH ps ws n).at_, .int .i64 (allocH ps ws n).e], σ)) ∧ VH v' (allocH ps ws n).ps (allocH ps ws n).ws := by
  obtain ⟨k, rfl⟩ : ∃ m, k = m + 1 := ⟨k - 1, by omega⟩
  obtain ⟨v', h1, h2⟩ := RAlloc_run n hv hb (k := k) (by omega)
  refine ⟨v', fun σ => pureCall_of (seen := [] ++ ([] ++ [])) ?_ (memo29 _) h1, h2⟩
  have := hv.snap σ 10
  simp only [snapL, snapDepth, this, snapF]
end Go.Proofs.Ytjkfdiglokkceaa

/- Heaps: the reference's sizeOf and ask. -/
set_option maxRecDepth 100000
set_option linter.unusedSimpArgs false
set_option linter.unusedVariables false
namespace Go.Proofs.Ytjkfdiglokkceaa
open Go Go.Proofs.Ytjkfdiglokkceaa.Pale
variable {k : Nat} {σ : AMem}

theorem isRight_vh0 {v : AVal} {ps : List Pg} {ws : List Int} (hv : VH v ps ws) (hb : Bd ps ws) (hk : 6000 ≤ k) (σ : AMem) : pureCall lawProg (callN lawProg k) (.func 24 [] []) [v] σ = some (.bool (rightB ps ws), σ) := by
  obtain ⟨kp, kw, l, rfl, rfl, _⟩ := hv
  have hl : (pgsOf l).length = l.length := by simp [pgsOf]
  obtain ⟨b1, b2, b3⟩ := hb
  exact isRight_call kp kw l ws (fun z hz => b3 z.1 (List.mem_map.2 ⟨z, hz, rfl⟩)) (by omega) (by omega) hk
def sizeL (ps : List Pg) (a : Int) : Int := match findL ps a with
  | some b => b.size
  | none => 0
theorem sizeOf_call' {v : AVal} {ps : List Pg} {ws : List Int} (a : Int) (hv : VH v ps ws) (hsh : Shape ps) (hl : ps.length ≤ 40) (hk : 9000 ≤ k) : pureCall lawProg (callN lawProg k) (.func 76 [] []) [v, .int .i64 a] σ = some (.int .i64 (sizeL ps a), σ) := by
  obtain ⟨k, rfl⟩ : ∃ m, k = m + 1 := ⟨k - 1, by omega⟩
  have hv0 := hv
  obtain ⟨kp, kw, l, rfl, rfl, _⟩ := hv
  have hlp : (pgsOf l).length = l.length := by simp [pgsOf]
  have hbl := fun (σ : AMem) => blocks_call (k := k) (σ := σ) kp kw l ws hsh (by omega) (by omega)
  obtain ⟨L, hL⟩ : ∃ L, L = blocksL (pgsOf l) := ⟨_, rfl⟩
  have hLl : L.length ≤ 2560 := by
    have := (blocks_len hsh (pgsOf l).length (Nat.le_refl _)).1
    rw [hL]
    unfold blocksL
    omega
  rw [← hL] at hbl
  have run : ∃ T1 σ1, execC lawProg (callN lawProg k) k 76 27 (bodyOf Try.f76) (initT 0 [hpV kp kw l ws, .int .i64 a] .nil) AMem.empty = some (.ret, T1, σ1) ∧ T1.get 4 = some (.int .i64 (sizeL (pgsOf l) a)) := by
    unfold hpV at hbl ⊢
    simp only [bodyOf, Try.f76, Option.getD_some, initT, dx, reduceIte, Nat.reduceLT, Nat.reduceLeDiff, Nat.reduceEqDiff, Nat.reduceAdd, Nat.reduceMul, Nat.reduceSub, Nat.reduceBEq, Int.reduceEq, Int.reduceLT, Int.reduceLE, Int.reduceToNat, reduceCtorEq, sx, fx76, hbl]
    generalize hLp : execC _ _ _ _ _ (Code.loop _) _ _ = q
    obtain ⟨e, T', σ', rfl, _, hc⟩ : ∃ e T' σ', q = some (e, T', σ') ∧ e ≠ .normal ∧ ((e = .ret ∧ ∃ b, findL (pgsOf l) a = some b ∧ T'.get 4 = some (.int .i64 b.size)) ∨ (e = .exit 0 ∧ findL (pgsOf l) a = none)) := by
      rw [← hLp]
      have hkL : L.length < k := by omega
      · refine exec_loop2 (fun i T σ' => i ≤ L.length ∧ T.get 1 = some (.int .i64 a) ∧ T.get 5 = some (.vs (lkOf L.length) (prsV L)) ∧ T.get 6 = some (.int .i64 (i : Nat)) ∧ ∀ b, b ∈ L.take i → b.at_ ≠ a) L.length hkL ?_ ?_ ?_
        · rintro i hi T σ0 ⟨_, t1, t5, t6, hall⟩
          have hlt : ((i : Nat) : Int) < ((L.length : Nat) : Int) := by omega
          have hw' := i64_succ (i := i) (by omega)
          have hget := prsV_get hi
          have i12 : (1 : Int) < ((2 : Nat) : Int) := by decide
          have i02 : (0 : Int) < ((2 : Nat) : Int) := by decide
          by_cases he : (L[i]).at_ = a
          · have hb1 : ((L[i]).at_ == a) = true := by rw [he]; simp
            refine .inr ⟨_, _, _, by
              simp only [dx, reduceIte, Nat.reduceLT, Nat.reduceLeDiff, Nat.reduceEqDiff, Nat.reduceAdd, Nat.reduceMul, Nat.reduceSub, Nat.reduceBEq, Int.reduceEq, Int.reduceLT, Int.reduceLE, Int.reduceToNat, reduceCtorEq, sx, fx76, t1, t5, t6, hlt, prsV_length, Int.natCast_nonneg, Int.toNat_natCast, hget, i02, i12, hb1]
              rfl, by simp, .inl ⟨rfl, L[i], ?_, ?_⟩⟩
            · unfold findL
              rw [← hL]
              have hs : L = L.take i ++ L[i] :: L.drop (i + 1) := by
                rw [List.getElem_cons_drop, List.take_append_drop]
              conv => lhs; rw [hs]
              rw [List.find?_append, List.find?_eq_none.2 (fun x hx => by simpa using hall x hx), List.find?_cons, hb1]
              rfl
            · simp only [Tr.get_set, Nat.reduceEqDiff, reduceIte]
          · have hb1 : ((L[i]).at_ == a) = false := by rw [beq_eq_false_iff_ne]; exact he
            refine .inl ⟨_, _, by
              simp only [dx, reduceIte, Nat.reduceLT, Nat.reduceLeDiff, Nat.reduceEqDiff, Nat.reduceAdd, Nat.reduceMul, Nat.reduceSub, Nat.reduceBEq, Int.reduceEq, Int.reduceLT, Int.reduceLE, Int.reduceToNat, reduceCtorEq, sx, fx76, t1, t5, t6, hlt, prsV_length, Int.natCast_nonneg, Int.toNat_natCast, hget, i02, i12, hb1, hw']
              rfl, by omega, ?_, ?_, ?_, take_all hi hall he⟩
            · simp only [Tr.get_set, Nat.reduceEqDiff, reduceIte, t1]
            · simp only [Tr.get_set, Nat.reduceEqDiff, reduceIte, t5]
            · simp only [Tr.get_set, Nat.reduceEqDiff, reduceIte]
        · rintro T σ0 ⟨_, t1, t5, t6, hall⟩
          have hge : ¬ (((L.length : Nat) : Int) < ((L.length : Nat) : Int)) := by omega
          rw [List.take_length] at hall
          refine ⟨_, _, _, by
            simp only [dx, reduceIte, Nat.reduceLT, Nat.reduceLeDiff, Nat.reduceEqDiff, Nat.reduceAdd, Nat.reduceMul, Nat.reduceSub, Nat.reduceBEq, Int.reduceEq, Int.reduceLT, Int.reduceLE, Int.reduceToNat, reduceCtorEq, sx, fx76, t5, t6, prsV_length, hge]
            rfl, by simp, .inr ⟨rfl, ?_⟩⟩
          unfold findL
          rw [← hL, List.find?_eq_none]
          intro x hx
          simpa using hall x hx
        · refine ⟨Nat.zero_le _, ?_, ?_, ?_, by simp⟩
          all_goals simp only [Tr.get_set, Nat.reduceEqDiff, reduceIte] <;> rfl
    rcases hc with ⟨rfl, b, h1, h2⟩ | ⟨rfl, h1⟩
    · simp only [dx, reduceIte, Nat.reduceLT, Nat.reduceLeDiff, Nat.reduceEqDiff, Nat.reduceAdd, Nat.reduceMul, Nat.reduceSub, Nat.reduceBEq, Int.reduceEq, Int.reduceLT, Int.reduceLE, Int.reduceToNat, reduceCtorEq, sx, fx76]
      exact ⟨_, _, rfl, by rw [h2]; unfold sizeL; rw [h1]⟩
    · simp only [dx, reduceIte, Nat.reduceLT, Nat.reduceLeDiff, Nat.reduceEqDiff, Nat.reduceAdd, Nat.reduceMul, Nat.reduceSub, Nat.reduceBEq, Int.reduceEq, Int.reduceLT, Int.reduceLE, Int.reduceToNat, reduceCtorEq, sx, fx76]
      exact ⟨_, _, rfl, by unfold sizeL; rw [h1]; simp only [Tr.get_set, Nat.reduceEqDiff, reduceIte]⟩
  obtain ⟨T1, σ1, h1, h2⟩ := run
  refine pureCall_of (args' := [hpV kp kw l ws, .int .i64 a]) (seen := [] ++ ([] ++ [])) ?_ (memo76 _) (pureRun_of fn76 rfl (by simp [Try.f76]) h1 (by simp) (res_one h2) rfl)
  have := hv0.snap σ 10
  simp only [snapL, snapDepth, this, snapF]
noncomputable def askH (ps : List Pg) (ws : List Int) (a : Int) : Int × Int := if rightB ps ws then (match findL ps a with
    | some b => (b.size, 0)
    | none => (0, 7)) else (0, 4)
theorem ask_call {v : AVal} {ps : List Pg} {ws : List Int} (a : Int) (hv : VH v ps ws) (hb : Bd ps ws) (hk : 9001 ≤ k) : pureCall lawProg (callN lawProg k) (.func 56 [] []) [v, .int .i64 a] σ = some (.tuple [.int .i64 (askH ps ws a).1, .int .i64 (askH ps ws a).2], σ) := by
  obtain ⟨k, rfl⟩ : ∃ m, k = m + 1 := ⟨k - 1, by omega⟩
  have hsn := hv.snap σ 10
  obtain ⟨X, Y, rfl, hX, hY⟩ := hv.cells
  have hri := isRight_vh0 (k := k) hv hb (by omega)
  have run : ∃ T1 σ1, execC lawProg (callN lawProg k) k 56 16 (bodyOf Try.f56) (initT 0 [.agg [X, Y], .int .i64 a] .nil) AMem.empty = some (.ret, T1, σ1) ∧ T1.get 4 = some (.int .i64 (askH ps ws a).1) ∧ T1.get 5 = some (.int .i64 (askH ps ws a).2) := by
    cases hrb : rightB ps ws with
    | false =>
      rw [hrb] at hri
      have hres : askH ps ws a = (0, 4) := by unfold askH; rw [hrb]; rfl
      rw [hres]
      simp only [bodyOf, Try.f56, Option.getD_some, initT, dx, reduceIte, Nat.reduceLT, Nat.reduceLeDiff, Nat.reduceEqDiff, Nat.reduceAdd, Nat.reduceMul, Nat.reduceSub, Nat.reduceBEq, Int.reduceEq, Int.reduceLT, Int.reduceLE, Int.reduceToNat, reduceCtorEq, sx, fx56, hX, hY, hri]
      exact ⟨_, _, rfl, by simp only [Tr.get_set, Nat.reduceEqDiff, reduceIte], by simp only [Tr.get_set, Nat.reduceEqDiff, reduceIte]⟩
    | true =>
      rw [hrb] at hri
      have hright := rightB_iff.1 hrb
      have hsz := fun (σ : AMem) => sizeOf_call' (k := k) (σ := σ) a hv hright.shape hright.many.2 (by omega)
      cases hf : findL ps a with
      | none =>
        have hs0 : sizeL ps a = 0 := by unfold sizeL; rw [hf]
        rw [hs0] at hsz
        have hres : askH ps ws a = (0, 7) := by unfold askH; rw [hrb, if_pos rfl, hf]
        rw [hres]
        have h0 : ¬ ((0 : Int) > 0) := by omega
        simp only [bodyOf, Try.f56, Option.getD_some, initT, dx, reduceIte, Nat.reduceLT, Nat.reduceLeDiff, Nat.reduceEqDiff, Nat.reduceAdd, Nat.reduceMul, Nat.reduceSub, Nat.reduceBEq, Int.reduceEq, Int.reduceLT, Int.reduceLE, Int.reduceToNat, reduceCtorEq, sx, fx56, hX, hY, hri, hsz, h0]
        exact ⟨_, _, rfl, by simp only [Tr.get_set, Nat.reduceEqDiff, reduceIte], by simp only [Tr.get_set, Nat.reduceEqDiff, reduceIte]⟩
      | some b =>
        have hs0 : sizeL ps a = b.size := by unfold sizeL; rw [hf]
        rw [hs0] at hsz
        have hres : askH ps ws a = (b.size, 0) := by unfold askH; rw [hrb, if_pos rfl, hf]
        rw [hres]
        obtain ⟨_, n, _, hn, hn1, _⟩ := blk_nat hright (findL_some hf).1
        have h0 : b.size > 0 := by omega
        simp only [bodyOf, Try.f56, Option.getD_some, initT, dx, reduceIte, Nat.reduceLT, Nat.reduceLeDiff, Nat.reduceEqDiff, Nat.reduceAdd, Nat.reduceMul, Nat.reduceSub, Nat.reduceBEq, Int.reduceEq, Int.reduceLT, Int.reduceLE, Int.reduceToNat, reduceCtorEq, sx, fx56, hX, hY, hri, hsz, h0]
        exact ⟨_, _, rfl, by simp only [Tr.get_set, Nat.reduceEqDiff, reduceIte], by simp only [Tr.get_set, Nat.reduceEqDiff, reduceIte]⟩
  obtain ⟨T1, σ1, h1, h2, h3⟩ := run
  refine pureCall_of (args' := [.agg [X, Y], .int .i64 a]) (seen := [] ++ ([] ++ [])) ?_ (memo56 _) (pureRun_of fn56 rfl (by simp [Try.f56]) h1 (by simp) (res_two h2 h3) rfl)
  simp only [snapL, snapDepth, hsn, snapF]
end Go.Proofs.Ytjkfdiglokkceaa

/- Heaps: the reference's Free. -/
set_option maxRecDepth 100000
set_option linter.unusedSimpArgs false
set_option linter.unusedVariables false
namespace Go.Proofs.Ytjkfdiglokkceaa
open Go Go.Proofs.Ytjkfdiglokkceaa.Pale
variable {k : Nat} {σ : AMem}

theorem many_run (x : PV) (hn : x.1.used.length ≤ 1000) (hk : 2000 ≤ k) : pureRun (callN lawProg (k + 1)) (.func 57 [] []) [pv x] = some (.int .i64 ((x.1.used.countP id : Nat) : Int), true) := by
  obtain ⟨⟨kd, n, l⟩, vk⟩ := x
  simp only at hn ⊢
  have run : ∃ T1 σ1, execC lawProg (callN lawProg k) k 57 20 (bodyOf Try.f57) (initT 0 [.agg [.int .u8 kd, .int .i64 n, .vs vk (boolV l)]] .nil) AMem.empty = some (.ret, T1, σ1) ∧ T1.get 2 = some (.int .i64 ((l.countP id : Nat) : Int)) := by
    simp only [bodyOf, Try.f57, Option.getD_some, initT, dx, reduceIte, Nat.reduceLT, Nat.reduceLeDiff, Nat.reduceEqDiff, Nat.reduceAdd, Nat.reduceMul, Nat.reduceSub, Nat.reduceBEq, Int.reduceEq, Int.reduceLT, Int.reduceLE, Int.reduceToNat, reduceCtorEq, sx, fx57]
    generalize hL : execC _ _ _ _ _ (Code.loop _) _ _ = q
    obtain ⟨e, T', σ', rfl, _, rfl, h3⟩ : ∃ e T' σ', q = some (e, T', σ') ∧ e ≠ .normal ∧ (e = .exit 0 ∧ T'.get 3 = some (.int .i64 ((l.countP id : Nat) : Int))) := by
      rw [← hL]
      refine exec_loop (fun i T σ => i ≤ l.length ∧ T.get 1 = some (.ptr 0 0) ∧ T.get 3 = some (.int .i64 (((l.take i).countP id : Nat) : Int)) ∧ T.get 4 = some (.int .i64 (i : Nat)) ∧ σ.get 0 = some (.row 3 true [.int .u8 kd, .int .i64 n, .vs vk (boolV l)])) l.length (by omega) ?_ ?_ ?_
      · rintro i hi T σ ⟨_, t1, t3, t4, m0⟩
        have hlt : (i : Int) < l.length := by omega
        have hw := i64_succ (i := i) (by omega)
        have hget := boolV_get hi
        have hc := List.countP_le_length (p := id) (l := l.take i)
        rw [List.length_take] at hc
        have hstep : (l.take (i + 1)).countP id = (l.take i).countP id + if l[i] then 1 else 0 := by
          rw [List.take_succ_eq_append_getElem hi, List.countP_append, List.countP_singleton]
          rfl
        cases hb : l[i] with
        | true =>
          rw [hb] at hget hstep
          have hw2 := i64_succ (i := (l.take i).countP id) (by omega)
          refine ⟨_, _, by
            simp only [dx, reduceIte, Nat.reduceLT, Nat.reduceLeDiff, Nat.reduceEqDiff, Nat.reduceAdd, Nat.reduceMul, Nat.reduceSub, Nat.reduceBEq, Int.reduceEq, Int.reduceLT, Int.reduceLE, Int.reduceToNat, reduceCtorEq, sx, fx57, t1, t3, t4, m0, hlt, boolV_length, Int.natCast_nonneg, Int.toNat_natCast, hget, hw, hw2]
            rfl, by omega, ?_, ?_, ?_, m0⟩
          · simp only [Tr.get_set, Nat.reduceEqDiff, reduceIte, t1]
          · simp only [Tr.get_set, Nat.reduceEqDiff, reduceIte]; rw [hstep]; rfl
          · simp only [Tr.get_set, Nat.reduceEqDiff, reduceIte]
        | false =>
          rw [hb] at hget hstep
          refine ⟨_, _, by
            simp only [dx, reduceIte, Nat.reduceLT, Nat.reduceLeDiff, Nat.reduceEqDiff, Nat.reduceAdd, Nat.reduceMul, Nat.reduceSub, Nat.reduceBEq, Int.reduceEq, Int.reduceLT, Int.reduceLE, Int.reduceToNat, reduceCtorEq, sx, fx57, t1, t3, t4, m0, hlt, boolV_length, Int.natCast_nonneg, Int.toNat_natCast, hget, hw]
            rfl, by omega, ?_, ?_, ?_, m0⟩
          · simp only [Tr.get_set, Nat.reduceEqDiff, reduceIte, t1]
          · simp only [Tr.get_set, Nat.reduceEqDiff, reduceIte, t3]; rw [hstep]; rfl
          · simp only [Tr.get_set, Nat.reduceEqDiff, reduceIte]
      · rintro T σ ⟨_, t1, t3, t4, m0⟩
        have hge : ¬ (((l.length : Nat) : Int) < ((l.length : Nat) : Int)) := by omega
        rw [List.take_length] at t3
        refine ⟨_, _, _, by
          simp only [dx, reduceIte, Nat.reduceLT, Nat.reduceLeDiff, Nat.reduceEqDiff, Nat.reduceAdd, Nat.reduceMul, Nat.reduceSub, Nat.reduceBEq, Int.reduceEq, Int.reduceLT, Int.reduceLE, Int.reduceToNat, reduceCtorEq, sx, fx57, t1, t4, m0, boolV_length, hge]
          rfl, by simp, rfl, ?_⟩
        simp only [Tr.get_set, Nat.reduceEqDiff, reduceIte, t3]
      · refine ⟨Nat.zero_le _, ?_, ?_, ?_, ?_⟩
        · simp only [Tr.get_set, Nat.reduceEqDiff, reduceIte]
        · simp only [Tr.get_set, Nat.reduceEqDiff, reduceIte]; rfl
        · simp only [Tr.get_set, Nat.reduceEqDiff, reduceIte]; rfl
        · simp only [AMem.get_push, next_empty, reduceIte]
    simp only [dx, reduceIte, Nat.reduceLT, Nat.reduceLeDiff, Nat.reduceEqDiff, Nat.reduceAdd, Nat.reduceMul, Nat.reduceSub, Nat.reduceBEq, Int.reduceEq, Int.reduceLT, Int.reduceLE, Int.reduceToNat, reduceCtorEq, sx, fx57, h3]
    exact ⟨_, _, rfl, by simp only [Tr.get_set, Nat.reduceEqDiff, reduceIte]⟩
  obtain ⟨T1, σ1, h1, h2⟩ := run
  exact pureRun_of fn57 rfl (by simp [Try.f57]) h1 (by simp) (res_one h2) rfl
/-- A value that reads as a page, out of memory. -/
theorem many_snap {x : AVal} {S : List Nat} {p : PV} (hx : snapF false σ snapDepth x = some (pv p, S)) (hn : p.1.used.length ≤ 1000) (hk : 2001 ≤ k) : pureCall lawProg (callN lawProg k) (.func 57 [] []) [x] σ = some (.int .i64 ((p.1.used.countP id : Nat) : Int), σ) :=
  by
  obtain ⟨k, rfl⟩ : ∃ m, k = m + 1 := ⟨k - 1, by omega⟩
  exact pureCall_of (args' := [pv p]) (seen := S ++ []) (by simp only [snapL, hx]) (memo57 _) (many_run p hn (by omega))
theorem count_any (l : List Bool) : l.any id = !(((l.countP id : Nat) : Int) == 0) := by
  induction l with
  | nil => rfl
  | cons b l ih =>
    cases b with
    | true =>
      have h1 : (List.countP id (true :: l) : Nat) = l.countP id + 1 := by simp
      rw [h1]
      have : (((l.countP id + 1 : Nat) : Int) == 0) = false := by rw [beq_eq_false_iff_ne]; omega
      rw [this]
      rfl
    | false =>
      have h1 : (List.countP id (false :: l) : Nat) = l.countP id := by simp
      rw [h1, ← ih]
      rfl
def partB (lo j : Nat) : Blk := ⟨0, 0, (lo : Nat), (j : Nat)⟩
theorem clear_ext {ws : List Int} {b c : Blk} (h1 : b.at_ = c.at_) (h2 : b.size = c.size) : clearW ws b = clearW ws c := by
  unfold clearW
  rw [h1, h2]
theorem clear_none (ws : List Int) (lo : Nat) : clearW ws (partB lo 0) = ws := by
  apply clear_same
  intro k h1 h2
  simp only [partB] at h1 h2
  omega
theorem clear_next {ws : List Int} {lo j : Nat} (h : lo + j < ws.length) : (intV (clearW ws (partB lo j))).set (lo + j) (.int .i64 0) = intV (clearW ws (partB lo (j + 1))) := by
  apply List.ext_getElem?
  intro i
  rw [List.getElem?_set, intV_length, clearW_length]
  by_cases hi : i < ws.length
  · have h2 : i < (clearW ws (partB lo (j + 1))).length := by rw [clearW_length]; exact hi
    have h3 : i < (clearW ws (partB lo j)).length := by rw [clearW_length]; exact hi
    rw [intV_get h2, ← wdAt_lt h2, wdAt_clear hi, intV_get h3, ← wdAt_lt h3, wdAt_clear hi]
    by_cases e : lo + j = i
    · rw [if_pos e, if_pos h, if_pos (by simp only [partB]; omega)]
    · rw [if_neg e]
      by_cases e2 : lo ≤ i ∧ i < lo + j
      · rw [if_pos (by simp only [partB]; omega), if_pos (by simp only [partB]; omega)]
      · rw [if_neg (by simp only [partB]; omega), if_neg (by simp only [partB]; omega)]
  · rw [if_neg (by omega), List.getElem?_eq_none (by rw [intV_length, clearW_length]; omega), List.getElem?_eq_none (by rw [intV_length, clearW_length]; omega)]
theorem slot_div {pg s n : Nat} (hn : 1 ≤ n) (h : s * n + n ≤ 64) : (64 * pg + s * n) % 64 / n = s := by
  have h1 : (64 * pg + s * n) % 64 = s * n := by omega
  rw [h1, Nat.mul_div_cancel _ (by omega)]
theorem rows_kept {its its' : List MItem} (h : its'.map MItem.cells = its.map MItem.cells) : rowsOf its' = rowsOf its := by
  have hl : its'.length = its.length := by simpa using congrArg List.length h
  have hxs : its'.map (fun a => a.x) = its.map (fun a => a.x) := by
    apply List.ext_getElem (by simpa using hl)
    intro t h1 h2
    simp only [List.getElem_map]
    have := congrArg (fun l => l[t]?) h
    simp only [List.getElem?_map] at this
    rw [List.getElem?_eq_getElem (by simpa using h1), List.getElem?_eq_getElem (by simpa using h2)] at this
    simp only [Option.map_some, Option.some.injEq] at this
    unfold MItem.cells at this
    have := congrArg List.getLast? this
    simpa using this
  unfold rowsOf
  rw [← List.flatMap_map (fun a : MItem => a.x) rowOf, ← List.flatMap_map (fun a : MItem => a.x) rowOf, hxs]
theorem setRun_one {ps : List Pg} {f j : Nat} {g : Nat → Pg} (h : f + j < ps.length) : (setRun ps f j g).set (f + j) (g j) = setRun ps f (j + 1) g := by
  apply pages_ext
  · rw [List.length_set, setRun_length (by omega), setRun_length (by omega)]
  · intro i hi
    rw [pgAt_set (by rw [setRun_length (by omega)]; exact h), pgAt_setRun (by omega), pgAt_setRun (by omega)]
    by_cases e : i = f + j
    · subst e
      rw [if_pos rfl, if_pos (by omega), show f + j - f = j by omega]
    · rw [if_neg e]
      by_cases e2 : f ≤ i ∧ i < f + j
      · rw [if_pos e2, if_pos (by omega)]
      · rw [if_neg e2, if_neg (by omega)]
set_option maxHeartbeats 4000000 in
theorem RFree_run {v : AVal} {ps : List Pg} {ws : List Int} (a : Int) (hv : VH v ps ws) (hb : Bd ps ws) (hk : 9500 ≤ k) : ∃ v', pureRun (callN lawProg (k + 1)) (.func 31 [] []) [v, .int .i64 a] = some (.tuple [v', .int .i64 (freeH ps ws a).e], true) ∧ VH v' (freeH ps ws a).ps (freeH ps ws a).ws := by
  have hv0 := hv
  have hask := fun (σ : AMem) => ask_call (k := k) (σ := σ) a hv hb (by omega)
  obtain ⟨X0, Y0, rfl, hX0, hY0⟩ := hv.cells
  obtain ⟨σ0, hσ0⟩ : ∃ s, s = (AMem.empty.push (.row 2 true [X0, Y0])).push (.row 2 true [.vs .nil [], .vs .nil []]) := ⟨_, rfl⟩
  have n0 : σ0.next = 2 := by rw [hσ0]; simp [next_empty]
  have g0 : σ0.get 0 = some (.row 2 true [X0, Y0]) := by rw [hσ0]; simp [AMem.get_push, next_empty]
  have g1 : σ0.get 1 = some (.row 2 true [.vs .nil [], .vs .nil []]) := by rw [hσ0]; simp [AMem.get_push, next_empty]
  have fin : ∀ (T1 : Tr AVal) (σ' : AMem) (o0 o1 : AVal) (e : Int) (v' : AVal) (S : List Nat) (qs : List Pg) (us : List Int), execC lawProg (callN lawProg k) k 31 84 (bodyOf Try.f31) (initT 0 [.agg [X0, Y0], .int .i64 a] .nil) AMem.empty = some (.ret, T1, σ') → T1.get 4 = some (.ptr 1 0) → T1.get 5 = some (.int .i64 e) → σ'.get 1 = some (.row 2 true [o0, o1]) → snapF true σ' 11 (.agg [o0, o1]) = some (v', S) → VH v' qs us → ∃ v', pureRun (callN lawProg (k + 1)) (.func 31 [] []) [.agg [X0, Y0], .int .i64 a] = some (.tuple [v', .int .i64 e], true) ∧ VH v' qs us := by
    intro T1 σ' o0 o1 e v' S qs us r1 r2 r3 r5 hS hvh
    refine ⟨v', ?_, hvh⟩
    refine pureRun_of (vs := [.agg [o0, o1], .int .i64 e]) (seen := S ++ ([] ++ [])) fn31 rfl (by simp [Try.f31]) r1 (by simp) ?_ ?_
    · simp only [Try.f31, resultsA, resultA, dx, reduceIte, Nat.reduceLT, Nat.reduceLeDiff, Nat.reduceEqDiff, Nat.reduceAdd, Nat.reduceMul, Nat.reduceSub, Nat.reduceBEq, Int.reduceEq, Int.reduceLT, Int.reduceLE, Int.reduceToNat, reduceCtorEq, sx, fx31, r2, r3, r5]
    · have c2 : snapF true σ' 11 (.int .i64 e) = some (.int .i64 e, []) := rfl
      show snapF true σ' (11 + 1) (.tuple [.agg [o0, o1], .int .i64 e]) = _
      rw [snapF]
      simp only [snapL, hS, c2, Option.map_some]
  have bad : ∀ e : Int, e ≠ 0 → askH ps ws a = (0, e) → freeH ps ws a = ⟨[], [], 0, e⟩ → ∃ v', pureRun (callN lawProg (k + 1)) (.func 31 [] []) [.agg [X0, Y0], .int .i64 a] = some (.tuple [v', .int .i64 (freeH ps ws a).e], true) ∧ VH v' (freeH ps ws a).ps (freeH ps ws a).ws := by
    intro e he h1 h2
    rw [h1] at hask
    rw [h2]
    have hb1 : (e != 0) = true := by rw [bne_iff_ne]; exact he
    have run : ∃ T1, execC lawProg (callN lawProg k) k 31 84 (bodyOf Try.f31) (initT 0 [.agg [X0, Y0], .int .i64 a] .nil) AMem.empty = some (.ret, T1, σ0.put 1 (.row 2 true [.vs .nil [], .vs .nil []])) ∧ T1.get 4 = some (.ptr 1 0) ∧ T1.get 5 = some (.int .i64 e) := by
      simp only [bodyOf, Try.f31, Option.getD_some, initT, dx, reduceIte, Nat.reduceLT, Nat.reduceLeDiff, Nat.reduceEqDiff, Nat.reduceAdd, Nat.reduceMul, Nat.reduceSub, Nat.reduceBEq, Int.reduceEq, Int.reduceLT, Int.reduceLE, Int.reduceToNat, reduceCtorEq, sx, fx31, hX0, hY0, ← hσ0]
      simp only [dx, reduceIte, Nat.reduceLT, Nat.reduceLeDiff, Nat.reduceEqDiff, Nat.reduceAdd, Nat.reduceMul, Nat.reduceSub, Nat.reduceBEq, Int.reduceEq, Int.reduceLT, Int.reduceLE, Int.reduceToNat, reduceCtorEq, sx, fx31, g0, g1, hask, hb1]
      exact ⟨_, rfl, by simp only [Tr.get_set, Nat.reduceEqDiff, reduceIte], by simp only [Tr.get_set, Nat.reduceEqDiff, reduceIte]⟩
    obtain ⟨T1, r1, r2, r3⟩ := run
    exact fin T1 _ _ _ e _ _ [] [] r1 r2 r3 (by rw [AMem.get_put, if_pos rfl]) (snap_hp0 _ 9) nil_vh
  cases hrb : rightB ps ws with
  | false => exact bad 4 (by omega) (by unfold askH; rw [hrb]; rfl) (by unfold freeH; rw [hrb]; rfl)
  | true =>
    have hright := rightB_iff.1 hrb
    cases hf : findL ps a with
    | none => exact bad 7 (by omega) (by unfold askH; rw [hrb, if_pos rfl, hf]) (by unfold freeH; rw [hrb, if_pos rfl, hf])
    | some b =>
      have hmany := hright.many
      have hwl := hright.len
      obtain ⟨hbm, hba⟩ := findL_some hf
      obtain ⟨lo, n, hlo, hn, hn1, hln, hpg⟩ := blk_nat hright hbm
      have hab : a = (lo : Nat) := by rw [← hba, hlo]
      have hak : askH ps ws a = (((n : Nat) : Int), 0) := by unfold askH; rw [hrb, if_pos rfl, hf]; simp only [hn]
      rw [hak] at hask
      have hres : freeH ps ws a = ⟨freeL ps b, clearW ws b, 0, 0⟩ := by unfold freeH; rw [hrb, if_pos rfl, hf]
      rw [hres]
      clear bad
      subst hab
      obtain ⟨σ2, X, W, its, hcp, ex2, hC⟩ := copy_exec (k := k - 1) (σ := σ0) hv0 hb (by omega)
      rw [show k - 1 + 1 = k by omega] at hcp
      rw [n0] at hC
      obtain ⟨pr, wr, rfl, rfl, hM0⟩ := hC.heap (by omega) (by omega)
      have hil := pg_len hM0.pi
      obtain ⟨sp, hsp⟩ : ∃ s, s = σ2.next := ⟨_, rfl⟩
      have hx2 := ex2.1
      obtain ⟨σ3, hσ3⟩ : ∃ s, s = (σ2.push (.row 2 true [.vs .nil [], .vs .nil []])).put sp (.row 2 true [.slice pr 0 its.length none 3, .slice wr 0 ws.length none 1]) := ⟨_, rfl⟩
      have n3 : σ3.next = sp + 1 := by rw [hσ3, hsp]; simp
      have hM : HeapM 2 σ3 sp pr none wr none its ps ws := by
        rw [hσ3, hsp]
        refine hM0.agree (fun r _ => ?_) (by simp)
        rw [AMem.get_put, AMem.get_push]
        by_cases e : σ2.next = r
        · rw [if_pos e, AMem.get_push, if_pos e]
        · rw [if_neg e, if_neg e, AMem.get_push, if_neg e]
      have ms3 : σ3.get sp = some (.row 2 true [.slice pr 0 its.length none 3, .slice wr 0 ws.length none 1]) := hM.own.ms
      obtain ⟨l1, l2, l3⟩ := hM.own.lo
      have low3 : ∀ r, r < 2 → σ3.get r = σ0.get r := fun r hr => by rw [hσ3, AMem.get_put, if_neg (by omega), AMem.get_push, if_neg (by omega), ex2.2 r (by omega)]
      obtain ⟨b1, hbp, b3, b4, b5, b6⟩ := blk_page hright.shape hbm
      have hdiv : lo / 64 = b.page := by rw [hlo] at b3 b4; omega
      have w1 : IntKind.i64.wrap (((lo : Nat) : Int) + ((n : Nat) : Int)) = ((lo + n : Nat) : Int) := by rw [i64_id (by omega) (by omega)]; omega
      have w2 : IntKind.i64.wrap (((lo : Nat) : Int).tdiv 64) = ((b.page : Nat) : Int) := by
        have : ((lo : Nat) : Int).tdiv 64 = ((lo / 64 : Nat) : Int) := rfl
        rw [this, hdiv]
        exact i64_id (by omega) (by omega)
      have h64 : ¬ (64 : Int) = 0 := by omega
      -- the words
      have hclr : clearW ws (partB lo n) = clearW ws b := clear_ext (by rw [hlo]; rfl) (by rw [hn]; rfl)
      have run : ∃ T1 σ' its' o0 o1, execC lawProg (callN lawProg k) k 31 84 (bodyOf Try.f31) (initT 0 [.agg [X0, Y0], .int .i64 (lo : Nat)] .nil) AMem.empty = some (.ret, T1, σ') ∧ T1.get 4 = some (.ptr 1 0) ∧ T1.get 5 = some (.int .i64 0) ∧ σ'.get 1 = some (.row 2 true [o0, o1]) ∧ o0 = .slice pr 0 its'.length none 3 ∧ o1 = .slice wr 0 (clearW ws b).length none 1 ∧ HeapM 2 σ' sp pr none wr none its' (freeL ps b) (clearW ws b) := by
        simp only [bodyOf, Try.f31, Option.getD_some, initT, dx, reduceIte, Nat.reduceLT, Nat.reduceLeDiff, Nat.reduceEqDiff, Nat.reduceAdd, Nat.reduceMul, Nat.reduceSub, Nat.reduceBEq, Int.reduceEq, Int.reduceLT, Int.reduceLE, Int.reduceToNat, reduceCtorEq, sx, fx31, hX0, hY0, ← hσ0]
        simp only [dx, reduceIte, Nat.reduceLT, Nat.reduceLeDiff, Nat.reduceEqDiff, Nat.reduceAdd, Nat.reduceMul, Nat.reduceSub, Nat.reduceBEq, Int.reduceEq, Int.reduceLT, Int.reduceLE, Int.reduceToNat, reduceCtorEq, sx, fx31, g0, hask, hcp, show ((0 : Int) != 0) = false from rfl, ← hsp, ← hσ3]
        generalize hL : execC _ _ _ _ _ (Code.loop _) _ _ = q
        obtain ⟨e, T', σ4, rfl, _, rfl, t1, t4, t6, t8, n4, low4, hM4⟩ : ∃ e T' σ', q = some (e, T', σ') ∧ e ≠ .normal ∧ e = .exit 0 ∧ T'.get 1 = some (.int .i64 (lo : Nat)) ∧ T'.get 4 = some (.ptr 1 0) ∧ T'.get 6 = some (.int .i64 (n : Nat)) ∧ T'.get 8 = some (.ptr sp 0) ∧ σ'.next = sp + 1 ∧ (∀ r, r < 2 → σ'.get r = σ0.get r) ∧ HeapM 2 σ' sp pr none wr none its ps (clearW ws (partB lo n)) := by
          rw [← hL]
          refine exec_loop (fun j T σ' => j ≤ n ∧ T.get 1 = some (.int .i64 (lo : Nat)) ∧ T.get 4 = some (.ptr 1 0) ∧ T.get 6 = some (.int .i64 (n : Nat)) ∧ T.get 8 = some (.ptr sp 0) ∧ T.get 9 = some (.int .i64 ((lo + j : Nat) : Int)) ∧ σ'.next = sp + 1 ∧ (∀ r, r < 2 → σ'.get r = σ0.get r) ∧ HeapM 2 σ' sp pr none wr none its ps (clearW ws (partB lo j))) n (by omega) ?_ ?_ ?_
          · rintro j hj T σ' ⟨_, t1, t4, t6, t8, t9, nx, lw, hMj⟩
            have hlt : ((lo + j : Nat) : Int) < ((lo + n : Nat) : Int) := by omega
            have hlt2 : ((lo + j : Nat) : Int) < (((clearW ws (partB lo j)).length : Nat) : Int) := by rw [clearW_length]; omega
            have hw' := i64_succ (i := lo + j) (by omega)
            have msj := hMj.own.ms
            have mwj := hMj.own.mw
            have hin : lo + j + 1 ≤ (clearW ws (partB lo j)).length := by rw [clearW_length]; omega
            have hnx := clear_next (ws := ws) (lo := lo) (j := j) (by omega)
            have hM' := hMj.wordsTo (vs := clearW ws (partB lo (j + 1))) (by rw [clearW_length, clearW_length])
            refine ⟨_, _, by
              simp only [dx, reduceIte, Nat.reduceLT, Nat.reduceLeDiff, Nat.reduceEqDiff, Nat.reduceAdd, Nat.reduceMul, Nat.reduceSub, Nat.reduceBEq, Int.reduceEq, Int.reduceLT, Int.reduceLE, Int.reduceToNat, reduceCtorEq, sx, fx31, t1, t6, t8, t9, w1, hlt, msj, mwj, hlt2, intV_length, hin, hnx, Int.natCast_nonneg, Int.toNat_natCast, hw']
              rfl, by omega, ?_, ?_, ?_, ?_, ?_, ?_, fun r hr => ?_, hM'⟩
            · simp only [Tr.get_set, Nat.reduceEqDiff, reduceIte, t1]
            · simp only [Tr.get_set, Nat.reduceEqDiff, reduceIte, t4]
            · simp only [Tr.get_set, Nat.reduceEqDiff, reduceIte, t6]
            · simp only [Tr.get_set, Nat.reduceEqDiff, reduceIte, t8]
            · simp only [Tr.get_set, Nat.reduceEqDiff, reduceIte]
              rfl
            · simpa using nx
            · rw [AMem.get_put, if_neg (by omega)]; exact lw r hr
          · rintro T σ' ⟨_, t1, t4, t6, t8, t9, nx, lw, hMj⟩
            have hge : ¬ (((lo + n : Nat) : Int) < ((lo + n : Nat) : Int)) := by omega
            refine ⟨_, _, _, by
              simp only [dx, reduceIte, Nat.reduceLT, Nat.reduceLeDiff, Nat.reduceEqDiff, Nat.reduceAdd, Nat.reduceMul, Nat.reduceSub, Nat.reduceBEq, Int.reduceEq, Int.reduceLT, Int.reduceLE, Int.reduceToNat, reduceCtorEq, sx, fx31, t1, t6, t9, w1, hge]
              rfl, by simp, rfl, ?_, ?_, ?_, ?_, nx, lw, hMj⟩
            · simp only [Tr.get_set, Nat.reduceEqDiff, reduceIte, t1]
            · simp only [Tr.get_set, Nat.reduceEqDiff, reduceIte, t4]
            · simp only [Tr.get_set, Nat.reduceEqDiff, reduceIte, t6]
            · simp only [Tr.get_set, Nat.reduceEqDiff, reduceIte, t8]
          · refine ⟨Nat.zero_le _, ?_, ?_, ?_, ?_, ?_, n3, low3, by rw [clear_none]; exact hM⟩
            all_goals simp only [Tr.get_set, Nat.reduceEqDiff, reduceIte] <;> rfl
        rw [hclr] at hM4
        have ms4 := hM4.own.ms
        have mp4 := hM4.own.mp
        have hlen := items_len (pg_two hM4.pi)
        have hpi : b.page < its.length := by omega
        have hlt : ((b.page : Nat) : Int) < ((its.length : Nat) : Int) := by omega
        have hg0 := pg_get (j := 0) hM4.pi hpi (by omega)
        simp only [List.getElem?_cons_zero, Nat.add_zero] at hg0
        have g14 : σ4.get 1 = some (.row 2 true [.vs .nil [], .vs .nil []]) := by rw [low4 1 (by omega)]; exact g1
        have hsp2 : 2 ≤ sp := l1
        by_cases k2 : (pgAt ps b.page).kind = 2
        · have hb1 : ((pgAt ps b.page).kind == 2) = true := by rw [k2]; rfl
          have hhead : b = headB b.page (pgAt ps b.page) := by
            rcases mem_pgB.1 hbp with ⟨_, e⟩ | ⟨e, _⟩
            · exact e
            · omega
          obtain ⟨hd1, hd2, _⟩ := head_more hright.shape hpg k2
          obtain ⟨m, hm⟩ : ∃ m : Nat, (pgAt ps b.page).n = (m : Nat) := ⟨(pgAt ps b.page).n.toNat, by omega⟩
          have hnm : n = 64 * m := by
            have : b.size = 64 * (pgAt ps b.page).n := by rw [hhead]; rfl
            rw [hm, hn] at this
            omega
          have w3 : IntKind.i64.wrap (((n : Nat) : Int).tdiv 64) = ((m : Nat) : Int) := by
            have : ((n : Nat) : Int).tdiv 64 = ((n / 64 : Nat) : Int) := rfl
            rw [this, show n / 64 = m by omega]
            exact i64_id (by omega) (by omega)
          have w4 : IntKind.i64.wrap (((b.page : Nat) : Int) + ((m : Nat) : Int)) = ((b.page + m : Nat) : Int) := by rw [i64_id (by omega) (by omega)]; omega
          simp only [dx, reduceIte, Nat.reduceLT, Nat.reduceLeDiff, Nat.reduceEqDiff, Nat.reduceAdd, Nat.reduceMul, Nat.reduceSub, Nat.reduceBEq, Int.reduceEq, Int.reduceLT, Int.reduceLE, Int.reduceToNat, reduceCtorEq, sx, fx31, t1, t8, w2, h64, ms4, mp4, hlt, hg0, hb1, Int.natCast_nonneg, Int.toNat_natCast]
          generalize hL2 : execC _ _ _ _ _ (Code.loop _) _ _ = q2
          obtain ⟨e, T5, σ5, rfl, _, rfl, u4, u8, its5, hl5, n5, low5, hM5⟩ : ∃ e T' σ', q2 = some (e, T', σ') ∧ e ≠ .normal ∧ e = .exit 2 ∧ T'.get 4 = some (.ptr 1 0) ∧ T'.get 8 = some (.ptr sp 0) ∧ ∃ its', its'.length = its.length ∧ σ'.next = sp + 1 ∧ (∀ r, r < 2 → σ'.get r = σ0.get r) ∧ HeapM 2 σ' sp pr none wr none its' (setRun ps b.page m fun _ => noPg) (clearW ws b) := by
            rw [← hL2]
            refine exec_loop (fun j T σ' => j ≤ m ∧ T.get 4 = some (.ptr 1 0) ∧ T.get 6 = some (.int .i64 (n : Nat)) ∧ T.get 8 = some (.ptr sp 0) ∧ T.get 10 = some (.int .i64 (b.page : Nat)) ∧ T.get 11 = some (.int .i64 ((b.page + j : Nat) : Int)) ∧ ∃ its', its'.length = its.length ∧ σ'.next = sp + 1 ∧ (∀ r, r < 2 → σ'.get r = σ0.get r) ∧ HeapM 2 σ' sp pr none wr none its' (setRun ps b.page j fun _ => noPg) (clearW ws b)) m (by omega) ?_ ?_ ?_
            · rintro j hj T σ' ⟨_, u4, u6, u8, u10, u11, itsj, hlj, nx, lw, hMj⟩
              have hltj : ((b.page + j : Nat) : Int) < ((b.page + m : Nat) : Int) := by omega
              have hlt2 : ((b.page + j : Nat) : Int) < ((itsj.length : Nat) : Int) := by omega
              have hw' := i64_succ (i := b.page + j) (by omega)
              have msj := hMj.own.ms
              have mpj := hMj.own.mp
              have hlenj := items_len (pg_two hMj.pi)
              have hin : (b.page + j) * 3 + 3 ≤ itsj.length * 3 := by omega
              have hrec := hMj.record (i := b.page + j) (by rw [setRun_length (by omega)]; omega) (Ext.refl _) (by omega) noPg (.vs .nil []) (.inl ⟨rfl, rfl⟩)
              rw [setRun_one (ps := ps) (f := b.page) (j := j) (g := fun _ => noPg) (by omega)] at hrec
              refine ⟨_, _, by
                simp only [dx, reduceIte, Nat.reduceLT, Nat.reduceLeDiff, Nat.reduceEqDiff, Nat.reduceAdd, Nat.reduceMul, Nat.reduceSub, Nat.reduceBEq, Int.reduceEq, Int.reduceLT, Int.reduceLE, Int.reduceToNat, reduceCtorEq, sx, fx31, u4, u6, u8, u10, u11, w3, w4, h64, hltj, msj, mpj, hlt2, hlenj, hin, Int.natCast_nonneg, Int.toNat_natCast, hw']
                rfl, by omega, ?_, ?_, ?_, ?_, ?_, _, ?_, ?_, fun r hr => ?_, hrec⟩
              · simp only [Tr.get_set, Nat.reduceEqDiff, reduceIte, u4]
              · simp only [Tr.get_set, Nat.reduceEqDiff, reduceIte, u6]
              · simp only [Tr.get_set, Nat.reduceEqDiff, reduceIte, u8]
              · simp only [Tr.get_set, Nat.reduceEqDiff, reduceIte, u10]
              · simp only [Tr.get_set, Nat.reduceEqDiff, reduceIte]
                rfl
              · rw [List.length_set]; exact hlj
              · simpa using nx
              · rw [AMem.get_put, if_neg (by omega)]; exact lw r hr
            · rintro T σ' ⟨_, u4, u6, u8, u10, u11, itsj, hlj, nx, lw, hMj⟩
              have hge : ¬ (((b.page + m : Nat) : Int) < ((b.page + m : Nat) : Int)) := by omega
              refine ⟨_, _, _, by
                simp only [dx, reduceIte, Nat.reduceLT, Nat.reduceLeDiff, Nat.reduceEqDiff, Nat.reduceAdd, Nat.reduceMul, Nat.reduceSub, Nat.reduceBEq, Int.reduceEq, Int.reduceLT, Int.reduceLE, Int.reduceToNat, reduceCtorEq, sx, fx31, u6, u10, u11, w3, w4, h64, hge]
                rfl, by simp, rfl, ?_, ?_, itsj, hlj, nx, lw, hMj⟩
              · simp only [Tr.get_set, Nat.reduceEqDiff, reduceIte, u4]
              · simp only [Tr.get_set, Nat.reduceEqDiff, reduceIte, u8]
            · refine ⟨Nat.zero_le _, ?_, ?_, ?_, ?_, ?_, its, rfl, n4, low4, ?_⟩
              · simp only [Tr.get_set, Nat.reduceEqDiff, reduceIte, t4]
              · simp only [Tr.get_set, Nat.reduceEqDiff, reduceIte, t6]
              · simp only [Tr.get_set, Nat.reduceEqDiff, reduceIte, t8]
              · simp only [Tr.get_set, Nat.reduceEqDiff, reduceIte]
              · simp only [Tr.get_set, Nat.reduceEqDiff, reduceIte] <;> rfl
              · have : setRun ps b.page 0 (fun _ => noPg) = ps := by unfold setRun; simp
                rw [this]
                exact hM4
          have ms5 := hM5.own.ms
          have g15 : σ5.get 1 = some (.row 2 true [.vs .nil [], .vs .nil []]) := by rw [low5 1 (by omega)]; exact g1
          simp only [dx, reduceIte, Nat.reduceLT, Nat.reduceLeDiff, Nat.reduceEqDiff, Nat.reduceAdd, Nat.reduceMul, Nat.reduceSub, Nat.reduceBEq, Int.reduceEq, Int.reduceLT, Int.reduceLE, Int.reduceToNat, reduceCtorEq, sx, fx31, u4, u8, ms5, g15]
          refine ⟨_, _, its5, _, _, rfl, by simp only [Tr.get_set, Nat.reduceEqDiff, reduceIte, u4], by simp only [Tr.get_set, Nat.reduceEqDiff, reduceIte], by rw [AMem.get_put, if_pos rfl], rfl, rfl, ?_⟩
          unfold freeL
          rw [if_pos k2, hm, Int.toNat_natCast]
          exact hM5.agree (fun r hr => by rw [AMem.get_put, if_neg (by omega)]) (by simp)
        · have hb1 : ((pgAt ps b.page).kind == 2) = false := by rw [beq_eq_false_iff_ne]; exact k2
          rcases mem_pgB.1 hbp with ⟨e, _⟩ | ⟨k1, s, hs, hu, hbs⟩
          · exact absurd e k2
          have hslot : b.slot = s := by rw [hbs]; rfl
          obtain ⟨sb1, sb2, sb3⟩ := slot_bound (hright.shape b.page hpg) k1 hs
          have hnp : (pgAt ps b.page).n = (n : Nat) := by
            have : b.size = (pgAt ps b.page).n := by rw [hbs]; rfl
            rw [← this, hn]
          rw [hnp] at sb1 sb2 sb3
          have hsn : s * n + n ≤ 64 := by
            have : ((s * n : Nat) : Int) = (s : Int) * (n : Int) := by simp
            omega
          have hlos : lo = 64 * b.page + s * n := by
            have : b.at_ = 64 * (b.page : Int) + (s : Int) * (pgAt ps b.page).n := by rw [hbs]; rfl
            rw [hlo, hnp] at this
            have h2 : ((s * n : Nat) : Int) = (s : Int) * (n : Int) := by simp
            omega
          have w5 : ((lo : Nat) : Int).tmod 64 = ((lo % 64 : Nat) : Int) := rfl
          have w6 : IntKind.i64.wrap (((lo % 64 : Nat) : Int).tdiv ((n : Nat) : Int)) = ((s : Nat) : Int) := by
            have h1 : ((lo % 64 : Nat) : Int).tdiv ((n : Nat) : Int) = ((lo % 64 / n : Nat) : Int) := rfl
            have h2 : lo % 64 / n = s := by rw [hlos]; exact slot_div hn1 hsn
            have h3 : s ≤ 64 := by
              have : s * 1 ≤ s * n := Nat.mul_le_mul_left _ hn1
              omega
            rw [h1, h2]
            exact i64_id (by omega) (by omega)
          have hnz : ¬ ((n : Nat) : Int) = 0 := by omega
          have hu0 : (pgAt ps b.page).used ≠ [] := fun e => by rw [e] at hs; simp at hs
          obtain ⟨r, cap, r1, r2, r3, r4⟩ := own_used hM4.own hM4.pi hM4.ox hpi hu0
          have hg2 := pg_get (j := 2) hM4.pi hpi (by omega)
          simp only [List.getElem?_cons_succ, List.getElem?_cons_zero, r1] at hg2
          obtain ⟨us, hus⟩ : ∃ u, u = (pgAt ps b.page).used.set s false := ⟨_, rfl⟩
          obtain ⟨σ5, hσ5⟩ : ∃ m, m = σ4.put r (.row 1 false ((boolV (pgAt ps b.page).used).set s (.bool false))) := ⟨_, rfl⟩
          have hM5 := hM4.slot (j := s) hpi r1 false
          rw [← hσ5] at hM5
          obtain ⟨its5, hM5, hcells⟩ := hM5
          have hl5 : its5.length = its.length := by simpa using congrArg List.length hcells
          have qrs : ¬ r = sp := fun e => hM4.own.ns (by rw [← e]; exact mem_rowsOf (List.getElem_mem hpi) (by rw [r1]; simp [rowOf]))
          have qrp : ¬ r = pr := fun e => hM4.own.it.2.2 (by rw [← e]; exact mem_rowsOf (List.getElem_mem hpi) (by rw [r1]; simp [rowOf]))
          have ms5 : σ5.get sp = some (.row 2 true [.slice pr 0 its.length none 3, .slice wr 0 (clearW ws b).length none 1]) := by rw [hσ5, AMem.get_put, if_neg qrs]; exact ms4
          have mp5 : σ5.get pr = some (.row 3 true (its.map MItem.cells).flatten) := by rw [hσ5, AMem.get_put, if_neg qrp]; exact mp4
          have gr5 : σ5.get r = some (.row 1 false (boolV us)) := by rw [hσ5, AMem.get_put, if_pos rfl, hus, boolV_set]
          have hul : us.length = (pgAt ps b.page).used.length := by rw [hus, List.length_set]
          have hsc := small_cases (hright.shape b.page hpg) k1
          have hlts : ((s : Nat) : Int) < (((pgAt ps b.page).used.length : Nat) : Int) := by omega
          have hin : s + 1 ≤ (pgAt ps b.page).used.length := by omega
          have hrl : 2 ≤ r := r2
          have n5 : σ5.next = sp + 1 := by rw [hσ5]; simpa using n4
          have g15 : σ5.get 1 = some (.row 2 true [.vs .nil [], .vs .nil []]) := by rw [hσ5, AMem.get_put, if_neg (by omega)]; exact g14
          have hload := pg_load hM4.pi hpi
          rw [r1] at hload
          have hin3 : b.page * 3 + 3 ≤ its.length * 3 := by omega
          have hsnap : snapF false σ5 snapDepth (.agg [.int .u8 (pgAt ps b.page).kind, .int .i64 (pgAt ps b.page).n, .slice r 0 (pgAt ps b.page).used.length cap 1]) = some (pv (⟨(pgAt ps b.page).kind, (pgAt ps b.page).n, us⟩, .some), [] ++ ([] ++ ([r] ++ []))) := by
            have h1 := snap_bools (fr := false) (d := 9) (cap := cap) hul.symm gr5
            have c1 : snapF false σ5 11 (.int .u8 (pgAt ps b.page).kind) = some (.int .u8 (pgAt ps b.page).kind, []) := rfl
            have c2 : snapF false σ5 11 (.int .i64 (pgAt ps b.page).n) = some (.int .i64 (pgAt ps b.page).n, []) := rfl
            show snapF false σ5 (11 + 1) _ = _
            rw [snapF]
            simp only [snapL, h1, c1, c2, Option.map_some]
            rfl
          have hmy := many_snap (k := k) hsnap (by simp only; omega) (by omega)
          simp only at hmy
          have hca := count_any us
          have husA : useAt (pgAt ps b.page) s false = { pgAt ps b.page with used := us } := by unfold useAt; rw [hus]
          have hg0' := hg0
          cases hany : us.any id with
          | true =>
            rw [hany] at hca
            have hc0 : (((us.countP id : Nat) : Int) == 0) = false := by
              cases h : (((us.countP id : Nat) : Int) == 0) with
              | false => rfl
              | true => rw [h] at hca; cases hca
            have hfree : freeL ps b = ps.set b.page (useAt (pgAt ps b.page) s false) := by
              unfold freeL
              rw [if_neg k2, hslot, husA, hany, if_pos rfl]
            simp only [dx, reduceIte, Nat.reduceLT, Nat.reduceLeDiff, Nat.reduceEqDiff, Nat.reduceAdd, Nat.reduceMul, Nat.reduceSub, Nat.reduceBEq, Int.reduceEq, Int.reduceLT, Int.reduceLE, Int.reduceToNat, reduceCtorEq, sx, fx31, t1, t6, t8, w2, w5, w6, h64, hnz, ms4, mp4, hlt, hg0, hg2, hb1, r4, hlts, hin, boolV_length, Int.natCast_nonneg, Int.toNat_natCast, ← hσ5]
            simp only [dx, reduceIte, Nat.reduceLT, Nat.reduceLeDiff, Nat.reduceEqDiff, Nat.reduceAdd, Nat.reduceMul, Nat.reduceSub, Nat.reduceBEq, Int.reduceEq, Int.reduceLT, Int.reduceLE, Int.reduceToNat, reduceCtorEq, sx, fx31, t4, t8, ms5, mp5, hlt, hload, hlen, hin3, hmy, hc0, g15, Int.natCast_nonneg, Int.toNat_natCast]
            refine ⟨_, _, its5, _, _, rfl, by simp only [Tr.get_set, Nat.reduceEqDiff, reduceIte, t4], by simp only [Tr.get_set, Nat.reduceEqDiff, reduceIte], by rw [AMem.get_put, if_pos rfl], by rw [hl5], rfl, ?_⟩
            rw [hfree]
            exact hM5.agree (fun r hr => by rw [AMem.get_put, if_neg (by omega)]) (by simp)
          | false =>
            rw [hany] at hca
            have hc0 : (((us.countP id : Nat) : Int) == 0) = true := by
              cases h : (((us.countP id : Nat) : Int) == 0) with
              | true => rfl
              | false => rw [h] at hca; cases hca
            have hfree : freeL ps b = ps.set b.page noPg := by
              unfold freeL
              rw [if_neg k2, hslot, husA, hany, if_neg (by simp)]
            have hM6 := hM5.record (σ1 := σ5) (i := b.page) (by rw [List.length_set]; omega) (Ext.refl _) (by omega) noPg (.vs .nil []) (.inl ⟨rfl, rfl⟩)
            rw [hcells, List.set_set] at hM6
            obtain ⟨σ6, hσ6⟩ : ∃ m, m = σ5.put pr (.row 3 true (((((its.map MItem.cells).flatten).set (b.page * 3) (.int .u8 0)).set (b.page * 3 + 1) (.int .i64 0)).set (b.page * 3 + 1 + 1) (.vs .nil []))) := ⟨_, rfl⟩
            have ms6 : σ6.get sp = some (.row 2 true [.slice pr 0 its.length none 3, .slice wr 0 (clearW ws b).length none 1]) := by rw [hσ6, AMem.get_put, if_neg (fun e => hM4.own.ne.1 e.symm)]; exact ms5
            have g16 : σ6.get 1 = some (.row 2 true [.vs .nil [], .vs .nil []]) := by rw [hσ6, AMem.get_put, if_neg (by omega)]; exact g15
            have hM6' : HeapM 2 σ6 sp pr none wr none (its5.set b.page ⟨[.int .u8 noPg.kind, .int .i64 noPg.n], .vs .nil [], boolV noPg.used⟩) (ps.set b.page noPg) (clearW ws b) := by rw [hσ6]; exact hM6
            simp only [dx, reduceIte, Nat.reduceLT, Nat.reduceLeDiff, Nat.reduceEqDiff, Nat.reduceAdd, Nat.reduceMul, Nat.reduceSub, Nat.reduceBEq, Int.reduceEq, Int.reduceLT, Int.reduceLE, Int.reduceToNat, reduceCtorEq, sx, fx31, t1, t6, t8, w2, w5, w6, h64, hnz, ms4, mp4, hlt, hg0, hg2, hb1, r4, hlts, hin, boolV_length, Int.natCast_nonneg, Int.toNat_natCast, ← hσ5]
            simp only [dx, reduceIte, Nat.reduceLT, Nat.reduceLeDiff, Nat.reduceEqDiff, Nat.reduceAdd, Nat.reduceMul, Nat.reduceSub, Nat.reduceBEq, Int.reduceEq, Int.reduceLT, Int.reduceLE, Int.reduceToNat, reduceCtorEq, sx, fx31, t4, t8, ms5, mp5, hlt, hload, hlen, hin3, hmy, hc0, Int.natCast_nonneg, Int.toNat_natCast, ← hσ6]
            simp only [dx, reduceIte, Nat.reduceLT, Nat.reduceLeDiff, Nat.reduceEqDiff, Nat.reduceAdd, Nat.reduceMul, Nat.reduceSub, Nat.reduceBEq, Int.reduceEq, Int.reduceLT, Int.reduceLE, Int.reduceToNat, reduceCtorEq, sx, fx31, t4, t8, ms6, g16]
            refine ⟨_, _, its5.set b.page ⟨[.int .u8 noPg.kind, .int .i64 noPg.n], .vs .nil [], boolV noPg.used⟩, _, _, rfl, by simp only [Tr.get_set, Nat.reduceEqDiff, reduceIte, t4], by simp only [Tr.get_set, Nat.reduceEqDiff, reduceIte], by rw [AMem.get_put, if_pos rfl], by rw [List.length_set, hl5], rfl, ?_⟩
            rw [hfree]
            exact hM6'.agree (fun r hr => by rw [AMem.get_put, if_neg (by omega)]) (by simp)
      obtain ⟨T1, σ', its', o0, o1, r1, r2, r3, r5, rfl, rfl, hM'⟩ := run
      obtain ⟨v', S, hS, hvh⟩ := hM'.vh (fr := true) 7
      exact fin T1 _ _ _ 0 v' S _ _ r1 r2 r3 r5 hS hvh
theorem RFree_call {v : AVal} {ps : List Pg} {ws : List Int} (a : Int) (hv : VH v ps ws) (hb : Bd ps ws) (hk : 9501 ≤ k) : ∃ v', (∀ σ, pureCall lawProg (callN lawProg k) (.func 31 [] []) [v, .int .i64 a] σ = some (.tuple [v', .int .i64 (freeH ps ws a).e], σ)) ∧ VH v' (freeH ps ws a).ps (freeH ps ws a).ws := by
  obtain ⟨k, rfl⟩ : ∃ m, k = m + 1 := ⟨k - 1, by omega⟩
  obtain ⟨v', h1, h2⟩ := RFree_run a hv hb (k := k) (by omega)
  refine ⟨v', fun σ => pureCall_of (seen := [] ++ ([] ++ [])) ?_ (memo31 _) h1, h2⟩
  have := hv.snap σ 10
  simp only [snapL, snapDepth, this, snapF]
end Go.Proofs.Ytjkfdiglokkceaa

/- HeapAllocs: the run. -/
set_option maxRecDepth 100000
set_option linter.unusedSimpArgs false
set_option linter.unusedVariables false
namespace Go.Proofs.Ytjkfdiglokkceaa
open Go Go.Proofs.Ytjkfdiglokkceaa.Pale
variable {k : Nat} {σ : AMem}

theorem alloc_bd {ps : List Pg} {ws : List Int} {n : Int} : Bd (allocH ps ws n).ps (allocH ps ws n).ws := by
  unfold allocH
  cases hrb : rightB ps ws with
  | false => exact nil_bd
  | true =>
    rw [if_pos rfl]
    split
    · rename_i hn
      cases hal : allocL ps n with
      | none => exact nil_bd
      | some x =>
        obtain ⟨qs, b⟩ := x
        exact right_bd (alloc_keeps (rightB_iff.1 hrb) hn.1 hal)
    · exact nil_bd
theorem free_bd {ps : List Pg} {ws : List Int} {a : Int} : Bd (freeH ps ws a).ps (freeH ps ws a).ws := by
  unfold freeH
  cases hrb : rightB ps ws with
  | false => exact nil_bd
  | true =>
    rw [if_pos rfl]
    cases hf : findL ps a with
    | none => exact nil_bd
    | some b => exact right_bd (free_right (rightB_iff.1 hrb) (findL_some hf).1)
set_option maxHeartbeats 1000000 in
theorem allocs_run {v : AVal} {ps : List Pg} {ws : List Int} (n a : Int) (hv : VH v ps ws) (hk : 12000 ≤ k) : ∃ σ', callN lawProg (k + 1) (.func 5 [] []) [v, .int .i64 n, .int .i64 a] AMem.empty = some (.bool true, σ') := by
  obtain ⟨X0, Y0, rfl, hX0, hY0⟩ := hv.cells
  obtain ⟨tb, hthin, hbd⟩ := thin_vh (k := k) hv (by omega)
  have haw := fun (σ : AMem) => awake_call (σ := σ) (callN lawProg k)
  have run : ∃ T1 σ', execC lawProg (callN lawProg k) k 5 75 (bodyOf Try.f5) (initT 0 [.agg [X0, Y0], .int .i64 n, .int .i64 a] .nil) AMem.empty = some (.ret, T1, σ') ∧ T1.get 6 = some (.bool true) := by
    cases tb with
    | false =>
      simp only [bodyOf, Try.f5, Option.getD_some, initT, dx, reduceIte, Nat.reduceLT, Nat.reduceLeDiff, Nat.reduceEqDiff, Nat.reduceAdd, Nat.reduceMul, Nat.reduceSub, Nat.reduceBEq, Int.reduceEq, Int.reduceLT, Int.reduceLE, Int.reduceToNat, reduceCtorEq, sx, fx5, hX0, hY0, hthin, haw]
      exact ⟨_, _, rfl, by simp only [Tr.get_set, Nat.reduceEqDiff, reduceIte]⟩
    | true =>
      obtain ⟨hb, _, _⟩ := hbd rfl
      obtain ⟨v1, hc1, hv1⟩ := Copy_call (k := k) hv hb (by omega)
      obtain ⟨v2, hc2, hv2⟩ := Alloc_call (k := k) n hv1 hb (by omega)
      obtain ⟨v3, hc3, hv3⟩ := RAlloc_call (k := k) n hv hb (by omega)
      obtain ⟨v5, hc5, hv5⟩ := Free_call (k := k) a hv1 hb (by omega)
      obtain ⟨v6, hc6, hv6⟩ := RFree_call (k := k) a hv hb (by omega)
      have hs1 := same_vh (k := k) hv2 hv3 alloc_bd (by omega)
      have hs2 := same_vh (k := k) hv5 hv6 free_bd (by omega)
      obtain ⟨X2, Y2, rfl, hX2, hY2⟩ := hv2.cells
      obtain ⟨X3, Y3, rfl, hX3, hY3⟩ := hv3.cells
      obtain ⟨X5, Y5, rfl, hX5, hY5⟩ := hv5.cells
      obtain ⟨X6, Y6, rfl, hX6, hY6⟩ := hv6.cells
      generalize (allocH ps ws n).at_ = at_ at *
      generalize (allocH ps ws n).e = e at *
      generalize (freeH ps ws a).e = f at *
      have q1 : (e == e) = true := beq_self_eq_true _
      have q2 : (at_ == at_) = true := beq_self_eq_true _
      have q3 : (f == f) = true := beq_self_eq_true _
      simp only [bodyOf, Try.f5, Option.getD_some, initT, dx, reduceIte, Nat.reduceLT, Nat.reduceLeDiff, Nat.reduceEqDiff, Nat.reduceAdd, Nat.reduceMul, Nat.reduceSub, Nat.reduceBEq, Int.reduceEq, Int.reduceLT, Int.reduceLE, Int.reduceToNat, reduceCtorEq, sx, fx5, hX0, hY0, hthin, haw, hc1, hc2, hX2, hY2, hc3, hX3, hY3, hc5, hX5, hY5, hc6, hX6, hY6, hs1, hs2, q1, q2, q3]
      exact ⟨_, _, rfl, by simp only [Tr.get_set, Nat.reduceEqDiff, reduceIte]⟩
  obtain ⟨T1, σ', h1, h2⟩ := run
  exact ⟨σ', q_call (first := []) (caps := []) fn5 rfl (by simp [Try.f5]) h1 (by simp) (res_one h2)⟩
end Go.Proofs.Ytjkfdiglokkceaa

