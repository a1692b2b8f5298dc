import Derived.Test.YtjkfdiglokkceaaHT
import Derived.Test.YtjkfdiglokkceaaHP
import Derived.Test.YtjkfdiglokkceaaPaleDeep
open Nat renaming reduceLT → zLt, reduceLeDiff → zLe, reduceEqDiff → zEq, reduceAdd → zAd, reduceMul → zMu, reduceSub → zSu, reduceBEq → zBe
open Int renaming reduceEq → yEq, reduceLT → yLt, reduceLE → yLe, reduceToNat → yTn
/- Heaps: the reference's allocated: large blocks. -/
set_option maxRecDepth 100000
set_option linter.unusedSimpArgs false
set_option linter.unusedVariables false
namespace Go.Proofs.Ytjkfdiglokkceaa
open Go Go.Proofs.Ytjkfdiglokkceaa.Pale
variable {k : Nat} {σ : AMem}

theorem setRun_succ {ps : List Pg} {f j : Nat} {g : Nat → Pg} (h : f + j < ps.length) : (setRun ps f j g).set (f + j) (g j) = setRun ps f (j + 1) g := by
  apply pages_ext
  · rw [List.length_set, setRun_length (by omega), setRun_length (by omega)]
  · intro i hi
    rw [pgAt_set (by rw [setRun_length (by omega)]; exact h), pgAt_setRun (by omega), pgAt_setRun (by omega)]
    by_cases e : i = f + j
    · subst e
      rw [if_pos rfl, if_pos (by omega), show f + j - f = j by omega]
    · rw [if_neg e]
      by_cases e2 : f ≤ i ∧ i < f + j
      · rw [if_pos e2, if_pos (by omega)]
      · rw [if_neg e2, if_neg (by omega)]
set_option maxHeartbeats 1000000 in
theorem rallocated_big {low pr wr : Nat} {its : List MItem} {ps : List Pg} {ws : List Int} {n : Nat} (h : HeapM low (σ.push (.row 2 true [.slice pr 0 its.length none 3, .slice wr 0 ws.length none 1])) σ.next pr none wr none its ps ws) (hr : RightH ps ws) (h1 : 32 < n) (h2 : n ≤ 2560) (hk : 4000 ≤ k) :
    ∃ σ', (∀ r, r < low → σ'.get r = σ.get r) ∧ σ.next ≤ σ'.next ∧
    ((runL ps ((n + 63) / 64) = none ∧ callN lawProg (k + 1) (.func 49 [] []) [.agg [.slice pr 0 its.length none 3, .slice wr 0 ws.length none 1], .int .i64 (n : Nat)] σ = some (.tuple [.agg [.slice pr 0 its.length none 3, .slice wr 0 ws.length none 1], .int .i64 0, .bool false], σ')) ∨
    (∃ f its', runL ps ((n + 63) / 64) = some f ∧ its'.length = its.length ∧ callN lawProg (k + 1) (.func 49 [] []) [.agg [.slice pr 0 its.length none 3, .slice wr 0 ws.length none 1], .int .i64 (n : Nat)] σ = some (.tuple [.agg [.slice pr 0 its.length none 3, .slice wr 0 ws.length none 1], .int .i64 ((64 * f : Nat) : Int), .bool true], σ') ∧ HeapM low σ' σ.next pr none wr none its' (setRun ps f ((n + 63) / 64) (bigG ((n + 63) / 64))) ws)) := by
  obtain ⟨sp, hsp⟩ : ∃ s, s = σ.next := ⟨_, rfl⟩
  rw [← hsp] at h ⊢
  have hil := pg_len h.pi
  have hmany' := hr.many
  have hsz := fun (σ : AMem) => sizeFor_call (k := k) (σ := σ) ((n : Nat) : Int) (by omega)
  have hsz0 : sizeR ((n : Nat) : Int) = 0 := by unfold sizeR; rw [if_neg (by omega)]
  rw [hsz0] at hsz
  obtain ⟨many, hmany⟩ : ∃ m, m = (n + 63) / 64 := ⟨_, rfl⟩
  rw [← hmany]
  have w1 : IntKind.i64.wrap (((n : Nat) : Int) + 64) = ((n + 64 : Nat) : Int) := by rw [i64_id (by omega) (by omega)]; omega
  have w2 : IntKind.i64.wrap (((n + 64 : Nat) : Int) - 1) = ((n + 63 : Nat) : Int) := by rw [i64_id (by omega) (by omega)]; omega
  have w3 : IntKind.i64.wrap ((((n + 63 : Nat) : Int)).tdiv 64) = ((many : Nat) : Int) := by
    have : (((n + 63 : Nat) : Int)).tdiv 64 = (((n + 63) / 64 : Nat) : Int) := rfl
    rw [this, ← hmany]
    exact i64_id (by omega) (by omega)
  have h64 : ¬ (64 : Int) = 0 := by omega
  obtain ⟨σ1, hσ1⟩ : ∃ s, s = (σ.push (.row 2 true [.slice pr 0 its.length none 3, .slice wr 0 ws.length none 1])).push (.row 2 true [.vs .nil [], .vs .nil []]) := ⟨_, rfl⟩
  have n1 : σ1.next = sp + 2 := by rw [hσ1, hsp]; simp
  have hM1 : HeapM low σ1 sp pr none wr none its ps ws := by rw [hσ1]; exact h.ext (Ext.push _ _)
  have ex1 : Ext σ σ1 := by rw [hσ1]; exact (Ext.push _ _).trans (Ext.push _ _)
  have go1 : σ1.get (sp + 1) = some (.row 2 true [.vs .nil [], .vs .nil []]) := by rw [hσ1, AMem.get_push, if_pos (by simp [hsp])]
  obtain ⟨l1, l2, l3⟩ := h.own.lo
  obtain ⟨x1, x2, x3⟩ := h.own.nx
  simp only [AMem.next_push] at x1 x2 x3
  have ms1 := hM1.own.ms
  obtain ⟨l, S, q1, q2, q3⟩ := snap_heap (fr := false) 8 hM1
  have hll : l.length = ps.length := by rw [← q1]; simp [pgsOf]
  have hfr := freeRun_call (k := k) (σ := σ1) (many := many) q3 (by omega) (by omega) (by omega)
  rw [q1] at hfr
  cases hrun : runL ps many with
  | none =>
    have hm1 : runR ps many = -1 := by unfold runR; rw [hrun]
    rw [hm1] at hfr
    obtain ⟨σ2, hσ2⟩ : ∃ s, s = σ1.put (sp + 1) (.row 2 true [.slice pr 0 its.length none 3, .slice wr 0 ws.length none 1]) := ⟨_, rfl⟩
    have n2 : σ2.next = sp + 2 := by rw [hσ2]; simpa using n1
    refine ⟨σ2, fun r hr => by rw [hσ2, AMem.get_put, if_neg (by omega), ex1.2 r (by omega)], by omega, .inl ⟨rfl, ?_⟩⟩
    have run : ∃ T1, execC lawProg (callN lawProg k) k 49 123 (bodyOf Try.f49) (initT 0 [.agg [.slice pr 0 its.length none 3, .slice wr 0 ws.length none 1], .int .i64 (n : Nat)] .nil) σ = some (.ret, T1, σ2) ∧ T1.get 4 = some (.ptr (sp + 1) 0) ∧ T1.get 5 = some (.int .i64 0) ∧ T1.get 6 = some (.bool false) := by
      have hneg : ((-1 : Int) < 0) := by omega
      simp only [bodyOf, Try.f49, Option.getD_some, initT, dx, reduceIte, zLt, zLe, zEq, zAd, zMu, zSu, zBe, yEq, yLt, yLe, yTn, reduceCtorEq, sx, fx49, hsz, w1, w2, w3, h64, ← hσ1, ← hsp]
      simp only [dx, reduceIte, zLt, zLe, zEq, zAd, zMu, zSu, zBe, yEq, yLt, yLe, yTn, reduceCtorEq, sx, fx49, ms1, hfr, hneg, go1, ← hσ2]
      exact ⟨_, rfl, by simp only [Tr.get_set, zEq, reduceIte], by simp only [Tr.get_set, zEq, reduceIte], by simp only [Tr.get_set, zEq, reduceIte]⟩
    obtain ⟨T1, r1, r2, r3, r4⟩ := run
    refine q_call (first := []) (caps := []) (vs := [.agg [.slice pr 0 its.length none 3, .slice wr 0 ws.length none 1], .int .i64 0, .bool false]) fn49 rfl (by simp [Try.f49]) r1 (by simp) ?_
    have g2 : σ2.get (sp + 1) = some (.row 2 true [.slice pr 0 its.length none 3, .slice wr 0 ws.length none 1]) := by rw [hσ2, AMem.get_put, if_pos rfl]
    simp only [Try.f49, resultsA, resultA, dx, reduceIte, zLt, zLe, zEq, zAd, zMu, zSu, zBe, yEq, yLt, yLe, yTn, reduceCtorEq, sx, fx49, r2, r3, r4, g2]
  | some f =>
    have hm1 : runR ps many = (f : Nat) := by unfold runR; rw [hrun]
    rw [hm1] at hfr
    obtain ⟨hf1, hf2⟩ := runL_some hrun
    have hnn : ¬ (((f : Nat) : Int) < 0) := by omega
    have hm1 : 1 ≤ many := by omega
    have mp1 := hM1.own.mp
    have hlt : ((f : Nat) : Int) < ((its.length : Nat) : Int) := by omega
    have hlen := items_len (pg_two h.pi)
    have hin : f * 3 + 3 ≤ its.length * 3 := by omega
    have w4 : IntKind.i64.wrap (((f : Nat) : Int) + 1) = ((f + 1 : Nat) : Int) := i64_succ (by omega)
    have w5 : IntKind.i64.wrap (((f : Nat) : Int) + ((many : Nat) : Int)) = ((f + many : Nat) : Int) := by rw [i64_id (by omega) (by omega)]; omega
    have w6 : IntKind.i64.wrap (((f : Nat) : Int) * 64) = ((64 * f : Nat) : Int) := by rw [i64_id (by omega) (by omega)]; omega
    have hrec := hM1.record (i := f) (by omega) (Ext.refl _) (by omega) ⟨2, (many : Nat), []⟩ (.vs .nil []) (.inl ⟨rfl, rfl⟩)
    obtain ⟨σ2, hσ2⟩ : ∃ s, s = σ1.put pr (.row 3 true (((((its.map MItem.cells).flatten).set (f * 3) (.int .u8 2)).set (f * 3 + 1) (.int .i64 (many : Nat))).set (f * 3 + 1 + 1) (.vs .nil []))) := ⟨_, rfl⟩
    have hset1 : ps.set f ⟨2, (many : Nat), []⟩ = setRun ps f 1 (bigG many) := by
      have := setRun_succ (ps := ps) (f := f) (j := 0) (g := bigG many) (by omega)
      rw [← this]
      unfold setRun
      simp [bigG]
    simp only at hrec
    rw [← hσ2, hset1] at hrec
    have n2 : σ2.next = sp + 2 := by rw [hσ2]; simpa using n1
    have go2 : σ2.get (sp + 1) = some (.row 2 true [.vs .nil [], .vs .nil []]) := by rw [hσ2, AMem.get_put, if_neg (by omega)]; exact go1
    have run : ∃ T1 σ' its', execC lawProg (callN lawProg k) k 49 123 (bodyOf Try.f49) (initT 0 [.agg [.slice pr 0 its.length none 3, .slice wr 0 ws.length none 1], .int .i64 (n : Nat)] .nil) σ = some (.ret, T1, σ') ∧ T1.get 4 = some (.ptr (sp + 1) 0) ∧ T1.get 5 = some (.int .i64 ((64 * f : Nat) : Int)) ∧ T1.get 6 = some (.bool true) ∧ σ'.get (sp + 1) = some (.row 2 true [.slice pr 0 its.length none 3, .slice wr 0 ws.length none 1]) ∧ (∀ r, r < low → σ'.get r = σ.get r) ∧ σ.next ≤ σ'.next ∧ its'.length = its.length ∧ HeapM low σ' sp pr none wr none its' (setRun ps f many (bigG many)) ws := by
      simp only [bodyOf, Try.f49, Option.getD_some, initT, dx, reduceIte, zLt, zLe, zEq, zAd, zMu, zSu, zBe, yEq, yLt, yLe, yTn, reduceCtorEq, sx, fx49, hsz, w1, w2, w3, h64, ← hσ1, ← hsp]
      simp only [dx, reduceIte, zLt, zLe, zEq, zAd, zMu, zSu, zBe, yEq, yLt, yLe, yTn, reduceCtorEq, sx, fx49, ms1, mp1, hfr, hnn, hlt, hlen, hin, w4, Int.natCast_nonneg, Int.toNat_natCast, ← hσ2]
      generalize hL : execC _ _ _ _ _ (Code.loop _) _ _ = q
      obtain ⟨e, T', σ', rfl, _, rfl, t2, t4, t9, its', hlen', hrw, hM', nx, fr, go⟩ : ∃ e T' σ', q = some (e, T', σ') ∧ e ≠ .normal ∧ e = .exit 0 ∧ T'.get 2 = some (.ptr sp 0) ∧ T'.get 4 = some (.ptr (sp + 1) 0) ∧ T'.get 9 = some (.int .i64 (f : Nat)) ∧ ∃ its', its'.length = its.length ∧ (∀ r, r ∈ rowsOf its' → r < sp) ∧ HeapM low σ' sp pr none wr none its' (setRun ps f many (bigG many)) ws ∧ σ'.next = sp + 2 ∧ (∀ r, r < low → σ'.get r = σ.get r) ∧ σ'.get (sp + 1) = some (.row 2 true [.vs .nil [], .vs .nil []]) := by
        rw [← hL]
        refine exec_loop (fun i T σ' => i + 1 ≤ many ∧ T.get 2 = some (.ptr sp 0) ∧ T.get 4 = some (.ptr (sp + 1) 0) ∧ T.get 8 = some (.int .i64 (many : Nat)) ∧ T.get 9 = some (.int .i64 (f : Nat)) ∧ T.get 10 = some (.int .i64 ((f + (i + 1) : Nat) : Int)) ∧ ∃ its', its'.length = its.length ∧ (∀ r, r ∈ rowsOf its' → r < sp) ∧ HeapM low σ' sp pr none wr none its' (setRun ps f (i + 1) (bigG many)) ws ∧ σ'.next = sp + 2 ∧ (∀ r, r < low → σ'.get r = σ.get r) ∧ σ'.get (sp + 1) = some (.row 2 true [.vs .nil [], .vs .nil []])) (many - 1) (by omega) ?_ ?_ ?_
        · rintro i hi T σ0 ⟨_, t2, t4, t8, t9, t10, its0, hl0, hrw, hM0, nx, fr, go⟩
          have hlt : ((f + (i + 1) : Nat) : Int) < ((f + many : Nat) : Int) := by omega
          have hlt2 : ((f + (i + 1) : Nat) : Int) < ((its0.length : Nat) : Int) := by omega
          have hw' := i64_succ (i := f + (i + 1)) (by omega)
          have ms0 := hM0.own.ms
          have mp0 := hM0.own.mp
          have hlen0 := items_len (pg_two hM0.pi)
          have hin0 : (f + (i + 1)) * 3 + 3 ≤ its0.length * 3 := by omega
          have hrec0 := hM0.record (i := f + (i + 1)) (by rw [setRun_length (by omega)]; omega) (Ext.refl _) (by omega) ⟨3, 0, []⟩ (.vs .nil []) (.inl ⟨rfl, rfl⟩)
          have hset : (setRun ps f (i + 1) (bigG many)).set (f + (i + 1)) ⟨3, 0, []⟩ = setRun ps f (i + 1 + 1) (bigG many) := by
            have hg : bigG many (i + 1) = ⟨3, 0, []⟩ := by unfold bigG; rw [if_neg (by omega)]
            rw [← setRun_succ (ps := ps) (f := f) (j := i + 1) (g := bigG many) (by omega), hg]
          rw [hset] at hrec0
          refine ⟨_, _, by
            simp only [dx, reduceIte, zLt, zLe, zEq, zAd, zMu, zSu, zBe, yEq, yLt, yLe, yTn, reduceCtorEq, sx, fx49, t2, t4, t8, t9, t10, w5, hlt, ms0, mp0, hlt2, hlen0, hin0, Int.natCast_nonneg, Int.toNat_natCast, hw']
            rfl, by omega, ?_, ?_, ?_, ?_, ?_, _, ?_, fun r hr => ?_, hrec0, ?_, fun r hr => ?_, ?_⟩
          · simp only [Tr.get_set, zEq, reduceIte, t2]
          · simp only [Tr.get_set, zEq, reduceIte, t4]
          · simp only [Tr.get_set, zEq, reduceIte, t8]
          · simp only [Tr.get_set, zEq, reduceIte, t9]
          · simp only [Tr.get_set, zEq, reduceIte]
            rfl
          · rw [List.length_set]; exact hl0
          · rcases rowsOf_set_mem hr with h5 | h5
            · exact hrw r h5
            · simp [rowOf] at h5
          · simpa using nx
          · rw [AMem.get_put, if_neg (by omega)]; exact fr r hr
          · rw [AMem.get_put, if_neg (by omega)]; exact go
        · rintro T σ0 ⟨_, t2, t4, t8, t9, t10, its0, hl0, hrw, hM0, nx, fr, go⟩
          rw [show many - 1 + 1 = many by omega] at t10 hM0
          have hge : ¬ (((f + many : Nat) : Int) < ((f + many : Nat) : Int)) := by omega
          refine ⟨_, _, _, by
            simp only [dx, reduceIte, zLt, zLe, zEq, zAd, zMu, zSu, zBe, yEq, yLt, yLe, yTn, reduceCtorEq, sx, fx49, t8, t9, t10, w5, hge]
            rfl, by simp, rfl, ?_, ?_, ?_, its0, hl0, hrw, hM0, nx, fr, go⟩
          · simp only [Tr.get_set, zEq, reduceIte, t2]
          · simp only [Tr.get_set, zEq, reduceIte, t4]
          · simp only [Tr.get_set, zEq, reduceIte, t9]
        · refine ⟨by omega, ?_, ?_, ?_, ?_, ?_, _, ?_, fun r hr => ?_, hrec, n2, fun r hr => ?_, go2⟩
          · simp only [Tr.get_set, zEq, reduceIte]
          · simp only [Tr.get_set, zEq, reduceIte]
          · simp only [Tr.get_set, zEq, reduceIte]
          · simp only [Tr.get_set, zEq, reduceIte]
          · simp only [Tr.get_set, zEq, reduceIte] <;> rfl
          · rw [List.length_set]
          · rcases rowsOf_set_mem hr with h5 | h5
            · have h6 := h.own.it.bound r h5
              have h7 : r ≠ sp := fun e => h.own.ns (by rw [← e]; exact h5)
              simp only [AMem.next_push] at h6
              omega
            · simp [rowOf] at h5
          · rw [hσ2, AMem.get_put, if_neg (by omega), ex1.2 r (by omega)]
      have ms' := hM'.own.ms
      rw [hlen'] at ms'
      simp only [dx, reduceIte, zLt, zLe, zEq, zAd, zMu, zSu, zBe, yEq, yLt, yLe, yTn, reduceCtorEq, sx, fx49, t2, t4, t9, ms', go, w6]
      refine ⟨_, _, its', rfl, by simp only [Tr.get_set, zEq, reduceIte, t4], by simp only [Tr.get_set, zEq, reduceIte], by simp only [Tr.get_set, zEq, reduceIte], by rw [AMem.get_put, if_pos rfl], fun r hr => by rw [AMem.get_put, if_neg (by omega)]; exact fr r hr, by simp only [AMem.next_put]; omega, hlen', hM'.away _ (by omega) (by omega) (by omega) (fun hm => ?_)⟩
      have := hrw _ hm
      omega
    obtain ⟨T1, σ', its', r1, r2, r3, r4, r5, r6, r7, r8, r9⟩ := run
    refine ⟨σ', r6, by omega, .inr ⟨f, its', rfl, r8, ?_, r9⟩⟩
    refine q_call (first := []) (caps := []) (vs := [.agg [.slice pr 0 its.length none 3, .slice wr 0 ws.length none 1], .int .i64 ((64 * f : Nat) : Int), .bool true]) fn49 rfl (by simp [Try.f49]) r1 (by simp) ?_
    simp only [Try.f49, resultsA, resultA, dx, reduceIte, zLt, zLe, zEq, zAd, zMu, zSu, zBe, yEq, yLt, yLe, yTn, reduceCtorEq, sx, fx49, r2, r3, r4, r5]
end Go.Proofs.Ytjkfdiglokkceaa

/- Heaps: the reference's allocated: small blocks. -/
set_option maxRecDepth 100000
set_option linter.unusedSimpArgs false
set_option linter.unusedVariables false
namespace Go.Proofs.Ytjkfdiglokkceaa
open Go Go.Proofs.Ytjkfdiglokkceaa.Pale
variable {k : Nat} {σ : AMem}

noncomputable def bodyA : Code := bodyOf Try.f49
set_option maxHeartbeats 1000000 in
/-- The inner loop of allocated. -/
theorem rinner {T : Tr AVal} {X : Out} {low sp pr wr q i : Nat} {its : List MItem} {ps : List Pg} {ws : List Int} {size : Int} (h : HeapM low σ sp pr none wr none its ps ws) (hr : RightH ps ws) (hi : i < ps.length) (hq : σ.get q = some (.row 3 true [.int .u8 (pgAt ps i).kind, .int .i64 (pgAt ps i).n, (its[i]'(by rw [pg_len h.pi]; exact hi)).x])) (ho : σ.get (sp + 1) = some (.row 2 true [.vs .nil [], .vs .nil []])) (hrw : ∀ r, r ∈ rowsOf its → r ≠ sp ∧ r ≠ sp + 1 ∧ r ≠ q) (t2 : T.get 2 = some (.ptr sp 0)) (t4 : T.get 4 = some (.ptr (sp + 1) 0)) (t7 : T.get 7 = some (.int .i64 size)) (t11 : T.get 11 = some (.int .i64 (i : Nat))) (t12 : T.get 12 = some (.ptr q 0)) (t13 : T.get 13 = some (.int .i64 0)) (hk : 2000 ≤ k)
    (hX : execC lawProg (callN lawProg k) k 49 123 (innerC (stmtC (innerC (stmtC (innerC (innerC (stmtC bodyA 5))) 2)) 2)) T σ = X) :
    ∃ e T' σ', X = some (e, T', σ') ∧ ((e = .exit 4 ∧ σ' = σ ∧ T'.get 2 = some (.ptr sp 0) ∧ T'.get 4 = some (.ptr (sp + 1) 0) ∧ T'.get 7 = some (.int .i64 size) ∧ T'.get 11 = some (.int .i64 (i : Nat)) ∧ ((pgAt ps i).kind = 1 → (pgAt ps i).n = size → firstFree (pgAt ps i) = none)) ∨
      (e = .ret ∧ (pgAt ps i).kind = 1 ∧ (pgAt ps i).n = size ∧ ∃ s r cap, firstFree (pgAt ps i) = some s ∧ (its[i]'(by rw [pg_len h.pi]; exact hi)).x = .slice r 0 (pgAt ps i).used.length cap 1 ∧ σ' = (σ.put r (.row 1 false ((boolV (pgAt ps i).used).set s (.bool true)))).put (sp + 1) (.row 2 true [.slice pr 0 its.length none 3, .slice wr 0 ws.length none 1]) ∧ T'.get 4 = some (.ptr (sp + 1) 0) ∧ T'.get 5 = some (.int .i64 (64 * (i : Int) + (s : Int) * size)) ∧ T'.get 6 = some (.bool true))) := by
  have hil := pg_len h.pi
  have hii : i < its.length := by omega
  have hmany := hr.many
  rw [← hX]
  by_cases k1 : (pgAt ps i).kind = 1
  · by_cases kn : (pgAt ps i).n = size
    · have hsc := small_cases (hr.shape i hi) k1
      have hu0 : (pgAt ps i).used ≠ [] := fun e => by rw [e] at hsc; simp at hsc
      obtain ⟨r, cap, hx, r2, r3, hrow⟩ := own_used h.own h.pi h.ox hii hu0
      have hrm : r ∈ rowsOf its := mem_rowsOf (List.getElem_mem hii) (by rw [hx]; simp [rowOf])
      obtain ⟨ns, nso, nq⟩ := hrw r hrm
      rw [hx] at hq
      have hb1 : ((pgAt ps i).kind == 1) = true := by rw [k1]; rfl
      have hb2 : ((pgAt ps i).n == size) = true := by rw [kn]; simp
      have hul : (pgAt ps i).used.length ≤ 32 := by rcases hsc with ⟨_, h⟩ | ⟨_, h⟩ | ⟨_, h⟩ | ⟨_, h⟩ | ⟨_, h⟩ <;> omega
      have hsz : 2 ≤ size ∧ size ≤ 32 := by rw [← kn]; rcases hsc with ⟨h, _⟩ | ⟨h, _⟩ | ⟨h, _⟩ | ⟨h, _⟩ | ⟨h, _⟩ <;> omega
      obtain ⟨e, T', σ', h1, _, h2⟩ := exec_loop2 (A := lawProg) (call := callN lawProg k) (k := k) (f := 49) (N := 123) (T := T) (σ := σ) (c := innerC (innerC (stmtC (innerC (stmtC (innerC (innerC (stmtC bodyA 5))) 2)) 2))) (R := fun e T' σ' => (e = .exit 4 ∧ σ' = σ ∧ T'.get 2 = some (.ptr sp 0) ∧ T'.get 4 = some (.ptr (sp + 1) 0) ∧ T'.get 7 = some (.int .i64 size) ∧ T'.get 11 = some (.int .i64 (i : Nat)) ∧ firstFree (pgAt ps i) = none) ∨
        (e = .ret ∧ ∃ s, firstFree (pgAt ps i) = some s ∧ σ' = (σ.put r (.row 1 false ((boolV (pgAt ps i).used).set s (.bool true)))).put (sp + 1) (.row 2 true [.slice pr 0 its.length none 3, .slice wr 0 ws.length none 1]) ∧ T'.get 4 = some (.ptr (sp + 1) 0) ∧ T'.get 5 = some (.int .i64 (64 * (i : Int) + (s : Int) * size)) ∧ T'.get 6 = some (.bool true)))
        (fun s T σ' => s ≤ (pgAt ps i).used.length ∧ σ' = σ ∧ T.get 2 = some (.ptr sp 0) ∧ T.get 4 = some (.ptr (sp + 1) 0) ∧ T.get 7 = some (.int .i64 size) ∧ T.get 11 = some (.int .i64 (i : Nat)) ∧ T.get 12 = some (.ptr q 0) ∧ T.get 13 = some (.int .i64 (s : Nat)) ∧ ∀ t, t < s → (pgAt ps i).used[t]?.getD false = true) (pgAt ps i).used.length (by omega) (by
          rintro s hs T σ0 ⟨_, rfl, t2, t4, t7, t11, t12, t13, hall⟩
          have hlt : ((s : Nat) : Int) < (((pgAt ps i).used.length : Nat) : Int) := by omega
          have hw' := i64_succ (i := s) (by omega)
          have hget := boolV_get hs
          have hum : (pgAt ps i).used[s]?.getD false = (pgAt ps i).used[s] := by rw [List.getElem?_eq_getElem hs]; rfl
          have hin : s + 1 ≤ (pgAt ps i).used.length := by omega
          cases hus : (pgAt ps i).used[s] with
          | true =>
            rw [hus] at hget hum
            refine .inl ⟨_, _, by
              simp only [bodyA, bodyOf, Try.f49, Option.getD_some, flatC, innerC, stmtC, List.append_assoc, dx, reduceIte, zLt, zLe, zEq, zAd, zMu, zSu, zBe, yEq, yLt, yLe, yTn, reduceCtorEq, sx, fx49, t2, t4, t7, t11, t12, t13, hq, hb1, hb2, hlt, hrow, boolV_length, hget, Int.natCast_nonneg, Int.toNat_natCast, Nat.zero_add, Nat.mul_one, hw']
              rfl, by omega, rfl, ?_, ?_, ?_, ?_, ?_, ?_, fun t ht => ?_⟩
            · simp only [Tr.get_set, zEq, reduceIte, t2]
            · simp only [Tr.get_set, zEq, reduceIte, t4]
            · simp only [Tr.get_set, zEq, reduceIte, t7]
            · simp only [Tr.get_set, zEq, reduceIte, t11]
            · simp only [Tr.get_set, zEq, reduceIte, t12]
            · simp only [Tr.get_set, zEq, reduceIte]
            · by_cases e : t = s
              · rw [e]; exact hum
              · exact hall t (by omega)
          | false =>
            rw [hus] at hget hum
            have hff := firstFree_of hs hall hum
            have hsn : 0 ≤ (s : Int) * size ∧ (s : Int) * size ≤ 1024 := by
              obtain ⟨m, hm⟩ : ∃ m : Nat, size = (m : Int) := ⟨size.toNat, by omega⟩
              rw [hm]
              have h1 : s * m ≤ 32 * 32 := Nat.mul_le_mul (by omega) (by omega)
              have h2 : ((s * m : Nat) : Int) = (s : Int) * (m : Int) := by simp
              omega
            have w1 : IntKind.i64.wrap (((i : Nat) : Int) * 64) = 64 * (i : Int) := by rw [i64_id (by omega) (by omega)]; omega
            have w2 : IntKind.i64.wrap (((s : Nat) : Int) * size) = (s : Int) * size := i64_id (by omega) (by omega)
            have w3 : IntKind.i64.wrap (64 * (i : Int) + (s : Int) * size) = 64 * (i : Int) + (s : Int) * size := i64_id (by omega) (by omega)
            have ms := h.own.ms
            have q1 : ¬ r = sp := ns
            have q2 : ¬ r = sp + 1 := nso
            refine .inr ⟨_, _, _, by
              simp only [bodyA, bodyOf, Try.f49, Option.getD_some, flatC, innerC, stmtC, List.append_assoc, dx, reduceIte, zLt, zLe, zEq, zAd, zMu, zSu, zBe, yEq, yLt, yLe, yTn, reduceCtorEq, sx, fx49, t2, t4, t7, t11, t12, t13, hq, hb1, hb2, hlt, hrow, boolV_length, hget, Int.natCast_nonneg, Int.toNat_natCast, Nat.zero_add, Nat.mul_one, hin, q1, q2, ms, ho, w1, w2, w3]
              rfl, by simp, .inr ⟨rfl, s, hff, rfl, ?_, ?_, ?_⟩⟩
            · simp only [Tr.get_set, zEq, reduceIte, t4]
            · simp only [Tr.get_set, zEq, reduceIte]
            · simp only [Tr.get_set, zEq, reduceIte]) (by
          rintro T σ0 ⟨_, rfl, t2, t4, t7, t11, t12, t13, hall⟩
          have hge : ¬ ((((pgAt ps i).used.length : Nat) : Int) < (((pgAt ps i).used.length : Nat) : Int)) := by omega
          refine ⟨_, _, _, by
            simp only [bodyA, bodyOf, Try.f49, Option.getD_some, flatC, innerC, stmtC, List.append_assoc, dx, reduceIte, zLt, zLe, zEq, zAd, zMu, zSu, zBe, yEq, yLt, yLe, yTn, reduceCtorEq, sx, fx49, t2, t4, t7, t11, t12, t13, hq, hb1, hb2, hge]
            rfl, by simp, .inl ⟨rfl, rfl, ?_, ?_, ?_, ?_, firstFree_none.2 hall⟩⟩
          · simp only [Tr.get_set, zEq, reduceIte, t2]
          · simp only [Tr.get_set, zEq, reduceIte, t4]
          · simp only [Tr.get_set, zEq, reduceIte, t7]
          · simp only [Tr.get_set, zEq, reduceIte, t11]) ⟨Nat.zero_le _, rfl, t2, t4, t7, t11, t12, t13, fun t ht => by omega⟩
      refine ⟨e, T', σ', h1, ?_⟩
      rcases h2 with ⟨a1, a2, a3, a4, a5, a6, a7⟩ | ⟨a1, s, a2, a3⟩
      · exact .inl ⟨a1, a2, a3, a4, a5, a6, fun _ _ => a7⟩
      · exact .inr ⟨a1, k1, kn, s, r, cap, a2, hx, a3⟩
    · have hb1 : ((pgAt ps i).kind == 1) = true := by rw [k1]; rfl
      have hb2 : ((pgAt ps i).n == size) = false := by rw [beq_eq_false_iff_ne]; exact kn
      obtain ⟨e, T', σ', h1, _, h2⟩ := exec_loop (A := lawProg) (call := callN lawProg k) (k := k) (f := 49) (N := 123) (T := T) (σ := σ) (c := innerC (innerC (stmtC (innerC (stmtC (innerC (innerC (stmtC bodyA 5))) 2)) 2))) (R := fun e T' σ' => e = .exit 4 ∧ σ' = σ ∧ T'.get 2 = some (.ptr sp 0) ∧ T'.get 4 = some (.ptr (sp + 1) 0) ∧ T'.get 7 = some (.int .i64 size) ∧ T'.get 11 = some (.int .i64 (i : Nat))) (fun _ T' σ' => T' = T ∧ σ' = σ) 0 (by omega) (by intro i hi; omega) (by
          rintro _ _ ⟨rfl, rfl⟩
          refine ⟨_, _, _, by
            simp only [bodyA, bodyOf, Try.f49, Option.getD_some, flatC, innerC, stmtC, List.append_assoc, dx, reduceIte, zLt, zLe, zEq, zAd, zMu, zSu, zBe, yEq, yLt, yLe, yTn, reduceCtorEq, sx, fx49, t2, t4, t7, t11, t12, t13, hq, hb1, hb2]
            rfl, by simp, rfl, rfl, ?_, ?_, ?_, ?_⟩
          · simp only [Tr.get_set, zEq, reduceIte, t2]
          · simp only [Tr.get_set, zEq, reduceIte, t4]
          · simp only [Tr.get_set, zEq, reduceIte, t7]
          · simp only [Tr.get_set, zEq, reduceIte, t11]) ⟨rfl, rfl⟩
      exact ⟨e, T', σ', h1, .inl ⟨h2.1, h2.2.1, h2.2.2.1, h2.2.2.2.1, h2.2.2.2.2.1, h2.2.2.2.2.2, fun _ e => absurd e kn⟩⟩
  · have hb1 : ((pgAt ps i).kind == 1) = false := by rw [beq_eq_false_iff_ne]; exact k1
    obtain ⟨e, T', σ', h1, _, h2⟩ := exec_loop (A := lawProg) (call := callN lawProg k) (k := k) (f := 49) (N := 123) (T := T) (σ := σ) (c := innerC (innerC (stmtC (innerC (stmtC (innerC (innerC (stmtC bodyA 5))) 2)) 2))) (R := fun e T' σ' => e = .exit 4 ∧ σ' = σ ∧ T'.get 2 = some (.ptr sp 0) ∧ T'.get 4 = some (.ptr (sp + 1) 0) ∧ T'.get 7 = some (.int .i64 size) ∧ T'.get 11 = some (.int .i64 (i : Nat))) (fun _ T' σ' => T' = T ∧ σ' = σ) 0 (by omega) (by intro i hi; omega) (by
        rintro _ _ ⟨rfl, rfl⟩
        refine ⟨_, _, _, by
          simp only [bodyA, bodyOf, Try.f49, Option.getD_some, flatC, innerC, stmtC, List.append_assoc, dx, reduceIte, zLt, zLe, zEq, zAd, zMu, zSu, zBe, yEq, yLt, yLe, yTn, reduceCtorEq, sx, fx49, t2, t4, t7, t11, t12, t13, hq, hb1]
          rfl, by simp, rfl, rfl, ?_, ?_, ?_, ?_⟩
        · simp only [Tr.get_set, zEq, reduceIte, t2]
        · simp only [Tr.get_set, zEq, reduceIte, t4]
        · simp only [Tr.get_set, zEq, reduceIte, t7]
        · simp only [Tr.get_set, zEq, reduceIte, t11]) ⟨rfl, rfl⟩
    exact ⟨e, T', σ', h1, .inl ⟨h2.1, h2.2.1, h2.2.2.1, h2.2.2.2.1, h2.2.2.2.2.1, h2.2.2.2.2.2, fun e => absurd e k1⟩⟩
end Go.Proofs.Ytjkfdiglokkceaa

/- Heaps: the reference's allocated, and Alloc. -/
set_option maxRecDepth 100000
set_option linter.unusedSimpArgs false
set_option linter.unusedVariables false
namespace Go.Proofs.Ytjkfdiglokkceaa
open Go Go.Proofs.Ytjkfdiglokkceaa.Pale
variable {k : Nat} {σ : AMem}

set_option maxHeartbeats 2000000 in
theorem rallocated_small {low pr wr : Nat} {its : List MItem} {ps : List Pg} {ws : List Int} {n : Nat} (h : HeapM low (σ.push (.row 2 true [.slice pr 0 its.length none 3, .slice wr 0 ws.length none 1])) σ.next pr none wr none its ps ws) (hr : RightH ps ws) (h1 : 1 ≤ n) (h2 : n ≤ 32) (hk : 4000 ≤ k) :
    ∃ σ', (∀ r, r < low → σ'.get r = σ.get r) ∧ σ.next ≤ σ'.next ∧
    ((allocL ps (n : Nat) = none ∧ callN lawProg (k + 1) (.func 49 [] []) [.agg [.slice pr 0 its.length none 3, .slice wr 0 ws.length none 1], .int .i64 (n : Nat)] σ = some (.tuple [.agg [.slice pr 0 its.length none 3, .slice wr 0 ws.length none 1], .int .i64 0, .bool false], σ')) ∨
    (∃ qs b its', allocL ps (n : Nat) = some (qs, b) ∧ its'.length = its.length ∧ callN lawProg (k + 1) (.func 49 [] []) [.agg [.slice pr 0 its.length none 3, .slice wr 0 ws.length none 1], .int .i64 (n : Nat)] σ = some (.tuple [.agg [.slice pr 0 its.length none 3, .slice wr 0 ws.length none 1], .int .i64 b.at_, .bool true], σ') ∧ HeapM low σ' σ.next pr none wr none its' qs ws)) := by
  obtain ⟨sp, hsp⟩ : ∃ s, s = σ.next := ⟨_, rfl⟩
  rw [← hsp] at h ⊢
  have hil := pg_len h.pi
  have hmany := hr.many
  have hsz := fun (σ : AMem) => sizeFor_call (k := k) (σ := σ) ((n : Nat) : Int) (by omega)
  have hsz0 : sizeR ((n : Nat) : Int) = sizeF (n : Nat) := by unfold sizeR; rw [if_pos (by omega)]
  rw [hsz0] at hsz
  obtain ⟨m, hm, m2, m32, sz0, sz2, sz32⟩ := sizeF_cases (n : Nat)
  obtain ⟨size, hsize⟩ : ∃ s, s = sizeF ((n : Nat) : Int) := ⟨_, rfl⟩
  have halloc : allocL ps (n : Nat) = match placeL ps size with
      | some (j, s) => some (ps.set j (useAt (pgAt ps j) s true), slotB j (pgAt ps j) s)
      | none => match runL ps 1 with
        | some f => some (ps.set f (smallG size), ⟨f, 0, 64 * f, size⟩)
        | none => none := by
    unfold allocL
    rw [if_neg (by omega), ← hsize]
    rfl
  rw [← hsize] at hsz hm sz0 sz2 sz32
  have hszb : (size == 0) = false := by rw [beq_eq_false_iff_ne]; exact sz0
  obtain ⟨σ1, hσ1⟩ : ∃ s, s = (σ.push (.row 2 true [.slice pr 0 its.length none 3, .slice wr 0 ws.length none 1])).push (.row 2 true [.vs .nil [], .vs .nil []]) := ⟨_, rfl⟩
  have n1 : σ1.next = sp + 2 := by rw [hσ1, hsp]; simp
  have hM1 : HeapM low σ1 sp pr none wr none its ps ws := by rw [hσ1]; exact h.ext (Ext.push _ _)
  have ex1 : Ext σ σ1 := by rw [hσ1]; exact (Ext.push _ _).trans (Ext.push _ _)
  have go1 : σ1.get (sp + 1) = some (.row 2 true [.vs .nil [], .vs .nil []]) := by rw [hσ1, AMem.get_push, if_pos (by simp [hsp])]
  obtain ⟨l1, l2, l3⟩ := h.own.lo
  obtain ⟨x1, x2, x3⟩ := h.own.nx
  simp only [AMem.next_push] at x1 x2 x3
  have hrb : ∀ r, r ∈ rowsOf its → r < sp := fun r hr => by
    have h6 := h.own.it.bound r hr
    have h7 : r ≠ sp := fun e => h.own.ns (by rw [← e]; exact hr)
    simp only [AMem.next_push] at h6
    omega
  have hlen := items_len (pg_two h.pi)
  have go2 : ∀ {its' : List MItem} {qs : List Pg} {σ' : AMem}, HeapM low σ' sp pr none wr none its' qs ws → (∀ r, r ∈ rowsOf its' → r ≠ sp + 1) → HeapM low (σ'.put (sp + 1) (.row 2 true [.slice pr 0 its.length none 3, .slice wr 0 ws.length none 1])) sp pr none wr none its' qs ws := fun hM hrw => hM.away _ (by omega) (by omega) (by omega) (fun hm => hrw _ hm rfl)
  have fin : ∀ (T1 : Tr AVal) (σ' : AMem) (at_ : Int) (b : Bool), execC lawProg (callN lawProg k) k 49 123 (bodyOf Try.f49) (initT 0 [.agg [.slice pr 0 its.length none 3, .slice wr 0 ws.length none 1], .int .i64 (n : Nat)] .nil) σ = some (.ret, T1, σ') → T1.get 4 = some (.ptr (sp + 1) 0) → T1.get 5 = some (.int .i64 at_) → T1.get 6 = some (.bool b) → σ'.get (sp + 1) = some (.row 2 true [.slice pr 0 its.length none 3, .slice wr 0 ws.length none 1]) → callN lawProg (k + 1) (.func 49 [] []) [.agg [.slice pr 0 its.length none 3, .slice wr 0 ws.length none 1], .int .i64 (n : Nat)] σ = some (.tuple [.agg [.slice pr 0 its.length none 3, .slice wr 0 ws.length none 1], .int .i64 at_, .bool b], σ') := by
    intro T1 σ' at_ b r1 r2 r3 r4 g2
    refine q_call (first := []) (caps := []) (vs := [.agg [.slice pr 0 its.length none 3, .slice wr 0 ws.length none 1], .int .i64 at_, .bool b]) fn49 rfl (by simp [Try.f49]) r1 (by simp) ?_
    simp only [Try.f49, resultsA, resultA, dx, reduceIte, zLt, zLe, zEq, zAd, zMu, zSu, zBe, yEq, yLt, yLe, yTn, reduceCtorEq, sx, fx49, r2, r3, r4, g2]
  -- the loop over the pages
  have main : ∀ (T : Tr AVal) (X : Out), T.get 2 = some (.ptr sp 0) → T.get 4 = some (.ptr (sp + 1) 0) → T.get 7 = some (.int .i64 size) → T.get 11 = some (.int .i64 0) → execC lawProg (callN lawProg k) k 49 123 (innerC (stmtC bodyA 5)) T σ1 = X → ∃ e T' σ', X = some (e, T', σ') ∧ ((e = .exit 2 ∧ placeL ps size = none ∧ Ext σ1 σ' ∧ T'.get 2 = some (.ptr sp 0) ∧ T'.get 4 = some (.ptr (sp + 1) 0) ∧ T'.get 7 = some (.int .i64 size)) ∨
      (e = .ret ∧ ∃ j s its', placeL ps size = some (j, s) ∧ (∀ r, r < low → σ'.get r = σ.get r) ∧ σ.next ≤ σ'.next ∧ its'.length = its.length ∧ HeapM low σ' sp pr none wr none its' (ps.set j (useAt (pgAt ps j) s true)) ws ∧ σ'.get (sp + 1) = some (.row 2 true [.slice pr 0 its.length none 3, .slice wr 0 ws.length none 1]) ∧ T'.get 4 = some (.ptr (sp + 1) 0) ∧ T'.get 5 = some (.int .i64 (slotB j (pgAt ps j) s).at_) ∧ T'.get 6 = some (.bool true))) := by
    intro T X t2 t4 t7 t11 hX
    rw [← hX]
    obtain ⟨e, T', σ', g1, _, g2⟩ := exec_loop2 (A := lawProg) (call := callN lawProg k) (k := k) (f := 49) (N := 123) (T := T) (σ := σ1) (c := innerC (innerC (stmtC bodyA 5))) (R := fun e T' σ' => (e = .exit 2 ∧ placeL ps size = none ∧ Ext σ1 σ' ∧ T'.get 2 = some (.ptr sp 0) ∧ T'.get 4 = some (.ptr (sp + 1) 0) ∧ T'.get 7 = some (.int .i64 size)) ∨
      (e = .ret ∧ ∃ j s its', placeL ps size = some (j, s) ∧ (∀ r, r < low → σ'.get r = σ.get r) ∧ σ.next ≤ σ'.next ∧ its'.length = its.length ∧ HeapM low σ' sp pr none wr none its' (ps.set j (useAt (pgAt ps j) s true)) ws ∧ σ'.get (sp + 1) = some (.row 2 true [.slice pr 0 its.length none 3, .slice wr 0 ws.length none 1]) ∧ T'.get 4 = some (.ptr (sp + 1) 0) ∧ T'.get 5 = some (.int .i64 (slotB j (pgAt ps j) s).at_) ∧ T'.get 6 = some (.bool true)))
      (fun i T σ' => i ≤ ps.length ∧ Ext σ1 σ' ∧ T.get 2 = some (.ptr sp 0) ∧ T.get 4 = some (.ptr (sp + 1) 0) ∧ T.get 7 = some (.int .i64 size) ∧ T.get 11 = some (.int .i64 (i : Nat)) ∧ placeTo ps size i = none) ps.length (by omega) (by
        rintro i hi T σ0 ⟨_, ex, t2, t4, t7, t11, hno⟩
        have hii : i < its.length := by omega
        have hlt : ((i : Nat) : Int) < ((its.length : Nat) : Int) := by omega
        have hw' := i64_succ (i := i) (by omega)
        have hload := pg_load h.pi hii
        have hM0 := hM1.ext ex
        have ms0 := hM0.own.ms
        have mp0 := hM0.own.mp
        have hin : i * 3 + 3 ≤ its.length * 3 := by omega
        have hone : its[i].x.oneCell = true := by
          rcases (h.own.it.1 its[i] (List.getElem_mem hii)).2.2 with ⟨_, e⟩ | ⟨_, _, e, _⟩ <;> rw [e] <;> rfl
        have hx := ex.1
        obtain ⟨q, hqd⟩ : ∃ q, q = σ0.next := ⟨_, rfl⟩
        obtain ⟨σ2, hσ2⟩ : ∃ m, m = (σ0.push (.row 3 true [.int .u8 0, .int .i64 0, .vs .nil []])).put q (.row 3 true [.int .u8 (pgAt ps i).kind, .int .i64 (pgAt ps i).n, its[i].x]) := ⟨_, rfl⟩
        have n2 : σ2.next = q + 1 := by rw [hσ2, hqd]; simp
        have ex2 : Ext σ0 σ2 := by rw [hσ2]; exact (Ext.push _ _).put _ _ (by omega)
        have gq : σ2.get q = some (.row 3 true [.int .u8 (pgAt ps i).kind, .int .i64 (pgAt ps i).n, its[i].x]) := by rw [hσ2, AMem.get_put, if_pos rfl]
        have hM2 := hM0.ext ex2
        have goo : σ2.get (sp + 1) = some (.row 2 true [.vs .nil [], .vs .nil []]) := by rw [ex2.2 _ (by omega), ex.2 _ (by omega)]; exact go1
        have hRI := fun (T : Tr AVal) (X : Out) a b c d e f (hX : _ = X) => rinner (k := k) (T := T) (X := X) (σ := σ2) (q := q) (i := i) (size := size) hM2 hr hi gq goo (fun r hr => by have := hrb r hr; exact ⟨by omega, by omega, by omega⟩) a b c d e f (by omega) hX
        simp only [bodyA, bodyOf, Try.f49, Option.getD_some, flatC, innerC, stmtC, List.append_assoc, dx, reduceIte, zLt, zLe, zEq, zAd, zMu, zSu, zBe, yEq, yLt, yLe, yTn, reduceCtorEq, sx, fx49, Nat.add_assoc, Nat.add_eq_left, Nat.left_eq_add, Nat.add_left_cancel_iff, t2, t4, t7, t11, ms0, mp0, hlt, hlen, hin, hload, hone, Int.natCast_nonneg, Int.toNat_natCast, ← hqd, ← hσ2]
        generalize hL : execC _ _ _ _ _ (Code.loop _) _ _ = r
        obtain ⟨e, T', σ', rfl, hc⟩ := hRI _ _ (by simp only [Tr.get_set, zEq, reduceIte, t2]) (by simp only [Tr.get_set, zEq, reduceIte, t4]) (by simp only [Tr.get_set, zEq, reduceIte, t7]) (by simp only [Tr.get_set, zEq, reduceIte, t11]) (by simp only [Tr.get_set, zEq, reduceIte]) (by simp only [Tr.get_set, zEq, reduceIte]) hL
        rcases hc with ⟨rfl, rfl, u2, u4, u7, u11, hff⟩ | ⟨rfl, k1, kn, s, r, cap, hff, hx2, rfl, u4, u5, u6⟩
        · refine .inl ⟨_, _, by
            simp only [dx, reduceIte, zLt, zLe, zEq, zAd, zMu, zSu, zBe, yEq, yLt, yLe, yTn, reduceCtorEq, sx, fx49, u11, hw']
            rfl, by omega, ex.trans ex2, ?_, ?_, ?_, ?_, ?_⟩
          · simp only [Tr.get_set, zEq, reduceIte, u2]
          · simp only [Tr.get_set, zEq, reduceIte, u4]
          · simp only [Tr.get_set, zEq, reduceIte, u7]
          · simp only [Tr.get_set, zEq, reduceIte]
          · rw [placeTo, hno]
            simp only
            split
            · rename_i hc; rw [hff hc.1 hc.2]; rfl
            · rfl
        · have hrm : r ∈ rowsOf its := mem_rowsOf (List.getElem_mem hii) (by rw [hx2]; simp [rowOf])
          have hrs := hrb r hrm
          have hrl := (h.own.it.bound r hrm).1
          obtain ⟨its', hM', hcells⟩ := hM2.slot (j := s) hii hx2 true
          have hlen' : its'.length = its.length := by simpa using congrArg List.length hcells
          have hrw' : ∀ r, r ∈ rowsOf its' → r < sp := by
            have hxs : its'.map (fun a => a.x) = its.map (fun a => a.x) := by
              have hp1 := pg_two hM'.pi
              have hp2 := pg_two h.pi
              apply List.ext_getElem (by simpa using hlen')
              intro t h1 h2
              simp only [List.getElem_map]
              have := congrArg (fun l => l[t]?) hcells
              simp only [List.getElem?_map] at this
              rw [List.getElem?_eq_getElem (by simpa using h1), List.getElem?_eq_getElem (by simpa using h2)] at this
              simp only [Option.map_some, Option.some.injEq] at this
              unfold MItem.cells at this
              have := congrArg List.getLast? this
              simpa using this
            have hro : rowsOf its' = rowsOf its := by
              unfold rowsOf
              rw [← List.flatMap_map (fun a : MItem => a.x) rowOf, ← List.flatMap_map (fun a : MItem => a.x) rowOf, hxs]
            intro r hr
            rw [hro] at hr
            exact hrb r hr
          refine .inr ⟨_, _, _, by
            simp only [dx, reduceIte, zLt, zLe, zEq, zAd, zMu, zSu, zBe, yEq, yLt, yLe, yTn, reduceCtorEq, sx, fx49]
            rfl, by simp, .inr ⟨rfl, i, s, its', placeTo_more (i := i + 1) (by rw [placeTo, hno]; simp only; rw [if_pos ⟨k1, kn⟩, hff]; rfl) (by omega), fun r' hr' => ?_, ?_, hlen', go2 hM' (fun r' hr' => by have := hrw' r' hr'; omega), by rw [AMem.get_put, if_pos rfl], ?_, ?_, ?_⟩⟩
          · rw [AMem.get_put, if_neg (by omega), AMem.get_put, if_neg (by omega), ex2.2 r' (by omega), ex.2 r' (by omega), ex1.2 r' (by omega)]
          · simp only [AMem.next_put]; omega
          · simp only [Tr.get_set, zEq, reduceIte, u4]
          · simp only [Tr.get_set, zEq, reduceIte, u5, slotB, kn]
          · simp only [Tr.get_set, zEq, reduceIte, u6]) (by
        rintro T σ0 ⟨_, ex, t2, t4, t7, t11, hno⟩
        have hge : ¬ (((ps.length : Nat) : Int) < ((its.length : Nat) : Int)) := by omega
        have ms0 := (hM1.ext ex).own.ms
        refine ⟨_, _, _, by
          simp only [bodyA, bodyOf, Try.f49, Option.getD_some, flatC, innerC, stmtC, List.append_assoc, dx, reduceIte, zLt, zLe, zEq, zAd, zMu, zSu, zBe, yEq, yLt, yLe, yTn, reduceCtorEq, sx, fx49, t2, t4, t7, t11, ms0, hge]
          rfl, by simp, .inl ⟨rfl, hno, ex, ?_, ?_, ?_⟩⟩
        · simp only [Tr.get_set, zEq, reduceIte, t2]
        · simp only [Tr.get_set, zEq, reduceIte, t4]
        · simp only [Tr.get_set, zEq, reduceIte, t7]) ⟨Nat.zero_le _, Ext.refl _, t2, t4, t7, t11, rfl⟩
    exact ⟨e, T', σ', g1, g2⟩
  have run : ∃ T1 σ' at_ b, execC lawProg (callN lawProg k) k 49 123 (bodyOf Try.f49) (initT 0 [.agg [.slice pr 0 its.length none 3, .slice wr 0 ws.length none 1], .int .i64 (n : Nat)] .nil) σ = some (.ret, T1, σ') ∧ T1.get 4 = some (.ptr (sp + 1) 0) ∧ T1.get 5 = some (.int .i64 at_) ∧ T1.get 6 = some (.bool b) ∧ σ'.get (sp + 1) = some (.row 2 true [.slice pr 0 its.length none 3, .slice wr 0 ws.length none 1]) ∧ (∀ r, r < low → σ'.get r = σ.get r) ∧ σ.next ≤ σ'.next ∧ ((b = false ∧ at_ = 0 ∧ allocL ps (n : Nat) = none) ∨ (b = true ∧ ∃ qs bl its', allocL ps (n : Nat) = some (qs, bl) ∧ at_ = bl.at_ ∧ its'.length = its.length ∧ HeapM low σ' sp pr none wr none its' qs ws)) := by
    simp only [bodyOf, Try.f49, Option.getD_some, initT, dx, reduceIte, zLt, zLe, zEq, zAd, zMu, zSu, zBe, yEq, yLt, yLe, yTn, reduceCtorEq, sx, fx49, hsz, hszb, ← hσ1, ← hsp]
    generalize hL : execC _ _ _ _ _ (Code.loop _) _ _ = r
    obtain ⟨e, T', σ2, rfl, hc⟩ := main _ _ (by simp only [Tr.get_set, zEq, reduceIte]) (by simp only [Tr.get_set, zEq, reduceIte]) (by simp only [Tr.get_set, zEq, reduceIte]) (by simp only [Tr.get_set, zEq, reduceIte]) hL
    rcases hc with ⟨rfl, hpl, ex, u2, u4, u7⟩ | ⟨rfl, j, s, its', hpl, fr, nx, hlen', hM', goo, u4, u5, u6⟩
    · rw [hpl] at halloc
      simp only at halloc
      have hM2 := hM1.ext ex
      have hx := ex.1
      have ms2 := hM2.own.ms
      have mp2 := hM2.own.mp
      have goo : σ2.get (sp + 1) = some (.row 2 true [.vs .nil [], .vs .nil []]) := by rw [ex.2 _ (by omega)]; exact go1
      obtain ⟨l, S, q1, q2, q3⟩ := snap_heap (fr := false) 8 hM2
      have hll : l.length = ps.length := by rw [← q1]; simp [pgsOf]
      have hfr := freeRun_call (k := k) (σ := σ2) (many := 1) q3 (by omega) (by omega) (by omega)
      rw [q1] at hfr
      have e1 : ((1 : Nat) : Int) = 1 := rfl
      rw [e1] at hfr
      cases hrun : runL ps 1 with
      | none =>
        have hm1 : runR ps 1 = -1 := by unfold runR; rw [hrun]
        rw [hm1] at hfr
        rw [hrun] at halloc
        have hneg : ((-1 : Int) < 0) := by omega
        simp only [dx, reduceIte, zLt, zLe, zEq, zAd, zMu, zSu, zBe, yEq, yLt, yLe, yTn, reduceCtorEq, sx, fx49, u2, u4, u7, ms2, hfr, hneg, goo]
        refine ⟨_, _, 0, false, rfl, ?_, ?_, ?_, by rw [AMem.get_put, if_pos rfl], fun r hr => ?_, ?_, .inl ⟨rfl, rfl, halloc⟩⟩
        · simp only [Tr.get_set, zEq, reduceIte, u4]
        · simp only [Tr.get_set, zEq, reduceIte]
        · simp only [Tr.get_set, zEq, reduceIte]
        · rw [AMem.get_put, if_neg (by omega), ex.2 r (by omega), ex1.2 r (by omega)]
        · simp only [AMem.next_put]; omega
      | some f =>
        have hm1 : runR ps 1 = (f : Nat) := by unfold runR; rw [hrun]
        rw [hm1] at hfr
        rw [hrun] at halloc
        simp only at halloc
        obtain ⟨hf1, hf2⟩ := runL_some hrun
        have hnn : ¬ (((f : Nat) : Int) < 0) := by omega
        obtain ⟨r, hrr⟩ : ∃ r, r = σ2.next := ⟨_, rfl⟩
        obtain ⟨σ4, hσ4⟩ : ∃ s, s = σ2.push (.row 1 false (boolV (List.replicate m false))) := ⟨_, rfl⟩
        have ex4 : Ext σ2 σ4 := by rw [hσ4]; exact Ext.push _ _
        have n4 : σ4.next = r + 1 := by rw [hσ4, hrr]; simp
        have g4 : σ4.get r = some (.row 1 false (boolV (List.replicate m false))) := by rw [hσ4, hrr, AMem.get_push, if_pos rfl]
        have hrec := hM2.record (σ1 := σ4) (i := f) (by omega) ex4 (by omega) ⟨1, size, List.replicate m false⟩ (.slice r 0 m (some m) 1) (.inr ⟨r, some m, by simp, by omega, by omega, g4⟩)
        obtain ⟨its3, hits3⟩ : ∃ x, x = its.set f ⟨[.int .u8 1, .int .i64 size], .slice r 0 m (some m) 1, boolV (List.replicate m false)⟩ := ⟨_, rfl⟩
        obtain ⟨ps3, hps3⟩ : ∃ x, x = ps.set f ⟨1, size, List.replicate m false⟩ := ⟨_, rfl⟩
        simp only at hrec
        rw [← hits3, ← hps3] at hrec
        have hfi : f < its3.length := by rw [hits3, List.length_set]; omega
        have hx3r : its3[f].x = .slice r 0 m (some m) 1 := by simp only [hits3, List.getElem_set_self]
        have hpf : pgAt ps3 f = ⟨1, size, List.replicate m false⟩ := by rw [hps3, pgAt_set (by omega), if_pos rfl]
        have hrow := hrec.own.mp
        rw [AMem.get_put, if_pos rfl] at hrow
        have hflat := (AObj.row.inj (Option.some.inj hrow)).2.2
        rw [hflat] at hrec
        have hri : ∀ q, q ∈ rowsOf its3 → q < sp ∨ q = r := fun q hq => by
          rw [hits3] at hq
          rcases rowsOf_set_mem hq with h5 | h5
          · exact .inl (hrb q h5)
          · simp only [rowOf, List.mem_singleton] at h5; exact .inr h5
        obtain ⟨its4, hM, hcells4⟩ := hrec.slot (j := 0) hfi (r := r) (cap := some m) (by rw [hx3r, hpf]; simp) true
        have hlen4 : its4.length = its.length := by
          have := congrArg List.length hcells4
          simpa [hits3] using this
        rw [hpf] at hM
        have hfin : ps3.set f (useAt ⟨1, size, List.replicate m false⟩ 0 true) = ps.set f (smallG size) := by
          rw [hps3, List.set_set]
          unfold useAt smallG
          rw [hm, Int.toNat_natCast]
        rw [hfin] at hM
        have hrw4 : ∀ q, q ∈ rowsOf its4 → q ≠ sp + 1 := by
          have hxs : its4.map (fun a => a.x) = its3.map (fun a => a.x) := by
            have hl43 : its4.length = its3.length := by rw [hlen4, hits3, List.length_set]
            apply List.ext_getElem (by simpa using hl43)
            intro t h1 h2
            simp only [List.getElem_map]
            have := congrArg (fun l => l[t]?) hcells4
            simp only [List.getElem?_map] at this
            rw [List.getElem?_eq_getElem (by simpa using h1), List.getElem?_eq_getElem (by simpa using h2)] at this
            simp only [Option.map_some, Option.some.injEq] at this
            unfold MItem.cells at this
            have := congrArg List.getLast? this
            simpa using this
          have hro : rowsOf its4 = rowsOf its3 := by
            unfold rowsOf
            rw [← List.flatMap_map (fun a : MItem => a.x) rowOf, ← List.flatMap_map (fun a : MItem => a.x) rowOf, hxs]
          intro q hq
          rw [hro] at hq
          rcases hri q hq with h5 | h5 <;> omega
        have hltf : ((f : Nat) : Int) < ((its.length : Nat) : Int) := by omega
        have hin3 : f * 3 + 3 ≤ its.length * 3 := by omega
        have w1 : IntKind.i64.wrap ((64 : Int).tdiv size) = ((m : Nat) : Int) := by rw [hm]; exact i64_id (by omega) (by omega)
        have w4 : IntKind.i64.wrap (((f : Nat) : Int) * 64) = 64 * (f : Int) := by rw [i64_id (by omega) (by omega)]; omega
        have cm : (0 : Int) ≤ ((m : Nat) : Int) ∧ ((m : Nat) : Int) ≤ ((m : Nat) : Int) ∧ ((m : Nat) : Int) * ((1 : Nat) : Int) ≤ ((mostBytes : Nat) : Int) ∧ ((m : Nat) : Int) ≤ 9223372036854775807 := by unfold mostBytes; omega
        have hg3 := pg_get (j := 2) hrec.pi hfi (by omega)
        simp only [List.getElem?_cons_succ, List.getElem?_cons_zero, hx3r] at hg3
        have hlt0 : (0 : Int) < ((m : Nat) : Int) := by omega
        have hin0 : 0 + 1 ≤ m := by omega
        have hin0' : 1 ≤ m := by omega
        have ms4 : σ4.get sp = some (.row 2 true [.slice pr 0 its.length none 3, .slice wr 0 ws.length none 1]) := by rw [ex4.2 sp (by omega)]; exact ms2
        have mp4 : σ4.get pr = some (.row 3 true (its.map MItem.cells).flatten) := by rw [ex4.2 pr (by omega)]; exact mp2
        have go4 : σ4.get (sp + 1) = some (.row 2 true [.vs .nil [], .vs .nil []]) := by rw [ex4.2 _ (by omega)]; exact goo
        have qps : ¬ pr = sp := fun e => h.own.ne.1 e.symm
        have qpr : ¬ pr = r := by omega
        have qpo : ¬ pr = sp + 1 := by omega
        have qrs : ¬ r = sp := by omega
        have qro : ¬ r = sp + 1 := by omega
        simp only [dx, reduceIte, zLt, zLe, zEq, zAd, zMu, zSu, zBe, yEq, yLt, yLe, yTn, reduceCtorEq, sx, fx49, u2, u4, u7, ms2, mp2, hfr, hnn, w1, cm, sz0, repZ_bools, Int.toNat_natCast, ← hrr, ← hσ4]
        simp only [dx, reduceIte, zLt, zLe, zEq, zAd, zMu, zSu, zBe, yEq, yLt, yLe, yTn, reduceCtorEq, sx, fx49, u2, u4, u7, ms4, mp4, go4, hltf, hlen, hin3, hflat, w4, qps, qpr, qpo, qrs, qro, hg3, g4, hlt0, hin0, hin0', boolV_length, List.length_replicate, Int.natCast_nonneg, Int.toNat_natCast]
        refine ⟨_, _, 64 * (f : Int), true, rfl, ?_, ?_, ?_, by rw [AMem.get_put, if_pos rfl], fun q hq => ?_, ?_, .inr ⟨rfl, _, _, its4, halloc, rfl, hlen4, go2 hM hrw4⟩⟩
        · simp only [Tr.get_set, zEq, reduceIte, u4]
        · simp only [Tr.get_set, zEq, reduceIte]
        · simp only [Tr.get_set, zEq, reduceIte]
        · rw [AMem.get_put, if_neg (by omega), AMem.get_put, if_neg (by omega), AMem.get_put, if_neg (by omega), ex4.2 q (by omega), ex.2 q (by omega), ex1.2 q (by omega)]
        · simp only [AMem.next_put]; omega
    · rw [hpl] at halloc
      simp only at halloc
      simp only [dx, reduceIte, zLt, zLe, zEq, zAd, zMu, zSu, zBe, yEq, yLt, yLe, yTn, reduceCtorEq, sx, fx49]
      exact ⟨_, _, _, true, rfl, u4, u5, u6, goo, fr, by omega, .inr ⟨rfl, _, _, its', halloc, rfl, hlen', hM'⟩⟩
  obtain ⟨T1, σ', at_, b, r1, r2, r3, r4, r5, r6, r7, hc⟩ := run
  have hcall := fin T1 σ' at_ b r1 r2 r3 r4 r5
  refine ⟨σ', r6, by omega, ?_⟩
  rcases hc with ⟨rfl, rfl, ha⟩ | ⟨rfl, qs, bl, its', ha, rfl, hl', hM'⟩
  · exact .inl ⟨ha, hcall⟩
  · exact .inr ⟨qs, bl, its', ha, hl', hcall, hM'⟩
end Go.Proofs.Ytjkfdiglokkceaa

/- Heaps: the reference's Alloc. -/
set_option maxRecDepth 100000
set_option linter.unusedSimpArgs false
set_option linter.unusedVariables false
namespace Go.Proofs.Ytjkfdiglokkceaa
open Go Go.Proofs.Ytjkfdiglokkceaa.Pale
variable {k : Nat} {σ : AMem}

theorem rallocated_exec {low pr wr : Nat} {its : List MItem} {ps : List Pg} {ws : List Int} {n : Int} (h : HeapM low (σ.push (.row 2 true [.slice pr 0 its.length none 3, .slice wr 0 ws.length none 1])) σ.next pr none wr none its ps ws) (hr : RightH ps ws) (h1 : 1 ≤ n) (h2 : n ≤ 2560) (hk : 4000 ≤ k) :
    ∃ σ', (∀ r, r < low → σ'.get r = σ.get r) ∧ σ.next ≤ σ'.next ∧
    ((allocL ps n = none ∧ callN lawProg (k + 1) (.func 49 [] []) [.agg [.slice pr 0 its.length none 3, .slice wr 0 ws.length none 1], .int .i64 n] σ = some (.tuple [.agg [.slice pr 0 its.length none 3, .slice wr 0 ws.length none 1], .int .i64 0, .bool false], σ')) ∨
    (∃ qs b its', allocL ps n = some (qs, b) ∧ its'.length = its.length ∧ callN lawProg (k + 1) (.func 49 [] []) [.agg [.slice pr 0 its.length none 3, .slice wr 0 ws.length none 1], .int .i64 n] σ = some (.tuple [.agg [.slice pr 0 its.length none 3, .slice wr 0 ws.length none 1], .int .i64 b.at_, .bool true], σ') ∧ HeapM low σ' σ.next pr none wr none its' qs ws)) := by
  obtain ⟨m, rfl⟩ : ∃ m : Nat, n = (m : Nat) := ⟨n.toNat, by omega⟩
  by_cases h32 : m ≤ 32
  · exact rallocated_small h hr (by omega) h32 hk
  · have hq : ((((m : Nat) : Int) + 63) / 64).toNat = (m + 63) / 64 := by omega
    have hq2 : (((m : Nat) : Int) + 63) / 64 = (((m + 63) / 64 : Nat) : Int) := by omega
    have ha : allocL ps (m : Nat) = match runL ps ((m + 63) / 64) with
        | some f => some (setRun ps f ((m + 63) / 64) (bigG ((m + 63) / 64)), ⟨f, 0, 64 * f, 64 * (((m + 63) / 64 : Nat) : Int)⟩)
        | none => none := by
      unfold allocL
      rw [if_pos (by omega), hq, hq2]
      rfl
    obtain ⟨σ', g1, g2, ⟨g3, g4⟩ | ⟨f, its', g3, g4, g5, g6⟩⟩ := rallocated_big (k := k) (n := m) h hr (by omega) (by omega) hk
    · exact ⟨σ', g1, g2, .inl ⟨by rw [ha, g3], g4⟩⟩
    · refine ⟨σ', g1, g2, .inr ⟨_, _, its', by rw [ha, g3], g4, ?_, g6⟩⟩
      rw [g5]
      simp only [Int.natCast_mul]
      rfl
set_option maxHeartbeats 1000000 in
theorem RAlloc_run {v : AVal} {ps : List Pg} {ws : List Int} (n : Int) (hv : VH v ps ws) (hb : Bd ps ws) (hk : 9000 ≤ k) : ∃ v', pureRun (callN lawProg (k + 1)) (.func 29 [] []) [v, .int .i64 n] = some (.tuple [v', .int .i64 (allocH ps ws n).at_, .int .i64 (allocH ps ws n).e], true) ∧ VH v' (allocH ps ws n).ps (allocH ps ws n).ws := by
  have hv0 := hv
  obtain ⟨kp, kw, l, rfl, rfl, hkp, hkw, hgood⟩ := hv
  obtain ⟨b1, b2, b3⟩ := hb
  have hlp : (pgsOf l).length = l.length := by simp [pgsOf]
  have hri := fun (σ : AMem) => isRight_call (k := k) (σ := σ) kp kw l ws (fun x hx => b3 x.1 (List.mem_map.2 ⟨x, hx, rfl⟩)) (by omega) (by omega) (by omega)
  have hin := fun (σ : AMem) => in_call (k := k) (σ := σ) n 1 2560 (by omega)
  unfold hpV at hri ⊢
  obtain ⟨σ0, hσ0⟩ : ∃ s, s = (AMem.empty.push (.row 2 true [.vs kp (l.map pv), .vs kw (intV ws)])).push (.row 2 true [.vs .nil [], .vs .nil []]) := ⟨_, rfl⟩
  have n0 : σ0.next = 2 := by rw [hσ0]; simp [next_empty]
  have g0 : σ0.get 0 = some (.row 2 true [.vs kp (l.map pv), .vs kw (intV ws)]) := by rw [hσ0]; simp [AMem.get_push, next_empty]
  have g1 : σ0.get 1 = some (.row 2 true [.vs .nil [], .vs .nil []]) := by rw [hσ0]; simp [AMem.get_push, next_empty]
  have fin : ∀ (T1 : Tr AVal) (σ' : AMem) (o0 o1 : AVal) (at_ e : Int) (v' : AVal) (S : List Nat) (qs : List Pg) (us : List Int), execC lawProg (callN lawProg k) k 29 31 (bodyOf Try.f29) (initT 0 [.agg [.vs kp (l.map pv), .vs kw (intV ws)], .int .i64 n] .nil) AMem.empty = some (.ret, T1, σ') → T1.get 4 = some (.ptr 1 0) → T1.get 5 = some (.int .i64 at_) → T1.get 6 = some (.int .i64 e) → σ'.get 1 = some (.row 2 true [o0, o1]) → snapF true σ' 11 (.agg [o0, o1]) = some (v', S) → VH v' qs us → ∃ v', pureRun (callN lawProg (k + 1)) (.func 29 [] []) [.agg [.vs kp (l.map pv), .vs kw (intV ws)], .int .i64 n] = some (.tuple [v', .int .i64 at_, .int .i64 e], true) ∧ VH v' qs us := by
    intro T1 σ' o0 o1 at_ e v' S qs us r1 r2 r3 r4 r5 hS hvh
    refine ⟨v', ?_, hvh⟩
    refine pureRun_of (vs := [.agg [o0, o1], .int .i64 at_, .int .i64 e]) (seen := S ++ ([] ++ ([] ++ []))) fn29 rfl (by simp [Try.f29]) r1 (by simp) ?_ ?_
    · simp only [Try.f29, resultsA, resultA, dx, reduceIte, zLt, zLe, zEq, zAd, zMu, zSu, zBe, yEq, yLt, yLe, yTn, reduceCtorEq, sx, fx29, r2, r3, r4, r5]
    · have c1 : snapF true σ' 11 (.int .i64 at_) = some (.int .i64 at_, []) := rfl
      have c2 : snapF true σ' 11 (.int .i64 e) = some (.int .i64 e, []) := rfl
      show snapF true σ' (11 + 1) (.tuple [.agg [o0, o1], .int .i64 at_, .int .i64 e]) = _
      rw [snapF]
      simp only [snapL, hS, c1, c2, Option.map_some]
  cases hrb : rightB (pgsOf l) ws with
  | false =>
    have hres : allocH (pgsOf l) ws n = ⟨[], [], 0, 4⟩ := by unfold allocH; rw [hrb]; simp
    rw [hres]
    rw [hrb] at hri
    have run : ∃ T1, execC lawProg (callN lawProg k) k 29 31 (bodyOf Try.f29) (initT 0 [.agg [.vs kp (l.map pv), .vs kw (intV ws)], .int .i64 n] .nil) AMem.empty = some (.ret, T1, σ0.put 1 (.row 2 true [.vs .nil [], .vs .nil []])) ∧ T1.get 4 = some (.ptr 1 0) ∧ T1.get 5 = some (.int .i64 0) ∧ T1.get 6 = some (.int .i64 4) := by
      simp only [bodyOf, Try.f29, Option.getD_some, initT, dx, reduceIte, zLt, zLe, zEq, zAd, zMu, zSu, zBe, yEq, yLt, yLe, yTn, reduceCtorEq, sx, fx29, ← hσ0]
      simp only [dx, reduceIte, zLt, zLe, zEq, zAd, zMu, zSu, zBe, yEq, yLt, yLe, yTn, reduceCtorEq, sx, fx29, g0, g1, hri]
      exact ⟨_, rfl, by simp only [Tr.get_set, zEq, reduceIte], by simp only [Tr.get_set, zEq, reduceIte], by simp only [Tr.get_set, zEq, reduceIte]⟩
    obtain ⟨T1, r1, r2, r3, r4⟩ := run
    exact fin T1 _ _ _ 0 4 _ _ [] [] r1 r2 r3 r4 (by rw [AMem.get_put, if_pos rfl]) (snap_hp0 _ 9) nil_vh
  | true =>
    have hright := rightB_iff.1 hrb
    rw [hrb] at hri
    by_cases hn : 1 ≤ n ∧ n ≤ 2560
    · rw [decide_eq_true hn] at hin
      have hmany := hright.many
      have hwl := hright.len
      obtain ⟨σ2, X, W, its, hcp, ex2, hC⟩ := copy_exec (k := k - 1) (σ := σ0) hv0 ⟨b1, b2, b3⟩ (by omega)
      rw [show k - 1 + 1 = k by omega] at hcp
      unfold hpV at hcp
      rw [n0] at hC
      obtain ⟨pr, wr, rfl, rfl, hM⟩ := hC.heap (by omega) (by omega)
      obtain ⟨σ3, fr, nx, hcase⟩ := rallocated_exec (k := k - 1) (n := n) hM hright hn.1 hn.2 (by omega)
      rw [show k - 1 + 1 = k by omega] at hcase
      have hx2 := ex2.1
      obtain ⟨c, hc⟩ : ∃ c, c = σ3.next := ⟨_, rfl⟩
      obtain ⟨σ4, hσ4⟩ : ∃ s, s = (σ3.push (.row 2 true [.vs .nil [], .vs .nil []])).put c (.row 2 true [.slice pr 0 its.length none 3, .slice wr 0 ws.length none 1]) := ⟨_, rfl⟩
      have ex4 : Ext σ3 σ4 := by rw [hσ4]; exact (Ext.push _ _).put _ _ (by omega)
      have gc4 : σ4.get c = some (.row 2 true [.slice pr 0 its.length none 3, .slice wr 0 ws.length none 1]) := by rw [hσ4, AMem.get_put, if_pos rfl]
      have g14 : σ4.get 1 = some (.row 2 true [.vs .nil [], .vs .nil []]) := by rw [ex4.2 1 (by omega), fr 1 (by omega), ex2.2 1 (by omega)]; exact g1
      rcases hcase with ⟨hal, hcl⟩ | ⟨qs, b, its', hal, hlen', hcl, hM'⟩
      · have hres : allocH (pgsOf l) ws n = ⟨[], [], 0, 8⟩ := by unfold allocH; rw [hrb, if_pos rfl, if_pos hn, hal]
        rw [hres]
        have run : ∃ T1, execC lawProg (callN lawProg k) k 29 31 (bodyOf Try.f29) (initT 0 [.agg [.vs kp (l.map pv), .vs kw (intV ws)], .int .i64 n] .nil) AMem.empty = some (.ret, T1, σ4.put 1 (.row 2 true [.vs .nil [], .vs .nil []])) ∧ T1.get 4 = some (.ptr 1 0) ∧ T1.get 5 = some (.int .i64 0) ∧ T1.get 6 = some (.int .i64 8) := by
          simp only [bodyOf, Try.f29, Option.getD_some, initT, dx, reduceIte, zLt, zLe, zEq, zAd, zMu, zSu, zBe, yEq, yLt, yLe, yTn, reduceCtorEq, sx, fx29, ← hσ0]
          simp only [dx, reduceIte, zLt, zLe, zEq, zAd, zMu, zSu, zBe, yEq, yLt, yLe, yTn, reduceCtorEq, sx, fx29, g0, g1, hri, hin, hcp, hcl, ← hc, ← hσ4]
          simp only [dx, reduceIte, zLt, zLe, zEq, zAd, zMu, zSu, zBe, yEq, yLt, yLe, yTn, reduceCtorEq, sx, fx29, gc4, g14]
          exact ⟨_, rfl, by simp only [Tr.get_set, zEq, reduceIte], by simp only [Tr.get_set, zEq, reduceIte], by simp only [Tr.get_set, zEq, reduceIte]⟩
        obtain ⟨T1, r1, r2, r3, r4⟩ := run
        exact fin T1 _ _ _ 0 8 _ _ [] [] r1 r2 r3 r4 (by rw [AMem.get_put, if_pos rfl]) (snap_hp0 _ 9) nil_vh
      · have hres : allocH (pgsOf l) ws n = ⟨qs, ws, b.at_, 0⟩ := by unfold allocH; rw [hrb, if_pos rfl, if_pos hn, hal]
        rw [hres]
        have run : ∃ T1, execC lawProg (callN lawProg k) k 29 31 (bodyOf Try.f29) (initT 0 [.agg [.vs kp (l.map pv), .vs kw (intV ws)], .int .i64 n] .nil) AMem.empty = some (.ret, T1, σ4.put 1 (.row 2 true [.slice pr 0 its.length none 3, .slice wr 0 ws.length none 1])) ∧ T1.get 4 = some (.ptr 1 0) ∧ T1.get 5 = some (.int .i64 b.at_) ∧ T1.get 6 = some (.int .i64 0) := by
          simp only [bodyOf, Try.f29, Option.getD_some, initT, dx, reduceIte, zLt, zLe, zEq, zAd, zMu, zSu, zBe, yEq, yLt, yLe, yTn, reduceCtorEq, sx, fx29, ← hσ0]
          simp only [dx, reduceIte, zLt, zLe, zEq, zAd, zMu, zSu, zBe, yEq, yLt, yLe, yTn, reduceCtorEq, sx, fx29, g0, g1, hri, hin, hcp, hcl, ← hc, ← hσ4]
          simp only [dx, reduceIte, zLt, zLe, zEq, zAd, zMu, zSu, zBe, yEq, yLt, yLe, yTn, reduceCtorEq, sx, fx29, gc4, g14]
          exact ⟨_, rfl, by simp only [Tr.get_set, zEq, reduceIte], by simp only [Tr.get_set, zEq, reduceIte], by simp only [Tr.get_set, zEq, reduceIte]⟩
        obtain ⟨T1, r1, r2, r3, r4⟩ := run
        have hM5 : HeapM 2 (σ4.put 1 (.row 2 true [.slice pr 0 its.length none 3, .slice wr 0 ws.length none 1])) σ2.next pr none wr none its' qs ws := (hM'.ext ex4).agree (fun r hr => by rw [AMem.get_put, if_neg (by omega)]) (by simp)
        obtain ⟨v', S, hS, hvh⟩ := hM5.vh (fr := true) 7
        rw [hlen'] at hS
        exact fin T1 _ _ _ b.at_ 0 v' S qs ws r1 r2 r3 r4 (by rw [AMem.get_put, if_pos rfl]) hS hvh
    · rw [decide_eq_false hn] at hin
      have hres : allocH (pgsOf l) ws n = ⟨[], [], 0, 3⟩ := by unfold allocH; rw [hrb, if_pos rfl, if_neg hn]
      rw [hres]
      have run : ∃ T1, execC lawProg (callN lawProg k) k 29 31 (bodyOf Try.f29) (initT 0 [.agg [.vs kp (l.map pv), .vs kw (intV ws)], .int .i64 n] .nil) AMem.empty = some (.ret, T1, σ0.put 1 (.row 2 true [.vs .nil [], .vs .nil []])) ∧ T1.get 4 = some (.ptr 1 0) ∧ T1.get 5 = some (.int .i64 0) ∧ T1.get 6 = some (.int .i64 3) := by
        simp only [bodyOf, Try.f29, Option.getD_some, initT, dx, reduceIte, zLt, zLe, zEq, zAd, zMu, zSu, zBe, yEq, yLt, yLe, yTn, reduceCtorEq, sx, fx29, ← hσ0]
        simp only [dx, reduceIte, zLt, zLe, zEq, zAd, zMu, zSu, zBe, yEq, yLt, yLe, yTn, reduceCtorEq, sx, fx29, g0, g1, hri, hin]
        exact ⟨_, rfl, by simp only [Tr.get_set, zEq, reduceIte], by simp only [Tr.get_set, zEq, reduceIte], by simp only [Tr.get_set, zEq, reduceIte]⟩
      obtain ⟨T1, r1, r2, r3, r4⟩ := run
      exact fin T1 _ _ _ 0 3 _ _ [] [] r1 r2 r3 r4 (by rw [AMem.get_put, if_pos rfl]) (snap_hp0 _ 9) nil_vh
theorem RAlloc_call {v : AVal} {ps : List Pg} {ws : List Int} (n : Int) (hv : VH v ps ws) (hb : Bd ps ws) (hk : 9001 ≤ k) : ∃ v', (∀ σ, pureCall lawProg (callN lawProg k) (.func 29 [] []) [v, .int .i64 n] σ = some (.tuple [v', .int .i64 (allocH ps ws n).at_, .int .i64 (allocH ps ws n).e], σ)) ∧ VH v' (allocH ps ws n).ps (allocH ps ws n).ws := by
  obtain ⟨k, rfl⟩ : ∃ m, k = m + 1 := ⟨k - 1, by omega⟩
  obtain ⟨v', h1, h2⟩ := RAlloc_run n hv hb (k := k) (by omega)
  refine ⟨v', fun σ => pureCall_of (seen := [] ++ ([] ++ [])) ?_ (memo29 _) h1, h2⟩
  have := hv.snap σ 10
  simp only [snapL, snapDepth, this, snapF]
end Go.Proofs.Ytjkfdiglokkceaa

/- Heaps: the reference's sizeOf and ask. -/
set_option maxRecDepth 100000
set_option linter.unusedSimpArgs false
set_option linter.unusedVariables false
namespace Go.Proofs.Ytjkfdiglokkceaa
open Go Go.Proofs.Ytjkfdiglokkceaa.Pale
variable {k : Nat} {σ : AMem}

theorem isRight_vh0 {v : AVal} {ps : List Pg} {ws : List Int} (hv : VH v ps ws) (hb : Bd ps ws) (hk : 6000 ≤ k) (σ : AMem) : pureCall lawProg (callN lawProg k) (.func 24 [] []) [v] σ = some (.bool (rightB ps ws), σ) := by
  obtain ⟨kp, kw, l, rfl, rfl, _⟩ := hv
  have hl : (pgsOf l).length = l.length := by simp [pgsOf]
  obtain ⟨b1, b2, b3⟩ := hb
  exact isRight_call kp kw l ws (fun z hz => b3 z.1 (List.mem_map.2 ⟨z, hz, rfl⟩)) (by omega) (by omega) hk
def sizeL (ps : List Pg) (a : Int) : Int := match findL ps a with
  | some b => b.size
  | none => 0
theorem sizeOf_call' {v : AVal} {ps : List Pg} {ws : List Int} (a : Int) (hv : VH v ps ws) (hsh : Shape ps) (hl : ps.length ≤ 40) (hk : 9000 ≤ k) : pureCall lawProg (callN lawProg k) (.func 76 [] []) [v, .int .i64 a] σ = some (.int .i64 (sizeL ps a), σ) := by
  obtain ⟨k, rfl⟩ : ∃ m, k = m + 1 := ⟨k - 1, by omega⟩
  have hv0 := hv
  obtain ⟨kp, kw, l, rfl, rfl, _⟩ := hv
  have hlp : (pgsOf l).length = l.length := by simp [pgsOf]
  have hbl := fun (σ : AMem) => blocks_call (k := k) (σ := σ) kp kw l ws hsh (by omega) (by omega)
  obtain ⟨L, hL⟩ : ∃ L, L = blocksL (pgsOf l) := ⟨_, rfl⟩
  have hLl : L.length ≤ 2560 := by
    have := (blocks_len hsh (pgsOf l).length (Nat.le_refl _)).1
    rw [hL]
    unfold blocksL
    omega
  rw [← hL] at hbl
  have run : ∃ T1 σ1, execC lawProg (callN lawProg k) k 76 27 (bodyOf Try.f76) (initT 0 [hpV kp kw l ws, .int .i64 a] .nil) AMem.empty = some (.ret, T1, σ1) ∧ T1.get 4 = some (.int .i64 (sizeL (pgsOf l) a)) := by
    unfold hpV at hbl ⊢
    simp only [bodyOf, Try.f76, Option.getD_some, initT, dx, reduceIte, zLt, zLe, zEq, zAd, zMu, zSu, zBe, yEq, yLt, yLe, yTn, reduceCtorEq, sx, fx76, hbl]
    generalize hLp : execC _ _ _ _ _ (Code.loop _) _ _ = q
    obtain ⟨e, T', σ', rfl, _, hc⟩ : ∃ e T' σ', q = some (e, T', σ') ∧ e ≠ .normal ∧ ((e = .ret ∧ ∃ b, findL (pgsOf l) a = some b ∧ T'.get 4 = some (.int .i64 b.size)) ∨ (e = .exit 0 ∧ findL (pgsOf l) a = none)) := by
      rw [← hLp]
      have hkL : L.length < k := by omega
      · refine exec_loop2 (fun i T σ' => i ≤ L.length ∧ T.get 1 = some (.int .i64 a) ∧ T.get 5 = some (.vs (lkOf L.length) (prsV L)) ∧ T.get 6 = some (.int .i64 (i : Nat)) ∧ ∀ b, b ∈ L.take i → b.at_ ≠ a) L.length hkL ?_ ?_ ?_
        · rintro i hi T σ0 ⟨_, t1, t5, t6, hall⟩
          have hlt : ((i : Nat) : Int) < ((L.length : Nat) : Int) := by omega
          have hw' := i64_succ (i := i) (by omega)
          have hget := prsV_get hi
          have i12 : (1 : Int) < ((2 : Nat) : Int) := by decide
          have i02 : (0 : Int) < ((2 : Nat) : Int) := by decide
          by_cases he : (L[i]).at_ = a
          · have hb1 : ((L[i]).at_ == a) = true := by rw [he]; simp
            refine .inr ⟨_, _, _, by
              simp only [dx, reduceIte, zLt, zLe, zEq, zAd, zMu, zSu, zBe, yEq, yLt, yLe, yTn, reduceCtorEq, sx, fx76, t1, t5, t6, hlt, prsV_length, Int.natCast_nonneg, Int.toNat_natCast, hget, i02, i12, hb1]
              rfl, by simp, .inl ⟨rfl, L[i], ?_, ?_⟩⟩
            · unfold findL
              rw [← hL]
              have hs : L = L.take i ++ L[i] :: L.drop (i + 1) := by
                rw [List.getElem_cons_drop, List.take_append_drop]
              conv => lhs; rw [hs]
              rw [List.find?_append, List.find?_eq_none.2 (fun x hx => by simpa using hall x hx), List.find?_cons, hb1]
              rfl
            · simp only [Tr.get_set, zEq, reduceIte]
          · have hb1 : ((L[i]).at_ == a) = false := by rw [beq_eq_false_iff_ne]; exact he
            refine .inl ⟨_, _, by
              simp only [dx, reduceIte, zLt, zLe, zEq, zAd, zMu, zSu, zBe, yEq, yLt, yLe, yTn, reduceCtorEq, sx, fx76, t1, t5, t6, hlt, prsV_length, Int.natCast_nonneg, Int.toNat_natCast, hget, i02, i12, hb1, hw']
              rfl, by omega, ?_, ?_, ?_, take_all hi hall he⟩
            · simp only [Tr.get_set, zEq, reduceIte, t1]
            · simp only [Tr.get_set, zEq, reduceIte, t5]
            · simp only [Tr.get_set, zEq, reduceIte]
        · rintro T σ0 ⟨_, t1, t5, t6, hall⟩
          have hge : ¬ (((L.length : Nat) : Int) < ((L.length : Nat) : Int)) := by omega
          rw [List.take_length] at hall
          refine ⟨_, _, _, by
            simp only [dx, reduceIte, zLt, zLe, zEq, zAd, zMu, zSu, zBe, yEq, yLt, yLe, yTn, reduceCtorEq, sx, fx76, t5, t6, prsV_length, hge]
            rfl, by simp, .inr ⟨rfl, ?_⟩⟩
          unfold findL
          rw [← hL, List.find?_eq_none]
          intro x hx
          simpa using hall x hx
        · refine ⟨Nat.zero_le _, ?_, ?_, ?_, by simp⟩
          all_goals simp only [Tr.get_set, zEq, reduceIte] <;> rfl
    rcases hc with ⟨rfl, b, h1, h2⟩ | ⟨rfl, h1⟩
    · simp only [dx, reduceIte, zLt, zLe, zEq, zAd, zMu, zSu, zBe, yEq, yLt, yLe, yTn, reduceCtorEq, sx, fx76]
      exact ⟨_, _, rfl, by rw [h2]; unfold sizeL; rw [h1]⟩
    · simp only [dx, reduceIte, zLt, zLe, zEq, zAd, zMu, zSu, zBe, yEq, yLt, yLe, yTn, reduceCtorEq, sx, fx76]
      exact ⟨_, _, rfl, by unfold sizeL; rw [h1]; simp only [Tr.get_set, zEq, reduceIte]⟩
  obtain ⟨T1, σ1, h1, h2⟩ := run
  refine pureCall_of (args' := [hpV kp kw l ws, .int .i64 a]) (seen := [] ++ ([] ++ [])) ?_ (memo76 _) (pureRun_of fn76 rfl (by simp [Try.f76]) h1 (by simp) (res_one h2) rfl)
  have := hv0.snap σ 10
  simp only [snapL, snapDepth, this, snapF]
noncomputable def askH (ps : List Pg) (ws : List Int) (a : Int) : Int × Int := if rightB ps ws then (match findL ps a with
    | some b => (b.size, 0)
    | none => (0, 7)) else (0, 4)
theorem ask_call {v : AVal} {ps : List Pg} {ws : List Int} (a : Int) (hv : VH v ps ws) (hb : Bd ps ws) (hk : 9001 ≤ k) : pureCall lawProg (callN lawProg k) (.func 56 [] []) [v, .int .i64 a] σ = some (.tuple [.int .i64 (askH ps ws a).1, .int .i64 (askH ps ws a).2], σ) := by
  obtain ⟨k, rfl⟩ : ∃ m, k = m + 1 := ⟨k - 1, by omega⟩
  have hsn := hv.snap σ 10
  obtain ⟨X, Y, rfl, hX, hY⟩ := hv.cells
  have hri := isRight_vh0 (k := k) hv hb (by omega)
  have run : ∃ T1 σ1, execC lawProg (callN lawProg k) k 56 16 (bodyOf Try.f56) (initT 0 [.agg [X, Y], .int .i64 a] .nil) AMem.empty = some (.ret, T1, σ1) ∧ T1.get 4 = some (.int .i64 (askH ps ws a).1) ∧ T1.get 5 = some (.int .i64 (askH ps ws a).2) := by
    cases hrb : rightB ps ws with
    | false =>
      rw [hrb] at hri
      have hres : askH ps ws a = (0, 4) := by unfold askH; rw [hrb]; rfl
      rw [hres]
      simp only [bodyOf, Try.f56, Option.getD_some, initT, dx, reduceIte, zLt, zLe, zEq, zAd, zMu, zSu, zBe, yEq, yLt, yLe, yTn, reduceCtorEq, sx, fx56, hX, hY, hri]
      exact ⟨_, _, rfl, by simp only [Tr.get_set, zEq, reduceIte], by simp only [Tr.get_set, zEq, reduceIte]⟩
    | true =>
      rw [hrb] at hri
      have hright := rightB_iff.1 hrb
      have hsz := fun (σ : AMem) => sizeOf_call' (k := k) (σ := σ) a hv hright.shape hright.many.2 (by omega)
      cases hf : findL ps a with
      | none =>
        have hs0 : sizeL ps a = 0 := by unfold sizeL; rw [hf]
        rw [hs0] at hsz
        have hres : askH ps ws a = (0, 7) := by unfold askH; rw [hrb, if_pos rfl, hf]
        rw [hres]
        have h0 : ¬ ((0 : Int) > 0) := by omega
        simp only [bodyOf, Try.f56, Option.getD_some, initT, dx, reduceIte, zLt, zLe, zEq, zAd, zMu, zSu, zBe, yEq, yLt, yLe, yTn, reduceCtorEq, sx, fx56, hX, hY, hri, hsz, h0]
        exact ⟨_, _, rfl, by simp only [Tr.get_set, zEq, reduceIte], by simp only [Tr.get_set, zEq, reduceIte]⟩
      | some b =>
        have hs0 : sizeL ps a = b.size := by unfold sizeL; rw [hf]
        rw [hs0] at hsz
        have hres : askH ps ws a = (b.size, 0) := by unfold askH; rw [hrb, if_pos rfl, hf]
        rw [hres]
        obtain ⟨_, n, _, hn, hn1, _⟩ := blk_nat hright (findL_some hf).1
        have h0 : b.size > 0 := by omega
        simp only [bodyOf, Try.f56, Option.getD_some, initT, dx, reduceIte, zLt, zLe, zEq, zAd, zMu, zSu, zBe, yEq, yLt, yLe, yTn, reduceCtorEq, sx, fx56, hX, hY, hri, hsz, h0]
        exact ⟨_, _, rfl, by simp only [Tr.get_set, zEq, reduceIte], by simp only [Tr.get_set, zEq, reduceIte]⟩
  obtain ⟨T1, σ1, h1, h2, h3⟩ := run
  refine pureCall_of (args' := [.agg [X, Y], .int .i64 a]) (seen := [] ++ ([] ++ [])) ?_ (memo56 _) (pureRun_of fn56 rfl (by simp [Try.f56]) h1 (by simp) (res_two h2 h3) rfl)
  simp only [snapL, snapDepth, hsn, snapF]
end Go.Proofs.Ytjkfdiglokkceaa

/- Heaps: the reference's Free. -/
set_option maxRecDepth 100000
set_option linter.unusedSimpArgs false
set_option linter.unusedVariables false
namespace Go.Proofs.Ytjkfdiglokkceaa
open Go Go.Proofs.Ytjkfdiglokkceaa.Pale
variable {k : Nat} {σ : AMem}

theorem many_run (x : PV) (hn : x.1.used.length ≤ 1000) (hk : 2000 ≤ k) : pureRun (callN lawProg (k + 1)) (.func 57 [] []) [pv x] = some (.int .i64 ((x.1.used.countP id : Nat) : Int), true) := by
  obtain ⟨⟨kd, n, l⟩, vk⟩ := x
  simp only at hn ⊢
  have run : ∃ T1 σ1, execC lawProg (callN lawProg k) k 57 20 (bodyOf Try.f57) (initT 0 [.agg [.int .u8 kd, .int .i64 n, .vs vk (boolV l)]] .nil) AMem.empty = some (.ret, T1, σ1) ∧ T1.get 2 = some (.int .i64 ((l.countP id : Nat) : Int)) := by
    simp only [bodyOf, Try.f57, Option.getD_some, initT, dx, reduceIte, zLt, zLe, zEq, zAd, zMu, zSu, zBe, yEq, yLt, yLe, yTn, reduceCtorEq, sx, fx57]
    generalize hL : execC _ _ _ _ _ (Code.loop _) _ _ = q
    obtain ⟨e, T', σ', rfl, _, rfl, h3⟩ : ∃ e T' σ', q = some (e, T', σ') ∧ e ≠ .normal ∧ (e = .exit 0 ∧ T'.get 3 = some (.int .i64 ((l.countP id : Nat) : Int))) := by
      rw [← hL]
      refine exec_loop (fun i T σ => i ≤ l.length ∧ T.get 1 = some (.ptr 0 0) ∧ T.get 3 = some (.int .i64 (((l.take i).countP id : Nat) : Int)) ∧ T.get 4 = some (.int .i64 (i : Nat)) ∧ σ.get 0 = some (.row 3 true [.int .u8 kd, .int .i64 n, .vs vk (boolV l)])) l.length (by omega) ?_ ?_ ?_
      · rintro i hi T σ ⟨_, t1, t3, t4, m0⟩
        have hlt : (i : Int) < l.length := by omega
        have hw := i64_succ (i := i) (by omega)
        have hget := boolV_get hi
        have hc := List.countP_le_length (p := id) (l := l.take i)
        rw [List.length_take] at hc
        have hstep : (l.take (i + 1)).countP id = (l.take i).countP id + if l[i] then 1 else 0 := by
          rw [List.take_succ_eq_append_getElem hi, List.countP_append, List.countP_singleton]
          rfl
        cases hb : l[i] with
        | true =>
          rw [hb] at hget hstep
          have hw2 := i64_succ (i := (l.take i).countP id) (by omega)
          refine ⟨_, _, by
            simp only [dx, reduceIte, zLt, zLe, zEq, zAd, zMu, zSu, zBe, yEq, yLt, yLe, yTn, reduceCtorEq, sx, fx57, t1, t3, t4, m0, hlt, boolV_length, Int.natCast_nonneg, Int.toNat_natCast, hget, hw, hw2]
            rfl, by omega, ?_, ?_, ?_, m0⟩
          · simp only [Tr.get_set, zEq, reduceIte, t1]
          · simp only [Tr.get_set, zEq, reduceIte]; rw [hstep]; rfl
          · simp only [Tr.get_set, zEq, reduceIte]
        | false =>
          rw [hb] at hget hstep
          refine ⟨_, _, by
            simp only [dx, reduceIte, zLt, zLe, zEq, zAd, zMu, zSu, zBe, yEq, yLt, yLe, yTn, reduceCtorEq, sx, fx57, t1, t3, t4, m0, hlt, boolV_length, Int.natCast_nonneg, Int.toNat_natCast, hget, hw]
            rfl, by omega, ?_, ?_, ?_, m0⟩
          · simp only [Tr.get_set, zEq, reduceIte, t1]
          · simp only [Tr.get_set, zEq, reduceIte, t3]; rw [hstep]; rfl
          · simp only [Tr.get_set, zEq, reduceIte]
      · rintro T σ ⟨_, t1, t3, t4, m0⟩
        have hge : ¬ (((l.length : Nat) : Int) < ((l.length : Nat) : Int)) := by omega
        rw [List.take_length] at t3
        refine ⟨_, _, _, by
          simp only [dx, reduceIte, zLt, zLe, zEq, zAd, zMu, zSu, zBe, yEq, yLt, yLe, yTn, reduceCtorEq, sx, fx57, t1, t4, m0, boolV_length, hge]
          rfl, by simp, rfl, ?_⟩
        simp only [Tr.get_set, zEq, reduceIte, t3]
      · refine ⟨Nat.zero_le _, ?_, ?_, ?_, ?_⟩
        · simp only [Tr.get_set, zEq, reduceIte]
        · simp only [Tr.get_set, zEq, reduceIte]; rfl
        · simp only [Tr.get_set, zEq, reduceIte]; rfl
        · simp only [AMem.get_push, next_empty, reduceIte]
    simp only [dx, reduceIte, zLt, zLe, zEq, zAd, zMu, zSu, zBe, yEq, yLt, yLe, yTn, reduceCtorEq, sx, fx57, h3]
    exact ⟨_, _, rfl, by simp only [Tr.get_set, zEq, reduceIte]⟩
  obtain ⟨T1, σ1, h1, h2⟩ := run
  exact pureRun_of fn57 rfl (by simp [Try.f57]) h1 (by simp) (res_one h2) rfl
/-- A value that reads as a page, out of memory. -/
theorem many_snap {x : AVal} {S : List Nat} {p : PV} (hx : snapF false σ snapDepth x = some (pv p, S)) (hn : p.1.used.length ≤ 1000) (hk : 2001 ≤ k) : pureCall lawProg (callN lawProg k) (.func 57 [] []) [x] σ = some (.int .i64 ((p.1.used.countP id : Nat) : Int), σ) :=
  by
  obtain ⟨k, rfl⟩ : ∃ m, k = m + 1 := ⟨k - 1, by omega⟩
  exact pureCall_of (args' := [pv p]) (seen := S ++ []) (by simp only [snapL, hx]) (memo57 _) (many_run p hn (by omega))
theorem count_any (l : List Bool) : l.any id = !(((l.countP id : Nat) : Int) == 0) := by
  induction l with
  | nil => rfl
  | cons b l ih =>
    cases b with
    | true =>
      have h1 : (List.countP id (true :: l) : Nat) = l.countP id + 1 := by simp
      rw [h1]
      have : (((l.countP id + 1 : Nat) : Int) == 0) = false := by rw [beq_eq_false_iff_ne]; omega
      rw [this]
      rfl
    | false =>
      have h1 : (List.countP id (false :: l) : Nat) = l.countP id := by simp
      rw [h1, ← ih]
      rfl
def partB (lo j : Nat) : Blk := ⟨0, 0, (lo : Nat), (j : Nat)⟩
theorem clear_ext {ws : List Int} {b c : Blk} (h1 : b.at_ = c.at_) (h2 : b.size = c.size) : clearW ws b = clearW ws c := by
  unfold clearW
  rw [h1, h2]
theorem clear_none (ws : List Int) (lo : Nat) : clearW ws (partB lo 0) = ws := by
  apply clear_same
  intro k h1 h2
  simp only [partB] at h1 h2
  omega
theorem clear_next {ws : List Int} {lo j : Nat} (h : lo + j < ws.length) : (intV (clearW ws (partB lo j))).set (lo + j) (.int .i64 0) = intV (clearW ws (partB lo (j + 1))) := by
  apply List.ext_getElem?
  intro i
  rw [List.getElem?_set, intV_length, clearW_length]
  by_cases hi : i < ws.length
  · have h2 : i < (clearW ws (partB lo (j + 1))).length := by rw [clearW_length]; exact hi
    have h3 : i < (clearW ws (partB lo j)).length := by rw [clearW_length]; exact hi
    rw [intV_get h2, ← wdAt_lt h2, wdAt_clear hi, intV_get h3, ← wdAt_lt h3, wdAt_clear hi]
    by_cases e : lo + j = i
    · rw [if_pos e, if_pos h, if_pos (by simp only [partB]; omega)]
    · rw [if_neg e]
      by_cases e2 : lo ≤ i ∧ i < lo + j
      · rw [if_pos (by simp only [partB]; omega), if_pos (by simp only [partB]; omega)]
      · rw [if_neg (by simp only [partB]; omega), if_neg (by simp only [partB]; omega)]
  · rw [if_neg (by omega), List.getElem?_eq_none (by rw [intV_length, clearW_length]; omega), List.getElem?_eq_none (by rw [intV_length, clearW_length]; omega)]
theorem slot_div {pg s n : Nat} (hn : 1 ≤ n) (h : s * n + n ≤ 64) : (64 * pg + s * n) % 64 / n = s := by
  have h1 : (64 * pg + s * n) % 64 = s * n := by omega
  rw [h1, Nat.mul_div_cancel _ (by omega)]
theorem setRun_one {ps : List Pg} {f j : Nat} {g : Nat → Pg} (h : f + j < ps.length) : (setRun ps f j g).set (f + j) (g j) = setRun ps f (j + 1) g := by
  apply pages_ext
  · rw [List.length_set, setRun_length (by omega), setRun_length (by omega)]
  · intro i hi
    rw [pgAt_set (by rw [setRun_length (by omega)]; exact h), pgAt_setRun (by omega), pgAt_setRun (by omega)]
    by_cases e : i = f + j
    · subst e
      rw [if_pos rfl, if_pos (by omega), show f + j - f = j by omega]
    · rw [if_neg e]
      by_cases e2 : f ≤ i ∧ i < f + j
      · rw [if_pos e2, if_pos (by omega)]
      · rw [if_neg e2, if_neg (by omega)]
set_option maxHeartbeats 4000000 in
theorem RFree_run {v : AVal} {ps : List Pg} {ws : List Int} (a : Int) (hv : VH v ps ws) (hb : Bd ps ws) (hk : 9500 ≤ k) : ∃ v', pureRun (callN lawProg (k + 1)) (.func 31 [] []) [v, .int .i64 a] = some (.tuple [v', .int .i64 (freeH ps ws a).e], true) ∧ VH v' (freeH ps ws a).ps (freeH ps ws a).ws := by
  have hv0 := hv
  have hask := fun (σ : AMem) => ask_call (k := k) (σ := σ) a hv hb (by omega)
  obtain ⟨X0, Y0, rfl, hX0, hY0⟩ := hv.cells
  obtain ⟨σ0, hσ0⟩ : ∃ s, s = (AMem.empty.push (.row 2 true [X0, Y0])).push (.row 2 true [.vs .nil [], .vs .nil []]) := ⟨_, rfl⟩
  have n0 : σ0.next = 2 := by rw [hσ0]; simp [next_empty]
  have g0 : σ0.get 0 = some (.row 2 true [X0, Y0]) := by rw [hσ0]; simp [AMem.get_push, next_empty]
  have g1 : σ0.get 1 = some (.row 2 true [.vs .nil [], .vs .nil []]) := by rw [hσ0]; simp [AMem.get_push, next_empty]
  have fin : ∀ (T1 : Tr AVal) (σ' : AMem) (o0 o1 : AVal) (e : Int) (v' : AVal) (S : List Nat) (qs : List Pg) (us : List Int), execC lawProg (callN lawProg k) k 31 84 (bodyOf Try.f31) (initT 0 [.agg [X0, Y0], .int .i64 a] .nil) AMem.empty = some (.ret, T1, σ') → T1.get 4 = some (.ptr 1 0) → T1.get 5 = some (.int .i64 e) → σ'.get 1 = some (.row 2 true [o0, o1]) → snapF true σ' 11 (.agg [o0, o1]) = some (v', S) → VH v' qs us → ∃ v', pureRun (callN lawProg (k + 1)) (.func 31 [] []) [.agg [X0, Y0], .int .i64 a] = some (.tuple [v', .int .i64 e], true) ∧ VH v' qs us := by
    intro T1 σ' o0 o1 e v' S qs us r1 r2 r3 r5 hS hvh
    refine ⟨v', ?_, hvh⟩
    refine pureRun_of (vs := [.agg [o0, o1], .int .i64 e]) (seen := S ++ ([] ++ [])) fn31 rfl (by simp [Try.f31]) r1 (by simp) ?_ ?_
    · simp only [Try.f31, resultsA, resultA, dx, reduceIte, zLt, zLe, zEq, zAd, zMu, zSu, zBe, yEq, yLt, yLe, yTn, reduceCtorEq, sx, fx31, r2, r3, r5]
    · have c2 : snapF true σ' 11 (.int .i64 e) = some (.int .i64 e, []) := rfl
      show snapF true σ' (11 + 1) (.tuple [.agg [o0, o1], .int .i64 e]) = _
      rw [snapF]
      simp only [snapL, hS, c2, Option.map_some]
  have bad : ∀ e : Int, e ≠ 0 → askH ps ws a = (0, e) → freeH ps ws a = ⟨[], [], 0, e⟩ → ∃ v', pureRun (callN lawProg (k + 1)) (.func 31 [] []) [.agg [X0, Y0], .int .i64 a] = some (.tuple [v', .int .i64 (freeH ps ws a).e], true) ∧ VH v' (freeH ps ws a).ps (freeH ps ws a).ws := by
    intro e he h1 h2
    rw [h1] at hask
    rw [h2]
    have hb1 : (e != 0) = true := by rw [bne_iff_ne]; exact he
    have run : ∃ T1, execC lawProg (callN lawProg k) k 31 84 (bodyOf Try.f31) (initT 0 [.agg [X0, Y0], .int .i64 a] .nil) AMem.empty = some (.ret, T1, σ0.put 1 (.row 2 true [.vs .nil [], .vs .nil []])) ∧ T1.get 4 = some (.ptr 1 0) ∧ T1.get 5 = some (.int .i64 e) := by
      simp only [bodyOf, Try.f31, Option.getD_some, initT, dx, reduceIte, zLt, zLe, zEq, zAd, zMu, zSu, zBe, yEq, yLt, yLe, yTn, reduceCtorEq, sx, fx31, hX0, hY0, ← hσ0]
      simp only [dx, reduceIte, zLt, zLe, zEq, zAd, zMu, zSu, zBe, yEq, yLt, yLe, yTn, reduceCtorEq, sx, fx31, g0, g1, hask, hb1]
      exact ⟨_, rfl, by simp only [Tr.get_set, zEq, reduceIte], by simp only [Tr.get_set, zEq, reduceIte]⟩
    obtain ⟨T1, r1, r2, r3⟩ := run
    exact fin T1 _ _ _ e _ _ [] [] r1 r2 r3 (by rw [AMem.get_put, if_pos rfl]) (snap_hp0 _ 9) nil_vh
  cases hrb : rightB ps ws with
  | false => exact bad 4 (by omega) (by unfold askH; rw [hrb]; rfl) (by unfold freeH; rw [hrb]; rfl)
  | true =>
    have hright := rightB_iff.1 hrb
    cases hf : findL ps a with
    | none => exact bad 7 (by omega) (by unfold askH; rw [hrb, if_pos rfl, hf]) (by unfold freeH; rw [hrb, if_pos rfl, hf])
    | some b =>
      have hmany := hright.many
      have hwl := hright.len
      obtain ⟨hbm, hba⟩ := findL_some hf
      obtain ⟨lo, n, hlo, hn, hn1, hln, hpg⟩ := blk_nat hright hbm
      have hab : a = (lo : Nat) := by rw [← hba, hlo]
      have hak : askH ps ws a = (((n : Nat) : Int), 0) := by unfold askH; rw [hrb, if_pos rfl, hf]; simp only [hn]
      rw [hak] at hask
      have hres : freeH ps ws a = ⟨freeL ps b, clearW ws b, 0, 0⟩ := by unfold freeH; rw [hrb, if_pos rfl, hf]
      rw [hres]
      clear bad
      subst hab
      obtain ⟨σ2, X, W, its, hcp, ex2, hC⟩ := copy_exec (k := k - 1) (σ := σ0) hv0 hb (by omega)
      rw [show k - 1 + 1 = k by omega] at hcp
      rw [n0] at hC
      obtain ⟨pr, wr, rfl, rfl, hM0⟩ := hC.heap (by omega) (by omega)
      have hil := pg_len hM0.pi
      obtain ⟨sp, hsp⟩ : ∃ s, s = σ2.next := ⟨_, rfl⟩
      have hx2 := ex2.1
      obtain ⟨σ3, hσ3⟩ : ∃ s, s = (σ2.push (.row 2 true [.vs .nil [], .vs .nil []])).put sp (.row 2 true [.slice pr 0 its.length none 3, .slice wr 0 ws.length none 1]) := ⟨_, rfl⟩
      have n3 : σ3.next = sp + 1 := by rw [hσ3, hsp]; simp
      have hM : HeapM 2 σ3 sp pr none wr none its ps ws := by
        rw [hσ3, hsp]
        refine hM0.agree (fun r _ => ?_) (by simp)
        rw [AMem.get_put, AMem.get_push]
        by_cases e : σ2.next = r
        · rw [if_pos e, AMem.get_push, if_pos e]
        · rw [if_neg e, if_neg e, AMem.get_push, if_neg e]
      have ms3 : σ3.get sp = some (.row 2 true [.slice pr 0 its.length none 3, .slice wr 0 ws.length none 1]) := hM.own.ms
      obtain ⟨l1, l2, l3⟩ := hM.own.lo
      have low3 : ∀ r, r < 2 → σ3.get r = σ0.get r := fun r hr => by rw [hσ3, AMem.get_put, if_neg (by omega), AMem.get_push, if_neg (by omega), ex2.2 r (by omega)]
      obtain ⟨b1, hbp, b3, b4, b5, b6⟩ := blk_page hright.shape hbm
      have hdiv : lo / 64 = b.page := by rw [hlo] at b3 b4; omega
      have w1 : IntKind.i64.wrap (((lo : Nat) : Int) + ((n : Nat) : Int)) = ((lo + n : Nat) : Int) := by rw [i64_id (by omega) (by omega)]; omega
      have w2 : IntKind.i64.wrap (((lo : Nat) : Int).tdiv 64) = ((b.page : Nat) : Int) := by
        have : ((lo : Nat) : Int).tdiv 64 = ((lo / 64 : Nat) : Int) := rfl
        rw [this, hdiv]
        exact i64_id (by omega) (by omega)
      have h64 : ¬ (64 : Int) = 0 := by omega
      -- the words
      have hclr : clearW ws (partB lo n) = clearW ws b := clear_ext (by rw [hlo]; rfl) (by rw [hn]; rfl)
      have run : ∃ T1 σ' its' o0 o1, execC lawProg (callN lawProg k) k 31 84 (bodyOf Try.f31) (initT 0 [.agg [X0, Y0], .int .i64 (lo : Nat)] .nil) AMem.empty = some (.ret, T1, σ') ∧ T1.get 4 = some (.ptr 1 0) ∧ T1.get 5 = some (.int .i64 0) ∧ σ'.get 1 = some (.row 2 true [o0, o1]) ∧ o0 = .slice pr 0 its'.length none 3 ∧ o1 = .slice wr 0 (clearW ws b).length none 1 ∧ HeapM 2 σ' sp pr none wr none its' (freeL ps b) (clearW ws b) := by
        simp only [bodyOf, Try.f31, Option.getD_some, initT, dx, reduceIte, zLt, zLe, zEq, zAd, zMu, zSu, zBe, yEq, yLt, yLe, yTn, reduceCtorEq, sx, fx31, hX0, hY0, ← hσ0]
        simp only [dx, reduceIte, zLt, zLe, zEq, zAd, zMu, zSu, zBe, yEq, yLt, yLe, yTn, reduceCtorEq, sx, fx31, g0, hask, hcp, show ((0 : Int) != 0) = false from rfl, ← hsp, ← hσ3]
        generalize hL : execC _ _ _ _ _ (Code.loop _) _ _ = q
        obtain ⟨e, T', σ4, rfl, _, rfl, t1, t4, t6, t8, n4, low4, hM4⟩ : ∃ e T' σ', q = some (e, T', σ') ∧ e ≠ .normal ∧ e = .exit 0 ∧ T'.get 1 = some (.int .i64 (lo : Nat)) ∧ T'.get 4 = some (.ptr 1 0) ∧ T'.get 6 = some (.int .i64 (n : Nat)) ∧ T'.get 8 = some (.ptr sp 0) ∧ σ'.next = sp + 1 ∧ (∀ r, r < 2 → σ'.get r = σ0.get r) ∧ HeapM 2 σ' sp pr none wr none its ps (clearW ws (partB lo n)) := by
          rw [← hL]
          refine exec_loop (fun j T σ' => j ≤ n ∧ T.get 1 = some (.int .i64 (lo : Nat)) ∧ T.get 4 = some (.ptr 1 0) ∧ T.get 6 = some (.int .i64 (n : Nat)) ∧ T.get 8 = some (.ptr sp 0) ∧ T.get 9 = some (.int .i64 ((lo + j : Nat) : Int)) ∧ σ'.next = sp + 1 ∧ (∀ r, r < 2 → σ'.get r = σ0.get r) ∧ HeapM 2 σ' sp pr none wr none its ps (clearW ws (partB lo j))) n (by omega) ?_ ?_ ?_
          · rintro j hj T σ' ⟨_, t1, t4, t6, t8, t9, nx, lw, hMj⟩
            have hlt : ((lo + j : Nat) : Int) < ((lo + n : Nat) : Int) := by omega
            have hlt2 : ((lo + j : Nat) : Int) < (((clearW ws (partB lo j)).length : Nat) : Int) := by rw [clearW_length]; omega
            have hw' := i64_succ (i := lo + j) (by omega)
            have msj := hMj.own.ms
            have mwj := hMj.own.mw
            have hin : lo + j + 1 ≤ (clearW ws (partB lo j)).length := by rw [clearW_length]; omega
            have hnx := clear_next (ws := ws) (lo := lo) (j := j) (by omega)
            have hM' := hMj.wordsTo (vs := clearW ws (partB lo (j + 1))) (by rw [clearW_length, clearW_length])
            refine ⟨_, _, by
              simp only [dx, reduceIte, zLt, zLe, zEq, zAd, zMu, zSu, zBe, yEq, yLt, yLe, yTn, reduceCtorEq, sx, fx31, t1, t6, t8, t9, w1, hlt, msj, mwj, hlt2, intV_length, hin, hnx, Int.natCast_nonneg, Int.toNat_natCast, hw']
              rfl, by omega, ?_, ?_, ?_, ?_, ?_, ?_, fun r hr => ?_, hM'⟩
            · simp only [Tr.get_set, zEq, reduceIte, t1]
            · simp only [Tr.get_set, zEq, reduceIte, t4]
            · simp only [Tr.get_set, zEq, reduceIte, t6]
            · simp only [Tr.get_set, zEq, reduceIte, t8]
            · simp only [Tr.get_set, zEq, reduceIte]
              rfl
            · simpa using nx
            · rw [AMem.get_put, if_neg (by omega)]; exact lw r hr
          · rintro T σ' ⟨_, t1, t4, t6, t8, t9, nx, lw, hMj⟩
            have hge : ¬ (((lo + n : Nat) : Int) < ((lo + n : Nat) : Int)) := by omega
            refine ⟨_, _, _, by
              simp only [dx, reduceIte, zLt, zLe, zEq, zAd, zMu, zSu, zBe, yEq, yLt, yLe, yTn, reduceCtorEq, sx, fx31, t1, t6, t9, w1, hge]
              rfl, by simp, rfl, ?_, ?_, ?_, ?_, nx, lw, hMj⟩
            · simp only [Tr.get_set, zEq, reduceIte, t1]
            · simp only [Tr.get_set, zEq, reduceIte, t4]
            · simp only [Tr.get_set, zEq, reduceIte, t6]
            · simp only [Tr.get_set, zEq, reduceIte, t8]
          · refine ⟨Nat.zero_le _, ?_, ?_, ?_, ?_, ?_, n3, low3, by rw [clear_none]; exact hM⟩
            all_goals simp only [Tr.get_set, zEq, reduceIte] <;> rfl
        rw [hclr] at hM4
        have ms4 := hM4.own.ms
        have mp4 := hM4.own.mp
        have hlen := items_len (pg_two hM4.pi)
        have hpi : b.page < its.length := by omega
        have hlt : ((b.page : Nat) : Int) < ((its.length : Nat) : Int) := by omega
        have hg0 := pg_get (j := 0) hM4.pi hpi (by omega)
        simp only [List.getElem?_cons_zero, Nat.add_zero] at hg0
        have g14 : σ4.get 1 = some (.row 2 true [.vs .nil [], .vs .nil []]) := by rw [low4 1 (by omega)]; exact g1
        have hsp2 : 2 ≤ sp := l1
        by_cases k2 : (pgAt ps b.page).kind = 2
        · have hb1 : ((pgAt ps b.page).kind == 2) = true := by rw [k2]; rfl
          have hhead : b = headB b.page (pgAt ps b.page) := by
            rcases mem_pgB.1 hbp with ⟨_, e⟩ | ⟨e, _⟩
            · exact e
            · omega
          obtain ⟨hd1, hd2, _⟩ := head_more hright.shape hpg k2
          obtain ⟨m, hm⟩ : ∃ m : Nat, (pgAt ps b.page).n = (m : Nat) := ⟨(pgAt ps b.page).n.toNat, by omega⟩
          have hnm : n = 64 * m := by
            have : b.size = 64 * (pgAt ps b.page).n := by rw [hhead]; rfl
            rw [hm, hn] at this
            omega
          have w3 : IntKind.i64.wrap (((n : Nat) : Int).tdiv 64) = ((m : Nat) : Int) := by
            have : ((n : Nat) : Int).tdiv 64 = ((n / 64 : Nat) : Int) := rfl
            rw [this, show n / 64 = m by omega]
            exact i64_id (by omega) (by omega)
          have w4 : IntKind.i64.wrap (((b.page : Nat) : Int) + ((m : Nat) : Int)) = ((b.page + m : Nat) : Int) := by rw [i64_id (by omega) (by omega)]; omega
          simp only [dx, reduceIte, zLt, zLe, zEq, zAd, zMu, zSu, zBe, yEq, yLt, yLe, yTn, reduceCtorEq, sx, fx31, t1, t8, w2, h64, ms4, mp4, hlt, hg0, hb1, Int.natCast_nonneg, Int.toNat_natCast]
          generalize hL2 : execC _ _ _ _ _ (Code.loop _) _ _ = q2
          obtain ⟨e, T5, σ5, rfl, _, rfl, u4, u8, its5, hl5, n5, low5, hM5⟩ : ∃ e T' σ', q2 = some (e, T', σ') ∧ e ≠ .normal ∧ e = .exit 2 ∧ T'.get 4 = some (.ptr 1 0) ∧ T'.get 8 = some (.ptr sp 0) ∧ ∃ its', its'.length = its.length ∧ σ'.next = sp + 1 ∧ (∀ r, r < 2 → σ'.get r = σ0.get r) ∧ HeapM 2 σ' sp pr none wr none its' (setRun ps b.page m fun _ => noPg) (clearW ws b) := by
            rw [← hL2]
            refine exec_loop (fun j T σ' => j ≤ m ∧ T.get 4 = some (.ptr 1 0) ∧ T.get 6 = some (.int .i64 (n : Nat)) ∧ T.get 8 = some (.ptr sp 0) ∧ T.get 10 = some (.int .i64 (b.page : Nat)) ∧ T.get 11 = some (.int .i64 ((b.page + j : Nat) : Int)) ∧ ∃ its', its'.length = its.length ∧ σ'.next = sp + 1 ∧ (∀ r, r < 2 → σ'.get r = σ0.get r) ∧ HeapM 2 σ' sp pr none wr none its' (setRun ps b.page j fun _ => noPg) (clearW ws b)) m (by omega) ?_ ?_ ?_
            · rintro j hj T σ' ⟨_, u4, u6, u8, u10, u11, itsj, hlj, nx, lw, hMj⟩
              have hltj : ((b.page + j : Nat) : Int) < ((b.page + m : Nat) : Int) := by omega
              have hlt2 : ((b.page + j : Nat) : Int) < ((itsj.length : Nat) : Int) := by omega
              have hw' := i64_succ (i := b.page + j) (by omega)
              have msj := hMj.own.ms
              have mpj := hMj.own.mp
              have hlenj := items_len (pg_two hMj.pi)
              have hin : (b.page + j) * 3 + 3 ≤ itsj.length * 3 := by omega
              have hrec := hMj.record (i := b.page + j) (by rw [setRun_length (by omega)]; omega) (Ext.refl _) (by omega) noPg (.vs .nil []) (.inl ⟨rfl, rfl⟩)
              rw [setRun_one (ps := ps) (f := b.page) (j := j) (g := fun _ => noPg) (by omega)] at hrec
              refine ⟨_, _, by
                simp only [dx, reduceIte, zLt, zLe, zEq, zAd, zMu, zSu, zBe, yEq, yLt, yLe, yTn, reduceCtorEq, sx, fx31, u4, u6, u8, u10, u11, w3, w4, h64, hltj, msj, mpj, hlt2, hlenj, hin, Int.natCast_nonneg, Int.toNat_natCast, hw']
                rfl, by omega, ?_, ?_, ?_, ?_, ?_, _, ?_, ?_, fun r hr => ?_, hrec⟩
              · simp only [Tr.get_set, zEq, reduceIte, u4]
              · simp only [Tr.get_set, zEq, reduceIte, u6]
              · simp only [Tr.get_set, zEq, reduceIte, u8]
              · simp only [Tr.get_set, zEq, reduceIte, u10]
              · simp only [Tr.get_set, zEq, reduceIte]
                rfl
              · rw [List.length_set]; exact hlj
              · simpa using nx
              · rw [AMem.get_put, if_neg (by omega)]; exact lw r hr
            · rintro T σ' ⟨_, u4, u6, u8, u10, u11, itsj, hlj, nx, lw, hMj⟩
              have hge : ¬ (((b.page + m : Nat) : Int) < ((b.page + m : Nat) : Int)) := by omega
              refine ⟨_, _, _, by
                simp only [dx, reduceIte, zLt, zLe, zEq, zAd, zMu, zSu, zBe, yEq, yLt, yLe, yTn, reduceCtorEq, sx, fx31, u6, u10, u11, w3, w4, h64, hge]
                rfl, by simp, rfl, ?_, ?_, itsj, hlj, nx, lw, hMj⟩
              · simp only [Tr.get_set, zEq, reduceIte, u4]
              · simp only [Tr.get_set, zEq, reduceIte, u8]
            · refine ⟨Nat.zero_le _, ?_, ?_, ?_, ?_, ?_, its, rfl, n4, low4, ?_⟩
              · simp only [Tr.get_set, zEq, reduceIte, t4]
              · simp only [Tr.get_set, zEq, reduceIte, t6]
              · simp only [Tr.get_set, zEq, reduceIte, t8]
              · simp only [Tr.get_set, zEq, reduceIte]
              · simp only [Tr.get_set, zEq, reduceIte] <;> rfl
              · have : setRun ps b.page 0 (fun _ => noPg) = ps := by unfold setRun; simp
                rw [this]
                exact hM4
          have ms5 := hM5.own.ms
          have g15 : σ5.get 1 = some (.row 2 true [.vs .nil [], .vs .nil []]) := by rw [low5 1 (by omega)]; exact g1
          simp only [dx, reduceIte, zLt, zLe, zEq, zAd, zMu, zSu, zBe, yEq, yLt, yLe, yTn, reduceCtorEq, sx, fx31, u4, u8, ms5, g15]
          refine ⟨_, _, its5, _, _, rfl, by simp only [Tr.get_set, zEq, reduceIte, u4], by simp only [Tr.get_set, zEq, reduceIte], by rw [AMem.get_put, if_pos rfl], rfl, rfl, ?_⟩
          unfold freeL
          rw [if_pos k2, hm, Int.toNat_natCast]
          exact hM5.agree (fun r hr => by rw [AMem.get_put, if_neg (by omega)]) (by simp)
        · have hb1 : ((pgAt ps b.page).kind == 2) = false := by rw [beq_eq_false_iff_ne]; exact k2
          rcases mem_pgB.1 hbp with ⟨e, _⟩ | ⟨k1, s, hs, hu, hbs⟩
          · exact absurd e k2
          have hslot : b.slot = s := by rw [hbs]; rfl
          obtain ⟨sb1, sb2, sb3⟩ := slot_bound (hright.shape b.page hpg) k1 hs
          have hnp : (pgAt ps b.page).n = (n : Nat) := by
            have : b.size = (pgAt ps b.page).n := by rw [hbs]; rfl
            rw [← this, hn]
          rw [hnp] at sb1 sb2 sb3
          have hsn : s * n + n ≤ 64 := by
            have : ((s * n : Nat) : Int) = (s : Int) * (n : Int) := by simp
            omega
          have hlos : lo = 64 * b.page + s * n := by
            have : b.at_ = 64 * (b.page : Int) + (s : Int) * (pgAt ps b.page).n := by rw [hbs]; rfl
            rw [hlo, hnp] at this
            have h2 : ((s * n : Nat) : Int) = (s : Int) * (n : Int) := by simp
            omega
          have w5 : ((lo : Nat) : Int).tmod 64 = ((lo % 64 : Nat) : Int) := rfl
          have w6 : IntKind.i64.wrap (((lo % 64 : Nat) : Int).tdiv ((n : Nat) : Int)) = ((s : Nat) : Int) := by
            have h1 : ((lo % 64 : Nat) : Int).tdiv ((n : Nat) : Int) = ((lo % 64 / n : Nat) : Int) := rfl
            have h2 : lo % 64 / n = s := by rw [hlos]; exact slot_div hn1 hsn
            have h3 : s ≤ 64 := by
              have : s * 1 ≤ s * n := Nat.mul_le_mul_left _ hn1
              omega
            rw [h1, h2]
            exact i64_id (by omega) (by omega)
          have hnz : ¬ ((n : Nat) : Int) = 0 := by omega
          have hu0 : (pgAt ps b.page).used ≠ [] := fun e => by rw [e] at hs; simp at hs
          obtain ⟨r, cap, r1, r2, r3, r4⟩ := own_used hM4.own hM4.pi hM4.ox hpi hu0
          have hg2 := pg_get (j := 2) hM4.pi hpi (by omega)
          simp only [List.getElem?_cons_succ, List.getElem?_cons_zero, r1] at hg2
          obtain ⟨us, hus⟩ : ∃ u, u = (pgAt ps b.page).used.set s false := ⟨_, rfl⟩
          obtain ⟨σ5, hσ5⟩ : ∃ m, m = σ4.put r (.row 1 false ((boolV (pgAt ps b.page).used).set s (.bool false))) := ⟨_, rfl⟩
          have hM5 := hM4.slot (j := s) hpi r1 false
          rw [← hσ5] at hM5
          obtain ⟨its5, hM5, hcells⟩ := hM5
          have hl5 : its5.length = its.length := by simpa using congrArg List.length hcells
          have qrs : ¬ r = sp := fun e => hM4.own.ns (by rw [← e]; exact mem_rowsOf (List.getElem_mem hpi) (by rw [r1]; simp [rowOf]))
          have qrp : ¬ r = pr := fun e => hM4.own.it.2.2 (by rw [← e]; exact mem_rowsOf (List.getElem_mem hpi) (by rw [r1]; simp [rowOf]))
          have ms5 : σ5.get sp = some (.row 2 true [.slice pr 0 its.length none 3, .slice wr 0 (clearW ws b).length none 1]) := by rw [hσ5, AMem.get_put, if_neg qrs]; exact ms4
          have mp5 : σ5.get pr = some (.row 3 true (its.map MItem.cells).flatten) := by rw [hσ5, AMem.get_put, if_neg qrp]; exact mp4
          have gr5 : σ5.get r = some (.row 1 false (boolV us)) := by rw [hσ5, AMem.get_put, if_pos rfl, hus, boolV_set]
          have hul : us.length = (pgAt ps b.page).used.length := by rw [hus, List.length_set]
          have hsc := small_cases (hright.shape b.page hpg) k1
          have hlts : ((s : Nat) : Int) < (((pgAt ps b.page).used.length : Nat) : Int) := by omega
          have hin : s + 1 ≤ (pgAt ps b.page).used.length := by omega
          have hrl : 2 ≤ r := r2
          have n5 : σ5.next = sp + 1 := by rw [hσ5]; simpa using n4
          have g15 : σ5.get 1 = some (.row 2 true [.vs .nil [], .vs .nil []]) := by rw [hσ5, AMem.get_put, if_neg (by omega)]; exact g14
          have hload := pg_load hM4.pi hpi
          rw [r1] at hload
          have hin3 : b.page * 3 + 3 ≤ its.length * 3 := by omega
          have hsnap : snapF false σ5 snapDepth (.agg [.int .u8 (pgAt ps b.page).kind, .int .i64 (pgAt ps b.page).n, .slice r 0 (pgAt ps b.page).used.length cap 1]) = some (pv (⟨(pgAt ps b.page).kind, (pgAt ps b.page).n, us⟩, .some), [] ++ ([] ++ ([r] ++ []))) := by
            have h1 := snap_bools (fr := false) (d := 9) (cap := cap) hul.symm gr5
            have c1 : snapF false σ5 11 (.int .u8 (pgAt ps b.page).kind) = some (.int .u8 (pgAt ps b.page).kind, []) := rfl
            have c2 : snapF false σ5 11 (.int .i64 (pgAt ps b.page).n) = some (.int .i64 (pgAt ps b.page).n, []) := rfl
            show snapF false σ5 (11 + 1) _ = _
            rw [snapF]
            simp only [snapL, h1, c1, c2, Option.map_some]
            rfl
          have hmy := many_snap (k := k) hsnap (by simp only; omega) (by omega)
          simp only at hmy
          have hca := count_any us
          have husA : useAt (pgAt ps b.page) s false = { pgAt ps b.page with used := us } := by unfold useAt; rw [hus]
          have hg0' := hg0
          cases hany : us.any id with
          | true =>
            rw [hany] at hca
            have hc0 : (((us.countP id : Nat) : Int) == 0) = false := by
              cases h : (((us.countP id : Nat) : Int) == 0) with
              | false => rfl
              | true => rw [h] at hca; cases hca
            have hfree : freeL ps b = ps.set b.page (useAt (pgAt ps b.page) s false) := by
              unfold freeL
              rw [if_neg k2, hslot, husA, hany, if_pos rfl]
            simp only [dx, reduceIte, zLt, zLe, zEq, zAd, zMu, zSu, zBe, yEq, yLt, yLe, yTn, reduceCtorEq, sx, fx31, t1, t6, t8, w2, w5, w6, h64, hnz, ms4, mp4, hlt, hg0, hg2, hb1, r4, hlts, hin, boolV_length, Int.natCast_nonneg, Int.toNat_natCast, ← hσ5]
            simp only [dx, reduceIte, zLt, zLe, zEq, zAd, zMu, zSu, zBe, yEq, yLt, yLe, yTn, reduceCtorEq, sx, fx31, t4, t8, ms5, mp5, hlt, hload, hlen, hin3, hmy, hc0, g15, Int.natCast_nonneg, Int.toNat_natCast]
            refine ⟨_, _, its5, _, _, rfl, by simp only [Tr.get_set, zEq, reduceIte, t4], by simp only [Tr.get_set, zEq, reduceIte], by rw [AMem.get_put, if_pos rfl], by rw [hl5], rfl, ?_⟩
            rw [hfree]
            exact hM5.agree (fun r hr => by rw [AMem.get_put, if_neg (by omega)]) (by simp)
          | false =>
            rw [hany] at hca
            have hc0 : (((us.countP id : Nat) : Int) == 0) = true := by
              cases h : (((us.countP id : Nat) : Int) == 0) with
              | true => rfl
              | false => rw [h] at hca; cases hca
            have hfree : freeL ps b = ps.set b.page noPg := by
              unfold freeL
              rw [if_neg k2, hslot, husA, hany, if_neg (by simp)]
            have hM6 := hM5.record (σ1 := σ5) (i := b.page) (by rw [List.length_set]; omega) (Ext.refl _) (by omega) noPg (.vs .nil []) (.inl ⟨rfl, rfl⟩)
            rw [hcells, List.set_set] at hM6
            obtain ⟨σ6, hσ6⟩ : ∃ m, m = σ5.put pr (.row 3 true (((((its.map MItem.cells).flatten).set (b.page * 3) (.int .u8 0)).set (b.page * 3 + 1) (.int .i64 0)).set (b.page * 3 + 1 + 1) (.vs .nil []))) := ⟨_, rfl⟩
            have ms6 : σ6.get sp = some (.row 2 true [.slice pr 0 its.length none 3, .slice wr 0 (clearW ws b).length none 1]) := by rw [hσ6, AMem.get_put, if_neg (fun e => hM4.own.ne.1 e.symm)]; exact ms5
            have g16 : σ6.get 1 = some (.row 2 true [.vs .nil [], .vs .nil []]) := by rw [hσ6, AMem.get_put, if_neg (by omega)]; exact g15
            have hM6' : HeapM 2 σ6 sp pr none wr none (its5.set b.page ⟨[.int .u8 noPg.kind, .int .i64 noPg.n], .vs .nil [], boolV noPg.used⟩) (ps.set b.page noPg) (clearW ws b) := by rw [hσ6]; exact hM6
            simp only [dx, reduceIte, zLt, zLe, zEq, zAd, zMu, zSu, zBe, yEq, yLt, yLe, yTn, reduceCtorEq, sx, fx31, t1, t6, t8, w2, w5, w6, h64, hnz, ms4, mp4, hlt, hg0, hg2, hb1, r4, hlts, hin, boolV_length, Int.natCast_nonneg, Int.toNat_natCast, ← hσ5]
            simp only [dx, reduceIte, zLt, zLe, zEq, zAd, zMu, zSu, zBe, yEq, yLt, yLe, yTn, reduceCtorEq, sx, fx31, t4, t8, ms5, mp5, hlt, hload, hlen, hin3, hmy, hc0, Int.natCast_nonneg, Int.toNat_natCast, ← hσ6]
            simp only [dx, reduceIte, zLt, zLe, zEq, zAd, zMu, zSu, zBe, yEq, yLt, yLe, yTn, reduceCtorEq, sx, fx31, t4, t8, ms6, g16]
            refine ⟨_, _, its5.set b.page ⟨[.int .u8 noPg.kind, .int .i64 noPg.n], .vs .nil [], boolV noPg.used⟩, _, _, rfl, by simp only [Tr.get_set, zEq, reduceIte, t4], by simp only [Tr.get_set, zEq, reduceIte], by rw [AMem.get_put, if_pos rfl], by rw [List.length_set, hl5], rfl, ?_⟩
            rw [hfree]
            exact hM6'.agree (fun r hr => by rw [AMem.get_put, if_neg (by omega)]) (by simp)
      obtain ⟨T1, σ', its', o0, o1, r1, r2, r3, r5, rfl, rfl, hM'⟩ := run
      obtain ⟨v', S, hS, hvh⟩ := hM'.vh (fr := true) 7
      exact fin T1 _ _ _ 0 v' S _ _ r1 r2 r3 r5 hS hvh
theorem RFree_call {v : AVal} {ps : List Pg} {ws : List Int} (a : Int) (hv : VH v ps ws) (hb : Bd ps ws) (hk : 9501 ≤ k) : ∃ v', (∀ σ, pureCall lawProg (callN lawProg k) (.func 31 [] []) [v, .int .i64 a] σ = some (.tuple [v', .int .i64 (freeH ps ws a).e], σ)) ∧ VH v' (freeH ps ws a).ps (freeH ps ws a).ws := by
  obtain ⟨k, rfl⟩ : ∃ m, k = m + 1 := ⟨k - 1, by omega⟩
  obtain ⟨v', h1, h2⟩ := RFree_run a hv hb (k := k) (by omega)
  refine ⟨v', fun σ => pureCall_of (seen := [] ++ ([] ++ [])) ?_ (memo31 _) h1, h2⟩
  have := hv.snap σ 10
  simp only [snapL, snapDepth, this, snapF]
end Go.Proofs.Ytjkfdiglokkceaa

/- Heaps: the reference's Put. -/
set_option maxRecDepth 100000
set_option linter.unusedSimpArgs false
set_option linter.unusedVariables false
namespace Go.Proofs.Ytjkfdiglokkceaa
open Go Go.Proofs.Ytjkfdiglokkceaa.Pale
variable {k : Nat} {σ : AMem}

theorem intV_set (l : List Int) (i : Nat) (x : Int) : (intV l).set i (.int .i64 x) = intV (l.set i x) := by
  unfold intV
  rw [List.map_set]
theorem put_none (ws l : List Int) (lo : Nat) : putW ws (partB lo 0) l = ws := by
  apply words_ext (putW_length _ _ _)
  intro k hk
  rw [putW_length] at hk
  rw [wdAt_put hk, if_neg (by simp only [partB]; omega)]
theorem put_ext {ws l : List Int} {b c : Blk} (h1 : b.at_ = c.at_) (h2 : b.size = c.size) : putW ws b l = putW ws c l := by
  unfold putW
  rw [h1, h2]
theorem wdAt_set {l : List Int} {i k : Nat} {x : Int} (hi : i < l.length) : wdAt (l.set i x) k = if i = k then x else wdAt l k := by
  unfold wdAt
  rw [List.getElem?_set]
  by_cases e : i = k
  · rw [if_pos e, if_pos hi, if_pos e]; rfl
  · rw [if_neg e, if_neg e]
theorem put_next {ws l : List Int} {lo j : Nat} (h : lo + j < ws.length) : (putW ws (partB lo j) l).set (lo + j) (wdAt l j) = putW ws (partB lo (j + 1)) l := by
  apply words_ext (by rw [List.length_set, putW_length, putW_length])
  intro i hi
  rw [List.length_set, putW_length] at hi
  rw [wdAt_set (by rw [putW_length]; exact h), wdAt_put hi, wdAt_put hi]
  have ha : (partB lo (j + 1)).at_.toNat = lo := by simp [partB]
  have hb : (partB lo j).at_.toNat = lo := by simp [partB]
  rw [ha, hb]
  by_cases e : lo + j = i
  · rw [if_pos e, if_pos (by simp only [partB]; omega), show i - lo = j by omega]
  · rw [if_neg e]
    by_cases e2 : lo ≤ i ∧ i < lo + j
    · rw [if_pos (by simp only [partB]; omega), if_pos (by simp only [partB]; omega)]
    · rw [if_neg (by simp only [partB]; omega), if_neg (by simp only [partB]; omega)]
set_option maxHeartbeats 4000000 in
theorem RPut_run {v : AVal} {ps : List Pg} {ws l : List Int} {K : VK} (a : Int) (hv : VH v ps ws) (hb : Bd ps ws) (hl : l.length ≤ 1000) (hk : 9500 ≤ k) : ∃ v', pureRun (callN lawProg (k + 1)) (.func 33 [] []) [v, .int .i64 a, .vs K (intV l)] = some (.tuple [v', .int .i64 (putH ps ws a l).e], true) ∧ VH v' (putH ps ws a l).ps (putH ps ws a l).ws := by
  have hv0 := hv
  have hask := fun (σ : AMem) => ask_call (k := k) (σ := σ) a hv hb (by omega)
  have hin := fun (n : Int) (σ : AMem) => in_call (k := k) (σ := σ) n 0 4294967295 (by omega)
  obtain ⟨X0, Y0, rfl, hX0, hY0⟩ := hv.cells
  obtain ⟨σ0, hσ0⟩ : ∃ s, s = (AMem.empty.push (.row 2 true [X0, Y0])).push (.row 2 true [.vs .nil [], .vs .nil []]) := ⟨_, rfl⟩
  have n0 : σ0.next = 2 := by rw [hσ0]; simp [next_empty]
  have g0 : σ0.get 0 = some (.row 2 true [X0, Y0]) := by rw [hσ0]; simp [AMem.get_push, next_empty]
  have g1 : σ0.get 1 = some (.row 2 true [.vs .nil [], .vs .nil []]) := by rw [hσ0]; simp [AMem.get_push, next_empty]
  have fin : ∀ (T1 : Tr AVal) (σ' : AMem) (o0 o1 : AVal) (e : Int) (v' : AVal) (S : List Nat) (qs : List Pg) (us : List Int), execC lawProg (callN lawProg k) k 33 69 (bodyOf Try.f33) (initT 0 [.agg [X0, Y0], .int .i64 a, .vs K (intV l)] .nil) AMem.empty = some (.ret, T1, σ') → T1.get 6 = some (.ptr 1 0) → T1.get 7 = some (.int .i64 e) → σ'.get 1 = some (.row 2 true [o0, o1]) → snapF true σ' 11 (.agg [o0, o1]) = some (v', S) → VH v' qs us → ∃ v', pureRun (callN lawProg (k + 1)) (.func 33 [] []) [.agg [X0, Y0], .int .i64 a, .vs K (intV l)] = some (.tuple [v', .int .i64 e], true) ∧ VH v' qs us := by
    intro T1 σ' o0 o1 e v' S qs us r1 r2 r3 r5 hS hvh
    refine ⟨v', ?_, hvh⟩
    refine pureRun_of (vs := [.agg [o0, o1], .int .i64 e]) (seen := S ++ ([] ++ [])) fn33 rfl (by simp [Try.f33]) r1 (by simp) ?_ ?_
    · simp only [Try.f33, resultsA, resultA, dx, reduceIte, zLt, zLe, zEq, zAd, zMu, zSu, zBe, yEq, yLt, yLe, yTn, reduceCtorEq, sx, fx33, r2, r3, r5]
    · have c2 : snapF true σ' 11 (.int .i64 e) = some (.int .i64 e, []) := rfl
      show snapF true σ' (11 + 1) (.tuple [.agg [o0, o1], .int .i64 e]) = _
      rw [snapF]
      simp only [snapL, hS, c2, Option.map_some]
  have bad : ∀ e : Int, e ≠ 0 → askH ps ws a = (0, e) → putH ps ws a l = ⟨[], [], 0, e⟩ → ∃ v', pureRun (callN lawProg (k + 1)) (.func 33 [] []) [.agg [X0, Y0], .int .i64 a, .vs K (intV l)] = some (.tuple [v', .int .i64 (putH ps ws a l).e], true) ∧ VH v' (putH ps ws a l).ps (putH ps ws a l).ws := by
    intro e he h1 h2
    rw [h1] at hask
    rw [h2]
    have hb1 : (e != 0) = true := by rw [bne_iff_ne]; exact he
    have run : ∃ T1, execC lawProg (callN lawProg k) k 33 69 (bodyOf Try.f33) (initT 0 [.agg [X0, Y0], .int .i64 a, .vs K (intV l)] .nil) AMem.empty = some (.ret, T1, σ0.put 1 (.row 2 true [.vs .nil [], .vs .nil []])) ∧ T1.get 6 = some (.ptr 1 0) ∧ T1.get 7 = some (.int .i64 e) := by
      simp only [bodyOf, Try.f33, Option.getD_some, initT, dx, reduceIte, zLt, zLe, zEq, zAd, zMu, zSu, zBe, yEq, yLt, yLe, yTn, reduceCtorEq, sx, fx33, hX0, hY0, ← hσ0]
      simp only [dx, reduceIte, zLt, zLe, zEq, zAd, zMu, zSu, zBe, yEq, yLt, yLe, yTn, reduceCtorEq, sx, fx33, g0, g1, hask, hb1]
      exact ⟨_, rfl, by simp only [Tr.get_set, zEq, reduceIte], by simp only [Tr.get_set, zEq, reduceIte]⟩
    obtain ⟨T1, r1, r2, r3⟩ := run
    exact fin T1 _ _ _ e _ _ [] [] r1 r2 r3 (by rw [AMem.get_put, if_pos rfl]) (snap_hp0 _ 9) nil_vh
  cases hrb : rightB ps ws with
  | false => exact bad 4 (by omega) (by unfold askH; rw [hrb]; rfl) (by unfold putH; rw [hrb]; rfl)
  | true =>
    have hright := rightB_iff.1 hrb
    cases hf : findL ps a with
    | none => exact bad 7 (by omega) (by unfold askH; rw [hrb, if_pos rfl, hf]) (by unfold putH; rw [hrb, if_pos rfl, hf])
    | some b =>
      have hmany := hright.many
      have hwl := hright.len
      obtain ⟨hbm, hba⟩ := findL_some hf
      obtain ⟨lo, n, hlo, hn, hn1, hln, hpg⟩ := blk_nat hright hbm
      have hab : a = (lo : Nat) := by rw [← hba, hlo]
      have hak : askH ps ws a = (((n : Nat) : Int), 0) := by unfold askH; rw [hrb, if_pos rfl, hf]; simp only [hn]
      rw [hak] at hask
      clear bad
      have hres : putH ps ws a l = if l.all wordQ then (if l.length > n then ⟨[], [], 0, 5⟩ else ⟨ps, putW ws b l, 0, 0⟩) else ⟨[], [], 0, 3⟩ := by
        unfold putH
        rw [hrb, if_pos rfl, hf]
        have hiff : (((l.length : Nat) : Int) > ((n : Nat) : Int)) ↔ l.length > n := by omega
        simp only [hn, hiff]
      rw [hres]
      subst hab
      -- the loop over the words that are put
      have loop0 : ∀ (T : Tr AVal) (X : Out), T.get 1 = some (.int .i64 (lo : Nat)) → T.get 2 = some (.vs K (intV l)) → T.get 3 = some (.ptr 0 0) → T.get 6 = some (.ptr 1 0) → T.get 8 = some (.int .i64 (n : Nat)) → T.get 10 = some (.int .i64 0) → execC lawProg (callN lawProg k) k 33 69 (innerC (stmtC (bodyOf Try.f33) 5)) T σ0 = X → ∃ e T' σ', X = some (e, T', σ') ∧ ((e = .ret ∧ l.all wordQ = false ∧ σ' = σ0.put 1 (.row 2 true [.vs .nil [], .vs .nil []]) ∧ T'.get 6 = some (.ptr 1 0) ∧ T'.get 7 = some (.int .i64 3)) ∨ (e = .exit 0 ∧ l.all wordQ = true ∧ σ' = σ0 ∧ T'.get 1 = some (.int .i64 (lo : Nat)) ∧ T'.get 2 = some (.vs K (intV l)) ∧ T'.get 3 = some (.ptr 0 0) ∧ T'.get 6 = some (.ptr 1 0) ∧ T'.get 8 = some (.int .i64 (n : Nat)))) := by
        intro T X t1 t2 t3 t6 t8 t10 hX
        rw [← hX]
        obtain ⟨e, T', σ', h1, _, h2⟩ := exec_loop2 (A := lawProg) (call := callN lawProg k) (k := k) (f := 33) (N := 69) (T := T) (σ := σ0) (c := innerC (innerC (stmtC (bodyOf Try.f33) 5))) (R := fun e T' σ' => (e = .ret ∧ l.all wordQ = false ∧ σ' = σ0.put 1 (.row 2 true [.vs .nil [], .vs .nil []]) ∧ T'.get 6 = some (.ptr 1 0) ∧ T'.get 7 = some (.int .i64 3)) ∨ (e = .exit 0 ∧ l.all wordQ = true ∧ σ' = σ0 ∧ T'.get 1 = some (.int .i64 (lo : Nat)) ∧ T'.get 2 = some (.vs K (intV l)) ∧ T'.get 3 = some (.ptr 0 0) ∧ T'.get 6 = some (.ptr 1 0) ∧ T'.get 8 = some (.int .i64 (n : Nat))))
          (fun i T σ' => i ≤ l.length ∧ σ' = σ0 ∧ T.get 1 = some (.int .i64 (lo : Nat)) ∧ T.get 2 = some (.vs K (intV l)) ∧ T.get 3 = some (.ptr 0 0) ∧ T.get 6 = some (.ptr 1 0) ∧ T.get 8 = some (.int .i64 (n : Nat)) ∧ T.get 10 = some (.int .i64 (i : Nat)) ∧ ∀ w, w ∈ l.take i → wordQ w = true) l.length (by omega) (by
            rintro i hi T σ' ⟨_, rfl, t1, t2, t3, t6, t8, t10, hall⟩
            have hlt : ((i : Nat) : Int) < ((l.length : Nat) : Int) := by omega
            have hw' := i64_succ (i := i) (by omega)
            have hget := intV_get hi
            have hc := hin l[i]
            cases hq : wordQ l[i] with
            | true =>
              rw [show decide (0 ≤ l[i] ∧ l[i] ≤ 4294967295) = true from hq] at hc
              refine .inl ⟨_, _, by
                simp only [bodyOf, Try.f33, Option.getD_some, flatC, innerC, stmtC, List.append_assoc, dx, reduceIte, zLt, zLe, zEq, zAd, zMu, zSu, zBe, yEq, yLt, yLe, yTn, reduceCtorEq, sx, fx33, t2, t10, intV_length, hlt, Int.natCast_nonneg, Int.toNat_natCast, hget, hc, hw']
                rfl, by omega, rfl, ?_, ?_, ?_, ?_, ?_, ?_, take_all hi hall hq⟩
              · simp only [Tr.get_set, zEq, reduceIte, t1]
              · simp only [Tr.get_set, zEq, reduceIte, t2]
              · simp only [Tr.get_set, zEq, reduceIte, t3]
              · simp only [Tr.get_set, zEq, reduceIte, t6]
              · simp only [Tr.get_set, zEq, reduceIte, t8]
              · simp only [Tr.get_set, zEq, reduceIte]
            | false =>
              rw [show decide (0 ≤ l[i] ∧ l[i] ≤ 4294967295) = false from hq] at hc
              refine .inr ⟨_, _, _, by
                simp only [bodyOf, Try.f33, Option.getD_some, flatC, innerC, stmtC, List.append_assoc, dx, reduceIte, zLt, zLe, zEq, zAd, zMu, zSu, zBe, yEq, yLt, yLe, yTn, reduceCtorEq, sx, fx33, t2, t6, t10, intV_length, hlt, Int.natCast_nonneg, Int.toNat_natCast, hget, hc, g1]
                rfl, by simp, .inl ⟨rfl, ?_, rfl, ?_, ?_⟩⟩
              · rw [List.all_eq_false]
                exact ⟨l[i], List.getElem_mem hi, by rw [hq]; simp⟩
              · simp only [Tr.get_set, zEq, reduceIte, t6]
              · simp only [Tr.get_set, zEq, reduceIte]) (by
            rintro T σ' ⟨_, rfl, t1, t2, t3, t6, t8, t10, hall⟩
            have hge : ¬ (((l.length : Nat) : Int) < ((l.length : Nat) : Int)) := by omega
            rw [List.take_length] at hall
            refine ⟨_, _, _, by
              simp only [bodyOf, Try.f33, Option.getD_some, flatC, innerC, stmtC, List.append_assoc, dx, reduceIte, zLt, zLe, zEq, zAd, zMu, zSu, zBe, yEq, yLt, yLe, yTn, reduceCtorEq, sx, fx33, t2, t10, intV_length, hge]
              rfl, by simp, .inr ⟨rfl, List.all_eq_true.2 hall, rfl, ?_, ?_, ?_, ?_, ?_⟩⟩
            · simp only [Tr.get_set, zEq, reduceIte, t1]
            · simp only [Tr.get_set, zEq, reduceIte, t2]
            · simp only [Tr.get_set, zEq, reduceIte, t3]
            · simp only [Tr.get_set, zEq, reduceIte, t6]
            · simp only [Tr.get_set, zEq, reduceIte, t8]) ⟨Nat.zero_le _, rfl, t1, t2, t3, t6, t8, t10, by simp⟩
        exact ⟨e, T', σ', h1, h2⟩
      obtain ⟨σ2, X, W, its, hcp, ex2, hC⟩ := copy_exec (k := k - 1) (σ := σ0) hv0 hb (by omega)
      rw [show k - 1 + 1 = k by omega] at hcp
      rw [n0] at hC
      obtain ⟨pr, wr, rfl, rfl, hM0⟩ := hC.heap (by omega) (by omega)
      have hil := pg_len hM0.pi
      obtain ⟨sp, hsp⟩ : ∃ s, s = σ2.next := ⟨_, rfl⟩
      have hx2 := ex2.1
      obtain ⟨σ3, hσ3⟩ : ∃ s, s = (σ2.push (.row 2 true [.vs .nil [], .vs .nil []])).put sp (.row 2 true [.slice pr 0 its.length none 3, .slice wr 0 ws.length none 1]) := ⟨_, rfl⟩
      have n3 : σ3.next = sp + 1 := by rw [hσ3, hsp]; simp
      have hM : HeapM 2 σ3 sp pr none wr none its ps ws := by
        rw [hσ3, hsp]
        refine hM0.agree (fun r _ => ?_) (by simp)
        rw [AMem.get_put, AMem.get_push]
        by_cases e : σ2.next = r
        · rw [if_pos e, AMem.get_push, if_pos e]
        · rw [if_neg e, if_neg e, AMem.get_push, if_neg e]
      obtain ⟨l1, l2, l3⟩ := hM.own.lo
      have low3 : ∀ r, r < 2 → σ3.get r = σ0.get r := fun r hr => by rw [hσ3, AMem.get_put, if_neg (by omega), AMem.get_push, if_neg (by omega), ex2.2 r (by omega)]
      have hput : putW ws (partB lo n) l = putW ws b l := put_ext (by rw [hlo]; rfl) (by rw [hn]; rfl)
      by_cases hall : l.all wordQ = true
      · by_cases hgt : l.length > n
        · rw [if_pos hall, if_pos hgt]
          have hgt' : ((l.length : Nat) : Int) > ((n : Nat) : Int) := by omega
          have run : ∃ T1, execC lawProg (callN lawProg k) k 33 69 (bodyOf Try.f33) (initT 0 [.agg [X0, Y0], .int .i64 (lo : Nat), .vs K (intV l)] .nil) AMem.empty = some (.ret, T1, σ0.put 1 (.row 2 true [.vs .nil [], .vs .nil []])) ∧ T1.get 6 = some (.ptr 1 0) ∧ T1.get 7 = some (.int .i64 5) := by
            simp only [bodyOf, Try.f33, Option.getD_some, initT, dx, reduceIte, zLt, zLe, zEq, zAd, zMu, zSu, zBe, yEq, yLt, yLe, yTn, reduceCtorEq, sx, fx33, hX0, hY0, ← hσ0]
            simp only [dx, reduceIte, zLt, zLe, zEq, zAd, zMu, zSu, zBe, yEq, yLt, yLe, yTn, reduceCtorEq, sx, fx33, g0, hask, show ((0 : Int) != 0) = false from rfl]
            generalize hL : execC _ _ _ _ _ (Code.loop _) _ _ = q
            obtain ⟨e, T', σ', rfl, hc⟩ := loop0 _ _ (by simp only [Tr.get_set, zEq, reduceIte]) (by simp only [Tr.get_set, zEq, reduceIte]) (by simp only [Tr.get_set, zEq, reduceIte]) (by simp only [Tr.get_set, zEq, reduceIte]) (by simp only [Tr.get_set, zEq, reduceIte]) (by simp only [Tr.get_set, zEq, reduceIte]) hL
            rcases hc with ⟨_, h, _⟩ | ⟨rfl, _, rfl, t1, t2, t3, t6, t8⟩
            · rw [hall] at h; cases h
            · simp only [dx, reduceIte, zLt, zLe, zEq, zAd, zMu, zSu, zBe, yEq, yLt, yLe, yTn, reduceCtorEq, sx, fx33, t2, t6, t8, intV_length, hgt', g1]
              exact ⟨_, rfl, by simp only [Tr.get_set, zEq, reduceIte, t6], by simp only [Tr.get_set, zEq, reduceIte]⟩
          obtain ⟨T1, r1, r2, r3⟩ := run
          exact fin T1 _ _ _ 5 _ _ [] [] r1 r2 r3 (by rw [AMem.get_put, if_pos rfl]) (snap_hp0 _ 9) nil_vh
        · rw [if_pos hall, if_neg hgt]
          have hgt' : ¬ ((l.length : Nat) : Int) > ((n : Nat) : Int) := by omega
          have run : ∃ T1 σ', execC lawProg (callN lawProg k) k 33 69 (bodyOf Try.f33) (initT 0 [.agg [X0, Y0], .int .i64 (lo : Nat), .vs K (intV l)] .nil) AMem.empty = some (.ret, T1, σ') ∧ T1.get 6 = some (.ptr 1 0) ∧ T1.get 7 = some (.int .i64 0) ∧ σ'.get 1 = some (.row 2 true [.slice pr 0 its.length none 3, .slice wr 0 (putW ws b l).length none 1]) ∧ HeapM 2 σ' sp pr none wr none its ps (putW ws b l) := by
            simp only [bodyOf, Try.f33, Option.getD_some, initT, dx, reduceIte, zLt, zLe, zEq, zAd, zMu, zSu, zBe, yEq, yLt, yLe, yTn, reduceCtorEq, sx, fx33, hX0, hY0, ← hσ0]
            simp only [dx, reduceIte, zLt, zLe, zEq, zAd, zMu, zSu, zBe, yEq, yLt, yLe, yTn, reduceCtorEq, sx, fx33, g0, hask, show ((0 : Int) != 0) = false from rfl]
            generalize hL : execC _ _ _ _ _ (Code.loop _) _ _ = q
            obtain ⟨e, T', σ', rfl, hc⟩ := loop0 _ _ (by simp only [Tr.get_set, zEq, reduceIte]) (by simp only [Tr.get_set, zEq, reduceIte]) (by simp only [Tr.get_set, zEq, reduceIte]) (by simp only [Tr.get_set, zEq, reduceIte]) (by simp only [Tr.get_set, zEq, reduceIte]) (by simp only [Tr.get_set, zEq, reduceIte]) hL
            rcases hc with ⟨_, h, _⟩ | ⟨rfl, _, rfl, t1, t2, t3, t6, t8⟩
            · rw [hall] at h; cases h
            simp only [dx, reduceIte, zLt, zLe, zEq, zAd, zMu, zSu, zBe, yEq, yLt, yLe, yTn, reduceCtorEq, sx, fx33, t2, t3, t8, intV_length, hgt', g0, hcp, ← hsp, ← hσ3]
            generalize hL2 : execC _ _ _ _ _ (Code.loop _) _ _ = q2
            obtain ⟨e, T5, σ5, rfl, _, rfl, u6, u11, n5, low5, hM5⟩ : ∃ e T' σ', q2 = some (e, T', σ') ∧ e ≠ .normal ∧ e = .exit 2 ∧ T'.get 6 = some (.ptr 1 0) ∧ T'.get 11 = some (.ptr sp 0) ∧ σ'.next = sp + 1 ∧ (∀ r, r < 2 → σ'.get r = σ'.get r ∧ σ'.get r = σ3.get r) ∧ HeapM 2 σ' sp pr none wr none its ps (putW ws (partB lo n) l) := by
              rw [← hL2]
              refine exec_loop (fun j T σ' => j ≤ n ∧ T.get 1 = some (.int .i64 (lo : Nat)) ∧ T.get 2 = some (.vs K (intV l)) ∧ T.get 6 = some (.ptr 1 0) ∧ T.get 8 = some (.int .i64 (n : Nat)) ∧ T.get 11 = some (.ptr sp 0) ∧ T.get 12 = some (.int .i64 (j : Nat)) ∧ σ'.next = sp + 1 ∧ (∀ r, r < 2 → σ'.get r = σ'.get r ∧ σ'.get r = σ3.get r) ∧ HeapM 2 σ' sp pr none wr none its ps (putW ws (partB lo j) l)) n (by omega) ?_ ?_ ?_
              · rintro j hj T σ' ⟨_, u1, u2, u6, u8, u11, u12, nx, lw, hMj⟩
                have hlt : ((j : Nat) : Int) < ((n : Nat) : Int) := by omega
                have hw' := i64_succ (i := j) (by omega)
                have w1 : IntKind.i64.wrap (((lo : Nat) : Int) + ((j : Nat) : Int)) = ((lo + j : Nat) : Int) := by rw [i64_id (by omega) (by omega)]; omega
                have msj := hMj.own.ms
                have mwj := hMj.own.mw
                obtain ⟨w, hw⟩ : ∃ w, w = putW ws (partB lo j) l := ⟨_, rfl⟩
                have hwlen : w.length = ws.length := by rw [hw, putW_length]
                rw [← hw] at msj mwj hMj
                have hlt2 : ((lo + j : Nat) : Int) < ((w.length : Nat) : Int) := by omega
                have hin2 : lo + j + 1 ≤ w.length := by omega
                have hnext := put_next (ws := ws) (l := l) (lo := lo) (j := j) (by omega)
                rw [← hw] at hnext
                obtain ⟨σa, hσa⟩ : ∃ s, s = σ'.put wr (.row 1 false (intV (w.set (lo + j) 0))) := ⟨_, rfl⟩
                have hMa : HeapM 2 σa sp pr none wr none its ps (w.set (lo + j) 0) := by rw [hσa]; exact hMj.wordsTo (List.length_set ..)
                have msa : σa.get sp = some (.row 2 true [.slice pr 0 its.length none 3, .slice wr 0 w.length none 1]) := by have := hMa.own.ms; rwa [List.length_set] at this
                have mwa := hMa.own.mw
                by_cases hjl : j < l.length
                · have hltl : ((j : Nat) : Int) < ((l.length : Nat) : Int) := by omega
                  have hget := intV_get hjl
                  rw [wdAt_lt hjl] at hnext
                  have hMb := hMa.wordsTo (vs := putW ws (partB lo (j + 1)) l) (by rw [← hnext, List.length_set, List.length_set])
                  refine ⟨_, _, by
                    simp only [dx, reduceIte, zLt, zLe, zEq, zAd, zMu, zSu, zBe, yEq, yLt, yLe, yTn, reduceCtorEq, sx, fx33, u1, u2, u8, u11, u12, hlt, w1, msj, mwj, hlt2, intV_length, hin2, intV_set, Int.natCast_nonneg, Int.toNat_natCast, ← hσa]
                    simp only [dx, reduceIte, zLt, zLe, zEq, zAd, zMu, zSu, zBe, yEq, yLt, yLe, yTn, reduceCtorEq, sx, fx33, u1, u2, u8, u11, u12, hltl, w1, msa, mwa, hlt2, intV_length, List.length_set, hin2, intV_set, hget, List.set_set, hnext, Int.natCast_nonneg, Int.toNat_natCast, hw']
                    rfl, by omega, ?_, ?_, ?_, ?_, ?_, ?_, ?_, fun r hr => ⟨rfl, ?_⟩, hMb⟩
                  · simp only [Tr.get_set, zEq, reduceIte, u1]
                  · simp only [Tr.get_set, zEq, reduceIte, u2]
                  · simp only [Tr.get_set, zEq, reduceIte, u6]
                  · simp only [Tr.get_set, zEq, reduceIte, u8]
                  · simp only [Tr.get_set, zEq, reduceIte, u11]
                  · simp only [Tr.get_set, zEq, reduceIte]
                  · rw [hσa]; simpa using nx
                  · rw [AMem.get_put, if_neg (by omega), hσa, AMem.get_put, if_neg (by omega)]; exact (lw r hr).2
                · have hltl : ¬ ((j : Nat) : Int) < ((l.length : Nat) : Int) := by omega
                  rw [wdAt_none (by omega)] at hnext
                  refine ⟨_, _, by
                    simp only [dx, reduceIte, zLt, zLe, zEq, zAd, zMu, zSu, zBe, yEq, yLt, yLe, yTn, reduceCtorEq, sx, fx33, u1, u2, u8, u11, u12, hlt, w1, msj, mwj, hlt2, intV_length, hin2, intV_set, Int.natCast_nonneg, Int.toNat_natCast, ← hσa]
                    simp only [dx, reduceIte, zLt, zLe, zEq, zAd, zMu, zSu, zBe, yEq, yLt, yLe, yTn, reduceCtorEq, sx, fx33, u1, u2, u8, u11, u12, hltl, intV_length, hw']
                    rfl, by omega, ?_, ?_, ?_, ?_, ?_, ?_, ?_, fun r hr => ⟨rfl, ?_⟩, by rw [← hnext]; exact hMa⟩
                  · simp only [Tr.get_set, zEq, reduceIte, u1]
                  · simp only [Tr.get_set, zEq, reduceIte, u2]
                  · simp only [Tr.get_set, zEq, reduceIte, u6]
                  · simp only [Tr.get_set, zEq, reduceIte, u8]
                  · simp only [Tr.get_set, zEq, reduceIte, u11]
                  · simp only [Tr.get_set, zEq, reduceIte]
                  · rw [hσa]; simpa using nx
                  · rw [hσa, AMem.get_put, if_neg (by omega)]; exact (lw r hr).2
              · rintro T σ' ⟨_, u1, u2, u6, u8, u11, u12, nx, lw, hMj⟩
                have hge : ¬ (((n : Nat) : Int) < ((n : Nat) : Int)) := by omega
                refine ⟨_, _, _, by
                  simp only [dx, reduceIte, zLt, zLe, zEq, zAd, zMu, zSu, zBe, yEq, yLt, yLe, yTn, reduceCtorEq, sx, fx33, u8, u12, hge]
                  rfl, by simp, rfl, ?_, ?_, nx, lw, hMj⟩
                · simp only [Tr.get_set, zEq, reduceIte, u6]
                · simp only [Tr.get_set, zEq, reduceIte, u11]
              · refine ⟨Nat.zero_le _, ?_, ?_, ?_, ?_, ?_, ?_, n3, fun _ _ => ⟨rfl, rfl⟩, by rw [put_none]; exact hM⟩
                · simp only [Tr.get_set, zEq, reduceIte, t1]
                · simp only [Tr.get_set, zEq, reduceIte, t2]
                · simp only [Tr.get_set, zEq, reduceIte, t6]
                · simp only [Tr.get_set, zEq, reduceIte, t8]
                · simp only [Tr.get_set, zEq, reduceIte]
                · simp only [Tr.get_set, zEq, reduceIte] <;> rfl
            rw [hput] at hM5
            have ms5 := hM5.own.ms
            have g15 : σ5.get 1 = some (.row 2 true [.vs .nil [], .vs .nil []]) := by rw [(low5 1 (by omega)).2, low3 1 (by omega)]; exact g1
            simp only [dx, reduceIte, zLt, zLe, zEq, zAd, zMu, zSu, zBe, yEq, yLt, yLe, yTn, reduceCtorEq, sx, fx33, u6, u11, ms5, g15]
            exact ⟨_, _, rfl, by simp only [Tr.get_set, zEq, reduceIte, u6], by simp only [Tr.get_set, zEq, reduceIte], by rw [AMem.get_put, if_pos rfl], hM5.agree (fun r hr => by rw [AMem.get_put, if_neg (by omega)]) (by simp)⟩
          obtain ⟨T1, σ', r1, r2, r3, r5, hM'⟩ := run
          obtain ⟨v', S, hS, hvh⟩ := hM'.vh (fr := true) 7
          exact fin T1 _ _ _ 0 v' S _ _ r1 r2 r3 r5 hS hvh
      · have hall' : l.all wordQ = false := by cases h : l.all wordQ with
          | true => exact absurd h hall
          | false => rfl
        rw [if_neg hall]
        have run : ∃ T1, execC lawProg (callN lawProg k) k 33 69 (bodyOf Try.f33) (initT 0 [.agg [X0, Y0], .int .i64 (lo : Nat), .vs K (intV l)] .nil) AMem.empty = some (.ret, T1, σ0.put 1 (.row 2 true [.vs .nil [], .vs .nil []])) ∧ T1.get 6 = some (.ptr 1 0) ∧ T1.get 7 = some (.int .i64 3) := by
          simp only [bodyOf, Try.f33, Option.getD_some, initT, dx, reduceIte, zLt, zLe, zEq, zAd, zMu, zSu, zBe, yEq, yLt, yLe, yTn, reduceCtorEq, sx, fx33, hX0, hY0, ← hσ0]
          simp only [dx, reduceIte, zLt, zLe, zEq, zAd, zMu, zSu, zBe, yEq, yLt, yLe, yTn, reduceCtorEq, sx, fx33, g0, hask, show ((0 : Int) != 0) = false from rfl]
          generalize hL : execC _ _ _ _ _ (Code.loop _) _ _ = q
          obtain ⟨e, T', σ', rfl, hc⟩ := loop0 _ _ (by simp only [Tr.get_set, zEq, reduceIte]) (by simp only [Tr.get_set, zEq, reduceIte]) (by simp only [Tr.get_set, zEq, reduceIte]) (by simp only [Tr.get_set, zEq, reduceIte]) (by simp only [Tr.get_set, zEq, reduceIte]) (by simp only [Tr.get_set, zEq, reduceIte]) hL
          rcases hc with ⟨rfl, _, rfl, t6, t7⟩ | ⟨_, h, _⟩
          · simp only [dx, reduceIte, zLt, zLe, zEq, zAd, zMu, zSu, zBe, yEq, yLt, yLe, yTn, reduceCtorEq, sx, fx33]
            exact ⟨_, rfl, t6, t7⟩
          · rw [hall'] at h; cases h
        obtain ⟨T1, r1, r2, r3⟩ := run
        exact fin T1 _ _ _ 3 _ _ [] [] r1 r2 r3 (by rw [AMem.get_put, if_pos rfl]) (snap_hp0 _ 9) nil_vh
theorem RPut_call {v : AVal} {ps : List Pg} {ws l : List Int} {K : VK} (a : Int) (hv : VH v ps ws) (hb : Bd ps ws) (hl : l.length ≤ 1000) (hk : 9501 ≤ k) : ∃ v', (∀ σ, pureCall lawProg (callN lawProg k) (.func 33 [] []) [v, .int .i64 a, .vs K (intV l)] σ = some (.tuple [v', .int .i64 (putH ps ws a l).e], σ)) ∧ VH v' (putH ps ws a l).ps (putH ps ws a l).ws := by
  obtain ⟨k, rfl⟩ : ∃ m, k = m + 1 := ⟨k - 1, by omega⟩
  obtain ⟨v', h1, h2⟩ := RPut_run (K := K) a hv hb hl (k := k) (by omega)
  refine ⟨v', fun σ => pureCall_of (seen := [] ++ ([] ++ ([] ++ []))) ?_ (memo33 _) h1, h2⟩
  have := hv.snap σ 10
  simp only [snapL, snapDepth, this, snapF, Bool.false_and, Bool.false_eq_true, if_false]
end Go.Proofs.Ytjkfdiglokkceaa

/- Heaps: Get and Size, of the program and of the reference; lists that are compared. -/
set_option maxRecDepth 100000
set_option linter.unusedSimpArgs false
set_option linter.unusedVariables false
namespace Go.Proofs.Ytjkfdiglokkceaa
open Go Go.Proofs.Ytjkfdiglokkceaa.Pale
variable {k : Nat} {σ : AMem}

theorem sameInts_call (K K2 : VK) (l : List Int) (hl : l.length ≤ 8000) (hk : 9000 ≤ k) : pureCall lawProg (callN lawProg k) (.func 37 [] []) [.vs K (intV l), .vs K2 (intV l)] σ = some (.bool true, σ) := by
  obtain ⟨k, rfl⟩ : ∃ m, k = m + 1 := ⟨k - 1, by omega⟩
  have run : ∃ T1 σ1, execC lawProg (callN lawProg k) k 37 26 (bodyOf Try.f37) (initT 0 [.vs K (intV l), .vs K2 (intV l)] .nil) AMem.empty = some (.ret, T1, σ1) ∧ T1.get 4 = some (.bool true) := by
    have hne : (((l.length : Nat) : Int) != ((l.length : Nat) : Int)) = false := bne_self_eq_false _
    simp only [bodyOf, Try.f37, Option.getD_some, initT, dx, reduceIte, zLt, zLe, zEq, zAd, zMu, zSu, zBe, yEq, yLt, yLe, yTn, reduceCtorEq, sx, fx37, intV_length, hne]
    generalize hL : execC _ _ _ _ _ (Code.loop _) _ _ = q
    obtain ⟨e, T', σ', rfl, _, rfl⟩ : ∃ e T' σ', q = some (e, T', σ') ∧ e ≠ .normal ∧ e = .exit 0 := by
      rw [← hL]
      refine exec_loop (fun i T σ' => i ≤ l.length ∧ T.get 0 = some (.vs K (intV l)) ∧ T.get 1 = some (.vs K2 (intV l)) ∧ T.get 5 = some (.int .i64 (i : Nat))) l.length (by omega) ?_ ?_ ?_
      · rintro i hi T σ0 ⟨_, t0, t1, t5⟩
        have hlt : ((i : Nat) : Int) < ((l.length : Nat) : Int) := by omega
        have hw' := i64_succ (i := i) (by omega)
        have hget := intV_get hi
        have hne2 : (l[i] != l[i]) = false := bne_self_eq_false _
        refine ⟨_, _, by
          simp only [dx, reduceIte, zLt, zLe, zEq, zAd, zMu, zSu, zBe, yEq, yLt, yLe, yTn, reduceCtorEq, sx, fx37, t0, t1, t5, intV_length, hlt, Int.natCast_nonneg, Int.toNat_natCast, hget, hne2, hw']
          rfl, by omega, ?_, ?_, ?_⟩
        · simp only [Tr.get_set, zEq, reduceIte, t0]
        · simp only [Tr.get_set, zEq, reduceIte, t1]
        · simp only [Tr.get_set, zEq, reduceIte]
      · rintro T σ0 ⟨_, t0, t1, t5⟩
        have hge : ¬ (((l.length : Nat) : Int) < ((l.length : Nat) : Int)) := by omega
        exact ⟨_, _, _, by
          simp only [dx, reduceIte, zLt, zLe, zEq, zAd, zMu, zSu, zBe, yEq, yLt, yLe, yTn, reduceCtorEq, sx, fx37, t0, t5, intV_length, hge]
          rfl, by simp, rfl⟩
      · refine ⟨Nat.zero_le _, ?_, ?_, ?_⟩
        all_goals simp only [Tr.get_set, zEq, reduceIte] <;> rfl
    simp only [dx, reduceIte, zLt, zLe, zEq, zAd, zMu, zSu, zBe, yEq, yLt, yLe, yTn, reduceCtorEq, sx, fx37]
    exact ⟨_, _, rfl, by simp only [Tr.get_set, zEq, reduceIte]⟩
  obtain ⟨T1, σ1, h1, h2⟩ := run
  exact pureCall_of (args' := [.vs K (intV l), .vs K2 (intV l)]) (seen := []) rfl (memo37 _) (pureRun_of fn37 rfl (by simp [Try.f37]) h1 (by simp) (res_one h2) rfl)
end Go.Proofs.Ytjkfdiglokkceaa

/- Heaps: acts: what they do; the program's act. -/
set_option maxRecDepth 100000
set_option linter.unusedSimpArgs false
set_option linter.unusedVariables false
namespace Go.Proofs.Ytjkfdiglokkceaa
open Go Go.Proofs.Ytjkfdiglokkceaa.Pale
variable {k : Nat} {σ : AMem}

structure Act where
  kind : Int
  at_ : Int
  n : Int
  words : List Int
abbrev AV := Act × VK
def actC (x : AV) : List AVal := [.int .u8 x.1.kind, .int .i64 x.1.at_, .int .i64 x.1.n, .vs x.2 (intV x.1.words)]
def actV (x : AV) : AVal := .agg (actC x)
noncomputable def doH (ps : List Pg) (ws : List Int) (a : Act) : HRes :=
  if a.kind = 1 then allocH ps ws a.n else if a.kind = 2 then freeH ps ws a.at_ else if a.kind = 3 then putH ps ws a.at_ a.words else ⟨[], [], 0, 2⟩
theorem put_right {ps : List Pg} {ws l : List Int} {b : Blk} (h : RightH ps ws) (hb : b ∈ blocksL ps) (hall : l.all wordQ = true) : RightH ps (putW ws b l) := by
  have hl := h.len
  refine ⟨h.many, by rw [putW_length]; exact hl, fun w hw => ?_, h.shape, (zeros_iff h.shape (by rw [putW_length]; exact hl)).2 fun k hk => ?_⟩
  · obtain ⟨k, hk, rfl⟩ := List.mem_iff_getElem.1 hw
    have hk' : k < ws.length := by rw [putW_length] at hk; exact hk
    rw [← wdAt_lt hk, wdAt_put hk']
    split
    · by_cases hj : k - b.at_.toNat < l.length
      · rw [wdAt_lt hj]
        have := List.all_eq_true.1 hall _ (List.getElem_mem hj)
        unfold wordQ at this
        unfold maxWord
        exact of_decide_eq_true this
      · rw [wdAt_none (by omega)]
        unfold maxWord; omega
    · rw [wdAt_lt hk']; exact h.words _ (List.getElem_mem hk')
  · have hk' : k < ws.length := by rw [putW_length] at hk; exact hk
    rw [wdAt_put hk']
    by_cases e : b.at_ ≤ (k : Int) ∧ (k : Int) < b.at_ + b.size
    · exact .inl ⟨b, hb, e.1, e.2⟩
    · rw [if_neg e]
      exact (zeros_iff h.shape hl).1 h.zeros k hk'
/-- Where it is done, it stays right; where not, no place is given. -/
theorem do_right {ps : List Pg} {ws : List Int} {a : Act} (h : RightH ps ws) : ((doH ps ws a).e = 0 → RightH (doH ps ws a).ps (doH ps ws a).ws) ∧ ((doH ps ws a).e ≠ 0 → doH ps ws a = ⟨[], [], 0, (doH ps ws a).e⟩) := by
  have hr := rightB_true h
  unfold doH
  split
  · unfold allocH
    rw [hr, if_pos rfl]
    by_cases hn : 1 ≤ a.n ∧ a.n ≤ 2560
    · rw [if_pos hn]
      cases ha : allocL ps a.n with
      | none => exact ⟨fun e => by simp at e, fun _ => rfl⟩
      | some x => exact ⟨fun _ => (back_law h hn.1 ha).1, fun e => by simp at e⟩
    · rw [if_neg hn]
      exact ⟨fun e => by simp at e, fun _ => rfl⟩
  · split
    · unfold freeH
      rw [hr, if_pos rfl]
      cases hf : findL ps a.at_ with
      | none => exact ⟨fun e => by simp at e, fun _ => rfl⟩
      | some b => exact ⟨fun _ => free_right h (findL_some hf).1, fun e => by simp at e⟩
    · split
      · unfold putH
        rw [hr, if_pos rfl]
        cases hf : findL ps a.at_ with
        | none => exact ⟨fun e => by simp at e, fun _ => rfl⟩
        | some b =>
          cases hall : a.words.all wordQ with
          | false => exact ⟨fun e => by simp at e, fun _ => rfl⟩
          | true =>
            simp only [if_true]
            split
            · exact ⟨fun e => by simp at e, fun _ => rfl⟩
            · exact ⟨fun _ => put_right h (findL_some hf).1 hall, fun e => by simp at e⟩
      · exact ⟨fun e => by simp at e, fun _ => rfl⟩
theorem act_alloc {r sp : Nat} {a b c at_ e : Int} {x : AVal} {σ' : AMem} (hg : σ.get r = some (.row 4 true [.int .u8 a, .int .i64 b, .int .i64 c, x])) (hc : callN lawProg k (.func 53 [] []) [.ptr sp 0, .int .i64 c] σ = some (.tuple [.int .i64 at_, .int .i64 e], σ')) : callN lawProg (k + 1) (.func 79 [] [.ptr r 0]) [.ptr sp 0] σ = some (.tuple [.int .i64 at_, .int .i64 e], σ') := by
  have run : ∃ T1, execC lawProg (callN lawProg k) k 79 11 (bodyOf Try.f79) (initT 0 [.ptr sp 0, .ptr r 0] .nil) σ = some (.ret, T1, σ') ∧ T1.get 3 = some (.int .i64 at_) ∧ T1.get 4 = some (.int .i64 e) := by
    simp only [bodyOf, Try.f79, Option.getD_some, initT, dx, reduceIte, zLt, zLe, zEq, zAd, zMu, zSu, zBe, yEq, yLt, yLe, yTn, reduceCtorEq, sx, fx79, hg, hc]
    exact ⟨_, rfl, by simp only [Tr.get_set, zEq, reduceIte], by simp only [Tr.get_set, zEq, reduceIte]⟩
  obtain ⟨T1, r1, r2, r3⟩ := run
  exact q_call (first := []) fn79 rfl (by simp [Try.f79]) r1 (by simp) (res_two r2 r3)
theorem act_free {r sp : Nat} {a b c e : Int} {x : AVal} {σ' : AMem} (hg : σ.get r = some (.row 4 true [.int .u8 a, .int .i64 b, .int .i64 c, x])) (hc : callN lawProg k (.func 55 [] []) [.ptr sp 0, .int .i64 b] σ = some (.int .i64 e, σ')) : callN lawProg (k + 1) (.func 80 [] [.ptr r 0]) [.ptr sp 0] σ = some (.tuple [.int .i64 0, .int .i64 e], σ') := by
  have run : ∃ T1, execC lawProg (callN lawProg k) k 80 9 (bodyOf Try.f80) (initT 0 [.ptr sp 0, .ptr r 0] .nil) σ = some (.ret, T1, σ') ∧ T1.get 3 = some (.int .i64 0) ∧ T1.get 4 = some (.int .i64 e) := by
    simp only [bodyOf, Try.f80, Option.getD_some, initT, dx, reduceIte, zLt, zLe, zEq, zAd, zMu, zSu, zBe, yEq, yLt, yLe, yTn, reduceCtorEq, sx, fx80, hg, hc]
    exact ⟨_, rfl, by simp only [Tr.get_set, zEq, reduceIte], by simp only [Tr.get_set, zEq, reduceIte]⟩
  obtain ⟨T1, r1, r2, r3⟩ := run
  exact q_call (first := []) fn80 rfl (by simp [Try.f80]) r1 (by simp) (res_two r2 r3)
theorem act_put {r sp : Nat} {a b c e : Int} {l : List Int} {K : VK} {σ' : AMem} (hg : σ.get r = some (.row 4 true [.int .u8 a, .int .i64 b, .int .i64 c, .vs K (intV l)])) (hc : callN lawProg k (.func 59 [] []) [.ptr sp 0, .int .i64 b, .vs K (intV l)] σ = some (.int .i64 e, σ')) : callN lawProg (k + 1) (.func 81 [] [.ptr r 0]) [.ptr sp 0] σ = some (.tuple [.int .i64 0, .int .i64 e], σ') := by
  have run : ∃ T1, execC lawProg (callN lawProg k) k 81 11 (bodyOf Try.f81) (initT 0 [.ptr sp 0, .ptr r 0] .nil) σ = some (.ret, T1, σ') ∧ T1.get 3 = some (.int .i64 0) ∧ T1.get 4 = some (.int .i64 e) := by
    simp only [bodyOf, Try.f81, Option.getD_some, initT, dx, reduceIte, zLt, zLe, zEq, zAd, zMu, zSu, zBe, yEq, yLt, yLe, yTn, reduceCtorEq, sx, fx81, hg, hc]
    exact ⟨_, rfl, by simp only [Tr.get_set, zEq, reduceIte], by simp only [Tr.get_set, zEq, reduceIte]⟩
  obtain ⟨T1, r1, r2, r3⟩ := run
  exact q_call (first := []) fn81 rfl (by simp [Try.f81]) r1 (by simp) (res_two r2 r3)
/-- What act makes before it asks its map. -/
noncomputable def actM (σ : AMem) (x : AV) : AMem :=
  ((((σ.push (.row 4 true (actC x))).push (.map [])).put (σ.next + 1) (.map [(.int .u8 1, .func 79 [] [.ptr σ.next 0])])).put (σ.next + 1) (.map [(.int .u8 1, .func 79 [] [.ptr σ.next 0]), (.int .u8 2, .func 80 [] [.ptr σ.next 0])])).put (σ.next + 1) (.map [(.int .u8 1, .func 79 [] [.ptr σ.next 0]), (.int .u8 2, .func 80 [] [.ptr σ.next 0]), (.int .u8 3, .func 81 [] [.ptr σ.next 0])])
theorem actM_ext (σ : AMem) (x : AV) : Ext σ (actM σ x) := ((((Ext.push _ _).trans (Ext.push _ _)).put _ _ (by omega)).put _ _ (by omega)).put _ _ (by omega)
theorem actM_get (σ : AMem) (x : AV) : (actM σ x).get σ.next = some (.row 4 true (actC x)) := by
  unfold actM
  rw [AMem.get_put, if_neg (by omega), AMem.get_put, if_neg (by omega), AMem.get_put, if_neg (by omega), AMem.get_push, if_neg (by simp), AMem.get_push, if_pos rfl]
set_option maxHeartbeats 1000000 in
theorem act_do {sp : Nat} {x : AV} {at_ e : Int} {σ' : AMem} (h : ∃ g, ((x.1.kind = 1 ∧ g = 79) ∨ (x.1.kind = 2 ∧ g = 80) ∨ (x.1.kind = 3 ∧ g = 81)) ∧ callN lawProg k (.func g [] [.ptr σ.next 0]) [.ptr sp 0] (actM σ x) = some (.tuple [.int .i64 at_, .int .i64 e], σ')) : callN lawProg (k + 1) (.func 62 [] []) [.ptr sp 0, actV x] σ = some (.tuple [.int .i64 at_, .int .i64 e], σ') := by
  obtain ⟨⟨kd, a, n, l⟩, K⟩ := x
  obtain ⟨g, hg, hc⟩ := h
  simp only at hg
  have run : ∃ T1, execC lawProg (callN lawProg k) k 62 27 (bodyOf Try.f62) (initT 0 [.ptr sp 0, actV ⟨⟨kd, a, n, l⟩, K⟩] .nil) σ = some (.ret, T1, σ') ∧ T1.get 4 = some (.int .i64 at_) ∧ T1.get 5 = some (.int .i64 e) := by
    unfold actM actC at hc
    have q1 : ¬ σ.next + 1 = σ.next := by omega
    have q2 : ¬ σ.next = σ.next + 1 := by omega
    have u1 : ∀ f, updA true (.int .u8 1) f [] = some [(.int .u8 1, f)] := fun f => rfl
    have u2 : ∀ f g, updA true (.int .u8 2) g [(.int .u8 1, f)] = some [(.int .u8 1, f), (.int .u8 2, g)] := fun f g => rfl
    have u3 : ∀ f g h, updA true (.int .u8 3) h [(.int .u8 1, f), (.int .u8 2, g)] = some [(.int .u8 1, f), (.int .u8 2, g), (.int .u8 3, h)] := fun f g h => rfl
    have f1 : ∀ f g h, findA true (.int .u8 1) [(.int .u8 1, f), (.int .u8 2, g), (.int .u8 3, h)] = some (some f) := fun f g h => rfl
    have f2 : ∀ f g h, findA true (.int .u8 2) [(.int .u8 1, f), (.int .u8 2, g), (.int .u8 3, h)] = some (some g) := fun f g h => rfl
    have f3 : ∀ f g h, findA true (.int .u8 3) [(.int .u8 1, f), (.int .u8 2, g), (.int .u8 3, h)] = some (some h) := fun f g h => rfl
    rcases hg with ⟨rfl, rfl⟩ | ⟨rfl, rfl⟩ | ⟨rfl, rfl⟩
    all_goals
      simp only [bodyOf, Try.f62, Option.getD_some, initT, dx, reduceIte, zLt, zLe, zEq, zAd, zMu, zSu, zBe, yEq, yLt, yLe, yTn, reduceCtorEq, sx, fx62, actV, actC, keyKind, q1, q2, u1, u2, u3, f1, f2, f3, hc]
      exact ⟨_, rfl, by simp only [Tr.get_set, zEq, reduceIte], by simp only [Tr.get_set, zEq, reduceIte]⟩
  obtain ⟨T1, r1, r2, r3⟩ := run
  exact q_call (first := []) (caps := []) fn62 rfl (by simp [Try.f62]) r1 (by simp) (res_two r2 r3)
set_option maxHeartbeats 1000000 in
theorem act_none {sp : Nat} {x : AV} (h1 : x.1.kind ≠ 1) (h2 : x.1.kind ≠ 2) (h3 : x.1.kind ≠ 3) : callN lawProg (k + 1) (.func 62 [] []) [.ptr sp 0, actV x] σ = some (.tuple [.int .i64 0, .int .i64 2], actM σ x) := by
  obtain ⟨⟨kd, a, n, l⟩, K⟩ := x
  simp only at h1 h2 h3
  have run : ∃ T1, execC lawProg (callN lawProg k) k 62 27 (bodyOf Try.f62) (initT 0 [.ptr sp 0, actV ⟨⟨kd, a, n, l⟩, K⟩] .nil) σ = some (.ret, T1, actM σ ⟨⟨kd, a, n, l⟩, K⟩) ∧ T1.get 4 = some (.int .i64 0) ∧ T1.get 5 = some (.int .i64 2) := by
    have q1 : ¬ σ.next + 1 = σ.next := by omega
    have q2 : ¬ σ.next = σ.next + 1 := by omega
    have u1 : ∀ f, updA true (.int .u8 1) f [] = some [(.int .u8 1, f)] := fun f => rfl
    have u2 : ∀ f g, updA true (.int .u8 2) g [(.int .u8 1, f)] = some [(.int .u8 1, f), (.int .u8 2, g)] := fun f g => rfl
    have u3 : ∀ f g h, updA true (.int .u8 3) h [(.int .u8 1, f), (.int .u8 2, g)] = some [(.int .u8 1, f), (.int .u8 2, g), (.int .u8 3, h)] := fun f g h => rfl
    have k1 : (kd == (1 : Int)) = false := by rw [beq_eq_false_iff_ne]; exact h1
    have k2 : (kd == (2 : Int)) = false := by rw [beq_eq_false_iff_ne]; exact h2
    have k3 : (kd == (3 : Int)) = false := by rw [beq_eq_false_iff_ne]; exact h3
    have f0 : ∀ f g h, findA true (.int .u8 kd) [(.int .u8 1, f), (.int .u8 2, g), (.int .u8 3, h)] = some none := fun f g h => by simp only [findA, keyEq, reduceIte, k1, k2, k3]
    simp only [bodyOf, Try.f62, Option.getD_some, initT, dx, reduceIte, zLt, zLe, zEq, zAd, zMu, zSu, zBe, yEq, yLt, yLe, yTn, reduceCtorEq, sx, fx62, actV, actC, actM, keyKind, q1, q2, u1, u2, u3, f0]
    exact ⟨_, rfl, by simp only [Tr.get_set, zEq, reduceIte], by simp only [Tr.get_set, zEq, reduceIte]⟩
  obtain ⟨T1, r1, r2, r3⟩ := run
  exact q_call (first := []) (caps := []) fn62 rfl (by simp [Try.f62]) r1 (by simp) (res_two r2 r3)
/-- act on a heap in memory. -/
theorem act_exec {low sp pr wr : Nat} {its : List MItem} {ps : List Pg} {ws : List Int} {x : AV} (h : HeapM low σ sp pr none wr none its ps ws) (hr : RightH ps ws) (hl : x.1.words.length ≤ 1000) (hk : 5000 ≤ k) :
    ∃ σ' its' qs us, callN lawProg (k + 2) (.func 62 [] []) [.ptr sp 0, actV x] σ = some (.tuple [.int .i64 (doH ps ws x.1).at_, .int .i64 (doH ps ws x.1).e], σ') ∧ HeapM low σ' sp pr none wr none its' qs us ∧ Fr σ (hrows sp pr wr its) σ' (hrows sp pr wr its') ∧ (((doH ps ws x.1).e = 0 ∧ qs = (doH ps ws x.1).ps ∧ us = (doH ps ws x.1).ws) ∨ ((doH ps ws x.1).e ≠ 0 ∧ qs = ps ∧ us = ws)) := by
  have hrb := rightB_true hr
  have hmany := hr.many
  have ex := actM_ext σ x
  have hM := h.ext ex
  have hg := actM_get σ x
  have hF : Fr σ (hrows sp pr wr its) (actM σ x) (hrows sp pr wr its) := Fr.ext ex
  obtain ⟨⟨kd, a, n, l⟩, K⟩ := x
  unfold actC at hg
  simp only at hg hl
  by_cases k1 : kd = 1
  · obtain ⟨σ', _, _, hcase⟩ := palloc_execF (k := k - 1) (n := n) hM hr.shape hmany.2 (by omega)
    rw [show k - 1 + 1 = k by omega] at hcase
    have hd : doH ps ws ⟨kd, a, n, l⟩ = allocH ps ws n := by unfold doH; rw [if_pos k1]
    rcases hcase with ⟨hn, hc, hM', hF'⟩ | ⟨hn1, hn2, hal, hc, hM', hF'⟩ | ⟨hn1, hn2, qs, b, its', hal, hc, hM', hF'⟩
    · have hres : allocH ps ws n = ⟨[], [], 0, 3⟩ := by unfold allocH; rw [hrb, if_pos rfl, if_neg hn]
      rw [hd, hres]
      exact ⟨σ', its, ps, ws, act_do ⟨_, .inl ⟨k1, rfl⟩, act_alloc hg hc⟩, hM', hF.trans hF', .inr ⟨by simp, rfl, rfl⟩⟩
    · have hres : allocH ps ws n = ⟨[], [], 0, 8⟩ := by unfold allocH; rw [hrb, if_pos rfl, if_pos ⟨hn1, hn2⟩, hal]
      rw [hd, hres]
      exact ⟨σ', its, ps, ws, act_do ⟨_, .inl ⟨k1, rfl⟩, act_alloc hg hc⟩, hM', hF.trans hF', .inr ⟨by simp, rfl, rfl⟩⟩
    · have hres : allocH ps ws n = ⟨qs, ws, b.at_, 0⟩ := by unfold allocH; rw [hrb, if_pos rfl, if_pos ⟨hn1, hn2⟩, hal]
      rw [hd, hres]
      exact ⟨σ', its', qs, ws, act_do ⟨_, .inl ⟨k1, rfl⟩, act_alloc hg hc⟩, hM', hF.trans hF', .inl ⟨rfl, rfl, rfl⟩⟩
  · by_cases k2 : kd = 2
    · obtain ⟨σ', _, _, hcase⟩ := pfree_execF (k := k - 1) (a := a) hM hr (by omega)
      rw [show k - 1 + 1 = k by omega] at hcase
      have hd : doH ps ws ⟨kd, a, n, l⟩ = freeH ps ws a := by unfold doH; rw [if_neg k1, if_pos k2]
      rcases hcase with ⟨hf, hc, hM', hF'⟩ | ⟨b, its', hf, hc, hM', hF'⟩
      · have hres : freeH ps ws a = ⟨[], [], 0, 7⟩ := by unfold freeH; rw [hrb, if_pos rfl, hf]
        rw [hd, hres]
        exact ⟨σ', its, ps, ws, act_do ⟨_, .inr (.inl ⟨k2, rfl⟩), act_free hg hc⟩, hM', hF.trans hF', .inr ⟨by simp, rfl, rfl⟩⟩
      · have hres : freeH ps ws a = ⟨freeL ps b, clearW ws b, 0, 0⟩ := by unfold freeH; rw [hrb, if_pos rfl, hf]
        rw [hd, hres]
        exact ⟨σ', its', _, _, act_do ⟨_, .inr (.inl ⟨k2, rfl⟩), act_free hg hc⟩, hM', hF.trans hF', .inl ⟨rfl, rfl, rfl⟩⟩
    · by_cases k3 : kd = 3
      · obtain ⟨σ', _, _, hcase⟩ := pput_execF (k := k - 1) (a := a) (K := K) (l := l) hM hr (by omega) (by omega) (by omega)
        rw [show k - 1 + 1 = k by omega] at hcase
        have hd : doH ps ws ⟨kd, a, n, l⟩ = putH ps ws a l := by unfold doH; rw [if_neg k1, if_neg k2, if_pos k3]
        rcases hcase with ⟨hf, hc, hM', hF'⟩ | ⟨b, hf, ⟨hall, hc, hM', hF'⟩ | ⟨hall, hgt, hc, hM', hF'⟩ | ⟨hall, hgt, hc, hM', hF'⟩⟩
        · have hres : putH ps ws a l = ⟨[], [], 0, 7⟩ := by unfold putH; rw [hrb, if_pos rfl, hf]
          rw [hd, hres]
          exact ⟨σ', its, ps, ws, act_do ⟨_, .inr (.inr ⟨k3, rfl⟩), act_put hg hc⟩, hM', hF.trans hF', .inr ⟨by simp, rfl, rfl⟩⟩
        · have hres : putH ps ws a l = ⟨[], [], 0, 3⟩ := by unfold putH; rw [hrb, if_pos rfl, hf]; simp only [hall]; rfl
          rw [hd, hres]
          exact ⟨σ', its, ps, ws, act_do ⟨_, .inr (.inr ⟨k3, rfl⟩), act_put hg hc⟩, hM', hF.trans hF', .inr ⟨by simp, rfl, rfl⟩⟩
        · have hres : putH ps ws a l = ⟨[], [], 0, 5⟩ := by unfold putH; rw [hrb, if_pos rfl, hf]; simp only [hall, if_true, if_pos hgt]
          rw [hd, hres]
          exact ⟨σ', its, ps, ws, act_do ⟨_, .inr (.inr ⟨k3, rfl⟩), act_put hg hc⟩, hM', hF.trans hF', .inr ⟨by simp, rfl, rfl⟩⟩
        · have hres : putH ps ws a l = ⟨ps, putW ws b l, 0, 0⟩ := by unfold putH; rw [hrb, if_pos rfl, hf]; simp only [hall, if_true, if_neg hgt]
          rw [hd, hres]
          exact ⟨σ', its, _, _, act_do ⟨_, .inr (.inr ⟨k3, rfl⟩), act_put hg hc⟩, hM', hF.trans hF', .inl ⟨rfl, rfl, rfl⟩⟩
      · have hd : doH ps ws ⟨kd, a, n, l⟩ = ⟨[], [], 0, 2⟩ := by unfold doH; rw [if_neg k1, if_neg k2, if_neg k3]
        rw [hd]
        exact ⟨_, its, ps, ws, act_none (k := k + 1) k1 k2 k3, hM, hF, .inr ⟨by simp, rfl, rfl⟩⟩
end Go.Proofs.Ytjkfdiglokkceaa

/- Heaps: copies of acts; acts done one after the other: what they leave. -/
set_option maxRecDepth 100000
set_option linter.unusedSimpArgs false
set_option linter.unusedVariables false
namespace Go.Proofs.Ytjkfdiglokkceaa
open Go Go.Proofs.Ytjkfdiglokkceaa.Pale
variable {k : Nat} {σ : AMem}

structure PRes where
  ps : List Pg
  ws : List Int
  gave : List Int
  i : Nat
  e : Int
noncomputable def playH : List Act → List Pg → List Int → List Int → Nat → PRes
  | [], ps, ws, g, i => ⟨ps, ws, g, i, 0⟩
  | a :: rest, ps, ws, g, i => if (doH ps ws a).e = 0 then playH rest (doH ps ws a).ps (doH ps ws a).ws (g ++ [(doH ps ws a).at_]) (i + 1) else ⟨ps, ws, g, i, (doH ps ws a).e⟩
noncomputable def playV (acts : List Act) (ps : List Pg) (ws : List Int) : PRes := if rightB ps ws then playH acts ps ws [] 0 else ⟨[], [], [], 0, 4⟩
theorem playH_bd : ∀ (acts : List Act) (ps : List Pg) (ws g : List Int) (i : Nat), RightH ps ws → RightH (playH acts ps ws g i).ps (playH acts ps ws g i).ws ∧ (playH acts ps ws g i).gave.length ≤ g.length + acts.length ∧ (playH acts ps ws g i).i ≤ i + acts.length := by
  intro acts
  induction acts with
  | nil => intro ps ws g i h; exact ⟨h, by simp [playH], by simp [playH]⟩
  | cons a rest ih =>
    intro ps ws g i h
    unfold playH
    by_cases e : (doH ps ws a).e = 0
    · rw [if_pos e]
      obtain ⟨h1, h2, h3⟩ := ih _ _ (g ++ [(doH ps ws a).at_]) (i + 1) ((do_right h).1 e)
      refine ⟨h1, ?_, ?_⟩
      · simp only [List.length_append, List.length_cons, List.length_nil] at h2 ⊢; omega
      · simp only [List.length_cons] at h3 ⊢; omega
    · rw [if_neg e]
      exact ⟨h, by simp, by simp⟩
theorem actV_get {l : List AV} {i : Nat} (hi : i < l.length) : (l.map actV)[i]? = some (.agg (actC l[i])) := by
  rw [List.getElem?_map, List.getElem?_eq_getElem hi]
  rfl
theorem act_one {a b c : Int} {y : AVal} (hy : y.oneCell = true) : [AVal.int .u8 a, .int .i64 b, .int .i64 c, y].all AVal.oneCell = true := by
  simp only [List.all_cons, List.all_nil, hy, Bool.and_true]
  rfl
set_option maxHeartbeats 1000000 in
theorem copyActs_run (K : VK) (l : List AV) (hl : l.length ≤ 1000) (hw : ∀ x, x ∈ l → x.1.words.length ≤ 1000) (hk : 2000 ≤ k) : ∃ (b : Bool) (l' : List AV), pureRun (callN lawProg (k + 1)) (.func 42 [] []) [.vs K (l.map actV)] = some (.vs (lkOf l.length) (l'.map actV), b) ∧ l'.map Prod.fst = l.map Prod.fst := by
  have run : ∃ (T1 : Tr AVal) (σ1 : AMem) (out : AVal) (ls : List (List AVal)) (l' : List AV), execC lawProg (callN lawProg k) k 42 25 (bodyOf Try.f42) (initT 0 [.vs K (l.map actV)] .nil) AMem.empty = some (.ret, T1, σ1) ∧ T1.get 2 = some out ∧ Deep 11 0 σ1 4 true out l.length ls.flatten (l'.map actC).flatten ∧ (l.length = 0 → out = .vs .nil []) ∧ ls.length = l.length ∧ (∀ c, c ∈ ls → c.length = 4) ∧ l'.map Prod.fst = l.map Prod.fst := by
    simp only [bodyOf, Try.f42, Option.getD_some, initT, dx, reduceIte, zLt, zLe, zEq, zAd, zMu, zSu, zBe, yEq, yLt, yLe, yTn, reduceCtorEq, sx, fx42]
    generalize hL : execC _ _ _ _ _ (Code.loop _) _ _ = q
    obtain ⟨e, T', σ', rfl, _, rfl, out, ls, l', t3, h1, h2, h3, h4, h5⟩ : ∃ e T' σ', q = some (e, T', σ') ∧ e ≠ .normal ∧ e = .exit 0 ∧ ∃ (out : AVal) (ls : List (List AVal)) (l' : List AV), T'.get 3 = some out ∧ Deep 11 0 σ' 4 true out l.length ls.flatten (l'.map actC).flatten ∧ (l.length = 0 → out = .vs .nil []) ∧ ls.length = l.length ∧ (∀ c, c ∈ ls → c.length = 4) ∧ l'.map Prod.fst = (l.take l.length).map Prod.fst := by
      rw [← hL]
      refine exec_loop (fun i T σ' => i ≤ l.length ∧ T.get 0 = some (.vs K (l.map actV)) ∧ T.get 4 = some (.int .i64 (i : Nat)) ∧ ∃ (out : AVal) (ls : List (List AVal)) (l' : List AV), T.get 3 = some out ∧ Deep 11 0 σ' 4 true out i ls.flatten (l'.map actC).flatten ∧ (i = 0 → out = .vs .nil []) ∧ ls.length = i ∧ (∀ c, c ∈ ls → c.length = 4) ∧ l'.map Prod.fst = (l.take i).map Prod.fst) l.length (by omega) ?_ ?_ ?_
      · rintro i hi T σ0 ⟨_, t0, t4, out, ls, l', t3, hd, h0, hls, hl4, hl'⟩
        have hlt : ((i : Nat) : Int) < ((l.length : Nat) : Int) := by omega
        have hw' := i64_succ (i := i) (by omega)
        have hget := actV_get hi
        have hwl := hw _ (List.getElem_mem hi)
        rcases hx : l[i] with ⟨⟨kd, a, n, us⟩, K1⟩
        rw [hx] at hget hwl
        simp only [actC] at hget hwl
        obtain ⟨q, hq⟩ : ∃ q, q = σ0.next := ⟨_, rfl⟩
        obtain ⟨σa, hσa⟩ : ∃ s, s = (σ0.push (.row 4 true [.int .u8 0, .int .i64 0, .int .i64 0, .vs .nil []])).put q (.row 4 true [.int .u8 kd, .int .i64 a, .int .i64 n, .vs K1 (intV us)]) := ⟨_, rfl⟩
        have exa : Ext σ0 σa := by rw [hσa]; exact (Ext.push _ _).put _ _ (by omega)
        have na : σa.next = q + 1 := by rw [hσa, hq]; simp
        have gq : σa.get q = some (.row 4 true [.int .u8 kd, .int .i64 a, .int .i64 n, .vs K1 (intV us)]) := by rw [hσa, AMem.get_put, if_pos rfl]
        obtain ⟨y, σb, hab, exb, hy⟩ := append_nil (σ := σa) (e := (⟨.int .i64, 1, 8, [.int .i64 0]⟩ : TyI)) (x := .vs K1 (intV us)) (cells := intV us) (n := us.length) (by decide) (by decide) (by decide) (source_ints K1 us σa) (by simp only [mostBytes]; omega)
        have hyo := hy.one
        have hyc := one_cells hyo
        have hbn := exb.1
        have gqb : σb.get q = some (.row 4 true [.int .u8 kd, .int .i64 a, .int .i64 n, .vs K1 (intV us)]) := by rw [exb.2 q (by omega)]; exact gq
        obtain ⟨σc, hσc⟩ : ∃ s, s = σb.put q (.row 4 true [.int .u8 kd, .int .i64 a, .int .i64 n, y]) := ⟨_, rfl⟩
        have nc : σc.next = σb.next := by rw [hσc]; simp
        have gqc : σc.get q = some (.row 4 true [.int .u8 kd, .int .i64 a, .int .i64 n, y]) := by rw [hσc, AMem.get_put, if_pos rfl]
        have exc : Ext σ0 σc := by rw [hσc]; exact (exa.trans exb).put _ _ (by omega)
        have hdc : Deep 11 0 σc 4 true out i ls.flatten (l'.map actC).flatten := hd.same exc.1 fun s _ h => exc.2 s h
        obtain ⟨K2, hr⟩ : ∃ K2, ReadsL 11 0 σc (rowOf out) [.int .u8 kd, .int .i64 a, .int .i64 n, y] [.int .u8 kd, .int .i64 a, .int .i64 n, .vs K2 (intV us)] := by
          rcases hy with ⟨h6, rfl⟩ | ⟨r, rfl, h6, h7, h8⟩
          · obtain rfl := List.eq_nil_of_length_eq_zero h6
            exact ⟨.nil, [], rfl, by simp⟩
          · have gr : σc.get r = some (.row 1 false (intV us)) := by rw [hσc, AMem.get_put, if_neg (by omega)]; exact h8
            have hs := snap_ints (fr := false) (d := 9) (r := r) (n := us.length) (lo := 0) (l := us) (cap := none) (by omega) gr
            have hseg : segW us 0 us.length = us := by unfold segW; simp
            rw [hseg] at hs
            refine ⟨.some, [] ++ ([] ++ ([] ++ ([r] ++ []))), ?_, fun s hs => ?_⟩
            · have c1 : snapF false σc 11 (.int .u8 kd) = some (.int .u8 kd, []) := rfl
              have c2 : snapF false σc 11 (.int .i64 a) = some (.int .i64 a, []) := rfl
              have c3 : snapF false σc 11 (.int .i64 n) = some (.int .i64 n, []) := rfl
              simp only [snapL, c1, c2, c3, hs]
            · have : s = r := by simpa using hs
              subst this
              refine ⟨by omega, by omega, fun hm => ?_⟩
              have := (hd.1.rows s hm).2.1
              omega
        obtain ⟨σd, a1, a2, a3, a4⟩ := Deep.one (e := (⟨.struct [(0, 5), (1, 3), (2, 3), (3, 23)], 4, 48, [.int .u8 0, .int .i64 0, .int .i64 0, .vs .nil []]⟩ : TyI)) hdc hr (by omega) rfl (by decide) (by decide) (by decide) (by simp only [mostBytes]; omega) (act_one hyo)
        have a1' : appendA (⟨.struct [(0, 5), (1, 3), (2, 3), (3, 23)], 4, 48, [.int .u8 0, .int .i64 0, .int .i64 0, .vs .nil []]⟩ : TyI) (σc.push (.row 4 true [.int .u8 kd, .int .i64 a, .int .i64 n, y])) out (.slice σc.next 0 1 (some 1) 4) = some (.slice (σc.next + 1) 0 (i + 1) none 4, σd) := a1
        refine ⟨_, _, by
          simp only [dx, reduceIte, zLt, zLe, zEq, zAd, zMu, zSu, zBe, yEq, yLt, yLe, yTn, reduceCtorEq, sx, fx42, Nat.add_assoc, Nat.add_eq_left, Nat.left_eq_add, Nat.add_left_cancel_iff, t0, t3, t4, hlt, List.length_map, hget, Int.natCast_nonneg, Int.toNat_natCast, ← hq, ← hσa]
          simp only [dx, reduceIte, zLt, zLe, zEq, zAd, zMu, zSu, zBe, yEq, yLt, yLe, yTn, reduceCtorEq, sx, fx42, t0, t3, t4, gq, hab, gqb, hyo, hyc, ← hσc, gqc, a1', hw']
          rfl, by omega, ?_, ?_, .slice (σc.next + 1) 0 (i + 1) none 4, ls ++ [[.int .u8 kd, .int .i64 a, .int .i64 n, y]], l' ++ [(⟨kd, a, n, us⟩, K2)], ?_, ?_, fun e => by omega, by simp [hls], ?_, ?_⟩
        · simp only [Tr.get_set, zEq, reduceIte, t0]
        · simp only [Tr.get_set, zEq, reduceIte]
        · simp only [Tr.get_set, zEq, reduceIte]
        · rw [List.flatten_append, List.map_append, List.flatten_append]
          simp only [List.map_cons, List.map_nil, List.flatten_cons, List.flatten_nil, List.append_nil, actC]
          exact a2
        · intro c hc
          rcases List.mem_append.1 hc with h | h
          · exact hl4 c h
          · simp only [List.mem_singleton] at h
            subst h
            rfl
        · rw [List.map_append, hl', List.take_succ_eq_append_getElem hi, List.map_append, hx]
          rfl
      · rintro T σ0 ⟨_, t0, t4, out, ls, l', t3, hd, h0, hls, hl4, hl'⟩
        have hge : ¬ (((l.length : Nat) : Int) < ((l.length : Nat) : Int)) := by omega
        refine ⟨_, _, _, by
          simp only [dx, reduceIte, zLt, zLe, zEq, zAd, zMu, zSu, zBe, yEq, yLt, yLe, yTn, reduceCtorEq, sx, fx42, t0, t4, List.length_map, hge]
          rfl, by simp, rfl, out, ls, l', ?_, hd, h0, hls, hl4, hl'⟩
        simp only [Tr.get_set, zEq, reduceIte, t3]
      · refine ⟨Nat.zero_le _, ?_, ?_, .vs .nil [], [], [], ?_, Deep.start _ _ _ _ _, fun _ => rfl, rfl, (fun c hc => by cases hc), rfl⟩
        all_goals simp only [Tr.get_set, zEq, reduceIte] <;> rfl
    simp only [dx, reduceIte, zLt, zLe, zEq, zAd, zMu, zSu, zBe, yEq, yLt, yLe, yTn, reduceCtorEq, sx, fx42, t3]
    rw [List.take_length] at h5
    exact ⟨_, _, out, ls, l', rfl, by simp only [Tr.get_set, zEq, reduceIte], h1, h2, h3, h4, h5⟩
  obtain ⟨T1, σ1, out, ls, l', r1, r2, r3, r4, r5, r6, r7⟩ := run
  have hll : l'.length = l.length := by simpa using congrArg List.length r7
  obtain ⟨S, hS⟩ := Deep.recs (d := 10) (sz := 4) r3 r4 r5.symm (by omega) (by rw [List.length_map, hll, r5]) r6 (fun c hc => by obtain ⟨x, _, rfl⟩ := List.mem_map.1 hc; rfl)
  rw [List.map_map] at hS
  obtain ⟨b, hb⟩ := pureRun_any (seen := S) (vs := [out]) fn42 rfl (by simp [Try.f42]) r1 (by simp) (res_one r2) hS
  exact ⟨b, l', hb, r7⟩
theorem copyActs_call (K : VK) (l : List AV) (hl : l.length ≤ 1000) (hw : ∀ x, x ∈ l → x.1.words.length ≤ 1000) (hk : 2001 ≤ k) : ∃ l' : List AV, (∀ σ, pureCall lawProg (callN lawProg k) (.func 42 [] []) [.vs K (l.map actV)] σ = some (.vs (lkOf l.length) (l'.map actV), σ)) ∧ l'.map Prod.fst = l.map Prod.fst := by
  obtain ⟨k, rfl⟩ : ∃ m, k = m + 1 := ⟨k - 1, by omega⟩
  obtain ⟨b, l', h1, h2⟩ := copyActs_run (k := k) K l hl hw (by omega)
  exact ⟨l', fun σ => pureCall_of0 rfl (memo42 _) h1, h2⟩
end Go.Proofs.Ytjkfdiglokkceaa

/- Heaps: the program's Play. -/
set_option maxRecDepth 100000
set_option linter.unusedSimpArgs false
set_option linter.unusedVariables false
namespace Go.Proofs.Ytjkfdiglokkceaa
open Go Go.Proofs.Ytjkfdiglokkceaa.Pale
variable {k : Nat} {σ : AMem}

theorem HeapM.bound {low sp pr wr : Nat} {pc wc : Option Nat} {its : List MItem} {ps : List Pg} {ws : List Int} (h : HeapM low σ sp pr pc wr wc its ps ws) : ∀ r, r ∈ hrows sp pr wr its → low ≤ r ∧ r < σ.next := by
  intro r hr
  simp only [hrows, List.mem_cons] at hr
  obtain ⟨l1, l2, l3⟩ := h.own.lo
  obtain ⟨x1, x2, x3⟩ := h.own.nx
  rcases hr with rfl | rfl | rfl | hr
  · exact ⟨l1, x1⟩
  · exact ⟨l2, x2⟩
  · exact ⟨l3, x3⟩
  · exact h.own.it.bound r hr
theorem HeapM.keep {low sp pr wr : Nat} {σ' : AMem} {pc wc : Option Nat} {its : List MItem} {ps : List Pg} {ws : List Int} (h : HeapM low σ sp pr pc wr wc its ps ws) (hn : σ.next ≤ σ'.next) (hh : ∀ r, r ∈ hrows sp pr wr its → σ'.get r = σ.get r) : HeapM low σ' sp pr pc wr wc its ps ws := by
  have h1 := hh sp (by simp [hrows])
  have h2 := hh pr (by simp [hrows])
  have h3 := hh wr (by simp [hrows])
  obtain ⟨x1, x2, x3⟩ := h.own.nx
  exact ⟨⟨by rw [h1]; exact h.own.ms, by rw [h2]; exact h.own.mp, by rw [h3]; exact h.own.mw, h.own.it.same (Nat.le_refl _) hn (fun r hr => hh r (by simp only [hrows, List.mem_cons]; exact .inr (.inr (.inr hr)))) h.own.it.2.2, h.own.ns, h.own.nw, h.own.ne, h.own.lo, ⟨by omega, by omega, by omega⟩⟩, h.pi, h.ox⟩
theorem grew_keep {low : Nat} {σ' : AMem} {sz : Nat} {g : Bool} {out : AVal} {j : Nat} {cells : List AVal} (h : Grew low σ sz g out j cells) (hn : σ.next ≤ σ'.next) (hs : ∀ r, r ∈ rowOf out → σ'.get r = σ.get r) : Grew low σ' sz g out j cells := by
  refine ⟨h.1, ?_⟩
  rcases h.2 with h0 | ⟨r, h1, h2, rfl, h4⟩
  · exact .inl h0
  · exact .inr ⟨r, h1, by omega, rfl, by rw [hs r (by simp [rowOf])]; exact h4⟩
theorem intV_pure (l : List Int) : (intV l).all pureB = true := by
  rw [List.all_eq_true]
  intro x hx
  obtain ⟨i, _, rfl⟩ := List.mem_map.1 hx
  rfl
theorem drop_acts {l : List AV} {i : Nat} (hi : i < l.length) : (l.map Prod.fst).drop i = (l[i]).1 :: (l.map Prod.fst).drop (i + 1) := by
  rw [List.drop_eq_getElem_cons (by simpa using hi), List.getElem_map]
set_option maxHeartbeats 4000000 in
theorem play_run {v : AVal} {ps0 : List Pg} {ws0 : List Int} (K : VK) (l : List AV) (hv : VH v ps0 ws0) (hb : Bd ps0 ws0) (hl : l.length ≤ 1000) (hw : ∀ x, x ∈ l → x.1.words.length ≤ 1000) (hk : 9000 ≤ k) : ∃ b v' Kg, pureRun (callN lawProg (k + 1)) (.func 41 [] []) [v, .vs K (l.map actV)] = some (.tuple [v', .vs Kg (intV (playV (l.map Prod.fst) ps0 ws0).gave), .int .i64 ((playV (l.map Prod.fst) ps0 ws0).i : Nat), .int .i64 (playV (l.map Prod.fst) ps0 ws0).e], b) ∧ VH v' (playV (l.map Prod.fst) ps0 ws0).ps (playV (l.map Prod.fst) ps0 ws0).ws := by
  obtain ⟨X, Y, rfl, hX, hY⟩ := hv.cells
  obtain ⟨σ0, hσ0⟩ : ∃ s, s = (AMem.empty.push (.row 2 true [X, Y])).push (.row 2 true [.vs .nil [], .vs .nil []]) := ⟨_, rfl⟩
  have n0 : σ0.next = 2 := by rw [hσ0]; simp [next_empty]
  have g0 : σ0.get 0 = some (.row 2 true [X, Y]) := by rw [hσ0]; simp [AMem.get_push, next_empty]
  have g1 : σ0.get 1 = some (.row 2 true [.vs .nil [], .vs .nil []]) := by rw [hσ0]; simp [AMem.get_push, next_empty]
  have fin : ∀ (T1 : Tr AVal) (σ' : AMem) (o0 o1 out : AVal) (g : List Int) (i : Nat) (e : Int) (v' : AVal) (S S2 : List Nat) (Kg : VK), execC lawProg (callN lawProg k) k 41 58 (bodyOf Try.f41) (initT 0 [.agg [X, Y], .vs K (l.map actV)] .nil) AMem.empty = some (.ret, T1, σ') → T1.get 4 = some (.ptr 1 0) → T1.get 5 = some out → T1.get 6 = some (.int .i64 (i : Nat)) → T1.get 7 = some (.int .i64 e) → σ'.get 1 = some (.row 2 true [o0, o1]) → snapF false σ' 11 (.agg [o0, o1]) = some (v', S) → snapF false σ' 11 out = some (.vs Kg (intV g), S2) → ∃ b, pureRun (callN lawProg (k + 1)) (.func 41 [] []) [.agg [X, Y], .vs K (l.map actV)] = some (.tuple [v', .vs Kg (intV g), .int .i64 (i : Nat), .int .i64 e], b) := by
    intro T1 σ' o0 o1 out g i e v' S S2 Kg r1 r2 r3 r4 r5 r6 hS hS2
    refine pureRun_any (vs := [.agg [o0, o1], out, .int .i64 (i : Nat), .int .i64 e]) (seen := S ++ (S2 ++ ([] ++ ([] ++ [])))) fn41 rfl (by simp [Try.f41]) r1 (by simp) ?_ ?_
    · simp only [Try.f41, resultsA, resultA, dx, reduceIte, zLt, zLe, zEq, zAd, zMu, zSu, zBe, yEq, yLt, yLe, yTn, reduceCtorEq, sx, fx41, r2, r3, r4, r5, r6]
    · have c1 : snapF false σ' 11 (.int .i64 (i : Nat)) = some (.int .i64 (i : Nat), []) := rfl
      have c2 : snapF false σ' 11 (.int .i64 e) = some (.int .i64 e, []) := rfl
      show snapF false σ' (11 + 1) (.tuple [.agg [o0, o1], out, .int .i64 (i : Nat), .int .i64 e]) = _
      rw [snapF]
      simp only [snapL, hS, hS2, c1, c2, Option.map_some]
  rcases open_vh (k := k - 1) hv hb (by omega) σ0 with ⟨hr, σ2, ho, ex2⟩ | ⟨hr, hright, σ2, sp, pr, wr, its0, ho, ex2, hM0⟩
  · rw [show k - 1 + 1 = k by omega] at ho
    have hres : playV (l.map Prod.fst) ps0 ws0 = ⟨[], [], [], 0, 4⟩ := by unfold playV; rw [hr]; rfl
    rw [hres]
    have m1 : σ2.get 1 = some (.row 2 true [.vs .nil [], .vs .nil []]) := by rw [ex2.2 1 (by omega)]; exact g1
    have run : ∃ T1, execC lawProg (callN lawProg k) k 41 58 (bodyOf Try.f41) (initT 0 [.agg [X, Y], .vs K (l.map actV)] .nil) AMem.empty = some (.ret, T1, σ2.put 1 (.row 2 true [.vs .nil [], .vs .nil []])) ∧ T1.get 4 = some (.ptr 1 0) ∧ T1.get 5 = some (.vs .nil []) ∧ T1.get 6 = some (.int .i64 0) ∧ T1.get 7 = some (.int .i64 4) := by
      simp only [bodyOf, Try.f41, Option.getD_some, initT, dx, reduceIte, zLt, zLe, zEq, zAd, zMu, zSu, zBe, yEq, yLt, yLe, yTn, reduceCtorEq, sx, fx41, hX, hY, ← hσ0]
      simp only [dx, reduceIte, zLt, zLe, zEq, zAd, zMu, zSu, zBe, yEq, yLt, yLe, yTn, reduceCtorEq, sx, fx41, g0, hX, hY, ho, m1, show ((4 : Int) != 0) = true from rfl]
      exact ⟨_, rfl, by simp only [Tr.get_set, zEq, reduceIte], by simp only [Tr.get_set, zEq, reduceIte], by simp only [Tr.get_set, zEq, reduceIte], by simp only [Tr.get_set, zEq, reduceIte]⟩
    obtain ⟨T1, r1, r2, r3, r4, r5⟩ := run
    obtain ⟨b, hb'⟩ := fin T1 _ _ _ (.vs .nil []) [] 0 4 _ _ [] .nil r1 r2 r3 r4 r5 (by rw [AMem.get_put, if_pos rfl]) (snap_hp0 _ 9) rfl
    exact ⟨b, _, _, hb', nil_vh⟩
  · rw [show k - 1 + 1 = k by omega] at ho
    rw [n0] at hM0
    obtain ⟨R, hR⟩ : ∃ R, R = playV (l.map Prod.fst) ps0 ws0 := ⟨_, rfl⟩
    rw [← hR]
    have hR0 : playH ((l.map Prod.fst).drop 0) ps0 ws0 [] 0 = R := by rw [hR]; unfold playV; rw [hr, if_pos rfl, List.drop_zero]
    have m1 : σ2.get 1 = some (.row 2 true [.vs .nil [], .vs .nil []]) := by rw [ex2.2 1 (by omega)]; exact g1
    have run : ∃ T1 σ' out its, execC lawProg (callN lawProg k) k 41 58 (bodyOf Try.f41) (initT 0 [.agg [X, Y], .vs K (l.map actV)] .nil) AMem.empty = some (.ret, T1, σ') ∧ T1.get 4 = some (.ptr 1 0) ∧ T1.get 5 = some out ∧ T1.get 6 = some (.int .i64 (R.i : Nat)) ∧ T1.get 7 = some (.int .i64 R.e) ∧ HeapM 2 σ' sp pr none wr none its R.ps R.ws ∧ Grew 2 σ' 1 false out R.gave.length (intV R.gave) ∧ σ'.get 1 = some (.row 2 true [.slice pr 0 its.length none 3, .slice wr 0 R.ws.length none 1]) := by
      simp only [bodyOf, Try.f41, Option.getD_some, initT, dx, reduceIte, zLt, zLe, zEq, zAd, zMu, zSu, zBe, yEq, yLt, yLe, yTn, reduceCtorEq, sx, fx41, hX, hY, ← hσ0]
      simp only [dx, reduceIte, zLt, zLe, zEq, zAd, zMu, zSu, zBe, yEq, yLt, yLe, yTn, reduceCtorEq, sx, fx41, g0, hX, hY, ho, show ((0 : Int) != 0) = false from rfl, List.length_map]
      generalize hL : execC _ _ _ _ _ (Code.loop _) _ _ = q
      obtain ⟨e, T', σ', rfl, _, hcase⟩ : ∃ e T' σ', q = some (e, T', σ') ∧ e ≠ .normal ∧ ((e = .ret ∧ T'.get 4 = some (.ptr 1 0) ∧ ∃ out its, T'.get 5 = some out ∧ T'.get 6 = some (.int .i64 (R.i : Nat)) ∧ T'.get 7 = some (.int .i64 R.e) ∧ HeapM 2 σ' sp pr none wr none its R.ps R.ws ∧ Grew 2 σ' 1 false out R.gave.length (intV R.gave) ∧ σ'.get 1 = some (.row 2 true [.slice pr 0 its.length none 3, .slice wr 0 R.ws.length none 1])) ∨
          (e = .exit 0 ∧ T'.get 1 = some (.vs K (l.map actV)) ∧ T'.get 4 = some (.ptr 1 0) ∧ T'.get 8 = some (.ptr sp 0) ∧ R.i = l.length ∧ R.e = 0 ∧ ∃ its out, T'.get 10 = some out ∧ HeapM 2 σ' sp pr none wr none its R.ps R.ws ∧ Grew 2 σ' 1 false out R.gave.length (intV R.gave) ∧ σ'.get 1 = some (.row 2 true [.vs .nil [], .vs .nil []]))) := by
        rw [← hL]
        refine exec_loop2 (fun i T σ' => i ≤ l.length ∧ T.get 1 = some (.vs K (l.map actV)) ∧ T.get 4 = some (.ptr 1 0) ∧ T.get 8 = some (.ptr sp 0) ∧ T.get 24 = some (.vs K (l.map actV)) ∧ T.get 25 = some (.int .i64 (l.length : Nat)) ∧ T.get 26 = some (.int .i64 (i : Nat)) ∧ ∃ its ps ws g out, T.get 10 = some out ∧ HeapM 2 σ' sp pr none wr none its ps ws ∧ RightH ps ws ∧ playH ((l.map Prod.fst).drop i) ps ws g i = R ∧ g.length = i ∧ Grew 2 σ' 1 false out g.length (intV g) ∧ (∀ r, r ∈ rowOf out → r ∉ hrows sp pr wr its) ∧ σ'.get 1 = some (.row 2 true [.vs .nil [], .vs .nil []])) l.length (by omega) ?_ ?_ ?_
        · rintro i hi T σi ⟨_, t1, t4, t8, t24, t25, t26, its, ps, ws, g, out, t10, hM, hright, hp, hgl, hgr, hdis, mi⟩
          have hlt : ((i : Nat) : Int) < ((l.length : Nat) : Int) := by omega
          have hw' := i64_succ (i := i) (by omega)
          have hget := actV_get hi
          have hwl := hw _ (List.getElem_mem hi)
          rw [drop_acts hi, playH] at hp
          rcases hx : l[i] with ⟨⟨kd, a, n, us⟩, K1⟩
          rw [hx] at hget hwl hp
          simp only [actC] at hget hwl hp
          obtain ⟨q, hq⟩ : ∃ q, q = σi.next := ⟨_, rfl⟩
          obtain ⟨σa, hσa⟩ : ∃ s, s = (σi.push (.row 4 true [.int .u8 0, .int .i64 0, .int .i64 0, .vs .nil []])).put q (.row 4 true [.int .u8 kd, .int .i64 a, .int .i64 n, .vs K1 (intV us)]) := ⟨_, rfl⟩
          have exa : Ext σi σa := by rw [hσa]; exact (Ext.push _ _).put _ _ (by omega)
          have na : σa.next = q + 1 := by rw [hσa, hq]; simp
          have gq : σa.get q = some (.row 4 true [.int .u8 kd, .int .i64 a, .int .i64 n, .vs K1 (intV us)]) := by rw [hσa, AMem.get_put, if_pos rfl]
          obtain ⟨σb, its', qs, us', hc, hM', hF, hcase⟩ := act_exec (k := k - 2) (x := ⟨⟨kd, a, n, us⟩, K1⟩) (hM.ext exa) hright hwl (by omega)
          rw [show k - 2 + 2 = k by omega] at hc
          simp only [actV, actC] at hc
          simp only at hcase
          have hFn := hF.nx
          have low1 : (1 : Nat) ∉ hrows sp pr wr its := fun h => by have := (hM.bound 1 h).1; omega
          have mb : σb.get 1 = some (.row 2 true [.vs .nil [], .vs .nil []]) := by
            obtain ⟨x1, _, _⟩ := hM.own.nx
            obtain ⟨y1, _, _⟩ := hM.own.lo
            rw [hF.get 1 (by omega) low1, exa.2 1 (by omega)]; exact mi
          have hkeep : ∀ r, r ∈ rowOf out → σb.get r = σi.get r := fun r hr => by
            have := (hgr.rows r hr).2.1
            rw [hF.get r (by omega) (hdis r hr), exa.2 r this]
          have hgb : Grew 2 σb 1 false out g.length (intV g) := grew_keep hgr (by omega) hkeep
          have msb := hM'.own.ms
          rcases hcase with ⟨he, rfl, rfl⟩ | ⟨he, rfl, rfl⟩
          · rw [if_pos he] at hp
            rw [he] at hc
            have hdis' : ∀ r, r ∈ rowOf out → r ∉ hrows sp pr wr its' := fun r hr hm => by
              have := (hgr.rows r hr).2.1
              rcases hF.sub r hm with h | h
              · exact hdis r hr h
              · omega
            have hlowb : 2 ≤ σb.next := by have := (hM'.bound sp (by simp [hrows])); omega
            obtain ⟨at_, hat⟩ : ∃ z, z = (doH ps ws ⟨kd, a, n, us⟩).at_ := ⟨_, rfl⟩
            rw [← hat] at hc hp
            obtain ⟨σd, a1, a2, a3, a4, a5⟩ := Grew.one (e := (⟨.int .i64, 1, 8, [.int .i64 0]⟩ : TyI)) (xs := [.int .i64 at_]) hgb hlowb rfl (by decide) (by decide) (by decide) (by simp only [mostBytes]; omega) rfl
            have a1' : appendA (⟨.int .i64, 1, 8, [.int .i64 0]⟩ : TyI) (σb.push (.row 1 false [.int .i64 at_])) out (.slice σb.next 0 1 (some 1) 1) = some (.slice (σb.next + 1) 0 (g.length + 1) none 1, σd) := a1
            refine .inl ⟨_, _, by
              simp only [dx, reduceIte, zLt, zLe, zEq, zAd, zMu, zSu, zBe, yEq, yLt, yLe, yTn, reduceCtorEq, sx, fx41, Nat.add_assoc, Nat.add_eq_left, Nat.left_eq_add, Nat.add_left_cancel_iff, t1, t4, t8, t24, t25, t26, hlt, List.length_map, hget, Int.natCast_nonneg, Int.toNat_natCast, ← hq, ← hσa]
              simp only [dx, reduceIte, zLt, zLe, zEq, zAd, zMu, zSu, zBe, yEq, yLt, yLe, yTn, reduceCtorEq, sx, fx41, t1, t4, t8, t10, t24, t25, t26, gq, hc, show ((0 : Int) != 0) = false from rfl, a1', hw']
              rfl, by omega, ?_, ?_, ?_, ?_, ?_, ?_, its', _, _, g ++ [at_], .slice (σb.next + 1) 0 (g.length + 1) none 1, ?_, ?_, (do_right hright).1 he, hp, by simp [hgl], ?_, ?_, ?_⟩
            · simp only [Tr.get_set, zEq, reduceIte, t1]
            · simp only [Tr.get_set, zEq, reduceIte, t4]
            · simp only [Tr.get_set, zEq, reduceIte, t8]
            · simp only [Tr.get_set, zEq, reduceIte, t24]
            · simp only [Tr.get_set, zEq, reduceIte, t25]
            · simp only [Tr.get_set, zEq, reduceIte]
            · simp only [Tr.get_set, zEq, reduceIte]
            · refine hM'.keep (by omega) fun r hr => a5 r (hM'.bound r hr).2 fun e => ?_
              exact hdis' r (by rw [e]; simp [rowOf]) hr
            · rw [List.length_append, List.length_singleton, show intV (g ++ [at_]) = intV g ++ [.int .i64 at_] by simp [intV]]
              exact a2
            · intro r hr hm
              simp only [rowOf, List.mem_singleton] at hr
              have := (hM'.bound r hm).2
              omega
            · rw [a4 1 (by omega)]; exact mb
          · rw [if_neg he] at hp
            have hb1 : ((doH qs us' ⟨kd, a, n, us⟩).e != 0) = true := by rw [bne_iff_ne]; exact he
            refine .inr ⟨_, _, _, by
              simp only [dx, reduceIte, zLt, zLe, zEq, zAd, zMu, zSu, zBe, yEq, yLt, yLe, yTn, reduceCtorEq, sx, fx41, Nat.add_assoc, Nat.add_eq_left, Nat.left_eq_add, Nat.add_left_cancel_iff, t1, t4, t8, t24, t25, t26, hlt, List.length_map, hget, Int.natCast_nonneg, Int.toNat_natCast, ← hq, ← hσa]
              simp only [dx, reduceIte, zLt, zLe, zEq, zAd, zMu, zSu, zBe, yEq, yLt, yLe, yTn, reduceCtorEq, sx, fx41, t1, t4, t8, t10, t24, t25, t26, gq, hc, hb1, msb, mb]
              rfl, by simp, .inl ⟨rfl, ?_, out, its', ?_, ?_, ?_, ?_, ?_, ?_⟩⟩
            · simp only [Tr.get_set, zEq, reduceIte, t4]
            · simp only [Tr.get_set, zEq, reduceIte]
            · simp only [Tr.get_set, zEq, reduceIte]; rw [← hp]
            · simp only [Tr.get_set, zEq, reduceIte]; rw [← hp]
            · rw [← hp]; exact hM'.agree (fun r hr => by rw [AMem.get_put, if_neg (by omega)]) (by simp)
            · rw [← hp]
              refine grew_keep hgb (by simp) fun r hr => ?_
              have := (hgb.rows r hr).1
              rw [AMem.get_put, if_neg (by omega)]
            · rw [AMem.get_put, if_pos rfl, ← hp]
        · rintro T σi ⟨_, t1, t4, t8, t24, t25, t26, its, ps, ws, g, out, t10, hM, hright, hp, hgl, hgr, hdis, mi⟩
          have hge : ¬ (((l.length : Nat) : Int) < ((l.length : Nat) : Int)) := by omega
          rw [List.drop_eq_nil_of_le (by simp), playH] at hp
          refine ⟨_, _, _, by
            simp only [dx, reduceIte, zLt, zLe, zEq, zAd, zMu, zSu, zBe, yEq, yLt, yLe, yTn, reduceCtorEq, sx, fx41, t25, t26, hge]
            rfl, by simp, .inr ⟨rfl, ?_, ?_, ?_, by rw [← hp], by rw [← hp], its, out, ?_, by rw [← hp]; exact hM, by rw [← hp]; exact hgr, mi⟩⟩
          · simp only [Tr.get_set, zEq, reduceIte, t1]
          · simp only [Tr.get_set, zEq, reduceIte, t4]
          · simp only [Tr.get_set, zEq, reduceIte, t8]
          · simp only [Tr.get_set, zEq, reduceIte, t10]
        · refine ⟨Nat.zero_le _, ?_, ?_, ?_, ?_, ?_, ?_, its0, ps0, ws0, [], .vs .nil [], ?_, hM0, hright, hR0, rfl, ⟨rfl, .inl ⟨rfl, rfl⟩⟩, (fun r hr => by simp [rowOf] at hr), m1⟩
          all_goals simp only [Tr.get_set, zEq, reduceIte] <;> rfl
      rcases hcase with ⟨rfl, t4, out, its, t5, t6, t7, hM, hgr, mo⟩ | ⟨rfl, t1, t4, t8, hi, he, its, out, t10, hM, hgr, mi⟩
      · exact ⟨_, _, out, its, rfl, t4, t5, t6, t7, hM, hgr, mo⟩
      · have msb := hM.own.ms
        simp only [dx, reduceIte, zLt, zLe, zEq, zAd, zMu, zSu, zBe, yEq, yLt, yLe, yTn, reduceCtorEq, sx, fx41, t1, t4, t8, t10, msb, mi, List.length_map]
        refine ⟨_, _, out, its, rfl, ?_, ?_, ?_, ?_, hM.agree (fun r hr => by rw [AMem.get_put, if_neg (by omega)]) (by simp), grew_keep hgr (by simp) fun r hr => ?_, by rw [AMem.get_put, if_pos rfl]⟩
        · simp only [Tr.get_set, zEq, reduceIte, t4]
        · simp only [Tr.get_set, zEq, reduceIte]
        · simp only [Tr.get_set, zEq, reduceIte]; rw [hi]
        · simp only [Tr.get_set, zEq, reduceIte]; rw [he]
        · have := (hgr.rows r hr).1
          rw [AMem.get_put, if_neg (by omega)]
    obtain ⟨T1, σ', out, its, r1, r2, r3, r4, r5, hM, hgr, mo⟩ := run
    obtain ⟨v', S, hS, hvh⟩ := hM.vh (fr := false) 7
    obtain ⟨Kg, S2, hS2, _⟩ := GrewE.snap (d := 9) (.inl hgr) (intV_pure _)
    obtain ⟨b, hb'⟩ := fin T1 σ' _ _ out R.gave R.i R.e v' S S2 Kg r1 r2 r3 r4 r5 mo hS hS2
    exact ⟨b, v', Kg, hb', hvh⟩
theorem play_call {v : AVal} {ps0 : List Pg} {ws0 : List Int} (K : VK) (l : List AV) (hv : VH v ps0 ws0) (hb : Bd ps0 ws0) (hl : l.length ≤ 1000) (hw : ∀ x, x ∈ l → x.1.words.length ≤ 1000) (hk : 9001 ≤ k) : ∃ v' Kg, (∀ σ, pureCall lawProg (callN lawProg k) (.func 41 [] []) [v, .vs K (l.map actV)] σ = some (.tuple [v', .vs Kg (intV (playV (l.map Prod.fst) ps0 ws0).gave), .int .i64 ((playV (l.map Prod.fst) ps0 ws0).i : Nat), .int .i64 (playV (l.map Prod.fst) ps0 ws0).e], σ)) ∧ VH v' (playV (l.map Prod.fst) ps0 ws0).ps (playV (l.map Prod.fst) ps0 ws0).ws := by
  obtain ⟨k, rfl⟩ : ∃ m, k = m + 1 := ⟨k - 1, by omega⟩
  obtain ⟨b, v', Kg, h1, h2⟩ := play_run (k := k) K l hv hb hl hw (by omega)
  refine ⟨v', Kg, fun σ => pureCall_of0 ?_ (memo41 _) h1, h2⟩
  have := hv.snap σ 10
  have c : snapF false σ 12 (.vs K (l.map actV)) = some (.vs K (l.map actV), []) := rfl
  simp only [snapL, snapDepth, this, c, List.append_nil]
end Go.Proofs.Ytjkfdiglokkceaa

/- Heaps: the reference's Do and Play. -/
set_option maxRecDepth 100000
set_option linter.unusedSimpArgs false
set_option linter.unusedVariables false
namespace Go.Proofs.Ytjkfdiglokkceaa
open Go Go.Proofs.Ytjkfdiglokkceaa.Pale
variable {k : Nat} {σ : AMem}

theorem freeH_at {ps : List Pg} {ws : List Int} {a : Int} : (freeH ps ws a).at_ = 0 := by
  unfold freeH
  cases rightB ps ws with
  | false => rfl
  | true => cases findL ps a <;> rfl
theorem putH_at {ps : List Pg} {ws l : List Int} {a : Int} : (putH ps ws a l).at_ = 0 := by
  unfold putH
  cases rightB ps ws with
  | false => rfl
  | true =>
    rw [if_pos rfl]
    cases findL ps a with
    | none => rfl
    | some b =>
      simp only
      split
      · split <;> rfl
      · rfl
set_option maxHeartbeats 2000000 in
theorem rdo_run {v : AVal} {ps : List Pg} {ws : List Int} (x : AV) (hv : VH v ps ws) (hb : Bd ps ws) (hl : x.1.words.length ≤ 1000) (hk : 9501 ≤ k) : ∃ b v', pureRun (callN lawProg (k + 1)) (.func 63 [] []) [v, actV x] = some (.tuple [v', .int .i64 (doH ps ws x.1).at_, .int .i64 (doH ps ws x.1).e], b) ∧ VH v' (doH ps ws x.1).ps (doH ps ws x.1).ws := by
  obtain ⟨⟨kd, a, n, us⟩, K⟩ := x
  simp only at hl ⊢
  obtain ⟨v1, hc1, hv1⟩ := RAlloc_call (k := k) n hv hb (by omega)
  obtain ⟨v2, hc2, hv2⟩ := RFree_call (k := k) a hv hb (by omega)
  obtain ⟨v3, hc3, hv3⟩ := RPut_call (k := k) (K := K) (l := us) a hv hb hl (by omega)
  obtain ⟨X, Y, rfl, hX, hY⟩ := hv.cells
  obtain ⟨X1, Y1, rfl, hX1, hY1⟩ := hv1.cells
  obtain ⟨X2, Y2, rfl, hX2, hY2⟩ := hv2.cells
  obtain ⟨X3, Y3, rfl, hX3, hY3⟩ := hv3.cells
  obtain ⟨σ0, hσ0⟩ : ∃ s, s = ((AMem.empty.push (.row 2 true [X, Y])).push (.row 4 true [.int .u8 kd, .int .i64 a, .int .i64 n, .vs K (intV us)])).push (.row 2 true [.vs .nil [], .vs .nil []]) := ⟨_, rfl⟩
  have n0 : σ0.next = 3 := by rw [hσ0]; simp [next_empty]
  have g0 : σ0.get 0 = some (.row 2 true [X, Y]) := by rw [hσ0]; simp [AMem.get_push, next_empty]
  have g1 : σ0.get 1 = some (.row 4 true [.int .u8 kd, .int .i64 a, .int .i64 n, .vs K (intV us)]) := by rw [hσ0]; simp [AMem.get_push, next_empty]
  have g2 : σ0.get 2 = some (.row 2 true [.vs .nil [], .vs .nil []]) := by rw [hσ0]; simp [AMem.get_push, next_empty]
  have fin : ∀ (T1 : Tr AVal) (σ' : AMem) (o0 o1 : AVal) (at_ e : Int) (qs : List Pg) (vs : List Int), execC lawProg (callN lawProg k) k 63 47 (bodyOf Try.f63) (initT 0 [.agg [X, Y], actV ⟨⟨kd, a, n, us⟩, K⟩] .nil) AMem.empty = some (.ret, T1, σ') → T1.get 4 = some (.ptr 2 0) → T1.get 5 = some (.int .i64 at_) → T1.get 6 = some (.int .i64 e) → σ'.get 2 = some (.row 2 true [o0, o1]) → VH (.agg [o0, o1]) qs vs → ∃ b v', pureRun (callN lawProg (k + 1)) (.func 63 [] []) [.agg [X, Y], actV ⟨⟨kd, a, n, us⟩, K⟩] = some (.tuple [v', .int .i64 at_, .int .i64 e], b) ∧ VH v' qs vs := by
    intro T1 σ' o0 o1 at_ e qs vs r1 r2 r3 r4 r5 hvh
    have hS := hvh.snap σ' 9
    obtain ⟨b, h⟩ := pureRun_any (v := .tuple [.agg [o0, o1], .int .i64 at_, .int .i64 e]) (vs := [.agg [o0, o1], .int .i64 at_, .int .i64 e]) (seen := [] ++ ([] ++ ([] ++ []))) fn63 rfl (by simp [Try.f63]) r1 (by simp) (by simp only [Try.f63, resultsA, resultA, dx, reduceIte, zLt, zLe, zEq, zAd, zMu, zSu, zBe, yEq, yLt, yLe, yTn, reduceCtorEq, sx, fx63, r2, r3, r4, r5]) (by
      have c1 : snapF false σ' 11 (.int .i64 at_) = some (.int .i64 at_, []) := rfl
      have c2 : snapF false σ' 11 (.int .i64 e) = some (.int .i64 e, []) := rfl
      show snapF false σ' (11 + 1) (.tuple [.agg [o0, o1], .int .i64 at_, .int .i64 e]) = _
      rw [snapF]
      simp only [snapL, hS, c1, c2, Option.map_some])
    exact ⟨b, _, h, hvh⟩
  -- a second cell
  have two : ∀ (A B : AVal), ∃ σ1 σ2 : AMem, σ1 = (σ0.push (.row 2 true [.vs .nil [], .vs .nil []])).put 3 (.row 2 true [A, B]) ∧ σ1.get 3 = some (.row 2 true [A, B]) ∧ σ1.get 2 = some (.row 2 true [.vs .nil [], .vs .nil []]) ∧ σ2 = σ1.put 2 (.row 2 true [A, B]) ∧ σ2.get 2 = some (.row 2 true [A, B]) := by
    intro A B
    refine ⟨_, _, rfl, by rw [AMem.get_put, if_pos rfl], ?_, rfl, by rw [AMem.get_put, if_pos rfl]⟩
    rw [AMem.get_put, if_neg (by omega), AMem.get_push, if_neg (by omega)]
    exact g2
  by_cases k1 : kd = 1
  · have hd : doH ps ws ⟨kd, a, n, us⟩ = allocH ps ws n := by unfold doH; rw [if_pos k1]
    have b1 : (kd == (1 : Int)) = true := by rw [beq_iff_eq]; exact k1
    rw [hd]
    have run : ∃ T1, execC lawProg (callN lawProg k) k 63 47 (bodyOf Try.f63) (initT 0 [.agg [X, Y], actV ⟨⟨kd, a, n, us⟩, K⟩] .nil) AMem.empty = some (.ret, T1, σ0.put 2 (.row 2 true [X1, Y1])) ∧ T1.get 4 = some (.ptr 2 0) ∧ T1.get 5 = some (.int .i64 (allocH ps ws n).at_) ∧ T1.get 6 = some (.int .i64 (allocH ps ws n).e) := by
      simp only [bodyOf, Try.f63, Option.getD_some, initT, dx, reduceIte, zLt, zLe, zEq, zAd, zMu, zSu, zBe, yEq, yLt, yLe, yTn, reduceCtorEq, sx, fx63, actV, actC, hX, hY, ← hσ0]
      simp only [dx, reduceIte, zLt, zLe, zEq, zAd, zMu, zSu, zBe, yEq, yLt, yLe, yTn, reduceCtorEq, sx, fx63, g0, g1, g2, hX, hY, b1, hc1, hX1, hY1]
      exact ⟨_, rfl, by simp only [Tr.get_set, zEq, reduceIte], by simp only [Tr.get_set, zEq, reduceIte], by simp only [Tr.get_set, zEq, reduceIte]⟩
    obtain ⟨T1, r1, r2, r3, r4⟩ := run
    exact fin T1 _ _ _ _ _ _ _ r1 r2 r3 r4 (by rw [AMem.get_put, if_pos rfl]) hv1
  · have b1 : (kd == (1 : Int)) = false := by rw [beq_eq_false_iff_ne]; exact k1
    by_cases k2 : kd = 2
    · have hd : doH ps ws ⟨kd, a, n, us⟩ = freeH ps ws a := by unfold doH; rw [if_neg k1, if_pos k2]
      have b2 : (kd == (2 : Int)) = true := by rw [beq_iff_eq]; exact k2
      rw [hd, freeH_at]
      obtain ⟨σ1, σ2, e1, m3, m2, e2, m4⟩ := two X2 Y2
      have run : ∃ T1, execC lawProg (callN lawProg k) k 63 47 (bodyOf Try.f63) (initT 0 [.agg [X, Y], actV ⟨⟨kd, a, n, us⟩, K⟩] .nil) AMem.empty = some (.ret, T1, σ2) ∧ T1.get 4 = some (.ptr 2 0) ∧ T1.get 5 = some (.int .i64 0) ∧ T1.get 6 = some (.int .i64 (freeH ps ws a).e) := by
        simp only [bodyOf, Try.f63, Option.getD_some, initT, dx, reduceIte, zLt, zLe, zEq, zAd, zMu, zSu, zBe, yEq, yLt, yLe, yTn, reduceCtorEq, sx, fx63, actV, actC, hX, hY, ← hσ0]
        simp only [dx, reduceIte, zLt, zLe, zEq, zAd, zMu, zSu, zBe, yEq, yLt, yLe, yTn, reduceCtorEq, sx, fx63, g0, g1, g2, n0, hX, hY, b1, b2, hc2, hX2, hY2, ← e1]
        simp only [dx, reduceIte, zLt, zLe, zEq, zAd, zMu, zSu, zBe, yEq, yLt, yLe, yTn, reduceCtorEq, sx, fx63, m2, m3, hX2, hY2, ← e2]
        exact ⟨_, rfl, by simp only [Tr.get_set, zEq, reduceIte], by simp only [Tr.get_set, zEq, reduceIte], by simp only [Tr.get_set, zEq, reduceIte]⟩
      obtain ⟨T1, r1, r2, r3, r4⟩ := run
      exact fin T1 _ _ _ _ _ _ _ r1 r2 r3 r4 m4 hv2
    · have b2 : (kd == (2 : Int)) = false := by rw [beq_eq_false_iff_ne]; exact k2
      by_cases k3 : kd = 3
      · have hd : doH ps ws ⟨kd, a, n, us⟩ = putH ps ws a us := by unfold doH; rw [if_neg k1, if_neg k2, if_pos k3]
        have b3 : (kd == (3 : Int)) = true := by rw [beq_iff_eq]; exact k3
        rw [hd, putH_at]
        obtain ⟨σ1, σ2, e1, m3, m2, e2, m4⟩ := two X3 Y3
        have run : ∃ T1, execC lawProg (callN lawProg k) k 63 47 (bodyOf Try.f63) (initT 0 [.agg [X, Y], actV ⟨⟨kd, a, n, us⟩, K⟩] .nil) AMem.empty = some (.ret, T1, σ2) ∧ T1.get 4 = some (.ptr 2 0) ∧ T1.get 5 = some (.int .i64 0) ∧ T1.get 6 = some (.int .i64 (putH ps ws a us).e) := by
          simp only [bodyOf, Try.f63, Option.getD_some, initT, dx, reduceIte, zLt, zLe, zEq, zAd, zMu, zSu, zBe, yEq, yLt, yLe, yTn, reduceCtorEq, sx, fx63, actV, actC, hX, hY, ← hσ0]
          simp only [dx, reduceIte, zLt, zLe, zEq, zAd, zMu, zSu, zBe, yEq, yLt, yLe, yTn, reduceCtorEq, sx, fx63, g0, g1, g2, n0, hX, hY, b1, b2, b3, hc3, hX3, hY3, ← e1]
          simp only [dx, reduceIte, zLt, zLe, zEq, zAd, zMu, zSu, zBe, yEq, yLt, yLe, yTn, reduceCtorEq, sx, fx63, m2, m3, hX3, hY3, ← e2]
          exact ⟨_, rfl, by simp only [Tr.get_set, zEq, reduceIte], by simp only [Tr.get_set, zEq, reduceIte], by simp only [Tr.get_set, zEq, reduceIte]⟩
        obtain ⟨T1, r1, r2, r3, r4⟩ := run
        exact fin T1 _ _ _ _ _ _ _ r1 r2 r3 r4 m4 hv3
      · have hd : doH ps ws ⟨kd, a, n, us⟩ = ⟨[], [], 0, 2⟩ := by unfold doH; rw [if_neg k1, if_neg k2, if_neg k3]
        have b3 : (kd == (3 : Int)) = false := by rw [beq_eq_false_iff_ne]; exact k3
        rw [hd]
        have run : ∃ T1, execC lawProg (callN lawProg k) k 63 47 (bodyOf Try.f63) (initT 0 [.agg [X, Y], actV ⟨⟨kd, a, n, us⟩, K⟩] .nil) AMem.empty = some (.ret, T1, σ0.put 2 (.row 2 true [.vs .nil [], .vs .nil []])) ∧ T1.get 4 = some (.ptr 2 0) ∧ T1.get 5 = some (.int .i64 0) ∧ T1.get 6 = some (.int .i64 2) := by
          simp only [bodyOf, Try.f63, Option.getD_some, initT, dx, reduceIte, zLt, zLe, zEq, zAd, zMu, zSu, zBe, yEq, yLt, yLe, yTn, reduceCtorEq, sx, fx63, actV, actC, hX, hY, ← hσ0]
          simp only [dx, reduceIte, zLt, zLe, zEq, zAd, zMu, zSu, zBe, yEq, yLt, yLe, yTn, reduceCtorEq, sx, fx63, g0, g1, g2, n0, hX, hY, b1, b2, b3]
          exact ⟨_, rfl, by simp only [Tr.get_set, zEq, reduceIte], by simp only [Tr.get_set, zEq, reduceIte], by simp only [Tr.get_set, zEq, reduceIte]⟩
        obtain ⟨T1, r1, r2, r3, r4⟩ := run
        exact fin T1 _ _ _ _ _ _ _ r1 r2 r3 r4 (by rw [AMem.get_put, if_pos rfl]) nil_vh
theorem rdo_call {v : AVal} {ps : List Pg} {ws : List Int} (x : AV) (hv : VH v ps ws) (hb : Bd ps ws) (hl : x.1.words.length ≤ 1000) (hk : 9502 ≤ k) : ∃ v', (∀ σ, pureCall lawProg (callN lawProg k) (.func 63 [] []) [v, actV x] σ = some (.tuple [v', .int .i64 (doH ps ws x.1).at_, .int .i64 (doH ps ws x.1).e], σ)) ∧ VH v' (doH ps ws x.1).ps (doH ps ws x.1).ws := by
  obtain ⟨k, rfl⟩ : ∃ m, k = m + 1 := ⟨k - 1, by omega⟩
  obtain ⟨b, v', h1, h2⟩ := rdo_run (k := k) x hv hb hl (by omega)
  refine ⟨v', fun σ => pureCall_of0 ?_ (memo63 _) h1, h2⟩
  have := hv.snap σ 10
  have c : snapF false σ 12 (actV x) = some (actV x, []) := rfl
  simp only [snapL, snapDepth, this, c, List.append_nil]
set_option maxHeartbeats 4000000 in
theorem rplay_run {v : AVal} {ps0 : List Pg} {ws0 : List Int} (K : VK) (l : List AV) (hv : VH v ps0 ws0) (hb : Bd ps0 ws0) (hl : l.length ≤ 1000) (hw : ∀ x, x ∈ l → x.1.words.length ≤ 1000) (hk : 9502 ≤ k) : ∃ b v' Kg, pureRun (callN lawProg (k + 1)) (.func 43 [] []) [v, .vs K (l.map actV)] = some (.tuple [v', .vs Kg (intV (playV (l.map Prod.fst) ps0 ws0).gave), .int .i64 ((playV (l.map Prod.fst) ps0 ws0).i : Nat), .int .i64 (playV (l.map Prod.fst) ps0 ws0).e], b) ∧ VH v' (playV (l.map Prod.fst) ps0 ws0).ps (playV (l.map Prod.fst) ps0 ws0).ws := by
  have hri := isRight_vh (k := k) hv hb (by omega)
  have hv0 := hv
  obtain ⟨X0, Y0, rfl, hX0, hY0⟩ := hv.cells
  obtain ⟨σ0, hσ0⟩ : ∃ s, s = (AMem.empty.push (.row 2 true [X0, Y0])).push (.row 2 true [.vs .nil [], .vs .nil []]) := ⟨_, rfl⟩
  have n0 : σ0.next = 2 := by rw [hσ0]; simp [next_empty]
  have g0 : σ0.get 0 = some (.row 2 true [X0, Y0]) := by rw [hσ0]; simp [AMem.get_push, next_empty]
  have g1 : σ0.get 1 = some (.row 2 true [.vs .nil [], .vs .nil []]) := by rw [hσ0]; simp [AMem.get_push, next_empty]
  have fin : ∀ (T1 : Tr AVal) (σ' : AMem) (o0 o1 out : AVal) (g : List Int) (i : Nat) (e : Int) (v' : AVal) (S S2 : List Nat) (Kg : VK), execC lawProg (callN lawProg k) k 43 48 (bodyOf Try.f43) (initT 0 [.agg [X0, Y0], .vs K (l.map actV)] .nil) AMem.empty = some (.ret, T1, σ') → T1.get 4 = some (.ptr 1 0) → T1.get 5 = some out → T1.get 6 = some (.int .i64 (i : Nat)) → T1.get 7 = some (.int .i64 e) → σ'.get 1 = some (.row 2 true [o0, o1]) → snapF false σ' 11 (.agg [o0, o1]) = some (v', S) → snapF false σ' 11 out = some (.vs Kg (intV g), S2) → ∃ b, pureRun (callN lawProg (k + 1)) (.func 43 [] []) [.agg [X0, Y0], .vs K (l.map actV)] = some (.tuple [v', .vs Kg (intV g), .int .i64 (i : Nat), .int .i64 e], b) := by
    intro T1 σ' o0 o1 out g i e v' S S2 Kg r1 r2 r3 r4 r5 r6 hS hS2
    refine pureRun_any (vs := [.agg [o0, o1], out, .int .i64 (i : Nat), .int .i64 e]) (seen := S ++ (S2 ++ ([] ++ ([] ++ [])))) fn43 rfl (by simp [Try.f43]) r1 (by simp) ?_ ?_
    · simp only [Try.f43, resultsA, resultA, dx, reduceIte, zLt, zLe, zEq, zAd, zMu, zSu, zBe, yEq, yLt, yLe, yTn, reduceCtorEq, sx, fx43, r2, r3, r4, r5, r6]
    · have c1 : snapF false σ' 11 (.int .i64 (i : Nat)) = some (.int .i64 (i : Nat), []) := rfl
      have c2 : snapF false σ' 11 (.int .i64 e) = some (.int .i64 e, []) := rfl
      show snapF false σ' (11 + 1) (.tuple [.agg [o0, o1], out, .int .i64 (i : Nat), .int .i64 e]) = _
      rw [snapF]
      simp only [snapL, hS, hS2, c1, c2, Option.map_some]
  cases hr : rightB ps0 ws0 with
  | false =>
    rw [hr] at hri
    have hres : playV (l.map Prod.fst) ps0 ws0 = ⟨[], [], [], 0, 4⟩ := by unfold playV; rw [hr]; rfl
    rw [hres]
    have run : ∃ T1, execC lawProg (callN lawProg k) k 43 48 (bodyOf Try.f43) (initT 0 [.agg [X0, Y0], .vs K (l.map actV)] .nil) AMem.empty = some (.ret, T1, σ0.put 1 (.row 2 true [.vs .nil [], .vs .nil []])) ∧ T1.get 4 = some (.ptr 1 0) ∧ T1.get 5 = some (.vs .nil []) ∧ T1.get 6 = some (.int .i64 0) ∧ T1.get 7 = some (.int .i64 4) := by
      simp only [bodyOf, Try.f43, Option.getD_some, initT, dx, reduceIte, zLt, zLe, zEq, zAd, zMu, zSu, zBe, yEq, yLt, yLe, yTn, reduceCtorEq, sx, fx43, hX0, hY0, ← hσ0]
      simp only [dx, reduceIte, zLt, zLe, zEq, zAd, zMu, zSu, zBe, yEq, yLt, yLe, yTn, reduceCtorEq, sx, fx43, g0, g1, hX0, hY0, hri]
      exact ⟨_, rfl, by simp only [Tr.get_set, zEq, reduceIte], by simp only [Tr.get_set, zEq, reduceIte], by simp only [Tr.get_set, zEq, reduceIte], by simp only [Tr.get_set, zEq, reduceIte]⟩
    obtain ⟨T1, r1, r2, r3, r4, r5⟩ := run
    obtain ⟨b, hb'⟩ := fin T1 _ _ _ (.vs .nil []) [] 0 4 _ _ [] .nil r1 r2 r3 r4 r5 (by rw [AMem.get_put, if_pos rfl]) (snap_hp0 _ 9) rfl
    exact ⟨b, _, _, hb', nil_vh⟩
  | true =>
    rw [hr] at hri
    have hright0 := rightB_iff.1 hr
    obtain ⟨R, hR⟩ : ∃ R, R = playV (l.map Prod.fst) ps0 ws0 := ⟨_, rfl⟩
    rw [← hR]
    have hR0 : playH ((l.map Prod.fst).drop 0) ps0 ws0 [] 0 = R := by rw [hR]; unfold playV; rw [hr, if_pos rfl, List.drop_zero]
    have run : ∃ T1 σ' out o0 o1, execC lawProg (callN lawProg k) k 43 48 (bodyOf Try.f43) (initT 0 [.agg [X0, Y0], .vs K (l.map actV)] .nil) AMem.empty = some (.ret, T1, σ') ∧ T1.get 4 = some (.ptr 1 0) ∧ T1.get 5 = some out ∧ T1.get 6 = some (.int .i64 (R.i : Nat)) ∧ T1.get 7 = some (.int .i64 R.e) ∧ VH (.agg [o0, o1]) R.ps R.ws ∧ Grew 2 σ' 1 false out R.gave.length (intV R.gave) ∧ σ'.get 1 = some (.row 2 true [o0, o1]) := by
      simp only [bodyOf, Try.f43, Option.getD_some, initT, dx, reduceIte, zLt, zLe, zEq, zAd, zMu, zSu, zBe, yEq, yLt, yLe, yTn, reduceCtorEq, sx, fx43, hX0, hY0, ← hσ0]
      simp only [dx, reduceIte, zLt, zLe, zEq, zAd, zMu, zSu, zBe, yEq, yLt, yLe, yTn, reduceCtorEq, sx, fx43, g0, hX0, hY0, hri]
      generalize hL : execC _ _ _ _ _ (Code.loop _) _ _ = q
      obtain ⟨e, T', σ', rfl, _, hcase⟩ : ∃ e T' σ', q = some (e, T', σ') ∧ e ≠ .normal ∧ ((e = .ret ∧ T'.get 4 = some (.ptr 1 0) ∧ ∃ out o0 o1, T'.get 5 = some out ∧ T'.get 6 = some (.int .i64 (R.i : Nat)) ∧ T'.get 7 = some (.int .i64 R.e) ∧ VH (.agg [o0, o1]) R.ps R.ws ∧ Grew 2 σ' 1 false out R.gave.length (intV R.gave) ∧ σ'.get 1 = some (.row 2 true [o0, o1])) ∨
          (e = .exit 0 ∧ T'.get 1 = some (.vs K (l.map actV)) ∧ T'.get 2 = some (.ptr 0 0) ∧ T'.get 4 = some (.ptr 1 0) ∧ R.i = l.length ∧ R.e = 0 ∧ ∃ out o0 o1, T'.get 8 = some out ∧ VH (.agg [o0, o1]) R.ps R.ws ∧ Grew 2 σ' 1 false out R.gave.length (intV R.gave) ∧ σ'.get 0 = some (.row 2 true [o0, o1]) ∧ σ'.get 1 = some (.row 2 true [.vs .nil [], .vs .nil []]))) := by
        rw [← hL]
        refine exec_loop2 (fun i T σ' => i ≤ l.length ∧ T.get 1 = some (.vs K (l.map actV)) ∧ T.get 2 = some (.ptr 0 0) ∧ T.get 4 = some (.ptr 1 0) ∧ T.get 9 = some (.int .i64 (i : Nat)) ∧ ∃ X Y ps ws g out, T.get 8 = some out ∧ VH (.agg [X, Y]) ps ws ∧ RightH ps ws ∧ playH ((l.map Prod.fst).drop i) ps ws g i = R ∧ g.length = i ∧ Grew 2 σ' 1 false out g.length (intV g) ∧ 2 ≤ σ'.next ∧ σ'.get 0 = some (.row 2 true [X, Y]) ∧ σ'.get 1 = some (.row 2 true [.vs .nil [], .vs .nil []])) l.length (by omega) ?_ ?_ ?_
        · rintro i hi T σi ⟨_, t1, t2, t4, t9, X, Y, ps, ws, g, out, t8, hvi, hright, hp, hgl, hgr, hn2, mz, mi⟩
          have hlt : ((i : Nat) : Int) < ((l.length : Nat) : Int) := by omega
          have hw' := i64_succ (i := i) (by omega)
          have hget := actV_get hi
          have hwl := hw _ (List.getElem_mem hi)
          rw [drop_acts hi, playH] at hp
          rcases hx : l[i] with ⟨⟨kd, a, n, us⟩, K1⟩
          rw [hx] at hget hwl hp
          simp only [actC] at hget hwl hp
          obtain ⟨v', hc, hv'⟩ := rdo_call (k := k) ⟨⟨kd, a, n, us⟩, K1⟩ hvi (right_bd hright) hwl (by omega)
          simp only [actV, actC] at hc
          simp only at hv'
          obtain ⟨X', Y', rfl, hX', hY'⟩ := hv'.cells
          have hXY : X.oneCell = true ∧ Y.oneCell = true := by
            obtain ⟨A, B, e, hA, hB⟩ := hvi.cells
            simp only [AVal.agg.injEq, List.cons.injEq, and_true] at e
            rw [e.1, e.2]
            exact ⟨hA, hB⟩
          obtain ⟨hX, hY⟩ := hXY
          obtain ⟨q, hq⟩ : ∃ q, q = σi.next := ⟨_, rfl⟩
          obtain ⟨σa, hσa⟩ : ∃ s, s = (σi.push (.row 2 true [.vs .nil [], .vs .nil []])).put q (.row 2 true [X', Y']) := ⟨_, rfl⟩
          have exa : Ext σi σa := by rw [hσa]; exact (Ext.push _ _).put _ _ (by omega)
          have na : σa.next = q + 1 := by rw [hσa, hq]; simp
          have gq : σa.get q = some (.row 2 true [X', Y']) := by rw [hσa, AMem.get_put, if_pos rfl]
          have ma0 : σa.get 0 = some (.row 2 true [X, Y]) := by rw [exa.2 0 (by omega)]; exact mz
          have ma1 : σa.get 1 = some (.row 2 true [.vs .nil [], .vs .nil []]) := by rw [exa.2 1 (by omega)]; exact mi
          have hga : Grew 2 σa 1 false out g.length (intV g) := grew_keep hgr exa.1 fun r hr => exa.2 r (hgr.rows r hr).2.1
          obtain ⟨at_, hat⟩ : ∃ z, z = (doH ps ws ⟨kd, a, n, us⟩).at_ := ⟨_, rfl⟩
          rw [← hat] at hc hp
          by_cases he : (doH ps ws ⟨kd, a, n, us⟩).e = 0
          · rw [if_pos he] at hp
            rw [he] at hc
            obtain ⟨σd, a1, a2, a3, a4, a5⟩ := Grew.one (e := (⟨.int .i64, 1, 8, [.int .i64 0]⟩ : TyI)) (xs := [.int .i64 at_]) hga (by omega) rfl (by decide) (by decide) (by decide) (by simp only [mostBytes]; omega) rfl
            have a1' : appendA (⟨.int .i64, 1, 8, [.int .i64 0]⟩ : TyI) (σa.push (.row 1 false [.int .i64 at_])) out (.slice σa.next 0 1 (some 1) 1) = some (.slice (σa.next + 1) 0 (g.length + 1) none 1, σd) := a1
            have md0 : σd.get 0 = some (.row 2 true [X, Y]) := by rw [a4 0 (by omega)]; exact ma0
            have mdq : σd.get q = some (.row 2 true [X', Y']) := by
              rw [a5 q (by omega) (fun e => by
                have := (hgr.rows q (by rw [e]; simp [rowOf])).2.1
                omega)]
              exact gq
            have md1 : σd.get 1 = some (.row 2 true [.vs .nil [], .vs .nil []]) := by rw [a4 1 (by omega)]; exact ma1
            refine .inl ⟨_, _, by
              simp only [dx, reduceIte, zLt, zLe, zEq, zAd, zMu, zSu, zBe, yEq, yLt, yLe, yTn, reduceCtorEq, sx, fx43, Nat.add_assoc, Nat.add_eq_left, Nat.left_eq_add, Nat.add_left_cancel_iff, t1, t2, t4, t8, t9, hlt, List.length_map, hget, mz, hX, hY, hc, Int.natCast_nonneg, Int.toNat_natCast, hX', hY', ← hq, ← hσa]
              simp only [dx, reduceIte, zLt, zLe, zEq, zAd, zMu, zSu, zBe, yEq, yLt, yLe, yTn, reduceCtorEq, sx, fx43, t1, t2, t4, t8, t9, show ((0 : Int) != 0) = false from rfl, gq, a1', md0, mdq, hX', hY', hw']
              rfl, by omega, ?_, ?_, ?_, ?_, X', Y', _, _, g ++ [at_], .slice (σa.next + 1) 0 (g.length + 1) none 1, ?_, hv', (do_right hright).1 he, hp, by simp [hgl], ?_, ?_, ?_, ?_⟩
            · simp only [Tr.get_set, zEq, reduceIte, t1]
            · simp only [Tr.get_set, zEq, reduceIte, t2]
            · simp only [Tr.get_set, zEq, reduceIte, t4]
            · simp only [Tr.get_set, zEq, reduceIte]
            · simp only [Tr.get_set, zEq, reduceIte]
            · rw [List.length_append, List.length_singleton, show intV (g ++ [at_]) = intV g ++ [.int .i64 at_] by simp [intV]]
              refine grew_keep a2 (by simp) fun r hr => ?_
              have := (Grew.rows a2 r hr).1
              rw [AMem.get_put, if_neg (by omega)]
            · simp only [AMem.next_put]; omega
            · rw [AMem.get_put, if_pos rfl]
            · rw [AMem.get_put, if_neg (by omega)]; exact md1
          · rw [if_neg he] at hp
            have hb1 : ((doH ps ws ⟨kd, a, n, us⟩).e != 0) = true := by rw [bne_iff_ne]; exact he
            refine .inr ⟨_, _, _, by
              simp only [dx, reduceIte, zLt, zLe, zEq, zAd, zMu, zSu, zBe, yEq, yLt, yLe, yTn, reduceCtorEq, sx, fx43, Nat.add_assoc, Nat.add_eq_left, Nat.left_eq_add, Nat.add_left_cancel_iff, t1, t2, t4, t8, t9, hlt, List.length_map, hget, mz, hX, hY, hc, Int.natCast_nonneg, Int.toNat_natCast, hX', hY', ← hq, ← hσa]
              simp only [dx, reduceIte, zLt, zLe, zEq, zAd, zMu, zSu, zBe, yEq, yLt, yLe, yTn, reduceCtorEq, sx, fx43, t1, t2, t4, t8, t9, hb1, ma0, ma1, hX, hY]
              rfl, by simp, .inl ⟨rfl, ?_, out, X, Y, ?_, ?_, ?_, by rw [← hp]; exact hvi, ?_, by rw [AMem.get_put, if_pos rfl]⟩⟩
            · simp only [Tr.get_set, zEq, reduceIte, t4]
            · simp only [Tr.get_set, zEq, reduceIte]
            · simp only [Tr.get_set, zEq, reduceIte]; rw [← hp]
            · simp only [Tr.get_set, zEq, reduceIte]; rw [← hp]
            · rw [← hp]
              refine grew_keep hga (by simp) fun r hr => ?_
              have := (hga.rows r hr).1
              rw [AMem.get_put, if_neg (by omega)]
        · rintro T σi ⟨_, t1, t2, t4, t9, X, Y, ps, ws, g, out, t8, hvi, hright, hp, hgl, hgr, hn2, mz, mi⟩
          have hge : ¬ (((l.length : Nat) : Int) < ((l.length : Nat) : Int)) := by omega
          rw [List.drop_eq_nil_of_le (by simp), playH] at hp
          refine ⟨_, _, _, by
            simp only [dx, reduceIte, zLt, zLe, zEq, zAd, zMu, zSu, zBe, yEq, yLt, yLe, yTn, reduceCtorEq, sx, fx43, t1, t9, List.length_map, hge]
            rfl, by simp, .inr ⟨rfl, ?_, ?_, ?_, by rw [← hp], by rw [← hp], out, X, Y, ?_, by rw [← hp]; exact hvi, by rw [← hp]; exact hgr, mz, mi⟩⟩
          · simp only [Tr.get_set, zEq, reduceIte, t1]
          · simp only [Tr.get_set, zEq, reduceIte, t2]
          · simp only [Tr.get_set, zEq, reduceIte, t4]
          · simp only [Tr.get_set, zEq, reduceIte, t8]
        · refine ⟨Nat.zero_le _, ?_, ?_, ?_, ?_, X0, Y0, ps0, ws0, [], .vs .nil [], ?_, hv0, hright0, hR0, rfl, ⟨rfl, .inl ⟨rfl, rfl⟩⟩, by omega, g0, g1⟩
          all_goals simp only [Tr.get_set, zEq, reduceIte] <;> rfl
      rcases hcase with ⟨rfl, t4, out, o0, o1, t5, t6, t7, hvh, hgr, mo⟩ | ⟨rfl, t1, t2, t4, hi, he, out, o0, o1, t8, hvh, hgr, mz, mi⟩
      · exact ⟨_, _, out, o0, o1, rfl, t4, t5, t6, t7, hvh, hgr, mo⟩
      · have ho : o0.oneCell = true ∧ o1.oneCell = true := by
          obtain ⟨A, B, e, hA, hB⟩ := hvh.cells
          simp only [AVal.agg.injEq, List.cons.injEq, and_true] at e
          rw [e.1, e.2]
          exact ⟨hA, hB⟩
        obtain ⟨ho0, ho1⟩ := ho
        simp only [dx, reduceIte, zLt, zLe, zEq, zAd, zMu, zSu, zBe, yEq, yLt, yLe, yTn, reduceCtorEq, sx, fx43, t1, t2, t4, t8, mz, mi, ho0, ho1, List.length_map]
        refine ⟨_, _, out, o0, o1, rfl, ?_, ?_, ?_, ?_, hvh, grew_keep hgr (by simp) fun r hr => ?_, by rw [AMem.get_put, if_pos rfl]⟩
        · simp only [Tr.get_set, zEq, reduceIte, t4]
        · simp only [Tr.get_set, zEq, reduceIte]
        · simp only [Tr.get_set, zEq, reduceIte]; rw [hi]
        · simp only [Tr.get_set, zEq, reduceIte]; rw [he]
        · have := (hgr.rows r hr).1
          rw [AMem.get_put, if_neg (by omega)]
    obtain ⟨T1, σ', out, o0, o1, r1, r2, r3, r4, r5, hvh, hgr, mo⟩ := run
    obtain ⟨Kg, S2, hS2, _⟩ := GrewE.snap (d := 9) (.inl hgr) (intV_pure _)
    obtain ⟨b, hb'⟩ := fin T1 σ' o0 o1 out R.gave R.i R.e _ _ S2 Kg r1 r2 r3 r4 r5 mo (hvh.snap σ' 9) hS2
    exact ⟨b, _, Kg, hb', hvh⟩
theorem rplay_call {v : AVal} {ps0 : List Pg} {ws0 : List Int} (K : VK) (l : List AV) (hv : VH v ps0 ws0) (hb : Bd ps0 ws0) (hl : l.length ≤ 1000) (hw : ∀ x, x ∈ l → x.1.words.length ≤ 1000) (hk : 9503 ≤ k) : ∃ v' Kg, (∀ σ, pureCall lawProg (callN lawProg k) (.func 43 [] []) [v, .vs K (l.map actV)] σ = some (.tuple [v', .vs Kg (intV (playV (l.map Prod.fst) ps0 ws0).gave), .int .i64 ((playV (l.map Prod.fst) ps0 ws0).i : Nat), .int .i64 (playV (l.map Prod.fst) ps0 ws0).e], σ)) ∧ VH v' (playV (l.map Prod.fst) ps0 ws0).ps (playV (l.map Prod.fst) ps0 ws0).ws := by
  obtain ⟨k, rfl⟩ : ∃ m, k = m + 1 := ⟨k - 1, by omega⟩
  obtain ⟨b, v', Kg, h1, h2⟩ := rplay_run (k := k) K l hv hb hl hw (by omega)
  refine ⟨v', Kg, fun σ => pureCall_of0 ?_ (memo43 _) h1, h2⟩
  have := hv.snap σ 10
  have c : snapF false σ 12 (.vs K (l.map actV)) = some (.vs K (l.map actV), []) := rfl
  simp only [snapL, snapDepth, this, c, List.append_nil]
end Go.Proofs.Ytjkfdiglokkceaa

/- HeapPlays: the run. -/
set_option maxRecDepth 100000
set_option linter.unusedSimpArgs false
set_option linter.unusedVariables false
namespace Go.Proofs.Ytjkfdiglokkceaa
open Go Go.Proofs.Ytjkfdiglokkceaa.Pale
variable {k : Nat} {σ : AMem}

theorem playV_bd {acts : List Act} {ps : List Pg} {ws : List Int} : Bd (playV acts ps ws).ps (playV acts ps ws).ws ∧ (playV acts ps ws).gave.length ≤ acts.length := by
  unfold playV
  cases hr : rightB ps ws with
  | false => exact ⟨nil_bd, by simp⟩
  | true =>
    obtain ⟨h1, h2, _⟩ := playH_bd acts ps ws [] 0 (rightB_iff.1 hr)
    exact ⟨right_bd h1, by simpa using h2⟩
set_option maxHeartbeats 4000000 in
theorem plays_run {v : AVal} {ps : List Pg} {ws : List Int} (K : VK) (l : List AV) (hv : VH v ps ws) (hk : 12000 ≤ k) : ∃ σ', callN lawProg (k + 1) (.func 10 [] []) [v, .vs K (l.map actV)] AMem.empty = some (.bool true, σ') := by
  obtain ⟨X0, Y0, rfl, hX0, hY0⟩ := hv.cells
  obtain ⟨tb, hthin, hbd⟩ := thin_vh (k := k) hv (by omega)
  have haw := fun (σ : AMem) => awake_call (σ := σ) (callN lawProg k)
  have run : ∃ T1 σ', execC lawProg (callN lawProg k) k 10 76 (bodyOf Try.f10) (initT 0 [.agg [X0, Y0], .vs K (l.map actV)] .nil) AMem.empty = some (.ret, T1, σ') ∧ T1.get 4 = some (.bool true) := by
    cases tb with
    | false =>
      simp only [bodyOf, Try.f10, Option.getD_some, initT, dx, reduceIte, zLt, zLe, zEq, zAd, zMu, zSu, zBe, yEq, yLt, yLe, yTn, reduceCtorEq, sx, fx10, hX0, hY0, hthin, haw]
      exact ⟨_, _, rfl, by simp only [Tr.get_set, zEq, reduceIte]⟩
    | true =>
      by_cases hl60 : ((l.length : Nat) : Int) > 60
      · simp only [bodyOf, Try.f10, Option.getD_some, initT, dx, reduceIte, zLt, zLe, zEq, zAd, zMu, zSu, zBe, yEq, yLt, yLe, yTn, reduceCtorEq, sx, fx10, hX0, hY0, hthin, List.length_map, hl60, haw]
        exact ⟨_, _, rfl, by simp only [Tr.get_set, zEq, reduceIte]⟩
      · obtain ⟨hb, _, _⟩ := hbd rfl
        obtain ⟨σ0, hσ0⟩ : ∃ s, s = AMem.empty.push (.row 2 true [X0, Y0]) := ⟨_, rfl⟩
        have n0 : σ0.next = 1 := by rw [hσ0]; simp [next_empty]
        have g0 : σ0.get 0 = some (.row 2 true [X0, Y0]) := by rw [hσ0]; simp [AMem.get_push, next_empty]
        simp only [bodyOf, Try.f10, Option.getD_some, initT, dx, reduceIte, zLt, zLe, zEq, zAd, zMu, zSu, zBe, yEq, yLt, yLe, yTn, reduceCtorEq, sx, fx10, hX0, hY0, hthin, List.length_map, hl60, ← hσ0]
        simp only [dx, reduceIte, zLt, zLe, zEq, zAd, zMu, zSu, zBe, yEq, yLt, yLe, yTn, reduceCtorEq, sx, fx10, g0, hthin, List.length_map, hl60]
        generalize hL : execC _ _ _ _ _ (Code.loop _) _ _ = q
        obtain ⟨e, T', σ', rfl, _, hcase⟩ : ∃ e T' σ', q = some (e, T', σ') ∧ e ≠ .normal ∧ ((e = .ret ∧ T'.get 4 = some (.bool true)) ∨ (e = .exit 0 ∧ T'.get 1 = some (.vs K (l.map actV)) ∧ T'.get 2 = some (.ptr 0 0) ∧ σ' = σ0 ∧ ∀ x, x ∈ l.take l.length → x.1.words.length ≤ 80)) := by
          rw [← hL]
          refine exec_loop2 (fun i T σ' => i ≤ l.length ∧ T.get 1 = some (.vs K (l.map actV)) ∧ T.get 2 = some (.ptr 0 0) ∧ T.get 5 = some (.int .i64 (i : Nat)) ∧ σ' = σ0 ∧ ∀ x, x ∈ l.take i → x.1.words.length ≤ 80) l.length (by omega) ?_ ?_ ?_
          · rintro i hi T σi ⟨_, t1, t2, t5, rfl, hal⟩
            have hlt : ((i : Nat) : Int) < ((l.length : Nat) : Int) := by omega
            have hw' := i64_succ (i := i) (by omega)
            have hget := actV_get hi
            rcases hx : l[i] with ⟨⟨kd, a, n, us⟩, K1⟩
            rw [hx] at hget
            simp only [actC] at hget
            by_cases h80 : ((us.length : Nat) : Int) > 80
            · refine .inr ⟨_, _, _, by
                simp only [dx, reduceIte, zLt, zLe, zEq, zAd, zMu, zSu, zBe, yEq, yLt, yLe, yTn, reduceCtorEq, sx, fx10, t1, t2, t5, hlt, List.length_map, hget, Int.natCast_nonneg, Int.toNat_natCast, intV_length, h80, haw]
                rfl, by simp, .inl ⟨rfl, by simp only [Tr.get_set, zEq, reduceIte]⟩⟩
            · refine .inl ⟨_, _, by
                simp only [dx, reduceIte, zLt, zLe, zEq, zAd, zMu, zSu, zBe, yEq, yLt, yLe, yTn, reduceCtorEq, sx, fx10, t1, t2, t5, hlt, List.length_map, hget, Int.natCast_nonneg, Int.toNat_natCast, intV_length, h80, hw']
                rfl, by omega, ?_, ?_, ?_, rfl, fun x hm => ?_⟩
              · simp only [Tr.get_set, zEq, reduceIte, t1]
              · simp only [Tr.get_set, zEq, reduceIte, t2]
              · simp only [Tr.get_set, zEq, reduceIte]
              · rw [List.take_succ_eq_append_getElem hi, hx] at hm
                rcases List.mem_append.1 hm with h | h
                · exact hal x h
                · simp only [List.mem_singleton] at h
                  subst h
                  show us.length ≤ 80
                  omega
          · rintro T σi ⟨_, t1, t2, t5, rfl, hal⟩
            have hge : ¬ (((l.length : Nat) : Int) < ((l.length : Nat) : Int)) := by omega
            refine ⟨_, _, _, by
              simp only [dx, reduceIte, zLt, zLe, zEq, zAd, zMu, zSu, zBe, yEq, yLt, yLe, yTn, reduceCtorEq, sx, fx10, t1, t5, List.length_map, hge]
              rfl, by simp, .inr ⟨rfl, ?_, ?_, rfl, hal⟩⟩
            · simp only [Tr.get_set, zEq, reduceIte, t1]
            · simp only [Tr.get_set, zEq, reduceIte, t2]
          · refine ⟨Nat.zero_le _, ?_, ?_, ?_, rfl, (fun x hx => by simp at hx)⟩
            all_goals simp only [Tr.get_set, zEq, reduceIte] <;> rfl
        rcases hcase with ⟨rfl, t4⟩ | ⟨rfl, t1, t2, rfl, hal⟩
        · exact ⟨_, _, rfl, t4⟩
        · rw [List.take_length] at hal
          obtain ⟨v1, hc1, hv1⟩ := Copy_call (k := k) hv hb (by omega)
          obtain ⟨l', hc2, hl'⟩ := copyActs_call (k := k) K l (by omega) (fun x hx => by have := hal x hx; omega) (by omega)
          have hll : l'.length = l.length := by simpa using congrArg List.length hl'
          obtain ⟨v3, K3, hc3, hv3⟩ := play_call (k := k) (lkOf l.length) l' hv1 hb (by omega) (fun x hx => by
            have hm : x.1 ∈ l.map Prod.fst := by rw [← hl']; exact List.mem_map.2 ⟨x, hx, rfl⟩
            obtain ⟨y, hy, e⟩ := List.mem_map.1 hm
            have := hal y hy
            rw [← e]
            omega) (by omega)
          rw [hl'] at hc3 hv3
          obtain ⟨v4, K4, hc4, hv4⟩ := rplay_call (k := k) K l hv hb (by omega) (fun x hx => by have := hal x hx; omega) (by omega)
          obtain ⟨hRb, hRg⟩ := playV_bd (acts := l.map Prod.fst) (ps := ps) (ws := ws)
          rw [List.length_map] at hRg
          generalize playV (l.map Prod.fst) ps ws = R at *
          have hsi := fun (σ : AMem) => sameInts_call (k := k) (σ := σ) K3 K4 R.gave (by omega) (by omega)
          have hs1 := same_vh (k := k) hv3 hv4 hRb (by omega)
          obtain ⟨X3, Y3, rfl, hX3, hY3⟩ := hv3.cells
          obtain ⟨X4, Y4, rfl, hX4, hY4⟩ := hv4.cells
          obtain ⟨σ1, hσ1⟩ : ∃ s, s = (σ'.push (.row 2 true [.vs .nil [], .vs .nil []])).put 1 (.row 2 true [X3, Y3]) := ⟨_, rfl⟩
          have n1 : σ1.next = 2 := by rw [hσ1]; simp [n0]
          have m10 : σ1.get 0 = some (.row 2 true [X0, Y0]) := by rw [hσ1, AMem.get_put, if_neg (by omega), AMem.get_push, if_neg (by omega)]; exact g0
          have m11 : σ1.get 1 = some (.row 2 true [X3, Y3]) := by rw [hσ1, AMem.get_put, if_pos rfl]
          obtain ⟨σ2, hσ2⟩ : ∃ s, s = (σ1.push (.row 2 true [.vs .nil [], .vs .nil []])).put 2 (.row 2 true [X4, Y4]) := ⟨_, rfl⟩
          have m21 : σ2.get 1 = some (.row 2 true [X3, Y3]) := by rw [hσ2, AMem.get_put, if_neg (by omega), AMem.get_push, if_neg (by omega)]; exact m11
          have m22 : σ2.get 2 = some (.row 2 true [X4, Y4]) := by rw [hσ2, AMem.get_put, if_pos rfl]
          have q1 : (R.e == R.e) = true := beq_self_eq_true _
          have q2 : ((R.i : Int) == (R.i : Int)) = true := beq_self_eq_true _
          simp only [dx, reduceIte, zLt, zLe, zEq, zAd, zMu, zSu, zBe, yEq, yLt, yLe, yTn, reduceCtorEq, sx, fx10, t1, t2, g0, hX0, hY0, n0, hc1, hc2, hc3, hX3, hY3, ← hσ1]
          simp only [dx, reduceIte, zLt, zLe, zEq, zAd, zMu, zSu, zBe, yEq, yLt, yLe, yTn, reduceCtorEq, sx, fx10, t1, t2, m10, n1, hc4, hX4, hY4, ← hσ2]
          simp only [dx, reduceIte, zLt, zLe, zEq, zAd, zMu, zSu, zBe, yEq, yLt, yLe, yTn, reduceCtorEq, sx, fx10, m21, m22, q1, q2, hsi, hs1, haw]
          exact ⟨_, _, rfl, by simp only [Tr.get_set, zEq, reduceIte]⟩
  obtain ⟨T1, σ', h1, h2⟩ := run
  exact ⟨σ', q_call (first := []) (caps := []) fn10 rfl (by simp [Try.f10]) h1 (by simp) (res_one h2)⟩
theorem elem_acts {P : Program} {tl te tk ti tw n : Nat} {x : AVal} (ht : rkOf P tl = .slice te) (he : rkOf P te = .agg [(tk, 0), (ti, 1), (ti, 2), (tw, 3)]) (ce : P.cellsOf te = 4) (ck : P.cellsOf tk = 1) (ci : P.cellsOf ti = 1) (cw : P.cellsOf tw = 1) (hk : rkOf P tk = .int .u8) (hi : rkOf P ti = .int .i64) (hw : rkOf P tw = .slice ti) (h : ElemFit P n tl x) : ∃ (vk : VK) (l : List AV), x = .vs vk (l.map actV) := by
  obtain ⟨m, vk, es, rfl, _, _, _, h3⟩ := elem_slice ht h
  obtain ⟨l, rfl, _⟩ := list_form (f := actV) (Q := fun _ => True) es (fun x hx => by
    obtain ⟨cs, m2, rfl, hlen, hall⟩ := elem_agg he (h3 x hx)
    rw [ce] at hlen
    obtain ⟨a, b, c, d, rfl⟩ : ∃ a b c d, cs = [a, b, c, d] := by
      match cs, hlen with
      | [a, b, c, d], _ => exact ⟨a, b, c, d, rfl⟩
    have h0 := hall (tk, 0) (by simp)
    have h1 := hall (ti, 1) (by simp)
    have h2 := hall (ti, 2) (by simp)
    have h4 := hall (tw, 3) (by simp)
    simp only [ck, ci, cw, List.drop_zero, List.drop_succ_cons, List.take_succ_cons, List.take_zero] at h0 h1 h2 h4
    obtain ⟨x0, e0, _⟩ := fit_int hk h0
    obtain ⟨x1, e1, _⟩ := fit_int hi h1
    obtain ⟨x2, e2, _⟩ := fit_int hi h2
    obtain ⟨kw, us, e3, _⟩ := fit_ints hw hi h4
    simp only [List.cons.injEq, and_true] at e0 e1 e2 e3
    subst e0; subst e1; subst e2; subst e3
    exact ⟨(⟨x0, x1, x2, us⟩, kw), rfl, trivial⟩)
  exact ⟨vk, l, rfl⟩
end Go.Proofs.Ytjkfdiglokkceaa


