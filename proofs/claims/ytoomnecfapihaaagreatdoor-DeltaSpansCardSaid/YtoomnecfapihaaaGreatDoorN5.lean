/- The list of a word: union, by its loop over each. -/
import Derived.Test.YtoomnecfapihaaaGreatDoorN4
set_option maxRecDepth 100000
set_option linter.unusedSimpArgs false
set_option linter.unusedVariables false
namespace Go.Proofs.YtoomnecfapihaaaGreatDoor
open Go Go.Proofs.YtoomnecfapihaaaGreatDoor.Pale
variable {k : Nat} {σ : AMem}

theorem round_of2 {A : AProg} {call : CallA} {l : Nat} {r : ALoop} {args : List AVal} {T1 T2 : Tr AVal} {σ1 σ2 : AMem} (hl : σ.get l = some (.loop r)) (hst : r.state = .ready) (hn : args.length = r.params.length) (hN : r.params.all (· < r.N) = true)
    (ha : execC A call k r.fn r.N r.assign (setParams r.T r.params args) σ = some (.normal, T1, σ1)) (hl1 : σ1.get l = some (.loop r)) (hb : execC A call k r.fn r.N r.body T1 (σ1.put l (.loop (busyOf r))) = some (.normal, T2, σ2)) {r2 : ALoop} (h2 : σ2.get l = some (.loop r2)) :
    roundA A call k l args σ = some (.bool true, σ2.put l (.loop { r2 with state := .ready, pending := none })) := by
  unfold busyOf at hb
  simp only [roundA, hl, hn, hN, decide_true, Bool.and_self, if_true, ha, hl1, hst, hb, h2]
noncomputable def loopU (T0 : Tr AVal) : ALoop := rfLoop Tryz.f23 23 T0
/-- What stands in memory while union runs. -/
def UMem (T0 : Tr AVal) (y : BitVec 64) (l : List Sp) (σ : AMem) : Prop := (∃ out, σ.get 1 = some (.row 1 false [out]) ∧ GrewS 4 σ out l) ∧ σ.get 2 = some (.row 1 false [.int .u64 (y.toNat : Nat)]) ∧ σ.get 3 = some (.loop (loopU T0)) ∧ 4 ≤ σ.next
theorem GrewS.same {low : Nat} {σ σ' : AMem} {out : AVal} {l : List Sp} (h : GrewS low σ out l) (hn : σ.next ≤ σ'.next) (hs : ∀ r, low ≤ r → r < σ.next → σ'.get r = σ.get r) : GrewS low σ' out l := by
  refine ⟨⟨h.1.1, ?_⟩, h.2⟩
  rcases h.1.2 with h | ⟨r, h6, h7, h8, h9⟩
  · exact .inl h
  · exact .inr ⟨r, h6, by omega, h8, by rw [hs r h6 h7]; exact h9⟩
theorem GrewS.one {low : Nat} {σ : AMem} {out : AVal} {l : List Sp} (h : GrewS low σ out l) : out.oneCell = true := by
  rcases h.1.2 with ⟨_, rfl⟩ | ⟨r, _, _, rfl, _⟩ <;> rfl
theorem union_round {T0 : Tr AVal} {y : BitVec 64} {l : List Sp} {f t : Int} (hT2 : T0.get 2 = some (.ptr 1 0)) (h : UMem T0 y l σ) (hl : l.length ≤ 1000) : ∃ σ', roundA lawProg (callN lawProg k) k 3 [.agg [.int .i64 f, .int .i64 t]] σ = some (.bool true, σ') ∧ UMem T0 y (l ++ [(f, t)]) σ' := by
  obtain ⟨⟨out, m1, mg⟩, m2, m3, m4⟩ := h
  obtain ⟨c, hc⟩ : ∃ c, c = σ.next := ⟨_, rfl⟩
  obtain ⟨B, hB⟩ : ∃ B, B = busyOf (loopU T0) := ⟨_, rfl⟩
  obtain ⟨σ1, hσ1⟩ : ∃ s, s = (σ.push (.row 2 true [.int .i64 0, .int .i64 0])).put σ.next (.row 2 true [.int .i64 f, .int .i64 t]) := ⟨_, rfl⟩
  have g1 : ∀ r, r < c → σ1.get r = σ.get r := fun r hr => by rw [hσ1, AMem.get_put, if_neg (by omega), AMem.get_push, if_neg (by omega)]
  have gc : σ1.get c = some (.row 2 true [.int .i64 f, .int .i64 t]) := by rw [hσ1, hc, AMem.get_put, if_pos rfl]
  have hn1 : σ1.next = c + 1 := by rw [hσ1, hc]; simp
  have ha : ∃ T1, execC lawProg (callN lawProg k) k 23 25 (loopU T0).assign (setParams T0 (loopU T0).params [.agg [.int .i64 f, .int .i64 t]]) σ = some (.normal, T1, σ1) ∧ T1.get 2 = some (.ptr 1 0) ∧ T1.get 6 = some (.ptr c 0) := by
    rw [hσ1, hc]
    simp only [loopU, rfLoop, bodyOf, Tryz.f23, Option.getD_some, rfOf]
    simp only [runOps, runD, again, step1, wantA, opSem, evalO, evalL, evalOpt, evalParts, putA, ofConst, ofScalar, ofScalars, abin, abinInt, aun, convA, builtinA, oneTy, elemTy, loadA, storeA, storeCellsA, setAt, partA, fillA, placesA, isFn, TyI.isAgg, isSeq, isNum, sliceA, boundA, setParams, minL, minF, maxL, maxF, repZ, reduceIte, Nat.reduceLT, Nat.reduceLeDiff, Nat.reduceEqDiff, Nat.reduceAdd, Nat.reduceMul, Nat.reduceSub, Nat.reduceBEq, Int.reduceEq, Int.reduceLT, Int.reduceLE, Int.reduceToNat, reduceCtorEq, sx, fx23]
    exact ⟨_, rfl, by simp only [Tr.get_set, Nat.reduceEqDiff, reduceIte, hT2], by simp only [Tr.get_set, Nat.reduceEqDiff, reduceIte]⟩
  obtain ⟨T1, ha, u2, u6⟩ := ha
  obtain ⟨σb, hσb⟩ : ∃ s, s = σ1.put 3 (.loop B) := ⟨_, rfl⟩
  have b1 : σb.get 1 = some (.row 1 false [out]) := by rw [hσb, AMem.get_put, if_neg (by omega), g1 1 (by omega)]; exact m1
  have bc : σb.get c = some (.row 2 true [.int .i64 f, .int .i64 t]) := by rw [hσb, AMem.get_put, if_neg (by omega)]; exact gc
  have bn : σb.next = c + 1 := by rw [hσb]; simpa using hn1
  have bg : GrewS 4 σb out l := mg.same (by omega) fun r h1 h2 => by rw [hσb, AMem.get_put, if_neg (by omega), g1 r (by omega)]
  obtain ⟨σ2, a1, a2, a3, a4⟩ := grew_span f t bg.1 (by omega) hl
  have b1' : σ2.get 1 = some (.row 1 false [out]) := by rw [a4 1 (by omega)]; exact b1
  have b2' : σ2.get 2 = some (.row 1 false [.int .u64 (y.toNat : Nat)]) := by rw [a4 2 (by omega), hσb, AMem.get_put, if_neg (by omega), g1 2 (by omega)]; exact m2
  have b3' : σ2.get 3 = some (.loop B) := by rw [a4 3 (by omega), hσb, AMem.get_put, if_pos rfl]
  have hone := cells_one bg.one
  have hb : ∃ T2, execC lawProg (callN lawProg k) k 23 25 (loopU T0).body T1 σb = some (.normal, T2, σ2.put 1 (.row 1 false [.slice (σb.next + 1) 0 (l.length + 1) none 2])) := by
    simp only [loopU, rfLoop, bodyOf, Tryz.f23, Option.getD_some, rfOf]
    simp only [runOps, runD, again, step1, wantA, opSem, evalO, evalL, evalOpt, evalParts, putA, ofConst, ofScalar, ofScalars, abin, abinInt, aun, convA, builtinA, oneTy, elemTy, loadA, storeA, storeCellsA, setAt, partA, fillA, placesA, isFn, TyI.isAgg, isSeq, isNum, sliceA, boundA, setParams, minL, minF, maxL, maxF, repZ, reduceIte, Nat.reduceLT, Nat.reduceLeDiff, Nat.reduceEqDiff, Nat.reduceAdd, Nat.reduceMul, Nat.reduceSub, Nat.reduceBEq, Int.reduceEq, Int.reduceLT, Int.reduceLE, Int.reduceToNat, reduceCtorEq, sx, fx23, u2, u6, b1, bc, bg.one, hone, a1, b1']
    exact ⟨_, rfl⟩
  obtain ⟨T2, hb⟩ := hb
  have key := round_of2 (A := lawProg) (call := callN lawProg k) (k := k) (σ := σ) (l := 3) (r := loopU T0) (args := [.agg [.int .i64 f, .int .i64 t]]) (T1 := T1) (T2 := T2) (σ1 := σ1) m3 rfl rfl rfl ha (by rw [g1 3 (by omega)]; exact m3) (by rw [← hB, ← hσb]; exact hb) (r2 := B) (by rw [AMem.get_put, if_neg (by omega)]; exact b3')
  rw [hB] at key
  refine ⟨_, key, ⟨.slice (σb.next + 1) 0 (l.length + 1) none 2, by rw [AMem.get_put, if_neg (by omega), AMem.get_put, if_pos rfl], ⟨?_, fun h => by simp at h⟩⟩, by rw [AMem.get_put, if_neg (by omega), AMem.get_put, if_neg (by omega)]; exact b2', by rw [AMem.get_put, if_pos rfl]; rfl, by simp only [AMem.next_put]; omega⟩
  have e : (l ++ [(f, t)]).length = l.length + 1 := by simp
  rw [spansC_snoc, e]
  rcases a2.2 with ⟨h, _⟩ | ⟨r, h6, h7, h8, h9⟩
  · omega
  · exact ⟨a2.1, .inr ⟨r, h6, by simpa using h7, h8, by rw [AMem.get_put, if_neg (by omega), AMem.get_put, if_neg (by omega)]; exact h9⟩⟩
theorem ok_len : ∀ n (l : List Sp), l.length = n → OkSp l → 2 * (l.length : Int) ≤ lastTo l + 1 := by
  intro n
  induction n with
  | zero =>
    intro l hl _
    obtain rfl := List.eq_nil_of_length_eq_zero hl
    simp [lastTo]
  | succ n ih =>
    intro l hl ok
    rcases nil_or_snoc l with rfl | ⟨l, s, rfl⟩
    · simp at hl
    · have h0 := ok_app ok
      have h1 := (ok_last h0 s).1 ok
      have h2 := ih l (by simpa using hl) h0
      have h3 := h1.1
      unfold okS at h3
      rw [lastTo_snoc]
      simp only [List.length_append, List.length_singleton]
      omega
/-- The next span of a word. -/
theorem next_span {y : BitVec 64} {f : Nat} (h : Low y f) (hb : ∀ m, y.getLsbD m = true → m ≤ 60) : ∃ g, Low (~~~(y >>> f)) g ∧ 1 ≤ g ∧ f + g ≤ 61 ∧ (∀ m, f ≤ m → m < f + g → y.getLsbD m = true) ∧ y.getLsbD (f + g) = false := by
  have hf := hb f h.2.1
  have h61 : y.getLsbD 61 = false := by
    rw [Bool.eq_false_iff]
    intro e
    have := hb 61 e
    omega
  have bit : ∀ j, j < 64 → (~~~(y >>> f)).getLsbD j = !(y.getLsbD (f + j)) := fun j hj => by
    rw [BitVec.getLsbD_not, BitVec.getLsbD_ushiftRight]
    simp [hj]
  obtain ⟨g, hg⟩ := low_get (x := ~~~(y >>> f)) (fun e => by
    have := bit (61 - f) (by omega)
    rw [e, show f + (61 - f) = 61 by omega, h61] at this
    simp at this)
  have h1 : y.getLsbD (f + g) = false := by
    have := bit g hg.1
    rw [hg.2.1] at this
    simpa using this.symm
  have h2 : ∀ m, f ≤ m → m < f + g → y.getLsbD m = true := fun m h3 h4 => by
    have := bit (m - f) (by have := hg.1; omega)
    rw [hg.2.2 (m - f) (by omega), show f + (m - f) = m by omega] at this
    simpa using this.symm
  refine ⟨g, hg, ?_, ?_, h2, h1⟩
  · rcases Nat.eq_zero_or_pos g with e | e
    · subst e
      rw [Nat.add_zero, h.2.1] at h1
      cases h1
    · exact e
  · apply Classical.byContradiction
    intro hc
    have := h2 61 (by omega) (by omega)
    rw [h61] at this
    cases this
theorem each_call {T0 : Tr AVal} {x : BitVec 64} (hT2 : T0.get 2 = some (.ptr 1 0)) (h : UMem T0 x [] σ) (hb : ∀ m, x.getLsbD m = true → 1 ≤ m ∧ m ≤ 60) (hk : 1000 ≤ k) :
    ∃ σ', callN lawProg k (.func 68 [] [.ptr 2 0]) [.yield 3] σ = some (.tuple [], σ') ∧ UMem T0 0#64 (spansOf x.getLsbD) σ' := by
  obtain ⟨k, rfl⟩ : ∃ m, k = m + 2 := ⟨k - 2, by omega⟩
  have run : ∃ T1 σ1, execC lawProg (callN lawProg (k + 1)) (k + 1) 68 28 (bodyOf Tryz.f68) (initT 0 [.yield 3, .ptr 2 0] .nil) σ = some (.normal, T1, σ1) ∧ UMem T0 0#64 (spansOf x.getLsbD) σ1 := by
    simp only [bodyOf, Tryz.f68, Option.getD_some, initT, runOps, runD, again, step1, wantA, opSem, evalO, evalL, evalOpt, evalParts, putA, ofConst, ofScalar, ofScalars, abin, abinInt, aun, convA, builtinA, oneTy, elemTy, loadA, storeA, storeCellsA, setAt, partA, fillA, placesA, isFn, TyI.isAgg, isSeq, isNum, sliceA, boundA, setParams, minL, minF, maxL, maxF, repZ, reduceIte, Nat.reduceLT, Nat.reduceLeDiff, Nat.reduceEqDiff, Nat.reduceAdd, Nat.reduceMul, Nat.reduceSub, Nat.reduceBEq, Int.reduceEq, Int.reduceLT, Int.reduceLE, Int.reduceToNat, reduceCtorEq, sx, fx68]
    generalize hL : execC _ _ _ _ _ (Code.loop _) _ _ = q
    obtain ⟨e, T', σ', rfl, _, rfl, hR⟩ : ∃ e T' σ', q = some (e, T', σ') ∧ e ≠ .normal ∧ (e = .exit 0 ∧ UMem T0 0#64 (spansOf x.getLsbD) σ') := by
      rw [← hL]
      have stop : ∀ (T : Tr AVal) (σ : AMem) (l : List Sp), T.get 1 = some (.ptr 2 0) → UMem T0 0#64 l σ → OkSp l → (∀ m : Nat, x.getLsbD m = (inSp l m || (0#64).getLsbD m)) → ∃ e T' σ', execC lawProg (callN lawProg (k + 1)) (k + 1) 68 28 (innerC (innerC (bodyOf Tryz.f68))) T σ = some (e, T', σ') ∧ e ≠ .normal ∧ (e = .exit 0 ∧ UMem T0 0#64 (spansOf x.getLsbD) σ') := by
        intro T σ l t1 hm ok hbit
        have e0 : l = spansOf x.getLsbD := spansOf_eq ok fun m _ _ => by rw [hbit]; simp
        subst e0
        have m2 := hm.2.1
        refine ⟨_, _, _, by
          simp only [bodyOf, Tryz.f68, Option.getD_some, innerC, runOps, runD, again, step1, wantA, opSem, evalO, evalL, evalOpt, evalParts, putA, ofConst, ofScalar, ofScalars, abin, abinInt, aun, convA, builtinA, oneTy, elemTy, loadA, storeA, storeCellsA, setAt, partA, fillA, placesA, isFn, TyI.isAgg, isSeq, isNum, sliceA, boundA, setParams, minL, minF, maxL, maxF, repZ, reduceIte, Nat.reduceLT, Nat.reduceLeDiff, Nat.reduceEqDiff, Nat.reduceAdd, Nat.reduceMul, Nat.reduceSub, Nat.reduceBEq, Int.reduceEq, Int.reduceLT, Int.reduceLE, Int.reduceToNat, reduceCtorEq, sx, fx68, t1, m2, show (((0#64).toNat : Int) != 0) = false from rfl]
          rfl, by simp, rfl, hm⟩
      refine exec_loop2 (fun i T σ => T.get 0 = some (.yield 3) ∧ T.get 1 = some (.ptr 2 0) ∧ ∃ y l, l.length = i ∧ UMem T0 y l σ ∧ OkSp l ∧ (∀ m : Nat, x.getLsbD m = (inSp l m || y.getLsbD m)) ∧ ∀ m : Nat, y.getLsbD m = true → lastTo l + 2 ≤ m ∧ 1 ≤ m ∧ m ≤ 60) 40 (by omega) ?_ ?_ ?_
      · rintro i hi T σ1 ⟨t0, t1, y, l, hlen, hm, ok, hbit, hy⟩
        by_cases h0 : y = 0#64
        · subst h0
          exact .inr (stop T σ1 l t1 hm ok hbit)
        · obtain ⟨f, hf⟩ := low_get h0
          have hfb := hy f hf.2.1
          obtain ⟨g, hg, g1, g2, g3, g4⟩ := next_span hf fun m hm => (hy m hm).2.2
          have m2 := hm.2.1
          have hne : (((y.toNat : Nat) : Int) != 0) = true := by
            rw [bne_iff_ne]
            intro e
            apply h0
            apply BitVec.eq_of_toNat_eq
            simp only [BitVec.toNat_ofNat]
            omega
          have z1 := fun (σ : AMem) => tz_call (k := k + 1) (σ := σ) hf (by omega)
          have z2 := fun (σ : AMem) => tz_call (k := k + 1) (σ := σ) hg (by omega)
          have hshr : ((y.toNat : Nat) : Int).fdiv (2 ^ (min f IntKind.u64.bits)) = ((y >>> f).toNat : Int) := u64_shr y f (by have := hf.1; omega)
          have hf0 : ¬ ((f : Nat) : Int) < 0 := by omega
          have hw1 : IntKind.i64.wrap (((f : Nat) : Int) + ((g : Nat) : Int)) = ((f + g : Nat) : Int) := by rw [i64_id (by omega) (by omega)]; omega
          have hw2 : IntKind.i64.wrap (((f + g : Nat) : Int) - 1) = ((f + g - 1 : Nat) : Int) := by rw [i64_id (by omega) (by omega)]; omega
          obtain ⟨σ2, hround, hm2⟩ := union_round (k := k) (f := ((f : Nat) : Int)) (t := ((f + g - 1 : Nat) : Int)) hT2 hm (by omega)
          have hyield : callN lawProg (k + 1) (.yield 3) [.agg [.int .i64 ((f : Nat) : Int), .int .i64 ((f + g - 1 : Nat) : Int)]] σ1 = some (.bool true, σ2) := by simp only [callN]; exact hround
          have n2 := hm2.2.1
          have hbt := fun (σ : AMem) => between_call (k := k + 1) (σ := σ) (f := f) (t := f + g - 1) (by omega) (by omega) (by omega) (by omega)
          refine .inl ⟨_, _, by
            simp only [runOps, runD, again, step1, wantA, opSem, evalO, evalL, evalOpt, evalParts, putA, ofConst, ofScalar, ofScalars, abin, abinInt, aun, convA, builtinA, oneTy, elemTy, loadA, storeA, storeCellsA, setAt, partA, fillA, placesA, isFn, TyI.isAgg, isSeq, isNum, sliceA, boundA, setParams, minL, minF, maxL, maxF, repZ, reduceIte, Nat.reduceLT, Nat.reduceLeDiff, Nat.reduceEqDiff, Nat.reduceAdd, Nat.reduceMul, Nat.reduceSub, Nat.reduceBEq, Int.reduceEq, Int.reduceLT, Int.reduceLE, Int.reduceToNat, reduceCtorEq, sx, fx68, t0, t1, m2, hne, z1, hshr, hf0, u64_not, z2, hw1, hw2, Int.toNat_natCast]
            simp only [hyield, runOps, runD, again, step1, wantA, opSem, evalO, evalL, evalOpt, evalParts, putA, ofConst, ofScalar, ofScalars, abin, abinInt, aun, convA, builtinA, oneTy, elemTy, loadA, storeA, storeCellsA, setAt, partA, fillA, placesA, isFn, TyI.isAgg, isSeq, isNum, sliceA, boundA, setParams, minL, minF, maxL, maxF, repZ, reduceIte, Nat.reduceLT, Nat.reduceLeDiff, Nat.reduceEqDiff, Nat.reduceAdd, Nat.reduceMul, Nat.reduceSub, Nat.reduceBEq, Int.reduceEq, Int.reduceLT, Int.reduceLE, Int.reduceToNat, reduceCtorEq, sx, fx68, t1, n2, hbt, u64_andNot]
            rfl, ?_, ?_, y &&& ~~~(betW f (f + g - 1)), l ++ [(((f : Nat) : Int), ((f + g - 1 : Nat) : Int))], by simp [hlen], ?_, ?_, ?_, ?_⟩
          · simp only [Tr.get_set, Nat.reduceEqDiff, reduceIte, t0]
          · simp only [Tr.get_set, Nat.reduceEqDiff, reduceIte, t1]
          · obtain ⟨⟨out, a1, a2⟩, _, a3, a4⟩ := hm2
            exact ⟨⟨out, by rw [AMem.get_put, if_neg (by omega)]; exact a1, a2.same (by simp) fun r h1 h2 => by rw [AMem.get_put, if_neg (by omega)]⟩, by rw [AMem.get_put, if_pos rfl], by rw [AMem.get_put, if_neg (by omega)]; exact a3, by simpa using a4⟩
          · exact (ok_last ok _).2 ⟨⟨by simp only; omega, by simp only; omega, by simp only; omega⟩, by simp only; omega⟩
          · intro m
            rw [inSp_snoc, hbit, Bool.or_assoc]
            congr 1
            rw [BitVec.getLsbD_and, BitVec.getLsbD_not, betW_bit (by omega) (by omega) (by omega)]
            by_cases hin : f ≤ m ∧ m ≤ f + g - 1
            · rw [g3 m hin.1 (by omega)]
              simp only [Bool.true_eq, Bool.or_eq_true, Bool.and_eq_true, decide_eq_true_eq]
              left
              omega
            · have e1 : (decide (((f : Nat) : Int) ≤ ((m : Nat) : Int)) && decide (((m : Nat) : Int) ≤ ((f + g - 1 : Nat) : Int))) = false := by
                rw [Bool.eq_false_iff]
                simp only [ne_eq, Bool.and_eq_true, decide_eq_true_eq]
                omega
              have e2 : (decide (f ≤ m) && decide (m ≤ f + g - 1)) = false := by
                rw [Bool.eq_false_iff]
                simp only [ne_eq, Bool.and_eq_true, decide_eq_true_eq]
                omega
              rw [e1, e2]
              cases hym : y.getLsbD m with
              | false => simp
              | true =>
                have := hy m hym
                simp
                omega
          · intro m hm3
            rw [BitVec.getLsbD_and, BitVec.getLsbD_not, betW_bit (by omega) (by omega) (by omega)] at hm3
            simp only [Bool.and_eq_true, Bool.not_eq_true', decide_eq_true_eq, Bool.and_eq_false_iff, decide_eq_false_iff_not] at hm3
            obtain ⟨hym, _, hout⟩ := hm3
            have hb2 := hy m hym
            have hfm : f ≤ m := by
              apply Classical.byContradiction
              intro hc
              rw [hf.2.2 m (by omega)] at hym
              cases hym
            have hne2 : m ≠ f + g := by
              rintro rfl
              rw [g4] at hym
              cases hym
            rw [lastTo_snoc]
            simp only
            omega
      · rintro T σ1 ⟨t0, t1, y, l, hlen, hm, ok, hbit, hy⟩
        exfalso
        have h1 := ok_len 40 l hlen ok
        have h2 := (lastTo_bound ok).2.2
        omega
      · refine ⟨?_, ?_, x, [], rfl, h, OkSp.nil, fun m => by simp [inSp], fun m hm => ?_⟩
        · simp only [Tr.get_set, Nat.reduceEqDiff, reduceIte]
        · simp only [Tr.get_set, Nat.reduceEqDiff, reduceIte]
        · have := hb m hm
          simp only [lastTo, List.getLast?_nil, Option.map_none, Option.getD_none]
          omega
    simp only [runOps, runD, again, step1, wantA, opSem, evalO, evalL, evalOpt, evalParts, putA, ofConst, ofScalar, ofScalars, abin, abinInt, aun, convA, builtinA, oneTy, elemTy, loadA, storeA, storeCellsA, setAt, partA, fillA, placesA, isFn, TyI.isAgg, isSeq, isNum, sliceA, boundA, setParams, minL, minF, maxL, maxF, repZ, reduceIte, Nat.reduceLT, Nat.reduceLeDiff, Nat.reduceEqDiff, Nat.reduceAdd, Nat.reduceMul, Nat.reduceSub, Nat.reduceBEq, Int.reduceEq, Int.reduceLT, Int.reduceLE, Int.reduceToNat, reduceCtorEq, sx, fx68]
    exact ⟨_, _, rfl, hR⟩
  obtain ⟨T1, σ1, h2, h3⟩ := run
  exact ⟨σ1, q_call (first := []) (vs := []) fn68 rfl (by simp [Tryz.f68]) h2 (by simp) rfl, h3⟩
end Go.Proofs.YtoomnecfapihaaaGreatDoor
