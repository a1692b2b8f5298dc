import Derived.Test.YtjkfdiglokkceaaHT
import Derived.Test.YtjkfdiglokkceaaHP
/- Heaps: the program's Blocks. -/
set_option maxRecDepth 100000
set_option linter.unusedSimpArgs false
set_option linter.unusedVariables false
namespace Go.Proofs.Ytjkfdiglokkceaa
open Go Go.Proofs.Ytjkfdiglokkceaa.Pale
variable {k : Nat} {σ : AMem}

/-- A loop over all blocks that does not end early: what is there behind it. -/
theorem range_all {f N k0 low sp pr wr p : Nat} {its : List MItem} {ps : List Pg} {ws : List Int} {T0 : Tr AVal} {g : Nat} {a b : Code} {I : Option (List Blk) → List Nat → AMem → Prop} {O : List Nat} {lp : ALoop}
    (hlp : lp = { state := .ready, pending := none, fn := f, N := N, T := T0, params := [p], assign := a, body := b })
    (hC : Client k0 σ.next (blocksL ps) I) (hno : ∀ O σ, ¬ I none O σ) (hL : ∀ d O σ', I (some d) O σ' → σ'.get σ.next = some (.loop lp))
    (h : HeapM low σ sp pr none wr none its ps ws) (hsh : Shape ps) (hl : ps.length ≤ 40) (hk0 : k0 + 3 ≤ k) (hk : 1004 ≤ k)
    (hO : sp ∉ O ∧ pr ∉ O ∧ wr ∉ O ∧ ∀ r, r ∈ rowsOf its → r ∉ O) (hI : I (some []) O (σ.push (.loop lp))) (hg : T0.get g = some (.func 47 [.ptr sp 0] [])) :
    ∃ O' σ', execC lawProg (callN lawProg k) k f N (.rangeFunc (.tmp g) #[p] a b) T0 σ = some (.normal, T0, σ'.put σ.next (.loop { lp with state := .exhausted })) ∧ I (some (blocksL ps)) O' σ' ∧ Fr (σ.push (.loop lp)) O σ' O' := by
  obtain ⟨O', σ', hcl, hF, hres⟩ := pblocks_exec (k := k - 3) (σ := σ.push (.loop lp)) (O := O) hC (h.ext (Ext.push _ _)) hsh hl (by omega) (by omega) hO hI
  rw [show k - 3 + 3 = k by omega] at hcl
  rcases hres with hi | hi
  · refine ⟨O', σ', ?_, hi, hF⟩
    have hcl' : callN lawProg k (.func 47 [.ptr sp 0] []) [.yield σ.next] (σ.push (.loop { state := .ready, pending := none, fn := f, N := N, T := T0, params := [p], assign := a, body := b })) = some (.tuple [], σ') := by
      obtain ⟨m, hm⟩ : ∃ m, k = m + 1 := ⟨k - 1, by omega⟩
      rw [hm, call_first, ← hm, ← hlp]
      exact hcl
    exact q_range (A := lawProg) (call := callN lawProg k) (k := k) (f := f) (N := N) (T := T0) (σ := σ) (g := .tmp g) (ps := #[p]) (a := a) (b := b) (r := lp) (v := .tuple []) (σ2 := σ') hg hcl' (hL _ _ _ hi) (by rw [hlp]; intro h; cases h) (by rw [hlp])
  · exact absurd hi (hno _ _)
noncomputable def loopBk (T0 : Tr AVal) : ALoop := rfLoop Try.f15 15 T0
def BkI (q L : Nat) (lp : ALoop) : Option (List Blk) → List Nat → AMem → Prop := fun x O σ => match x with
  | some d => ∃ out, O = q :: L :: rowOf out ∧ q < L ∧ L < σ.next ∧ σ.get q = some (.row 1 false [out]) ∧ σ.get L = some (.loop lp) ∧ Grew (L + 1) σ 2 true out d.length (prsC d) ∧ (d = [] → out = .vs .nil [])
  | none => False
theorem grew_one {low sz j : Nat} {g : Bool} {out : AVal} {cells : List AVal} (h : Grew low σ sz g out j cells) : out.oneCell = true := by
  rcases h.2 with ⟨_, rfl⟩ | ⟨_, _, _, rfl, _⟩ <;> rfl
set_option maxHeartbeats 1000000 in
theorem bk_client {T0 : Tr AVal} {q L : Nat} {bs : List Blk} (hT2 : T0.get 2 = some (.ptr q 0)) (hn : bs.length ≤ 10000) : Client 1 L bs (BkI q L (loopBk T0)) := by
  refine ⟨?_, ?_, ?_⟩
  · intro x O σ σ' hi hn hs
    cases x with
    | none => exact hi
    | some d =>
      obtain ⟨out, rfl, h1, h2, h3, h4, h5, h6⟩ := hi
      refine ⟨out, rfl, h1, by omega, by rw [hs q (by simp)]; exact h3, by rw [hs L (by simp)]; exact h4, ⟨h5.1, ?_⟩, h6⟩
      rcases h5.2 with h | ⟨r, a1, a2, a3, a4⟩
      · exact .inl h
      · exact .inr ⟨r, a1, by omega, a3, by rw [hs r (by rw [a3]; simp [rowOf])]; exact a4⟩
  · intro x O σ hi r hr
    cases x with
    | none => exact hi.elim
    | some d =>
      obtain ⟨out, rfl, h1, h2, h3, h4, h5, h6⟩ := hi
      simp only [List.mem_cons] at hr
      rcases hr with rfl | rfl | hr
      · omega
      · omega
      · rcases h5.2 with ⟨_, rfl⟩ | ⟨r', a1, a2, rfl, a4⟩
        · simp [rowOf] at hr
        · simp only [rowOf, List.mem_singleton] at hr; omega
  · rintro k d b rest O σ hbs hk ⟨out, rfl, hqL, hLn, mq, ml, hgr, hnil⟩
    obtain ⟨k, rfl⟩ : ∃ m, k = m + 1 := ⟨k - 1, by omega⟩
    obtain ⟨c, hc⟩ : ∃ c, c = σ.next := ⟨_, rfl⟩
    obtain ⟨B, hB⟩ : ∃ B, B = busyOf (loopBk T0) := ⟨_, rfl⟩
    obtain ⟨σ1, hσ1⟩ : ∃ s, s = (σ.push (.row 4 true blk0)).put σ.next (.row 4 true (blkC b)) := ⟨_, rfl⟩
    have ex1 : Ext σ σ1 := by rw [hσ1]; exact (Ext.push _ _).put _ _ (by omega)
    have gd : σ1.get c = some (.row 4 true (blkC b)) := by rw [hσ1, hc, AMem.get_put, if_pos rfl]
    have n1 : σ1.next = c + 1 := by rw [hσ1, hc]; simp
    have ha : ∃ T1, execC lawProg (callN lawProg k) k 15 26 (loopBk T0).assign (setParams T0 (loopBk T0).params [.agg (blkC b)]) σ = some (.normal, T1, σ1) ∧ T1.get 2 = some (.ptr q 0) ∧ T1.get 5 = some (.ptr c 0) := by
      rw [hσ1, hc]
      simp only [loopBk, rfLoop, bodyOf, Try.f15, Option.getD_some, rfOf]
      simp only [dx, reduceIte, Nat.reduceLT, Nat.reduceLeDiff, Nat.reduceEqDiff, Nat.reduceAdd, Nat.reduceMul, Nat.reduceSub, Nat.reduceBEq, Int.reduceEq, Int.reduceLT, Int.reduceLE, Int.reduceToNat, reduceCtorEq, sx, fx15, blkC, blk0]
      exact ⟨_, rfl, by simp only [Tr.get_set, Nat.reduceEqDiff, reduceIte, hT2], by simp only [Tr.get_set, Nat.reduceEqDiff, reduceIte]⟩
    obtain ⟨T1, ha, u2, u5⟩ := ha
    obtain ⟨σb, hσb⟩ : ∃ s, s = σ1.put L (.loop B) := ⟨_, rfl⟩
    have gb : ∀ r, r < c → r ≠ L → σb.get r = σ.get r := fun r hr hne => by rw [hσb, AMem.get_put, if_neg (fun h => hne h.symm)]; exact ex1.2 r (by omega)
    have gbc : σb.get c = some (.row 4 true (blkC b)) := by rw [hσb, AMem.get_put, if_neg (by omega)]; exact gd
    have nb : σb.next = c + 1 := by rw [hσb]; simpa using n1
    have be : σb.get L = some (.loop B) := by rw [hσb, AMem.get_put, if_pos rfl]
    have bq : σb.get q = some (.row 1 false [out]) := by rw [gb q (by omega) (by omega)]; exact mq
    have hgb : Grew (L + 1) σb 2 true out d.length (prsC d) := by
      refine ⟨hgr.1, ?_⟩
      rcases hgr.2 with h | ⟨r, a1, a2, a3, a4⟩
      · exact .inl h
      · exact .inr ⟨r, a1, by omega, a3, by rw [gb r (by omega) (by omega)]; exact a4⟩
    have hdl : d.length ≤ 10000 := by
      have := congrArg List.length hbs
      simp only [List.length_append, List.length_cons] at this
      omega
    obtain ⟨σ2, a1, a2, a3, a4, a5⟩ := Grew.one (e := (⟨.array 2 3, 2, 16, [.int .i64 0, .int .i64 0]⟩ : TyI)) (xs := [.int .i64 b.at_, .int .i64 b.size]) hgb (by omega) rfl (by decide) (by decide) (by decide) (by simp only [mostBytes]; omega) rfl
    have a1' : appendA (⟨.array 2 3, 2, 16, [.int .i64 0, .int .i64 0]⟩ : TyI) (σb.push (.row 2 true [.int .i64 b.at_, .int .i64 b.size])) out (.slice σb.next 0 1 (some 1) 2) = some (.slice (σb.next + 1) 0 (d.length + 1) none 2, σ2) := a1
    obtain ⟨σ3, hσ3⟩ : ∃ s, s = σ2.put q (.row 1 false [.slice (σb.next + 1) 0 (d.length + 1) none 2]) := ⟨_, rfl⟩
    have g2q : σ2.get q = some (.row 1 false [out]) := by rw [a4 q (by omega)]; exact bq
    have g2L : σ2.get L = some (.loop B) := by rw [a4 L (by omega)]; exact be
    have hoo := grew_one hgr
    have hz1 : loopBk T0 = { B with state := .ready, pending := none } := by rw [hB]; rfl
    have hb2 : ∃ T2, execC lawProg (callN lawProg k) k 15 26 (loopBk T0).body T1 σb = some (.normal, T2, σ3) := by
      rw [hσ3]
      unfold blkC at gbc
      simp only [loopBk, rfLoop, bodyOf, Try.f15, Option.getD_some, rfOf]
      simp only [dx, reduceIte, Nat.reduceLT, Nat.reduceLeDiff, Nat.reduceEqDiff, Nat.reduceAdd, Nat.reduceMul, Nat.reduceSub, Nat.reduceBEq, Int.reduceEq, Int.reduceLT, Int.reduceLE, Int.reduceToNat, reduceCtorEq, sx, fx15, u2, u5, gbc, bq, hoo, a1', g2q]
      exact ⟨_, rfl⟩
    obtain ⟨T2, hb2⟩ := hb2
    have g3L : σ3.get L = some (.loop B) := by rw [hσ3, AMem.get_put, if_neg (by omega)]; exact g2L
    have key := round_body (A := lawProg) (call := callN lawProg k) (k := k) (σ := σ) (l := L) (r := loopBk T0) (T1 := T1) (T2 := T2) (σ1 := σ1) ml rfl rfl rfl ha (by rw [ex1.2 L (by omega)]; exact ml) (by rw [← hB, ← hσb]; exact hb2) (r2 := B) g3L
    rw [← hz1] at key
    have n3 : σ3.next = c + 3 := by rw [hσ3]; simp only [AMem.next_put]; omega
    refine ⟨true, q :: L :: [σb.next + 1], _, by simp only [callN]; exact key, ?_, ⟨?_, fun r hr hn => ?_, fun r hr => ?_⟩⟩
    · simp only [if_true]
      refine ⟨.slice (σb.next + 1) 0 (d.length + 1) none 2, rfl, hqL, ?_, ?_, ?_, ⟨?_, .inr ⟨σb.next + 1, by omega, ?_, by simp, ?_⟩⟩, fun h => by simp at h⟩
      · simp only [AMem.next_put]; omega
      · rw [AMem.get_put, if_neg (by omega), hσ3, AMem.get_put, if_pos rfl]
      · rw [AMem.get_put, if_pos rfl]
      · have := a2.1
        rw [prsC_snoc]
        simpa [prC] using this
      · simp only [AMem.next_put]; omega
      · rw [AMem.get_put, if_neg (by omega), hσ3, AMem.get_put, if_neg (by omega), prsC_snoc]
        rcases a2.2 with ⟨h0, _⟩ | ⟨r', _, _, e1, e2⟩
        · omega
        · simp only [AVal.slice.injEq] at e1
          rw [e1.1]
          exact e2
    · simp only [AMem.next_put]; omega
    · simp only [List.mem_cons, not_or] at hn
      rw [AMem.get_put, if_neg (by omega), hσ3, AMem.get_put, if_neg (by omega), a5 r (by omega) (fun e => hn.2.2 (by rw [e]; simp [rowOf])), gb r (by omega) hn.2.1]
    · simp only [List.mem_cons, List.not_mem_nil, or_false] at hr
      rcases hr with rfl | rfl | rfl
      · exact .inl (by simp)
      · exact .inl (by simp)
      · exact .inr (by omega)
theorem blocks_count {ps : List Pg} (hsh : Shape ps) (hl : ps.length ≤ 40) : (blocksL ps).length ≤ 2560 := by
  have := (blocks_len hsh ps.length (Nat.le_refl _)).1
  unfold blocksL
  omega
theorem snapL_prs2 (fr : Bool) (d : Nat) (l : List Blk) : snapL (snapF fr σ (d + 1)) (prsC l) = some (prsC l, []) := snapL_prs fr σ d l
set_option maxHeartbeats 1000000 in
theorem Blocks_run {v : AVal} {ps : List Pg} {ws : List Int} (hv : VH v ps ws) (hb : Bd ps ws) (hk : 9000 ≤ k) : pureRun (callN lawProg (k + 1)) (.func 15 [] []) [v] = some (if rightB ps ws then .tuple [.vs (lkOf (blocksL ps).length) (prsV (blocksL ps)), .int .i64 0] else .tuple [.vs .nil [], .int .i64 4], true) := by
  obtain ⟨X, Y, rfl, hX, hY⟩ := hv.cells
  obtain ⟨σ0, hσ0⟩ : ∃ s, s = (AMem.empty.push (.row 2 true [X, Y])).push (.row 1 false [.vs .nil []]) := ⟨_, rfl⟩
  have n0 : σ0.next = 2 := by rw [hσ0]; simp [next_empty]
  have g0 : σ0.get 0 = some (.row 2 true [X, Y]) := by rw [hσ0]; simp [AMem.get_push, next_empty]
  have g1 : σ0.get 1 = some (.row 1 false [.vs .nil []]) := by rw [hσ0]; simp [AMem.get_push, next_empty]
  rcases open_vh (k := k - 1) hv hb (by omega) σ0 with ⟨hr, σ2, ho, ex2⟩ | ⟨hr, hright, σ2, sp, pr, wr, its, ho, ex2, hM⟩
  · rw [show k - 1 + 1 = k by omega] at ho
    rw [hr]
    simp only [Bool.false_eq_true, if_false]
    have g12 : σ2.get 1 = some (.row 1 false [.vs .nil []]) := by rw [ex2.2 1 (by omega)]; exact g1
    have run : ∃ T1, execC lawProg (callN lawProg k) k 15 26 (bodyOf Try.f15) (initT 0 [.agg [X, Y]] .nil) AMem.empty = some (.ret, T1, σ2.put 1 (.row 1 false [.vs .nil []])) ∧ T1.get 2 = some (.ptr 1 0) ∧ T1.get 3 = some (.int .i64 4) := by
      simp only [bodyOf, Try.f15, Option.getD_some, initT, dx, reduceIte, Nat.reduceLT, Nat.reduceLeDiff, Nat.reduceEqDiff, Nat.reduceAdd, Nat.reduceMul, Nat.reduceSub, Nat.reduceBEq, Int.reduceEq, Int.reduceLT, Int.reduceLE, Int.reduceToNat, reduceCtorEq, sx, fx15, hX, hY, ← hσ0]
      simp only [dx, reduceIte, Nat.reduceLT, Nat.reduceLeDiff, Nat.reduceEqDiff, Nat.reduceAdd, Nat.reduceMul, Nat.reduceSub, Nat.reduceBEq, Int.reduceEq, Int.reduceLT, Int.reduceLE, Int.reduceToNat, reduceCtorEq, sx, fx15, g0, ho, g12, show ((4 : Int) != 0) = true from rfl]
      exact ⟨_, rfl, by simp only [Tr.get_set, Nat.reduceEqDiff, reduceIte], by simp only [Tr.get_set, Nat.reduceEqDiff, reduceIte]⟩
    obtain ⟨T1, r1, r2, r3⟩ := run
    refine pureRun_of (vs := [.vs .nil [], .int .i64 4]) (seen := [] ++ ([] ++ [])) fn15 rfl (by simp [Try.f15]) r1 (by simp) ?_ rfl
    simp only [Try.f15, resultsA, resultA, dx, reduceIte, Nat.reduceLT, Nat.reduceLeDiff, Nat.reduceEqDiff, Nat.reduceAdd, Nat.reduceMul, Nat.reduceSub, Nat.reduceBEq, Int.reduceEq, Int.reduceLT, Int.reduceLE, Int.reduceToNat, reduceCtorEq, sx, fx15, r2, r3]
  · rw [show k - 1 + 1 = k by omega] at ho
    rw [hr]
    simp only [if_true]
    have hmany := hright.many
    obtain ⟨x1, x2, x3⟩ := hM.own.nx
    obtain ⟨l1, l2, l3⟩ := hM.own.lo
    have hx2 := ex2.1
    have g12 : σ2.get 1 = some (.row 1 false [.vs .nil []]) := by rw [ex2.2 1 (by omega)]; exact g1
    have run : ∃ T1 σ' out, execC lawProg (callN lawProg k) k 15 26 (bodyOf Try.f15) (initT 0 [.agg [X, Y]] .nil) AMem.empty = some (.ret, T1, σ') ∧ T1.get 2 = some (.ptr 1 0) ∧ T1.get 3 = some (.int .i64 0) ∧ σ'.get 1 = some (.row 1 false [out]) ∧ GrewB 2 0 σ' out (blocksL ps) := by
      simp only [bodyOf, Try.f15, Option.getD_some, initT, dx, reduceIte, Nat.reduceLT, Nat.reduceLeDiff, Nat.reduceEqDiff, Nat.reduceAdd, Nat.reduceMul, Nat.reduceSub, Nat.reduceBEq, Int.reduceEq, Int.reduceLT, Int.reduceLE, Int.reduceToNat, reduceCtorEq, sx, fx15, hX, hY, ← hσ0]
      simp only [dx, reduceIte, Nat.reduceLT, Nat.reduceLeDiff, Nat.reduceEqDiff, Nat.reduceAdd, Nat.reduceMul, Nat.reduceSub, Nat.reduceBEq, Int.reduceEq, Int.reduceLT, Int.reduceLE, Int.reduceToNat, reduceCtorEq, sx, fx15, g0, ho, show ((0 : Int) != 0) = false from rfl]
      generalize hR : execC _ _ _ _ _ (Code.rangeFunc _ _ _ _) _ _ = r
      have hrng : ∀ (T0 : Tr AVal) (X' : Out), T0.get 2 = some (.ptr 1 0) → T0.get 15 = some (.func 47 [.ptr sp 0] []) → execC lawProg (callN lawProg k) k 15 26 (.rangeFunc (.tmp 15) #[16] (loopBk T0).assign (loopBk T0).body) T0 σ2 = X' → ∃ σ' out, X' = some (.normal, T0, σ') ∧ σ'.get 1 = some (.row 1 false [out]) ∧ GrewB 2 0 σ' out (blocksL ps) := by
        intro T0 X' t2 t15 hX'
        rw [← hX']
        have hp : ∀ r, r < σ2.next → (σ2.push (.loop (loopBk T0))).get r = σ2.get r := fun r hr => by rw [AMem.get_push, if_neg (by omega)]
        have hmem : ∀ r, 2 ≤ r → r < σ2.next → r ∉ [1, σ2.next] := fun r h1 h2 hm => by
          simp only [List.mem_cons, List.not_mem_nil, or_false] at hm
          omega
        obtain ⟨O', σ', e1, ⟨out, rfl, h1, h2, h3, h4, h5, h6⟩, hF⟩ := range_all (σ := σ2) (k := k) (f := 15) (N := 26) (T0 := T0) (p := 16) (g := 15) (lp := loopBk T0) (O := [1, σ2.next]) (k0 := 1) (a := (loopBk T0).assign) (b := (loopBk T0).body) rfl (bk_client t2 (by have := blocks_count hright.shape hmany.2; omega)) (fun _ _ h => h) (fun d O σ' ⟨_, _, _, _, _, h, _⟩ => h) hM hright.shape hmany.2 (by omega) (by omega) ⟨hmem sp (by omega) x1, hmem pr (by omega) x2, hmem wr (by omega) x3, fun r hr => hmem r (by have := (hM.own.it.bound r hr).1; omega) (hM.own.it.bound r hr).2⟩ ⟨.vs .nil [], rfl, by omega, by simp, by rw [hp 1 (by omega)]; exact g12, by rw [AMem.get_push, if_pos rfl], ⟨rfl, .inl ⟨rfl, rfl⟩⟩, fun _ => rfl⟩ t15
        refine ⟨_, out, e1, by rw [AMem.get_put, if_neg (by omega)]; exact h3, ⟨⟨h5.1, ?_⟩, h6, ?_⟩⟩
        · rcases h5.2 with h | ⟨r, a1, a2, a3, a4⟩
          · exact .inl h
          · exact .inr ⟨r, by omega, by simpa using a2, a3, by rw [AMem.get_put, if_neg (by omega)]; exact a4⟩
        · intro r j c z e
          rcases h5.2 with ⟨_, h⟩ | ⟨r', a1, a2, a3, a4⟩
          · rw [h] at e; cases e
          · rw [a3] at e
            simp only [AVal.slice.injEq] at e
            omega
      obtain ⟨σ', out, rfl, z1, z2⟩ := hrng _ _ (by simp only [Tr.get_set, Nat.reduceEqDiff, reduceIte]) (by simp only [Tr.get_set, Nat.reduceEqDiff, reduceIte]) hR
      have hoo := grew_one z2.1
      have hoc := one_cells hoo
      simp only [dx, reduceIte, Nat.reduceLT, Nat.reduceLeDiff, Nat.reduceEqDiff, Nat.reduceAdd, Nat.reduceMul, Nat.reduceSub, Nat.reduceBEq, Int.reduceEq, Int.reduceLT, Int.reduceLE, Int.reduceToNat, reduceCtorEq, sx, fx15, z1, hoo, hoc]
      refine ⟨_, _, out, rfl, by simp only [Tr.get_set, Nat.reduceEqDiff, reduceIte], by simp only [Tr.get_set, Nat.reduceEqDiff, reduceIte], by rw [AMem.get_put, if_pos rfl], z2.same (by simp) (fun r h1 h2 => by rw [AMem.get_put, if_neg (by omega)]) (.inl rfl)⟩
    obtain ⟨T1, σ', out, r1, r2, r3, r4, r5⟩ := run
    obtain ⟨S, hS⟩ := snap_prs (fr := true) (d := 9) r5
    refine pureRun_of (vs := [out, .int .i64 0]) (seen := S ++ ([] ++ [])) fn15 rfl (by simp [Try.f15]) r1 (by simp) ?_ ?_
    · simp only [Try.f15, resultsA, resultA, dx, reduceIte, Nat.reduceLT, Nat.reduceLeDiff, Nat.reduceEqDiff, Nat.reduceAdd, Nat.reduceMul, Nat.reduceSub, Nat.reduceBEq, Int.reduceEq, Int.reduceLT, Int.reduceLE, Int.reduceToNat, reduceCtorEq, sx, fx15, r2, r3, r4]
    · have c2 : snapF true σ' 11 (.int .i64 0) = some (.int .i64 0, []) := rfl
      show snapF true σ' (11 + 1) (.tuple [out, .int .i64 0]) = _
      rw [snapF]
      simp only [snapL, hS, c2, Option.map_some]
theorem Blocks_call {v : AVal} {ps : List Pg} {ws : List Int} (hv : VH v ps ws) (hb : Bd ps ws) (hk : 9001 ≤ k) : pureCall lawProg (callN lawProg k) (.func 15 [] []) [v] σ = some (if rightB ps ws then .tuple [.vs (lkOf (blocksL ps).length) (prsV (blocksL ps)), .int .i64 0] else .tuple [.vs .nil [], .int .i64 4], σ) := by
  obtain ⟨k, rfl⟩ : ∃ m, k = m + 1 := ⟨k - 1, by omega⟩
  refine pureCall_of (args' := [v]) (seen := [] ++ []) ?_ (memo15 _) (Blocks_run hv hb (by omega))
  have := hv.snap σ 10
  simp only [snapL, snapDepth, this]
end Go.Proofs.Ytjkfdiglokkceaa

/- Heaps: the program's Space. -/
set_option maxRecDepth 100000
set_option linter.unusedSimpArgs false
set_option linter.unusedVariables false
namespace Go.Proofs.Ytjkfdiglokkceaa
open Go Go.Proofs.Ytjkfdiglokkceaa.Pale
variable {k : Nat} {σ : AMem}

/-- The greatest run of free pages, of so many at most. -/
def grRun (ps : List Pg) : Nat → Option Nat
  | 0 => none
  | m + 1 => if (runL ps (m + 1)).isSome then some (m + 1) else grRun ps m
def grSmall (ps : List Pg) : Int := if (placeL ps 32).isSome then 32 else if (placeL ps 16).isSome then 16 else if (placeL ps 8).isSome then 8 else if (placeL ps 4).isSome then 4 else if (placeL ps 2).isSome then 2 else 0
def greatL (ps : List Pg) : Int := match grRun ps 40 with
  | some m => ((64 * m : Nat) : Int)
  | none => grSmall ps
theorem run_h {low sp pr wr many : Nat} {its : List MItem} {ps : List Pg} {ws : List Int} (h : HeapM low σ sp pr none wr none its ps ws) (hl : ps.length ≤ 40) (hm : many ≤ 1000) (hk : 3000 ≤ k) : ∃ (a : Int) (σ' : AMem), callN lawProg k (.func 69 [] []) [.ptr sp 0, .int .i64 (many : Nat)] σ = some (.tuple [.int .i64 a, .bool (runL ps many).isSome], σ') ∧ Ext σ σ' := by
  obtain ⟨k, rfl⟩ : ∃ m, k = m + 1 := ⟨k - 1, by omega⟩
  obtain ⟨σ', h1, h2⟩ := run_exec (k := k) (many := many) (l := ps.map pvOf) h.own (by rw [pi_pvOf]; exact h.pi) (by rw [List.length_map]; omega) hm (by omega)
  rw [pgs_pvOf] at h1
  exact ⟨_, σ', h1, h2⟩
set_option maxHeartbeats 1000000 in
theorem greatest_exec {low sp pr wr : Nat} {its : List MItem} {ps : List Pg} {ws : List Int} (h : HeapM low σ sp pr none wr none its ps ws) (hsh : Shape ps) (hl : ps.length ≤ 40) (hk : 4000 ≤ k) : ∃ σ', callN lawProg (k + 1) (.func 48 [] []) [.ptr sp 0] σ = some (.int .i64 (greatL ps), σ') ∧ Ext σ σ' := by
  have run : ∃ T1 σ', execC lawProg (callN lawProg k) k 48 34 (bodyOf Try.f48) (initT 0 [.ptr sp 0] .nil) σ = some (.ret, T1, σ') ∧ T1.get 2 = some (.int .i64 (greatL ps)) ∧ Ext σ σ' := by
    simp only [bodyOf, Try.f48, Option.getD_some, initT, dx, reduceIte, Nat.reduceLT, Nat.reduceLeDiff, Nat.reduceEqDiff, Nat.reduceAdd, Nat.reduceMul, Nat.reduceSub, Nat.reduceBEq, Int.reduceEq, Int.reduceLT, Int.reduceLE, Int.reduceToNat, reduceCtorEq, sx, fx48]
    generalize hL : execC _ _ _ _ _ (Code.loop _) _ _ = q
    obtain ⟨e, T', σ', rfl, _, hc⟩ : ∃ e T' σ', q = some (e, T', σ') ∧ e ≠ .normal ∧ ((e = .ret ∧ Ext σ σ' ∧ ∃ m, grRun ps 40 = some m ∧ T'.get 2 = some (.int .i64 ((64 * m : Nat) : Int))) ∨ (e = .exit 0 ∧ Ext σ σ' ∧ grRun ps 40 = none ∧ T'.get 0 = some (.ptr sp 0))) := by
      rw [← hL]
      refine exec_loop2 (fun i T σ' => i ≤ 40 ∧ Ext σ σ' ∧ T.get 0 = some (.ptr sp 0) ∧ T.get 3 = some (.int .i64 ((40 - i : Nat) : Int)) ∧ grRun ps 40 = grRun ps (40 - i)) 40 (by omega) ?_ ?_ ?_
      · rintro i hi T σ0 ⟨_, ex, t0, t3, hgr⟩
        obtain ⟨m, hm⟩ : ∃ m, 40 - i = m + 1 := ⟨40 - i - 1, by omega⟩
        rw [hm] at t3 hgr
        have hm2 : 40 - (i + 1) = m := by omega
        have hgt : (((m + 1 : Nat) : Int) > 0) := by omega
        obtain ⟨a, σ1, hrun, ex1⟩ := run_h (k := k) (many := m + 1) (h.ext ex) hl (by omega) (by omega)
        have w1 : IntKind.i64.wrap (((m + 1 : Nat) : Int) - 1) = ((m : Nat) : Int) := by rw [i64_id (by omega) (by omega)]; omega
        have w2 : IntKind.i64.wrap (((m + 1 : Nat) : Int) * 64) = ((64 * (m + 1) : Nat) : Int) := by rw [i64_id (by omega) (by omega)]; omega
        rw [show grRun ps (m + 1) = if (runL ps (m + 1)).isSome then some (m + 1) else grRun ps m from rfl] at hgr
        cases hr : (runL ps (m + 1)).isSome with
        | true =>
          rw [hr] at hrun hgr
          simp only [if_true] at hgr
          refine .inr ⟨_, _, _, by
            simp only [dx, reduceIte, Nat.reduceLT, Nat.reduceLeDiff, Nat.reduceEqDiff, Nat.reduceAdd, Nat.reduceMul, Nat.reduceSub, Nat.reduceBEq, Int.reduceEq, Int.reduceLT, Int.reduceLE, Int.reduceToNat, reduceCtorEq, sx, fx48, t0, t3, hgt, hrun, w2]
            rfl, by simp, .inl ⟨rfl, ex.trans ex1, m + 1, hgr, ?_⟩⟩
          simp only [Tr.get_set, Nat.reduceEqDiff, reduceIte]
        | false =>
          rw [hr] at hrun hgr
          simp only [Bool.false_eq_true, if_false] at hgr
          refine .inl ⟨_, _, by
            simp only [dx, reduceIte, Nat.reduceLT, Nat.reduceLeDiff, Nat.reduceEqDiff, Nat.reduceAdd, Nat.reduceMul, Nat.reduceSub, Nat.reduceBEq, Int.reduceEq, Int.reduceLT, Int.reduceLE, Int.reduceToNat, reduceCtorEq, sx, fx48, t0, t3, hgt, hrun, w1]
            rfl, by omega, ex.trans ex1, ?_, ?_, by rw [hm2]; exact hgr⟩
          · simp only [Tr.get_set, Nat.reduceEqDiff, reduceIte, t0]
          · simp only [Tr.get_set, Nat.reduceEqDiff, reduceIte, hm2]
      · rintro T σ0 ⟨_, ex, t0, t3, hgr⟩
        have hge : ¬ (((40 - 40 : Nat) : Int) > 0) := by omega
        refine ⟨_, _, _, by
          simp only [dx, reduceIte, Nat.reduceLT, Nat.reduceLeDiff, Nat.reduceEqDiff, Nat.reduceAdd, Nat.reduceMul, Nat.reduceSub, Nat.reduceBEq, Int.reduceEq, Int.reduceLT, Int.reduceLE, Int.reduceToNat, reduceCtorEq, sx, fx48, t3, hge]
          rfl, by simp, .inr ⟨rfl, ex, hgr, ?_⟩⟩
        simp only [Tr.get_set, Nat.reduceEqDiff, reduceIte, t0]
      · refine ⟨by omega, Ext.refl _, ?_, ?_, rfl⟩
        all_goals simp only [Tr.get_set, Nat.reduceEqDiff, reduceIte] <;> rfl
    rcases hc with ⟨rfl, ex, m, hgr, t2⟩ | ⟨rfl, ex, hgr, t0⟩
    · simp only [dx, reduceIte, Nat.reduceLT, Nat.reduceLeDiff, Nat.reduceEqDiff, Nat.reduceAdd, Nat.reduceMul, Nat.reduceSub, Nat.reduceBEq, Int.reduceEq, Int.reduceLT, Int.reduceLE, Int.reduceToNat, reduceCtorEq, sx, fx48]
      exact ⟨_, _, rfl, by unfold greatL; rw [hgr]; exact t2, ex⟩
    · have hgl : greatL ps = grSmall ps := by unfold greatL; rw [hgr]
      rw [hgl]
      simp only [dx, reduceIte, Nat.reduceLT, Nat.reduceLeDiff, Nat.reduceEqDiff, Nat.reduceAdd, Nat.reduceMul, Nat.reduceSub, Nat.reduceBEq, Int.reduceEq, Int.reduceLT, Int.reduceLE, Int.reduceToNat, reduceCtorEq, sx, fx48]
      generalize hL : execC _ _ _ _ _ (Code.loop _) _ _ = q
      -- sizes 32, 16, 8, 4, 2
      obtain ⟨e, T5, σ5, rfl, _, hc⟩ : ∃ e T' σ5, q = some (e, T', σ5) ∧ e ≠ .normal ∧ ((e = .ret ∧ Ext σ σ5 ∧ T'.get 2 = some (.int .i64 (grSmall ps))) ∨ (e = .exit 2 ∧ Ext σ σ5 ∧ grSmall ps = 0)) := by
        rw [← hL]
        have szv : ∀ i, i < 5 → ∃ s : Int, [32, 16, 8, 4, 2, 1][i]? = some s ∧ s ≥ 2 ∧ s ≤ 32 ∧ [32, 16, 8, 4, 2, 1][i + 1]? = some (s.tdiv 2) ∧ IntKind.i64.wrap (s.tdiv 2) = s.tdiv 2 := by
          intro i hi
          match i, hi with
          | 0, _ => exact ⟨32, rfl, by omega, by omega, rfl, by decide⟩
          | 1, _ => exact ⟨16, rfl, by omega, by omega, rfl, by decide⟩
          | 2, _ => exact ⟨8, rfl, by omega, by omega, rfl, by decide⟩
          | 3, _ => exact ⟨4, rfl, by omega, by omega, rfl, by decide⟩
          | 4, _ => exact ⟨2, rfl, by omega, by omega, rfl, by decide⟩
        refine exec_loop2 (fun i T σ' => i ≤ 5 ∧ Ext σ σ' ∧ T.get 0 = some (.ptr sp 0) ∧ (∃ s : Int, [32, 16, 8, 4, 2, 1][i]? = some s ∧ T.get 6 = some (.int .i64 s)) ∧ ∀ j s, j < i → [32, 16, 8, 4, 2, 1][j]? = some s → (placeL ps s).isSome = false) 5 (by omega) ?_ ?_ ?_
        · rintro i hi T σ0 ⟨_, ex, t0, ⟨s, hs, t6⟩, hall⟩
          obtain ⟨s', hs', h2, h32, hnx, hw⟩ := szv i hi
          rw [hs] at hs'
          cases hs'
          obtain ⟨σ1, hsm, ex1⟩ := psmall_exec (k := k - 3) (size := s) (h.ext ex).own h.pi h.ox hsh (by omega) (by omega)
          rw [show k - 3 + 3 = k by omega] at hsm
          unfold blkC at hsm
          obtain ⟨b0, hb0⟩ : ∃ b, b = (placeB ps s).1 := ⟨_, rfl⟩
          rw [← hb0] at hsm
          have hpb : (placeB ps s).2 = (placeL ps s).isSome := by unfold placeB; split <;> simp [*]
          rw [hpb] at hsm
          have h2z : ¬ (2 : Int) = 0 := by omega
          cases hp : (placeL ps s).isSome with
          | true =>
            rw [hp] at hsm
            refine .inr ⟨_, _, _, by
              simp only [dx, reduceIte, Nat.reduceLT, Nat.reduceLeDiff, Nat.reduceEqDiff, Nat.reduceAdd, Nat.reduceMul, Nat.reduceSub, Nat.reduceBEq, Int.reduceEq, Int.reduceLT, Int.reduceLE, Int.reduceToNat, reduceCtorEq, sx, fx48, t0, t6, h2, hsm]
              rfl, by simp, .inl ⟨rfl, ((ex.trans ex1).trans (Ext.push _ _)).put _ _ (by have := ex.1; have := ex1.1; omega), ?_⟩⟩
            simp only [Tr.get_set, Nat.reduceEqDiff, reduceIte]
            have key : grSmall ps = s := by
              unfold grSmall
              have f := fun j s hj hs => hall j s hj hs
              match i, hi with
              | 0, _ => cases hs; rw [if_pos hp]
              | 1, _ => cases hs; rw [if_neg (by rw [f 0 32 (by omega) rfl]; simp), if_pos hp]
              | 2, _ => cases hs; rw [if_neg (by rw [f 0 32 (by omega) rfl]; simp), if_neg (by rw [f 1 16 (by omega) rfl]; simp), if_pos hp]
              | 3, _ => cases hs; rw [if_neg (by rw [f 0 32 (by omega) rfl]; simp), if_neg (by rw [f 1 16 (by omega) rfl]; simp), if_neg (by rw [f 2 8 (by omega) rfl]; simp), if_pos hp]
              | 4, _ => cases hs; rw [if_neg (by rw [f 0 32 (by omega) rfl]; simp), if_neg (by rw [f 1 16 (by omega) rfl]; simp), if_neg (by rw [f 2 8 (by omega) rfl]; simp), if_neg (by rw [f 3 4 (by omega) rfl]; simp), if_pos hp]
            rw [key]
          | false =>
            rw [hp] at hsm
            refine .inl ⟨_, _, by
              simp only [dx, reduceIte, Nat.reduceLT, Nat.reduceLeDiff, Nat.reduceEqDiff, Nat.reduceAdd, Nat.reduceMul, Nat.reduceSub, Nat.reduceBEq, Int.reduceEq, Int.reduceLT, Int.reduceLE, Int.reduceToNat, reduceCtorEq, sx, fx48, t0, t6, h2, hsm, h2z, hw]
              rfl, by omega, ((ex.trans ex1).trans (Ext.push _ _)).put _ _ (by have := ex.1; have := ex1.1; omega), ?_, ⟨_, hnx, ?_⟩, fun j s2 hj hs2 => ?_⟩
            · simp only [Tr.get_set, Nat.reduceEqDiff, reduceIte, t0]
            · simp only [Tr.get_set, Nat.reduceEqDiff, reduceIte]
            · by_cases e : j = i
              · subst e
                rw [hs] at hs2
                cases hs2
                exact hp
              · exact hall j s2 (by omega) hs2
        · rintro T σ0 ⟨_, ex, t0, ⟨s, hs, t6⟩, hall⟩
          cases hs
          have hge : ¬ ((1 : Int) ≥ 2) := by omega
          refine ⟨_, _, _, by
            simp only [dx, reduceIte, Nat.reduceLT, Nat.reduceLeDiff, Nat.reduceEqDiff, Nat.reduceAdd, Nat.reduceMul, Nat.reduceSub, Nat.reduceBEq, Int.reduceEq, Int.reduceLT, Int.reduceLE, Int.reduceToNat, reduceCtorEq, sx, fx48, t6, hge]
            rfl, by simp, .inr ⟨rfl, ex, ?_⟩⟩
          unfold grSmall
          rw [if_neg (by rw [hall 0 32 (by omega) rfl]; simp), if_neg (by rw [hall 1 16 (by omega) rfl]; simp), if_neg (by rw [hall 2 8 (by omega) rfl]; simp), if_neg (by rw [hall 3 4 (by omega) rfl]; simp), if_neg (by rw [hall 4 2 (by omega) rfl]; simp)]
        · refine ⟨by omega, ex, ?_, ⟨32, rfl, ?_⟩, fun j s hj => by omega⟩
          · simp only [Tr.get_set, Nat.reduceEqDiff, reduceIte, t0]
          · simp only [Tr.get_set, Nat.reduceEqDiff, reduceIte]
      rcases hc with ⟨rfl, ex5, t2⟩ | ⟨rfl, ex5, h0⟩
      · simp only [dx, reduceIte, Nat.reduceLT, Nat.reduceLeDiff, Nat.reduceEqDiff, Nat.reduceAdd, Nat.reduceMul, Nat.reduceSub, Nat.reduceBEq, Int.reduceEq, Int.reduceLT, Int.reduceLE, Int.reduceToNat, reduceCtorEq, sx, fx48]
        exact ⟨_, _, rfl, t2, ex5⟩
      · simp only [dx, reduceIte, Nat.reduceLT, Nat.reduceLeDiff, Nat.reduceEqDiff, Nat.reduceAdd, Nat.reduceMul, Nat.reduceSub, Nat.reduceBEq, Int.reduceEq, Int.reduceLT, Int.reduceLE, Int.reduceToNat, reduceCtorEq, sx, fx48]
        exact ⟨_, _, rfl, by rw [h0]; simp only [Tr.get_set, Nat.reduceEqDiff, reduceIte], ex5⟩
  obtain ⟨T1, σ', h1, h2, h3⟩ := run
  exact ⟨σ', q_call (first := []) (caps := []) fn48 rfl (by simp [Try.f48]) h1 (by simp) (res_one h2), h3⟩
/-- How many words some blocks have. -/
def sumB (l : List Blk) : Int := (l.map Blk.size).sum
theorem sumB_snoc (l : List Blk) (b : Blk) : sumB (l ++ [b]) = sumB l + b.size := by simp [sumB]
theorem sumB_bound {l : List Blk} (h : ∀ b, b ∈ l → 0 ≤ b.size ∧ b.size ≤ 2560) : 0 ≤ sumB l ∧ sumB l ≤ 2560 * (l.length : Int) := by
  induction l with
  | nil => simp [sumB]
  | cons b l ih =>
    have h1 := ih fun c hc => h c (by simp [hc])
    have h2 := h b (by simp)
    have : sumB (b :: l) = b.size + sumB l := by simp [sumB]
    rw [this, List.length_cons]
    omega
noncomputable def loopSp (T0 : Tr AVal) : ALoop := rfLoop Try.f17 17 T0
def SpI (q L : Nat) (lp : ALoop) : Option (List Blk) → List Nat → AMem → Prop := fun x O σ => match x with
  | some d => O = [q, L] ∧ q < L ∧ L < σ.next ∧ σ.get q = some (.row 1 false [.int .i64 (sumB d)]) ∧ σ.get L = some (.loop lp)
  | none => False
theorem sp_client {T0 : Tr AVal} {q L : Nat} {bs : List Blk} (hT2 : T0.get 2 = some (.ptr q 0)) (hn : bs.length ≤ 10000) (hb : ∀ b, b ∈ bs → 0 ≤ b.size ∧ b.size ≤ 2560) : Client 1 L bs (SpI q L (loopSp T0)) := by
  refine ⟨?_, ?_, ?_⟩
  · intro x O σ σ' hi hn hs
    cases x with
    | none => exact hi
    | some d =>
      obtain ⟨rfl, h1, h2, h3, h4⟩ := hi
      exact ⟨rfl, h1, by omega, by rw [hs q (by simp)]; exact h3, by rw [hs L (by simp)]; exact h4⟩
  · intro x O σ hi r hr
    cases x with
    | none => exact hi.elim
    | some d =>
      obtain ⟨rfl, h1, h2, h3, h4⟩ := hi
      simp only [List.mem_cons, List.not_mem_nil, or_false] at hr
      omega
  · rintro k d b rest O σ hbs hk ⟨rfl, hqL, hLn, mq, ml⟩
    obtain ⟨k, rfl⟩ : ∃ m, k = m + 1 := ⟨k - 1, by omega⟩
    obtain ⟨c, hc⟩ : ∃ c, c = σ.next := ⟨_, rfl⟩
    obtain ⟨B, hB⟩ : ∃ B, B = busyOf (loopSp T0) := ⟨_, rfl⟩
    obtain ⟨σ1, hσ1⟩ : ∃ s, s = (σ.push (.row 4 true blk0)).put σ.next (.row 4 true (blkC b)) := ⟨_, rfl⟩
    have ex1 : Ext σ σ1 := by rw [hσ1]; exact (Ext.push _ _).put _ _ (by omega)
    have gd : σ1.get c = some (.row 4 true (blkC b)) := by rw [hσ1, hc, AMem.get_put, if_pos rfl]
    have n1 : σ1.next = c + 1 := by rw [hσ1, hc]; simp
    have ha : ∃ T1, execC lawProg (callN lawProg k) k 17 25 (loopSp T0).assign (setParams T0 (loopSp T0).params [.agg (blkC b)]) σ = some (.normal, T1, σ1) ∧ T1.get 2 = some (.ptr q 0) ∧ T1.get 6 = some (.ptr c 0) := by
      rw [hσ1, hc]
      simp only [loopSp, rfLoop, bodyOf, Try.f17, Option.getD_some, rfOf]
      simp only [dx, reduceIte, Nat.reduceLT, Nat.reduceLeDiff, Nat.reduceEqDiff, Nat.reduceAdd, Nat.reduceMul, Nat.reduceSub, Nat.reduceBEq, Int.reduceEq, Int.reduceLT, Int.reduceLE, Int.reduceToNat, reduceCtorEq, sx, fx17, blkC, blk0]
      exact ⟨_, rfl, by simp only [Tr.get_set, Nat.reduceEqDiff, reduceIte, hT2], by simp only [Tr.get_set, Nat.reduceEqDiff, reduceIte]⟩
    obtain ⟨T1, ha, u2, u6⟩ := ha
    obtain ⟨σb, hσb⟩ : ∃ s, s = σ1.put L (.loop B) := ⟨_, rfl⟩
    have gb : ∀ r, r < c → r ≠ L → σb.get r = σ.get r := fun r hr hne => by rw [hσb, AMem.get_put, if_neg (fun h => hne h.symm)]; exact ex1.2 r (by omega)
    have gbc : σb.get c = some (.row 4 true (blkC b)) := by rw [hσb, AMem.get_put, if_neg (by omega)]; exact gd
    have nb : σb.next = c + 1 := by rw [hσb]; simpa using n1
    have be : σb.get L = some (.loop B) := by rw [hσb, AMem.get_put, if_pos rfl]
    have bq : σb.get q = some (.row 1 false [.int .i64 (sumB d)]) := by rw [gb q (by omega) (by omega)]; exact mq
    have hdl : d.length ≤ 10000 := by
      have := congrArg List.length hbs
      simp only [List.length_append, List.length_cons] at this
      omega
    have hsd := sumB_bound (l := d) fun x hx => hb x (by rw [hbs]; simp [hx])
    have hsb := hb b (by rw [hbs]; simp)
    have w1 : IntKind.i64.wrap (sumB d + b.size) = sumB (d ++ [b]) := by rw [sumB_snoc]; exact i64_id (by omega) (by omega)
    obtain ⟨σ3, hσ3⟩ : ∃ s, s = σb.put q (.row 1 false [.int .i64 (sumB (d ++ [b]))]) := ⟨_, rfl⟩
    have hz1 : loopSp T0 = { B with state := .ready, pending := none } := by rw [hB]; rfl
    have hb2 : ∃ T2, execC lawProg (callN lawProg k) k 17 25 (loopSp T0).body T1 σb = some (.normal, T2, σ3) := by
      rw [hσ3]
      unfold blkC at gbc
      simp only [loopSp, rfLoop, bodyOf, Try.f17, Option.getD_some, rfOf]
      simp only [dx, reduceIte, Nat.reduceLT, Nat.reduceLeDiff, Nat.reduceEqDiff, Nat.reduceAdd, Nat.reduceMul, Nat.reduceSub, Nat.reduceBEq, Int.reduceEq, Int.reduceLT, Int.reduceLE, Int.reduceToNat, reduceCtorEq, sx, fx17, u2, u6, gbc, bq, w1]
      exact ⟨_, rfl⟩
    obtain ⟨T2, hb2⟩ := hb2
    have g3L : σ3.get L = some (.loop B) := by rw [hσ3, AMem.get_put, if_neg (by omega)]; exact be
    have key := round_body (A := lawProg) (call := callN lawProg k) (k := k) (σ := σ) (l := L) (r := loopSp T0) (T1 := T1) (T2 := T2) (σ1 := σ1) ml rfl rfl rfl ha (by rw [ex1.2 L (by omega)]; exact ml) (by rw [← hB, ← hσb]; exact hb2) (r2 := B) g3L
    rw [← hz1] at key
    have n3 : σ3.next = c + 1 := by rw [hσ3]; simpa using nb
    refine ⟨true, [q, L], _, by simp only [callN]; exact key, ?_, ⟨?_, fun r hr hn => ?_, fun r hr => .inl hr⟩⟩
    · simp only [if_true]
      refine ⟨rfl, hqL, ?_, ?_, ?_⟩
      · simp only [AMem.next_put]; omega
      · rw [AMem.get_put, if_neg (by omega), hσ3, AMem.get_put, if_pos rfl]
      · rw [AMem.get_put, if_pos rfl]
    · simp only [AMem.next_put]; omega
    · simp only [List.mem_cons, List.not_mem_nil, or_false, not_or] at hn
      rw [AMem.get_put, if_neg (by omega), hσ3, AMem.get_put, if_neg (by omega), gb r (by omega) hn.2]
theorem blk_sizes {ps : List Pg} (hsh : Shape ps) (hl : ps.length ≤ 40) : ∀ b, b ∈ blocksL ps → 0 ≤ b.size ∧ b.size ≤ 2560 := fun b hb => by
  obtain ⟨_, _, h1, _, h2, h3⟩ := blk_page hsh hb
  omega
noncomputable def spaceH (ps : List Pg) (ws : List Int) : Int × Int × Int := if rightB ps ws then (sumB (blocksL ps), greatL ps, 0) else (0, 0, 4)
set_option maxHeartbeats 1000000 in
theorem Space_call {v : AVal} {ps : List Pg} {ws : List Int} (hv : VH v ps ws) (hb : Bd ps ws) (hk : 9001 ≤ k) : pureCall lawProg (callN lawProg k) (.func 17 [] []) [v] σ = some (.tuple [.int .i64 (spaceH ps ws).1, .int .i64 (spaceH ps ws).2.1, .int .i64 (spaceH ps ws).2.2], σ) := by
  obtain ⟨k, rfl⟩ : ∃ m, k = m + 1 := ⟨k - 1, by omega⟩
  have hsn := hv.snap σ 10
  obtain ⟨X, Y, rfl, hX, hY⟩ := hv.cells
  obtain ⟨σ0, hσ0⟩ : ∃ s, s = (AMem.empty.push (.row 2 true [X, Y])).push (.row 1 false [.int .i64 0]) := ⟨_, rfl⟩
  have n0 : σ0.next = 2 := by rw [hσ0]; simp [next_empty]
  have g0 : σ0.get 0 = some (.row 2 true [X, Y]) := by rw [hσ0]; simp [AMem.get_push, next_empty]
  have g1 : σ0.get 1 = some (.row 1 false [.int .i64 0]) := by rw [hσ0]; simp [AMem.get_push, next_empty]
  have fin : ∀ (T1 : Tr AVal) (σ' : AMem) (x y z : Int), execC lawProg (callN lawProg k) k 17 25 (bodyOf Try.f17) (initT 0 [.agg [X, Y]] .nil) AMem.empty = some (.ret, T1, σ') → T1.get 2 = some (.ptr 1 0) → T1.get 3 = some (.int .i64 y) → T1.get 4 = some (.int .i64 z) → σ'.get 1 = some (.row 1 false [.int .i64 x]) → pureCall lawProg (callN lawProg (k + 1)) (.func 17 [] []) [.agg [X, Y]] σ = some (.tuple [.int .i64 x, .int .i64 y, .int .i64 z], σ) := by
    intro T1 σ' x y z r1 r2 r3 r4 r5
    refine pureCall_of (args' := [.agg [X, Y]]) (seen := [] ++ []) ?_ (memo17 _) (pureRun_of (vs := [.int .i64 x, .int .i64 y, .int .i64 z]) fn17 rfl (by simp [Try.f17]) r1 (by simp) ?_ rfl)
    · simp only [snapL, snapDepth, hsn]
    · simp only [Try.f17, resultsA, resultA, dx, reduceIte, Nat.reduceLT, Nat.reduceLeDiff, Nat.reduceEqDiff, Nat.reduceAdd, Nat.reduceMul, Nat.reduceSub, Nat.reduceBEq, Int.reduceEq, Int.reduceLT, Int.reduceLE, Int.reduceToNat, reduceCtorEq, sx, fx17, r2, r3, r4, r5]
  rcases open_vh (k := k - 1) hv hb (by omega) σ0 with ⟨hr, σ2, ho, ex2⟩ | ⟨hr, hright, σ2, sp, pr, wr, its, ho, ex2, hM⟩
  · rw [show k - 1 + 1 = k by omega] at ho
    have hres : spaceH ps ws = (0, 0, 4) := by unfold spaceH; rw [hr]; rfl
    rw [hres]
    have g12 : σ2.get 1 = some (.row 1 false [.int .i64 0]) := by rw [ex2.2 1 (by omega)]; exact g1
    have run : ∃ T1, execC lawProg (callN lawProg k) k 17 25 (bodyOf Try.f17) (initT 0 [.agg [X, Y]] .nil) AMem.empty = some (.ret, T1, σ2.put 1 (.row 1 false [.int .i64 0])) ∧ T1.get 2 = some (.ptr 1 0) ∧ T1.get 3 = some (.int .i64 0) ∧ T1.get 4 = some (.int .i64 4) := by
      simp only [bodyOf, Try.f17, Option.getD_some, initT, dx, reduceIte, Nat.reduceLT, Nat.reduceLeDiff, Nat.reduceEqDiff, Nat.reduceAdd, Nat.reduceMul, Nat.reduceSub, Nat.reduceBEq, Int.reduceEq, Int.reduceLT, Int.reduceLE, Int.reduceToNat, reduceCtorEq, sx, fx17, hX, hY, ← hσ0]
      simp only [dx, reduceIte, Nat.reduceLT, Nat.reduceLeDiff, Nat.reduceEqDiff, Nat.reduceAdd, Nat.reduceMul, Nat.reduceSub, Nat.reduceBEq, Int.reduceEq, Int.reduceLT, Int.reduceLE, Int.reduceToNat, reduceCtorEq, sx, fx17, g0, ho, g12, show ((4 : Int) != 0) = true from rfl]
      exact ⟨_, rfl, by simp only [Tr.get_set, Nat.reduceEqDiff, reduceIte], by simp only [Tr.get_set, Nat.reduceEqDiff, reduceIte], by simp only [Tr.get_set, Nat.reduceEqDiff, reduceIte]⟩
    obtain ⟨T1, r1, r2, r3, r4⟩ := run
    exact fin T1 _ 0 0 4 r1 r2 r3 r4 (by rw [AMem.get_put, if_pos rfl])
  · rw [show k - 1 + 1 = k by omega] at ho
    have hres : spaceH ps ws = (sumB (blocksL ps), greatL ps, 0) := by unfold spaceH; rw [hr]; rfl
    rw [hres]
    have hmany := hright.many
    obtain ⟨x1, x2, x3⟩ := hM.own.nx
    obtain ⟨l1, l2, l3⟩ := hM.own.lo
    have hx2 := ex2.1
    have g12 : σ2.get 1 = some (.row 1 false [.int .i64 0]) := by rw [ex2.2 1 (by omega)]; exact g1
    have run : ∃ T1 σ', execC lawProg (callN lawProg k) k 17 25 (bodyOf Try.f17) (initT 0 [.agg [X, Y]] .nil) AMem.empty = some (.ret, T1, σ') ∧ T1.get 2 = some (.ptr 1 0) ∧ T1.get 3 = some (.int .i64 (greatL ps)) ∧ T1.get 4 = some (.int .i64 0) ∧ σ'.get 1 = some (.row 1 false [.int .i64 (sumB (blocksL ps))]) := by
      simp only [bodyOf, Try.f17, Option.getD_some, initT, dx, reduceIte, Nat.reduceLT, Nat.reduceLeDiff, Nat.reduceEqDiff, Nat.reduceAdd, Nat.reduceMul, Nat.reduceSub, Nat.reduceBEq, Int.reduceEq, Int.reduceLT, Int.reduceLE, Int.reduceToNat, reduceCtorEq, sx, fx17, hX, hY, ← hσ0]
      simp only [dx, reduceIte, Nat.reduceLT, Nat.reduceLeDiff, Nat.reduceEqDiff, Nat.reduceAdd, Nat.reduceMul, Nat.reduceSub, Nat.reduceBEq, Int.reduceEq, Int.reduceLT, Int.reduceLE, Int.reduceToNat, reduceCtorEq, sx, fx17, g0, ho, show ((0 : Int) != 0) = false from rfl]
      generalize hR : execC _ _ _ _ _ (Code.rangeFunc _ _ _ _) _ _ = r
      have hrng : ∀ (T0 : Tr AVal) (X' : Out), T0.get 2 = some (.ptr 1 0) → T0.get 16 = some (.func 47 [.ptr sp 0] []) → execC lawProg (callN lawProg k) k 17 25 (.rangeFunc (.tmp 16) #[17] (loopSp T0).assign (loopSp T0).body) T0 σ2 = X' → ∃ σ', X' = some (.normal, T0, σ') ∧ σ'.get 1 = some (.row 1 false [.int .i64 (sumB (blocksL ps))]) ∧ HeapM σ0.next σ' sp pr none wr none its ps ws := by
        intro T0 X' t2 t16 hX'
        rw [← hX']
        have hp : ∀ r, r < σ2.next → (σ2.push (.loop (loopSp T0))).get r = σ2.get r := fun r hr => by rw [AMem.get_push, if_neg (by omega)]
        have hmem : ∀ r, 2 ≤ r → r < σ2.next → r ∉ [1, σ2.next] := fun r h1 h2 hm => by
          simp only [List.mem_cons, List.not_mem_nil, or_false] at hm
          omega
        obtain ⟨O', σ', e1, ⟨rfl, h1, h2, h3, h4⟩, hF⟩ := range_all (σ := σ2) (k := k) (f := 17) (N := 25) (T0 := T0) (p := 17) (g := 16) (lp := loopSp T0) (O := [1, σ2.next]) (k0 := 1) (a := (loopSp T0).assign) (b := (loopSp T0).body) rfl (sp_client t2 (by have := blocks_count hright.shape hmany.2; omega) (blk_sizes hright.shape hmany.2)) (fun _ _ h => h) (fun d O σ' ⟨_, _, _, _, h⟩ => h) hM hright.shape hmany.2 (by omega) (by omega) ⟨hmem sp (by omega) x1, hmem pr (by omega) x2, hmem wr (by omega) x3, fun r hr => hmem r (by have := (hM.own.it.bound r hr).1; omega) (hM.own.it.bound r hr).2⟩ ⟨rfl, by omega, by simp, by rw [hp 1 (by omega)]; exact g12, by rw [AMem.get_push, if_pos rfl]⟩ t16
        refine ⟨_, e1, by rw [AMem.get_put, if_neg (by omega)]; exact h3, ?_⟩
        have hFn := hF.nx
        simp only [AMem.next_push] at hFn
        have hsame : ∀ r, 2 ≤ r → r < σ2.next → (σ'.put σ2.next (.loop { loopSp T0 with state := .exhausted })).get r = σ2.get r := fun r h1 h2 => by
          rw [AMem.get_put, if_neg (by omega), hF.get r (by simp only [AMem.next_push]; omega) (hmem r h1 h2), hp r h2]
        refine ⟨⟨by rw [hsame sp (by omega) x1]; exact hM.own.ms, by rw [hsame pr (by omega) x2]; exact hM.own.mp, by rw [hsame wr (by omega) x3]; exact hM.own.mw, hM.own.it.same (Nat.le_refl _) (by simp only [AMem.next_put]; omega) (fun r hr => hsame r (by have := (hM.own.it.bound r hr).1; omega) (hM.own.it.bound r hr).2) hM.own.it.2.2, hM.own.ns, hM.own.nw, hM.own.ne, hM.own.lo, ⟨by simp only [AMem.next_put]; omega, by simp only [AMem.next_put]; omega, by simp only [AMem.next_put]; omega⟩⟩, hM.pi, hM.ox⟩
      obtain ⟨σ', rfl, z1, z2⟩ := hrng _ _ (by simp only [Tr.get_set, Nat.reduceEqDiff, reduceIte]) (by simp only [Tr.get_set, Nat.reduceEqDiff, reduceIte]) hR
      obtain ⟨σ3, hgr, ex3⟩ := greatest_exec (k := k - 1) z2 hright.shape hmany.2 (by omega)
      rw [show k - 1 + 1 = k by omega] at hgr
      have hn1 : 1 < σ'.next := by have := z2.own.nx; omega
      have z13 : σ3.get 1 = some (.row 1 false [.int .i64 (sumB (blocksL ps))]) := by rw [ex3.2 1 hn1]; exact z1
      simp only [dx, reduceIte, Nat.reduceLT, Nat.reduceLeDiff, Nat.reduceEqDiff, Nat.reduceAdd, Nat.reduceMul, Nat.reduceSub, Nat.reduceBEq, Int.reduceEq, Int.reduceLT, Int.reduceLE, Int.reduceToNat, reduceCtorEq, sx, fx17, z1, hgr, z13]
      exact ⟨_, _, rfl, by simp only [Tr.get_set, Nat.reduceEqDiff, reduceIte], by simp only [Tr.get_set, Nat.reduceEqDiff, reduceIte], by simp only [Tr.get_set, Nat.reduceEqDiff, reduceIte], by rw [AMem.get_put, if_pos rfl]⟩
    obtain ⟨T1, σ', r1, r2, r3, r4, r5⟩ := run
    exact fin T1 _ _ _ 0 r1 r2 r3 r4 r5
end Go.Proofs.Ytjkfdiglokkceaa

/- Heaps: how many words the blocks have, when one is handed out or given back. No program in sight. -/
set_option maxRecDepth 100000
set_option linter.unusedSimpArgs false
set_option linter.unusedVariables false
namespace Go.Proofs.Ytjkfdiglokkceaa
open Go Go.Proofs.Ytjkfdiglokkceaa.Pale

theorem smallTo_slot {i : Nat} {p : Pg} : ∀ {m : Nat} {c : Blk}, c ∈ smallTo i p m → c.slot < m := by
  intro m
  induction m with
  | zero => intro c h; simp [smallTo] at h
  | succ m ih =>
    intro c h
    rw [smallTo_succ, List.mem_append] at h
    rcases h with h | h
    · have := ih h; omega
    · split at h
      · simp only [List.mem_singleton] at h
        rw [h]
        show m < m + 1
        omega
      · cases h
theorem small_nodup (i : Nat) (p : Pg) : ∀ m, (smallTo i p m).Nodup := by
  intro m
  induction m with
  | zero => simp [smallTo]
  | succ m ih =>
    rw [smallTo_succ, List.nodup_append]
    refine ⟨ih, ?_, ?_⟩
    · split <;> simp
    · intro a ha b hb e
      subst e
      have h1 := smallTo_slot ha
      split at hb
      · simp only [List.mem_singleton] at hb
        rw [hb] at h1
        have : (slotB i p m).slot = m := rfl
        omega
      · cases hb
theorem blocksTo_page {ps : List Pg} : ∀ {n : Nat} {c : Blk}, c ∈ blocksTo ps n → c.page < n := by
  intro n
  induction n with
  | zero => intro c h; simp [blocksTo] at h
  | succ n ih =>
    intro c h
    rw [blocksTo_succ, List.mem_append] at h
    rcases h with h | h
    · have := ih h; omega
    · rw [pgB_page h]; omega
theorem blocks_nodup (ps : List Pg) : (blocksL ps).Nodup := by
  have key : ∀ n, (blocksTo ps n).Nodup := by
    intro n
    induction n with
    | zero => simp [blocksTo]
    | succ n ih =>
      rw [blocksTo_succ, List.nodup_append]
      refine ⟨ih, ?_, ?_⟩
      · unfold pgB
        split
        · simp
        · split
          · exact small_nodup _ _ _
          · simp
      · intro a ha b hb e
        subst e
        have h1 := blocksTo_page ha
        rw [pgB_page hb] at h1
        omega
  exact key _
theorem sumB_perm {l m : List Blk} (h : l.Perm m) : sumB l = sumB m := by
  have hc : ∀ (a : Blk) (l : List Blk), sumB (a :: l) = a.size + sumB l := fun a l => by simp [sumB]
  induction h with
  | nil => rfl
  | cons a _ ih => rw [hc, hc, ih]
  | swap a b l => rw [hc, hc, hc, hc]; omega
  | trans _ _ ih1 ih2 => rw [ih1, ih2]
theorem sumB_free {ps : List Pg} {b : Blk} (h : Shape ps) (hb : b ∈ blocksL ps) : sumB (blocksL (freeL ps b)) = sumB (blocksL ps) - b.size := by
  obtain ⟨_, _, h3⟩ := free_blocks h hb
  have hp : (blocksL ps).Perm (b :: blocksL (freeL ps b)) := by
    rw [List.perm_ext_iff_of_nodup (blocks_nodup ps) (List.nodup_cons.2 ⟨fun hm => ((h3 b).1 hm).2 rfl, blocks_nodup _⟩)]
    intro x
    rw [List.mem_cons, h3]
    constructor
    · intro hx
      by_cases e : x = b
      · exact .inl e
      · exact .inr ⟨hx, e⟩
    · rintro (rfl | ⟨hx, _⟩)
      · exact hb
      · exact hx
  have := sumB_perm hp
  have hc : sumB (b :: blocksL (freeL ps b)) = b.size + sumB (blocksL (freeL ps b)) := by simp [sumB]
  rw [this, hc]
  omega
theorem sumB_alloc {ps qs : List Pg} {n : Int} {b : Blk} (h : Shape ps) (hn : 1 ≤ n) (ha : allocL ps n = some (qs, b)) : sumB (blocksL qs) = sumB (blocksL ps) + b.size := by
  obtain ⟨g1, _, g3, _, g5, _⟩ := alloc_right h hn ha
  have := sumB_free g1 g3
  rw [g5] at this
  omega
end Go.Proofs.Ytjkfdiglokkceaa

/- HeapFreed: the run. -/
set_option maxRecDepth 100000
set_option linter.unusedSimpArgs false
set_option linter.unusedVariables false
namespace Go.Proofs.Ytjkfdiglokkceaa
open Go Go.Proofs.Ytjkfdiglokkceaa.Pale
variable {k : Nat} {σ : AMem}

set_option maxHeartbeats 4000000 in
theorem freed_run {v : AVal} {ps : List Pg} {ws : List Int} {z : Int} (hv : VH v ps ws) (hz : 0 ≤ z ∧ z ≤ 255) (hk : 12000 ≤ k) : ∃ σ', callN lawProg (k + 1) (.func 7 [] []) [v, .int .u8 z] AMem.empty = some (.bool true, σ') := by
  obtain ⟨kp, kw, pl, rfl, rfl, hkp, hkw, hgood⟩ := hv
  have hv : VH (.agg [.vs kp (pl.map pv), .vs kw (intV ws)]) (pgsOf pl) ws := ⟨kp, kw, pl, rfl, rfl, hkp, hkw, hgood⟩
  obtain ⟨ps, hps⟩ : ∃ ps, ps = pgsOf pl := ⟨_, rfl⟩
  unfold hpV
  rw [← hps] at hv
  obtain ⟨X0, hX0⟩ : ∃ X, X = AVal.vs kp (pl.map pv) := ⟨_, rfl⟩
  have hX0o : X0.oneCell = true := by rw [hX0]; rfl
  rw [← hX0] at hv ⊢
  obtain ⟨tb, hthin, hbd⟩ := thin_vh (k := k) hv (by omega)
  have haw := fun (σ : AMem) => awake_call (σ := σ) (callN lawProg k)
  have run : ∃ T1 σ', execC lawProg (callN lawProg k) k 7 163 (bodyOf Try.f7) (initT 0 [.agg [X0, .vs kw (intV ws)], .int .u8 z] .nil) AMem.empty = some (.ret, T1, σ') ∧ T1.get 4 = some (.bool true) := by
    cases tb with
    | false =>
      simp only [bodyOf, Try.f7, Option.getD_some, initT, dx, reduceIte, Nat.reduceLT, Nat.reduceLeDiff, Nat.reduceEqDiff, Nat.reduceAdd, Nat.reduceMul, Nat.reduceSub, Nat.reduceBEq, Int.reduceEq, Int.reduceLT, Int.reduceLE, Int.reduceToNat, reduceCtorEq, sx, fx7, hX0o, hthin, haw]
      exact ⟨_, _, rfl, by simp only [Tr.get_set, Nat.reduceEqDiff, reduceIte]⟩
    | true =>
      obtain ⟨hb, _, _⟩ := hbd rfl
      have hri := isRight_vh (k := k) hv hb (by omega)
      cases hrb : rightB ps ws with
      | false =>
        rw [hrb] at hri
        simp only [bodyOf, Try.f7, Option.getD_some, initT, dx, reduceIte, Nat.reduceLT, Nat.reduceLeDiff, Nat.reduceEqDiff, Nat.reduceAdd, Nat.reduceMul, Nat.reduceSub, Nat.reduceBEq, Int.reduceEq, Int.reduceLT, Int.reduceLE, Int.reduceToNat, reduceCtorEq, sx, fx7, hX0o, hthin, hri, haw]
        exact ⟨_, _, rfl, by simp only [Tr.get_set, Nat.reduceEqDiff, reduceIte]⟩
      | true =>
        rw [hrb] at hri
        have hright := rightB_iff.1 hrb
        have hwl := hright.len
        have hmany := hright.many
        obtain ⟨v1, hc1, hv1⟩ := Copy_call (k := k) hv hb (by omega)
        have hbl := fun (σ : AMem) => Blocks_call (k := k) (σ := σ) hv1 hb (by omega)
        rw [hrb] at hbl
        simp only [if_true] at hbl
        obtain ⟨L, hL⟩ : ∃ L, L = blocksL ps := ⟨_, rfl⟩
        have hsp := fun (σ : AMem) => Space_call (k := k) (σ := σ) hv1 hb (by omega)
        have hsh : spaceH ps ws = (sumB L, greatL ps, 0) := by unfold spaceH; rw [hrb, hL]; rfl
        rw [hsh] at hsp
        simp only at hsp
        rw [← hL] at hbl
        by_cases h0 : L.length = 0
        · have hb0 : (((L.length : Nat) : Int) == 0) = true := by rw [h0]; rfl
          obtain ⟨σ0, hσ0⟩ : ∃ s, s = AMem.empty.push (.row 2 true [X0, .vs kw (intV ws)]) := ⟨_, rfl⟩
          simp only [bodyOf, Try.f7, Option.getD_some, initT, dx, reduceIte, Nat.reduceLT, Nat.reduceLeDiff, Nat.reduceEqDiff, Nat.reduceAdd, Nat.reduceMul, Nat.reduceSub, Nat.reduceBEq, Int.reduceEq, Int.reduceLT, Int.reduceLE, Int.reduceToNat, reduceCtorEq, sx, fx7, hX0o, hthin, hri, hc1, hbl, show ((0 : Int) != 0) = false from rfl, prsV_length, hb0, haw]
          exact ⟨_, _, rfl, by simp only [Tr.get_set, Nat.reduceEqDiff, reduceIte]⟩
        · have hb0 : (((L.length : Nat) : Int) == 0) = false := by rw [beq_eq_false_iff_ne]; omega
          have hnz : ¬ ((L.length : Nat) : Int) = 0 := by omega
          have hLl : L.length ≤ 2560 := by rw [hL]; exact blocks_count hright.shape hmany.2
          obtain ⟨zn, rfl⟩ : ∃ m : Nat, z = (m : Nat) := ⟨z.toNat, by omega⟩
          obtain ⟨ix, hix⟩ : ∃ i, i = zn % L.length := ⟨_, rfl⟩
          have hixl : ix < L.length := by rw [hix]; exact Nat.mod_lt _ (by omega)
          have w0 : IntKind.i64.wrap ((zn : Nat) : Int) = ((zn : Nat) : Int) := i64_id (by omega) (by omega)
          have w1 : ((zn : Nat) : Int).tmod ((L.length : Nat) : Int) = ((ix : Nat) : Int) := by rw [hix]; rfl
          have hltx : ((ix : Nat) : Int) < ((L.length : Nat) : Int) := by omega
          have hget := prsV_get hixl
          obtain ⟨b, hbx⟩ : ∃ b, b = L[ix] := ⟨_, rfl⟩
          rw [← hbx] at hget
          have hbm : b ∈ blocksL ps := by rw [← hL, hbx]; exact List.getElem_mem hixl
          obtain ⟨lo, n, hlo, hn, hn1, hln, hpg⟩ := blk_nat hright hbm
          rw [hlo, hn] at hget
          have hfd := findL_of hright.shape hbm
          rw [hlo] at hfd
          obtain ⟨v4, hc4, hv4⟩ := Free_call (k := k) (lo : Nat) hv1 hb (by omega)
          have hfr : freeH ps ws (lo : Nat) = ⟨freeL ps b, clearW ws b, 0, 0⟩ := by unfold freeH; rw [hrb, if_pos rfl, hfd]
          rw [hfr] at hc4 hv4
          simp only at hc4 hv4
          have hq := free_right hright hbm
          have hbq := right_bd hq
          have hsumq := sumB_free hright.shape hbm
          obtain ⟨v5, hc5, hv5⟩ := Copy_call (k := k) hv4 hbq (by omega)
          have hsp2 := fun (σ : AMem) => Space_call (k := k) (σ := σ) hv5 hbq (by omega)
          have hsh2 : spaceH (freeL ps b) (clearW ws b) = (sumB L - (n : Int), greatL (freeL ps b), 0) := by
            unfold spaceH
            rw [rightB_true hq, if_pos rfl, hsumq, hL, hn]
          rw [hsh2] at hsp2
          simp only at hsp2
          obtain ⟨kp4, kw4, l4, rfl, _, _⟩ := hv4
          obtain ⟨X4, hX4⟩ : ∃ X, X = AVal.vs kp4 (l4.map pv) := ⟨_, rfl⟩
          have hX4o : X4.oneCell = true := by rw [hX4]; rfl
          unfold hpV at hc4 hc5
          rw [← hX4] at hc4 hc5
          have hsb := sumB_bound (l := L) (by rw [hL]; exact blk_sizes hright.shape hmany.2)
          have w2 : IntKind.i64.wrap (sumB L - ((n : Nat) : Int)) = sumB L - ((n : Nat) : Int) := i64_id (by omega) (by omega)
          have q1 : ((sumB L - ((n : Nat) : Int)) != (sumB L - ((n : Nat) : Int))) = false := bne_self_eq_false _
          have q2 : (((ws.length : Nat) : Int) != ((ws.length : Nat) : Int)) = false := bne_self_eq_false _
          have q3 : ¬ (((lo : Nat) : Int) < 0) := by omega
          have q4 : ¬ (((n : Nat) : Int) < 1) := by omega
          have w3 : IntKind.i64.wrap (((ws.length : Nat) : Int) - ((n : Nat) : Int)) = ((ws.length : Nat) : Int) - ((n : Nat) : Int) := i64_id (by omega) (by omega)
          have q5 : ¬ (((lo : Nat) : Int) > ((ws.length : Nat) : Int) - ((n : Nat) : Int)) := by omega
          have w4 : IntKind.i64.wrap (((lo : Nat) : Int) + ((n : Nat) : Int)) = ((lo + n : Nat) : Int) := by rw [i64_id (by omega) (by omega)]; omega
          obtain ⟨σ2, hσ2⟩ : ∃ s, s = ((((AMem.empty.push (.row 2 true [X0, .vs kw (intV ws)])).push (.row 2 true [.int .i64 0, .int .i64 0])).put 1 (.row 2 true [.int .i64 (lo : Nat), .int .i64 (n : Nat)])).push (.row 2 true [.vs .nil [], .vs .nil []])).put 2 (.row 2 true [X4, .vs kw4 (intV (clearW ws b))]) := ⟨_, rfl⟩
          have g0 : σ2.get 0 = some (.row 2 true [X0, .vs kw (intV ws)]) := by rw [hσ2]; simp [AMem.get_push, AMem.get_put, next_empty]
          have g1 : σ2.get 1 = some (.row 2 true [.int .i64 (lo : Nat), .int .i64 (n : Nat)]) := by rw [hσ2]; simp [AMem.get_push, AMem.get_put, next_empty]
          have g2 : σ2.get 2 = some (.row 2 true [X4, .vs kw4 (intV (clearW ws b))]) := by rw [hσ2]; simp [AMem.get_push, AMem.get_put, next_empty]
          have i12 : (1 : Int) < ((2 : Nat) : Int) := by decide
          have i02 : (0 : Int) < ((2 : Nat) : Int) := by decide
          simp only [bodyOf, Try.f7, Option.getD_some, initT, dx, reduceIte, Nat.reduceLT, Nat.reduceLeDiff, Nat.reduceEqDiff, Nat.reduceAdd, Nat.reduceMul, Nat.reduceSub, Nat.reduceBEq, Int.reduceEq, Int.reduceLT, Int.reduceLE, Int.reduceToNat, reduceCtorEq, sx, fx7, hX0o, hthin, hri, hc1, hbl, show ((0 : Int) != 0) = false from rfl, prsV_length, hb0, w0, w1, hnz, hltx, Int.natCast_nonneg, Int.toNat_natCast, hget, hsp, hc4, hX4o, hc5, hsp2, i12, i02, w2, q1, intV_length, clearW_length, q2, q3, q4, w3, q5]
          rw [← hσ2]
          generalize hLp : execC _ _ _ _ _ (Code.loop _) _ _ = q
          obtain ⟨e, T', σ', rfl, _, rfl⟩ : ∃ e T' σ', q = some (e, T', σ') ∧ e ≠ .normal ∧ e = .exit 0 := by
            rw [← hLp]
            refine exec_loop (fun i T σ' => i ≤ ws.length ∧ σ' = σ2 ∧ T.get 2 = some (.ptr 0 0) ∧ T.get 7 = some (.ptr 1 0) ∧ T.get 10 = some (.ptr 2 0) ∧ T.get 15 = some (.int .i64 (i : Nat))) ws.length (by omega) ?_ ?_ ?_
            · rintro i hi T σ' ⟨_, rfl, t2, t7, t10, t15⟩
              have hlt : ((i : Nat) : Int) < ((ws.length : Nat) : Int) := by omega
              have hw' := i64_succ (i := i) (by omega)
              have hi2 : i < (clearW ws b).length := by rw [clearW_length]; exact hi
              have hgw := intV_get hi
              have hgc := intV_get hi2
              rw [← wdAt_lt hi2, wdAt_clear hi, hlo, hn] at hgc
              rw [← wdAt_lt hi] at hgw
              by_cases h1 : ((i : Nat) : Int) ≥ ((lo : Nat) : Int)
              · by_cases h2 : ((i : Nat) : Int) < ((lo + n : Nat) : Int)
                · rw [if_pos (by omega)] at hgc
                  refine ⟨_, _, by
                    simp only [dx, reduceIte, Nat.reduceLT, Nat.reduceLeDiff, Nat.reduceEqDiff, Nat.reduceAdd, Nat.reduceMul, Nat.reduceSub, Nat.reduceBEq, Int.reduceEq, Int.reduceLT, Int.reduceLE, Int.reduceToNat, reduceCtorEq, sx, fx7, t2, t7, t10, t15, g0, g1, g2, intV_length, clearW_length, hlt, i02, i12, h1, h2, w4, Int.natCast_nonneg, Int.toNat_natCast, hgc, show ((0 : Int) != 0) = false from rfl, hw']
                    rfl, by omega, rfl, ?_, ?_, ?_, ?_⟩
                  · simp only [Tr.get_set, Nat.reduceEqDiff, reduceIte, t2]
                  · simp only [Tr.get_set, Nat.reduceEqDiff, reduceIte, t7]
                  · simp only [Tr.get_set, Nat.reduceEqDiff, reduceIte, t10]
                  · simp only [Tr.get_set, Nat.reduceEqDiff, reduceIte]
                · rw [if_neg (by omega)] at hgc
                  have hbe : (wdAt ws i != wdAt ws i) = false := bne_self_eq_false _
                  refine ⟨_, _, by
                    simp only [dx, reduceIte, Nat.reduceLT, Nat.reduceLeDiff, Nat.reduceEqDiff, Nat.reduceAdd, Nat.reduceMul, Nat.reduceSub, Nat.reduceBEq, Int.reduceEq, Int.reduceLT, Int.reduceLE, Int.reduceToNat, reduceCtorEq, sx, fx7, t2, t7, t10, t15, g0, g1, g2, intV_length, clearW_length, hlt, i02, i12, h1, h2, w4, Int.natCast_nonneg, Int.toNat_natCast, hgc, hgw, hbe, hw']
                    rfl, by omega, rfl, ?_, ?_, ?_, ?_⟩
                  · simp only [Tr.get_set, Nat.reduceEqDiff, reduceIte, t2]
                  · simp only [Tr.get_set, Nat.reduceEqDiff, reduceIte, t7]
                  · simp only [Tr.get_set, Nat.reduceEqDiff, reduceIte, t10]
                  · simp only [Tr.get_set, Nat.reduceEqDiff, reduceIte]
              · rw [if_neg (by omega)] at hgc
                have hbe : (wdAt ws i != wdAt ws i) = false := bne_self_eq_false _
                refine ⟨_, _, by
                  simp only [dx, reduceIte, Nat.reduceLT, Nat.reduceLeDiff, Nat.reduceEqDiff, Nat.reduceAdd, Nat.reduceMul, Nat.reduceSub, Nat.reduceBEq, Int.reduceEq, Int.reduceLT, Int.reduceLE, Int.reduceToNat, reduceCtorEq, sx, fx7, t2, t7, t10, t15, g0, g1, g2, intV_length, clearW_length, hlt, i02, i12, h1, w4, Int.natCast_nonneg, Int.toNat_natCast, hgc, hgw, hbe, hw']
                  rfl, by omega, rfl, ?_, ?_, ?_, ?_⟩
                · simp only [Tr.get_set, Nat.reduceEqDiff, reduceIte, t2]
                · simp only [Tr.get_set, Nat.reduceEqDiff, reduceIte, t7]
                · simp only [Tr.get_set, Nat.reduceEqDiff, reduceIte, t10]
                · simp only [Tr.get_set, Nat.reduceEqDiff, reduceIte]
            · rintro T σ' ⟨_, rfl, t2, t7, t10, t15⟩
              have hge : ¬ (((ws.length : Nat) : Int) < ((ws.length : Nat) : Int)) := by omega
              exact ⟨_, _, _, by
                simp only [dx, reduceIte, Nat.reduceLT, Nat.reduceLeDiff, Nat.reduceEqDiff, Nat.reduceAdd, Nat.reduceMul, Nat.reduceSub, Nat.reduceBEq, Int.reduceEq, Int.reduceLT, Int.reduceLE, Int.reduceToNat, reduceCtorEq, sx, fx7, t10, t15, g2, intV_length, clearW_length, hge]
                rfl, by simp, rfl⟩
            · refine ⟨Nat.zero_le _, rfl, ?_, ?_, ?_, ?_⟩
              all_goals simp only [Tr.get_set, Nat.reduceEqDiff, reduceIte] <;> rfl
          simp only [dx, reduceIte, Nat.reduceLT, Nat.reduceLeDiff, Nat.reduceEqDiff, Nat.reduceAdd, Nat.reduceMul, Nat.reduceSub, Nat.reduceBEq, Int.reduceEq, Int.reduceLT, Int.reduceLE, Int.reduceToNat, reduceCtorEq, sx, fx7, haw]
          exact ⟨_, _, rfl, by simp only [Tr.get_set, Nat.reduceEqDiff, reduceIte]⟩
  obtain ⟨T1, σ', h1, h2⟩ := run
  exact ⟨σ', q_call (first := []) (caps := []) fn7 rfl (by simp [Try.f7]) h1 (by simp) (res_one h2)⟩
end Go.Proofs.Ytjkfdiglokkceaa

