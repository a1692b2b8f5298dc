import Derived.Test.YtjkfdiglokkceaaHT
import Derived.Test.YtjkfdiglokkceaaHP
import Derived.Test.YtjkfdiglokkceaaPaleDeep
open Nat renaming reduceLT → zLt, reduceLeDiff → zLe, reduceEqDiff → zEq, reduceAdd → zAd, reduceMul → zMu, reduceSub → zSu, reduceBEq → zBe
open Int renaming reduceEq → yEq, reduceLT → yLt, reduceLE → yLe, reduceToNat → yTn
/- Heaps: the reference's allocated: large blocks. -/
set_option maxRecDepth 100000
set_option linter.unusedSimpArgs false
set_option linter.unusedVariables false
namespace Go.Proofs.Ytjkfdiglokkceaa
open Go Go.Proofs.Ytjkfdiglokkceaa.Pale
variable {k : Nat} {σ : AMem}

end Go.Proofs.Ytjkfdiglokkceaa

/- Heaps: the reference's allocated: small blocks. -/
set_option maxRecDepth 100000
set_option linter.unusedSimpArgs false
set_option linter.unusedVariables false
namespace Go.Proofs.Ytjkfdiglokkceaa
open Go Go.Proofs.Ytjkfdiglokkceaa.Pale
variable {k : Nat} {σ : AMem}

end Go.Proofs.Ytjkfdiglokkceaa

/- Heaps: the reference's allocated, and Alloc. -/
set_option maxRecDepth 100000
set_option linter.unusedSimpArgs false
set_option linter.unusedVariables false
namespace Go.Proofs.Ytjkfdiglokkceaa
open Go Go.Proofs.Ytjkfdiglokkceaa.Pale
variable {k : Nat} {σ : AMem}

end Go.Proofs.Ytjkfdiglokkceaa

/- Heaps: the reference's Alloc. -/
set_option maxRecDepth 100000
set_option linter.unusedSimpArgs false
set_option linter.unusedVariables false
namespace Go.Proofs.Ytjkfdiglokkceaa
open Go Go.Proofs.Ytjkfdiglokkceaa.Pale
variable {k : Nat} {σ : AMem}

end Go.Proofs.Ytjkfdiglokkceaa

/- Heaps: the reference's sizeOf and ask. -/
set_option maxRecDepth 100000
set_option linter.unusedSimpArgs false
set_option linter.unusedVariables false
namespace Go.Proofs.Ytjkfdiglokkceaa
open Go Go.Proofs.Ytjkfdiglokkceaa.Pale
variable {k : Nat} {σ : AMem}

noncomputable def askH (ps : List Pg) (ws : List Int) (a : Int) : Int × Int := if rightB ps ws then (match findL ps a with
    | some b => (b.size, 0)
    | none => (0, 7)) else (0, 4)
end Go.Proofs.Ytjkfdiglokkceaa

/- Heaps: the reference's Free. -/
set_option maxRecDepth 100000
set_option linter.unusedSimpArgs false
set_option linter.unusedVariables false
namespace Go.Proofs.Ytjkfdiglokkceaa
open Go Go.Proofs.Ytjkfdiglokkceaa.Pale
variable {k : Nat} {σ : AMem}

end Go.Proofs.Ytjkfdiglokkceaa

/- Heaps: the reference's Put. -/
set_option maxRecDepth 100000
set_option linter.unusedSimpArgs false
set_option linter.unusedVariables false
namespace Go.Proofs.Ytjkfdiglokkceaa
open Go Go.Proofs.Ytjkfdiglokkceaa.Pale
variable {k : Nat} {σ : AMem}

end Go.Proofs.Ytjkfdiglokkceaa

/- Heaps: Get and Size, of the program and of the reference; lists that are compared. -/
set_option maxRecDepth 100000
set_option linter.unusedSimpArgs false
set_option linter.unusedVariables false
namespace Go.Proofs.Ytjkfdiglokkceaa
open Go Go.Proofs.Ytjkfdiglokkceaa.Pale
variable {k : Nat} {σ : AMem}

/-- A value that reads as a list of words. -/
def LV (v : AVal) (l : List Int) : Prop := ∃ K, v = .vs K (intV l) ∧ K ≠ .zero ∧ (K = .nil → l = [])
theorem lv_nil : LV (.vs .nil []) [] := ⟨.nil, rfl, by simp, fun _ => rfl⟩
noncomputable def getH (ps : List Pg) (ws : List Int) (a : Int) : List Int × Int := if rightB ps ws then (match findL ps a with
    | some b => (segW ws b.at_.toNat b.size.toNat, 0)
    | none => ([], 7)) else ([], 4)
theorem get_ask {ps : List Pg} {ws : List Int} {a : Int} : (((getH ps ws a).1.length : Nat) : Int) = (askH ps ws a).1 ∧ (getH ps ws a).2 = (askH ps ws a).2 := by
  unfold getH askH
  cases hrb : rightB ps ws with
  | false => exact ⟨rfl, rfl⟩
  | true =>
    rw [if_pos rfl, if_pos rfl]
    cases hf : findL ps a with
    | none => exact ⟨rfl, rfl⟩
    | some b =>
      obtain ⟨lo, n, h1, h2, h3, h4, _⟩ := blk_nat (rightB_iff.1 hrb) (findL_some hf).1
      refine ⟨?_, rfl⟩
      simp only [h1, h2, Int.toNat_natCast]
      rw [segW_length h4]
set_option maxHeartbeats 1000000 in
theorem Get_run {v : AVal} {ps : List Pg} {ws : List Int} (a : Int) (hv : VH v ps ws) (hb : Bd ps ws) (hk : 9000 ≤ k) : ∃ v', pureRun (callN lawProg (k + 1)) (.func 35 [] []) [v, .int .i64 a] = some (.tuple [v', .int .i64 (getH ps ws a).2], true) ∧ LV v' (getH ps ws a).1 := by
  obtain ⟨X, Y, rfl, hX, hY⟩ := hv.cells
  obtain ⟨σ0, hσ0⟩ : ∃ s, s = AMem.empty.push (.row 2 true [X, Y]) := ⟨_, rfl⟩
  have n0 : σ0.next = 1 := by rw [hσ0]; simp [next_empty]
  have g0 : σ0.get 0 = some (.row 2 true [X, Y]) := by rw [hσ0]; simp [AMem.get_push, next_empty]
  have fin : ∀ (T1 : Tr AVal) (σ' : AMem) (x : AVal) (e : Int) (v' : AVal) (S : List Nat) (l : List Int), execC lawProg (callN lawProg k) k 35 29 (bodyOf Try.f35) (initT 0 [.agg [X, Y], .int .i64 a] .nil) AMem.empty = some (.ret, T1, σ') → T1.get 4 = some x → T1.get 5 = some (.int .i64 e) → snapF true σ' 11 x = some (v', S) → LV v' l → ∃ v', pureRun (callN lawProg (k + 1)) (.func 35 [] []) [.agg [X, Y], .int .i64 a] = some (.tuple [v', .int .i64 e], true) ∧ LV v' l := by
    intro T1 σ' x e v' S l r1 r2 r3 hS hl
    refine ⟨v', ?_, hl⟩
    refine pureRun_of (vs := [x, .int .i64 e]) (seen := S ++ ([] ++ [])) fn35 rfl (by simp [Try.f35]) r1 (by simp) (res_two r2 r3) ?_
    have c2 : snapF true σ' 11 (.int .i64 e) = some (.int .i64 e, []) := rfl
    show snapF true σ' (11 + 1) (.tuple [x, .int .i64 e]) = _
    rw [snapF]
    simp only [snapL, hS, c2, Option.map_some]
  rcases open_vh (k := k - 1) hv hb (by omega) σ0 with ⟨hr, σ2, ho, ex2⟩ | ⟨hr, hright, σ2, sp, pr, wr, its, ho, ex2, hM⟩
  · rw [show k - 1 + 1 = k by omega] at ho
    have hres : getH ps ws a = ([], 4) := by unfold getH; rw [hr]; rfl
    rw [hres]
    have run : ∃ T1, execC lawProg (callN lawProg k) k 35 29 (bodyOf Try.f35) (initT 0 [.agg [X, Y], .int .i64 a] .nil) AMem.empty = some (.ret, T1, σ2) ∧ T1.get 4 = some (.vs .nil []) ∧ T1.get 5 = some (.int .i64 4) := by
      simp only [bodyOf, Try.f35, Option.getD_some, initT, dx, reduceIte, zLt, zLe, zEq, zAd, zMu, zSu, zBe, yEq, yLt, yLe, yTn, reduceCtorEq, sx, fx35, hX, hY, ← hσ0]
      simp only [dx, reduceIte, zLt, zLe, zEq, zAd, zMu, zSu, zBe, yEq, yLt, yLe, yTn, reduceCtorEq, sx, fx35, g0, ho, show ((4 : Int) != 0) = true from rfl]
      exact ⟨_, rfl, by simp only [Tr.get_set, zEq, reduceIte], by simp only [Tr.get_set, zEq, reduceIte]⟩
    obtain ⟨T1, r1, r2, r3⟩ := run
    exact fin T1 σ2 _ 4 (.vs .nil []) [] [] r1 r2 r3 rfl lv_nil
  · rw [show k - 1 + 1 = k by omega] at ho
    have hmany := hright.many
    have hwl := hright.len
    obtain ⟨σ3, hfind, ex3⟩ := find_exec (k := k - 1) (a := a) hM hright.shape hmany.2 (by omega)
    rw [show k - 1 + 1 = k by omega] at hfind
    have h3 := hM.ext ex3
    obtain ⟨c, hc⟩ : ∃ c, c = σ3.next := ⟨_, rfl⟩
    cases hf : findL ps a with
    | none =>
      have hres : getH ps ws a = ([], 7) := by unfold getH; rw [hr, if_pos rfl, hf]
      rw [hres]
      rw [hf] at hfind
      simp only [Option.getD_none, Option.isSome_none, noBlk, blkC] at hfind
      have run : ∃ T1 σ', execC lawProg (callN lawProg k) k 35 29 (bodyOf Try.f35) (initT 0 [.agg [X, Y], .int .i64 a] .nil) AMem.empty = some (.ret, T1, σ') ∧ T1.get 4 = some (.vs .nil []) ∧ T1.get 5 = some (.int .i64 7) := by
        simp only [bodyOf, Try.f35, Option.getD_some, initT, dx, reduceIte, zLt, zLe, zEq, zAd, zMu, zSu, zBe, yEq, yLt, yLe, yTn, reduceCtorEq, sx, fx35, hX, hY, ← hσ0]
        simp only [dx, reduceIte, zLt, zLe, zEq, zAd, zMu, zSu, zBe, yEq, yLt, yLe, yTn, reduceCtorEq, sx, fx35, g0, ho, show ((0 : Int) != 0) = false from rfl, hfind]
        exact ⟨_, _, rfl, by simp only [Tr.get_set, zEq, reduceIte], by simp only [Tr.get_set, zEq, reduceIte]⟩
      obtain ⟨T1, σ', r1, r2, r3⟩ := run
      exact fin T1 σ' _ 7 (.vs .nil []) [] [] r1 r2 r3 rfl lv_nil
    | some b =>
      rw [hf] at hfind
      simp only [Option.getD_some, Option.isSome_some] at hfind
      obtain ⟨hbm, hba⟩ := findL_some hf
      obtain ⟨lo, n, hlo, hn, hn1, hln, hpg⟩ := blk_nat hright hbm
      have hres : getH ps ws a = (segW ws lo n, 0) := by unfold getH; rw [hr, if_pos rfl, hf]; simp only [hlo, hn, Int.toNat_natCast]
      rw [hres]
      obtain ⟨σ4, hσ4⟩ : ∃ m, m = (σ3.push (.row 4 true [.int .i64 0, .int .i64 0, .int .i64 0, .int .i64 0])).put c (.row 4 true (blkC b)) := ⟨_, rfl⟩
      have ex4 : Ext σ3 σ4 := by rw [hσ4]; exact (Ext.push _ _).put _ _ (by omega)
      have h4 := h3.ext ex4
      have gc4 : σ4.get c = some (.row 4 true (blkC b)) := by rw [hσ4, AMem.get_put, if_pos rfl]
      have hwds := owords_exec (k := k - 1) h4 hlo hn hln (by omega)
      rw [show k - 1 + 1 = k by omega] at hwds
      obtain ⟨σ5, hσ5⟩ : ∃ m, m = σ4.push (.row 4 true (blkC b)) := ⟨_, rfl⟩
      rw [← hσ5] at hwds
      have h5 : HeapM σ0.next σ5 sp pr none wr none its ps ws := by rw [hσ5]; exact h4.ext (Ext.push _ _)
      unfold blkC at hfind hσ4 gc4 hwds
      have run : ∃ T1, execC lawProg (callN lawProg k) k 35 29 (bodyOf Try.f35) (initT 0 [.agg [X, Y], .int .i64 a] .nil) AMem.empty = some (.ret, T1, σ5) ∧ T1.get 4 = some (.slice wr lo n none 1) ∧ T1.get 5 = some (.int .i64 0) := by
        simp only [bodyOf, Try.f35, Option.getD_some, initT, dx, reduceIte, zLt, zLe, zEq, zAd, zMu, zSu, zBe, yEq, yLt, yLe, yTn, reduceCtorEq, sx, fx35, hX, hY, ← hσ0]
        simp only [dx, reduceIte, zLt, zLe, zEq, zAd, zMu, zSu, zBe, yEq, yLt, yLe, yTn, reduceCtorEq, sx, fx35, g0, ho, show ((0 : Int) != 0) = false from rfl, hfind, ← hc, ← hσ4]
        simp only [dx, reduceIte, zLt, zLe, zEq, zAd, zMu, zSu, zBe, yEq, yLt, yLe, yTn, reduceCtorEq, sx, fx35, gc4, hwds]
        exact ⟨_, rfl, by simp only [Tr.get_set, zEq, reduceIte], by simp only [Tr.get_set, zEq, reduceIte]⟩
      obtain ⟨T1, r1, r2, r3⟩ := run
      exact fin T1 σ5 _ 0 (.vs .some (intV (segW ws lo n))) [wr] _ r1 r2 r3 (snap_ints (d := 9) hln h5.own.mw) ⟨.some, rfl, by simp, by simp⟩
theorem Get_call {v : AVal} {ps : List Pg} {ws : List Int} (a : Int) (hv : VH v ps ws) (hb : Bd ps ws) (hk : 9001 ≤ k) : ∃ v', (∀ σ, pureCall lawProg (callN lawProg k) (.func 35 [] []) [v, .int .i64 a] σ = some (.tuple [v', .int .i64 (getH ps ws a).2], σ)) ∧ LV v' (getH ps ws a).1 := by
  obtain ⟨k, rfl⟩ : ∃ m, k = m + 1 := ⟨k - 1, by omega⟩
  obtain ⟨v', h1, h2⟩ := Get_run a hv hb (k := k) (by omega)
  refine ⟨v', fun σ => pureCall_of (seen := [] ++ ([] ++ [])) ?_ (memo35 _) h1, h2⟩
  have := hv.snap σ 10
  simp only [snapL, snapDepth, this, snapF]
theorem Size_call {v : AVal} {ps : List Pg} {ws : List Int} (a : Int) (hv : VH v ps ws) (hb : Bd ps ws) (hk : 9002 ≤ k) : pureCall lawProg (callN lawProg k) (.func 28 [] []) [v, .int .i64 a] σ = some (.tuple [.int .i64 (askH ps ws a).1, .int .i64 (askH ps ws a).2], σ) := by
  obtain ⟨k, rfl⟩ : ∃ m, k = m + 1 := ⟨k - 1, by omega⟩
  have hsn := hv.snap σ 10
  obtain ⟨v', hg, K, rfl, _⟩ := Get_call (k := k) a hv hb (by omega)
  obtain ⟨h1, h2⟩ := get_ask (ps := ps) (ws := ws) (a := a)
  rw [← h1, ← h2]
  obtain ⟨X, Y, rfl, hX, hY⟩ := hv.cells
  have run : ∃ T1 σ1, execC lawProg (callN lawProg k) k 28 17 (bodyOf Try.f28) (initT 0 [.agg [X, Y], .int .i64 a] .nil) AMem.empty = some (.ret, T1, σ1) ∧ T1.get 4 = some (.int .i64 (((getH ps ws a).1.length : Nat) : Int)) ∧ T1.get 5 = some (.int .i64 (getH ps ws a).2) := by
    simp only [bodyOf, Try.f28, Option.getD_some, initT, dx, reduceIte, zLt, zLe, zEq, zAd, zMu, zSu, zBe, yEq, yLt, yLe, yTn, reduceCtorEq, sx, fx28, hX, hY, hg, intV_length]
    exact ⟨_, _, rfl, by simp only [Tr.get_set, zEq, reduceIte], by simp only [Tr.get_set, zEq, reduceIte]⟩
  obtain ⟨T1, σ1, g1, g2, g3⟩ := run
  refine pureCall_of (args' := [.agg [X, Y], .int .i64 a]) (seen := [] ++ ([] ++ [])) ?_ (memo28 _) (pureRun_of fn28 rfl (by simp [Try.f28]) g1 (by simp) (res_two g2 g3) rfl)
  simp only [snapL, snapDepth, hsn, snapF]
end Go.Proofs.Ytjkfdiglokkceaa

/- HeapAllocs: the run. -/
set_option maxRecDepth 100000
set_option linter.unusedSimpArgs false
set_option linter.unusedVariables false
namespace Go.Proofs.Ytjkfdiglokkceaa
open Go Go.Proofs.Ytjkfdiglokkceaa.Pale
variable {k : Nat} {σ : AMem}

end Go.Proofs.Ytjkfdiglokkceaa

/- HeapPuts: the run. -/
set_option maxRecDepth 100000
set_option linter.unusedSimpArgs false
set_option linter.unusedVariables false
namespace Go.Proofs.Ytjkfdiglokkceaa
open Go Go.Proofs.Ytjkfdiglokkceaa.Pale
variable {k : Nat} {σ : AMem}

/-- A list in memory that was put behind nil, as an argument. -/
theorem nilOr_snap {low : Nat} {y : AVal} {l : List Int} (h : NilOr σ low 1 false y l.length (intV l)) : ∃ K S, snapF false σ snapDepth y = some (.vs K (intV l), S) := by
  rcases h with ⟨h0, rfl⟩ | ⟨r, rfl, _, _, hr⟩
  · obtain rfl := List.eq_nil_of_length_eq_zero h0
    exact ⟨.nil, [], rfl⟩
  · have hs := snap_ints (fr := false) (d := 10) (r := r) (n := l.length) (lo := 0) (l := l) (cap := none) (by omega) hr
    have hseg : segW l 0 l.length = l := by unfold segW; simp
    rw [hseg] at hs
    exact ⟨.some, [r], hs⟩
theorem Put_snap {v y : AVal} {ps : List Pg} {ws l : List Int} {K : VK} {S : List Nat} (a : Int) (hv : VH v ps ws) (hb : Bd ps ws) (hl : l.length ≤ 1000) (hy : snapF false σ snapDepth y = some (.vs K (intV l), S)) (hk : 9001 ≤ k) : ∃ v', pureCall lawProg (callN lawProg k) (.func 32 [] []) [v, .int .i64 a, y] σ = some (.tuple [v', .int .i64 (putH ps ws a l).e], σ) ∧ VH v' (putH ps ws a l).ps (putH ps ws a l).ws := by
  obtain ⟨k, rfl⟩ : ∃ m, k = m + 1 := ⟨k - 1, by omega⟩
  obtain ⟨v', h1, h2⟩ := Put_run (K := K) a hv hb hl (k := k) (by omega)
  refine ⟨v', pureCall_of (args' := [v, .int .i64 a, .vs K (intV l)]) (seen := [] ++ ([] ++ (S ++ []))) ?_ (memo32 _) h1, h2⟩
  have := hv.snap σ 10
  unfold snapDepth at hy ⊢
  have c1 : snapF false σ 12 (.int .i64 a) = some (.int .i64 a, []) := rfl
  simp only [snapL, this, hy, c1]
end Go.Proofs.Ytjkfdiglokkceaa

/- Heaps: the program's Blocks. -/
set_option maxRecDepth 100000
set_option linter.unusedSimpArgs false
set_option linter.unusedVariables false
namespace Go.Proofs.Ytjkfdiglokkceaa
open Go Go.Proofs.Ytjkfdiglokkceaa.Pale
variable {k : Nat} {σ : AMem}

/-- A loop over all blocks that does not end early: what is there behind it. -/
theorem range_all {f N k0 low sp pr wr p : Nat} {its : List MItem} {ps : List Pg} {ws : List Int} {T0 : Tr AVal} {g : Nat} {a b : Code} {I : Option (List Blk) → List Nat → AMem → Prop} {O : List Nat} {lp : ALoop}
    (hlp : lp = { state := .ready, pending := none, fn := f, N := N, T := T0, params := [p], assign := a, body := b })
    (hC : Client k0 σ.next (blocksL ps) I) (hno : ∀ O σ, ¬ I none O σ) (hL : ∀ d O σ', I (some d) O σ' → σ'.get σ.next = some (.loop lp))
    (h : HeapM low σ sp pr none wr none its ps ws) (hsh : Shape ps) (hl : ps.length ≤ 40) (hk0 : k0 + 3 ≤ k) (hk : 1004 ≤ k)
    (hO : sp ∉ O ∧ pr ∉ O ∧ wr ∉ O ∧ ∀ r, r ∈ rowsOf its → r ∉ O) (hI : I (some []) O (σ.push (.loop lp))) (hg : T0.get g = some (.func 47 [.ptr sp 0] [])) :
    ∃ O' σ', execC lawProg (callN lawProg k) k f N (.rangeFunc (.tmp g) #[p] a b) T0 σ = some (.normal, T0, σ'.put σ.next (.loop { lp with state := .exhausted })) ∧ I (some (blocksL ps)) O' σ' ∧ Fr (σ.push (.loop lp)) O σ' O' := by
  obtain ⟨O', σ', hcl, hF, hres⟩ := pblocks_exec (k := k - 3) (σ := σ.push (.loop lp)) (O := O) hC (h.ext (Ext.push _ _)) hsh hl (by omega) (by omega) hO hI
  rw [show k - 3 + 3 = k by omega] at hcl
  rcases hres with hi | hi
  · refine ⟨O', σ', ?_, hi, hF⟩
    have hcl' : callN lawProg k (.func 47 [.ptr sp 0] []) [.yield σ.next] (σ.push (.loop { state := .ready, pending := none, fn := f, N := N, T := T0, params := [p], assign := a, body := b })) = some (.tuple [], σ') := by
      obtain ⟨m, hm⟩ : ∃ m, k = m + 1 := ⟨k - 1, by omega⟩
      rw [hm, call_first, ← hm, ← hlp]
      exact hcl
    exact q_range (A := lawProg) (call := callN lawProg k) (k := k) (f := f) (N := N) (T := T0) (σ := σ) (g := .tmp g) (ps := #[p]) (a := a) (b := b) (r := lp) (v := .tuple []) (σ2 := σ') hg hcl' (hL _ _ _ hi) (by rw [hlp]; intro h; cases h) (by rw [hlp])
  · exact absurd hi (hno _ _)
noncomputable def loopBk (T0 : Tr AVal) : ALoop := rfLoop Try.f15 15 T0
def BkI (q L : Nat) (lp : ALoop) : Option (List Blk) → List Nat → AMem → Prop := fun x O σ => match x with
  | some d => ∃ out, O = q :: L :: rowOf out ∧ q < L ∧ L < σ.next ∧ σ.get q = some (.row 1 false [out]) ∧ σ.get L = some (.loop lp) ∧ Grew (L + 1) σ 2 true out d.length (prsC d) ∧ (d = [] → out = .vs .nil [])
  | none => False
theorem grew_one {low sz j : Nat} {g : Bool} {out : AVal} {cells : List AVal} (h : Grew low σ sz g out j cells) : out.oneCell = true := by
  rcases h.2 with ⟨_, rfl⟩ | ⟨_, _, _, rfl, _⟩ <;> rfl
set_option maxHeartbeats 1000000 in
theorem bk_client {T0 : Tr AVal} {q L : Nat} {bs : List Blk} (hT2 : T0.get 2 = some (.ptr q 0)) (hn : bs.length ≤ 10000) : Client 1 L bs (BkI q L (loopBk T0)) := by
  refine ⟨?_, ?_, ?_⟩
  · intro x O σ σ' hi hn hs
    cases x with
    | none => exact hi
    | some d =>
      obtain ⟨out, rfl, h1, h2, h3, h4, h5, h6⟩ := hi
      refine ⟨out, rfl, h1, by omega, by rw [hs q (by simp)]; exact h3, by rw [hs L (by simp)]; exact h4, ⟨h5.1, ?_⟩, h6⟩
      rcases h5.2 with h | ⟨r, a1, a2, a3, a4⟩
      · exact .inl h
      · exact .inr ⟨r, a1, by omega, a3, by rw [hs r (by rw [a3]; simp [rowOf])]; exact a4⟩
  · intro x O σ hi r hr
    cases x with
    | none => exact hi.elim
    | some d =>
      obtain ⟨out, rfl, h1, h2, h3, h4, h5, h6⟩ := hi
      simp only [List.mem_cons] at hr
      rcases hr with rfl | rfl | hr
      · omega
      · omega
      · rcases h5.2 with ⟨_, rfl⟩ | ⟨r', a1, a2, rfl, a4⟩
        · simp [rowOf] at hr
        · simp only [rowOf, List.mem_singleton] at hr; omega
  · rintro k d b rest O σ hbs hk ⟨out, rfl, hqL, hLn, mq, ml, hgr, hnil⟩
    obtain ⟨k, rfl⟩ : ∃ m, k = m + 1 := ⟨k - 1, by omega⟩
    obtain ⟨c, hc⟩ : ∃ c, c = σ.next := ⟨_, rfl⟩
    obtain ⟨B, hB⟩ : ∃ B, B = busyOf (loopBk T0) := ⟨_, rfl⟩
    obtain ⟨σ1, hσ1⟩ : ∃ s, s = (σ.push (.row 4 true blk0)).put σ.next (.row 4 true (blkC b)) := ⟨_, rfl⟩
    have ex1 : Ext σ σ1 := by rw [hσ1]; exact (Ext.push _ _).put _ _ (by omega)
    have gd : σ1.get c = some (.row 4 true (blkC b)) := by rw [hσ1, hc, AMem.get_put, if_pos rfl]
    have n1 : σ1.next = c + 1 := by rw [hσ1, hc]; simp
    have ha : ∃ T1, execC lawProg (callN lawProg k) k 15 26 (loopBk T0).assign (setParams T0 (loopBk T0).params [.agg (blkC b)]) σ = some (.normal, T1, σ1) ∧ T1.get 2 = some (.ptr q 0) ∧ T1.get 5 = some (.ptr c 0) := by
      rw [hσ1, hc]
      simp only [loopBk, rfLoop, bodyOf, Try.f15, Option.getD_some, rfOf]
      simp only [dx, reduceIte, zLt, zLe, zEq, zAd, zMu, zSu, zBe, yEq, yLt, yLe, yTn, reduceCtorEq, sx, fx15, blkC, blk0]
      exact ⟨_, rfl, by simp only [Tr.get_set, zEq, reduceIte, hT2], by simp only [Tr.get_set, zEq, reduceIte]⟩
    obtain ⟨T1, ha, u2, u5⟩ := ha
    obtain ⟨σb, hσb⟩ : ∃ s, s = σ1.put L (.loop B) := ⟨_, rfl⟩
    have gb : ∀ r, r < c → r ≠ L → σb.get r = σ.get r := fun r hr hne => by rw [hσb, AMem.get_put, if_neg (fun h => hne h.symm)]; exact ex1.2 r (by omega)
    have gbc : σb.get c = some (.row 4 true (blkC b)) := by rw [hσb, AMem.get_put, if_neg (by omega)]; exact gd
    have nb : σb.next = c + 1 := by rw [hσb]; simpa using n1
    have be : σb.get L = some (.loop B) := by rw [hσb, AMem.get_put, if_pos rfl]
    have bq : σb.get q = some (.row 1 false [out]) := by rw [gb q (by omega) (by omega)]; exact mq
    have hgb : Grew (L + 1) σb 2 true out d.length (prsC d) := by
      refine ⟨hgr.1, ?_⟩
      rcases hgr.2 with h | ⟨r, a1, a2, a3, a4⟩
      · exact .inl h
      · exact .inr ⟨r, a1, by omega, a3, by rw [gb r (by omega) (by omega)]; exact a4⟩
    have hdl : d.length ≤ 10000 := by
      have := congrArg List.length hbs
      simp only [List.length_append, List.length_cons] at this
      omega
    obtain ⟨σ2, a1, a2, a3, a4, a5⟩ := Grew.one (e := (⟨.array 2 3, 2, 16, [.int .i64 0, .int .i64 0]⟩ : TyI)) (xs := [.int .i64 b.at_, .int .i64 b.size]) hgb (by omega) rfl (by decide) (by decide) (by decide) (by simp only [mostBytes]; omega) rfl
    have a1' : appendA (⟨.array 2 3, 2, 16, [.int .i64 0, .int .i64 0]⟩ : TyI) (σb.push (.row 2 true [.int .i64 b.at_, .int .i64 b.size])) out (.slice σb.next 0 1 (some 1) 2) = some (.slice (σb.next + 1) 0 (d.length + 1) none 2, σ2) := a1
    obtain ⟨σ3, hσ3⟩ : ∃ s, s = σ2.put q (.row 1 false [.slice (σb.next + 1) 0 (d.length + 1) none 2]) := ⟨_, rfl⟩
    have g2q : σ2.get q = some (.row 1 false [out]) := by rw [a4 q (by omega)]; exact bq
    have g2L : σ2.get L = some (.loop B) := by rw [a4 L (by omega)]; exact be
    have hoo := grew_one hgr
    have hz1 : loopBk T0 = { B with state := .ready, pending := none } := by rw [hB]; rfl
    have hb2 : ∃ T2, execC lawProg (callN lawProg k) k 15 26 (loopBk T0).body T1 σb = some (.normal, T2, σ3) := by
      rw [hσ3]
      unfold blkC at gbc
      simp only [loopBk, rfLoop, bodyOf, Try.f15, Option.getD_some, rfOf]
      simp only [dx, reduceIte, zLt, zLe, zEq, zAd, zMu, zSu, zBe, yEq, yLt, yLe, yTn, reduceCtorEq, sx, fx15, u2, u5, gbc, bq, hoo, a1', g2q]
      exact ⟨_, rfl⟩
    obtain ⟨T2, hb2⟩ := hb2
    have g3L : σ3.get L = some (.loop B) := by rw [hσ3, AMem.get_put, if_neg (by omega)]; exact g2L
    have key := round_body (A := lawProg) (call := callN lawProg k) (k := k) (σ := σ) (l := L) (r := loopBk T0) (T1 := T1) (T2 := T2) (σ1 := σ1) ml rfl rfl rfl ha (by rw [ex1.2 L (by omega)]; exact ml) (by rw [← hB, ← hσb]; exact hb2) (r2 := B) g3L
    rw [← hz1] at key
    have n3 : σ3.next = c + 3 := by rw [hσ3]; simp only [AMem.next_put]; omega
    refine ⟨true, q :: L :: [σb.next + 1], _, by simp only [callN]; exact key, ?_, ⟨?_, fun r hr hn => ?_, fun r hr => ?_⟩⟩
    · simp only [if_true]
      refine ⟨.slice (σb.next + 1) 0 (d.length + 1) none 2, rfl, hqL, ?_, ?_, ?_, ⟨?_, .inr ⟨σb.next + 1, by omega, ?_, by simp, ?_⟩⟩, fun h => by simp at h⟩
      · simp only [AMem.next_put]; omega
      · rw [AMem.get_put, if_neg (by omega), hσ3, AMem.get_put, if_pos rfl]
      · rw [AMem.get_put, if_pos rfl]
      · have := a2.1
        rw [prsC_snoc]
        simpa [prC] using this
      · simp only [AMem.next_put]; omega
      · rw [AMem.get_put, if_neg (by omega), hσ3, AMem.get_put, if_neg (by omega), prsC_snoc]
        rcases a2.2 with ⟨h0, _⟩ | ⟨r', _, _, e1, e2⟩
        · omega
        · simp only [AVal.slice.injEq] at e1
          rw [e1.1]
          exact e2
    · simp only [AMem.next_put]; omega
    · simp only [List.mem_cons, not_or] at hn
      rw [AMem.get_put, if_neg (by omega), hσ3, AMem.get_put, if_neg (by omega), a5 r (by omega) (fun e => hn.2.2 (by rw [e]; simp [rowOf])), gb r (by omega) hn.2.1]
    · simp only [List.mem_cons, List.not_mem_nil, or_false] at hr
      rcases hr with rfl | rfl | rfl
      · exact .inl (by simp)
      · exact .inl (by simp)
      · exact .inr (by omega)
theorem blocks_count {ps : List Pg} (hsh : Shape ps) (hl : ps.length ≤ 40) : (blocksL ps).length ≤ 2560 := by
  have := (blocks_len hsh ps.length (Nat.le_refl _)).1
  unfold blocksL
  omega
set_option maxHeartbeats 1000000 in
theorem Blocks_run {v : AVal} {ps : List Pg} {ws : List Int} (hv : VH v ps ws) (hb : Bd ps ws) (hk : 9000 ≤ k) : pureRun (callN lawProg (k + 1)) (.func 15 [] []) [v] = some (if rightB ps ws then .tuple [.vs (lkOf (blocksL ps).length) (prsV (blocksL ps)), .int .i64 0] else .tuple [.vs .nil [], .int .i64 4], true) := by
  obtain ⟨X, Y, rfl, hX, hY⟩ := hv.cells
  obtain ⟨σ0, hσ0⟩ : ∃ s, s = (AMem.empty.push (.row 2 true [X, Y])).push (.row 1 false [.vs .nil []]) := ⟨_, rfl⟩
  have n0 : σ0.next = 2 := by rw [hσ0]; simp [next_empty]
  have g0 : σ0.get 0 = some (.row 2 true [X, Y]) := by rw [hσ0]; simp [AMem.get_push, next_empty]
  have g1 : σ0.get 1 = some (.row 1 false [.vs .nil []]) := by rw [hσ0]; simp [AMem.get_push, next_empty]
  rcases open_vh (k := k - 1) hv hb (by omega) σ0 with ⟨hr, σ2, ho, ex2⟩ | ⟨hr, hright, σ2, sp, pr, wr, its, ho, ex2, hM⟩
  · rw [show k - 1 + 1 = k by omega] at ho
    rw [hr]
    simp only [Bool.false_eq_true, if_false]
    have g12 : σ2.get 1 = some (.row 1 false [.vs .nil []]) := by rw [ex2.2 1 (by omega)]; exact g1
    have run : ∃ T1, execC lawProg (callN lawProg k) k 15 26 (bodyOf Try.f15) (initT 0 [.agg [X, Y]] .nil) AMem.empty = some (.ret, T1, σ2.put 1 (.row 1 false [.vs .nil []])) ∧ T1.get 2 = some (.ptr 1 0) ∧ T1.get 3 = some (.int .i64 4) := by
      simp only [bodyOf, Try.f15, Option.getD_some, initT, dx, reduceIte, zLt, zLe, zEq, zAd, zMu, zSu, zBe, yEq, yLt, yLe, yTn, reduceCtorEq, sx, fx15, hX, hY, ← hσ0]
      simp only [dx, reduceIte, zLt, zLe, zEq, zAd, zMu, zSu, zBe, yEq, yLt, yLe, yTn, reduceCtorEq, sx, fx15, g0, ho, g12, show ((4 : Int) != 0) = true from rfl]
      exact ⟨_, rfl, by simp only [Tr.get_set, zEq, reduceIte], by simp only [Tr.get_set, zEq, reduceIte]⟩
    obtain ⟨T1, r1, r2, r3⟩ := run
    refine pureRun_of (vs := [.vs .nil [], .int .i64 4]) (seen := [] ++ ([] ++ [])) fn15 rfl (by simp [Try.f15]) r1 (by simp) ?_ rfl
    simp only [Try.f15, resultsA, resultA, dx, reduceIte, zLt, zLe, zEq, zAd, zMu, zSu, zBe, yEq, yLt, yLe, yTn, reduceCtorEq, sx, fx15, r2, r3]
  · rw [show k - 1 + 1 = k by omega] at ho
    rw [hr]
    simp only [if_true]
    have hmany := hright.many
    obtain ⟨x1, x2, x3⟩ := hM.own.nx
    obtain ⟨l1, l2, l3⟩ := hM.own.lo
    have hx2 := ex2.1
    have g12 : σ2.get 1 = some (.row 1 false [.vs .nil []]) := by rw [ex2.2 1 (by omega)]; exact g1
    have run : ∃ T1 σ' out, execC lawProg (callN lawProg k) k 15 26 (bodyOf Try.f15) (initT 0 [.agg [X, Y]] .nil) AMem.empty = some (.ret, T1, σ') ∧ T1.get 2 = some (.ptr 1 0) ∧ T1.get 3 = some (.int .i64 0) ∧ σ'.get 1 = some (.row 1 false [out]) ∧ GrewB 2 0 σ' out (blocksL ps) := by
      simp only [bodyOf, Try.f15, Option.getD_some, initT, dx, reduceIte, zLt, zLe, zEq, zAd, zMu, zSu, zBe, yEq, yLt, yLe, yTn, reduceCtorEq, sx, fx15, hX, hY, ← hσ0]
      simp only [dx, reduceIte, zLt, zLe, zEq, zAd, zMu, zSu, zBe, yEq, yLt, yLe, yTn, reduceCtorEq, sx, fx15, g0, ho, show ((0 : Int) != 0) = false from rfl]
      generalize hR : execC _ _ _ _ _ (Code.rangeFunc _ _ _ _) _ _ = r
      have hrng : ∀ (T0 : Tr AVal) (X' : Out), T0.get 2 = some (.ptr 1 0) → T0.get 15 = some (.func 47 [.ptr sp 0] []) → execC lawProg (callN lawProg k) k 15 26 (.rangeFunc (.tmp 15) #[16] (loopBk T0).assign (loopBk T0).body) T0 σ2 = X' → ∃ σ' out, X' = some (.normal, T0, σ') ∧ σ'.get 1 = some (.row 1 false [out]) ∧ GrewB 2 0 σ' out (blocksL ps) := by
        intro T0 X' t2 t15 hX'
        rw [← hX']
        have hp : ∀ r, r < σ2.next → (σ2.push (.loop (loopBk T0))).get r = σ2.get r := fun r hr => by rw [AMem.get_push, if_neg (by omega)]
        have hmem : ∀ r, 2 ≤ r → r < σ2.next → r ∉ [1, σ2.next] := fun r h1 h2 hm => by
          simp only [List.mem_cons, List.not_mem_nil, or_false] at hm
          omega
        obtain ⟨O', σ', e1, ⟨out, rfl, h1, h2, h3, h4, h5, h6⟩, hF⟩ := range_all (σ := σ2) (k := k) (f := 15) (N := 26) (T0 := T0) (p := 16) (g := 15) (lp := loopBk T0) (O := [1, σ2.next]) (k0 := 1) (a := (loopBk T0).assign) (b := (loopBk T0).body) rfl (bk_client t2 (by have := blocks_count hright.shape hmany.2; omega)) (fun _ _ h => h) (fun d O σ' ⟨_, _, _, _, _, h, _⟩ => h) hM hright.shape hmany.2 (by omega) (by omega) ⟨hmem sp (by omega) x1, hmem pr (by omega) x2, hmem wr (by omega) x3, fun r hr => hmem r (by have := (hM.own.it.bound r hr).1; omega) (hM.own.it.bound r hr).2⟩ ⟨.vs .nil [], rfl, by omega, by simp, by rw [hp 1 (by omega)]; exact g12, by rw [AMem.get_push, if_pos rfl], ⟨rfl, .inl ⟨rfl, rfl⟩⟩, fun _ => rfl⟩ t15
        refine ⟨_, out, e1, by rw [AMem.get_put, if_neg (by omega)]; exact h3, ⟨⟨h5.1, ?_⟩, h6, ?_⟩⟩
        · rcases h5.2 with h | ⟨r, a1, a2, a3, a4⟩
          · exact .inl h
          · exact .inr ⟨r, by omega, by simpa using a2, a3, by rw [AMem.get_put, if_neg (by omega)]; exact a4⟩
        · intro r j c z e
          rcases h5.2 with ⟨_, h⟩ | ⟨r', a1, a2, a3, a4⟩
          · rw [h] at e; cases e
          · rw [a3] at e
            simp only [AVal.slice.injEq] at e
            omega
      obtain ⟨σ', out, rfl, z1, z2⟩ := hrng _ _ (by simp only [Tr.get_set, zEq, reduceIte]) (by simp only [Tr.get_set, zEq, reduceIte]) hR
      have hoo := grew_one z2.1
      have hoc := one_cells hoo
      simp only [dx, reduceIte, zLt, zLe, zEq, zAd, zMu, zSu, zBe, yEq, yLt, yLe, yTn, reduceCtorEq, sx, fx15, z1, hoo, hoc]
      refine ⟨_, _, out, rfl, by simp only [Tr.get_set, zEq, reduceIte], by simp only [Tr.get_set, zEq, reduceIte], by rw [AMem.get_put, if_pos rfl], z2.same (by simp) (fun r h1 h2 => by rw [AMem.get_put, if_neg (by omega)]) (.inl rfl)⟩
    obtain ⟨T1, σ', out, r1, r2, r3, r4, r5⟩ := run
    obtain ⟨S, hS⟩ := snap_prs (fr := true) (d := 9) r5
    refine pureRun_of (vs := [out, .int .i64 0]) (seen := S ++ ([] ++ [])) fn15 rfl (by simp [Try.f15]) r1 (by simp) ?_ ?_
    · simp only [Try.f15, resultsA, resultA, dx, reduceIte, zLt, zLe, zEq, zAd, zMu, zSu, zBe, yEq, yLt, yLe, yTn, reduceCtorEq, sx, fx15, r2, r3, r4]
    · have c2 : snapF true σ' 11 (.int .i64 0) = some (.int .i64 0, []) := rfl
      show snapF true σ' (11 + 1) (.tuple [out, .int .i64 0]) = _
      rw [snapF]
      simp only [snapL, hS, c2, Option.map_some]
theorem Blocks_call {v : AVal} {ps : List Pg} {ws : List Int} (hv : VH v ps ws) (hb : Bd ps ws) (hk : 9001 ≤ k) : pureCall lawProg (callN lawProg k) (.func 15 [] []) [v] σ = some (if rightB ps ws then .tuple [.vs (lkOf (blocksL ps).length) (prsV (blocksL ps)), .int .i64 0] else .tuple [.vs .nil [], .int .i64 4], σ) := by
  obtain ⟨k, rfl⟩ : ∃ m, k = m + 1 := ⟨k - 1, by omega⟩
  refine pureCall_of (args' := [v]) (seen := [] ++ []) ?_ (memo15 _) (Blocks_run hv hb (by omega))
  have := hv.snap σ 10
  simp only [snapL, snapDepth, this]
end Go.Proofs.Ytjkfdiglokkceaa

/- Heaps: the program's Space. -/
set_option maxRecDepth 100000
set_option linter.unusedSimpArgs false
set_option linter.unusedVariables false
namespace Go.Proofs.Ytjkfdiglokkceaa
open Go Go.Proofs.Ytjkfdiglokkceaa.Pale
variable {k : Nat} {σ : AMem}

/-- The greatest run of free pages, of so many at most. -/
def grRun (ps : List Pg) : Nat → Option Nat
  | 0 => none
  | m + 1 => if (runL ps (m + 1)).isSome then some (m + 1) else grRun ps m
def grSmall (ps : List Pg) : Int := if (placeL ps 32).isSome then 32 else if (placeL ps 16).isSome then 16 else if (placeL ps 8).isSome then 8 else if (placeL ps 4).isSome then 4 else if (placeL ps 2).isSome then 2 else 0
def greatL (ps : List Pg) : Int := match grRun ps 40 with
  | some m => ((64 * m : Nat) : Int)
  | none => grSmall ps
end Go.Proofs.Ytjkfdiglokkceaa

/- Heaps: how many words the blocks have, when one is handed out or given back. No program in sight. -/
set_option maxRecDepth 100000
set_option linter.unusedSimpArgs false
set_option linter.unusedVariables false
namespace Go.Proofs.Ytjkfdiglokkceaa
open Go Go.Proofs.Ytjkfdiglokkceaa.Pale

theorem smallTo_slot {i : Nat} {p : Pg} : ∀ {m : Nat} {c : Blk}, c ∈ smallTo i p m → c.slot < m := by
  intro m
  induction m with
  | zero => intro c h; simp [smallTo] at h
  | succ m ih =>
    intro c h
    rw [smallTo_succ, List.mem_append] at h
    rcases h with h | h
    · have := ih h; omega
    · split at h
      · simp only [List.mem_singleton] at h
        rw [h]
        show m < m + 1
        omega
      · cases h
theorem small_nodup (i : Nat) (p : Pg) : ∀ m, (smallTo i p m).Nodup := by
  intro m
  induction m with
  | zero => simp [smallTo]
  | succ m ih =>
    rw [smallTo_succ, List.nodup_append]
    refine ⟨ih, ?_, ?_⟩
    · split <;> simp
    · intro a ha b hb e
      subst e
      have h1 := smallTo_slot ha
      split at hb
      · simp only [List.mem_singleton] at hb
        rw [hb] at h1
        have : (slotB i p m).slot = m := rfl
        omega
      · cases hb
theorem blocksTo_page {ps : List Pg} : ∀ {n : Nat} {c : Blk}, c ∈ blocksTo ps n → c.page < n := by
  intro n
  induction n with
  | zero => intro c h; simp [blocksTo] at h
  | succ n ih =>
    intro c h
    rw [blocksTo_succ, List.mem_append] at h
    rcases h with h | h
    · have := ih h; omega
    · rw [pgB_page h]; omega
theorem blocks_nodup (ps : List Pg) : (blocksL ps).Nodup := by
  have key : ∀ n, (blocksTo ps n).Nodup := by
    intro n
    induction n with
    | zero => simp [blocksTo]
    | succ n ih =>
      rw [blocksTo_succ, List.nodup_append]
      refine ⟨ih, ?_, ?_⟩
      · unfold pgB
        split
        · simp
        · split
          · exact small_nodup _ _ _
          · simp
      · intro a ha b hb e
        subst e
        have h1 := blocksTo_page ha
        rw [pgB_page hb] at h1
        omega
  exact key _
end Go.Proofs.Ytjkfdiglokkceaa

/- Heaps: the greatest block that can be handed out. No program in sight. -/
set_option maxRecDepth 100000
set_option linter.unusedSimpArgs false
set_option linter.unusedVariables false
namespace Go.Proofs.Ytjkfdiglokkceaa
open Go Go.Proofs.Ytjkfdiglokkceaa.Pale

theorem grRun_some {ps : List Pg} {m : Nat} : ∀ {n : Nat}, grRun ps n = some m → 1 ≤ m ∧ m ≤ n ∧ (runL ps m).isSome = true ∧ ∀ j, m < j → j ≤ n → runL ps j = none := by
  intro n
  induction n with
  | zero => intro h; cases h
  | succ n ih =>
    intro h
    unfold grRun at h
    split at h
    · rename_i hs
      cases h
      exact ⟨by omega, by omega, hs, fun j h1 h2 => by omega⟩
    · rename_i hs
      obtain ⟨a, b, c, d⟩ := ih h
      refine ⟨a, by omega, c, fun j h1 h2 => ?_⟩
      by_cases e : j = n + 1
      · subst e
        simpa using hs
      · exact d j h1 (by omega)
theorem grRun_none {ps : List Pg} : ∀ {n : Nat}, grRun ps n = none → ∀ j, 1 ≤ j → j ≤ n → runL ps j = none := by
  intro n
  induction n with
  | zero => intro _ j h1 h2; omega
  | succ n ih =>
    intro h j h1 h2
    unfold grRun at h
    split at h
    · cases h
    · rename_i hs
      by_cases e : j = n + 1
      · subst e
        simpa using hs
      · exact ih h j h1 (by omega)
/-- The greatest number, of so many at most, that can be handed out. -/
def greatTo (ps : List Pg) : Nat → Int
  | 0 => 0
  | n + 1 => if (allocL ps ((n + 1 : Nat) : Int)).isSome then ((n + 1 : Nat) : Int) else greatTo ps n
theorem greatTo_none {ps : List Pg} : ∀ {N : Nat}, (∀ n : Nat, 1 ≤ n → n ≤ N → allocL ps (n : Nat) = none) → greatTo ps N = 0 := by
  intro N
  induction N with
  | zero => intro _; rfl
  | succ N ih =>
    intro h
    rw [greatTo, h (N + 1) (by omega) (by omega), if_neg (by simp)]
    exact ih fun n h1 h2 => h n h1 (by omega)
theorem greatTo_max {ps : List Pg} {a : Nat} (ha : (allocL ps (a : Nat)).isSome = true) (h1 : 1 ≤ a) : ∀ {N : Nat}, a ≤ N → (∀ n : Nat, a < n → n ≤ N → allocL ps (n : Nat) = none) → greatTo ps N = (a : Nat) := by
  intro N
  induction N with
  | zero => intro h _; omega
  | succ N ih =>
    intro h hn
    by_cases e : a = N + 1
    · subst e
      rw [greatTo, if_pos ha]
    · rw [greatTo, hn (N + 1) (by omega) (by omega), if_neg (by simp)]
      exact ih (by omega) fun n h1 h2 => hn n h1 (by omega)
theorem alloc_large {ps : List Pg} {n : Nat} (h : 32 < n) : (allocL ps (n : Nat)).isSome = (runL ps ((n + 63) / 64)).isSome := by
  have hq : ((((n : Nat) : Int) + 63) / 64).toNat = (n + 63) / 64 := by omega
  unfold allocL
  rw [if_pos (by omega), hq]
  cases runL ps ((n + 63) / 64) <;> rfl
theorem alloc_small {ps : List Pg} {n : Nat} (h : n ≤ 32) (hr : runL ps 1 = none) : (allocL ps (n : Nat)).isSome = (placeL ps (sizeF (n : Nat))).isSome := by
  unfold allocL
  rw [if_neg (by omega)]
  cases placeL ps (sizeF (n : Nat)) with
  | some x => rfl
  | none => simp only [hr]; rfl
theorem sizeF_at (n : Nat) (h : n ≤ 32) : (n ≤ 2 ∧ sizeF (n : Nat) = 2) ∨ (2 < n ∧ n ≤ 4 ∧ sizeF (n : Nat) = 4) ∨ (4 < n ∧ n ≤ 8 ∧ sizeF (n : Nat) = 8) ∨ (8 < n ∧ n ≤ 16 ∧ sizeF (n : Nat) = 16) ∨ (16 < n ∧ sizeF (n : Nat) = 32) := by
  unfold sizeF
  by_cases h2 : n ≤ 2
  · exact .inl ⟨h2, by rw [if_pos (by omega)]⟩
  · by_cases h4 : n ≤ 4
    · exact .inr (.inl ⟨by omega, h4, by rw [if_neg (by omega), if_pos (by omega)]⟩)
    · by_cases h8 : n ≤ 8
      · exact .inr (.inr (.inl ⟨by omega, h8, by rw [if_neg (by omega), if_neg (by omega), if_pos (by omega)]⟩))
      · by_cases h16 : n ≤ 16
        · exact .inr (.inr (.inr (.inl ⟨by omega, h16, by rw [if_neg (by omega), if_neg (by omega), if_neg (by omega), if_pos (by omega)]⟩)))
        · exact .inr (.inr (.inr (.inr ⟨by omega, by rw [if_neg (by omega), if_neg (by omega), if_neg (by omega), if_neg (by omega)]⟩)))
theorem none_of {α : Type} {o : Option α} (h : o.isSome = false) : o = none := by
  cases o with
  | none => rfl
  | some x => cases h
theorem great_eq {ps : List Pg} (h1 : 1 ≤ ps.length) (h2 : ps.length ≤ 40) : greatTo ps (64 * ps.length) = greatL ps := by
  unfold greatL
  cases hg : grRun ps 40 with
  | some m =>
    obtain ⟨a, b, c, d⟩ := grRun_some hg
    have hf : m ≤ ps.length := by
      cases hr : runL ps m with
      | none => rw [hr] at c; cases c
      | some f => have := (runL_some hr).1; omega
    refine greatTo_max ?_ (by omega) (by omega) fun n hn1 hn2 => none_of ?_
    · rw [alloc_large (by omega), show (64 * m + 63) / 64 = m by omega]
      exact c
    · rw [alloc_large (by omega), d _ (by omega) (by omega)]
      rfl
  | none =>
    have hd := grRun_none hg
    have hr1 := hd 1 (by omega) (by omega)
    have hlarge : ∀ n : Nat, 32 < n → n ≤ 64 * ps.length → allocL ps (n : Nat) = none := fun n a b => none_of (by rw [alloc_large a, hd _ (by omega) (by omega)]; rfl)
    have hsmall : ∀ n : Nat, n ≤ 32 → (placeL ps (sizeF (n : Nat))).isSome = false → allocL ps (n : Nat) = none := fun n a b => none_of (by rw [alloc_small a hr1, b])
    have hsome : ∀ n : Nat, n ≤ 32 → (placeL ps (sizeF (n : Nat))).isSome = true → (allocL ps (n : Nat)).isSome = true := fun n a b => by rw [alloc_small a hr1, b]
    show greatTo ps (64 * ps.length) = grSmall ps
    unfold grSmall
    have pick : ∀ s : Nat, 1 ≤ s → s ≤ 32 → (placeL ps (sizeF (s : Nat))).isSome = true → (∀ n : Nat, s < n → n ≤ 32 → (placeL ps (sizeF (n : Nat))).isSome = false) → greatTo ps (64 * ps.length) = (s : Nat) := fun s a b c d => greatTo_max (hsome s b c) a (by omega) fun n e f => by
      by_cases g : n ≤ 32
      · exact hsmall n g (d n e g)
      · exact hlarge n (by omega) f
    cases p32 : (placeL ps 32).isSome with
    | true => rw [if_pos rfl]; exact pick 32 (by omega) (by omega) p32 fun n a b => by omega
    | false =>
      rw [if_neg (by simp)]
      cases p16 : (placeL ps 16).isSome with
      | true =>
        rw [if_pos rfl]
        refine pick 16 (by omega) (by omega) p16 fun n a b => ?_
        rcases sizeF_at n b with ⟨x, e⟩ | ⟨x, y, e⟩ | ⟨x, y, e⟩ | ⟨x, y, e⟩ | ⟨x, e⟩ <;> first | omega | (rw [e]; assumption)
      | false =>
        rw [if_neg (by simp)]
        cases p8 : (placeL ps 8).isSome with
        | true =>
          rw [if_pos rfl]
          refine pick 8 (by omega) (by omega) p8 fun n a b => ?_
          rcases sizeF_at n b with ⟨x, e⟩ | ⟨x, y, e⟩ | ⟨x, y, e⟩ | ⟨x, y, e⟩ | ⟨x, e⟩ <;> first | omega | (rw [e]; assumption)
        | false =>
          rw [if_neg (by simp)]
          cases p4 : (placeL ps 4).isSome with
          | true =>
            rw [if_pos rfl]
            refine pick 4 (by omega) (by omega) p4 fun n a b => ?_
            rcases sizeF_at n b with ⟨x, e⟩ | ⟨x, y, e⟩ | ⟨x, y, e⟩ | ⟨x, y, e⟩ | ⟨x, e⟩ <;> first | omega | (rw [e]; assumption)
          | false =>
            rw [if_neg (by simp)]
            cases p2 : (placeL ps 2).isSome with
            | true =>
              rw [if_pos rfl]
              refine pick 2 (by omega) (by omega) p2 fun n a b => ?_
              rcases sizeF_at n b with ⟨x, e⟩ | ⟨x, y, e⟩ | ⟨x, y, e⟩ | ⟨x, y, e⟩ | ⟨x, e⟩ <;> first | omega | (rw [e]; assumption)
            | false =>
              rw [if_neg (by simp)]
              refine greatTo_none fun n a b => ?_
              by_cases g : n ≤ 32
              · refine hsmall n g ?_
                rcases sizeF_at n g with ⟨x, e⟩ | ⟨x, y, e⟩ | ⟨x, y, e⟩ | ⟨x, y, e⟩ | ⟨x, e⟩ <;> (rw [e]; assumption)
              · exact hlarge n (by omega) b
end Go.Proofs.Ytjkfdiglokkceaa

/- Heaps: New; the reference's Space; lists of pairs that are compared. -/
set_option maxRecDepth 100000
set_option linter.unusedSimpArgs false
set_option linter.unusedVariables false
namespace Go.Proofs.Ytjkfdiglokkceaa
open Go Go.Proofs.Ytjkfdiglokkceaa.Pale
variable {k : Nat} {σ : AMem}

def newPs (n : Int) : List Pg := if 1 ≤ n ∧ n ≤ 40 then List.replicate n.toNat noPg else []
def newWs (n : Int) : List Int := if 1 ≤ n ∧ n ≤ 40 then List.replicate (64 * n.toNat) 0 else []
def newE (n : Int) : Int := if 1 ≤ n ∧ n ≤ 40 then 0 else 3
theorem new_heap {m : Nat} {σ : AMem} {r pr wr : Nat} (h1 : σ.get r = some (.row 2 true [.slice pr 0 m (some m) 3, .slice wr 0 (64 * m) (some (64 * m)) 1])) (h2 : σ.get pr = some (.row 3 true (repZ [.int .u8 0, .int .i64 0, .vs .nil []] m))) (h3 : σ.get wr = some (.row 1 false (repZ [.int .i64 0] (64 * m)))) (hn : r < pr ∧ pr < wr ∧ wr < σ.next) : HeapM 0 σ r pr (some m) wr (some (64 * m)) (List.replicate m zItem) (List.replicate m noPg) (List.replicate (64 * m) 0) := by
  have hz : rowsOf (List.replicate m zItem) = [] := by
    unfold rowsOf
    rw [List.flatMap_eq_nil_iff]
    intro a ha
    rw [List.eq_of_mem_replicate ha]
    rfl
  refine ⟨⟨by rw [List.length_replicate, List.length_replicate]; exact h1, by rw [← repZ_items]; exact h2, ?_, ⟨fun a ha => ?_, by rw [hz]; simp, by rw [hz]; simp⟩, by rw [hz]; simp, by rw [hz]; simp, ⟨by omega, by omega, by omega⟩, ⟨by omega, by omega, by omega⟩, ⟨by omega, by omega, by omega⟩⟩, ?_, fun a ha => ?_⟩
  · rw [h3, repZ_one]
    unfold intV
    rw [List.map_replicate]
  · rw [List.eq_of_mem_replicate ha]
    exact ⟨rfl, rfl, .inl ⟨.nil, rfl⟩⟩
  · rw [List.map_replicate, List.map_replicate]
    rfl
  · rw [List.eq_of_mem_replicate ha]
    exact .inl ⟨rfl, rfl⟩
set_option maxHeartbeats 1000000 in
theorem New_call (n : Int) (hk : 5 ≤ k) : ∃ v, (∀ σ, pureCall lawProg (callN lawProg k) (.func 13 [] []) [.int .i64 n] σ = some (.tuple [v, .int .i64 (newE n)], σ)) ∧ VH v (newPs n) (newWs n) := by
  obtain ⟨k, rfl⟩ : ∃ m, k = m + 1 := ⟨k - 1, by omega⟩
  have hw := fun (σ : AMem) => within_call (k := k) (σ := σ) 1 40 n (by omega)
  have fin : ∀ (T1 : Tr AVal) (σ' : AMem) (o0 o1 : AVal) (e : Int) (v' : AVal) (S : List Nat) (qs : List Pg) (us : List Int), execC lawProg (callN lawProg k) k 13 14 (bodyOf Try.f13) (initT 0 [.int .i64 n] .nil) AMem.empty = some (.ret, T1, σ') → T1.get 2 = some (.ptr 0 0) → T1.get 3 = some (.int .i64 e) → σ'.get 0 = some (.row 2 true [o0, o1]) → snapF true σ' 11 (.agg [o0, o1]) = some (v', S) → VH v' qs us → ∃ v', (∀ σ, pureCall lawProg (callN lawProg (k + 1)) (.func 13 [] []) [.int .i64 n] σ = some (.tuple [v', .int .i64 e], σ)) ∧ VH v' qs us := by
    intro T1 σ' o0 o1 e v' S qs us r1 r2 r3 r5 hS hvh
    refine ⟨v', fun σ => pureCall_of (args' := [.int .i64 n]) (seen := []) rfl (memo13 _) (pureRun_of (vs := [.agg [o0, o1], .int .i64 e]) (seen := S ++ ([] ++ [])) fn13 rfl (by simp [Try.f13]) r1 (by simp) ?_ ?_), hvh⟩
    · simp only [Try.f13, resultsA, resultA, dx, reduceIte, zLt, zLe, zEq, zAd, zMu, zSu, zBe, yEq, yLt, yLe, yTn, reduceCtorEq, sx, fx13, r2, r3, r5]
    · have c2 : snapF true σ' 11 (.int .i64 e) = some (.int .i64 e, []) := rfl
      show snapF true σ' (11 + 1) (.tuple [.agg [o0, o1], .int .i64 e]) = _
      rw [snapF]
      simp only [snapL, hS, c2, Option.map_some]
  unfold newE newPs newWs
  by_cases hn : 1 ≤ n ∧ n ≤ 40
  · rw [if_pos hn, if_pos hn, if_pos hn]
    rw [decide_eq_true hn] at hw
    obtain ⟨m, rfl⟩ : ∃ m : Nat, n = (m : Nat) := ⟨n.toNat, by omega⟩
    have w1 : IntKind.i64.wrap (((m : Nat) : Int) * 64) = ((64 * m : Nat) : Int) := by rw [i64_id (by omega) (by omega)]; omega
    have cm : (0 : Int) ≤ ((m : Nat) : Int) ∧ ((m : Nat) : Int) ≤ ((m : Nat) : Int) ∧ ((m : Nat) : Int) * ((40 : Nat) : Int) ≤ ((mostBytes : Nat) : Int) ∧ ((m : Nat) : Int) ≤ 9223372036854775807 := by unfold mostBytes; omega
    have cw : (0 : Int) ≤ ((64 * m : Nat) : Int) ∧ ((64 * m : Nat) : Int) ≤ ((64 * m : Nat) : Int) ∧ ((64 * m : Nat) : Int) * ((8 : Nat) : Int) ≤ ((mostBytes : Nat) : Int) ∧ ((64 * m : Nat) : Int) ≤ 9223372036854775807 := by unfold mostBytes; omega
    obtain ⟨σ1, hσ1⟩ : ∃ s, s = (((AMem.empty.push (.row 2 true [.vs .nil [], .vs .nil []])).push (.row 3 true (repZ [.int .u8 0, .int .i64 0, .vs .nil []] m))).push (.row 1 false (repZ [.int .i64 0] (64 * m)))).put 0 (.row 2 true [.slice 1 0 m (some m) 3, .slice 2 0 (64 * m) (some (64 * m)) 1]) := ⟨_, rfl⟩
    have n1 : σ1.next = 3 := by rw [hσ1]; simp [next_empty]
    have g0 : σ1.get 0 = some (.row 2 true [.slice 1 0 m (some m) 3, .slice 2 0 (64 * m) (some (64 * m)) 1]) := by rw [hσ1, AMem.get_put, if_pos rfl]
    have g1 : σ1.get 1 = some (.row 3 true (repZ [.int .u8 0, .int .i64 0, .vs .nil []] m)) := by rw [hσ1]; simp [AMem.get_push, AMem.get_put, next_empty]
    have g2 : σ1.get 2 = some (.row 1 false (repZ [.int .i64 0] (64 * m))) := by rw [hσ1]; simp [AMem.get_push, AMem.get_put, next_empty]
    have run : ∃ T1, execC lawProg (callN lawProg k) k 13 14 (bodyOf Try.f13) (initT 0 [.int .i64 (m : Nat)] .nil) AMem.empty = some (.ret, T1, σ1) ∧ T1.get 2 = some (.ptr 0 0) ∧ T1.get 3 = some (.int .i64 0) := by
      rw [hσ1]
      simp only [bodyOf, Try.f13, Option.getD_some, initT, dx, reduceIte, zLt, zLe, zEq, zAd, zMu, zSu, zBe, yEq, yLt, yLe, yTn, reduceCtorEq, sx, fx13, hw, w1, cm, cw, Int.toNat_natCast]
      exact ⟨_, rfl, by simp only [Tr.get_set, zEq, reduceIte], by simp only [Tr.get_set, zEq, reduceIte]⟩
    obtain ⟨T1, r1, r2, r3⟩ := run
    obtain ⟨v', S, hS, hvh⟩ := (new_heap g0 g1 g2 ⟨by omega, by omega, by omega⟩).vh (fr := true) 7
    rw [List.length_replicate, List.length_replicate] at hS
    rw [Int.toNat_natCast]
    exact fin T1 σ1 _ _ 0 v' S _ _ r1 r2 r3 g0 hS hvh
  · rw [if_neg hn, if_neg hn, if_neg hn]
    rw [decide_eq_false hn] at hw
    have run : ∃ T1 σ', execC lawProg (callN lawProg k) k 13 14 (bodyOf Try.f13) (initT 0 [.int .i64 n] .nil) AMem.empty = some (.ret, T1, σ') ∧ T1.get 2 = some (.ptr 0 0) ∧ T1.get 3 = some (.int .i64 3) ∧ σ'.get 0 = some (.row 2 true [.vs .nil [], .vs .nil []]) := by
      simp only [bodyOf, Try.f13, Option.getD_some, initT, dx, reduceIte, zLt, zLe, zEq, zAd, zMu, zSu, zBe, yEq, yLt, yLe, yTn, reduceCtorEq, sx, fx13, hw]
      exact ⟨_, _, rfl, by simp only [Tr.get_set, zEq, reduceIte], by simp only [Tr.get_set, zEq, reduceIte], by rw [AMem.get_put, if_pos rfl]⟩
    obtain ⟨T1, σ', r1, r2, r3, r5⟩ := run
    exact fin T1 σ' _ _ 3 _ _ [] [] r1 r2 r3 r5 (snap_hp0 _ 9) nil_vh
end Go.Proofs.Ytjkfdiglokkceaa

/- HeapChecks: the run. -/
set_option maxRecDepth 100000
set_option linter.unusedSimpArgs false
set_option linter.unusedVariables false
namespace Go.Proofs.Ytjkfdiglokkceaa
open Go Go.Proofs.Ytjkfdiglokkceaa.Pale
variable {k : Nat} {σ : AMem}

theorem pCheck_vh {v : AVal} {ps : List Pg} {ws : List Int} (hv : VH v ps ws) (hb : Bd ps ws) (hk : 8000 ≤ k) (σ : AMem) : pureCall lawProg (callN lawProg k) (.func 20 [] []) [v] σ = some (.int .i64 (if rightB ps ws then 0 else 4), σ) := by
  obtain ⟨kp, kw, l, rfl, rfl, hkp, hkw, hx⟩ := hv
  have hl : (pgsOf l).length = l.length := by simp [pgsOf]
  obtain ⟨b1, b2, b3⟩ := hb
  exact pCheck_call hkp hkw (fun x hm => ⟨(hx x hm).1, (hx x hm).2, b3 x.1 (List.mem_map.2 ⟨x, hm, rfl⟩)⟩) (by omega) (by omega) hk
end Go.Proofs.Ytjkfdiglokkceaa

/- Heaps: what there is no room for. No program in sight. -/
set_option maxRecDepth 100000
set_option linter.unusedSimpArgs false
set_option linter.unusedVariables false
namespace Go.Proofs.Ytjkfdiglokkceaa
open Go Go.Proofs.Ytjkfdiglokkceaa.Pale

theorem greatTo_least {ps : List Pg} {a : Nat} (ha : (allocL ps (a : Nat)).isSome = true) : ∀ N, a ≤ N → (a : Int) ≤ greatTo ps N := by
  intro N
  induction N with
  | zero => intro h; rw [greatTo]; omega
  | succ N ih =>
    intro h
    by_cases e : a = N + 1
    · subst e
      rw [greatTo, if_pos ha]
      exact Int.le_refl _
    · rw [greatTo]
      split
      · omega
      · exact ih (by omega)
/-- What was handed out. -/
theorem alloc_some {ps qs : List Pg} {n : Nat} {b : Blk} (hs : Shape ps) (h1 : 1 ≤ ps.length ∧ ps.length ≤ 40) (hn : 1 ≤ n) (h : allocL ps (n : Nat) = some (qs, b)) : ((n : Nat) : Int) ≤ b.size ∧ ((n : Nat) : Int) ≤ greatL ps ∧ ((b.size ≤ 32 ∧ (b.size < 2 * (n : Int) ∨ b.size = 2)) ∨ (b.size > 32 ∧ b.size < (n : Int) + 64)) := by
  obtain ⟨_, g2, _, _, _, _, _, g8⟩ := alloc_right hs (by omega) h
  have hle : n ≤ 64 * ps.length := by
    by_cases h32 : n ≤ 32
    · omega
    · have := alloc_large (ps := ps) (n := n) (by omega)
      rw [h] at this
      cases hr : runL ps ((n + 63) / 64) with
      | none => rw [hr] at this; cases this
      | some f => have := (runL_some hr).1; omega
  have hgr : ((n : Nat) : Int) ≤ greatL ps := by
    rw [← great_eq h1.1 h1.2]
    exact greatTo_least (by rw [h]; rfl) _ hle
  rcases g8 with ⟨_, _, e, h32, _⟩ | ⟨_, _, e, h32, _⟩
  · refine ⟨by omega, hgr, .inr ⟨by omega, by omega⟩⟩
  · rcases sizeF_at n (by omega) with ⟨x, f⟩ | ⟨x, y, f⟩ | ⟨x, y, f⟩ | ⟨x, y, f⟩ | ⟨x, f⟩ <;> rw [f] at e <;> exact ⟨by omega, hgr, .inl ⟨by omega, by omega⟩⟩
end Go.Proofs.Ytjkfdiglokkceaa

/- Heaps: acts: what they do; the program's act. -/
set_option maxRecDepth 100000
set_option linter.unusedSimpArgs false
set_option linter.unusedVariables false
namespace Go.Proofs.Ytjkfdiglokkceaa
open Go Go.Proofs.Ytjkfdiglokkceaa.Pale
variable {k : Nat} {σ : AMem}

structure Act where
  kind : Int
  at_ : Int
  n : Int
  words : List Int
abbrev AV := Act × VK
theorem put_right {ps : List Pg} {ws l : List Int} {b : Blk} (h : RightH ps ws) (hb : b ∈ blocksL ps) (hall : l.all wordQ = true) : RightH ps (putW ws b l) := by
  have hl := h.len
  refine ⟨h.many, by rw [putW_length]; exact hl, fun w hw => ?_, h.shape, (zeros_iff h.shape (by rw [putW_length]; exact hl)).2 fun k hk => ?_⟩
  · obtain ⟨k, hk, rfl⟩ := List.mem_iff_getElem.1 hw
    have hk' : k < ws.length := by rw [putW_length] at hk; exact hk
    rw [← wdAt_lt hk, wdAt_put hk']
    split
    · by_cases hj : k - b.at_.toNat < l.length
      · rw [wdAt_lt hj]
        have := List.all_eq_true.1 hall _ (List.getElem_mem hj)
        unfold wordQ at this
        unfold maxWord
        exact of_decide_eq_true this
      · rw [wdAt_none (by omega)]
        unfold maxWord; omega
    · rw [wdAt_lt hk']; exact h.words _ (List.getElem_mem hk')
  · have hk' : k < ws.length := by rw [putW_length] at hk; exact hk
    rw [wdAt_put hk']
    by_cases e : b.at_ ≤ (k : Int) ∧ (k : Int) < b.at_ + b.size
    · exact .inl ⟨b, hb, e.1, e.2⟩
    · rw [if_neg e]
      exact (zeros_iff h.shape hl).1 h.zeros k hk'
end Go.Proofs.Ytjkfdiglokkceaa

/- Heaps: copies of acts; acts done one after the other: what they leave. -/
set_option maxRecDepth 100000
set_option linter.unusedSimpArgs false
set_option linter.unusedVariables false
namespace Go.Proofs.Ytjkfdiglokkceaa
open Go Go.Proofs.Ytjkfdiglokkceaa.Pale
variable {k : Nat} {σ : AMem}

structure PRes where
  ps : List Pg
  ws : List Int
  gave : List Int
  i : Nat
  e : Int
end Go.Proofs.Ytjkfdiglokkceaa

/- Heaps: the program's Play. -/
set_option maxRecDepth 100000
set_option linter.unusedSimpArgs false
set_option linter.unusedVariables false
namespace Go.Proofs.Ytjkfdiglokkceaa
open Go Go.Proofs.Ytjkfdiglokkceaa.Pale
variable {k : Nat} {σ : AMem}

theorem HeapM.bound {low sp pr wr : Nat} {pc wc : Option Nat} {its : List MItem} {ps : List Pg} {ws : List Int} (h : HeapM low σ sp pr pc wr wc its ps ws) : ∀ r, r ∈ hrows sp pr wr its → low ≤ r ∧ r < σ.next := by
  intro r hr
  simp only [hrows, List.mem_cons] at hr
  obtain ⟨l1, l2, l3⟩ := h.own.lo
  obtain ⟨x1, x2, x3⟩ := h.own.nx
  rcases hr with rfl | rfl | rfl | hr
  · exact ⟨l1, x1⟩
  · exact ⟨l2, x2⟩
  · exact ⟨l3, x3⟩
  · exact h.own.it.bound r hr
theorem HeapM.keep {low sp pr wr : Nat} {σ' : AMem} {pc wc : Option Nat} {its : List MItem} {ps : List Pg} {ws : List Int} (h : HeapM low σ sp pr pc wr wc its ps ws) (hn : σ.next ≤ σ'.next) (hh : ∀ r, r ∈ hrows sp pr wr its → σ'.get r = σ.get r) : HeapM low σ' sp pr pc wr wc its ps ws := by
  have h1 := hh sp (by simp [hrows])
  have h2 := hh pr (by simp [hrows])
  have h3 := hh wr (by simp [hrows])
  obtain ⟨x1, x2, x3⟩ := h.own.nx
  exact ⟨⟨by rw [h1]; exact h.own.ms, by rw [h2]; exact h.own.mp, by rw [h3]; exact h.own.mw, h.own.it.same (Nat.le_refl _) hn (fun r hr => hh r (by simp only [hrows, List.mem_cons]; exact .inr (.inr (.inr hr)))) h.own.it.2.2, h.own.ns, h.own.nw, h.own.ne, h.own.lo, ⟨by omega, by omega, by omega⟩⟩, h.pi, h.ox⟩
end Go.Proofs.Ytjkfdiglokkceaa

/- Heaps: what a map of blocks keeps, whatever is done. No program in sight. -/
set_option maxRecDepth 100000
set_option linter.unusedSimpArgs false
set_option linter.unusedVariables false
namespace Go.Proofs.Ytjkfdiglokkceaa
open Go Go.Proofs.Ytjkfdiglokkceaa.Pale

structure Held where
  at_ : Int
  n : Int
  words : List Int
def Kept (ps : List Pg) (ws : List Int) (x : Held) (b : Blk) : Prop := b ∈ blocksL ps ∧ b.at_ = x.at_ ∧ 1 ≤ x.n ∧ x.n ≤ 200 ∧ x.n ≤ b.size ∧ (x.words.length : Int) ≤ b.size ∧ ∀ k : Nat, (k : Int) < b.size → wdAt ws (b.at_.toNat + k) = wdAt x.words k
structure MapI (ps : List Pg) (ws : List Int) (l : List Held) : Prop where
  right : RightH ps ws
  kept : ∀ x, x ∈ l → ∃ b, Kept ps ws x b
  nodup : (l.map Held.at_).Nodup
  count : l.length = (blocksL ps).length
theorem MapI.find {ps : List Pg} {ws : List Int} {l : List Held} (h : MapI ps ws l) {x : Held} (hx : x ∈ l) : ∃ b, Kept ps ws x b ∧ findL ps x.at_ = some b := by
  obtain ⟨b, hb⟩ := h.kept x hx
  exact ⟨b, hb, by rw [← hb.2.1]; exact findL_of h.right.shape hb.1⟩
theorem MapI.few {ps : List Pg} {ws : List Int} {l : List Held} (h : MapI ps ws l) : l.length ≤ 2560 := by
  rw [h.count]
  have := blocks_count h.right.shape h.right.many.2
  omega
theorem free_perm {ps : List Pg} {b : Blk} (h : Shape ps) (hb : b ∈ blocksL ps) : (blocksL ps).length = (blocksL (freeL ps b)).length + 1 := by
  obtain ⟨_, _, h3⟩ := free_blocks h hb
  have hp : (blocksL ps).Perm (b :: blocksL (freeL ps b)) := by
    rw [List.perm_ext_iff_of_nodup (blocks_nodup ps) (List.nodup_cons.2 ⟨fun hm => ((h3 b).1 hm).2 rfl, blocks_nodup _⟩)]
    intro x
    rw [List.mem_cons, h3]
    constructor
    · intro hx
      by_cases e : x = b
      · exact .inl e
      · exact .inr ⟨hx, e⟩
    · rintro (rfl | ⟨hx, _⟩)
      · exact hb
      · exact hx
  simpa using hp.length_eq
theorem no_blocks (n : Nat) : blocksL (List.replicate n noPg) = [] := by
  cases hb : blocksL (List.replicate n noPg) with
  | nil => rfl
  | cons b l =>
    exfalso
    have hm : b ∈ blocksL (List.replicate n noPg) := by rw [hb]; simp
    obtain ⟨i, hi, hp⟩ := mem_blocks.1 hm
    have : pgAt (List.replicate n noPg) i = noPg := by rw [pgAt_lt hi, List.getElem_replicate]
    rw [this] at hp
    simp [pgB, noPg] at hp
theorem new_right {n : Int} (hn : 1 ≤ n ∧ n ≤ 40) : RightH (newPs n) (newWs n) ∧ blocksL (newPs n) = [] := by
  obtain ⟨m, rfl⟩ : ∃ m : Nat, n = (m : Nat) := ⟨n.toNat, by omega⟩
  unfold newPs newWs
  rw [if_pos hn, if_pos hn, Int.toNat_natCast]
  have hat : ∀ i, pgAt (List.replicate m noPg) i = noPg := fun i => by
    by_cases hi : i < (List.replicate m noPg).length
    · rw [pgAt_lt hi, List.getElem_replicate]
    · unfold pgAt
      rw [List.getElem?_eq_none (by omega)]
      rfl
  have hmore := moreAt_by (qs := List.replicate m noPg) (fun _ => 0) rfl (fun i hi => by rw [hat]; rfl)
  have hsh : Shape (List.replicate m noPg) := fun i hi => by
    rw [hat, hmore i (by omega)]
    rfl
  refine ⟨⟨by rw [List.length_replicate]; omega, by rw [List.length_replicate, List.length_replicate], fun w hw => ?_, hsh, (zeros_iff hsh (by rw [List.length_replicate, List.length_replicate])).2 fun k hk => .inr ?_⟩, no_blocks m⟩
  · rw [List.eq_of_mem_replicate hw]
    unfold maxWord; omega
  · rw [wdAt_lt hk, List.getElem_replicate]
theorem map_new {n : Int} (hn : 1 ≤ n ∧ n ≤ 40) : MapI (newPs n) (newWs n) [] := by
  obtain ⟨h1, h2⟩ := new_right hn
  exact ⟨h1, by simp, by simp, by rw [h2]; rfl⟩
theorem map_alloc {ps qs : List Pg} {ws : List Int} {l : List Held} {n : Nat} {b : Blk} (h : MapI ps ws l) (hn : 1 ≤ n ∧ n ≤ 200) (ha : allocL ps (n : Nat) = some (qs, b)) : MapI qs ws (l ++ [⟨b.at_, (n : Nat), []⟩]) := by
  obtain ⟨g1, _, g3, _, g5, g6, _⟩ := alloc_right h.right.shape (by omega) ha
  obtain ⟨hq, _⟩ := back_law h.right (by omega) ha
  obtain ⟨s1, _⟩ := alloc_some h.right.shape h.right.many hn.1 ha
  have hz := alloc_zero h.right (by omega) ha
  obtain ⟨_, _, f3⟩ := free_blocks g1 g3
  rw [g5] at f3
  have hc := free_perm g1 g3
  rw [g5] at hc
  obtain ⟨_, _, b3, _, b5, _⟩ := blk_page g1 g3
  refine ⟨hq, fun x hx => ?_, ?_, by rw [List.length_append, h.count, hc]; rfl⟩
  · rcases List.mem_append.1 hx with h1 | h1
    · obtain ⟨c, c1, c2⟩ := h.kept x h1
      exact ⟨c, g6 c c1, c2⟩
    · simp only [List.mem_singleton] at h1
      subst h1
      refine ⟨b, g3, rfl, by simp; omega, by simp; omega, s1, by simp; omega, fun k hk => ?_⟩
      rw [hz (b.at_.toNat + k) (by omega) (by omega), wdAt_none (by simp)]
  · rw [List.map_append, List.nodup_append]
    refine ⟨h.nodup, by simp, fun a ha' c hc' e => ?_⟩
    subst e
    obtain ⟨x, hx, e⟩ := List.mem_map.1 ha'
    simp only [List.map_cons, List.map_nil, List.mem_singleton] at hc'
    obtain ⟨d, d1, d2, _⟩ := h.kept x hx
    have hd := (f3 d).1 d1
    exact hd.2 (blk_unique g1 hd.1 g3 (by rw [d2, e, hc']))
/-- Other blocks lie elsewhere. -/
theorem kept_else {ps : List Pg} {ws : List Int} {x : Held} {b c : Blk} (h : RightH ps ws) (hb : b ∈ blocksL ps) (hx : Kept ps ws x c) (hne : c ≠ b) {k : Nat} (hk : (k : Int) < c.size) : c.at_.toNat + k < ws.length ∧ ¬ (b.at_ ≤ ((c.at_.toNat + k : Nat) : Int) ∧ ((c.at_.toNat + k : Nat) : Int) < b.at_ + b.size) := by
  obtain ⟨_, _, b3, _, _, b6⟩ := blk_page h.shape hx.1
  have := h.len
  have hap := blk_apart h.shape hx.1 hb hne
  exact ⟨by omega, by omega⟩
theorem at_ne {l : List Held} (h : (l.map Held.at_).Nodup) {i j : Nat} (hi : i < l.length) (hj : j < l.length) (hne : i ≠ j) : l[i].at_ ≠ l[j].at_ := by
  intro e
  apply hne
  have := (List.getElem_inj (i := i) (j := j) (h₀ := by simpa using hi) (h₁ := by simpa using hj) h).1 (by simpa using e)
  exact this
theorem map_free {ps : List Pg} {ws : List Int} {l : List Held} {i : Nat} {b : Blk} (h : MapI ps ws l) (hi : i < l.length) (hf : findL ps l[i].at_ = some b) : MapI (freeL ps b) (clearW ws b) (l.take i ++ l.drop (i + 1)) := by
  obtain ⟨hb, hba⟩ := findL_some hf
  obtain ⟨_, _, f3⟩ := free_blocks h.right.shape hb
  have hc := free_perm h.right.shape hb
  have her : l.take i ++ l.drop (i + 1) = l.eraseIdx i := (List.eraseIdx_eq_take_drop_succ l i).symm
  refine ⟨free_right h.right hb, fun x hx => ?_, ?_, ?_⟩
  · have hx' : ∃ j, ∃ hj : j < l.length, j ≠ i ∧ l[j] = x := by
      rcases List.mem_append.1 hx with h1 | h1
      · obtain ⟨j, hj, rfl⟩ := List.mem_iff_getElem.1 h1
        rw [List.length_take] at hj
        exact ⟨j, by omega, by omega, by rw [List.getElem_take]⟩
      · obtain ⟨j, hj, rfl⟩ := List.mem_iff_getElem.1 h1
        rw [List.length_drop] at hj
        exact ⟨i + 1 + j, by omega, by omega, by rw [List.getElem_drop]⟩
    obtain ⟨j, hj, hne, rfl⟩ := hx'
    obtain ⟨c, hk⟩ := h.kept l[j] (List.getElem_mem hj)
    have hcb : c ≠ b := by
      rintro rfl
      exact at_ne h.nodup hj hi hne (by rw [← hk.2.1, hba])
    refine ⟨c, (f3 c).2 ⟨hk.1, hcb⟩, hk.2.1, hk.2.2.1, hk.2.2.2.1, hk.2.2.2.2.1, hk.2.2.2.2.2.1, fun k hks => ?_⟩
    obtain ⟨e1, e2⟩ := kept_else h.right hb hk hcb hks
    rw [wdAt_clear e1, if_neg e2]
    exact hk.2.2.2.2.2.2 k hks
  · rw [her]
    exact h.nodup.sublist ((List.eraseIdx_sublist l i).map _)
  · rw [her, List.length_eraseIdx, if_pos hi, h.count, hc]
    omega
theorem map_put {ps : List Pg} {ws us : List Int} {l : List Held} {i : Nat} {b : Blk} (h : MapI ps ws l) (hi : i < l.length) (hf : findL ps l[i].at_ = some b) (hall : us.all wordQ = true) (hu : (us.length : Int) ≤ b.size) : MapI ps (putW ws b us) (l.set i { l[i] with words := us }) := by
  obtain ⟨hb, hba⟩ := findL_some hf
  refine ⟨put_right h.right hb hall, fun x hx => ?_, ?_, by rw [List.length_set]; exact h.count⟩
  · obtain ⟨j, hj, rfl⟩ := List.mem_iff_getElem.1 hx
    rw [List.length_set] at hj
    obtain ⟨c, hk⟩ := h.kept l[j] (List.getElem_mem hj)
    by_cases e : i = j
    · subst e
      rw [List.getElem_set_self]
      have hcb : c = b := blk_unique h.right.shape hk.1 hb (by rw [hk.2.1, hba])
      subst hcb
      obtain ⟨_, _, b3, _, _, b6⟩ := blk_page h.right.shape hb
      have hl := h.right.len
      refine ⟨c, hk.1, hk.2.1, hk.2.2.1, hk.2.2.2.1, hk.2.2.2.2.1, hu, fun k hks => ?_⟩
      rw [wdAt_put (by omega), if_pos (by omega)]
      rw [show c.at_.toNat + k - c.at_.toNat = k by omega]
    · rw [List.getElem_set_ne e]
      have hcb : c ≠ b := by
        rintro rfl
        exact at_ne h.nodup hi hj e (by rw [← hk.2.1, hba])
      refine ⟨c, hk.1, hk.2.1, hk.2.2.1, hk.2.2.2.1, hk.2.2.2.2.1, hk.2.2.2.2.2.1, fun k hks => ?_⟩
      obtain ⟨e1, e2⟩ := kept_else h.right hb hk hcb hks
      rw [wdAt_put e1, if_neg e2]
      exact hk.2.2.2.2.2.2 k hks
  · have : (l.set i { l[i] with words := us }).map Held.at_ = l.map Held.at_ := by
      rw [List.map_set]
      apply List.ext_getElem (by simp)
      intro j h1 h2
      rw [List.getElem_set]
      split
      · rename_i e
        subst e
        simp
      · rfl
    rw [this]
    exact h.nodup
end Go.Proofs.Ytjkfdiglokkceaa

/- HeapMap: asked, holds. -/
set_option maxRecDepth 100000
set_option linter.unusedSimpArgs false
set_option linter.unusedVariables false
namespace Go.Proofs.Ytjkfdiglokkceaa
open Go Go.Proofs.Ytjkfdiglokkceaa.Pale
variable {k : Nat} {σ : AMem}

theorem asked_call (z : Nat) (hz : z ≤ 255) (hk : 5 ≤ k) : ∃ n : Nat, (1 ≤ n ∧ n ≤ 200) ∧ ∀ σ, pureCall lawProg (callN lawProg k) (.func 38 [] []) [.int .u8 (z : Nat)] σ = some (.int .i64 (n : Nat), σ) := by
  obtain ⟨k, rfl⟩ : ∃ m, k = m + 1 := ⟨k - 1, by omega⟩
  have key : ∃ n : Nat, (1 ≤ n ∧ n ≤ 200) ∧ ∃ T1, execC lawProg (callN lawProg k) k 38 14 (bodyOf Try.f38) (initT 0 [.int .u8 (z : Nat)] .nil) AMem.empty = some (.ret, T1, AMem.empty) ∧ T1.get 2 = some (.int .i64 (n : Nat)) := by
    by_cases h : ((z : Nat) : Int) ≥ 200
    · refine ⟨32 + (z - 200) * 3, by omega, ?_⟩
      have w1 : IntKind.u8.wrap (((z : Nat) : Int) - 200) = ((z - 200 : Nat) : Int) := by
        rw [show ((z : Nat) : Int) - 200 = ((z - 200 : Nat) : Int) by omega, u8_nat]
        congr 1
        omega
      have w2 : IntKind.i64.wrap ((z - 200 : Nat) : Int) = ((z - 200 : Nat) : Int) := i64_id (by omega) (by omega)
      have w3 : IntKind.i64.wrap (((z - 200 : Nat) : Int) * 3) = (((z - 200) * 3 : Nat) : Int) := by rw [i64_id (by omega) (by omega)]; omega
      have w4 : IntKind.i64.wrap (32 + (((z - 200) * 3 : Nat) : Int)) = ((32 + (z - 200) * 3 : Nat) : Int) := by rw [i64_id (by omega) (by omega)]; omega
      simp only [bodyOf, Try.f38, Option.getD_some, initT, dx, reduceIte, zLt, zLe, zEq, zAd, zMu, zSu, zBe, yEq, yLt, yLe, yTn, reduceCtorEq, sx, fx38, h, w1, w2, w3, w4]
      exact ⟨_, rfl, by simp only [Tr.get_set, zEq, reduceIte]⟩
    · refine ⟨z % 40 + 1, by omega, ?_⟩
      have w1 : IntKind.i64.wrap ((z : Nat) : Int) = ((z : Nat) : Int) := i64_id (by omega) (by omega)
      have w2 : ((z : Nat) : Int).tmod 40 = ((z % 40 : Nat) : Int) := rfl
      have w3 : IntKind.i64.wrap (((z % 40 : Nat) : Int) + 1) = ((z % 40 + 1 : Nat) : Int) := by rw [i64_id (by omega) (by omega)]; omega
      have h40 : ¬ (40 : Int) = 0 := by omega
      simp only [bodyOf, Try.f38, Option.getD_some, initT, dx, reduceIte, zLt, zLe, zEq, zAd, zMu, zSu, zBe, yEq, yLt, yLe, yTn, reduceCtorEq, sx, fx38, h, w1, w2, w3, h40]
      exact ⟨_, rfl, by simp only [Tr.get_set, zEq, reduceIte]⟩
  obtain ⟨n, hn, T1, r1, r2⟩ := key
  refine ⟨n, hn, fun σ => pureCall_of rfl (memo38 _) (pureRun_of fn38 rfl (by simp [Try.f38]) r1 (by simp) (res_one r2) rfl)⟩
abbrev HV := Held × VK
def heldC (x : HV) : List AVal := [.int .i64 x.1.at_, .int .i64 x.1.n, .vs x.2 (intV x.1.words)]
def heldV (x : HV) : AVal := .agg (heldC x)
theorem heldV_get {l : List HV} {i : Nat} (hi : i < l.length) : (l.map heldV)[i]? = some (.agg (heldC l[i])) := by
  rw [List.getElem?_map, List.getElem?_eq_getElem hi]
  rfl
theorem seg_at {ws : List Int} {lo n k : Nat} (h : lo + n ≤ ws.length) (hk : k < n) : (intV (segW ws lo n))[k]? = some (.int .i64 (wdAt ws (lo + k))) := by
  have hl := segW_length h
  rw [intV_get (by omega)]
  congr 2
  unfold segW
  rw [List.getElem_drop, List.getElem_take, wdAt_lt (by omega)]
set_option maxHeartbeats 2000000 in
theorem holds_run {v : AVal} {ps : List Pg} {ws : List Int} (K : VK) (l : List HV) (hv : VH v ps ws) (hm : MapI ps ws (l.map Prod.fst)) (hk : 9100 ≤ k) : pureRun (callN lawProg (k + 1)) (.func 40 [] []) [v, .vs K (l.map heldV)] = some (.bool true, true) := by
  have hright := hm.right
  have hb := right_bd hright
  have hrb := rightB_true hright
  have hmany := hright.many
  have hlen := hright.len
  have hfew := hm.few
  rw [List.length_map] at hfew
  obtain ⟨v1, hc1, hv1⟩ := Copy_call (k := k) hv hb (by omega)
  obtain ⟨X0, Y0, rfl, hX0, hY0⟩ := hv.cells
  obtain ⟨σ0, hσ0⟩ : ∃ s, s = AMem.empty.push (.row 2 true [X0, Y0]) := ⟨_, rfl⟩
  have g0 : σ0.get 0 = some (.row 2 true [X0, Y0]) := by rw [hσ0]; simp [AMem.get_push, next_empty]
  have run : ∃ T1, execC lawProg (callN lawProg k) k 40 68 (bodyOf Try.f40) (initT 0 [.agg [X0, Y0], .vs K (l.map heldV)] .nil) AMem.empty = some (.ret, T1, σ0) ∧ T1.get 4 = some (.bool true) := by
    simp only [bodyOf, Try.f40, Option.getD_some, initT, dx, reduceIte, zLt, zLe, zEq, zAd, zMu, zSu, zBe, yEq, yLt, yLe, yTn, reduceCtorEq, sx, fx40, hX0, hY0, ← hσ0]
    generalize hL : execC _ _ _ _ _ (Code.loop _) _ _ = q
    obtain ⟨e, T', σ', rfl, _, rfl, rfl⟩ : ∃ e T' σ', q = some (e, T', σ') ∧ e ≠ .normal ∧ (e = .exit 0 ∧ σ' = σ0) := by
      rw [← hL]
      refine exec_loop (fun i T σ' => i ≤ l.length ∧ T.get 1 = some (.vs K (l.map heldV)) ∧ T.get 2 = some (.ptr 0 0) ∧ T.get 5 = some (.int .i64 (i : Nat)) ∧ σ' = σ0) l.length (by omega) ?_ ?_ ?_
      · rintro i hi T σi ⟨_, t1, t2, t5, rfl⟩
        have hlt : ((i : Nat) : Int) < ((l.length : Nat) : Int) := by omega
        have hw' := i64_succ (i := i) (by omega)
        have hget := heldV_get hi
        have hmem : (l[i]).1 ∈ l.map Prod.fst := List.mem_map.2 ⟨l[i], List.getElem_mem hi, rfl⟩
        obtain ⟨b, hkept, hf⟩ := hm.find hmem
        rcases hx : l[i] with ⟨⟨a, n, us⟩, K1⟩
        rw [hx] at hget hkept hf
        simp only [heldC] at hget hf
        obtain ⟨hbm, hba, hn1, hn2, hns, hul, hws⟩ := hkept
        simp only at hba hn1 hn2 hns hul hws
        obtain ⟨lo, s, hlo, hs, hs1, hls, _⟩ := blk_nat hright hbm
        obtain ⟨v6, hc6, K6, rfl, _⟩ := Get_call (k := k) a hv1 hb (by omega)
        have hg : getH ps ws a = (segW ws lo s, 0) := by unfold getH; rw [hrb, if_pos rfl, hf]; simp only [hlo, hs, Int.toNat_natCast]
        rw [hg] at hc6
        simp only at hc6
        have hgl := segW_length hls
        rw [hs] at hul hws
        rw [hlo] at hws
        simp only [Int.toNat_natCast] at hws
        have hul' : ¬ ((s : Nat) : Int) < ((us.length : Nat) : Int) := by omega
        simp only [dx, reduceIte, zLt, zLe, zEq, zAd, zMu, zSu, zBe, yEq, yLt, yLe, yTn, reduceCtorEq, sx, fx40, Nat.add_assoc, Nat.add_eq_left, Nat.left_eq_add, Nat.add_left_cancel_iff, t1, t2, t5, hlt, List.length_map, hget, g0, hX0, hY0, hc1, hc6, Int.natCast_nonneg, Int.toNat_natCast, intV_length, hgl, show ((0 : Int) != 0) = false from rfl, hul']
        generalize hL2 : execC _ _ _ _ _ (Code.loop _) _ _ = q2
        obtain ⟨e, T2, σ2, rfl, _, rfl, u1, u2, u5, rfl⟩ : ∃ e T' σ', q2 = some (e, T', σ') ∧ e ≠ .normal ∧ (e = .exit 2 ∧ T'.get 1 = some (.vs K (l.map heldV)) ∧ T'.get 2 = some (.ptr 0 0) ∧ T'.get 5 = some (.int .i64 (i : Nat)) ∧ σ' = σi) := by
          rw [← hL2]
          refine exec_loop (fun j T σ' => j ≤ s ∧ T.get 1 = some (.vs K (l.map heldV)) ∧ T.get 2 = some (.ptr 0 0) ∧ T.get 5 = some (.int .i64 (i : Nat)) ∧ T.get 6 = some (.vs K6 (intV (segW ws lo s))) ∧ T.get 8 = some (.int .i64 (j : Nat)) ∧ σ' = σi) s (by omega) ?_ ?_ ?_
          · rintro j hj T σj ⟨_, t1, t2, t5, t6, t8, rfl⟩
            have hltj : ((j : Nat) : Int) < ((s : Nat) : Int) := by omega
            have hwj := i64_succ (i := j) (by omega)
            have hgj := seg_at hls hj
            have hwd := hws j (by omega)
            rw [hwd] at hgj
            have hne : (wdAt us j != wdAt us j) = false := bne_self_eq_false _
            by_cases hju : j < us.length
            · have hlu : ((j : Nat) : Int) < ((us.length : Nat) : Int) := by omega
              have hgu := intV_get hju
              rw [← wdAt_lt hju] at hgu
              refine ⟨_, _, by
                simp only [dx, reduceIte, zLt, zLe, zEq, zAd, zMu, zSu, zBe, yEq, yLt, yLe, yTn, reduceCtorEq, sx, fx40, t1, t2, t5, t6, t8, hlt, List.length_map, hget, hltj, intV_length, hgl, hgj, hlu, hgu, hne, hwj, Int.natCast_nonneg, Int.toNat_natCast]
                rfl, by omega, ?_, ?_, ?_, ?_, ?_, rfl⟩
              · simp only [Tr.get_set, zEq, reduceIte, t1]
              · simp only [Tr.get_set, zEq, reduceIte, t2]
              · simp only [Tr.get_set, zEq, reduceIte, t5]
              · simp only [Tr.get_set, zEq, reduceIte, t6]
              · simp only [Tr.get_set, zEq, reduceIte]
            · have hlu : ¬ ((j : Nat) : Int) < ((us.length : Nat) : Int) := by omega
              rw [wdAt_none (by omega)] at hgj
              refine ⟨_, _, by
                simp only [dx, reduceIte, zLt, zLe, zEq, zAd, zMu, zSu, zBe, yEq, yLt, yLe, yTn, reduceCtorEq, sx, fx40, t1, t2, t5, t6, t8, hlt, List.length_map, hget, hltj, intV_length, hgl, hgj, hlu, show ((0 : Int) != 0) = false from rfl, hwj, Int.natCast_nonneg, Int.toNat_natCast]
                rfl, by omega, ?_, ?_, ?_, ?_, ?_, rfl⟩
              · simp only [Tr.get_set, zEq, reduceIte, t1]
              · simp only [Tr.get_set, zEq, reduceIte, t2]
              · simp only [Tr.get_set, zEq, reduceIte, t5]
              · simp only [Tr.get_set, zEq, reduceIte, t6]
              · simp only [Tr.get_set, zEq, reduceIte]
          · rintro T σj ⟨_, t1, t2, t5, t6, t8, rfl⟩
            have hge : ¬ (((s : Nat) : Int) < ((s : Nat) : Int)) := by omega
            refine ⟨_, _, _, by
              simp only [dx, reduceIte, zLt, zLe, zEq, zAd, zMu, zSu, zBe, yEq, yLt, yLe, yTn, reduceCtorEq, sx, fx40, t6, t8, intV_length, hgl, hge]
              rfl, by simp, rfl, ?_, ?_, ?_, rfl⟩
            · simp only [Tr.get_set, zEq, reduceIte, t1]
            · simp only [Tr.get_set, zEq, reduceIte, t2]
            · simp only [Tr.get_set, zEq, reduceIte, t5]
          · refine ⟨Nat.zero_le _, ?_, ?_, ?_, ?_, ?_, rfl⟩
            · simp only [Tr.get_set, zEq, reduceIte, t1]
            · simp only [Tr.get_set, zEq, reduceIte, t2]
            · simp only [Tr.get_set, zEq, reduceIte, t5]
            · simp only [Tr.get_set, zEq, reduceIte]
            · simp only [Tr.get_set, zEq, reduceIte]; rfl
        simp only [dx, reduceIte, zLt, zLe, zEq, zAd, zMu, zSu, zBe, yEq, yLt, yLe, yTn, reduceCtorEq, sx, fx40, Nat.add_assoc, Nat.add_eq_left, Nat.left_eq_add, Nat.add_left_cancel_iff, u1, u2, u5, hw']
        refine ⟨_, _, rfl, by omega, ?_, ?_, ?_, rfl⟩
        · simp only [Tr.get_set, zEq, reduceIte, u1]
        · simp only [Tr.get_set, zEq, reduceIte, u2]
        · simp only [Tr.get_set, zEq, reduceIte]
      · rintro T σi ⟨_, t1, t2, t5, rfl⟩
        have hge : ¬ (((l.length : Nat) : Int) < ((l.length : Nat) : Int)) := by omega
        exact ⟨_, _, _, by
          simp only [dx, reduceIte, zLt, zLe, zEq, zAd, zMu, zSu, zBe, yEq, yLt, yLe, yTn, reduceCtorEq, sx, fx40, t1, t5, List.length_map, hge]
          rfl, by simp, rfl, rfl⟩
      · refine ⟨Nat.zero_le _, ?_, ?_, ?_, rfl⟩
        all_goals simp only [Tr.get_set, zEq, reduceIte] <;> rfl
    simp only [dx, reduceIte, zLt, zLe, zEq, zAd, zMu, zSu, zBe, yEq, yLt, yLe, yTn, reduceCtorEq, sx, fx40]
    exact ⟨_, rfl, by simp only [Tr.get_set, zEq, reduceIte]⟩
  obtain ⟨T1, r1, r2⟩ := run
  exact pureRun_of fn40 rfl (by simp [Try.f40]) r1 (by simp) (res_one r2) rfl
theorem holds_call {v y : AVal} {S : List Nat} {ps : List Pg} {ws : List Int} (K : VK) (l : List HV) (hv : VH v ps ws) (hm : MapI ps ws (l.map Prod.fst)) (hy : snapF false σ snapDepth y = some (.vs K (l.map heldV), S)) (hk : 9101 ≤ k) : pureCall lawProg (callN lawProg k) (.func 40 [] []) [v, y] σ = some (.bool true, σ) := by
  obtain ⟨k, rfl⟩ : ∃ m, k = m + 1 := ⟨k - 1, by omega⟩
  refine pureCall_of (args' := [v, .vs K (l.map heldV)]) (seen := [] ++ (S ++ [])) ?_ (memo40 _) (holds_run (k := k) K l hv hm (by omega))
  have := hv.snap σ 10
  unfold snapDepth at hy ⊢
  simp only [snapL, this, hy]
end Go.Proofs.Ytjkfdiglokkceaa

/- HeapMap: apart. -/
set_option maxRecDepth 100000
set_option linter.unusedSimpArgs false
set_option linter.unusedVariables false
namespace Go.Proofs.Ytjkfdiglokkceaa
open Go Go.Proofs.Ytjkfdiglokkceaa.Pale
variable {k : Nat} {σ : AMem}

/-- Where it is marked, a block before has it, or this one up to here. -/
def Marks (ps : List Pg) (ws : List Int) (l : List HV) (j lo t : Nat) (M : List Bool) : Prop := ∀ c : Nat, M[c]?.getD false = true → (∃ i, ∃ hi : i < l.length, i < j ∧ ∃ b, Kept ps ws (l[i]).1 b ∧ b.at_ ≤ (c : Int) ∧ (c : Int) < b.at_ + b.size) ∨ (lo ≤ c ∧ c < lo + t)
theorem marks_free {ps : List Pg} {ws : List Int} {l : List HV} {j lo s t : Nat} {M : List Bool} {b : Blk} (hm : MapI ps ws (l.map Prod.fst)) (hj : j < l.length) (hk : Kept ps ws (l[j]).1 b) (hlo : b.at_ = (lo : Nat)) (hs : b.size = (s : Nat)) (ht : t < s) (h : Marks ps ws l j lo t M) : M[lo + t]?.getD false = false := by
  cases e : M[lo + t]?.getD false with
  | false => rfl
  | true =>
    exfalso
    rcases h _ e with ⟨i, hi, hij, c, hc, h1, h2⟩ | ⟨_, h2⟩
    · have hne : c ≠ b := by
        rintro rfl
        have := at_ne hm.nodup (i := i) (j := j) (by simpa using hi) (by simpa using hj) (by omega)
        apply this
        simp only [List.getElem_map]
        rw [← hc.2.1, hk.2.1]
      have := blk_apart hm.right.shape hc.1 hk.1 hne
      omega
    · omega
theorem marks_set {ps : List Pg} {ws : List Int} {l : List HV} {j lo t : Nat} {M : List Bool} (h : Marks ps ws l j lo t M) : Marks ps ws l j lo (t + 1) (M.set (lo + t) true) := by
  intro c hc
  rw [List.getElem?_set] at hc
  by_cases e : lo + t = c
  · exact .inr ⟨by omega, by omega⟩
  · rw [if_neg e] at hc
    rcases h c hc with h1 | h1
    · exact .inl h1
    · exact .inr ⟨h1.1, by omega⟩
theorem marks_next {ps : List Pg} {ws : List Int} {l : List HV} {j lo s : Nat} {M : List Bool} {b : Blk} (hj : j < l.length) (hk : Kept ps ws (l[j]).1 b) (hlo : b.at_ = (lo : Nat)) (hs : b.size = (s : Nat)) (h : Marks ps ws l j lo s M) : Marks ps ws l (j + 1) 0 0 M := by
  intro c hc
  rcases h c hc with ⟨i, hi, hij, h1⟩ | ⟨h1, h2⟩
  · exact .inl ⟨i, hi, by omega, h1⟩
  · exact .inl ⟨j, hj, by omega, b, hk, by omega, by omega⟩
set_option maxHeartbeats 2000000 in
theorem apart_run {v : AVal} {ps : List Pg} {ws : List Int} (K : VK) (l : List HV) (hv : VH v ps ws) (hm : MapI ps ws (l.map Prod.fst)) (hk : 9100 ≤ k) : pureRun (callN lawProg (k + 1)) (.func 39 [] []) [v, .vs K (l.map heldV)] = some (.bool true, true) := by
  have hright := hm.right
  have hb := right_bd hright
  have hrb := rightB_true hright
  have hmany := hright.many
  have hlen := hright.len
  have hfew := hm.few
  rw [List.length_map] at hfew
  obtain ⟨v1, hc1, hv1⟩ := Copy_call (k := k) hv hb (by omega)
  obtain ⟨kp, kw, lp, rfl, hps, _⟩ := hv
  obtain ⟨X0, hX⟩ : ∃ X, X = AVal.vs kp (lp.map pv) := ⟨_, rfl⟩
  have hX0 : X0.oneCell = true := by rw [hX]; rfl
  unfold hpV at hc1 ⊢
  rw [← hX] at hc1 ⊢
  obtain ⟨m, hmw⟩ : ∃ m, m = ws.length := ⟨_, rfl⟩
  obtain ⟨σ0, hσ0⟩ : ∃ s, s = AMem.empty.push (.row 2 true [X0, .vs kw (intV ws)]) := ⟨_, rfl⟩
  have n0 : σ0.next = 1 := by rw [hσ0]; simp [next_empty]
  have g0 : σ0.get 0 = some (.row 2 true [X0, .vs kw (intV ws)]) := by rw [hσ0]; simp [AMem.get_push, next_empty]
  obtain ⟨σ1, hσ1⟩ : ∃ s, s = σ0.push (.row 1 false (boolV (List.replicate m false))) := ⟨_, rfl⟩
  have g10 : σ1.get 0 = some (.row 2 true [X0, .vs kw (intV ws)]) := by rw [hσ1, AMem.get_push, if_neg (by omega)]; exact g0
  have g11 : σ1.get 1 = some (.row 1 false (boolV (List.replicate m false))) := by rw [hσ1, AMem.get_push, if_pos n0]
  have cm : (0 : Int) ≤ ((m : Nat) : Int) ∧ ((m : Nat) : Int) ≤ ((m : Nat) : Int) ∧ ((m : Nat) : Int) * ((1 : Nat) : Int) ≤ ((mostBytes : Nat) : Int) ∧ ((m : Nat) : Int) ≤ 9223372036854775807 := by unfold mostBytes; omega
  have run : ∃ T1 σ', execC lawProg (callN lawProg k) k 39 92 (bodyOf Try.f39) (initT 0 [.agg [X0, .vs kw (intV ws)], .vs K (l.map heldV)] .nil) AMem.empty = some (.ret, T1, σ') ∧ T1.get 4 = some (.bool true) := by
    simp only [bodyOf, Try.f39, Option.getD_some, initT, dx, reduceIte, zLt, zLe, zEq, zAd, zMu, zSu, zBe, yEq, yLt, yLe, yTn, reduceCtorEq, sx, fx39, hX0, ← hσ0]
    simp only [dx, reduceIte, zLt, zLe, zEq, zAd, zMu, zSu, zBe, yEq, yLt, yLe, yTn, reduceCtorEq, sx, fx39, g0, intV_length, ← hmw, cm, repZ_bools, Int.toNat_natCast, n0, ← hσ1]
    generalize hL : execC _ _ _ _ _ (Code.loop _) _ _ = q
    obtain ⟨e, T', σ', rfl, _, rfl⟩ : ∃ e T' σ', q = some (e, T', σ') ∧ e ≠ .normal ∧ (e = .exit 0) := by
      rw [← hL]
      refine exec_loop (fun i T σ' => i ≤ l.length ∧ T.get 1 = some (.vs K (l.map heldV)) ∧ T.get 2 = some (.ptr 0 0) ∧ T.get 5 = some (.slice 1 0 m (some m) 1) ∧ T.get 6 = some (.int .i64 (i : Nat)) ∧ σ'.get 0 = some (.row 2 true [X0, .vs kw (intV ws)]) ∧ ∃ M, σ'.get 1 = some (.row 1 false (boolV M)) ∧ M.length = m ∧ Marks ps ws l i 0 0 M) l.length (by omega) ?_ ?_ ?_
      · rintro i hi T σi ⟨_, t1, t2, t5, t6, m0, M, m1, hMl, hM⟩
        have hlt : ((i : Nat) : Int) < ((l.length : Nat) : Int) := by omega
        have hw' := i64_succ (i := i) (by omega)
        have hget := heldV_get hi
        have hmem : (l[i]).1 ∈ l.map Prod.fst := List.mem_map.2 ⟨l[i], List.getElem_mem hi, rfl⟩
        obtain ⟨b, hkept, hf⟩ := hm.find hmem
        have hkept0 := hkept
        rcases hx : l[i] with ⟨⟨a, n, us⟩, K1⟩
        rw [hx] at hget hkept hf
        simp only [heldC] at hget hf
        obtain ⟨hbm, hba, hn1, hn2, hns, hul, hws⟩ := hkept
        simp only at hba hn1 hn2 hns hul hws
        obtain ⟨lo, s, hlo, hs, hs1, hls, _⟩ := blk_nat hright hbm
        obtain rfl : a = (lo : Nat) := by rw [← hba, hlo]
        have hsz := fun (σ : AMem) => Size_call (k := k) (σ := σ) ((lo : Nat) : Int) hv1 hb (by omega)
        have hak : askH ps ws (lo : Nat) = (((s : Nat) : Int), 0) := by unfold askH; rw [hrb, if_pos rfl, hf]; simp only [hs]
        rw [hak] at hsz
        simp only at hsz
        rw [hs] at hns
        have c1 : ¬ ((s : Nat) : Int) < n := by omega
        have c2 : ¬ ((lo : Nat) : Int) < 0 := by omega
        have w1 : IntKind.i64.wrap (((m : Nat) : Int) - ((s : Nat) : Int)) = ((m - s : Nat) : Int) := by rw [i64_id (by omega) (by omega)]; omega
        have c3 : ¬ ((lo : Nat) : Int) > ((m - s : Nat) : Int) := by omega
        have w2 : IntKind.i64.wrap (((lo : Nat) : Int) + ((s : Nat) : Int)) = ((lo + s : Nat) : Int) := by rw [i64_id (by omega) (by omega)]; omega
        simp only [dx, reduceIte, zLt, zLe, zEq, zAd, zMu, zSu, zBe, yEq, yLt, yLe, yTn, reduceCtorEq, sx, fx39, Nat.add_assoc, Nat.add_eq_left, Nat.left_eq_add, Nat.add_left_cancel_iff, t1, t2, t5, t6, hlt, List.length_map, hget, m0, hX0, hc1, hsz, Int.natCast_nonneg, Int.toNat_natCast, intV_length, ← hmw, show ((0 : Int) != 0) = false from rfl, c1, c2, w1, c3]
        generalize hL2 : execC _ _ _ _ _ (Code.loop _) _ _ = q2
        obtain ⟨e, T2, σ2, rfl, _, rfl, u1, u2, u5, u6, k0, M2, k1, hM2l, hM2⟩ : ∃ e T' σ', q2 = some (e, T', σ') ∧ e ≠ .normal ∧ (e = .exit 2 ∧ T'.get 1 = some (.vs K (l.map heldV)) ∧ T'.get 2 = some (.ptr 0 0) ∧ T'.get 5 = some (.slice 1 0 m (some m) 1) ∧ T'.get 6 = some (.int .i64 (i : Nat)) ∧ σ'.get 0 = some (.row 2 true [X0, .vs kw (intV ws)]) ∧ ∃ M, σ'.get 1 = some (.row 1 false (boolV M)) ∧ M.length = m ∧ Marks ps ws l i lo s M) := by
          rw [← hL2]
          refine exec_loop (fun j T σ' => j ≤ s ∧ T.get 1 = some (.vs K (l.map heldV)) ∧ T.get 2 = some (.ptr 0 0) ∧ T.get 5 = some (.slice 1 0 m (some m) 1) ∧ T.get 6 = some (.int .i64 (i : Nat)) ∧ T.get 7 = some (.int .i64 (s : Nat)) ∧ T.get 9 = some (.int .i64 ((lo + j : Nat) : Int)) ∧ σ'.get 0 = some (.row 2 true [X0, .vs kw (intV ws)]) ∧ ∃ M, σ'.get 1 = some (.row 1 false (boolV M)) ∧ M.length = m ∧ Marks ps ws l i lo j M) s (by omega) ?_ ?_ ?_
          · rintro j hj T σj ⟨_, t1, t2, t5, t6, t7, t9, m0, M, m1, hMl, hM⟩
            have hltj : ((lo + j : Nat) : Int) < ((lo + s : Nat) : Int) := by omega
            have hge : ¬ ((lo + j : Nat) : Int) ≥ ((m : Nat) : Int) := by omega
            have hltm : ((lo + j : Nat) : Int) < ((m : Nat) : Int) := by omega
            have hwj := i64_succ (i := lo + j) (by omega)
            have hfree := marks_free hm hi hkept0 hlo hs hj hM
            have hgm := boolV_get (l := M) (i := lo + j) (by omega)
            have hv0 : M[lo + j]'(by omega) = false := by
              rw [List.getElem?_eq_getElem (by omega)] at hfree
              exact hfree
            rw [hv0] at hgm
            have hin : lo + j + 1 ≤ m := by omega
            have hbs := boolV_set M (lo + j) true
            refine ⟨_, _, by
              simp only [dx, reduceIte, zLt, zLe, zEq, zAd, zMu, zSu, zBe, yEq, yLt, yLe, yTn, reduceCtorEq, sx, fx39, t1, t2, t5, t6, t7, t9, hlt, List.length_map, hget, hltj, w2, hge, hltm, m1, hgm, boolV_length, hMl, hin, hbs, hwj, Int.natCast_nonneg, Int.toNat_natCast]
              rfl, by omega, ?_, ?_, ?_, ?_, ?_, ?_, ?_, M.set (lo + j) true, ?_, by rw [List.length_set]; exact hMl, marks_set hM⟩
            · simp only [Tr.get_set, zEq, reduceIte, t1]
            · simp only [Tr.get_set, zEq, reduceIte, t2]
            · simp only [Tr.get_set, zEq, reduceIte, t5]
            · simp only [Tr.get_set, zEq, reduceIte, t6]
            · simp only [Tr.get_set, zEq, reduceIte, t7]
            · simp only [Tr.get_set, zEq, reduceIte]; rfl
            · rw [AMem.get_put, if_neg (by omega)]; exact m0
            · rw [AMem.get_put, if_pos rfl]
          · rintro T σj ⟨_, t1, t2, t5, t6, t7, t9, m0, M, m1, hMl, hM⟩
            have hge : ¬ (((lo + s : Nat) : Int) < ((lo + s : Nat) : Int)) := by omega
            refine ⟨_, _, _, by
              simp only [dx, reduceIte, zLt, zLe, zEq, zAd, zMu, zSu, zBe, yEq, yLt, yLe, yTn, reduceCtorEq, sx, fx39, t1, t6, t7, t9, hlt, List.length_map, hget, w2, hge, Int.natCast_nonneg, Int.toNat_natCast]
              rfl, by simp, rfl, ?_, ?_, ?_, ?_, m0, M, m1, hMl, hM⟩
            · simp only [Tr.get_set, zEq, reduceIte, t1]
            · simp only [Tr.get_set, zEq, reduceIte, t2]
            · simp only [Tr.get_set, zEq, reduceIte, t5]
            · simp only [Tr.get_set, zEq, reduceIte, t6]
          · refine ⟨Nat.zero_le _, ?_, ?_, ?_, ?_, ?_, ?_, m0, M, m1, hMl, fun c hc => ?_⟩
            · simp only [Tr.get_set, zEq, reduceIte, t1]
            · simp only [Tr.get_set, zEq, reduceIte, t2]
            · simp only [Tr.get_set, zEq, reduceIte, t5]
            · simp only [Tr.get_set, zEq, reduceIte, t6]
            · simp only [Tr.get_set, zEq, reduceIte]
            · simp only [Tr.get_set, zEq, reduceIte]; rfl
            · rcases hM c hc with h1 | h1
              · exact .inl h1
              · omega
        simp only [dx, reduceIte, zLt, zLe, zEq, zAd, zMu, zSu, zBe, yEq, yLt, yLe, yTn, reduceCtorEq, sx, fx39, Nat.add_assoc, Nat.add_eq_left, Nat.left_eq_add, Nat.add_left_cancel_iff, u1, u2, u5, u6, hw']
        refine ⟨_, _, rfl, by omega, ?_, ?_, ?_, ?_, k0, M2, k1, hM2l, marks_next hi hkept0 hlo hs hM2⟩
        · simp only [Tr.get_set, zEq, reduceIte, u1]
        · simp only [Tr.get_set, zEq, reduceIte, u2]
        · simp only [Tr.get_set, zEq, reduceIte, u5]
        · simp only [Tr.get_set, zEq, reduceIte]
      · rintro T σi ⟨_, t1, t2, t5, t6, _⟩
        have hge : ¬ (((l.length : Nat) : Int) < ((l.length : Nat) : Int)) := by omega
        exact ⟨_, _, _, by
          simp only [dx, reduceIte, zLt, zLe, zEq, zAd, zMu, zSu, zBe, yEq, yLt, yLe, yTn, reduceCtorEq, sx, fx39, t1, t6, List.length_map, hge]
          rfl, by simp, rfl⟩
      · refine ⟨Nat.zero_le _, ?_, ?_, ?_, ?_, g10, List.replicate m false, g11, by simp, fun c hc => ?_⟩
        · simp only [Tr.get_set, zEq, reduceIte]
        · simp only [Tr.get_set, zEq, reduceIte]
        · simp only [Tr.get_set, zEq, reduceIte]
        · simp only [Tr.get_set, zEq, reduceIte]; rfl
        · exfalso
          rw [List.getElem?_replicate] at hc
          split at hc <;> simp at hc
    simp only [dx, reduceIte, zLt, zLe, zEq, zAd, zMu, zSu, zBe, yEq, yLt, yLe, yTn, reduceCtorEq, sx, fx39]
    exact ⟨_, _, rfl, by simp only [Tr.get_set, zEq, reduceIte]⟩
  obtain ⟨T1, σ', r1, r2⟩ := run
  exact pureRun_of fn39 rfl (by simp [Try.f39]) r1 (by simp) (res_one r2) rfl
theorem apart_call {v y : AVal} {S : List Nat} {ps : List Pg} {ws : List Int} (K : VK) (l : List HV) (hv : VH v ps ws) (hm : MapI ps ws (l.map Prod.fst)) (hy : snapF false σ snapDepth y = some (.vs K (l.map heldV), S)) (hk : 9101 ≤ k) : pureCall lawProg (callN lawProg k) (.func 39 [] []) [v, y] σ = some (.bool true, σ) := by
  obtain ⟨k, rfl⟩ : ∃ m, k = m + 1 := ⟨k - 1, by omega⟩
  refine pureCall_of (args' := [v, .vs K (l.map heldV)]) (seen := [] ++ (S ++ [])) ?_ (memo39 _) (apart_run (k := k) K l hv hm (by omega))
  have := hv.snap σ 10
  unfold snapDepth at hy ⊢
  simp only [snapL, this, hy]
end Go.Proofs.Ytjkfdiglokkceaa

/- HeapMap: the list of what is held, in memory. -/
set_option maxRecDepth 100000
set_option linter.unusedSimpArgs false
set_option linter.unusedVariables false
namespace Go.Proofs.Ytjkfdiglokkceaa
open Go Go.Proofs.Ytjkfdiglokkceaa.Pale
variable {k : Nat} {σ : AMem}

theorem grewE_append {low : Nat} {e : TyI} {out x : AVal} {j n : Nat} {cells xs : List AVal} (h : GrewE low σ e.size e.isAgg out j cells) (hlow : low ≤ σ.next) (hsrc : sourceA e.size σ x = some (xs, n)) (hlen : xs.length = n * e.size) (hs0 : e.size ≠ 0) (hb0 : e.bytes ≠ 0) (hb1 : e.bytes ≤ 1048576) (hby : (j + n) * e.bytes ≤ mostBytes) (hone : xs.all AVal.oneCell = true) :
    ∃ out' σ', appendA e σ out x = some (out', σ') ∧ GrewE low σ' e.size e.isAgg out' (j + n) (cells ++ xs) ∧ σ.next ≤ σ'.next ∧ (∀ s, s < σ.next → s ∉ rowOf out → σ'.get s = σ.get s) ∧ (∀ s, s ∈ rowOf out' → s ∈ rowOf out ∨ σ.next ≤ s) := by
  by_cases hn : n = 0
  · subst hn
    have : xs = [] := List.eq_nil_of_length_eq_zero (by omega)
    subst this
    refine ⟨out, σ, ?_, by simpa using h, Nat.le_refl _, fun _ _ _ => rfl, fun s hs => .inl hs⟩
    simp only [appendA, hsrc, if_pos]
    rcases h with ⟨_, ⟨_, rfl⟩ | ⟨_, _, _, rfl, _⟩⟩ | ⟨_, _, _, _, _, rfl, _⟩ <;> rfl
  · rcases h with h | ⟨rfl, rfl, r, h1, h2, rfl, h3⟩
    · obtain ⟨σ', a1, a2, a3, a4⟩ := Grew.append2 h hlow hsrc hlen hn hs0 hb0 hb1 hby hone
      refine ⟨_, σ', a1, .inl a2, by omega, fun s hs hb => a4 s hs fun e => hb (by rw [e]; simp [rowOf]), fun s hs => ?_⟩
      simp only [rowOf, List.mem_singleton] at hs
      exact .inr (by omega)
    · refine ⟨.slice σ.next 0 (0 + n) none e.size, σ.push (.row e.size e.isAgg xs), ?_, .inl ⟨by simpa using hlen, .inr ⟨σ.next, hlow, by simp, rfl, by rw [AMem.get_push, if_pos rfl]; simp⟩⟩, by simp, fun s hs _ => by rw [AMem.get_push, if_neg (by omega)], fun s hs => ?_⟩
      · simp only [appendA, hsrc, h3]
        rw [if_neg hn, if_neg (by simp [hs0, hb0]; omega), if_pos hby, if_pos trivial, if_neg (by omega), if_pos (by simp)]
        simp
      · simp only [rowOf, List.mem_singleton] at hs
        exact .inr (by omega)
abbrev IV := HV × AVal
def itC (p : IV) : List AVal := [.int .i64 p.1.1.at_, .int .i64 p.1.1.n, p.2]
def ItOk (low : Nat) (σ : AMem) (bad : List Nat) (p : IV) : Prop := p.2.oneCell = true ∧ ∃ S, snapF false σ 11 p.2 = some (.vs p.1.2 (intV p.1.1.words), S) ∧ ∀ s, s ∈ S → low ≤ s ∧ s < σ.next ∧ s ∉ bad
theorem ItOk.same {low : Nat} {σ' : AMem} {bad bad' : List Nat} {p : IV} (h : ItOk low σ bad p) (hn : σ.next ≤ σ'.next) (hs : ∀ s, low ≤ s → s < σ.next → s ∉ bad → σ'.get s = σ.get s) (hb : ∀ s, s < σ.next → s ∉ bad → s ∉ bad') : ItOk low σ' bad' p := by
  obtain ⟨h1, S, h2, h3⟩ := h
  refine ⟨h1, S, snapF_same 11 _ _ _ h2 fun s hS => ?_, fun s hS => ?_⟩
  · obtain ⟨a, b, c⟩ := h3 s hS
    exact hs s a b c
  · obtain ⟨a, b, c⟩ := h3 s hS
    exact ⟨a, by omega, hb s b c⟩
def ListI (low : Nat) (σ : AMem) (out : AVal) (its : List IV) : Prop := GrewE low σ 3 true out its.length (its.map itC).flatten ∧ ∀ p, p ∈ its → ItOk low σ (rowOf out) p
theorem ListI.same {low : Nat} {σ' : AMem} {out : AVal} {its : List IV} (h : ListI low σ out its) (hn : σ.next ≤ σ'.next) (hs : ∀ s, low ≤ s → s < σ.next → σ'.get s = σ.get s) : ListI low σ' out its := ⟨h.1.same hn hs, fun p hp => (h.2 p hp).same hn (fun s a b _ => hs s a b) fun _ _ h => h⟩
theorem flatC_length (its : List IV) : ((its.map itC).flatten).length = its.length * 3 := by
  induction its with
  | nil => rfl
  | cons p its ih => rw [List.map_cons, List.flatten_cons, List.length_append, ih, List.length_cons]; simp only [itC, List.length_cons, List.length_nil]; omega
theorem flatC_drop (i : Nat) : ∀ its : List IV, ((its.map itC).flatten).drop (i * 3) = ((its.drop i).map itC).flatten := by
  induction i with
  | zero => intro its; simp
  | succ i ih =>
    intro its
    cases its with
    | nil => simp
    | cons p its =>
      rw [List.map_cons, List.flatten_cons, List.drop_succ_cons, ← ih its, show (i + 1) * 3 = i * 3 + 3 by omega]
      simp [itC]
theorem flatC_take (i : Nat) : ∀ its : List IV, ((its.map itC).flatten).take (i * 3) = ((its.take i).map itC).flatten := by
  induction i with
  | zero => intro its; simp
  | succ i ih =>
    intro its
    cases its with
    | nil => simp
    | cons p its =>
      rw [List.map_cons, List.flatten_cons, List.take_succ_cons, List.map_cons, List.flatten_cons, ← ih its, show (i + 1) * 3 = i * 3 + 3 by omega]
      simp [itC]
theorem its_one {low : Nat} {bad : List Nat} {its : List IV} (h : ∀ p, p ∈ its → ItOk low σ bad p) : ((its.map itC).flatten).all AVal.oneCell = true := by
  rw [List.all_eq_true]
  intro x hx
  obtain ⟨c, hc, hxc⟩ := List.mem_flatten.1 hx
  obtain ⟨p, hp, rfl⟩ := List.mem_map.1 hc
  simp only [itC, List.mem_cons, List.not_mem_nil, or_false] at hxc
  rcases hxc with rfl | rfl | rfl
  · rfl
  · rfl
  · exact (h p hp).1
theorem its_snap {low : Nat} {bad : List Nat} : ∀ {its : List IV}, (∀ p, p ∈ its → ItOk low σ bad p) → ∃ S, snapL (snapF false σ 11) (its.map itC).flatten = some (((its.map Prod.fst).map heldC).flatten, S) := by
  intro its
  induction its with
  | nil => intro _; exact ⟨[], rfl⟩
  | cons p its ih =>
    intro h
    obtain ⟨S, hS⟩ := ih fun q hq => h q (by simp [hq])
    obtain ⟨_, S1, h1, _⟩ := h p (by simp)
    refine ⟨([] ++ ([] ++ (S1 ++ []))) ++ S, ?_⟩
    rw [List.map_cons, List.flatten_cons, List.map_cons, List.map_cons, List.flatten_cons]
    refine snapL_append ?_ hS
    have c1 : snapF false σ 11 (.int .i64 p.1.1.at_) = some (.int .i64 p.1.1.at_, []) := rfl
    have c2 : snapF false σ 11 (.int .i64 p.1.1.n) = some (.int .i64 p.1.1.n, []) := rfl
    simp only [itC, heldC, snapL, c1, c2, h1]
theorem ListI.snap {low : Nat} {out : AVal} {its : List IV} (h : ListI low σ out its) : ∃ K S, snapF false σ snapDepth out = some (.vs K ((its.map Prod.fst).map heldV), S) := by
  obtain ⟨S, hS⟩ := its_snap h.2
  have key : ∀ (r : Nat) (cap : Option Nat), σ.get r = some (.row 3 true (its.map itC).flatten) → ∃ K S, snapF false σ snapDepth (.slice r 0 its.length cap 3) = some (.vs K ((its.map Prod.fst).map heldV), S) := fun r cap hg => by
    have := snap_structs (fr := false) (σ := σ) (d := 10) (r := r) (n := its.length) (sz := 3) (cap := cap) (ls := its.map itC) (ps := (its.map Prod.fst).map heldC) (S := S) (by omega) (by simp) (by simp) (fun c hc => by obtain ⟨x, _, rfl⟩ := List.mem_map.1 hc; rfl) (fun c hc => by obtain ⟨x, _, rfl⟩ := List.mem_map.1 hc; rfl) hg hS
    refine ⟨.some, r :: S, ?_⟩
    rw [List.map_map] at this
    exact this
  rcases h.1 with ⟨_, ⟨h0, rfl⟩ | ⟨r, h1, h2, rfl, h4⟩⟩ | ⟨h0, h0', r, h1, h2, rfl, h3⟩
  · obtain rfl := List.eq_nil_of_length_eq_zero h0
    exact ⟨.nil, [], rfl⟩
  · exact key r none h4
  · obtain rfl := List.eq_nil_of_length_eq_zero h0
    exact key r (some 0) h3
theorem slice_to {sz r n i z : Nat} {cells : List AVal} {g : Bool} (hr : σ.get r = some (.row sz g cells)) (h : i ≤ n) : sliceM σ sz r 0 n none z none (some (.int .i64 (i : Nat))) none = some (.slice r 0 i none z) := by
  have hl : i ≤ limA σ r 0 n sz := by
    simp only [limA, hr]
    exact Nat.le_trans h (Nat.le_max_left _ _)
  have hb : (0 : Int) ≤ ((i : Nat) : Int) ∧ ((i : Nat) : Int) ≤ ((limA σ r 0 n sz : Nat) : Int) := by omega
  simp only [sliceM, boundA, hb, and_self, if_true, Int.toNat_natCast, Nat.zero_mul, Nat.add_zero, Nat.sub_zero]
theorem slice_from {sz r n i z : Nat} {cells : List AVal} {g : Bool} (hr : σ.get r = some (.row sz g cells)) (h : i ≤ n) : sliceM σ sz r 0 n none z (some (.int .i64 (i : Nat))) none none = some (.slice r (i * sz) (n - i) none z) := by
  have hb : (0 : Int) ≤ ((i : Nat) : Int) ∧ ((i : Nat) : Int) ≤ ((n : Nat) : Int) := by omega
  simp only [sliceM, boundA, hb, and_self, if_true, Int.toNat_natCast, Nat.zero_add]
/-- Such a list that is not empty is in a row. -/
theorem ListI.row {low : Nat} {out : AVal} {its : List IV} (h : ListI low σ out its) (hi : 1 ≤ its.length) : ∃ r, out = .slice r 0 its.length none 3 ∧ low ≤ r ∧ r < σ.next ∧ σ.get r = some (.row 3 true (its.map itC).flatten) := by
  rcases h.1 with ⟨_, ⟨h0, rfl⟩ | ⟨r, h1, h2, rfl, h4⟩⟩ | ⟨h0, h0', r, h1, h2, rfl, h3⟩
  · omega
  · exact ⟨r, rfl, h1, h2, h4⟩
  · omega
theorem ListI.start (low : Nat) (σ : AMem) : ListI low σ (.vs .nil []) [] := ⟨.inl ⟨rfl, .inl ⟨rfl, rfl⟩⟩, fun p hp => by cases hp⟩
theorem ListI.add {low : Nat} {out : AVal} {its : List IV} (h : ListI low σ out its) (hlow : low ≤ σ.next) (hl : its.length ≤ 1000) (a n : Int) :
    ∃ out' σ', appendA (⟨.struct [(0, 3), (1, 3), (2, 23)], 3, 40, [.int .i64 0, .int .i64 0, .vs .nil []]⟩ : TyI) (σ.push (.row 3 true [.int .i64 a, .int .i64 n, .vs .nil []])) out (.slice σ.next 0 1 (some 1) 3) = some (out', σ') ∧ ListI low σ' out' (its ++ [((⟨a, n, []⟩, .nil), .vs .nil [])]) ∧ σ.next ≤ σ'.next ∧ (∀ s, s < σ.next → s ∉ rowOf out → σ'.get s = σ.get s) := by
  obtain ⟨σp, hσp⟩ : ∃ s, s = σ.push (.row 3 true [.int .i64 a, .int .i64 n, .vs .nil []]) := ⟨_, rfl⟩
  have exp : Ext σ σp := by rw [hσp]; exact Ext.push _ _
  have np : σp.next = σ.next + 1 := by rw [hσp]; simp
  have gp : σp.get σ.next = some (.row 3 true [.int .i64 a, .int .i64 n, .vs .nil []]) := by rw [hσp, AMem.get_push, if_pos rfl]
  have hsrc : sourceA 3 σp (.slice σ.next 0 1 (some 1) 3) = some ([.int .i64 a, .int .i64 n, .vs .nil []], 1) := by
    simp only [sourceA, gp]
    rfl
  obtain ⟨out', σ', a1, a2, a3, a4, a5⟩ := grewE_append (e := (⟨.struct [(0, 3), (1, 3), (2, 23)], 3, 40, [.int .i64 0, .int .i64 0, .vs .nil []]⟩ : TyI)) (h.1.same exp.1 fun s _ hs => exp.2 s hs) (by omega) hsrc rfl (by decide) (by decide) (by decide) (by simp only [mostBytes]; omega) rfl
  rw [← hσp]
  have hbo : ∀ s, s ∈ rowOf out → s < σ.next := fun s hs => by
    rcases h.1 with h | ⟨_, _, r, h1, h2, rfl, _⟩
    · exact (Grew.rows h s hs).2.1
    · simp only [rowOf, List.mem_singleton] at hs; omega
  have hno : ∀ s, s < σ.next → s ∉ rowOf out → s ∉ rowOf out' := fun s hs hn hm => by
    rcases a5 s hm with h6 | h6
    · exact hn h6
    · omega
  refine ⟨out', σ', a1, ⟨?_, fun p hp => ?_⟩, by omega, fun s hs hn => by rw [a4 s (by omega) hn, exp.2 s hs]⟩
  · rw [List.length_append, List.map_append, List.flatten_append]
    exact a2
  · rcases List.mem_append.1 hp with h6 | h6
    · exact (h.2 p h6).same (by omega) (fun s _ hs hn => by rw [a4 s (by omega) hn, exp.2 s hs]) hno
    · simp only [List.mem_singleton] at h6
      subst h6
      exact ⟨rfl, [], rfl, by simp⟩
theorem ListI.erase {low : Nat} {out : AVal} {its : List IV} {i : Nat} (h : ListI low σ out its) (hlow : low ≤ σ.next) (hl : its.length ≤ 1000) (hi : i < its.length) :
    ∃ r o1 σ2 o2 σ3, out = .slice r 0 its.length none 3 ∧ (σ.push (.row 3 true [])).get r = some (.row 3 true (its.map itC).flatten) ∧ appendA (⟨.struct [(0, 3), (1, 3), (2, 23)], 3, 40, [.int .i64 0, .int .i64 0, .vs .nil []]⟩ : TyI) (σ.push (.row 3 true [])) (.slice σ.next 0 0 (some 0) 3) (.slice r 0 i none 3) = some (o1, σ2) ∧ σ2.get r = some (.row 3 true (its.map itC).flatten) ∧ appendA (⟨.struct [(0, 3), (1, 3), (2, 23)], 3, 40, [.int .i64 0, .int .i64 0, .vs .nil []]⟩ : TyI) σ2 o1 (.slice r ((i + 1) * 3) (its.length - (i + 1)) none 3) = some (o2, σ3) ∧ ListI low σ3 o2 (its.take i ++ its.drop (i + 1)) ∧ σ.next ≤ σ3.next ∧ (∀ s, s < σ.next → σ3.get s = σ.get s) ∧ (∀ s, s < σ.next → σ2.get s = σ.get s) := by
  obtain ⟨r, rfl, hr1, hr2, hr3⟩ := h.row (by omega)
  obtain ⟨σp, hσp⟩ : ∃ s, s = σ.push (.row 3 true []) := ⟨_, rfl⟩
  have exp : Ext σ σp := by rw [hσp]; exact Ext.push _ _
  have np : σp.next = σ.next + 1 := by rw [hσp]; simp
  have gp : σp.get σ.next = some (.row 3 true []) := by rw [hσp, AMem.get_push, if_pos rfl]
  rw [← hσp]
  have gr : σp.get r = some (.row 3 true (its.map itC).flatten) := by rw [exp.2 r hr2]; exact hr3
  have hfl := flatC_length its
  have hone := its_one h.2
  have hs1 : sourceA 3 σp (.slice r 0 i none 3) = some (((its.take i).map itC).flatten, i) := by
    simp only [sourceA, gr, hfl]
    rw [if_pos (by omega), List.drop_zero, flatC_take]
  have hone1 : (((its.take i).map itC).flatten).all AVal.oneCell = true := its_one fun p hp => h.2 p (List.mem_of_mem_take hp)
  have hone2 : (((its.drop (i + 1)).map itC).flatten).all AVal.oneCell = true := its_one fun p hp => h.2 p (List.mem_of_mem_drop hp)
  have hg0 : GrewE low σp 3 true (.slice σ.next 0 0 (some 0) 3) 0 [] := .inr ⟨rfl, rfl, σ.next, hlow, by omega, rfl, gp⟩
  obtain ⟨o1, σ2, a1, a2, a3, a4, a5⟩ := grewE_append (e := (⟨.struct [(0, 3), (1, 3), (2, 23)], 3, 40, [.int .i64 0, .int .i64 0, .vs .nil []]⟩ : TyI)) hg0 (by omega) hs1 (by rw [flatC_length, List.length_take, Nat.min_eq_left (by omega)]) (by decide) (by decide) (by decide) (by simp only [mostBytes]; omega) hone1
  have new1 : ∀ s, s ∈ rowOf o1 → σ.next ≤ s := fun s hs => by
    rcases a5 s hs with h6 | h6
    · simp only [rowOf, List.mem_singleton] at h6; omega
    · omega
  have f2 : ∀ s, s < σ.next → σ2.get s = σ.get s := fun s hs => by
    rw [a4 s (by omega) (by simp only [rowOf, List.mem_singleton]; omega), exp.2 s hs]
  have gr2 : σ2.get r = some (.row 3 true (its.map itC).flatten) := by rw [f2 r hr2]; exact hr3
  have hs2 : sourceA 3 σ2 (.slice r ((i + 1) * 3) (its.length - (i + 1)) none 3) = some (((its.drop (i + 1)).map itC).flatten, its.length - (i + 1)) := by
    simp only [sourceA, gr2, hfl]
    rw [if_pos (by omega), flatC_drop, List.take_of_length_le (by rw [flatC_length, List.length_drop]; omega)]
  obtain ⟨o2, σ3, b1, b2, b3, b4, b5⟩ := grewE_append (e := (⟨.struct [(0, 3), (1, 3), (2, 23)], 3, 40, [.int .i64 0, .int .i64 0, .vs .nil []]⟩ : TyI)) a2 (by omega) hs2 (by rw [flatC_length, List.length_drop]) (by decide) (by decide) (by decide) (by simp only [mostBytes]; omega) hone2
  have f3 : ∀ s, s < σ.next → σ3.get s = σ.get s := fun s hs => by
    rw [b4 s (by omega) (fun hm => by have := new1 s hm; omega), f2 s hs]
  refine ⟨r, o1, σ2, o2, σ3, rfl, gr, a1, gr2, b1, ⟨?_, fun p hp => ?_⟩, by omega, f3, f2⟩
  · rw [List.length_append, List.length_take, List.length_drop, List.map_append, List.flatten_append, Nat.min_eq_left (by omega)]
    have e0 : (([] : List AVal) ++ ((its.take i).map itC).flatten) ++ ((its.drop (i + 1)).map itC).flatten = ((its.take i).map itC).flatten ++ ((its.drop (i + 1)).map itC).flatten := by simp
    rw [← e0, show i + (its.length - (i + 1)) = 0 + i + (its.length - (i + 1)) by omega]
    exact b2
  · have hm : p ∈ its := by
      rcases List.mem_append.1 hp with h6 | h6
      · exact List.mem_of_mem_take h6
      · exact List.mem_of_mem_drop h6
    refine (h.2 p hm).same (by omega) (fun s _ hs _ => f3 s hs) fun s hs _ hm2 => ?_
    rcases b5 s hm2 with h6 | h6
    · have := new1 s h6; omega
    · omega
theorem ListI.poke {low : Nat} {out : AVal} {its : List IV} {i r : Nat} {us : List Int} {K : VK} {w : AVal} (h : ListI low σ out its) (hi : i < its.length) (hr : out = .slice r 0 its.length none 3) (hg : σ.get r = some (.row 3 true (its.map itC).flatten)) (hw : ItOk low σ (rowOf out) (({ (its[i]).1.1 with words := us }, K), w)) :
    ListI low (σ.put r (.row 3 true (((its.map itC).flatten).set (i * 3 + 2) w))) out (its.set i (({ (its[i]).1.1 with words := us }, K), w)) := by
  subst hr
  have hfs : ((its.map itC).flatten).set (i * 3 + 2) w = ((its.set i (({ (its[i]).1.1 with words := us }, K), w)).map itC).flatten := by
    rw [flat_set3 _ i (by simpa using hi) 2 (by omega) w (fun c hc => by obtain ⟨x, _, rfl⟩ := List.mem_map.1 hc; rfl), List.map_set, List.getElem_map]
    rfl
  have hrr : ∃ h1 : low ≤ r, r < σ.next := by
    rcases h.1 with h | ⟨h0, _, r2, h1, h2, e, _⟩
    · have := Grew.rows h r (by simp [rowOf]); exact ⟨this.1, this.2.1⟩
    · omega
  obtain ⟨hr1, hr2⟩ := hrr
  rw [hfs]
  refine ⟨.inl ⟨by rw [flatC_length, List.length_set], .inr ⟨r, hr1, by simpa using hr2, by rw [List.length_set], by rw [AMem.get_put, if_pos rfl]⟩⟩, fun p hp => ?_⟩
  have hs : ∀ s, low ≤ s → s < σ.next → s ∉ rowOf (.slice r 0 its.length none 3) → (σ.put r (.row 3 true ((its.set i (({ (its[i]).1.1 with words := us }, K), w)).map itC).flatten)).get s = σ.get s := fun s _ _ hn => by
    rw [AMem.get_put, if_neg (fun e => hn (by simp [rowOf, e]))]
  rcases List.mem_or_eq_of_mem_set hp with h1 | rfl
  · exact (h.2 p h1).same (by simp) hs fun _ _ h => h
  · exact hw.same (by simp) hs fun _ _ h => h
end Go.Proofs.Ytjkfdiglokkceaa

/- HeapMap: the run. -/
set_option maxRecDepth 100000
set_option linter.unusedSimpArgs false
set_option linter.unusedVariables false
namespace Go.Proofs.Ytjkfdiglokkceaa
open Go Go.Proofs.Ytjkfdiglokkceaa.Pale
variable {k : Nat} {σ : AMem}

abbrev Step := Nat × Nat × Nat
def stC (s : Step) : List AVal := [.int .u8 (s.1 : Nat), .int .u8 (s.2.1 : Nat), .int .u8 (s.2.2 : Nat)]
def stV (s : Step) : AVal := .agg (stC s)
theorem stV_get {l : List Step} {i : Nat} (hi : i < l.length) : (l.map stV)[i]? = some (.agg (stC l[i])) := by
  rw [List.getElem?_map, List.getElem?_eq_getElem hi]
  rfl
theorem ListI.rows {low : Nat} {out : AVal} {its : List IV} (h : ListI low σ out its) : ∀ s, s ∈ rowOf out → low ≤ s ∧ s < σ.next := by
  intro s hs
  rcases h.1 with h | ⟨_, _, r, h1, h2, rfl, _⟩
  · have := Grew.rows h s hs
    exact ⟨this.1, this.2.1⟩
  · simp only [rowOf, List.mem_singleton] at hs
    subst hs
    exact ⟨h1, h2⟩
theorem it_get {its : List IV} {i j : Nat} (hi : i < its.length) (hj : j < 3) : ((its.map itC).flatten)[i * 3 + j]? = (itC its[i])[j]? := by
  have h1 := flatC_drop i its
  rw [List.drop_eq_getElem_cons hi, List.map_cons, List.flatten_cons] at h1
  have h2 := congrArg (fun l => l[j]?) h1
  simp only [List.getElem?_drop] at h2
  rw [h2, List.getElem?_append_left (by simp only [itC, List.length_cons, List.length_nil]; omega)]
theorem repZ_ints (n : Nat) : repZ [AVal.int .i64 0] n = intV (List.replicate n 0) := by
  induction n with
  | zero => rfl
  | succ n ih => rw [repZ, ih]; rfl
theorem checks_both {X Y out : AVal} {low : Nat} {its : List IV} {ps : List Pg} {ws : List Int} (hv : VH (.agg [X, Y]) ps ws) (hL : ListI low σ out its) (hm : MapI ps ws ((its.map Prod.fst).map Prod.fst)) (hk : 9101 ≤ k) : pureCall lawProg (callN lawProg k) (.func 39 [] []) [.agg [X, Y], out] σ = some (.bool true, σ) ∧ pureCall lawProg (callN lawProg k) (.func 40 [] []) [.agg [X, Y], out] σ = some (.bool true, σ) := by
  obtain ⟨K, S, hS⟩ := hL.snap
  exact ⟨apart_call K _ hv hm hS hk, holds_call K _ hv hm hS hk⟩
theorem two_cells {X Y : AVal} {ps : List Pg} {ws : List Int} (h : VH (.agg [X, Y]) ps ws) : X.oneCell = true ∧ Y.oneCell = true := by
  obtain ⟨A, B, e, hA, hB⟩ := h.cells
  simp only [AVal.agg.injEq, List.cons.injEq, and_true] at e
  rw [e.1, e.2]
  exact ⟨hA, hB⟩
def MapS (z : Nat) (Ks : VK) (st : List Step) (i : Nat) (T : Tr AVal) (σ : AMem) : Prop := i ≤ st.length ∧ T.get 1 = some (.ptr 0 0) ∧ T.get 3 = some (.ptr 1 0) ∧ T.get 6 = some (.int .i64 (i : Nat)) ∧ ∃ X Y ps ws out its, T.get 5 = some out ∧ σ.get 0 = some (.row 2 true [.int .u8 (z : Nat), .vs Ks (st.map stV)]) ∧ σ.get 1 = some (.row 2 true [X, Y]) ∧ VH (.agg [X, Y]) ps ws ∧ ListI 2 σ out its ∧ MapI ps ws ((its.map Prod.fst).map Prod.fst) ∧ its.length ≤ i ∧ 2 ≤ σ.next
set_option maxHeartbeats 8000000 in
theorem map_run (z : Nat) (Ks : VK) (st : List Step) (hz : z ≤ 255) (hst : ∀ s, s ∈ st → s.1 ≤ 255 ∧ s.2.1 ≤ 255 ∧ s.2.2 ≤ 255) (hk : 12000 ≤ k) : ∃ σ', callN lawProg (k + 1) (.func 9 [] []) [.agg [.int .u8 (z : Nat), .vs Ks (st.map stV)]] AMem.empty = some (.bool true, σ') := by
  have haw := fun (σ : AMem) => awake_call (σ := σ) (callN lawProg k)
  have run : ∃ T1 σ', execC lawProg (callN lawProg k) k 9 193 (bodyOf Try.f9) (initT 0 [.agg [.int .u8 (z : Nat), .vs Ks (st.map stV)]] .nil) AMem.empty = some (.ret, T1, σ') ∧ T1.get 2 = some (.bool true) := by
    by_cases h60 : ((st.length : Nat) : Int) > 60
    · simp only [bodyOf, Try.f9, Option.getD_some, initT, dx, reduceIte, zLt, zLe, zEq, zAd, zMu, zSu, zBe, yEq, yLt, yLe, yTn, reduceCtorEq, sx, fx9, List.length_map, h60, haw]
      exact ⟨_, _, rfl, by simp only [Tr.get_set, zEq, reduceIte]⟩
    · obtain ⟨np, hnp⟩ : ∃ n, n = z % 8 + 1 := ⟨_, rfl⟩
      have w1 : IntKind.i64.wrap ((z : Nat) : Int) = ((z : Nat) : Int) := i64_id (by omega) (by omega)
      have w2 : ((z : Nat) : Int).tmod 8 = ((z % 8 : Nat) : Int) := rfl
      have w3 : IntKind.i64.wrap (((z % 8 : Nat) : Int) + 1) = ((np : Nat) : Int) := by rw [i64_id (by omega) (by omega)]; omega
      have h8 : ¬ (8 : Int) = 0 := by omega
      obtain ⟨v0, hc0, hv0⟩ := New_call (k := k) ((np : Nat) : Int) (by omega)
      have he0 : newE ((np : Nat) : Int) = 0 := by unfold newE; rw [if_pos (by omega)]
      rw [he0] at hc0
      obtain ⟨X0, Y0, rfl, hX0, hY0⟩ := hv0.cells
      obtain ⟨σ0, hσ0⟩ : ∃ s, s = AMem.empty.push (.row 2 true [.int .u8 (z : Nat), .vs Ks (st.map stV)]) := ⟨_, rfl⟩
      have n0 : σ0.next = 1 := by rw [hσ0]; simp [next_empty]
      have g0 : σ0.get 0 = some (.row 2 true [.int .u8 (z : Nat), .vs Ks (st.map stV)]) := by rw [hσ0]; simp [AMem.get_push, next_empty]
      obtain ⟨σ1, hσ1⟩ : ∃ s, s = (σ0.push (.row 2 true [.vs .nil [], .vs .nil []])).put 1 (.row 2 true [X0, Y0]) := ⟨_, rfl⟩
      have n1 : σ1.next = 2 := by rw [hσ1]; simp [n0]
      have g10 : σ1.get 0 = some (.row 2 true [.int .u8 (z : Nat), .vs Ks (st.map stV)]) := by rw [hσ1, AMem.get_put, if_neg (by omega), AMem.get_push, if_neg (by omega)]; exact g0
      have g11 : σ1.get 1 = some (.row 2 true [X0, Y0]) := by rw [hσ1, AMem.get_put, if_pos rfl]
      simp only [bodyOf, Try.f9, Option.getD_some, initT, dx, reduceIte, zLt, zLe, zEq, zAd, zMu, zSu, zBe, yEq, yLt, yLe, yTn, reduceCtorEq, sx, fx9, List.length_map, h60, ← hσ0]
      simp only [dx, reduceIte, zLt, zLe, zEq, zAd, zMu, zSu, zBe, yEq, yLt, yLe, yTn, reduceCtorEq, sx, fx9, g0, List.length_map, h60, w1, w2, w3, h8, hc0, hX0, hY0, n0, ← hσ1]
      simp only [dx, reduceIte, zLt, zLe, zEq, zAd, zMu, zSu, zBe, yEq, yLt, yLe, yTn, reduceCtorEq, sx, fx9, show ((0 : Int) != 0) = false from rfl]
      generalize hL : execC _ _ _ _ _ (Code.loop _) _ _ = q
      obtain ⟨e, T', σ', rfl, _, rfl, hS⟩ : ∃ e T' σ', q = some (e, T', σ') ∧ e ≠ .normal ∧ (e = .exit 0 ∧ MapS z Ks st st.length T' σ') := by
        rw [← hL]
        refine exec_loop (MapS z Ks st) st.length (by omega) ?_ ?_ ?_
        · rintro i hi T σi ⟨_, t1, t3, t6, X, Y, ps, ws, out, its, t5, m0, m1, hvh, hL, hm, hil, hn2⟩
          have hlt : ((i : Nat) : Int) < ((st.length : Nat) : Int) := by omega
          have hw' := i64_succ (i := i) (by omega)
          have hget := stV_get hi
          obtain ⟨b1, b2, b3⟩ := hst _ (List.getElem_mem hi)
          rcases hx : st[i] with ⟨a, bb, c⟩
          rw [hx] at hget b1 b2 b3
          simp only [stC] at hget
          simp only at b1 b2 b3
          have hright := hm.right
          have hb := right_bd hright
          have hrb := rightB_true hright
          have hmany := hright.many
          obtain ⟨hX, hY⟩ := two_cells hvh
          obtain ⟨v1, hc1, hv1⟩ := Copy_call (k := k) hvh hb (by omega)
          obtain ⟨q, hq⟩ : ∃ q, q = σi.next := ⟨_, rfl⟩
          obtain ⟨σq, hσq⟩ : ∃ s, s = (σi.push (.row 3 true [.int .u8 0, .int .u8 0, .int .u8 0])).put q (.row 3 true [.int .u8 (a : Nat), .int .u8 (bb : Nat), .int .u8 (c : Nat)]) := ⟨_, rfl⟩
          have exq : Ext σi σq := by rw [hσq]; exact (Ext.push _ _).put _ _ (by omega)
          have nq : σq.next = q + 1 := by rw [hσq, hq]; simp
          have gq : σq.get q = some (.row 3 true [.int .u8 (a : Nat), .int .u8 (bb : Nat), .int .u8 (c : Nat)]) := by rw [hσq, AMem.get_put, if_pos rfl]
          have mq0 : σq.get 0 = some (.row 2 true [.int .u8 (z : Nat), .vs Ks (st.map stV)]) := by rw [exq.2 0 (by omega)]; exact m0
          have mq1 : σq.get 1 = some (.row 2 true [X, Y]) := by rw [exq.2 1 (by omega)]; exact m1
          have hz00 : (((0 : Nat) : Int) == (0 : Int)) = true := rfl
          have nqq : ¬ q + 1 = q := by omega
          have nqz : ¬ q + 1 = 0 := by omega
          have nqo : ¬ q + 1 = 1 := by omega
          have c03 : (0 : Int) < ((3 : Nat) : Int) := by decide
          have c13 : (1 : Int) < ((3 : Nat) : Int) := by decide
          have c23 : (2 : Int) < ((3 : Nat) : Int) := by decide
          have w4 : ((a : Nat) : Int).tmod 4 = ((a % 4 : Nat) : Int) := rfl
          have hLq : ListI 2 σq out its := hL.same exq.1 fun s _ hs => exq.2 s hs
          have alloc : ∀ n : Nat, ∃ X2 Y2, (∀ σ, pureCall lawProg (callN lawProg k) (.func 25 [] []) [v1, .int .i64 (n : Nat)] σ = some (.tuple [.agg [X2, Y2], .int .i64 (allocH ps ws (n : Nat)).at_, .int .i64 (allocH ps ws (n : Nat)).e], σ)) ∧ VH (.agg [X2, Y2]) (allocH ps ws (n : Nat)).ps (allocH ps ws (n : Nat)).ws ∧ X2.oneCell = true ∧ Y2.oneCell = true := fun n => by
            obtain ⟨v2, hc2, hv2⟩ := Alloc_call (k := k) ((n : Nat) : Int) hv1 hb (by omega)
            obtain ⟨X2, Y2, rfl, hX2, hY2⟩ := hv2.cells
            exact ⟨X2, Y2, hc2, hv2, hX2, hY2⟩
          by_cases hD : ¬ (((a % 4 : Nat) : Int) < 2) ∧ 1 ≤ its.length
          · obtain ⟨hcA, hit⟩ := hD
            obtain ⟨r, rfl, hr1, hr2, hrow⟩ := hLq.row hit
            have hrq : r < q := by have := (hL.rows r (by simp [rowOf])).2; omega
            obtain ⟨ix, hix⟩ : ∃ ix, ix = bb % its.length := ⟨_, rfl⟩
            have hixl : ix < its.length := by rw [hix]; exact Nat.mod_lt _ (by omega)
            have w5 : IntKind.i64.wrap ((bb : Nat) : Int) = ((bb : Nat) : Int) := i64_id (by omega) (by omega)
            have w6 : ((bb : Nat) : Int).tmod ((its.length : Nat) : Int) = ((ix : Nat) : Int) := by rw [hix]; rfl
            have hj0 : ¬ ((its.length : Nat) : Int) = 0 := by omega
            have hjb : (((its.length : Nat) : Int) == 0) = false := by rw [beq_eq_false_iff_ne]; omega
            have hlt2 : ((ix : Nat) : Int) < ((its.length : Nat) : Int) := by omega
            obtain ⟨lm, hlm⟩ : ∃ lm, lm = (its.map Prod.fst).map Prod.fst := ⟨_, rfl⟩
            have hlml : lm.length = its.length := by rw [hlm]; simp
            have hlx : lm[ix]'(by omega) = (its[ix]).1.1 := by simp only [hlm, List.getElem_map]
            have hmI := hm
            rw [← hlm] at hmI
            obtain ⟨b, hkept, hf⟩ := hmI.find (x := (its[ix]).1.1) (by rw [← hlx]; exact List.getElem_mem _)
            have hg0 := it_get (j := 0) hixl (by omega)
            have hg1 := it_get (j := 1) hixl (by omega)
            simp only [itC, List.getElem?_cons_succ, List.getElem?_cons_zero, Nat.add_zero] at hg0 hg1
            obtain ⟨at_, hat⟩ : ∃ x, x = (its[ix]).1.1.at_ := ⟨_, rfl⟩
            obtain ⟨nn, hnn⟩ : ∃ n : Nat, (its[ix]).1.1.n = (n : Nat) := ⟨((its[ix]).1.1.n).toNat, by have := hkept.2.2.1; omega⟩
            have hn1 := hkept.2.2.1
            have hn2 := hkept.2.2.2.1
            have hn3 := hkept.2.2.2.2.1
            rw [hnn] at hg1 hn1 hn2 hn3
            rw [← hat] at hg0 hf
            have hcells := flatC_length its
            have nqr : ¬ q + 1 = r := by omega
            have nrq : ¬ r = q + 1 := by omega
            have nro : ¬ r = 1 := by
              intro e
              rw [e] at hrow
              rw [mq1] at hrow
              simp only [Option.some.injEq, AObj.row.injEq] at hrow
              omega
            have nor : ¬ 1 = r := fun e => nro e.symm
            by_cases ha2 : a % 4 = 2
            · have b2 : (((a % 4 : Nat) : Int) == 2) = true := by rw [beq_iff_eq]; omega
              obtain ⟨v2, hc2, hv2⟩ := Free_call (k := k) at_ hv1 hb (by omega)
              have hres : freeH ps ws at_ = ⟨freeL ps b, clearW ws b, 0, 0⟩ := by unfold freeH; rw [hrb, if_pos rfl, hf]
              rw [hres] at hc2 hv2
              simp only at hc2 hv2
              obtain ⟨X2, Y2, rfl, hX2, hY2⟩ := hv2.cells
              obtain ⟨σr, hσr⟩ : ∃ s, s = (σq.push (.row 2 true [.vs .nil [], .vs .nil []])).put (q + 1) (.row 2 true [X2, Y2]) := ⟨_, rfl⟩
              have exr : Ext σq σr := by rw [hσr]; exact (Ext.push _ _).put _ _ (by omega)
              have nr : σr.next = q + 2 := by rw [hσr]; simp [nq]
              have gr : σr.get (q + 1) = some (.row 2 true [X2, Y2]) := by rw [hσr, AMem.get_put, if_pos rfl]
              have mr0 : σr.get 0 = some (.row 2 true [.int .u8 (z : Nat), .vs Ks (st.map stV)]) := by rw [exr.2 0 (by omega)]; exact mq0
              have mr1 : σr.get 1 = some (.row 2 true [X, Y]) := by rw [exr.2 1 (by omega)]; exact mq1
              have hLr := hLq.same exr.1 fun s _ hs => exr.2 s hs
              obtain ⟨r2, o1, σ2, o2, σ3, e1, e2, e3, e4, e5, hL3, e6, e7, e8⟩ := hLr.erase (by omega) (by omega) hixl
              obtain rfl : r = r2 := by simpa using e1
              have hsl1 := slice_to (sz := 3) (n := its.length) (i := ix) (z := 3) e2 (by omega)
              have hsl2 := slice_from (sz := 3) (n := its.length) (i := ix + 1) (z := 3) e4 (by omega)
              have hsl3 := slice_from (sz := 3) (n := its.length) (i := ix + 1) (z := 3) e2 (by omega)
              rw [nr] at e3 e7 e8
              have m2r : σ2.get (q + 1) = some (.row 2 true [X2, Y2]) := by rw [e8 (q + 1) (by omega)]; exact gr
              have w7 := i64_succ (i := ix) (by omega)
              have m31 : σ3.get 1 = some (.row 2 true [X, Y]) := by rw [e7 1 (by omega)]; exact mr1
              have m30 : σ3.get 0 = some (.row 2 true [.int .u8 (z : Nat), .vs Ks (st.map stV)]) := by rw [e7 0 (by omega)]; exact mr0
              have m3r : σ3.get (q + 1) = some (.row 2 true [X2, Y2]) := by rw [e7 (q + 1) (by omega)]; exact gr
              obtain ⟨σp, hσp⟩ : ∃ s, s = σr.push (.row 3 true []) := ⟨_, rfl⟩
              rw [← hσp] at e2 e3 hsl1 hsl3
              have mpr : σp.get (q + 1) = some (.row 2 true [X2, Y2]) := by rw [hσp, AMem.get_push, if_neg (by omega)]; exact gr
              obtain ⟨σt, hσt⟩ : ∃ s, s = σ3.put 1 (.row 2 true [X2, Y2]) := ⟨_, rfl⟩
              have mt1 : σt.get 1 = some (.row 2 true [X2, Y2]) := by rw [hσt, AMem.get_put, if_pos rfl]
              have mt0 : σt.get 0 = some (.row 2 true [.int .u8 (z : Nat), .vs Ks (st.map stV)]) := by rw [hσt, AMem.get_put, if_neg (by omega)]; exact m30
              have nt : σt.next = σ3.next := by rw [hσt]; simp
              have hLt : ListI 2 σt o2 (its.take ix ++ its.drop (ix + 1)) := hL3.same (by omega) fun s hs _ => by rw [hσt, AMem.get_put, if_neg (by omega)]
              have hmt : MapI (freeL ps b) (clearW ws b) (((its.take ix ++ its.drop (ix + 1)).map Prod.fst).map Prod.fst) := by
                have := map_free (i := ix) hmI (by omega) (by rw [hlx, ← hat]; exact hf)
                rw [hlm] at this
                simpa [List.map_take, List.map_drop] using this
              obtain ⟨hap, hho⟩ := checks_both (k := k) hv2 hLt hmt (by omega)
              refine ⟨_, _, by
                simp only [dx, reduceIte, zLt, zLe, zEq, zAd, zMu, zSu, zBe, yEq, yLt, yLe, yTn, reduceCtorEq, sx, fx9, Nat.add_assoc, Nat.add_eq_left, Nat.left_eq_add, Nat.add_left_cancel_iff, t1, t3, t5, t6, m0, hlt, List.length_map, hget, Int.natCast_nonneg, Int.toNat_natCast, ← hq, ← hσq]
                simp only [dx, reduceIte, zLt, zLe, zEq, zAd, zMu, zSu, zBe, yEq, yLt, yLe, yTn, reduceCtorEq, sx, fx9, t1, t3, t5, t6, gq, c03, c13, c23, nqq, nqz, nqo, nqr, nrq, w4, hcA, hj0, hjb, w5, w6, b2, mq1, hX, hY, hc1, hrow, hlt2, hg0, hc2, hX2, hY2, nq, Int.natCast_nonneg, Int.toNat_natCast, ← hσr]
                simp only [dx, reduceIte, zLt, zLe, zEq, zAd, zMu, zSu, zBe, yEq, yLt, yLe, yTn, reduceCtorEq, sx, fx9, t1, t3, t5, t6, show ((0 : Int) != 0) = false from rfl, gr, nr, hsl1, e3, w7, hsl2, hsl3, e2, e4, e5, m2r, mpr, m31, m3r, hX2, hY2, ← hσp, ← hσt]
                simp only [dx, reduceIte, zLt, zLe, zEq, zAd, zMu, zSu, zBe, yEq, yLt, yLe, yTn, reduceCtorEq, sx, fx9, t1, t3, t5, t6, mt1, hX2, hY2, hap, hho, hw']
                rfl, by omega, ?_, ?_, ?_, X2, Y2, _, _, o2, _, ?_, mt0, mt1, hv2, hLt, hmt, by rw [List.length_append, List.length_take, List.length_drop]; omega, by omega⟩
              · simp only [Tr.get_set, zEq, reduceIte, t1]
              · simp only [Tr.get_set, zEq, reduceIte, t3]
              · simp only [Tr.get_set, zEq, reduceIte]
              · simp only [Tr.get_set, zEq, reduceIte]
            · have b2 : (((a % 4 : Nat) : Int) == 2) = false := by rw [beq_eq_false_iff_ne]; omega
              obtain ⟨kk, hkk⟩ : ∃ x, x = c % (nn + 1) := ⟨_, rfl⟩
              have hkl : kk ≤ nn := by rw [hkk]; have := Nat.mod_lt c (show 0 < nn + 1 by omega); omega
              have w8 : IntKind.i64.wrap ((c : Nat) : Int) = ((c : Nat) : Int) := i64_id (by omega) (by omega)
              have w9 : IntKind.i64.wrap (((nn : Nat) : Int) + 1) = ((nn + 1 : Nat) : Int) := i64_succ (by omega)
              have w10 : ((c : Nat) : Int).tmod ((nn + 1 : Nat) : Int) = ((kk : Nat) : Int) := by rw [hkk]; rfl
              have hn0 : ¬ ((nn + 1 : Nat) : Int) = 0 := by omega
              have cm : (0 : Int) ≤ ((kk : Nat) : Int) ∧ ((kk : Nat) : Int) ≤ ((kk : Nat) : Int) ∧ ((kk : Nat) : Int) * ((8 : Nat) : Int) ≤ ((mostBytes : Nat) : Int) ∧ ((kk : Nat) : Int) ≤ 9223372036854775807 := by unfold mostBytes; omega
              have hbj : (((its.length : Nat) : Int) == 0) = false := hjb
              obtain ⟨wd, hwd⟩ : ∃ f : Nat → List Int, f = fun j => (List.range kk).map fun (t : Nat) => if t < j then ((1000 * i + t : Nat) : Int) else 0 := ⟨_, rfl⟩
              have hwl : ∀ j, (wd j).length = kk := fun j => by rw [hwd]; simp
              have hwd0 : wd 0 = List.replicate kk 0 := by
                rw [hwd]
                apply List.ext_getElem (by simp)
                intro t h1 h2
                simp
              have hwds : ∀ j, j < kk → (intV (wd j)).set j (.int .i64 ((1000 * i + j : Nat) : Int)) = intV (wd (j + 1)) := fun j hj => by
                rw [hwd]
                apply List.ext_getElem (by simp [intV])
                intro t h1 h2
                simp only [intV, List.getElem_set, List.getElem_map, List.getElem_range]
                by_cases e : j = t
                · subst e
                  rw [if_pos rfl, if_pos (by omega)]
                · rw [if_neg e]
                  by_cases e2 : t < j
                  · rw [if_pos e2, if_pos (by omega)]
                  · rw [if_neg e2, if_neg (by omega)]
              obtain ⟨σw, hσw⟩ : ∃ s, s = σq.push (.row 1 false (intV (wd 0))) := ⟨_, rfl⟩
              have exw : Ext σq σw := by rw [hσw]; exact Ext.push _ _
              have nw : σw.next = q + 2 := by rw [hσw]; simp [nq]
              have gw : σw.get (q + 1) = some (.row 1 false (intV (wd 0))) := by rw [hσw, AMem.get_push, if_pos nq]
              have gqw : σw.get q = some (.row 3 true [.int .u8 (a : Nat), .int .u8 (bb : Nat), .int .u8 (c : Nat)]) := by rw [exw.2 q (by omega)]; exact gq
              have growr : σw.get r = some (.row 3 true (its.map itC).flatten) := by rw [exw.2 r (by omega)]; exact hrow
              simp only [dx, reduceIte, zLt, zLe, zEq, zAd, zMu, zSu, zBe, yEq, yLt, yLe, yTn, reduceCtorEq, sx, fx9, Nat.add_assoc, Nat.add_eq_left, Nat.left_eq_add, Nat.add_left_cancel_iff, t1, t3, t5, t6, m0, hlt, List.length_map, hget, Int.natCast_nonneg, Int.toNat_natCast, ← hq, ← hσq]
              simp only [dx, reduceIte, zLt, zLe, zEq, zAd, zMu, zSu, zBe, yEq, yLt, yLe, yTn, reduceCtorEq, sx, fx9, t1, t3, t5, t6, gq, c03, c13, c23, nqq, nqz, nqo, nqr, nrq, w4, hcA, hj0, hbj, w5, w6, b2, hrow, hlt2, hg1, w8, w9, w10, hn0, cm, repZ_ints, ← hwd0, nq, Int.natCast_nonneg, Int.toNat_natCast, ← hσw]
              generalize hL2 : execC _ _ _ _ _ (Code.loop _) _ _ = q2
              obtain ⟨e, T2, σv, rfl, _, rfl, u1, u3, u5, u6, u12, u15, nv, gv, fv⟩ : ∃ e T' σ', q2 = some (e, T', σ') ∧ e ≠ .normal ∧ (e = .exit 2 ∧ T'.get 1 = some (.ptr 0 0) ∧ T'.get 3 = some (.ptr 1 0) ∧ T'.get 5 = some (.slice r 0 its.length none 3) ∧ T'.get 6 = some (.int .i64 (i : Nat)) ∧ T'.get 12 = some (.int .i64 (ix : Nat)) ∧ T'.get 15 = some (.slice (q + 1) 0 kk (some kk) 1) ∧ σ'.next = q + 2 ∧ σ'.get (q + 1) = some (.row 1 false (intV (wd kk))) ∧ ∀ s, s ≠ q + 1 → σ'.get s = σw.get s) := by
                rw [← hL2]
                refine exec_loop (fun j T σ' => j ≤ kk ∧ T.get 1 = some (.ptr 0 0) ∧ T.get 3 = some (.ptr 1 0) ∧ T.get 5 = some (.slice r 0 its.length none 3) ∧ T.get 6 = some (.int .i64 (i : Nat)) ∧ T.get 12 = some (.int .i64 (ix : Nat)) ∧ T.get 15 = some (.slice (q + 1) 0 kk (some kk) 1) ∧ T.get 16 = some (.int .i64 (j : Nat)) ∧ σ'.next = q + 2 ∧ σ'.get (q + 1) = some (.row 1 false (intV (wd j))) ∧ ∀ s, s ≠ q + 1 → σ'.get s = σw.get s) kk (by omega) ?_ ?_ ?_
                · rintro j hj T σj ⟨_, t1, t3, t5, t6, t12, t15, t16, nj, gj, fj⟩
                  have hltj : ((j : Nat) : Int) < ((kk : Nat) : Int) := by omega
                  have hwj := i64_succ (i := j) (by omega)
                  have v1 : IntKind.i64.wrap (1000 * ((i : Nat) : Int)) = ((1000 * i : Nat) : Int) := by rw [i64_id (by omega) (by omega)]; omega
                  have v2 : IntKind.i64.wrap (((1000 * i : Nat) : Int) + ((j : Nat) : Int)) = ((1000 * i + j : Nat) : Int) := by rw [i64_id (by omega) (by omega)]; omega
                  have hin : j + 1 ≤ kk := by omega
                  have hset := hwds j hj
                  have hlj := hwl j
                  refine ⟨_, _, by
                    simp only [dx, reduceIte, zLt, zLe, zEq, zAd, zMu, zSu, zBe, yEq, yLt, yLe, yTn, reduceCtorEq, sx, fx9, t1, t3, t5, t6, t12, t15, t16, hltj, v1, v2, gj, intV_length, hlj, hin, hset, hwj, Int.natCast_nonneg, Int.toNat_natCast]
                    rfl, by omega, ?_, ?_, ?_, ?_, ?_, ?_, ?_, by simpa using nj, by rw [AMem.get_put, if_pos rfl], fun s hs => by rw [AMem.get_put, if_neg (fun e => hs e.symm)]; exact fj s hs⟩
                  · simp only [Tr.get_set, zEq, reduceIte, t1]
                  · simp only [Tr.get_set, zEq, reduceIte, t3]
                  · simp only [Tr.get_set, zEq, reduceIte, t5]
                  · simp only [Tr.get_set, zEq, reduceIte, t6]
                  · simp only [Tr.get_set, zEq, reduceIte, t12]
                  · simp only [Tr.get_set, zEq, reduceIte, t15]
                  · simp only [Tr.get_set, zEq, reduceIte]
                · rintro T σj ⟨_, t1, t3, t5, t6, t12, t15, t16, nj, gj, fj⟩
                  have hge : ¬ (((kk : Nat) : Int) < ((kk : Nat) : Int)) := by omega
                  refine ⟨_, _, _, by
                    simp only [dx, reduceIte, zLt, zLe, zEq, zAd, zMu, zSu, zBe, yEq, yLt, yLe, yTn, reduceCtorEq, sx, fx9, t15, t16, hge]
                    rfl, by simp, rfl, ?_, ?_, ?_, ?_, ?_, ?_, nj, gj, fj⟩
                  · simp only [Tr.get_set, zEq, reduceIte, t1]
                  · simp only [Tr.get_set, zEq, reduceIte, t3]
                  · simp only [Tr.get_set, zEq, reduceIte, t5]
                  · simp only [Tr.get_set, zEq, reduceIte, t6]
                  · simp only [Tr.get_set, zEq, reduceIte, t12]
                  · simp only [Tr.get_set, zEq, reduceIte, t15]
                · refine ⟨Nat.zero_le _, ?_, ?_, ?_, ?_, ?_, ?_, ?_, nw, gw, fun _ _ => rfl⟩
                  · simp only [Tr.get_set, zEq, reduceIte, t1]
                  · simp only [Tr.get_set, zEq, reduceIte, t3]
                  · simp only [Tr.get_set, zEq, reduceIte, t5]
                  · simp only [Tr.get_set, zEq, reduceIte, t6]
                  · simp only [Tr.get_set, zEq, reduceIte]
                  · simp only [Tr.get_set, zEq, reduceIte]
                  · simp only [Tr.get_set, zEq, reduceIte]; rfl
              obtain ⟨us, hus⟩ : ∃ us, us = wd kk := ⟨_, rfl⟩
              rw [← hus] at gv
              have hul : us.length = kk := by rw [hus]; exact hwl kk
              have hall : us.all wordQ = true := by
                rw [List.all_eq_true]
                intro x hx
                rw [hus, hwd] at hx
                obtain ⟨t, ht, rfl⟩ := List.mem_map.1 hx
                rw [List.mem_range] at ht
                unfold wordQ
                apply decide_eq_true
                rw [if_pos ht]
                omega
              have fq : ∀ s, s < q + 1 → σv.get s = σq.get s := fun s hs => by rw [fv s (by omega), exw.2 s (by omega)]
              have mv1 : σv.get 1 = some (.row 2 true [X, Y]) := by rw [fq 1 (by omega)]; exact mq1
              have mv0 : σv.get 0 = some (.row 2 true [.int .u8 (z : Nat), .vs Ks (st.map stV)]) := by rw [fq 0 (by omega)]; exact mq0
              have mvr : σv.get r = some (.row 3 true (its.map itC).flatten) := by rw [fq r (by omega)]; exact hrow
              obtain ⟨σn, hσn⟩ : ∃ s, s = σv.push (.row 2 true [.vs .nil [], .vs .nil []]) := ⟨_, rfl⟩
              have exn : Ext σv σn := by rw [hσn]; exact Ext.push _ _
              have nn3 : σn.next = q + 3 := by rw [hσn]; simp [nv]
              have mn1 : σn.get 1 = some (.row 2 true [X, Y]) := by rw [exn.2 1 (by omega)]; exact mv1
              have mnr : σn.get r = some (.row 3 true (its.map itC).flatten) := by rw [exn.2 r (by omega)]; exact mvr
              have mnd : σn.get (q + 2) = some (.row 2 true [.vs .nil [], .vs .nil []]) := by rw [hσn, AMem.get_push, if_pos nv]
              have gn : σn.get (q + 1) = some (.row 1 false (intV us)) := by rw [exn.2 (q + 1) (by omega)]; exact gv
              have hsrc : sourceA 1 σn (.slice (q + 1) 0 kk (some kk) 1) = some (intV us, us.length) := by
                have h1 : (intV us).length = kk := by rw [intV_length, hul]
                simp only [sourceA, gn, h1, List.drop_zero]
                rw [if_pos (by omega), List.take_of_length_le (by omega), hul]
              obtain ⟨y, σy, hay, exy, hy⟩ := append_nil (σ := σn) (e := (⟨.int .i64, 1, 8, [.int .i64 0]⟩ : TyI)) (x := .slice (q + 1) 0 kk (some kk) 1) (cells := intV us) (n := us.length) (by decide) (by decide) (by decide) hsrc (by simp only [mostBytes]; omega)
              have hy1 : NilOr σy σn.next 1 false y us.length (intV us) := hy
              obtain ⟨K2, S2, hys⟩ := nilOr_snap hy1
              obtain ⟨v2, hc2, hv2⟩ := Put_snap (k := k) at_ hv1 hb (by omega) hys (by omega)
              have hgt : ¬ ((us.length : Nat) : Int) > b.size := by omega
              have hres : putH ps ws at_ us = ⟨ps, putW ws b us, 0, 0⟩ := by unfold putH; rw [hrb, if_pos rfl, hf]; simp only [hall, if_true, if_neg hgt]
              rw [hres] at hc2 hv2
              simp only at hc2 hv2
              obtain ⟨X2, Y2, rfl, hX2, hY2⟩ := hv2.cells
              have hny := exy.1
              obtain ⟨d, hd⟩ : ∃ d, d = q + 2 := ⟨_, rfl⟩
              have myd : σy.get d = some (.row 2 true [.vs .nil [], .vs .nil []]) := by rw [hd, exy.2 (q + 2) (by omega)]; exact mnd
              obtain ⟨σz, hσz⟩ : ∃ s, s = σy.put d (.row 2 true [X2, Y2]) := ⟨_, rfl⟩
              have nz : σz.next = σy.next := by rw [hσz]; simp
              have gz : σz.get d = some (.row 2 true [X2, Y2]) := by rw [hσz, AMem.get_put, if_pos rfl]
              have fz : ∀ s, s < q + 2 → σz.get s = σv.get s := fun s hs => by rw [hσz, AMem.get_put, if_neg (by omega), exy.2 s (by omega), exn.2 s (by omega)]
              have my1 : σy.get 1 = some (.row 2 true [X, Y]) := by rw [exy.2 1 (by omega)]; exact mn1
              have myr : σy.get r = some (.row 3 true (its.map itC).flatten) := by rw [exy.2 r (by omega)]; exact mnr
              have mz1 : σz.get 1 = some (.row 2 true [X, Y]) := by rw [fz 1 (by omega)]; exact mv1
              obtain ⟨σt, hσt⟩ : ∃ s, s = σz.put 1 (.row 2 true [X2, Y2]) := ⟨_, rfl⟩
              have nt : σt.next = σy.next := by rw [hσt]; simpa using nz
              have ft : ∀ s, s ≠ 1 → σt.get s = σz.get s := fun s hs => by rw [hσt, AMem.get_put, if_neg (fun e => hs e.symm)]
              have mtr : σt.get r = some (.row 3 true (its.map itC).flatten) := by rw [ft r nro, fz r (by omega)]; exact mvr
              have mt0 : σt.get 0 = some (.row 2 true [.int .u8 (z : Nat), .vs Ks (st.map stV)]) := by rw [ft 0 (by omega), fz 0 (by omega)]; exact mv0
              have mt1 : σt.get 1 = some (.row 2 true [X2, Y2]) := by rw [hσt, AMem.get_put, if_pos rfl]
              have mtw : σt.get (q + 1) = some (.row 1 false (intV us)) := by rw [ft (q + 1) (by omega), fz (q + 1) (by omega)]; exact gv
              have hLt : ListI 2 σt (.slice r 0 its.length none 3) its := hLq.same (by omega) fun s hs h2 => by rw [ft s (by omega), fz s (by omega), fq s (by omega)]
              obtain ⟨σu, hσu⟩ : ∃ s, s = σt.put r (.row 3 true (((its.map itC).flatten).set (ix * 3 + 2) (.slice (q + 1) 0 kk (some kk) 1))) := ⟨_, rfl⟩
              have hwi : ItOk 2 σt (rowOf (.slice r 0 its.length none 3)) (({ (its[ix]).1.1 with words := us }, .some), .slice (q + 1) 0 kk (some kk) 1) := by
                have hs := snap_ints (fr := false) (d := 9) (r := q + 1) (n := kk) (lo := 0) (l := us) (cap := some kk) (by omega) mtw
                have hseg : segW us 0 kk = us := by unfold segW; rw [List.drop_zero, List.take_of_length_le (by omega)]
                rw [hseg] at hs
                refine ⟨rfl, [q + 1], hs, fun s hm => ?_⟩
                simp only [List.mem_singleton] at hm
                subst hm
                exact ⟨by omega, by omega, by simp only [rowOf, List.mem_singleton]; omega⟩
              have hLu := hLt.poke hixl rfl mtr hwi
              rw [← hσu] at hLu
              have mu1 : σu.get 1 = some (.row 2 true [X2, Y2]) := by rw [hσu, AMem.get_put, if_neg nro]; exact mt1
              have mu0 : σu.get 0 = some (.row 2 true [.int .u8 (z : Nat), .vs Ks (st.map stV)]) := by rw [hσu, AMem.get_put, if_neg (by omega)]; exact mt0
              have nu : σu.next = σy.next := by rw [hσu]; simpa using nt
              have hmu : MapI ps (putW ws b us) (((its.set ix (({ (its[ix]).1.1 with words := us }, VK.some), AVal.slice (q + 1) 0 kk (some kk) 1)).map Prod.fst).map Prod.fst) := by
                have := map_put (i := ix) (us := us) hmI (by omega) (by rw [hlx, ← hat]; exact hf) hall (by omega)
                rw [hlx, hlm] at this
                rw [List.map_set, List.map_set]
                exact this
              obtain ⟨hap, hho⟩ := checks_both (k := k) hv2 hLu hmu (by omega)
              have nd1 : ¬ d = 1 := by omega
              have ndr : ¬ d = r := by omega
              have hin3 : ix * 3 + 2 + 1 ≤ its.length * 3 := by omega
              have hin3' : ix * 3 + 3 ≤ its.length * 3 := by omega
              rw [← hd] at mnd nv
              have ndo : ¬ 1 = d := by omega
              have nrd : ¬ r = d := by omega
              simp only [dx, reduceIte, zLt, zLe, zEq, zAd, zMu, zSu, zBe, yEq, yLt, yLe, yTn, reduceCtorEq, sx, fx9, u1, u3, u5, u6, u12, u15, mv1, hX, hY, hc1, mvr, hlt2, hg0, nv, nd1, ndr, ndo, nrd, hay, mn1, mnr, mnd, hc2, hX2, hY2, my1, myr, myd, Int.natCast_nonneg, Int.toNat_natCast, ← hσn, ← hσz]
              simp only [dx, reduceIte, zLt, zLe, zEq, zAd, zMu, zSu, zBe, yEq, yLt, yLe, yTn, reduceCtorEq, sx, fx9, u1, u3, u5, u6, u12, u15, show ((0 : Int) != 0) = false from rfl, gz, mz1, hX2, hY2, ← hσt]
              simp only [dx, reduceIte, zLt, zLe, zEq, zAd, zMu, zSu, zBe, yEq, yLt, yLe, yTn, reduceCtorEq, sx, fx9, u1, u3, u5, u6, u12, u15, mtr, hcells, hin3, hin3', hlt2, Int.natCast_nonneg, Int.toNat_natCast, ← hσu]
              simp only [dx, reduceIte, zLt, zLe, zEq, zAd, zMu, zSu, zBe, yEq, yLt, yLe, yTn, reduceCtorEq, sx, fx9, u1, u3, u5, u6, u12, u15, mu1, hX2, hY2, hap, hho, hw']
              refine ⟨_, _, rfl, by omega, ?_, ?_, ?_, X2, Y2, ps, _, _, _, ?_, mu0, mu1, hv2, hLu, hmu, by rw [List.length_set]; omega, by omega⟩
              · simp only [Tr.get_set, zEq, reduceIte, u1]
              · simp only [Tr.get_set, zEq, reduceIte, u3]
              · simp only [Tr.get_set, zEq, reduceIte]
              · simp only [Tr.get_set, zEq, reduceIte, u5]
          · obtain ⟨n, hn, hask⟩ := asked_call (k := k) c b3 (by omega)
            obtain ⟨X2, Y2, hc2, hv2, hX2, hY2⟩ := alloc n
            obtain ⟨σr, hσr⟩ : ∃ s, s = (σq.push (.row 2 true [.vs .nil [], .vs .nil []])).put (q + 1) (.row 2 true [X2, Y2]) := ⟨_, rfl⟩
            have exr : Ext σq σr := by rw [hσr]; exact (Ext.push _ _).put _ _ (by omega)
            have nr : σr.next = q + 2 := by rw [hσr]; simp [nq]
            have gr : σr.get (q + 1) = some (.row 2 true [X2, Y2]) := by rw [hσr, AMem.get_put, if_pos rfl]
            have grq : σr.get q = some (.row 3 true [.int .u8 (a : Nat), .int .u8 (bb : Nat), .int .u8 (c : Nat)]) := by rw [exr.2 q (by omega)]; exact gq
            have mr0 : σr.get 0 = some (.row 2 true [.int .u8 (z : Nat), .vs Ks (st.map stV)]) := by rw [exr.2 0 (by omega)]; exact mq0
            have mr1 : σr.get 1 = some (.row 2 true [X, Y]) := by rw [exr.2 1 (by omega)]; exact mq1
            have hLr : ListI 2 σr out its := hLq.same exr.1 fun s _ hs => exr.2 s hs
            by_cases hcA : (((a % 4 : Nat) : Int) < 2)
            · cases hal : allocL ps (n : Nat) with
              | none =>
                have hres : allocH ps ws (n : Nat) = ⟨[], [], 0, 8⟩ := by unfold allocH; rw [hrb, if_pos rfl, if_pos (by omega), hal]
                rw [hres] at hc2
                simp only at hc2
                refine ⟨_, _, by
                  simp only [dx, reduceIte, zLt, zLe, zEq, zAd, zMu, zSu, zBe, yEq, yLt, yLe, yTn, reduceCtorEq, sx, fx9, Nat.add_assoc, Nat.add_eq_left, Nat.left_eq_add, Nat.add_left_cancel_iff, t1, t3, t5, t6, m0, hlt, List.length_map, hget, Int.natCast_nonneg, Int.toNat_natCast, ← hq, ← hσq]
                  simp only [dx, reduceIte, zLt, zLe, zEq, zAd, zMu, zSu, zBe, yEq, yLt, yLe, yTn, reduceCtorEq, sx, fx9, t1, t3, t5, t6, gq, c03, c13, c23, nqq, nqz, nqo, hz00, List.length_nil, w4, hcA, mq1, hX, hY, hc1, hask, hc2, hX2, hY2, nq, show ((8 : Int) == 8) = true from rfl, hw', ← hσr]
                  rfl, by omega, ?_, ?_, ?_, X, Y, ps, ws, _, its, ?_, mr0, mr1, hvh, hLr, hm, by omega, by omega⟩
                · simp only [Tr.get_set, zEq, reduceIte, t1]
                · simp only [Tr.get_set, zEq, reduceIte, t3]
                · simp only [Tr.get_set, zEq, reduceIte]
                · simp only [Tr.get_set, zEq, reduceIte, t5]
              | some x =>
                obtain ⟨qs, b⟩ := x
                have hres : allocH ps ws (n : Nat) = ⟨qs, ws, b.at_, 0⟩ := by unfold allocH; rw [hrb, if_pos rfl, if_pos (by omega), hal]
                rw [hres] at hc2 hv2
                simp only at hc2 hv2
                obtain ⟨out', σs, ha, hLs, hns, hfs⟩ := hLr.add (by omega) (by omega) b.at_ (n : Nat)
                have hm' := map_alloc hm hn hal
                have ms1 : σs.get 1 = some (.row 2 true [X, Y]) := by rw [hfs 1 (by omega) (fun h => by have := (hLr.rows 1 h).1; omega)]; exact mr1
                have ms0 : σs.get 0 = some (.row 2 true [.int .u8 (z : Nat), .vs Ks (st.map stV)]) := by rw [hfs 0 (by omega) (fun h => by have := (hLr.rows 0 h).1; omega)]; exact mr0
                have msr : σs.get (q + 1) = some (.row 2 true [X2, Y2]) := by rw [hfs (q + 1) (by omega) (fun h => by have := (hL.rows _ h).2; omega)]; exact gr
                have msq : σs.get q = some (.row 3 true [.int .u8 (a : Nat), .int .u8 (bb : Nat), .int .u8 (c : Nat)]) := by rw [hfs q (by omega) (fun h => by have := (hL.rows _ h).2; omega)]; exact grq
                obtain ⟨σt, hσt⟩ : ∃ s, s = σs.put 1 (.row 2 true [X2, Y2]) := ⟨_, rfl⟩
                have mt1 : σt.get 1 = some (.row 2 true [X2, Y2]) := by rw [hσt, AMem.get_put, if_pos rfl]
                have mt0 : σt.get 0 = some (.row 2 true [.int .u8 (z : Nat), .vs Ks (st.map stV)]) := by rw [hσt, AMem.get_put, if_neg (by omega)]; exact ms0
                have nt : σt.next = σs.next := by rw [hσt]; simp
                have hLt : ListI 2 σt out' (its ++ [((⟨b.at_, (n : Nat), []⟩, .nil), .vs .nil [])]) := hLs.same (by omega) fun s hs _ => by rw [hσt, AMem.get_put, if_neg (by omega)]
                have hmt : MapI qs ws (((its ++ [(((⟨b.at_, (n : Nat), []⟩ : Held), VK.nil), AVal.vs .nil [])]).map Prod.fst).map Prod.fst) := by
                  rw [List.map_append, List.map_append]
                  exact hm'
                obtain ⟨hap, hho⟩ := checks_both (k := k) hv2 hLt hmt (by omega)
                have hbn : Held.n ⟨b.at_, (n : Nat), []⟩ = ((n : Nat) : Int) := rfl
                refine ⟨_, _, by
                  simp only [dx, reduceIte, zLt, zLe, zEq, zAd, zMu, zSu, zBe, yEq, yLt, yLe, yTn, reduceCtorEq, sx, fx9, Nat.add_assoc, Nat.add_eq_left, Nat.left_eq_add, Nat.add_left_cancel_iff, t1, t3, t5, t6, m0, hlt, List.length_map, hget, Int.natCast_nonneg, Int.toNat_natCast, ← hq, ← hσq]
                  simp only [dx, reduceIte, zLt, zLe, zEq, zAd, zMu, zSu, zBe, yEq, yLt, yLe, yTn, reduceCtorEq, sx, fx9, t1, t3, t5, t6, gq, c03, c13, c23, nqq, nqz, nqo, hz00, List.length_nil, w4, hcA, mq1, hX, hY, hc1, hask, hc2, hX2, hY2, nq, ← hσr]
                  simp only [dx, reduceIte, zLt, zLe, zEq, zAd, zMu, zSu, zBe, yEq, yLt, yLe, yTn, reduceCtorEq, sx, fx9, t1, t3, t5, t6, show ((0 : Int) == 8) = false from rfl, show ((0 : Int) != 0) = false from rfl, gr, grq, nqq, nqz, nqo, c03, c13, c23, hask, ha, ms1, msr, msq, hX2, hY2, ← hσt]
                  simp only [dx, reduceIte, zLt, zLe, zEq, zAd, zMu, zSu, zBe, yEq, yLt, yLe, yTn, reduceCtorEq, sx, fx9, t1, t3, t5, t6, mt1, hX2, hY2, hap, hho, hw']
                  rfl, by omega, ?_, ?_, ?_, X2, Y2, qs, ws, out', _, ?_, mt0, mt1, hv2, hLt, hmt, by rw [List.length_append, List.length_singleton]; omega, by omega⟩
                · simp only [Tr.get_set, zEq, reduceIte, t1]
                · simp only [Tr.get_set, zEq, reduceIte, t3]
                · simp only [Tr.get_set, zEq, reduceIte]
                · simp only [Tr.get_set, zEq, reduceIte]
            · have hnil : its = [] := List.eq_nil_of_length_eq_zero (by omega)
              have hform : out = .vs .nil [] ∨ ∃ r, out = .slice r 0 0 (some 0) 3 ∨ out = .slice r 0 0 none 3 := by
                subst hnil
                rcases hL.1 with ⟨_, ⟨_, h⟩ | ⟨r, _, _, h, _⟩⟩ | ⟨_, _, r, _, _, h, _⟩
                · exact .inl h
                · exact .inr ⟨r, .inr h⟩
                · exact .inr ⟨r, .inl h⟩
              rcases hform with rfl | ⟨r, rfl | rfl⟩
              · cases hal : allocL ps (n : Nat) with
                | none =>
                  have hres : allocH ps ws (n : Nat) = ⟨[], [], 0, 8⟩ := by unfold allocH; rw [hrb, if_pos rfl, if_pos (by omega), hal]
                  rw [hres] at hc2
                  simp only at hc2
                  refine ⟨_, _, by
                    simp only [dx, reduceIte, zLt, zLe, zEq, zAd, zMu, zSu, zBe, yEq, yLt, yLe, yTn, reduceCtorEq, sx, fx9, Nat.add_assoc, Nat.add_eq_left, Nat.left_eq_add, Nat.add_left_cancel_iff, t1, t3, t5, t6, m0, hlt, List.length_map, hget, Int.natCast_nonneg, Int.toNat_natCast, ← hq, ← hσq]
                    simp only [dx, reduceIte, zLt, zLe, zEq, zAd, zMu, zSu, zBe, yEq, yLt, yLe, yTn, reduceCtorEq, sx, fx9, t1, t3, t5, t6, gq, c03, c13, c23, nqq, nqz, nqo, hz00, List.length_nil, w4, hcA, mq1, hX, hY, hc1, hask, hc2, hX2, hY2, nq, show ((8 : Int) == 8) = true from rfl, hw', ← hσr]
                    rfl, by omega, ?_, ?_, ?_, X, Y, ps, ws, _, its, ?_, mr0, mr1, hvh, hLr, hm, by omega, by omega⟩
                  · simp only [Tr.get_set, zEq, reduceIte, t1]
                  · simp only [Tr.get_set, zEq, reduceIte, t3]
                  · simp only [Tr.get_set, zEq, reduceIte]
                  · simp only [Tr.get_set, zEq, reduceIte, t5]
                | some x =>
                  obtain ⟨qs, b⟩ := x
                  have hres : allocH ps ws (n : Nat) = ⟨qs, ws, b.at_, 0⟩ := by unfold allocH; rw [hrb, if_pos rfl, if_pos (by omega), hal]
                  rw [hres] at hc2 hv2
                  simp only at hc2 hv2
                  obtain ⟨out', σs, ha, hLs, hns, hfs⟩ := hLr.add (by omega) (by omega) b.at_ (n : Nat)
                  have hm' := map_alloc hm hn hal
                  have ms1 : σs.get 1 = some (.row 2 true [X, Y]) := by rw [hfs 1 (by omega) (fun h => by have := (hLr.rows 1 h).1; omega)]; exact mr1
                  have ms0 : σs.get 0 = some (.row 2 true [.int .u8 (z : Nat), .vs Ks (st.map stV)]) := by rw [hfs 0 (by omega) (fun h => by have := (hLr.rows 0 h).1; omega)]; exact mr0
                  have msr : σs.get (q + 1) = some (.row 2 true [X2, Y2]) := by rw [hfs (q + 1) (by omega) (fun h => by have := (hL.rows _ h).2; omega)]; exact gr
                  have msq : σs.get q = some (.row 3 true [.int .u8 (a : Nat), .int .u8 (bb : Nat), .int .u8 (c : Nat)]) := by rw [hfs q (by omega) (fun h => by have := (hL.rows _ h).2; omega)]; exact grq
                  obtain ⟨σt, hσt⟩ : ∃ s, s = σs.put 1 (.row 2 true [X2, Y2]) := ⟨_, rfl⟩
                  have mt1 : σt.get 1 = some (.row 2 true [X2, Y2]) := by rw [hσt, AMem.get_put, if_pos rfl]
                  have mt0 : σt.get 0 = some (.row 2 true [.int .u8 (z : Nat), .vs Ks (st.map stV)]) := by rw [hσt, AMem.get_put, if_neg (by omega)]; exact ms0
                  have nt : σt.next = σs.next := by rw [hσt]; simp
                  have hLt : ListI 2 σt out' (its ++ [((⟨b.at_, (n : Nat), []⟩, .nil), .vs .nil [])]) := hLs.same (by omega) fun s hs _ => by rw [hσt, AMem.get_put, if_neg (by omega)]
                  have hmt : MapI qs ws (((its ++ [(((⟨b.at_, (n : Nat), []⟩ : Held), VK.nil), AVal.vs .nil [])]).map Prod.fst).map Prod.fst) := by
                    rw [List.map_append, List.map_append]
                    exact hm'
                  obtain ⟨hap, hho⟩ := checks_both (k := k) hv2 hLt hmt (by omega)
                  have hbn : Held.n ⟨b.at_, (n : Nat), []⟩ = ((n : Nat) : Int) := rfl
                  refine ⟨_, _, by
                    simp only [dx, reduceIte, zLt, zLe, zEq, zAd, zMu, zSu, zBe, yEq, yLt, yLe, yTn, reduceCtorEq, sx, fx9, Nat.add_assoc, Nat.add_eq_left, Nat.left_eq_add, Nat.add_left_cancel_iff, t1, t3, t5, t6, m0, hlt, List.length_map, hget, Int.natCast_nonneg, Int.toNat_natCast, ← hq, ← hσq]
                    simp only [dx, reduceIte, zLt, zLe, zEq, zAd, zMu, zSu, zBe, yEq, yLt, yLe, yTn, reduceCtorEq, sx, fx9, t1, t3, t5, t6, gq, c03, c13, c23, nqq, nqz, nqo, hz00, List.length_nil, w4, hcA, mq1, hX, hY, hc1, hask, hc2, hX2, hY2, nq, ← hσr]
                    simp only [dx, reduceIte, zLt, zLe, zEq, zAd, zMu, zSu, zBe, yEq, yLt, yLe, yTn, reduceCtorEq, sx, fx9, t1, t3, t5, t6, show ((0 : Int) == 8) = false from rfl, show ((0 : Int) != 0) = false from rfl, gr, grq, nqq, nqz, nqo, c03, c13, c23, hask, ha, ms1, msr, msq, hX2, hY2, ← hσt]
                    simp only [dx, reduceIte, zLt, zLe, zEq, zAd, zMu, zSu, zBe, yEq, yLt, yLe, yTn, reduceCtorEq, sx, fx9, t1, t3, t5, t6, mt1, hX2, hY2, hap, hho, hw']
                    rfl, by omega, ?_, ?_, ?_, X2, Y2, qs, ws, out', _, ?_, mt0, mt1, hv2, hLt, hmt, by rw [List.length_append, List.length_singleton]; omega, by omega⟩
                  · simp only [Tr.get_set, zEq, reduceIte, t1]
                  · simp only [Tr.get_set, zEq, reduceIte, t3]
                  · simp only [Tr.get_set, zEq, reduceIte]
                  · simp only [Tr.get_set, zEq, reduceIte]
              · cases hal : allocL ps (n : Nat) with
                | none =>
                  have hres : allocH ps ws (n : Nat) = ⟨[], [], 0, 8⟩ := by unfold allocH; rw [hrb, if_pos rfl, if_pos (by omega), hal]
                  rw [hres] at hc2
                  simp only at hc2
                  refine ⟨_, _, by
                    simp only [dx, reduceIte, zLt, zLe, zEq, zAd, zMu, zSu, zBe, yEq, yLt, yLe, yTn, reduceCtorEq, sx, fx9, Nat.add_assoc, Nat.add_eq_left, Nat.left_eq_add, Nat.add_left_cancel_iff, t1, t3, t5, t6, m0, hlt, List.length_map, hget, Int.natCast_nonneg, Int.toNat_natCast, ← hq, ← hσq]
                    simp only [dx, reduceIte, zLt, zLe, zEq, zAd, zMu, zSu, zBe, yEq, yLt, yLe, yTn, reduceCtorEq, sx, fx9, t1, t3, t5, t6, gq, c03, c13, c23, nqq, nqz, nqo, hz00, List.length_nil, w4, hcA, mq1, hX, hY, hc1, hask, hc2, hX2, hY2, nq, show ((8 : Int) == 8) = true from rfl, hw', ← hσr]
                    rfl, by omega, ?_, ?_, ?_, X, Y, ps, ws, _, its, ?_, mr0, mr1, hvh, hLr, hm, by omega, by omega⟩
                  · simp only [Tr.get_set, zEq, reduceIte, t1]
                  · simp only [Tr.get_set, zEq, reduceIte, t3]
                  · simp only [Tr.get_set, zEq, reduceIte]
                  · simp only [Tr.get_set, zEq, reduceIte, t5]
                | some x =>
                  obtain ⟨qs, b⟩ := x
                  have hres : allocH ps ws (n : Nat) = ⟨qs, ws, b.at_, 0⟩ := by unfold allocH; rw [hrb, if_pos rfl, if_pos (by omega), hal]
                  rw [hres] at hc2 hv2
                  simp only at hc2 hv2
                  obtain ⟨out', σs, ha, hLs, hns, hfs⟩ := hLr.add (by omega) (by omega) b.at_ (n : Nat)
                  have hm' := map_alloc hm hn hal
                  have ms1 : σs.get 1 = some (.row 2 true [X, Y]) := by rw [hfs 1 (by omega) (fun h => by have := (hLr.rows 1 h).1; omega)]; exact mr1
                  have ms0 : σs.get 0 = some (.row 2 true [.int .u8 (z : Nat), .vs Ks (st.map stV)]) := by rw [hfs 0 (by omega) (fun h => by have := (hLr.rows 0 h).1; omega)]; exact mr0
                  have msr : σs.get (q + 1) = some (.row 2 true [X2, Y2]) := by rw [hfs (q + 1) (by omega) (fun h => by have := (hL.rows _ h).2; omega)]; exact gr
                  have msq : σs.get q = some (.row 3 true [.int .u8 (a : Nat), .int .u8 (bb : Nat), .int .u8 (c : Nat)]) := by rw [hfs q (by omega) (fun h => by have := (hL.rows _ h).2; omega)]; exact grq
                  obtain ⟨σt, hσt⟩ : ∃ s, s = σs.put 1 (.row 2 true [X2, Y2]) := ⟨_, rfl⟩
                  have mt1 : σt.get 1 = some (.row 2 true [X2, Y2]) := by rw [hσt, AMem.get_put, if_pos rfl]
                  have mt0 : σt.get 0 = some (.row 2 true [.int .u8 (z : Nat), .vs Ks (st.map stV)]) := by rw [hσt, AMem.get_put, if_neg (by omega)]; exact ms0
                  have nt : σt.next = σs.next := by rw [hσt]; simp
                  have hLt : ListI 2 σt out' (its ++ [((⟨b.at_, (n : Nat), []⟩, .nil), .vs .nil [])]) := hLs.same (by omega) fun s hs _ => by rw [hσt, AMem.get_put, if_neg (by omega)]
                  have hmt : MapI qs ws (((its ++ [(((⟨b.at_, (n : Nat), []⟩ : Held), VK.nil), AVal.vs .nil [])]).map Prod.fst).map Prod.fst) := by
                    rw [List.map_append, List.map_append]
                    exact hm'
                  obtain ⟨hap, hho⟩ := checks_both (k := k) hv2 hLt hmt (by omega)
                  have hbn : Held.n ⟨b.at_, (n : Nat), []⟩ = ((n : Nat) : Int) := rfl
                  refine ⟨_, _, by
                    simp only [dx, reduceIte, zLt, zLe, zEq, zAd, zMu, zSu, zBe, yEq, yLt, yLe, yTn, reduceCtorEq, sx, fx9, Nat.add_assoc, Nat.add_eq_left, Nat.left_eq_add, Nat.add_left_cancel_iff, t1, t3, t5, t6, m0, hlt, List.length_map, hget, Int.natCast_nonneg, Int.toNat_natCast, ← hq, ← hσq]
                    simp only [dx, reduceIte, zLt, zLe, zEq, zAd, zMu, zSu, zBe, yEq, yLt, yLe, yTn, reduceCtorEq, sx, fx9, t1, t3, t5, t6, gq, c03, c13, c23, nqq, nqz, nqo, hz00, List.length_nil, w4, hcA, mq1, hX, hY, hc1, hask, hc2, hX2, hY2, nq, ← hσr]
                    simp only [dx, reduceIte, zLt, zLe, zEq, zAd, zMu, zSu, zBe, yEq, yLt, yLe, yTn, reduceCtorEq, sx, fx9, t1, t3, t5, t6, show ((0 : Int) == 8) = false from rfl, show ((0 : Int) != 0) = false from rfl, gr, grq, nqq, nqz, nqo, c03, c13, c23, hask, ha, ms1, msr, msq, hX2, hY2, ← hσt]
                    simp only [dx, reduceIte, zLt, zLe, zEq, zAd, zMu, zSu, zBe, yEq, yLt, yLe, yTn, reduceCtorEq, sx, fx9, t1, t3, t5, t6, mt1, hX2, hY2, hap, hho, hw']
                    rfl, by omega, ?_, ?_, ?_, X2, Y2, qs, ws, out', _, ?_, mt0, mt1, hv2, hLt, hmt, by rw [List.length_append, List.length_singleton]; omega, by omega⟩
                  · simp only [Tr.get_set, zEq, reduceIte, t1]
                  · simp only [Tr.get_set, zEq, reduceIte, t3]
                  · simp only [Tr.get_set, zEq, reduceIte]
                  · simp only [Tr.get_set, zEq, reduceIte]
              · cases hal : allocL ps (n : Nat) with
                | none =>
                  have hres : allocH ps ws (n : Nat) = ⟨[], [], 0, 8⟩ := by unfold allocH; rw [hrb, if_pos rfl, if_pos (by omega), hal]
                  rw [hres] at hc2
                  simp only at hc2
                  refine ⟨_, _, by
                    simp only [dx, reduceIte, zLt, zLe, zEq, zAd, zMu, zSu, zBe, yEq, yLt, yLe, yTn, reduceCtorEq, sx, fx9, Nat.add_assoc, Nat.add_eq_left, Nat.left_eq_add, Nat.add_left_cancel_iff, t1, t3, t5, t6, m0, hlt, List.length_map, hget, Int.natCast_nonneg, Int.toNat_natCast, ← hq, ← hσq]
                    simp only [dx, reduceIte, zLt, zLe, zEq, zAd, zMu, zSu, zBe, yEq, yLt, yLe, yTn, reduceCtorEq, sx, fx9, t1, t3, t5, t6, gq, c03, c13, c23, nqq, nqz, nqo, hz00, List.length_nil, w4, hcA, mq1, hX, hY, hc1, hask, hc2, hX2, hY2, nq, show ((8 : Int) == 8) = true from rfl, hw', ← hσr]
                    rfl, by omega, ?_, ?_, ?_, X, Y, ps, ws, _, its, ?_, mr0, mr1, hvh, hLr, hm, by omega, by omega⟩
                  · simp only [Tr.get_set, zEq, reduceIte, t1]
                  · simp only [Tr.get_set, zEq, reduceIte, t3]
                  · simp only [Tr.get_set, zEq, reduceIte]
                  · simp only [Tr.get_set, zEq, reduceIte, t5]
                | some x =>
                  obtain ⟨qs, b⟩ := x
                  have hres : allocH ps ws (n : Nat) = ⟨qs, ws, b.at_, 0⟩ := by unfold allocH; rw [hrb, if_pos rfl, if_pos (by omega), hal]
                  rw [hres] at hc2 hv2
                  simp only at hc2 hv2
                  obtain ⟨out', σs, ha, hLs, hns, hfs⟩ := hLr.add (by omega) (by omega) b.at_ (n : Nat)
                  have hm' := map_alloc hm hn hal
                  have ms1 : σs.get 1 = some (.row 2 true [X, Y]) := by rw [hfs 1 (by omega) (fun h => by have := (hLr.rows 1 h).1; omega)]; exact mr1
                  have ms0 : σs.get 0 = some (.row 2 true [.int .u8 (z : Nat), .vs Ks (st.map stV)]) := by rw [hfs 0 (by omega) (fun h => by have := (hLr.rows 0 h).1; omega)]; exact mr0
                  have msr : σs.get (q + 1) = some (.row 2 true [X2, Y2]) := by rw [hfs (q + 1) (by omega) (fun h => by have := (hL.rows _ h).2; omega)]; exact gr
                  have msq : σs.get q = some (.row 3 true [.int .u8 (a : Nat), .int .u8 (bb : Nat), .int .u8 (c : Nat)]) := by rw [hfs q (by omega) (fun h => by have := (hL.rows _ h).2; omega)]; exact grq
                  obtain ⟨σt, hσt⟩ : ∃ s, s = σs.put 1 (.row 2 true [X2, Y2]) := ⟨_, rfl⟩
                  have mt1 : σt.get 1 = some (.row 2 true [X2, Y2]) := by rw [hσt, AMem.get_put, if_pos rfl]
                  have mt0 : σt.get 0 = some (.row 2 true [.int .u8 (z : Nat), .vs Ks (st.map stV)]) := by rw [hσt, AMem.get_put, if_neg (by omega)]; exact ms0
                  have nt : σt.next = σs.next := by rw [hσt]; simp
                  have hLt : ListI 2 σt out' (its ++ [((⟨b.at_, (n : Nat), []⟩, .nil), .vs .nil [])]) := hLs.same (by omega) fun s hs _ => by rw [hσt, AMem.get_put, if_neg (by omega)]
                  have hmt : MapI qs ws (((its ++ [(((⟨b.at_, (n : Nat), []⟩ : Held), VK.nil), AVal.vs .nil [])]).map Prod.fst).map Prod.fst) := by
                    rw [List.map_append, List.map_append]
                    exact hm'
                  obtain ⟨hap, hho⟩ := checks_both (k := k) hv2 hLt hmt (by omega)
                  have hbn : Held.n ⟨b.at_, (n : Nat), []⟩ = ((n : Nat) : Int) := rfl
                  refine ⟨_, _, by
                    simp only [dx, reduceIte, zLt, zLe, zEq, zAd, zMu, zSu, zBe, yEq, yLt, yLe, yTn, reduceCtorEq, sx, fx9, Nat.add_assoc, Nat.add_eq_left, Nat.left_eq_add, Nat.add_left_cancel_iff, t1, t3, t5, t6, m0, hlt, List.length_map, hget, Int.natCast_nonneg, Int.toNat_natCast, ← hq, ← hσq]
                    simp only [dx, reduceIte, zLt, zLe, zEq, zAd, zMu, zSu, zBe, yEq, yLt, yLe, yTn, reduceCtorEq, sx, fx9, t1, t3, t5, t6, gq, c03, c13, c23, nqq, nqz, nqo, hz00, List.length_nil, w4, hcA, mq1, hX, hY, hc1, hask, hc2, hX2, hY2, nq, ← hσr]
                    simp only [dx, reduceIte, zLt, zLe, zEq, zAd, zMu, zSu, zBe, yEq, yLt, yLe, yTn, reduceCtorEq, sx, fx9, t1, t3, t5, t6, show ((0 : Int) == 8) = false from rfl, show ((0 : Int) != 0) = false from rfl, gr, grq, nqq, nqz, nqo, c03, c13, c23, hask, ha, ms1, msr, msq, hX2, hY2, ← hσt]
                    simp only [dx, reduceIte, zLt, zLe, zEq, zAd, zMu, zSu, zBe, yEq, yLt, yLe, yTn, reduceCtorEq, sx, fx9, t1, t3, t5, t6, mt1, hX2, hY2, hap, hho, hw']
                    rfl, by omega, ?_, ?_, ?_, X2, Y2, qs, ws, out', _, ?_, mt0, mt1, hv2, hLt, hmt, by rw [List.length_append, List.length_singleton]; omega, by omega⟩
                  · simp only [Tr.get_set, zEq, reduceIte, t1]
                  · simp only [Tr.get_set, zEq, reduceIte, t3]
                  · simp only [Tr.get_set, zEq, reduceIte]
                  · simp only [Tr.get_set, zEq, reduceIte]
        · intro T σi hS
          have hS2 := hS
          obtain ⟨_, t1, t3, t6, X, Y, ps, ws, out, its, t5, m0, m1, hvh, hL, hm, hil, hn2⟩ := hS
          have hge : ¬ (((st.length : Nat) : Int) < ((st.length : Nat) : Int)) := by omega
          refine ⟨_, _, _, by
            simp only [dx, reduceIte, zLt, zLe, zEq, zAd, zMu, zSu, zBe, yEq, yLt, yLe, yTn, reduceCtorEq, sx, fx9, t1, t6, m0, List.length_map, hge]
            rfl, by simp, rfl, Nat.le_refl _, ?_, ?_, ?_, X, Y, ps, ws, out, its, ?_, m0, m1, hvh, hL, hm, hil, hn2⟩
          · simp only [Tr.get_set, zEq, reduceIte, t1]
          · simp only [Tr.get_set, zEq, reduceIte, t3]
          · simp only [Tr.get_set, zEq, reduceIte, t6]
          · simp only [Tr.get_set, zEq, reduceIte, t5]
        · refine ⟨Nat.zero_le _, ?_, ?_, ?_, X0, Y0, _, _, .vs .nil [], [], ?_, g10, g11, hv0, ListI.start _ _, map_new (by omega), Nat.le_refl _, by omega⟩
          all_goals simp only [Tr.get_set, zEq, reduceIte] <;> rfl
      obtain ⟨_, t1, t3, t6, X, Y, ps, ws, out, its, t5, m0, m1, hvh, hL, hm, hil, hn2⟩ := hS
      have hright := hm.right
      have hb := right_bd hright
      have hrb := rightB_true hright
      obtain ⟨hX, hY⟩ := two_cells hvh
      obtain ⟨v1, hc1, hv1⟩ := Copy_call (k := k) hvh hb (by omega)
      have hbl := fun (σ : AMem) => Blocks_call (k := k) (σ := σ) hv1 hb (by omega)
      have hck := pCheck_vh (k := k) hv1 hb (by omega)
      rw [hrb] at hbl hck
      simp only [if_true] at hbl hck
      have hcount := hm.count
      rw [List.length_map, List.length_map] at hcount
      have hpl : (prsV (blocksL ps)).length = its.length := by rw [hcount]; simp [prsV]
      have hq1 : (((its.length : Nat) : Int) == ((its.length : Nat) : Int)) = true := beq_self_eq_true _
      rcases hL.1 with ⟨_, ⟨h0, rfl⟩ | ⟨r, _, _, rfl, _⟩⟩ | ⟨h0, _, r, _, _, rfl, _⟩
      · rw [h0] at hpl
        simp only [dx, reduceIte, zLt, zLe, zEq, zAd, zMu, zSu, zBe, yEq, yLt, yLe, yTn, reduceCtorEq, sx, fx9, t1, t3, t5, m1, hX, hY, hc1, hbl, hck, hpl, show ((0 : Int) == 0) = true from rfl, show (((0 : Nat) : Int) == 0) = true from rfl, List.length_nil, haw]
        exact ⟨_, _, rfl, by simp only [Tr.get_set, zEq, reduceIte]⟩
      · simp only [dx, reduceIte, zLt, zLe, zEq, zAd, zMu, zSu, zBe, yEq, yLt, yLe, yTn, reduceCtorEq, sx, fx9, t1, t3, t5, m1, hX, hY, hc1, hbl, hck, hpl, hq1, show ((0 : Int) == 0) = true from rfl, haw]
        exact ⟨_, _, rfl, by simp only [Tr.get_set, zEq, reduceIte]⟩
      · rw [h0] at hpl
        simp only [dx, reduceIte, zLt, zLe, zEq, zAd, zMu, zSu, zBe, yEq, yLt, yLe, yTn, reduceCtorEq, sx, fx9, t1, t3, t5, m1, hX, hY, hc1, hbl, hck, hpl, show ((0 : Int) == 0) = true from rfl, show (((0 : Nat) : Int) == ((0 : Nat) : Int)) = true from rfl, haw]
        exact ⟨_, _, rfl, by simp only [Tr.get_set, zEq, reduceIte]⟩
  obtain ⟨T1, σ', h1, h2⟩ := run
  exact ⟨σ', q_call (first := []) (caps := []) fn9 rfl (by simp [Try.f9]) h1 (by simp) (res_one h2)⟩
end Go.Proofs.Ytjkfdiglokkceaa

/- HeapMap: the story as an argument. -/
set_option maxRecDepth 100000
set_option linter.unusedSimpArgs false
set_option linter.unusedVariables false
namespace Go.Proofs.Ytjkfdiglokkceaa
open Go Go.Proofs.Ytjkfdiglokkceaa.Pale

theorem fit_byte {P : Program} {tb n : Nat} {cs : List AVal} (hb : rkOf P tb = .int .u8) (h : CellsFit P n tb cs) : ∃ z : Nat, cs = [.int .u8 (z : Nat)] ∧ z ≤ 255 := by
  obtain ⟨x, e, hw⟩ := fit_int hb h
  have := u8_range hw
  exact ⟨x.toNat, by rw [e]; congr 2; omega, by omega⟩
theorem elem_story {P : Program} {ts tb tl te n : Nat} {x : AVal} (hs : rkOf P ts = .agg [(tb, 0), (tl, 1)]) (cs : P.cellsOf ts = 2) (cb : P.cellsOf tb = 1) (cl : P.cellsOf tl = 1) (hb : rkOf P tb = .int .u8) (hl : rkOf P tl = .slice te) (ha : rkOf P te = .agg [(tb, 0), (tb, 1), (tb, 2)]) (ca : P.cellsOf te = 3) (h : ElemFit P n ts x) : ∃ (z : Nat) (Ks : VK) (st : List Step), x = .agg [.int .u8 (z : Nat), .vs Ks (st.map stV)] ∧ z ≤ 255 ∧ ∀ s, s ∈ st → s.1 ≤ 255 ∧ s.2.1 ≤ 255 ∧ s.2.2 ≤ 255 := by
  obtain ⟨c, m, rfl, hlen, hall⟩ := elem_agg hs h
  rw [cs] at hlen
  obtain ⟨a, b, rfl⟩ : ∃ a b, c = [a, b] := by
    match c, hlen with
    | [a, b], _ => exact ⟨a, b, rfl⟩
  have h0 := hall (tb, 0) (by simp)
  have h1 := hall (tl, 1) (by simp)
  simp only [cb, cl, List.drop_zero, List.drop_succ_cons, List.take_succ_cons, List.take_zero] at h0 h1
  obtain ⟨z, e0, hz⟩ := fit_byte hb h0
  obtain ⟨m2, kp, es, e1, g1, g2, _, g3⟩ := fit_slice hl h1
  obtain ⟨st, rfl, g6⟩ := list_form (f := stV) (Q := fun s : Step => s.1 ≤ 255 ∧ s.2.1 ≤ 255 ∧ s.2.2 ≤ 255) es (fun y hy => by
    obtain ⟨c, m, rfl, hlen, hall⟩ := elem_agg ha (g3 y hy)
    rw [ca] at hlen
    obtain ⟨a, b, d, rfl⟩ : ∃ a b d, c = [a, b, d] := by
      match c, hlen with
      | [a, b, d], _ => exact ⟨a, b, d, rfl⟩
    have h0 := hall (tb, 0) (by simp)
    have h1 := hall (tb, 1) (by simp)
    have h2 := hall (tb, 2) (by simp)
    simp only [cb, List.drop_zero, List.drop_succ_cons, List.take_succ_cons, List.take_zero] at h0 h1 h2
    obtain ⟨x0, e0, q0⟩ := fit_byte hb h0
    obtain ⟨x1, e1, q1⟩ := fit_byte hb h1
    obtain ⟨x2, e2, q2⟩ := fit_byte hb h2
    simp only [List.cons.injEq, and_true] at e0 e1 e2
    subst e0; subst e1; subst e2
    exact ⟨(x0, x1, x2), rfl, q0, q1, q2⟩)
  simp only [List.cons.injEq, and_true] at e0 e1
  subst e0; subst e1
  exact ⟨z, kp, st, rfl, hz, g6⟩
end Go.Proofs.Ytjkfdiglokkceaa


