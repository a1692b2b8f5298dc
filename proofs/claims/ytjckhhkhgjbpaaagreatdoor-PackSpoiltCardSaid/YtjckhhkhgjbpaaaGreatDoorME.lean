import Derived.Test.YtjckhhkhgjbpaaaGreatDoorMD
import Derived.KernelRfl
import Derived.Test.YtjckhhkhgjbpaaaGreatDoorPaleRead
open Nat renaming reduceLT → zLt, reduceLeDiff → zLe, reduceEqDiff → zEq, reduceAdd → zAd, reduceMul → zMu, reduceSub → zSu, reduceBEq → zBe
open Int renaming reduceEq → yEq, reduceLT → yLt, reduceLE → yLe, reduceToNat → yTn
/- Thin elements and parcels (what the statements ask of their inputs). -/
set_option maxRecDepth 100000
set_option linter.unusedSimpArgs false
set_option linter.unusedVariables false
namespace Go.Proofs.YtjckhhkhgjbpaaaGreatDoor
open Go Go.Proofs.YtjckhhkhgjbpaaaGreatDoor.Pale
variable {k : Nat} {σ : AMem}

theorem thinElem_call {M : Nat} : ∀ (n d : Nat) (e : El) (k : Nat), n ≤ 10 → n + 100 ≤ k → Fit M d e → ∃ b, (∀ σ, pureCall lawProg (callN lawProg k) (.func 34 [] []) [.agg (elC e), .int .i64 n] σ = some (.bool b, σ)) ∧ (b = true → Fit 45 n e) := by
  intro n
  induction n with
  | zero =>
    intro d e k _ hk hf
    obtain ⟨k, rfl⟩ : ∃ m, k = m + 1 := ⟨k - 1, by omega⟩
    refine ⟨false, fun σ => ?_, fun h => by cases h⟩
    have run : ∃ T1 σ1, execC lawProg (callN lawProg k) k 34 58 (bodyOf Tryz.f34) (initT 0 [.agg (elC e), .int .i64 ((0 : Nat) : Int)] .nil) AMem.empty = some (.ret, T1, σ1) ∧ T1.get 4 = some (.bool false) := by
      have h0 : ((((0 : Nat) : Int) == 0) = true) := rfl
      simp only [elC]
      simp only [bodyOf, Tryz.f34, Option.getD_some, initT, dx, reduceIte, zLt, zLe, zEq, zAd, zMu, zSu, zBe, yEq, yLt, yLe, yTn, reduceCtorEq, sx, fx34, h0]
      exact ⟨_, _, rfl, by simp only [Tr.get_set, zEq, reduceIte]⟩
    obtain ⟨T1, σ1, h1, h2⟩ := run
    exact pureCall_of rfl (memo34 _) (pureRun_of fn34 rfl (by simp [Tryz.f34]) h1 (by simp) (res_one h2) rfl)
  | succ n ih =>
    intro d e k hn hk hf
    obtain ⟨k, rfl⟩ : ∃ m, k = m + 1 := ⟨k - 1, by omega⟩
    obtain ⟨d, rfl⟩ : ∃ q, d = q + 1 := by
      cases d with
      | zero => exact hf.elim
      | succ d => exact ⟨d, rfl⟩
    obtain ⟨hf1, hf2, hf3⟩ := hf
    have h00 : ((((n + 1 : Nat) : Int)) == 0) = false := by
      rw [Bool.eq_false_iff]; simp; omega
    have done : ∀ {b : Bool} {T1 : Tr AVal} {σ1 : AMem}, execC lawProg (callN lawProg k) k 34 58 (bodyOf Tryz.f34) (initT 0 [.agg (elC e), .int .i64 ((n + 1 : Nat) : Int)] .nil) AMem.empty = some (.ret, T1, σ1) → T1.get 4 = some (.bool b) → ∀ σ, pureCall lawProg (callN lawProg (k + 1)) (.func 34 [] []) [.agg (elC e), .int .i64 ((n + 1 : Nat) : Int)] σ = some (.bool b, σ) := fun h1 h2 σ => pureCall_of rfl (memo34 _) (pureRun_of fn34 rfl (by simp [Tryz.f34]) h1 (by simp) (res_one h2) rfl)
    by_cases hk45 : e.keys.length ≤ 45
    · by_cases hd45 : e.kids.length ≤ 45
      · have g1 : ¬ ((e.keys.length : Nat) : Int) > 45 := by omega
        have g2 : ¬ ((e.kids.length : Nat) : Int) > 45 := by omega
        have run : ∃ b T1 σ1, execC lawProg (callN lawProg k) k 34 58 (bodyOf Tryz.f34) (initT 0 [.agg (elC e), .int .i64 ((n + 1 : Nat) : Int)] .nil) AMem.empty = some (.ret, T1, σ1) ∧ T1.get 4 = some (.bool b) ∧ (b = true → ∀ x, x ∈ e.kids → Fit 45 n x) := by
          simp only [elC]
          simp only [bodyOf, Tryz.f34, Option.getD_some, initT, dx, reduceIte, zLt, zLe, zEq, zAd, zMu, zSu, zBe, yEq, yLt, yLe, yTn, reduceCtorEq, sx, fx34, h00, intsV_length, List.length_map, g1, g2]
          generalize hL : execC _ _ _ _ _ (Code.loop _) _ _ = q
          obtain ⟨ex, T', σ', rfl, _, hres⟩ : ∃ ex T' σ', q = some (ex, T', σ') ∧ ex ≠ .normal ∧ ((ex = .exit 0 ∧ ∀ x, x ∈ e.kids → Fit 45 n x) ∨ (ex = .ret ∧ T'.get 4 = some (.bool false))) := by
            rw [← hL]
            refine exec_loop2 (fun i T σ' => i ≤ e.kids.length ∧ σ'.get 0 = some (.row 4 true (elC e)) ∧ T.get 2 = some (.ptr 0 0) ∧ T.get 1 = some (.int .i64 ((n + 1 : Nat) : Int)) ∧ T.get 6 = some (.int .i64 i) ∧ (∃ acc : Nat, acc ≤ 200 ∧ T.get 5 = some (.int .i64 acc)) ∧ ∀ x, x ∈ e.kids.take i → Fit 45 n x) e.kids.length (by omega) ?_ ?_ ?_
            · rintro i hi T σ' ⟨_, g0, t2, t1, t6, ⟨acc, hacc, t5⟩, hall⟩
              have hlt : ((i : Nat) : Int) < ((e.kids.length : Nat) : Int) := by omega
              have hw := i64_succ (i := i) (by omega)
              have hx := hf3 _ (List.getElem_mem hi)
              obtain ⟨d', rfl⟩ : ∃ q, d = q + 1 := by
                cases d with
                | zero => exact hx.elim
                | succ d => exact ⟨d, rfl⟩
              obtain ⟨b, hb1, hb2⟩ := ih (d' + 1) e.kids[i] k (by omega) (by omega) hx
              have hg := el_get hi
              have w3 : IntKind.i64.wrap (((n + 1 : Nat) : Int) - 1) = ((n : Nat) : Int) := by
                rw [show ((n + 1 : Nat) : Int) - 1 = ((n : Nat) : Int) by omega]; exact i64_id (by omega) (by omega)
              simp only [elC] at g0 hg hb1
              by_cases hs : e.kids[i].keys.length ≤ 45 ∧ e.kids[i].kids.length ≤ 45
              · skip
                have w1 : IntKind.i64.wrap (((e.kids[i].keys.length : Nat) : Int) + ((e.kids[i].kids.length : Nat) : Int)) = ((e.kids[i].keys.length + e.kids[i].kids.length : Nat) : Int) := by
                  have := hs.1; have := hs.2
                  rw [← Int.natCast_add]; exact i64_id (by omega) (by omega)
                have w2 : IntKind.i64.wrap (((acc : Nat) : Int) + ((e.kids[i].keys.length + e.kids[i].kids.length : Nat) : Int)) = ((acc + (e.kids[i].keys.length + e.kids[i].kids.length) : Nat) : Int) := by
                  have := hs.1; have := hs.2
                  rw [← Int.natCast_add]; exact i64_id (by omega) (by omega)
                by_cases h200 : acc + (e.kids[i].keys.length + e.kids[i].kids.length) ≤ 200
                · have c200 : ¬ ((acc + (e.kids[i].keys.length + e.kids[i].kids.length) : Nat) : Int) > 200 := by omega
                  cases b with
                  | true =>
                    left
                    refine ⟨_, _, by
                      simp only [dx, reduceIte, zLt, zLe, zEq, zAd, zMu, zSu, zBe, yEq, yLt, yLe, yTn, reduceCtorEq, sx, fx34, g0, t1, t2, t5, t6, List.length_map, hlt, Int.natCast_nonneg, Int.toNat_natCast, hg, intsV_length, w1, w2, c200, w3, hb1, hw]
                      rfl, by omega, g0, ?_, ?_, ?_, ⟨_, h200, ?_⟩, ?_⟩
                    · simp only [Tr.get_set, zEq, reduceIte, t2]
                    · simp only [Tr.get_set, zEq, reduceIte, t1]
                    · simp only [Tr.get_set, zEq, reduceIte]
                    · simp only [Tr.get_set, zEq, reduceIte]
                    · intro x hx
                      rw [List.take_add_one, List.getElem?_eq_getElem hi] at hx
                      rcases List.mem_append.1 hx with hx | hx
                      · exact hall x hx
                      · simp only [Option.toList_some, List.mem_singleton] at hx
                        rw [hx]; exact hb2 rfl
                  | false =>
                    right
                    refine ⟨_, _, _, by
                      simp only [dx, reduceIte, zLt, zLe, zEq, zAd, zMu, zSu, zBe, yEq, yLt, yLe, yTn, reduceCtorEq, sx, fx34, g0, t1, t2, t5, t6, List.length_map, hlt, Int.natCast_nonneg, Int.toNat_natCast, hg, intsV_length, w1, w2, c200, w3, hb1]
                      rfl, by simp, .inr ⟨rfl, ?_⟩⟩
                    simp only [Tr.get_set, zEq, reduceIte]
                · have c200 : ((acc + (e.kids[i].keys.length + e.kids[i].kids.length) : Nat) : Int) > 200 := by omega
                  right
                  refine ⟨_, _, _, by
                    simp only [dx, reduceIte, zLt, zLe, zEq, zAd, zMu, zSu, zBe, yEq, yLt, yLe, yTn, reduceCtorEq, sx, fx34, g0, t1, t2, t5, t6, List.length_map, hlt, Int.natCast_nonneg, Int.toNat_natCast, hg, intsV_length, w1, w2, c200]
                    rfl, by simp, .inr ⟨rfl, ?_⟩⟩
                  simp only [Tr.get_set, zEq, reduceIte]
              · have hbf : b = false := by
                  cases b with
                  | false => rfl
                  | true =>
                    have hq := hb2 rfl
                    cases n with
                    | zero => exact hq.elim
                    | succ n => exact absurd ⟨hq.1, hq.2.1⟩ hs
                subst hbf
                right
                by_cases h200 : IntKind.i64.wrap (((acc : Nat) : Int) + IntKind.i64.wrap (((e.kids[i].keys.length : Nat) : Int) + ((e.kids[i].kids.length : Nat) : Int))) > 200
                · refine ⟨_, _, _, by
                    simp only [dx, reduceIte, zLt, zLe, zEq, zAd, zMu, zSu, zBe, yEq, yLt, yLe, yTn, reduceCtorEq, sx, fx34, g0, t1, t2, t5, t6, List.length_map, hlt, Int.natCast_nonneg, Int.toNat_natCast, hg, intsV_length, h200]
                    rfl, by simp, .inr ⟨rfl, ?_⟩⟩
                  simp only [Tr.get_set, zEq, reduceIte]
                · refine ⟨_, _, _, by
                    simp only [dx, reduceIte, zLt, zLe, zEq, zAd, zMu, zSu, zBe, yEq, yLt, yLe, yTn, reduceCtorEq, sx, fx34, g0, t1, t2, t5, t6, List.length_map, hlt, Int.natCast_nonneg, Int.toNat_natCast, hg, intsV_length, h200, w3, hb1]
                    rfl, by simp, .inr ⟨rfl, ?_⟩⟩
                  simp only [Tr.get_set, zEq, reduceIte]
            · rintro T σ' ⟨_, g0, t2, t1, t6, _, hall⟩
              simp only [elC] at g0
              rw [List.take_length] at hall
              refine ⟨_, _, _, by
                simp only [dx, reduceIte, zLt, zLe, zEq, zAd, zMu, zSu, zBe, yEq, yLt, yLe, yTn, reduceCtorEq, sx, fx34, g0, t2, t6, List.length_map, Int.lt_irrefl]
                rfl, by simp, .inl ⟨rfl, hall⟩⟩
            · refine ⟨Nat.zero_le _, ?_, ?_, ?_, ?_, ⟨0, by omega, ?_⟩, by simp⟩
              · simp only [elC, AMem.get_push, AMem.next_push, next_empty, zAd, zEq, reduceIte]
              all_goals simp only [Tr.get_set, zEq, reduceIte]
              all_goals rfl
          rcases hres with ⟨rfl, hall⟩ | ⟨rfl, t4⟩
          · simp only [dx, reduceIte, zLt, zLe, zEq, zAd, zMu, zSu, zBe, yEq, yLt, yLe, yTn, reduceCtorEq, sx, fx34]
            exact ⟨true, _, _, rfl, by simp only [Tr.get_set, zEq, reduceIte], fun _ => hall⟩
          · exact ⟨false, _, _, rfl, t4, fun h => by cases h⟩
        obtain ⟨b, T1, σ1, h1, h2, h3⟩ := run
        exact ⟨b, done h1 h2, fun hb => ⟨hk45, hd45, h3 hb⟩⟩
      · have g1 : ¬ ((e.keys.length : Nat) : Int) > 45 := by omega
        have g2 : ((e.kids.length : Nat) : Int) > 45 := by omega
        have run : ∃ T1 σ1, execC lawProg (callN lawProg k) k 34 58 (bodyOf Tryz.f34) (initT 0 [.agg (elC e), .int .i64 ((n + 1 : Nat) : Int)] .nil) AMem.empty = some (.ret, T1, σ1) ∧ T1.get 4 = some (.bool false) := by
          simp only [elC]
          simp only [bodyOf, Tryz.f34, Option.getD_some, initT, dx, reduceIte, zLt, zLe, zEq, zAd, zMu, zSu, zBe, yEq, yLt, yLe, yTn, reduceCtorEq, sx, fx34, h00, intsV_length, List.length_map, g1, g2]
          exact ⟨_, _, rfl, by simp only [Tr.get_set, zEq, reduceIte]⟩
        obtain ⟨T1, σ1, h1, h2⟩ := run
        exact ⟨false, done h1 h2, fun h => by cases h⟩
    · have g1 : ((e.keys.length : Nat) : Int) > 45 := by omega
      have run : ∃ T1 σ1, execC lawProg (callN lawProg k) k 34 58 (bodyOf Tryz.f34) (initT 0 [.agg (elC e), .int .i64 ((n + 1 : Nat) : Int)] .nil) AMem.empty = some (.ret, T1, σ1) ∧ T1.get 4 = some (.bool false) := by
        simp only [elC]
        simp only [bodyOf, Tryz.f34, Option.getD_some, initT, dx, reduceIte, zLt, zLe, zEq, zAd, zMu, zSu, zBe, yEq, yLt, yLe, yTn, reduceCtorEq, sx, fx34, h00, intsV_length, g1]
        exact ⟨_, _, rfl, by simp only [Tr.get_set, zEq, reduceIte]⟩
      obtain ⟨T1, σ1, h1, h2⟩ := run
      exact ⟨false, done h1 h2, fun h => by cases h⟩
end Go.Proofs.YtjckhhkhgjbpaaaGreatDoor

/- The reference's copies of elements. -/
set_option maxRecDepth 100000
set_option linter.unusedSimpArgs false
set_option linter.unusedVariables false
namespace Go.Proofs.YtjckhhkhgjbpaaaGreatDoor
open Go Go.Proofs.YtjckhhkhgjbpaaaGreatDoor.Pale
variable {k : Nat} {σ : AMem}

/-- Put behind a list that has nothing. -/
theorem copy_fresh {e : TyI} {q : Nat} (x : AVal) (A : List AVal) (n : Nat) (hg : σ.get q = some (.row e.size e.isAgg [])) (hq : q < σ.next) (hA : sourceA e.size σ x = some (A, n)) (hAl : A.length = n * e.size) (hs0 : e.size ≠ 0) (hb0 : e.bytes ≠ 0) (hb1 : e.bytes ≤ 1048576) (hby : n * e.bytes ≤ mostBytes) :
    ∃ r cap σ', appendA e σ (.slice q 0 0 (some 0) e.size) x = some (.slice r 0 n cap e.size, σ') ∧ Ext σ σ' ∧ (r = q ∨ σ.next ≤ r) ∧ r < σ'.next ∧ σ'.get r = some (.row e.size e.isAgg A) := by
  by_cases h1 : n = 0
  · subst h1
    have hA0 : A = [] := List.eq_nil_of_length_eq_zero (by omega)
    subst hA0
    exact ⟨q, some 0, σ, by simp only [appendA, hA, if_true], Ext.refl _, .inl rfl, hq, hg⟩
  · refine ⟨σ.next, none, σ.push (.row e.size e.isAgg A), ?_, Ext.push _ _, .inr (Nat.le_refl _), by simp, by rw [AMem.get_push, if_pos rfl]⟩
    simp only [appendA, hA, hg]
    rw [if_neg h1, if_neg (by simp [hs0, hb0]; omega), if_pos (by rw [Nat.zero_add]; exact hby), if_pos trivial, if_neg (by omega), if_pos (by simp)]
    simp
/-- A copy. -/
def cpE : Nat → El → El
  | 0, e => e
  | d + 1, e => .mk e.kind e.n .some e.keys (lkOf e.kids.length) (e.kids.map (cpE d))
theorem source_ints {σ : AMem} (K : VK) (l : List Int) : sourceA 1 σ (.vs K (intsV l)) = some (intsV l, l.length) := by
  have h1 : (intsV l).all (fun e => e.cells.length == 1) = true := by
    rw [List.all_eq_true]
    intro v hv
    obtain ⟨z, _, rfl⟩ := List.mem_map.1 hv
    rfl
  have h2 : (intsV l).flatMap AVal.cells = intsV l := by
    induction l with
    | nil => rfl
    | cons x l ih => show [AVal.int .i64 x] ++ (intsV l).flatMap AVal.cells = _; rw [ih (by
        rw [List.all_eq_true] at h1 ⊢
        exact fun v hv => h1 v (List.mem_cons_of_mem _ hv))]; rfl
  simp only [sourceA, h1, if_true, h2, intsV_length]
theorem flat_take {α : Type} {f : α → List AVal} {l : List α} {i : Nat} (hi : i < l.length) : ((l.take (i + 1)).map f).flatten = ((l.take i).map f).flatten ++ f l[i] := by
  rw [List.take_add_one, List.getElem?_eq_getElem hi, Option.toList_some, List.map_append, List.flatten_append]
  simp
set_option maxHeartbeats 1000000 in
theorem ecopy_call : ∀ (d : Nat) (e : El) (k : Nat), Fit 45 d e → d + 100 ≤ k → ∀ σ, pureCall lawProg (callN lawProg k) (.func 48 [] []) [.agg (elC e)] σ = some (.agg (elC (cpE d e)), σ) := by
  intro d
  induction d with
  | zero => intro e k hf; exact hf.elim
  | succ d ih =>
    intro e k hf hk σ
    obtain ⟨k, rfl⟩ : ∃ m, k = m + 1 := ⟨k - 1, by omega⟩
    obtain ⟨hf1, hf2, hf3⟩ := hf
    let σ0 : AMem := (((AMem.empty.push (.row 4 true (elC e))).push (.row 4 true elZ)).push (.row 1 false [])).push (.row 4 true elZ)
    have n0 : σ0.next = 4 := rfl
    have z0 : σ0.get 0 = some (.row 4 true (elC e)) := by simp only [σ0, AMem.get_push, AMem.next_push, next_empty, zAd, zEq, reduceIte]
    have z1 : σ0.get 1 = some (.row 4 true elZ) := by simp only [σ0, AMem.get_push, AMem.next_push, next_empty, zAd, zEq, reduceIte]
    have z2 : σ0.get 2 = some (.row 1 false []) := by simp only [σ0, AMem.get_push, AMem.next_push, next_empty, zAd, zEq, reduceIte]
    have z3 : σ0.get 3 = some (.row 4 true elZ) := by simp only [σ0, AMem.get_push, AMem.next_push, next_empty, zAd, zEq, reduceIte]
    obtain ⟨r, cap, σ1, a1, a2, a3, a4, a5⟩ := copy_fresh (e := tyInt) (σ := σ0) (q := 2) (.vs e.kk (intsV e.keys)) (intsV e.keys) e.keys.length z2 (by omega) (source_ints _ _) (by rw [intsV_length]; show _ = _ * 1; omega) (by decide) (by decide) (by decide) (by simp only [tyInt, mostBytes]; omega)
    have a1' : appendA ⟨.int .i64, 1, 8, [.int .i64 0]⟩ σ0 (.slice 2 0 0 (some 0) 1) (.vs e.kk (intsV e.keys)) = some (.slice r 0 e.keys.length cap 1, σ1) := a1
    have b0 := (a2.2 0 (by omega)).trans z0
    have b1 := (a2.2 1 (by omega)).trans z1
    have b3 := (a2.2 3 (by omega)).trans z3
    have nx1 := a2.1
    obtain ⟨σ2, hσ2⟩ : ∃ s, s = σ1.put 3 (.row 4 true [.int .u8 e.kind, .int .i64 e.n, .slice r 0 e.keys.length cap 1, .vs .nil []]) := ⟨_, rfl⟩
    have c3 : σ2.get 3 = some (.row 4 true [.int .u8 e.kind, .int .i64 e.n, .slice r 0 e.keys.length cap 1, .vs .nil []]) := by rw [hσ2, AMem.get_put, if_pos rfl]
    have kc : ∀ s, s ≠ 3 → σ2.get s = σ1.get s := fun s hs => by rw [hσ2, AMem.get_put, if_neg (Ne.symm hs)]
    have n2 : σ2.next = σ1.next := by rw [hσ2]; simp
    have hsz : tyInt.size = 1 := rfl
    have hag : tyInt.isAgg = false := rfl
    rw [hsz, hag] at a5
    have hr3 : r ≠ 3 := by omega
    simp only [σ0] at a1'
    have run : ∃ T1 σ3 dz, execC lawProg (callN lawProg k) k 48 33 (bodyOf Tryz.f48) (initT 0 [.agg (elC e)] .nil) AMem.empty = some (.ret, T1, σ3) ∧ resultsA lawProg T1 σ3 Tryz.f48.results.toList = some [.agg [.int .u8 e.kind, .int .i64 e.n, .slice r 0 e.keys.length cap 1, dz]] ∧ σ3.get r = some (.row 1 false (intsV e.keys)) ∧ Grew σ1.next σ3 4 true dz e.kids.length (e.kids.map fun x => elC (cpE d x)).flatten ∧ (e.kids.length = 0 → dz = .vs .nil []) ∧ σ1.next ≤ σ3.next := by
      simp only [elC, elZ] at a1' b0 b1 b3 ⊢
      simp only [bodyOf, Tryz.f48, Option.getD_some, initT, dx, reduceIte, zLt, zLe, zEq, zAd, zMu, zSu, zBe, yEq, yLt, yLe, yTn, reduceCtorEq, sx, fx48, a1', b0, b3]
      generalize hL : execC _ _ _ _ _ (Code.loop _) _ _ = x
      obtain ⟨ex, T', σ', rfl, _, rfl, t2, t3, g1, hn3, dz, g3, gr, gw, h0⟩ : ∃ ex T' σ', x = some (ex, T', σ') ∧ ex ≠ .normal ∧ (ex = .exit 0 ∧ T'.get 2 = some (.ptr 1 0) ∧ T'.get 3 = some (.ptr 3 0) ∧ σ'.get 1 = some (.row 4 true elZ) ∧ σ1.next ≤ σ'.next ∧ ∃ dz, σ'.get 3 = some (.row 4 true [.int .u8 e.kind, .int .i64 e.n, .slice r 0 e.keys.length cap 1, dz]) ∧ σ'.get r = some (.row 1 false (intsV e.keys)) ∧ Grew σ1.next σ' 4 true dz e.kids.length (e.kids.map fun x => elC (cpE d x)).flatten ∧ (e.kids.length = 0 → dz = .vs .nil [])) := by
        rw [← hL]
        refine exec_loop (fun i T σ' => i ≤ e.kids.length ∧ T.get 1 = some (.ptr 0 0) ∧ T.get 2 = some (.ptr 1 0) ∧ T.get 3 = some (.ptr 3 0) ∧ T.get 4 = some (.int .i64 i) ∧ σ'.get 0 = some (.row 4 true (elC e)) ∧ σ'.get 1 = some (.row 4 true elZ) ∧ σ1.next ≤ σ'.next ∧ ∃ dz, σ'.get 3 = some (.row 4 true [.int .u8 e.kind, .int .i64 e.n, .slice r 0 e.keys.length cap 1, dz]) ∧ σ'.get r = some (.row 1 false (intsV e.keys)) ∧ Grew σ1.next σ' 4 true dz i ((e.kids.take i).map fun x => elC (cpE d x)).flatten ∧ (i = 0 → dz = .vs .nil [])) e.kids.length (by omega) ?_ ?_ ?_
        · rintro i hi T σ' ⟨_, t1, t2, t3, t4, g0, g1, hnx, dz, g3, gr, gw, h0⟩
          have hlt : ((i : Nat) : Int) < ((e.kids.length : Nat) : Int) := by omega
          have hw := i64_succ (i := i) (by omega)
          have hx := hf3 _ (List.getElem_mem hi)
          have hc := ih e.kids[i] k hx (by omega)
          have hg := el_get hi
          have ho := gw.oneC
          obtain ⟨σ4, e1, e2, e3, e4, e5⟩ := Grew.one (e := tyEl) (xs := elC (cpE d e.kids[i])) gw hnx rfl (by decide) (by decide) (by decide) (by simp only [tyEl, mostBytes]; omega) rfl
          have e1' : appendA tyEl (σ'.push (.row 4 true (elC (cpE d e.kids[i])))) dz (.slice σ'.next 0 1 (some 1) 4) = some (.slice (σ'.next + 1) 0 (i + 1) none 4, σ4) := e1
          have h43 := (e4 3 (by omega)).trans g3
          simp only [elC] at g0 hg hc
          simp only [tyEl, elC] at e1'
          refine ⟨_, _, by
            simp only [dx, reduceIte, zLt, zLe, zEq, zAd, zMu, zSu, zBe, yEq, yLt, yLe, yTn, reduceCtorEq, sx, fx48, t1, t2, t3, t4, g0, List.length_map, hlt, g3, ho, Int.natCast_nonneg, Int.toNat_natCast, hg, hc, e1', h43, hw]
            rfl, hi, ?_, ?_, ?_, ?_, ?_, ?_, ?_, .slice (σ'.next + 1) 0 (i + 1) none 4, ?_, ?_, ?_, ?_⟩
          · simp only [Tr.get_set, zEq, reduceIte, t1]
          · simp only [Tr.get_set, zEq, reduceIte, t2]
          · simp only [Tr.get_set, zEq, reduceIte, t3]
          · simp only [Tr.get_set, zEq, reduceIte]
          · rw [AMem.get_put, if_neg (by omega), e4 0 (by omega)]; exact g0
          · rw [AMem.get_put, if_neg (by omega), e4 1 (by omega)]; exact g1
          · simp only [AMem.next_put]; omega
          · rw [AMem.get_put, if_pos rfl]
          · rw [AMem.get_put, if_neg (Ne.symm hr3), e4 r a4]; exact gr
          · rw [flat_take (f := fun x => elC (cpE d x)) hi]
            exact grew_same e2 (by simp) fun s hs => by
              have := (Grew.rows e2 s hs).1
              rw [AMem.get_put, if_neg (by omega)]
          · intro h; omega
        · rintro T σ' ⟨_, t1, t2, t3, t4, g0, g1, hnx, dz, g3, gr, gw, h0⟩
          rw [List.take_length] at gw
          simp only [elC] at g0
          refine ⟨_, _, _, by
            simp only [dx, reduceIte, zLt, zLe, zEq, zAd, zMu, zSu, zBe, yEq, yLt, yLe, yTn, reduceCtorEq, sx, fx48, t1, t2, t3, t4, g0, List.length_map, Int.lt_irrefl]
            rfl, by simp, rfl, ?_, ?_, g1, hnx, dz, g3, gr, gw, h0⟩
          all_goals simp only [Tr.get_set, zEq, reduceIte, t2, t3]
        · refine ⟨Nat.zero_le _, ?_, ?_, ?_, ?_, ?_, ?_, ?_, .vs .nil [], ?_, ?_, ⟨rfl, .inl ⟨rfl, rfl⟩⟩, fun _ => rfl⟩
          · simp only [Tr.get_set, zEq, reduceIte]
          · simp only [Tr.get_set, zEq, reduceIte]
          · simp only [Tr.get_set, zEq, reduceIte]
          · simp only [Tr.get_set, zEq, reduceIte]; rfl
          · rw [AMem.get_put, if_neg (by omega)]; exact b0
          · rw [AMem.get_put, if_neg (by omega)]; exact b1
          · simp
          · rw [AMem.get_put, if_pos rfl]
          · rw [AMem.get_put, if_neg (Ne.symm hr3)]; exact a5
      have ho := gw.oneC
      simp only [elZ] at g1
      simp only [dx, reduceIte, zLt, zLe, zEq, zAd, zMu, zSu, zBe, yEq, yLt, yLe, yTn, reduceCtorEq, sx, fx48, t2, t3, g3, ho, g1]
      refine ⟨_, _, dz, rfl, ?_, ?_, ?_, h0, by simp only [AMem.next_put]; omega⟩
      · simp only [Tryz.f48, resultsA, resultA, dx, reduceIte, zLt, zLe, zEq, zAd, zMu, zSu, zBe, yEq, yLt, yLe, yTn, reduceCtorEq, sx, fx48, t2]
      · rw [AMem.get_put, if_neg (by omega)]; exact gr
      · exact grew_same gw (by simp) fun s hs => by
          have := (Grew.rows gw s hs).1
          rw [AMem.get_put, if_neg (by omega)]
    obtain ⟨T1, σ3, dz, h1, h2, h3, h4, h5, h6⟩ := run
    have hpi : (intsV e.keys).all pureB = true := by
      rw [List.all_eq_true]
      intro v hv
      obtain ⟨z, _, rfl⟩ := List.mem_map.1 hv
      rfl
    have r1 : snapF false σ3 11 (.slice r 0 e.keys.length cap 1) = some (.vs .some (intsV e.keys), [r]) := snap_ones (d := 9) (more := []) (intsV_length _).symm hpi (by rw [List.append_nil]; exact h3)
    have p1 : ReadsL 11 0 σ3 [] [.int .u8 e.kind, .int .i64 e.n] [.int .u8 e.kind, .int .i64 e.n] := ReadsL.pure rfl
    have p2 : ReadsL 11 0 σ3 [] [.slice r 0 e.keys.length cap 1] [.vs .some (intsV e.keys)] := ⟨[r] ++ [], by simp only [snapL, r1], fun s hs => by
      simp only [List.append_nil, List.mem_singleton] at hs
      subst hs
      exact ⟨Nat.zero_le _, by omega, by simp⟩⟩
    have r2 := recs_reads (d := 9) (bad := []) (ls := e.kids.map fun x => elC (cpE d x)) (ps := e.kids.map fun x => elC (cpE d x)) h4 (ReadsL.pure (by
      rw [List.all_eq_true]
      intro v hv
      obtain ⟨c, hc, hv⟩ := List.mem_flatten.1 hv
      obtain ⟨y, _, rfl⟩ := List.mem_map.1 hc
      simp only [elC, List.mem_cons, List.not_mem_nil, or_false] at hv
      rcases hv with rfl | rfl | rfl | rfl <;> rfl)) h5 (by simp) (by decide) rfl (fun l hl => by obtain ⟨x, _, rfl⟩ := List.mem_map.1 hl; rfl) (fun l hl => by obtain ⟨x, _, rfl⟩ := List.mem_map.1 hl; rfl)
    have p3 := r2.same (low' := 0) (bad' := []) (Nat.zero_le _) (Nat.le_refl _) (fun _ _ _ _ => rfl) fun _ _ _ h => h
    obtain ⟨S, h7, _⟩ := (p1.append p2).append p3
    have hcp : elC (cpE (d + 1) e) = ([.int .u8 e.kind, .int .i64 e.n] ++ [.vs .some (intsV e.keys)]) ++ [.vs (lkOf e.kids.length) ((e.kids.map fun x => elC (cpE d x)).map AVal.agg)] := by
      show [AVal.int .u8 e.kind, .int .i64 e.n, .vs .some (intsV e.keys), .vs (lkOf e.kids.length) ((e.kids.map (cpE d)).map elV)] = _
      rw [List.map_map, List.map_map, show elV ∘ cpE d = AVal.agg ∘ fun x => elC (cpE d x) from funext fun x => elV_eq _]
      rfl
    rw [← hcp] at h7
    have hsn : snapF false σ3 snapDepth (packA [.agg [.int .u8 e.kind, .int .i64 e.n, .slice r 0 e.keys.length cap 1, dz]]) = some (.agg (elC (cpE (d + 1) e)), S) := by
      show (snapL (snapF false σ3 11) [.int .u8 e.kind, .int .i64 e.n, .slice r 0 e.keys.length cap 1, dz]).map (fun (l, a) => (AVal.agg l, a)) = _
      have h8 : snapL (snapF false σ3 11) [.int .u8 e.kind, .int .i64 e.n, .slice r 0 e.keys.length cap 1, dz] = some (elC (cpE (d + 1) e), S) := h7
      rw [h8]; rfl
    obtain ⟨b, h⟩ := pureRun_any fn48 rfl (by simp [Tryz.f48]) h1 (by simp) h2 hsn
    exact pureCall_of0 (args' := [.agg (elC e)]) rfl (memo48 _) h
end Go.Proofs.YtjckhhkhgjbpaaaGreatDoor

/- Thin parcels, and the reference's copies of parcels. -/
set_option maxRecDepth 100000
set_option linter.unusedSimpArgs false
set_option linter.unusedVariables false
namespace Go.Proofs.YtjckhhkhgjbpaaaGreatDoor
open Go Go.Proofs.YtjckhhkhgjbpaaaGreatDoor.Pale
variable {k : Nat} {σ : AMem}

def ThinP (p : Pcl) : Prop := Fit 45 6 p.e ∧ p.has.length ≤ 10 ∧ (∀ x, x ∈ p.has → x.2.length ≤ 40) ∧ p.told.length ≤ 40
theorem thinParcel_call {M d : Nat} (p : Pcl) (hf : Fit M d p.e) (hk : 200 ≤ k) : ∃ b, (∀ σ, pureCall lawProg (callN lawProg k) (.func 9 [] []) [parV p] σ = some (.bool b, σ)) ∧ (b = true → ThinP p) := by
  obtain ⟨k, rfl⟩ : ∃ m, k = m + 1 := ⟨k - 1, by omega⟩
  obtain ⟨b, hb1, hb2⟩ := thinElem_call (M := M) 6 d p.e k (by omega) (by omega) hf
  have h6 : ((6 : Nat) : Int) = 6 := rfl
  rw [h6] at hb1
  have run : ∃ b T1 σ1, execC lawProg (callN lawProg k) k 9 34 (bodyOf Tryz.f9) (initT 0 [.agg (parC p)] .nil) AMem.empty = some (.ret, T1, σ1) ∧ T1.get 2 = some (.bool b) ∧ (b = true → ThinP p) := by
    simp only [elC] at hb1
    simp only [parC]
    cases b with
    | false =>
      simp only [bodyOf, Tryz.f9, Option.getD_some, initT, dx, reduceIte, zLt, zLe, zEq, zAd, zMu, zSu, zBe, yEq, yLt, yLe, yTn, reduceCtorEq, sx, fx9, hb1]
      exact ⟨false, _, _, rfl, by simp only [Tr.get_set, zEq, reduceIte], fun h => by cases h⟩
    | true =>
      by_cases h10 : p.has.length ≤ 10
      · have g10 : ¬ ((p.has.length : Nat) : Int) > 10 := by omega
        by_cases h40 : p.told.length ≤ 40
        · have g40 : ¬ ((p.told.length : Nat) : Int) > 40 := by omega
          simp only [bodyOf, Tryz.f9, Option.getD_some, initT, dx, reduceIte, zLt, zLe, zEq, zAd, zMu, zSu, zBe, yEq, yLt, yLe, yTn, reduceCtorEq, sx, fx9, hb1, List.length_map, spansV_length, g10, g40]
          generalize hL : execC _ _ _ _ _ (Code.loop _) _ _ = q
          obtain ⟨ex, T', σ', rfl, _, hres⟩ : ∃ ex T' σ', q = some (ex, T', σ') ∧ ex ≠ .normal ∧ ((ex = .exit 0 ∧ ∀ x, x ∈ p.has → x.2.length ≤ 40) ∨ (ex = .ret ∧ T'.get 2 = some (.bool false))) := by
            rw [← hL]
            refine exec_loop2 (fun i T σ' => i ≤ p.has.length ∧ σ'.get 0 = some (.row 9 true (parC p)) ∧ T.get 1 = some (.ptr 0 0) ∧ T.get 3 = some (.int .i64 i) ∧ ∀ x, x ∈ p.has.take i → x.2.length ≤ 40) p.has.length (by omega) ?_ ?_ ?_
            · rintro i hi T σ' ⟨_, g0, t1, t3, hall⟩
              have hlt : ((i : Nat) : Int) < ((p.has.length : Nat) : Int) := by omega
              have hw := i64_succ (i := i) (by omega)
              have hg := spl_get hi
              simp only [parC] at g0
              by_cases hx : (p.has[i]).2.length ≤ 40
              · have gx : ¬ (((p.has[i]).2.length : Nat) : Int) > 40 := by omega
                left
                refine ⟨_, _, by
                  simp only [dx, reduceIte, zLt, zLe, zEq, zAd, zMu, zSu, zBe, yEq, yLt, yLe, yTn, reduceCtorEq, sx, fx9, g0, t1, t3, List.length_map, hlt, Int.natCast_nonneg, Int.toNat_natCast, hg, spansV_length, gx, hw]
                  rfl, by omega, g0, ?_, ?_, ?_⟩
                · simp only [Tr.get_set, zEq, reduceIte, t1]
                · simp only [Tr.get_set, zEq, reduceIte]
                · intro x hx2
                  rw [List.take_add_one, List.getElem?_eq_getElem hi] at hx2
                  rcases List.mem_append.1 hx2 with hx2 | hx2
                  · exact hall x hx2
                  · simp only [Option.toList_some, List.mem_singleton] at hx2
                    rw [hx2]; exact hx
              · have gx : (((p.has[i]).2.length : Nat) : Int) > 40 := by omega
                right
                refine ⟨_, _, _, by
                  simp only [dx, reduceIte, zLt, zLe, zEq, zAd, zMu, zSu, zBe, yEq, yLt, yLe, yTn, reduceCtorEq, sx, fx9, g0, t1, t3, List.length_map, hlt, Int.natCast_nonneg, Int.toNat_natCast, hg, spansV_length, gx]
                  rfl, by simp, .inr ⟨rfl, ?_⟩⟩
                simp only [Tr.get_set, zEq, reduceIte]
            · rintro T σ' ⟨_, g0, t1, t3, hall⟩
              simp only [parC] at g0
              rw [List.take_length] at hall
              refine ⟨_, _, _, by
                simp only [dx, reduceIte, zLt, zLe, zEq, zAd, zMu, zSu, zBe, yEq, yLt, yLe, yTn, reduceCtorEq, sx, fx9, g0, t1, t3, List.length_map, Int.lt_irrefl]
                rfl, by simp, .inl ⟨rfl, hall⟩⟩
            · refine ⟨Nat.zero_le _, ?_, ?_, ?_, by simp⟩
              · simp only [parC, AMem.get_push, AMem.next_push, next_empty, zAd, zEq, reduceIte]
              all_goals simp only [Tr.get_set, zEq, reduceIte]
              all_goals rfl
          rcases hres with ⟨rfl, hall⟩ | ⟨rfl, t2⟩
          · simp only [dx, reduceIte, zLt, zLe, zEq, zAd, zMu, zSu, zBe, yEq, yLt, yLe, yTn, reduceCtorEq, sx, fx9]
            exact ⟨true, _, _, rfl, by simp only [Tr.get_set, zEq, reduceIte], fun _ => ⟨hb2 rfl, h10, hall, h40⟩⟩
          · exact ⟨false, _, _, rfl, t2, fun h => by cases h⟩
        · have g40 : ((p.told.length : Nat) : Int) > 40 := by omega
          simp only [bodyOf, Tryz.f9, Option.getD_some, initT, dx, reduceIte, zLt, zLe, zEq, zAd, zMu, zSu, zBe, yEq, yLt, yLe, yTn, reduceCtorEq, sx, fx9, hb1, List.length_map, spansV_length, g10, g40]
          exact ⟨false, _, _, rfl, by simp only [Tr.get_set, zEq, reduceIte], fun h => by cases h⟩
      · have g10 : ((p.has.length : Nat) : Int) > 10 := by omega
        simp only [bodyOf, Tryz.f9, Option.getD_some, initT, dx, reduceIte, zLt, zLe, zEq, zAd, zMu, zSu, zBe, yEq, yLt, yLe, yTn, reduceCtorEq, sx, fx9, hb1, List.length_map, g10]
        exact ⟨false, _, _, rfl, by simp only [Tr.get_set, zEq, reduceIte], fun h => by cases h⟩
  obtain ⟨b, T1, σ1, h1, h2, h3⟩ := run
  exact ⟨b, fun σ => pureCall_of rfl (memo9 _) (pureRun_of fn9 rfl (by simp [Tryz.f9]) h1 (by simp) (res_one h2) rfl), h3⟩
theorem spansF_length (l : List Sp) : ((l.map spanC).flatten).length = l.length * 2 := by
  induction l with
  | nil => rfl
  | cons x l ih => rw [List.map_cons, List.flatten_cons, List.length_append, ih, List.length_cons]; show 2 + _ = _; omega
theorem source_spansU {σ : AMem} (K : VK) (l : List Sp) : sourceA 2 σ (.vs K (spansV l)) = some ((l.map spanC).flatten, l.length) := by
  have h1 : (spansV l).flatMap AVal.cells = (l.map spanC).flatten := by
    induction l with
    | nil => rfl
    | cons s l ih => rw [show spansV (s :: l) = spanV s :: spansV l from rfl, List.flatMap_cons, ih]; rfl
  simp [sourceA, h1, spansV_length]
  intro x hx
  obtain ⟨s, _, rfl⟩ := List.mem_map.1 hx
  rfl
theorem snap_copyU {fr : Bool} {σ : AMem} {r d : Nat} {cap : Option Nat} {l : List Sp} (hg : σ.get r = some (.row 2 true (l.map spanC).flatten)) : snapF fr σ (d + 2) (.slice r 0 l.length cap 2) = some (.vs .some (spansV l), [r]) := by
  have h0 : snapL (snapF fr σ (d + 1)) (l.map spanC).flatten = some ((l.map spanC).flatten, []) := snapL_spans fr σ d l
  have := snap_structs (fr := fr) (σ := σ) (d := d) (r := r) (n := l.length) (cap := cap) (sz := 2) (ls := l.map spanC) (ps := l.map spanC) (S := []) (by omega) (by simp) rfl (fun x hx => by obtain ⟨s, _, rfl⟩ := List.mem_map.1 hx; rfl) (fun x hx => by obtain ⟨s, _, rfl⟩ := List.mem_map.1 hx; rfl) hg h0
  rw [this, spansV, List.map_map]
  rfl
/-- A copied list of spans. -/
def cpS (x : Spl) : Spl := (.some, x.2)
theorem lists_call (hk2 : VK) (l : List Spl) (h10 : l.length ≤ 10) (h40 : ∀ x, x ∈ l → x.2.length ≤ 40) (hk : 100 ≤ k) : ∀ σ, pureCall lawProg (callN lawProg k) (.func 49 [] []) [.vs hk2 (l.map splV)] σ = some (.vs (lkOf l.length) ((l.map cpS).map splV), σ) := by
  intro σ
  obtain ⟨k, rfl⟩ : ∃ m, k = m + 1 := ⟨k - 1, by omega⟩
  have run : ∃ T1 σ1 out cells, execC lawProg (callN lawProg k) k 49 21 (bodyOf Tryz.f49) (initT 0 [.vs hk2 (l.map splV)] .nil) AMem.empty = some (.ret, T1, σ1) ∧ T1.get 2 = some out ∧ Deep 11 0 σ1 1 false out l.length cells ((l.map cpS).map splV) ∧ (l.length = 0 → out = .vs .nil []) := by
    simp only [bodyOf, Tryz.f49, Option.getD_some, initT, dx, reduceIte, zLt, zLe, zEq, zAd, zMu, zSu, zBe, yEq, yLt, yLe, yTn, reduceCtorEq, sx, fx49]
    generalize hL : execC _ _ _ _ _ (Code.loop _) _ _ = q
    obtain ⟨ex, T', σ', rfl, _, rfl, out, cells, t3, dp, h0⟩ : ∃ ex T' σ', q = some (ex, T', σ') ∧ ex ≠ .normal ∧ (ex = .exit 0 ∧ ∃ out cells, T'.get 3 = some out ∧ Deep 11 0 σ' 1 false out l.length cells ((l.map cpS).map splV) ∧ (l.length = 0 → out = .vs .nil [])) := by
      rw [← hL]
      refine exec_loop (fun i T σ' => i ≤ l.length ∧ T.get 0 = some (.vs hk2 (l.map splV)) ∧ T.get 4 = some (.int .i64 i) ∧ ∃ out cells, T.get 3 = some out ∧ Deep 11 0 σ' 1 false out i cells (((l.take i).map cpS).map splV) ∧ (i = 0 → out = .vs .nil [])) l.length (by omega) ?_ ?_ ?_
      · rintro i hi T σ' ⟨_, t0, t4, out, cells, t3, dp, h0⟩
        have hlt : ((i : Nat) : Int) < ((l.length : Nat) : Int) := by omega
        have hw := i64_succ (i := i) (by omega)
        have hg := spl_get hi
        have h4 := h40 _ (List.getElem_mem hi)
        have ho := dp.1.oneC
        obtain ⟨r, cap, σ2, a1, a2, a3, a4, a5⟩ := copy_fresh (e := tySpan) (σ := σ'.push (.row 2 true [])) (q := σ'.next) (.vs (l[i]).1 (spansV (l[i]).2)) (((l[i]).2.map spanC).flatten) (l[i]).2.length (by rw [AMem.get_push, if_pos rfl]; rfl) (by simp) (source_spansU _ _) (spansF_length _) (by decide) (by decide) (by decide) (by simp only [tySpan, mostBytes]; omega)
        have a1' : appendA tySpan (σ'.push (.row 2 true [])) (.slice σ'.next 0 0 (some 0) 2) (.vs (l[i]).1 (spansV (l[i]).2)) = some (.slice r 0 (l[i]).2.length cap 2, σ2) := a1
        have hx : Ext σ' σ2 := (Ext.push _ _).trans a2
        have hr2 : σ'.next ≤ r := by
          rcases a3 with rfl | h
          · omega
          · simp at h; omega
        have d2 := dp.same hx.1 fun s _ h => hx.2 s h
        have hsn : snapF false σ2 11 (.slice r 0 (l[i]).2.length cap 2) = some (.vs .some (spansV (l[i]).2), [r]) := snap_copyU (d := 9) a5
        have hrd : ReadsL 11 0 σ2 (rowOf out) [.slice r 0 (l[i]).2.length cap 2] [splV (cpS l[i])] := ⟨[r] ++ [], by simp only [snapL, hsn]; rfl, fun s hs => by
          simp only [List.append_nil, List.mem_singleton] at hs
          subst hs
          exact ⟨Nat.zero_le _, a4, fun hm => by have := (dp.1.rows _ hm).2.1; omega⟩⟩
        obtain ⟨σ3, b1, b2, b3, b4⟩ := Deep.one (e := tySL) d2 hrd (Nat.zero_le _) rfl (by decide) (by decide) (by decide) (by simp only [tySL, mostBytes]; omega) rfl
        have b1' : appendA tySL (σ2.push (.row 1 false [.slice r 0 (l[i]).2.length cap 2])) out (.slice σ2.next 0 1 (some 1) 1) = some (.slice (σ2.next + 1) 0 (i + 1) none 1, σ3) := b1
        simp only [tySpan] at a1'
        simp only [tySL] at b1'
        refine ⟨_, _, by
          simp only [dx, reduceIte, zLt, zLe, zEq, zAd, zMu, zSu, zBe, yEq, yLt, yLe, yTn, reduceCtorEq, sx, fx49, t0, t3, t4, List.length_map, hlt, Int.natCast_nonneg, Int.toNat_natCast, hg, a1', b1', ho, hw]
          rfl, hi, ?_, ?_, .slice (σ2.next + 1) 0 (i + 1) none 1, cells ++ [.slice r 0 (l[i]).2.length cap 2], ?_, ?_, ?_⟩
        · simp only [Tr.get_set, zEq, reduceIte, t0]
        · simp only [Tr.get_set, zEq, reduceIte]
        · simp only [Tr.get_set, zEq, reduceIte]
        · rw [List.take_add_one, List.getElem?_eq_getElem hi, Option.toList_some, List.map_append, List.map_append]
          exact b2
        · intro h; omega
      · rintro T σ' ⟨_, t0, t4, out, cells, t3, dp, h0⟩
        rw [List.take_length] at dp
        refine ⟨_, _, _, by
          simp only [dx, reduceIte, zLt, zLe, zEq, zAd, zMu, zSu, zBe, yEq, yLt, yLe, yTn, reduceCtorEq, sx, fx49, t0, t4, List.length_map, Int.lt_irrefl]
          rfl, by simp, rfl, out, cells, ?_, dp, h0⟩
        simp only [Tr.get_set, zEq, reduceIte, t3]
      · refine ⟨Nat.zero_le _, ?_, ?_, .vs .nil [], [], ?_, Deep.start _ _ _ _ _, fun _ => rfl⟩
        all_goals simp only [Tr.get_set, zEq, reduceIte]
        all_goals rfl
    simp only [dx, reduceIte, zLt, zLe, zEq, zAd, zMu, zSu, zBe, yEq, yLt, yLe, yTn, reduceCtorEq, sx, fx49, t3]
    exact ⟨_, _, out, cells, rfl, by simp only [Tr.get_set, zEq, reduceIte], dp, h0⟩
  obtain ⟨T1, σ1, out, cells, h1, h2, h3, h4⟩ := run
  obtain ⟨S, h5, _⟩ := Deep.ones (d := 10) h3 h4 (by
    rw [List.all_eq_true]
    intro v hv
    obtain ⟨x, _, rfl⟩ := List.mem_map.1 hv
    rfl) [] (by simp)
  have hsn : ∃ S, snapF false σ1 snapDepth (packA [out]) = some (.vs (lkOf l.length) ((l.map cpS).map splV), S) := by
    show ∃ S, snapF false σ1 12 out = _
    cases ho : snapF false σ1 12 out with
    | none => rw [snapL, ho] at h5; cases h5
    | some u =>
      obtain ⟨u, S1⟩ := u
      rw [snapL, ho] at h5
      simp only [snapL, Option.some.injEq, Prod.mk.injEq, List.cons.injEq, and_true] at h5
      exact ⟨S1, by rw [h5.1]⟩
  obtain ⟨S, hsn⟩ := hsn
  obtain ⟨b, h⟩ := pureRun_any fn49 rfl (by simp [Tryz.f49]) h1 (by simp) (res_one h2) hsn
  exact pureCall_of0 (args' := [.vs hk2 (l.map splV)]) rfl (memo49 _) h
/-- A copied parcel. -/
def cpP (d : Nat) (p : Pcl) : Pcl := ⟨p.from_, p.to_, p.whole, cpE d p.e, lkOf p.has.length, p.has.map cpS, .some, p.told⟩
theorem copyParcel_call (p : Pcl) (ht : ThinP p) (hk : 400 ≤ k) : ∀ σ, pureCall lawProg (callN lawProg k) (.func 13 [] []) [parV p] σ = some (parV (cpP 6 p), σ) := by
  intro σ
  obtain ⟨k, rfl⟩ : ∃ m, k = m + 1 := ⟨k - 1, by omega⟩
  obtain ⟨f1, f2, f3, f4⟩ := ht
  have c1 := ecopy_call 6 p.e k f1 (by omega)
  have c2 := lists_call (k := k) p.hk p.has f2 f3 (by omega)
  let σ0 : AMem := ((AMem.empty.push (.row 9 true (parC p))).push (.row 9 true parZ)).push (.row 2 true [])
  have n0 : σ0.next = 3 := rfl
  have z0 : σ0.get 0 = some (.row 9 true (parC p)) := by simp only [σ0, AMem.get_push, AMem.next_push, next_empty, zAd, zEq, reduceIte]
  have z1 : σ0.get 1 = some (.row 9 true parZ) := by simp only [σ0, AMem.get_push, AMem.next_push, next_empty, zAd, zEq, reduceIte]
  have z2 : σ0.get 2 = some (.row 2 true []) := by simp only [σ0, AMem.get_push, AMem.next_push, next_empty, zAd, zEq, reduceIte]
  obtain ⟨r, cap, σ1, a1, a2, a3, a4, a5⟩ := copy_fresh (e := tySpan) (σ := σ0) (q := 2) (.vs p.tk (spansV p.told)) ((p.told.map spanC).flatten) p.told.length z2 (by omega) (source_spansU _ _) (spansF_length _) (by decide) (by decide) (by decide) (by simp only [tySpan, mostBytes]; omega)
  have a1' : appendA tySpan σ0 (.slice 2 0 0 (some 0) 2) (.vs p.tk (spansV p.told)) = some (.slice r 0 p.told.length cap 2, σ1) := a1
  have b0 := (a2.2 0 (by omega)).trans z0
  have b1 := (a2.2 1 (by omega)).trans z1
  simp only [σ0, tySpan] at a1'
  have run : ∃ T1 σ3, execC lawProg (callN lawProg k) k 13 20 (bodyOf Tryz.f13) (initT 0 [.agg (parC p)] .nil) AMem.empty = some (.ret, T1, σ3) ∧ resultsA lawProg T1 σ3 Tryz.f13.results.toList = some [.agg [.int .i64 p.from_, .int .i64 p.to_, .bool p.whole, .int .u8 p.e.kind, .int .i64 p.e.n, .vs .some (intsV p.e.keys), .vs (lkOf p.e.kids.length) ((p.e.kids.map (cpE 5)).map elV), .vs (lkOf p.has.length) ((p.has.map cpS).map splV), .slice r 0 p.told.length cap 2]] ∧ σ3.get r = some (.row 2 true (p.told.map spanC).flatten) := by
    simp only [parC, parZ, elC] at a1' b0 b1 c1 ⊢
    simp only [bodyOf, Tryz.f13, Option.getD_some, initT, dx, reduceIte, zLt, zLe, zEq, zAd, zMu, zSu, zBe, yEq, yLt, yLe, yTn, reduceCtorEq, sx, fx13, c1, c2, a1', b0, b1]
    refine ⟨_, _, rfl, ?_, ?_⟩
    · simp only [Tryz.f13, resultsA, resultA, dx, reduceIte, zLt, zLe, zEq, zAd, zMu, zSu, zBe, yEq, yLt, yLe, yTn, reduceCtorEq, sx, fx13]
      rfl
    · rw [AMem.get_put, if_neg (by omega)]; exact a5
  obtain ⟨T1, σ3, h1, h2, h3⟩ := run
  have hsp : snapF false σ3 11 (.slice r 0 p.told.length cap 2) = some (.vs .some (spansV p.told), [r]) := snap_copyU (d := 9) h3
  have hsn : ∃ S, snapF false σ3 snapDepth (packA [.agg [.int .i64 p.from_, .int .i64 p.to_, .bool p.whole, .int .u8 p.e.kind, .int .i64 p.e.n, .vs .some (intsV p.e.keys), .vs (lkOf p.e.kids.length) ((p.e.kids.map (cpE 5)).map elV), .vs (lkOf p.has.length) ((p.has.map cpS).map splV), .slice r 0 p.told.length cap 2]]) = some (parV (cpP 6 p), S) := by
    have hpu : ∀ l : List AVal, l.all pureB = true → snapL (snapF false σ3 11) l = some (l, []) := fun l h => snapL_pure 10 l h
    have := snapL_append (f := snapF false σ3 11) (hpu [.int .i64 p.from_, .int .i64 p.to_, .bool p.whole, .int .u8 p.e.kind, .int .i64 p.e.n, .vs .some (intsV p.e.keys), .vs (lkOf p.e.kids.length) ((p.e.kids.map (cpE 5)).map elV), .vs (lkOf p.has.length) ((p.has.map cpS).map splV)] rfl) (show snapL (snapF false σ3 11) [.slice r 0 p.told.length cap 2] = some ([.vs .some (spansV p.told)], [r] ++ []) by simp only [snapL, hsp])
    refine ⟨[] ++ ([r] ++ []), ?_⟩
    show (snapL (snapF false σ3 11) _).map (fun (l, a) => (AVal.agg l, a)) = _
    have h4 : snapL (snapF false σ3 11) [.int .i64 p.from_, .int .i64 p.to_, .bool p.whole, .int .u8 p.e.kind, .int .i64 p.e.n, .vs .some (intsV p.e.keys), .vs (lkOf p.e.kids.length) ((p.e.kids.map (cpE 5)).map elV), .vs (lkOf p.has.length) ((p.has.map cpS).map splV), .slice r 0 p.told.length cap 2] = some (parC (cpP 6 p), [] ++ ([r] ++ [])) := this
    rw [h4]; rfl
  obtain ⟨S, hsn⟩ := hsn
  obtain ⟨b, h⟩ := pureRun_any fn13 rfl (by simp [Tryz.f13]) h1 (by simp) h2 hsn
  exact pureCall_of0 (args' := [.agg (parC p)]) rfl (memo13 _) h
end Go.Proofs.YtjckhhkhgjbpaaaGreatDoor

/- The lattice of sets by numbers: its shape is right. -/
set_option maxRecDepth 100000
set_option linter.unusedSimpArgs false
set_option linter.unusedVariables false
namespace Go.Proofs.YtjckhhkhgjbpaaaGreatDoor
open Go Go.Proofs.YtjckhhkhgjbpaaaGreatDoor.Pale
variable {k : Nat} {σ : AMem}

def shp3 : Shp := .mk 3 [] .nil []
/-- What PackSpoilt takes. -/
def shp6 : Shp := .mk 6 [] .some [shp3]
theorem shp6_ok : ShOk [] 2 shp6 := by
  refine ⟨fun h => absurd h (by decide), fun _ => by decide, fun h => absurd h (by decide), ?_⟩
  intro x hx
  simp only [shp6, Shp.kids, List.mem_singleton] at hx
  subst hx
  refine ⟨fun h => absurd h (by decide), fun h => absurd h (by decide), fun h => absurd h (by decide), ?_⟩
  intro x hx
  simp [shp3, Shp.kids] at hx
theorem cs6_run (k : Nat) : pureRun (callN lawProg (k + 60)) (.func 39 [] []) [.vs .nil [], .agg (shpC shp6)] = some (.int .i64 0, true) := by kernel_rfl
theorem cs6 : CS 60 .nil [] shp6 0 := by
  intro j hj σ
  obtain ⟨k, rfl⟩ : ∃ m, j = m + 60 := ⟨j - 60, by omega⟩
  exact pureCall_of rfl (memo39 _) (cs6_run k)
end Go.Proofs.YtjckhhkhgjbpaaaGreatDoor

/- The sum of the bytes finds what is spoilt: in plain lists. -/
set_option maxRecDepth 100000
set_option linter.unusedSimpArgs false
set_option linter.unusedVariables false
namespace Go.Proofs.YtjckhhkhgjbpaaaGreatDoor
open Go Go.Proofs.YtjckhhkhgjbpaaaGreatDoor.Pale

theorem sumL_app (s : Int) (a b : List Nat) : sumL s (a ++ b) = sumL (sumL s a) b := by
  induction a generalizing s with
  | nil => rfl
  | cons x a ih => exact ih _
theorem sum_far : ∀ (l : List Nat) (s t : Int), (s - t) % 65521 ≠ 0 → sumL s l ≠ sumL t l := by
  intro l
  induction l with
  | nil => intro s t h e; simp only [sumL] at e; rw [e] at h; simp at h
  | cons c l ih =>
    intro s t h
    refine ih _ _ ?_
    omega
theorem sum_one (a b : List Nat) {c c' : Nat} (h : c ≠ c') (hc : c < 256) (hc' : c' < 256) : sumL 1 (a ++ c :: b) ≠ sumL 1 (a ++ c' :: b) := by
  rw [sumL_app, sumL_app]
  refine sum_far b _ _ ?_
  omega
theorem sum_swap (a b : List Nat) {c c' : Nat} (h : c ≠ c') (hc : c < 256) (hc' : c' < 256) : sumL 1 (a ++ c :: c' :: b) ≠ sumL 1 (a ++ c' :: c :: b) := by
  rw [sumL_app, sumL_app]
  refine sum_far b _ _ ?_
  omega
def sN (x : List Nat) : Nat := (sumL 1 x).toNat
theorem seal_eq (x : List Nat) : sealB x = x ++ [sN x / 256, sN x % 256] := rfl
theorem sN_inj {x y : List Nat} (h1 : sN x / 256 = sN y / 256) (h2 : sN x % 256 = sN y % 256) : sumL 1 x = sumL 1 y := by
  have a := sumL_bounds 1 x (by decide)
  have b := sumL_bounds 1 y (by decide)
  unfold sN at h1 h2
  omega
/-- One byte is another one. -/
theorem far_one {x y P Q : List Nat} {u v : Nat} (hx : sealB x = P ++ u :: Q) (hy : sealB y = P ++ v :: Q) (h : u ≠ v) (hu : u < 256) (hv : v < 256) : False := by
  rw [seal_eq] at hx hy
  rcases List.eq_nil_or_concat Q with rfl | ⟨Q1, q, rfl⟩
  · have e1 : (x ++ [sN x / 256]) ++ [sN x % 256] = P ++ [u] := by simpa using hx
    have e2 : (y ++ [sN y / 256]) ++ [sN y % 256] = P ++ [v] := by simpa using hy
    obtain ⟨p1, p2⟩ := List.append_inj' e1 rfl
    obtain ⟨p3, p4⟩ := List.append_inj' e2 rfl
    obtain ⟨p5, _⟩ := List.append_inj' (p1.trans p3.symm) rfl
    subst p5
    simp only [List.cons.injEq, and_true] at p2 p4
    omega
  · rcases List.eq_nil_or_concat Q1 with rfl | ⟨Q2, q2, rfl⟩
    · have e1 : x ++ [sN x / 256, sN x % 256] = P ++ [u, q] := by simpa using hx
      have e2 : y ++ [sN y / 256, sN y % 256] = P ++ [v, q] := by simpa using hy
      obtain ⟨p1, p2⟩ := List.append_inj' e1 rfl
      obtain ⟨p3, p4⟩ := List.append_inj' e2 rfl
      have p5 := p1.trans p3.symm
      subst p5
      simp only [List.cons.injEq, and_true] at p2 p4
      omega
    · have e1 : x ++ [sN x / 256, sN x % 256] = (P ++ u :: Q2) ++ [q2, q] := by simpa using hx
      have e2 : y ++ [sN y / 256, sN y % 256] = (P ++ v :: Q2) ++ [q2, q] := by simpa using hy
      obtain ⟨p1, p2⟩ := List.append_inj' e1 rfl
      obtain ⟨p3, p4⟩ := List.append_inj' e2 rfl
      simp only [List.cons.injEq, and_true] at p2 p4
      have h5 := sN_inj (x := x) (y := y) (by omega) (by omega)
      rw [p1, p3] at h5
      exact sum_one P Q2 h hu hv h5
theorem border {T q : Int} {u v : Nat} (h1 : 256 * (v : Int) + q = (31 * T + u + 1) % 65521) (h2 : 256 * (u : Int) + q = (31 * T + v + 1) % 65521) (hu : u < 256) (hv : v < 256) (h : u ≠ v) : False := by
  have a1 := Int.mul_ediv_add_emod (31 * T + u + 1) 65521
  have a2 := Int.mul_ediv_add_emod (31 * T + v + 1) 65521
  rw [← h1] at a1
  rw [← h2] at a2
  generalize (31 * T + u + 1) / 65521 = m1 at a1
  generalize (31 * T + v + 1) / 65521 = m2 at a2
  clear h1 h2
  have h3 : 257 * ((u : Int) - v) = 65521 * (m1 - m2) := by omega
  clear a1 a2
  generalize m1 - m2 = m at h3
  have hm : m = -1 ∨ m = 0 ∨ m = 1 := by omega
  rcases hm with rfl | rfl | rfl <;> omega
/-- Two neighbours are exchanged. -/
theorem far_swap {x y P Q : List Nat} {u v : Nat} (hx : sealB x = P ++ u :: v :: Q) (hy : sealB y = P ++ v :: u :: Q) (h : u ≠ v) (hu : u < 256) (hv : v < 256) : False := by
  rw [seal_eq] at hx hy
  rcases List.eq_nil_or_concat Q with rfl | ⟨Q1, q, rfl⟩
  · have e1 : x ++ [sN x / 256, sN x % 256] = P ++ [u, v] := by simpa using hx
    have e2 : y ++ [sN y / 256, sN y % 256] = P ++ [v, u] := by simpa using hy
    obtain ⟨p1, p2⟩ := List.append_inj' e1 rfl
    obtain ⟨p3, p4⟩ := List.append_inj' e2 rfl
    have p5 := p1.trans p3.symm
    subst p5
    simp only [List.cons.injEq, and_true] at p2 p4
    omega
  · rcases List.eq_nil_or_concat Q1 with rfl | ⟨Q2, q2, rfl⟩
    · have e1 : x ++ [sN x / 256, sN x % 256] = (P ++ [u]) ++ [v, q] := by simpa using hx
      have e2 : y ++ [sN y / 256, sN y % 256] = (P ++ [v]) ++ [u, q] := by simpa using hy
      obtain ⟨p1, p2⟩ := List.append_inj' e1 rfl
      obtain ⟨p3, p4⟩ := List.append_inj' e2 rfl
      simp only [List.cons.injEq, and_true] at p2 p4
      have sx : sumL 1 x = (31 * sumL 1 P + u + 1) % 65521 := by rw [p1, sumL_snoc]
      have sy : sumL 1 y = (31 * sumL 1 P + v + 1) % 65521 := by rw [p3, sumL_snoc]
      have a := sumL_bounds 1 x (by decide)
      have b := sumL_bounds 1 y (by decide)
      unfold sN at p2 p4
      have hX : sumL 1 x = 256 * (v : Int) + q := by clear sx sy; omega
      have hY : sumL 1 y = 256 * (u : Int) + q := by clear sx sy hX; omega
      rw [hX] at sx
      rw [hY] at sy
      exact border sx sy hu hv h
    · have e1 : x ++ [sN x / 256, sN x % 256] = (P ++ u :: v :: Q2) ++ [q2, q] := by simpa using hx
      have e2 : y ++ [sN y / 256, sN y % 256] = (P ++ v :: u :: Q2) ++ [q2, q] := by simpa using hy
      obtain ⟨p1, p2⟩ := List.append_inj' e1 rfl
      obtain ⟨p3, p4⟩ := List.append_inj' e2 rfl
      simp only [List.cons.injEq, and_true] at p2 p4
      have h5 := sN_inj (x := x) (y := y) (by omega) (by omega)
      rw [p1, p3] at h5
      exact sum_swap P Q2 h hu hv h5
/-- The last byte is left out. -/
theorem far_less {x y P : List Nat} {u : Nat} (hx : sealB x = P ++ [u]) (hy : sealB y = P) (hp : y <+: x → y = x) : False := by
  rw [seal_eq] at hx hy
  have e1 : (x ++ [sN x / 256]) ++ [sN x % 256] = P ++ [u] := by simpa using hx
  obtain ⟨p1, _⟩ := List.append_inj' e1 rfl
  rw [← hy] at p1
  have e2 : x ++ [sN x / 256] = (y ++ [sN y / 256]) ++ [sN y % 256] := by simpa using p1
  obtain ⟨p2, _⟩ := List.append_inj' e2 rfl
  have h2 := hp ⟨[sN y / 256], p2.symm⟩
  rw [h2] at p2
  have := congrArg List.length p2
  simp at this
/-- One is put behind. -/
theorem far_more {x y : List Nat} {u : Nat} (hy : sealB y = sealB x ++ [u]) (hp : x <+: y → x = y) : False := far_less hy rfl hp
/-- What is spoilt, and how. -/
def Spoilt (B : List Nat) (B' : List Nat) : Prop :=
  (∃ P u v Q, B = P ++ u :: Q ∧ B' = P ++ v :: Q ∧ u ≠ v ∧ u < 256 ∧ v < 256) ∨ (∃ P u v Q, B = P ++ u :: v :: Q ∧ B' = P ++ v :: u :: Q ∧ u ≠ v ∧ u < 256 ∧ v < 256) ∨ (∃ u, B = B' ++ [u]) ∨ (∃ u, B' = B ++ [u])
theorem spoilt_far {x y B' : List Nat} (h : Spoilt (sealB x) B') (hxy : x <+: y → x = y) (hyx : y <+: x → y = x) : sealB y ≠ B' := by
  intro e
  rcases h with ⟨P, u, v, Q, h1, h2, h3, h4, h5⟩ | ⟨P, u, v, Q, h1, h2, h3, h4, h5⟩ | ⟨u, h1⟩ | ⟨u, h1⟩
  · exact far_one h1 (e.trans h2) h3 h4 h5
  · exact far_swap h1 (e.trans h2) h3 h4 h5
  · exact far_less h1 e hyx
  · exact far_more (e.trans h1) hxy
/-! ### no bytes of one parcel begin those of another one -/
theorem uCnt_cntF (r : List Nat) : ∀ (f g n : Nat), n < 128 ^ (f + 1) → f ≤ g → uCnt (f + 1) (cntF g n ++ r) = (n, r) := by
  intro f
  induction f with
  | zero =>
    intro g n hn _
    rw [cntF_small (by omega)]
    simp only [uCnt, List.cons_append, List.nil_append, List.headD_cons, List.drop_succ_cons, List.drop_zero]
    rw [if_pos (by omega)]
  | succ f ih =>
    intro g n hn hg
    obtain ⟨g, rfl⟩ : ∃ m, g = m + 1 := ⟨g - 1, by omega⟩
    by_cases h : n < 128
    · rw [cntF_small h]
      show (if n < 128 then _ else _) = _
      rw [if_pos h]; rfl
    · have hq : n / 128 < 128 ^ (f + 1) := by rw [Nat.pow_succ] at hn; omega
      have h2 := ih g (n / 128) hq (by omega)
      rw [cntF_step (by omega)]
      show (if n % 128 + 128 < 128 then _ else ((n % 128 + 128) % 128 + 128 * (uCnt (f + 1) (cntF g (n / 128) ++ r)).1, (uCnt (f + 1) (cntF g (n / 128) ++ r)).2)) = _
      rw [if_neg (by omega), h2]
      exact Prod.ext (by show (n % 128 + 128) % 128 + 128 * (n / 128) = n; omega) rfl
theorem uCnt_cntB (r : List Nat) {n : Nat} (hn : n < 268435456) : uCnt 4 (cntB n ++ r) = (n, r) := uCnt_cntF r 3 10 n hn (by omega)
theorem uSp_enc (r : List Nat) {s : Sp} (h1 : 0 ≤ s.1) (h2 : s.1 ≤ 1000) (h3 : 0 ≤ s.2) (h4 : s.2 ≤ 1000) : (uSp (cntB s.1.toNat ++ cntB s.2.toNat ++ r)).2 = r := by
  unfold uSp
  rw [List.append_assoc, uCnt_cntB _ (by omega)]
  show (uCnt 4 (cntB s.2.toNat ++ r)).2 = r
  rw [uCnt_cntB _ (by omega)]
theorem uSps_enc (r : List Nat) : ∀ l : List Sp, (∀ s, s ∈ l → (0 ≤ s.1 ∧ s.1 ≤ 1000) ∧ 0 ≤ s.2 ∧ s.2 ≤ 1000) → (uList uSp l.length ((l.flatMap fun s => cntB s.1.toNat ++ cntB s.2.toNat) ++ r)).2 = r := by
  intro l
  induction l with
  | nil => intro _; rfl
  | cons s l ih =>
    intro h
    obtain ⟨⟨a, b⟩, c, e⟩ := h s List.mem_cons_self
    show (uList uSp l.length (uSp (((cntB s.1.toNat ++ cntB s.2.toNat) ++ (l.flatMap fun s => cntB s.1.toNat ++ cntB s.2.toNat)) ++ r)).2).2 = r
    rw [List.append_assoc, uSp_enc _ a b c e]
    exact ih fun x hx => h x (List.mem_cons_of_mem _ hx)
theorem rSpans_enc (r : List Nat) {l : List Sp} (ok : OkSp l) : (rSpans (encS l ++ r)).2 = r := by
  have hs := ok_short ok
  unfold rSpans encS
  rw [List.append_assoc, uCnt_cntB _ (by omega)]
  show (uList uSp (min l.length 60) _).2 = r
  rw [Nat.min_eq_left (by omega)]
  exact uSps_enc r l fun s hs => by
    obtain ⟨a, b, c⟩ := ok.1 s hs
    omega
theorem rList_enc (r : List Nat) : ∀ l : List Spl, (∀ x, x ∈ l → OkSp x.2) → (uList rSpans l.length ((l.flatMap fun x => encS x.2) ++ r)).2 = r := by
  intro l
  induction l with
  | nil => intro _; rfl
  | cons s l ih =>
    intro h
    show (uList rSpans l.length (rSpans ((encS s.2 ++ (l.flatMap fun x => encS x.2)) ++ r)).2).2 = r
    rw [List.append_assoc, rSpans_enc _ (h s List.mem_cons_self)]
    exact ih fun x hx => h x (List.mem_cons_of_mem _ hx)
/-- What comes behind a parcel. -/
def restP (bs : List Nat) : List Nat := (rSpans (rHas bs).2).2
theorem restP_enc {tabs : List Tab} {d : Nat} {s : Shp} {p : Pcl} (z : List Nat) (h : parB tabs d s p = true) (hlen : (encE d p.e).length ≤ 20000) : restP (encP d p ++ z) = z := by
  obtain ⟨_, _, _, h8, hok, hto⟩ := parB_iff.1 h
  have e1 : (encP d p ++ z).drop 4 = cntB (encE d p.e).length ++ (encE d p.e ++ (cntB p.has.length ++ ((p.has.flatMap fun x => encS x.2) ++ (encS p.told ++ z)))) := by
    simp [encP, encP1]
  have e2 : uCnt 4 ((encP d p ++ z).drop 4) = ((encE d p.e).length, encE d p.e ++ (cntB p.has.length ++ ((p.has.flatMap fun x => encS x.2) ++ (encS p.told ++ z)))) := by
    rw [e1, uCnt_cntB _ (by omega)]
  have e3 : rRest (encP d p ++ z) = cntB p.has.length ++ ((p.has.flatMap fun x => encS x.2) ++ (encS p.told ++ z)) := by
    unfold rRest rW
    rw [e2]
    show (encE d p.e ++ _).drop (min (encE d p.e).length (encE d p.e ++ _).length) = _
    rw [Nat.min_eq_left (by rw [List.length_append]; omega), List.drop_left]
  have e4 : (rHas (encP d p ++ z)).2 = encS p.told ++ z := by
    unfold rHas
    rw [e3, uCnt_cntB _ (by omega)]
    show (uList rSpans (min p.has.length 8) _).2 = _
    rw [Nat.min_eq_left h8]
    exact rList_enc _ _ hok
  unfold restP
  rw [e4]
  exact rSpans_enc _ hto
theorem encP_free {tabs : List Tab} {d : Nat} {s : Shp} {p q : Pcl} (hp : parB tabs d s p = true) (hpl : (encE d p.e).length ≤ 20000) (hq : parB tabs d s q = true) (hql : (encE d q.e).length ≤ 20000) (h : encP d p <+: encP d q) : encP d p = encP d q := by
  obtain ⟨w, hw⟩ := h
  have h1 := restP_enc w hp hpl
  have h2 := restP_enc [] hq hql
  rw [List.append_nil] at h2
  rw [hw, h2] at h1
  rw [← hw, ← h1, List.append_nil]
theorem headB_free {n i o n' i' o' : Nat} {d d' : List Nat} (h : headB n i o d <+: headB n' i' o' d') : headB n i o d = headB n' i' o' d' := by
  have hl : d.length = d'.length := by
    obtain ⟨w, hw⟩ := h
    simp only [headB, List.cons_append, List.nil_append, List.append_assoc, List.cons.injEq] at hw
    exact hw.2.2.2.2.2.1
  exact h.eq_of_length (by simp [headB, hl])
end Go.Proofs.YtjckhhkhgjbpaaaGreatDoor

/- How the statement spoils bytes. -/
set_option maxRecDepth 100000
set_option linter.unusedSimpArgs false
set_option linter.unusedVariables false
namespace Go.Proofs.YtjckhhkhgjbpaaaGreatDoor
open Go Go.Proofs.YtjckhhkhgjbpaaaGreatDoor.Pale
variable {k : Nat} {σ : AMem}

def tyU8 : TyI := ⟨.int .u8, 1, 1, [.int .u8 0]⟩
theorem bytesV_set (B : List Nat) (i v : Nat) : (bytesV B).set i (.int .u8 (v : Nat)) = bytesV (B.set i v) := by
  simp only [bytesV, List.map_set]
theorem copy_some {e : TyI} {q : Nat} (x : AVal) (A : List AVal) (n : Nat) (hg : σ.get q = some (.row e.size e.isAgg [])) (hA : sourceA e.size σ x = some (A, n)) (h1 : n ≠ 0) (hs0 : e.size ≠ 0) (hb0 : e.bytes ≠ 0) (hb1 : e.bytes ≤ 1048576) (hby : n * e.bytes ≤ mostBytes) :
    appendA e σ (.slice q 0 0 (some 0) e.size) x = some (.slice σ.next 0 n none e.size, σ.push (.row e.size e.isAgg A)) := by
  simp only [appendA, hA, hg]
  rw [if_neg h1, if_neg (by simp [hs0, hb0]; omega), if_pos (by rw [Nat.zero_add]; exact hby), if_pos trivial, if_neg (by omega), if_pos (by simp)]
  simp
theorem slice_toB {sz r n i z : Nat} {cells : List AVal} {g : Bool} (hr : σ.get r = some (.row sz g cells)) (h : i ≤ n) : sliceM σ sz r 0 n none z none (some (.int .i64 (i : Nat))) none = some (.slice r 0 i none z) := by
  have hl : i ≤ limA σ r 0 n sz := by
    simp only [limA, hr]
    exact Nat.le_trans h (Nat.le_max_left _ _)
  have hb : (0 : Int) ≤ ((i : Nat) : Int) ∧ ((i : Nat) : Int) ≤ ((limA σ r 0 n sz : Nat) : Int) := by omega
  simp only [sliceM, boundA, hb, and_self, if_true, Int.toNat_natCast, Nat.zero_mul, Nat.add_zero, Nat.sub_zero]
theorem spoilt_call (B : List Nat) (h w : Nat) (hB : ∀ b, b ∈ B → b < 256) (hn2 : 2 ≤ B.length) (hn : B.length ≤ 60000) (hh : h < 256) (hw : w < 65536) (hk : 100 ≤ k) : ∃ B' b, (∀ σ, pureCall lawProg (callN lawProg k) (.func 32 [] []) [.vs .some (bytesV B), .int .u8 (h : Nat), .int .u16 (w : Nat)] σ = some (.tuple [.vs .some (bytesV B'), .bool b], σ)) ∧ (b = true → Spoilt B B') ∧ (∀ b, b ∈ B' → b < 256) ∧ B'.length ≤ B.length + 1 := by
  obtain ⟨k, rfl⟩ : ∃ m, k = m + 1 := ⟨k - 1, by omega⟩
  have a1 : appendA ⟨.int .u8, 1, 1, [.int .u8 0]⟩ (AMem.empty.push (.row 1 false [])) (.slice 0 0 0 (some 0) 1) (.vs .some (bytesV B)) = some (.slice 1 0 B.length none 1, (AMem.empty.push (.row 1 false [])).push (.row 1 false (bytesV B))) := copy_some (e := tyU8) (σ := AMem.empty.push (.row 1 false [])) (q := 0) (.vs .some (bytesV B)) (bytesV B) B.length rfl (source_bytes _ _ _) (by omega) (by decide) (by decide) (by decide) (by simp only [tyU8, mostBytes]; omega)
  have w0 : IntKind.i64.wrap ((w : Nat) : Int) = ((w : Nat) : Int) := i64_id (by omega) (by omega)
  have hne0 : ¬ ((B.length : Nat) : Int) = 0 := by omega
  have w1 : ((w : Nat) : Int).tmod ((B.length : Nat) : Int) = ((w % B.length : Nat) : Int) := rfl
  have hat : w % B.length < B.length := Nat.mod_lt _ (by omega)
  have fin : ∀ {T1 : Tr AVal} {σ1 : AMem} {y : AVal} {b : Bool} {B' : List Nat} {S : List Nat}, execC lawProg (callN lawProg k) k 32 80 (bodyOf Tryz.f32) (initT 0 [.vs .some (bytesV B), .int .u8 (h : Nat), .int .u16 (w : Nat)] .nil) AMem.empty = some (.ret, T1, σ1) → T1.get 6 = some y → T1.get 7 = some (.bool b) → snapF false σ1 11 y = some (.vs .some (bytesV B'), S) → ∀ σ, pureCall lawProg (callN lawProg (k + 1)) (.func 32 [] []) [.vs .some (bytesV B), .int .u8 (h : Nat), .int .u16 (w : Nat)] σ = some (.tuple [.vs .some (bytesV B'), .bool b], σ) := by
    intro T1 σ1 y b B' S h1 h2 h3 h4 σ
    have hsn : snapF false σ1 snapDepth (packA [y, .bool b]) = some (.tuple [.vs .some (bytesV B'), .bool b], S ++ ([] ++ [])) := by
      have hi : snapF false σ1 11 (.bool b) = some (.bool b, []) := rfl
      show (snapL (snapF false σ1 11) [y, .bool b]).map (fun (l, a) => (AVal.tuple l, a)) = _
      simp only [snapL, h4, hi, Option.map_some]
    obtain ⟨b', hpr⟩ := pureRun_any fn32 rfl (by simp [Tryz.f32]) h1 (by simp) (res_two h2 h3) hsn
    exact pureCall_of0 (args' := [.vs .some (bytesV B), .int .u8 (h : Nat), .int .u16 (w : Nat)]) rfl (memo32 _) hpr
  have e4 : ((h : Nat) : Int).tmod 4 = ((h % 4 : Nat) : Int) := rfl
  have q0 : ((0 : Int) == 0) = true := rfl
  have q10 : ((1 : Int) == 0) = false := rfl
  have q11 : ((1 : Int) == 1) = true := rfl
  have q20 : ((2 : Int) == 0) = false := rfl
  have q21 : ((2 : Int) == 1) = false := rfl
  have q22 : ((2 : Int) == 2) = true := rfl
  have q30 : ((3 : Int) == 0) = false := rfl
  have q31 : ((3 : Int) == 1) = false := rfl
  have q32 : ((3 : Int) == 2) = false := rfl
  have hc : h % 4 = 0 ∨ h % 4 = 1 ∨ h % 4 = 2 ∨ h % 4 = 3 := by omega
  rcases hc with h4 | h4 | h4 | h4
  · rw [h4] at e4
    have e4' : ((h : Nat) : Int).tmod 4 = 0 := e4
    have d1 : ((h : Nat) : Int).tdiv 4 = ((h / 4 : Nat) : Int) := rfl
    have d2 : ((h / 4 : Nat) : Int).tmod 63 = ((h / 4 % 63 : Nat) : Int) := rfl
    have d3 : IntKind.u8.wrap (((h / 4 % 63 : Nat) : Int) + 1) = ((h / 4 % 63 + 1 : Nat) : Int) := by rw [show (((h / 4 % 63 : Nat) : Int) + 1) = ((h / 4 % 63 + 1 : Nat) : Int) by omega]; exact u8_id (by omega)
    have d15 : IntKind.u8.wrap ((h / 4 : Nat) : Int) = ((h / 4 : Nat) : Int) := u8_id (by omega)
    have hat' : w % B.length + 1 ≤ B.length := hat
    have d4 : IntKind.u8.wrap (((B[w % B.length] : Nat) : Int) + ((h / 4 % 63 + 1 : Nat) : Int)) = (((B[w % B.length] + (h / 4 % 63 + 1)) % 256 : Nat) : Int) := by
      show (((B[w % B.length] : Nat) : Int) + ((h / 4 % 63 + 1 : Nat) : Int)) % 256 = _
      omega
    have hg := bytesV_get hat
    have hlt : ((w % B.length : Nat) : Int) < ((B.length : Nat) : Int) := by omega
    have run : ∃ T1, execC lawProg (callN lawProg k) k 32 80 (bodyOf Tryz.f32) (initT 0 [.vs .some (bytesV B), .int .u8 (h : Nat), .int .u16 (w : Nat)] .nil) AMem.empty = some (.ret, T1, ((AMem.empty.push (.row 1 false [])).push (.row 1 false (bytesV B))).put 1 (.row 1 false (bytesV (B.set (w % B.length) ((B[w % B.length] + (h / 4 % 63 + 1)) % 256))))) ∧ T1.get 6 = some (.slice 1 0 B.length none 1) ∧ T1.get 7 = some (.bool true) := by
      simp only [bodyOf, Tryz.f32, Option.getD_some, initT, dx, reduceIte, zLt, zLe, zEq, zAd, zMu, zSu, zBe, yEq, yLt, yLe, yTn, reduceCtorEq, sx, fx32, a1, bytesV_length, w0, hne0, w1, e4', q0, Int.natCast_nonneg, Int.toNat_natCast, hlt, hg, d1, d15, d2, d3, d4, hat', bytesV_set]
      exact ⟨_, rfl, by simp only [Tr.get_set, zEq, reduceIte], by simp only [Tr.get_set, zEq, reduceIte]⟩
    obtain ⟨T1, h1, h2, h3⟩ := run
    have hform := List.set_eq_take_append_cons_drop (l := B) (i := w % B.length) (a := (B[w % B.length] + (h / 4 % 63 + 1)) % 256)
    rw [if_pos hat] at hform
    have hbat := hB _ (List.getElem_mem hat)
    refine ⟨B.set (w % B.length) ((B[w % B.length] + (h / 4 % 63 + 1)) % 256), true, fin (S := [1]) h1 h2 h3 (snap_bytes (d := 9) (more := []) (by rw [List.length_set]) (by rw [List.append_nil, AMem.get_put, if_pos rfl])), fun _ => .inl ⟨B.take (w % B.length), B[w % B.length], (B[w % B.length] + (h / 4 % 63 + 1)) % 256, B.drop (w % B.length + 1), ?_, hform, by omega, hbat, by omega⟩, ?_, by rw [List.length_set]; omega⟩
    · rw [← List.drop_eq_getElem_cons hat, List.take_append_drop]
    · intro b hb
      rcases List.mem_or_eq_of_mem_set hb with hb | rfl
      · exact hB b hb
      · omega
  · rw [h4] at e4
    have e4' : ((h : Nat) : Int).tmod 4 = 1 := e4
    obtain ⟨m, hm⟩ : ∃ m, m = B.length - 1 := ⟨_, rfl⟩
    have s1 : IntKind.i64.wrap (((B.length : Nat) : Int) - 1) = ((m : Nat) : Int) := by rw [show ((B.length : Nat) : Int) - 1 = ((m : Nat) : Int) by omega]; exact i64_id (by omega) (by omega)
    have hne1 : ¬ ((m : Nat) : Int) = 0 := by omega
    have w2 : ((w : Nat) : Int).tmod ((m : Nat) : Int) = ((w % m : Nat) : Int) := rfl
    have ha2 : w % m < m := Nat.mod_lt _ (by omega)
    generalize w % m = a at *
    have ha3 : a < B.length := by omega
    have ha4 : a + 1 < B.length := by omega
    have hg1 := bytesV_get ha3
    have hg2 := bytesV_get ha4
    have s2 : IntKind.i64.wrap (((a : Nat) : Int) + 1) = ((a + 1 : Nat) : Int) := by rw [show ((a : Nat) : Int) + 1 = ((a + 1 : Nat) : Int) by omega]; exact i64_id (by omega) (by omega)
    have hl1 : ((a : Nat) : Int) < ((B.length : Nat) : Int) := by omega
    have hl2 : ((a + 1 : Nat) : Int) < ((B.length : Nat) : Int) := by omega
    have ha3' : a + 1 ≤ B.length := by omega
    have ha4' : a + 1 + 1 ≤ B.length := by omega
    have run : ∃ T1, execC lawProg (callN lawProg k) k 32 80 (bodyOf Tryz.f32) (initT 0 [.vs .some (bytesV B), .int .u8 (h : Nat), .int .u16 (w : Nat)] .nil) AMem.empty = some (.ret, T1, (((AMem.empty.push (.row 1 false [])).push (.row 1 false (bytesV B))).put 1 (.row 1 false (bytesV (B.set a B[a + 1])))).put 1 (.row 1 false (bytesV ((B.set a B[a + 1]).set (a + 1) B[a])))) ∧ T1.get 6 = some (.slice 1 0 B.length none 1) ∧ T1.get 7 = some (.bool (((B[a] : Nat) : Int) != ((B[a + 1] : Nat) : Int))) := by
      simp only [bodyOf, Tryz.f32, Option.getD_some, initT, dx, reduceIte, zLt, zLe, zEq, zAd, zMu, zSu, zBe, yEq, yLt, yLe, yTn, reduceCtorEq, sx, fx32, a1, bytesV_length, w0, hne0, w1, e4', q10, q11, s1, hne1, w2, s2, Int.natCast_nonneg, Int.toNat_natCast, hl1, hl2, hg1, hg2, ha3', ha4', bytesV_set, List.length_set]
      exact ⟨_, rfl, by simp only [Tr.get_set, zEq, reduceIte], by simp only [Tr.get_set, zEq, reduceIte]⟩
    obtain ⟨T1, h1, h2, h3⟩ := run
    have hba := hB _ (List.getElem_mem ha3)
    have hbb := hB _ (List.getElem_mem ha4)
    have hf1 : B = B.take a ++ B[a] :: B[a + 1] :: B.drop (a + 1 + 1) := by rw [← List.drop_eq_getElem_cons ha4, ← List.drop_eq_getElem_cons ha3, List.take_append_drop]
    have hf2 : (B.set a B[a + 1]).set (a + 1) B[a] = B.take a ++ B[a + 1] :: B[a] :: B.drop (a + 1 + 1) := by
      generalize hx : B[a] = x at hf1 ⊢
      generalize hy : B[a + 1] = y at hf1 ⊢
      generalize hP : B.take a = P at hf1 ⊢
      generalize hQ : B.drop (a + 1 + 1) = Q at hf1 ⊢
      have hPl : P.length = a := by rw [← hP, List.length_take]; omega
      rw [hf1]
      simp [List.set_append, hPl]
    refine ⟨(B.set a B[a + 1]).set (a + 1) B[a], _, fin (S := [1]) h1 h2 h3 (snap_bytes (d := 9) (more := []) (by rw [List.length_set, List.length_set]) (by rw [List.append_nil, AMem.get_put, if_pos rfl])), fun hb => .inr (.inl ⟨B.take a, B[a], B[a + 1], B.drop (a + 1 + 1), hf1, hf2, ?_, hba, hbb⟩), ?_, by rw [List.length_set, List.length_set]; omega⟩
    · intro e
      rw [e] at hb
      simp at hb
    · intro b hb
      rw [hf2] at hb
      rcases List.mem_append.1 hb with hb | hb
      · exact hB b (List.mem_of_mem_take hb)
      · rcases List.mem_cons.1 hb with rfl | hb
        · exact hbb
        · rcases List.mem_cons.1 hb with rfl | hb
          · exact hba
          · exact hB b (List.mem_of_mem_drop hb)
  · rw [h4] at e4
    have e4' : ((h : Nat) : Int).tmod 4 = 2 := e4
    obtain ⟨m, hm⟩ : ∃ m, m = B.length - 1 := ⟨_, rfl⟩
    have s1 : IntKind.i64.wrap (((B.length : Nat) : Int) - 1) = ((m : Nat) : Int) := by rw [show ((B.length : Nat) : Int) - 1 = ((m : Nat) : Int) by omega]; exact i64_id (by omega) (by omega)
    have hsl : sliceM ((AMem.empty.push (.row 1 false [])).push (.row 1 false (bytesV B))) 1 1 0 B.length none 1 none (some (.int .i64 (m : Nat))) none = some (.slice 1 0 m none 1) := slice_toB (σ := (AMem.empty.push (.row 1 false [])).push (.row 1 false (bytesV B))) (cells := bytesV B) (g := false) (by simp only [AMem.get_push, AMem.next_push, next_empty, zAd, reduceIte]) (by omega)
    have run : ∃ T1, execC lawProg (callN lawProg k) k 32 80 (bodyOf Tryz.f32) (initT 0 [.vs .some (bytesV B), .int .u8 (h : Nat), .int .u16 (w : Nat)] .nil) AMem.empty = some (.ret, T1, ((AMem.empty.push (.row 1 false [])).push (.row 1 false (bytesV B)))) ∧ T1.get 6 = some (.slice 1 0 m none 1) ∧ T1.get 7 = some (.bool true) := by
      simp only [bodyOf, Tryz.f32, Option.getD_some, initT, dx, reduceIte, zLt, zLe, zEq, zAd, zMu, zSu, zBe, yEq, yLt, yLe, yTn, reduceCtorEq, sx, fx32, a1, bytesV_length, w0, hne0, w1, e4', q20, q21, q22, s1, hsl]
      exact ⟨_, rfl, by simp only [Tr.get_set, zEq, reduceIte], by simp only [Tr.get_set, zEq, reduceIte]⟩
    obtain ⟨T1, h1, h2, h3⟩ := run
    rcases List.eq_nil_or_concat B with rfl | ⟨P, u, rfl⟩
    · simp at hn2
    have hPm : m = P.length := by simp at hm; omega
    refine ⟨P, true, fin (S := [1]) h1 h2 h3 (snap_bytes (d := 9) (more := [u]) hPm (by simp only [AMem.get_push, AMem.next_push, next_empty, zAd, reduceIte]; simp)), fun _ => .inr (.inr (.inl ⟨u, by simp⟩)), fun b hb => hB b (by simp [hb]), by simp; omega⟩
  · rw [h4] at e4
    have e4' : ((h : Nat) : Int).tmod 4 = 3 := e4
    have s1 : IntKind.u8.wrap ((w : Nat) : Int) = ((w % 256 : Nat) : Int) := by
      show ((w : Nat) : Int) % 256 = _
      omega
    have hgr : Grew 0 ((AMem.empty.push (.row 1 false [])).push (.row 1 false (bytesV B))) 1 false (.slice 1 0 B.length none 1) B.length (bytesV B) := ⟨by rw [bytesV_length]; omega, .inr ⟨1, by omega, by simp [next_empty], rfl, by simp only [AMem.get_push, AMem.next_push, next_empty, zAd, reduceIte]⟩⟩
    obtain ⟨σ', b1, b2, b3, b4, _⟩ := Grew.one (e := tyU8) (xs := [.int .u8 ((w % 256 : Nat) : Int)]) hgr (by omega) rfl (by decide) (by decide) (by decide) (by simp only [tyU8, mostBytes]; omega) rfl
    have b1' : appendA ⟨.int .u8, 1, 1, [.int .u8 0]⟩ (((AMem.empty.push (.row 1 false [])).push (.row 1 false (bytesV B))).push (.row 1 false [.int .u8 ((w % 256 : Nat) : Int)])) (.slice 1 0 B.length none 1) (.slice 2 0 1 (some 1) 1) = some (.slice 3 0 (B.length + 1) none 1, σ') := b1
    have run : ∃ T1, execC lawProg (callN lawProg k) k 32 80 (bodyOf Tryz.f32) (initT 0 [.vs .some (bytesV B), .int .u8 (h : Nat), .int .u16 (w : Nat)] .nil) AMem.empty = some (.ret, T1, σ') ∧ T1.get 6 = some (.slice 3 0 (B.length + 1) none 1) ∧ T1.get 7 = some (.bool true) := by
      simp only [bodyOf, Tryz.f32, Option.getD_some, initT, dx, reduceIte, zLt, zLe, zEq, zAd, zMu, zSu, zBe, yEq, yLt, yLe, yTn, reduceCtorEq, sx, fx32, a1, bytesV_length, w0, hne0, w1, e4', q30, q31, q32, s1, b1']
      exact ⟨_, rfl, by simp only [Tr.get_set, zEq, reduceIte], by simp only [Tr.get_set, zEq, reduceIte]⟩
    obtain ⟨T1, h1, h2, h3⟩ := run
    have b2' : Grew 0 σ' 1 false (.slice 3 0 (B.length + 1) none 1) (B.length + 1) (bytesV (B ++ [w % 256])) := by
      have : bytesV (B ++ [w % 256]) = bytesV B ++ [.int .u8 ((w % 256 : Nat) : Int)] := by simp [bytesV]
      rw [this]; exact b2
    have g3 : σ'.get 3 = some (.row 1 false (bytesV (B ++ [w % 256]))) := by
      rcases b2'.2 with ⟨h, _⟩ | ⟨r, _, _, h, h9⟩
      · omega
      · simp only [AVal.slice.injEq] at h
        rw [h.1]; exact h9
    refine ⟨B ++ [w % 256], true, fin (S := [3]) h1 h2 h3 (snap_bytes (d := 9) (more := []) (by simp) (by rw [List.append_nil]; exact g3)), fun _ => .inr (.inr (.inr ⟨w % 256, rfl⟩)), ?_, by simp⟩
    intro b hb
    rcases List.mem_append.1 hb with hb | hb
    · exact hB b hb
    · simp only [List.mem_singleton] at hb
      omega
end Go.Proofs.YtjckhhkhgjbpaaaGreatDoor

/- The law PackSpoilt. -/
set_option maxRecDepth 100000
set_option linter.unusedSimpArgs false
set_option linter.unusedVariables false
namespace Go.Proofs.YtjckhhkhgjbpaaaGreatDoor
open Go Go.Proofs.YtjckhhkhgjbpaaaGreatDoor.Pale
variable {k : Nat} {σ : AMem}

theorem spoiltC {name i of : Nat} {d B' : List Nat} (h : Spoilt (encC name i of d) B') : readP B' = (.agg [.int .i64 0, .int .i64 0, .int .i64 0, .vs .nil []], 4) := by
  unfold readP
  split
  · rename_i h1
    exact absurd h1.2 (spoilt_far (x := headB name i of d) h headB_free headB_free)
  · rfl
theorem spoiltP {p : Pcl} {B' : List Nat} (hp : parB [] 6 shp6 p = true) (hpl : (encE 6 p.e).length ≤ 20000) (h : Spoilt (sealB (encP 6 p)) B') : prV [] 6 shp6 0 B' = (parZ, 4) := by
  unfold prV
  rw [if_pos rfl]
  split
  · split
    · rename_i _ h1
      rcases pbV_two (tabs := []) (d := 6) (s := shp6) (p := rPcl B') with ⟨n, hn0, hpv⟩ | ⟨_, hq, hql⟩
      · rw [hpv] at h1; exact absurd h1.1 hn0
      · exact absurd h1.2 (spoilt_far h (encP_free hp hpl hq hql) (encP_free hq hql hp hpl))
    · rfl
  · rfl
theorem encL6 : encL 6 ≤ 100000000000 := by decide
theorem cpE_fit : ∀ (d : Nat) (e : El), Fit 45 d e → Fit 45 d (cpE d e) := by
  intro d
  induction d with
  | zero => intro e h; exact h.elim
  | succ d ih =>
    intro e h
    refine ⟨h.1, by show (e.kids.map (cpE d)).length ≤ 45; rw [List.length_map]; exact h.2.1, ?_⟩
    intro x hx
    obtain ⟨y, hy, rfl⟩ := List.mem_map.1 hx
    exact ih y (h.2.2 y hy)
theorem cpP_fit {p : Pcl} (h : ThinP p) : ParFit 6 (cpP 6 p) := by
  obtain ⟨h1, h2, h3, h4⟩ := h
  refine ⟨(cpE_fit 6 p.e h1).up (by omega) (Nat.le_refl _), ?_, ?_, ?_⟩
  · simp only [cpP, List.length_map]; omega
  · intro x hx
    simp only [cpP] at hx
    obtain ⟨y, hy, rfl⟩ := List.mem_map.1 hx
    have := h3 y hy
    simp only [cpS]; omega
  · simp only [cpP]; omega
def lat6C : List AVal := [.vs .nil [], .int .u8 6, .str [], .slice 3 0 1 (some 1) 3]
theorem lat6_snap {σ : AMem} {d : Nat} (h : σ.get 3 = some (.row 3 true [.int .u8 3, .str [], .vs .nil []])) : snapF false σ (d + 4) (.agg lat6C) = some (.agg (latC .nil [] shp6), [] ++ ([] ++ ([] ++ ([3] ++ [])))) := by
  have h1 : snapF false σ (d + 3) (.slice 3 0 1 (some 1) 3) = some (.vs .some [.agg [.int .u8 3, .str [], .vs .nil []]], [3]) := by
    have := snap_structs (fr := false) (σ := σ) (d := d + 1) (r := 3) (n := 1) (cap := some 1) (sz := 3) (ls := [[.int .u8 3, .str [], .vs .nil []]]) (ps := [[.int .u8 3, .str [], .vs .nil []]]) (S := []) (by omega) rfl rfl (by simp) (by simp) h rfl
    exact this
  have h2 : ∀ v, v = AVal.vs .nil [] ∨ v = .int .u8 6 ∨ v = .str [] → snapF false σ (d + 3) v = some (v, []) := by
    rintro v (rfl | rfl | rfl) <;> rfl
  show (snapL (snapF false σ (d + 3)) lat6C).map (fun (l, a) => (AVal.agg l, a)) = _
  simp only [lat6C, snapL, h1, h2 _ (.inl rfl), h2 _ (.inr (.inl rfl)), h2 _ (.inr (.inr rfl)), Option.map_some]
  rfl
set_option maxHeartbeats 4000000 in
theorem spoilt_run {M dp : Nat} (p : Pcl) (hf : Fit M dp p.e) (name i of : Int) (vk : VK) (d : List Nat) (hd : ∀ b, b ∈ d → b < 256) (a b c : Nat) (ha : a < 65536) (hb : b < 65536) (hc : c < 65536) (hk : 200000 ≤ k) :
    ∃ σ', callN lawProg (k + 1) (.func 7 [] []) [parV p, .agg [.int .i64 name, .int .i64 i, .int .i64 of, .vs vk (bytesV d)], .agg [.int .u16 a, .int .u16 b, .int .u16 c]] AMem.empty = some (.bool true, σ') := by
  have run : ∃ T1 σ1, execC lawProg (callN lawProg k) k 7 99 (bodyOf Tryz.f7) (initT 0 [.agg (parC p), .agg [.int .i64 name, .int .i64 i, .int .i64 of, .vs vk (bytesV d)], .agg [.int .u16 a, .int .u16 b, .int .u16 c]] .nil) AMem.empty = some (.ret, T1, σ1) ∧ T1.get 6 = some (.bool true) := by
    obtain ⟨tb, ht1, ht2⟩ := thinParcel_call (k := k) p hf (by omega)
    cases tb with
    | false =>
      simp only [parV, parC] at ht1 ⊢
      simp only [bodyOf, Tryz.f7, Option.getD_some, initT, dx, reduceIte, zLt, zLe, zEq, zAd, zMu, zSu, zBe, yEq, yLt, yLe, yTn, reduceCtorEq, sx, fx7, ht1, awake_call]
      exact ⟨_, _, rfl, by simp only [Tr.get_set, zEq, reduceIte]⟩
    | true =>
      have hth := ht2 rfl
      by_cases h120 : d.length ≤ 120
      · have g120 : ¬ ((d.length : Nat) : Int) > 120 := by omega
        have cp := copyParcel_call (k := k) p hth (by omega)
        have hfit := cpP_fit hth
        obtain ⟨q, hq⟩ : ∃ q, q = cpP 6 p := ⟨_, rfl⟩
        rw [← hq] at cp hfit
        have cc := fun (σ : AMem) => copyChunk_call (k := k) (σ := σ) name i of vk d (by omega) (by omega)
        let σL : AMem := (((((AMem.empty.push (.row 9 true (parC p))).push (.row 4 true [.int .i64 name, .int .i64 i, .int .i64 of, .vs vk (bytesV d)])).push (.row 3 true [.int .u16 a, .int .u16 b, .int .u16 c])).push (.row 3 true [.int .u8 3, .str [], .vs .nil []])).push (.row 4 true [.vs .nil [], .int .u8 0, .str [], .vs .nil []])).put 4 (.row 4 true lat6C)
        have z3 : σL.get 3 = some (.row 3 true [.int .u8 3, .str [], .vs .nil []]) := by simp only [σL, AMem.get_put, AMem.get_push, AMem.next_push, next_empty, zAd, zEq, reduceIte]
        have hsl : ∀ v w S, snapF false σL snapDepth v = some (w, S) → snapL (snapF false σL snapDepth) [.agg lat6C, v] = some ([.agg (latC .nil [] shp6), w], ([] ++ ([] ++ ([] ++ ([3] ++ [])))) ++ (S ++ [])) := fun v w S h => by
          have h1 : snapF false σL snapDepth (.agg lat6C) = some (.agg (latC .nil [] shp6), [] ++ ([] ++ ([] ++ ([3] ++ [])))) := lat6_snap (d := 8) z3
          simp only [snapL, h1, h]
        have hby : pureCall lawProg (callN lawProg k) (.func 11 [] []) [.agg lat6C, parV q] σL = some (.tuple [(pbV [] 6 shp6 0 q).1, .int .i64 (pbV [] 6 shp6 0 q).2], σL) := by
          obtain ⟨k', rfl⟩ : ∃ m, k = m + 1 := ⟨k - 1, by omega⟩
          exact pureCall_of (hsl (parV q) (parV q) [] rfl) (memo11 _) (pBytes_run (by simp) (by intro n; simp [tlOf]) cs6 (fun _ => shp6_ok) q hfit encL6 (by omega) (by omega))
        have wa : IntKind.u8.wrap ((a : Nat) : Int) = ((a % 256 : Nat) : Int) := by
          show ((a : Nat) : Int) % 256 = _
          omega
        have h03 : (0 : Int) < ((3 : Nat) : Int) := by decide
        have h13 : (1 : Int) < ((3 : Nat) : Int) := by decide
        have h23 : (2 : Int) < ((3 : Nat) : Int) := by decide
        have q44 : ((4 : Int) != 4) = false := rfl
        have q40 : ((4 : Int) == 0) = false := rfl
        have q00 : ((0 : Int) == 0) = true := rfl
        -- what is right of the chunk
        have hch : (∃ r1 r2, (∀ σ, pureCall lawProg (callN lawProg k) (.func 27 [] []) [.agg [.int .i64 name, .int .i64 i, .int .i64 of, .vs .some (bytesV d)]] σ = some (.tuple [r1, .int .i64 r2], σ)) ∧ (r2 == 0) = false) ∨ (∃ C : List Nat, (∀ σ, pureCall lawProg (callN lawProg k) (.func 27 [] []) [.agg [.int .i64 name, .int .i64 i, .int .i64 of, .vs .some (bytesV d)]] σ = some (.tuple [.vs .some (bytesV C), .int .i64 0], σ)) ∧ 2 ≤ C.length ∧ C.length ≤ 900 ∧ (∀ b, b ∈ C → b < 256) ∧ ∀ B', Spoilt C B' → readP B' = (.agg [.int .i64 0, .int .i64 0, .int .i64 0, .vs .nil []], 4)) := by
          obtain ⟨k', rfl⟩ : ∃ m, k = m + 1 := ⟨k - 1, by omega⟩
          by_cases hok : OkC name i of d
          · right
            obtain ⟨⟨o1, o2⟩, ⟨o3, o4⟩, ⟨o5, o6⟩, o7, o8⟩ := id hok
            obtain ⟨nn, rfl⟩ : ∃ n : Nat, name = (n : Int) := ⟨name.toNat, by omega⟩
            obtain ⟨ii, rfl⟩ : ∃ n : Nat, i = (n : Int) := ⟨i.toNat, by omega⟩
            obtain ⟨oo, rfl⟩ : ∃ n : Nat, of = (n : Int) := ⟨of.toNat, by omega⟩
            obtain ⟨b0, h0⟩ := chunkBytes_ok (k := k') nn ii oo .some d hok hd (by omega)
            refine ⟨encC nn ii oo d, fun σ => pureCall_of0 (args' := [chunkV nn ii oo .some d]) rfl (memo27 _) h0, ?_, ?_, ?_, fun B' hs => spoiltC hs⟩
            · simp [encC, sealB, headB]
            · simp [encC, sealB, headB]; omega
            · intro x hx
              have hsb := sumL_bounds 1 (headB nn ii oo d) (by decide)
              simp only [encC, sealB, headB, List.cons_append, List.nil_append, List.append_assoc, List.mem_cons, List.mem_append, List.not_mem_nil, or_false] at hx hsb
              rcases hx with rfl | rfl | rfl | rfl | rfl | rfl | hx | rfl | rfl
              all_goals first | omega | exact hd _ hx
          · left
            exact ⟨_, 4, fun σ => pureCall_of0 (args' := [chunkV name i of .some d]) rfl (memo27 _) (chunkBytes_bad (k := k') name i of .some d hok (by omega)), rfl⟩
        -- what the spoilt bytes of the chunk give
        have hrc : ∀ B' : List Nat, readP B' = (.agg [.int .i64 0, .int .i64 0, .int .i64 0, .vs .nil []], 4) → (∀ b, b ∈ B' → b < 256) → B'.length ≤ 1000 → ∀ σ, pureCall lawProg (callN lawProg k) (.func 28 [] []) [.vs .some (bytesV B')] σ = some (.tuple [.agg [.int .i64 0, .int .i64 0, .int .i64 0, .vs .nil []], .int .i64 4], σ) := by
          intro B' h0 h1 h2 σ
          obtain ⟨k', rfl⟩ : ∃ m, k = m + 1 := ⟨k - 1, by omega⟩
          obtain ⟨b0, h3⟩ := readChunk_run (k := k') B' h1 h2 (by omega)
          rw [h0] at h3
          exact pureCall_of0 (args' := [.vs .some (bytesV B')]) rfl (memo28 _) h3
        have hch2 : ∀ C B' : List Nat, (∀ B', Spoilt C B' → readP B' = (.agg [.int .i64 0, .int .i64 0, .int .i64 0, .vs .nil []], 4)) → Spoilt C B' → readP B' = (.agg [.int .i64 0, .int .i64 0, .int .i64 0, .vs .nil []], 4) := fun C B' h1 h2 => h1 B' h2
        rcases pbV_two (tabs := []) (d := 6) (s := shp6) (p := q) with ⟨n, hn0, hpv⟩ | ⟨hpv, hpb, hpl⟩
        · rw [hpv] at hby
          have hnn : (n == 0) = false := by simpa using hn0
          rcases hch with ⟨r1, r2, hcb, hr2⟩ | ⟨C, hcb, hC2, hC9, hCb, hCs⟩
          · simp only [σL, lat6C, parV, parC, elC] at hby ht1 cp ⊢
            simp only [bodyOf, Tryz.f7, Option.getD_some, initT, dx, reduceIte, zLt, zLe, zEq, zAd, zMu, zSu, zBe, yEq, yLt, yLe, yTn, reduceCtorEq, sx, fx7, ht1, bytesV_length, g120, awake_call, cp, cc, wa, h03, h13, h23, hby, hnn, hcb, hr2]
            exact ⟨_, _, rfl, by simp only [Tr.get_set, zEq, reduceIte]⟩
          · obtain ⟨C', cb, hsp, hsp2, hsp3, hsp4⟩ := spoilt_call (k := k) C (a % 256) c hCb hC2 (by omega) (by omega) hc (by omega)
            have gC : ((C.length : Nat) : Int) > 1 := by omega
            cases cb with
            | false =>
              simp only [σL, lat6C, parV, parC, elC] at hby ht1 cp ⊢
              simp only [bodyOf, Tryz.f7, Option.getD_some, initT, dx, reduceIte, zLt, zLe, zEq, zAd, zMu, zSu, zBe, yEq, yLt, yLe, yTn, reduceCtorEq, sx, fx7, ht1, bytesV_length, g120, awake_call, cp, cc, wa, h03, h13, h23, hby, hnn, hcb, q00, gC, hsp]
              exact ⟨_, _, rfl, by simp only [Tr.get_set, zEq, reduceIte]⟩
            | true =>
              have hrd := hrc C' (hCs C' (hsp2 rfl)) hsp3 (by omega)
              simp only [σL, lat6C, parV, parC, elC] at hby ht1 cp ⊢
              simp only [bodyOf, Tryz.f7, Option.getD_some, initT, dx, reduceIte, zLt, zLe, zEq, zAd, zMu, zSu, zBe, yEq, yLt, yLe, yTn, reduceCtorEq, sx, fx7, ht1, bytesV_length, g120, awake_call, cp, cc, wa, h03, h13, h23, hby, hnn, hcb, q00, gC, hsp, hrd, q44]
              exact ⟨_, _, rfl, by simp only [Tr.get_set, zEq, reduceIte]⟩
        · rw [hpv] at hby
          generalize hBq : sealB (encP 6 q) = B at hby
          have hB2 : 2 ≤ B.length := by rw [← hBq]; simp [sealB]
          have hB5 : B.length ≤ 50000 := by rw [← hBq]; exact sealP_len hpb hpl
          have hBb : ∀ b, b ∈ B → b < 256 := by
            obtain ⟨f1, f2, f3, _⟩ := parB_iff.1 hpb
            have hlt := encP_lt (d := 6) (p := q) f1 f2 (isElB_VE (by intro n; simp [tlOf]) f3)
            have hsb := sumL_bounds 1 (encP 6 q) (by decide)
            rw [← hBq]
            intro x hx
            simp only [sealB, List.mem_append, List.mem_cons, List.not_mem_nil, or_false] at hx
            rcases hx with hx | rfl | rfl
            · exact hlt _ hx
            · omega
            · omega
          have gB : ((B.length : Nat) : Int) > 1 := by omega
          obtain ⟨B', bb, hps, hps2, hps3, hps4⟩ := spoilt_call (k := k) B (a % 256) b hBb hB2 (by omega) (by omega) hb (by omega)
          cases bb with
          | false =>
            rcases hch with ⟨r1, r2, hcb, hr2⟩ | ⟨C, hcb, hC2, hC9, hCb, hCs⟩
            · simp only [σL, lat6C, parV, parC, elC] at hby ht1 cp ⊢
              simp only [bodyOf, Tryz.f7, Option.getD_some, initT, dx, reduceIte, zLt, zLe, zEq, zAd, zMu, zSu, zBe, yEq, yLt, yLe, yTn, reduceCtorEq, sx, fx7, ht1, bytesV_length, g120, awake_call, cp, cc, wa, h03, h13, h23, hby, q00, gB, hps, hcb, hr2]
              exact ⟨_, _, rfl, by simp only [Tr.get_set, zEq, reduceIte]⟩
            · obtain ⟨C', cb, hsp, hsp2, hsp3, hsp4⟩ := spoilt_call (k := k) C (a % 256) c hCb hC2 (by omega) (by omega) hc (by omega)
              have gC : ((C.length : Nat) : Int) > 1 := by omega
              cases cb with
              | false =>
                simp only [σL, lat6C, parV, parC, elC] at hby ht1 cp ⊢
                simp only [bodyOf, Tryz.f7, Option.getD_some, initT, dx, reduceIte, zLt, zLe, zEq, zAd, zMu, zSu, zBe, yEq, yLt, yLe, yTn, reduceCtorEq, sx, fx7, ht1, bytesV_length, g120, awake_call, cp, cc, wa, h03, h13, h23, hby, q00, gB, hps, hcb, q00, gC, hsp]
                exact ⟨_, _, rfl, by simp only [Tr.get_set, zEq, reduceIte]⟩
              | true =>
                have hrd := hrc C' (hCs C' (hsp2 rfl)) hsp3 (by omega)
                simp only [σL, lat6C, parV, parC, elC] at hby ht1 cp ⊢
                simp only [bodyOf, Tryz.f7, Option.getD_some, initT, dx, reduceIte, zLt, zLe, zEq, zAd, zMu, zSu, zBe, yEq, yLt, yLe, yTn, reduceCtorEq, sx, fx7, ht1, bytesV_length, g120, awake_call, cp, cc, wa, h03, h13, h23, hby, q00, gB, hps, hcb, q00, gC, hsp, hrd, q44]
                exact ⟨_, _, rfl, by simp only [Tr.get_set, zEq, reduceIte]⟩
          | true =>
            obtain ⟨b0, h0⟩ := pread_call (k := k) (lk := .nil) (tabs := []) (s := shp6) (E := 0) (d := 6) (by simp) (by intro n; simp [tlOf]) cs6 (fun _ => shp6_ok) (by omega) encL6 B' hps3 (by omega) (by omega)
            rw [spoiltP hpb hpl (by rw [hBq]; exact hps2 rfl)] at h0
            obtain ⟨σ', hrp, hn', hk'⟩ := pureCall_any (hsl (.vs .some (bytesV B')) (.vs .some (bytesV B')) [] rfl) (memo15 _) h0
            have y1 : σ'.get 1 = some (.row 4 true [.int .i64 name, .int .i64 i, .int .i64 of, .vs vk (bytesV d)]) := (hk' 1 (by simp)).trans (by simp only [σL, AMem.get_put, AMem.get_push, AMem.next_push, next_empty, zAd, zEq, reduceIte])
            have y2 : σ'.get 2 = some (.row 3 true [.int .u16 a, .int .u16 b, .int .u16 c]) := (hk' 2 (by simp)).trans (by simp only [σL, AMem.get_put, AMem.get_push, AMem.next_push, next_empty, zAd, zEq, reduceIte])
            have y5 : σ'.next = 5 := hn'
            simp only [parZ] at hrp
            rcases hch with ⟨r1, r2, hcb, hr2⟩ | ⟨C, hcb, hC2, hC9, hCb, hCs⟩
            · simp only [σL, lat6C, parV, parC, elC] at hby hrp ht1 cp ⊢
              simp only [bodyOf, Tryz.f7, Option.getD_some, initT, dx, reduceIte, zLt, zLe, zEq, zAd, zMu, zSu, zBe, yEq, yLt, yLe, yTn, reduceCtorEq, sx, fx7, ht1, bytesV_length, g120, awake_call, cp, cc, wa, h03, h13, h23, hby, q00, gB, hps, hrp, q44, y1, y2, y5, hcb, hr2]
              exact ⟨_, _, rfl, by simp only [Tr.get_set, zEq, reduceIte]⟩
            · obtain ⟨C', cb, hsp, hsp2, hsp3, hsp4⟩ := spoilt_call (k := k) C (a % 256) c hCb hC2 (by omega) (by omega) hc (by omega)
              have gC : ((C.length : Nat) : Int) > 1 := by omega
              cases cb with
              | false =>
                simp only [σL, lat6C, parV, parC, elC] at hby hrp ht1 cp ⊢
                simp only [bodyOf, Tryz.f7, Option.getD_some, initT, dx, reduceIte, zLt, zLe, zEq, zAd, zMu, zSu, zBe, yEq, yLt, yLe, yTn, reduceCtorEq, sx, fx7, ht1, bytesV_length, g120, awake_call, cp, cc, wa, h03, h13, h23, hby, q00, gB, hps, hrp, q44, y1, y2, y5, hcb, q00, gC, hsp]
                exact ⟨_, _, rfl, by simp only [Tr.get_set, zEq, reduceIte]⟩
              | true =>
                have hrd := hrc C' (hCs C' (hsp2 rfl)) hsp3 (by omega)
                simp only [σL, lat6C, parV, parC, elC] at hby hrp ht1 cp ⊢
                simp only [bodyOf, Tryz.f7, Option.getD_some, initT, dx, reduceIte, zLt, zLe, zEq, zAd, zMu, zSu, zBe, yEq, yLt, yLe, yTn, reduceCtorEq, sx, fx7, ht1, bytesV_length, g120, awake_call, cp, cc, wa, h03, h13, h23, hby, q00, gB, hps, hrp, q44, y1, y2, y5, hcb, q00, gC, hsp, hrd, q44]
                exact ⟨_, _, rfl, by simp only [Tr.get_set, zEq, reduceIte]⟩
      · have g120 : ((d.length : Nat) : Int) > 120 := by omega
        simp only [parV, parC] at ht1 ⊢
        simp only [bodyOf, Tryz.f7, Option.getD_some, initT, dx, reduceIte, zLt, zLe, zEq, zAd, zMu, zSu, zBe, yEq, yLt, yLe, yTn, reduceCtorEq, sx, fx7, ht1, bytesV_length, g120, awake_call]
        exact ⟨_, _, rfl, by simp only [Tr.get_set, zEq, reduceIte]⟩
  obtain ⟨T1, σ1, h1, h2⟩ := run
  exact ⟨σ1, q_call (first := []) (caps := []) fn7 rfl (by simp [Tryz.f7]) h1 (by simp) (res_one h2)⟩
end Go.Proofs.YtjckhhkhgjbpaaaGreatDoor

/- The arguments of PackSpoilt. -/
set_option linter.unusedVariables false
namespace Go.Proofs.YtjckhhkhgjbpaaaGreatDoor
open Go Go.Proofs.YtjckhhkhgjbpaaaGreatDoor.Pale
variable {P : Program} {tE tk ti tkl tdl tP tw tls tsp tS tC tb tu tA t16 : Nat}

theorem cells_el (hE : rkOf P tE = .agg [(tk, 0), (ti, 1), (tkl, 2), (tdl, 3)]) (cE : P.cellsOf tE = 4) (ck : P.cellsOf tk = 1) (ci : P.cellsOf ti = 1) (ckl : P.cellsOf tkl = 1) (cdl : P.cellsOf tdl = 1) (hk : rkOf P tk = .int .u8) (hi : rkOf P ti = .int .i64) (hkl : rkOf P tkl = .slice ti) (hdl : rkOf P tdl = .slice tE) : ∀ (N n : Nat) (cs : List AVal), n ≤ N → CellsFit P n tE cs → ∃ e : El, cs = elC e ∧ Fit maxLen n e := by
  intro N
  induction N with
  | zero =>
    intro n cs hn h
    obtain rfl : n = 0 := by omega
    exact absurd h (by simp [CellsFit])
  | succ N ih =>
    intro n cs hn h
    cases n with
    | zero => exact absurd h (by simp [CellsFit])
    | succ n =>
      unfold CellsFit at h
      rw [hE] at h
      obtain ⟨hlen, hall⟩ := h
      rw [cE] at hlen
      obtain ⟨a, b, c, d, rfl⟩ : ∃ a b c d, cs = [a, b, c, d] := by
        match cs, hlen with
        | [a, b, c, d], _ => exact ⟨a, b, c, d, rfl⟩
      have h0 := hall (tk, 0) (by simp)
      have h1 := hall (ti, 1) (by simp)
      have h2 := hall (tkl, 2) (by simp)
      have h3 := hall (tdl, 3) (by simp)
      simp only [ck, ci, ckl, cdl, List.drop_zero, List.drop_succ_cons, List.take_succ_cons, List.take_zero] at h0 h1 h2 h3
      obtain ⟨z, e0, _⟩ := fit_int hk h0
      obtain ⟨y, e1, _⟩ := fit_int hi h1
      obtain ⟨m, vk, es, e2, _, _, hl2, g⟩ := fit_slice hkl h2
      simp only [List.cons.injEq, and_true] at e0 e1 e2
      subst e0; subst e1; subst e2
      obtain ⟨keys, rfl, _⟩ := list_form (f := fun (z : Int) => AVal.int .i64 z) (Q := fun _ => True) es (fun x hx => by
        obtain ⟨z, rfl, _⟩ := elem_int hi (g x hx)
        exact ⟨z, rfl, trivial⟩)
      cases n with
      | zero => exact absurd h3 (by simp [CellsFit])
      | succ n =>
        unfold CellsFit at h3
        rw [hdl] at h3
        obtain ⟨dk, ks, e3, _, _, hl3, g3⟩ := h3
        simp only [List.cons.injEq, and_true] at e3
        subst e3
        obtain ⟨kids, rfl, hq⟩ := list_form (f := elV) (Q := fun e => Fit maxLen n e) ks (fun x hx => by
          have hx2 := g3 x hx
          rw [hE] at hx2
          obtain ⟨c, rfl, hc⟩ := hx2
          obtain ⟨e, rfl, hf⟩ := ih n c (by omega) hc
          exact ⟨e, (elV_eq e).symm, hf⟩)
        refine ⟨.mk z y vk keys dk kids, rfl, ?_, ?_, ?_⟩
        · show keys.length ≤ maxLen; simpa using hl2
        · show kids.length ≤ maxLen; simpa using hl3
        · intro x hx
          exact Fit.mono (Nat.le_refl _) (hq x hx) (by omega)
theorem fit_spans {n : Nat} {cs : List AVal} (hsp : rkOf P tsp = .slice tS) (hS : rkOf P tS = .agg [(ti, 0), (ti, 1)]) (cS : P.cellsOf tS = 2) (ci : P.cellsOf ti = 1) (hi : rkOf P ti = .int .i64) (h : CellsFit P n tsp cs) : ∃ vk l, cs = [.vs vk (spansV l)] := by
  obtain ⟨m, vk, es, rfl, _, _, _, g⟩ := fit_slice hsp h
  obtain ⟨l, rfl, _⟩ := list_form (f := spanV) (Q := fun _ => True) es (fun y hy => by
    obtain ⟨c, m, rfl, hlen, hall⟩ := elem_agg hS (g y hy)
    rw [cS] at hlen
    obtain ⟨a, b, rfl⟩ : ∃ a b, c = [a, b] := by
      match c, hlen with
      | [a, b], _ => exact ⟨a, b, rfl⟩
    have h0 := hall (ti, 0) (by simp)
    have h1 := hall (ti, 1) (by simp)
    simp only [ci, List.drop_zero, List.drop_succ_cons, List.take_succ_cons, List.take_zero] at h0 h1
    obtain ⟨z, e0, _⟩ := fit_int hi h0
    obtain ⟨w, e1, _⟩ := fit_int hi h1
    simp only [List.cons.injEq, and_true] at e0 e1
    subst e0; subst e1
    exact ⟨(z, w), rfl, trivial⟩)
  exact ⟨vk, l, rfl⟩
theorem elem_parcel {n : Nat} {x : AVal} (hP : rkOf P tP = .agg [(ti, 0), (ti, 1), (tw, 2), (tE, 3), (tls, 7), (tsp, 8)]) (cP : P.cellsOf tP = 9) (cw : P.cellsOf tw = 1) (cls : P.cellsOf tls = 1) (csp : P.cellsOf tsp = 1) (hw : rkOf P tw = .bool) (hls : rkOf P tls = .slice tsp)
    (hsp : rkOf P tsp = .slice tS) (hS : rkOf P tS = .agg [(ti, 0), (ti, 1)]) (cS : P.cellsOf tS = 2)
    (hE : rkOf P tE = .agg [(tk, 0), (ti, 1), (tkl, 2), (tdl, 3)]) (cE : P.cellsOf tE = 4) (ck : P.cellsOf tk = 1) (ci : P.cellsOf ti = 1) (ckl : P.cellsOf tkl = 1) (cdl : P.cellsOf tdl = 1) (hk : rkOf P tk = .int .u8) (hi : rkOf P ti = .int .i64) (hkl : rkOf P tkl = .slice ti) (hdl : rkOf P tdl = .slice tE) (h : ElemFit P n tP x) : ∃ (p : Pcl) (m : Nat), x = parV p ∧ Fit maxLen m p.e := by
  obtain ⟨c, m, rfl, hlen, hall⟩ := elem_agg hP h
  rw [cP] at hlen
  obtain ⟨a0, a1, a2, a3, a4, a5, a6, a7, a8, rfl⟩ : ∃ a0 a1 a2 a3 a4 a5 a6 a7 a8, c = [a0, a1, a2, a3, a4, a5, a6, a7, a8] := by
    match c, hlen with
    | [a0, a1, a2, a3, a4, a5, a6, a7, a8], _ => exact ⟨a0, a1, a2, a3, a4, a5, a6, a7, a8, rfl⟩
  have h0 := hall (ti, 0) (by simp)
  have h1 := hall (ti, 1) (by simp)
  have h2 := hall (tw, 2) (by simp)
  have h3 := hall (tE, 3) (by simp)
  have h7 := hall (tls, 7) (by simp)
  have h8 := hall (tsp, 8) (by simp)
  simp only [ci, cw, cE, cls, csp, List.drop_zero, List.drop_succ_cons, List.take_succ_cons, List.take_zero] at h0 h1 h2 h3 h7 h8
  obtain ⟨z0, e0, _⟩ := fit_int hi h0
  obtain ⟨z1, e1, _⟩ := fit_int hi h1
  obtain ⟨z2, e2⟩ := fit_bool hw h2
  obtain ⟨e, e3, hf⟩ := cells_el hE cE ck ci ckl cdl hk hi hkl hdl m m _ (Nat.le_refl _) h3
  obtain ⟨m7, vk, es, e7, _, _, _, g7⟩ := fit_slice hls h7
  obtain ⟨tvk, told, e8⟩ := fit_spans hsp hS cS ci hi h8
  obtain ⟨has, rfl, _⟩ := list_form (f := splV) (Q := fun _ => True) es (fun y hy => by
    have hy2 := g7 y hy
    unfold ElemFit at hy2
    rw [hsp] at hy2
    obtain ⟨vk, l, e⟩ := fit_spans hsp hS cS ci hi hy2
    simp only [List.cons.injEq, and_true] at e
    subst e
    exact ⟨(vk, l), rfl, trivial⟩)
  simp only [elC, List.cons.injEq, and_true] at e0 e1 e2 e3 e7 e8
  obtain ⟨r3, r4, r5, r6⟩ := e3
  subst e0; subst e1; subst e2; subst r3; subst r4; subst r5; subst r6; subst e7; subst e8
  exact ⟨⟨z0, z1, z2, e, vk, has, tvk, told⟩, m, rfl, hf⟩
theorem elem_chunkU {n : Nat} {x : AVal} (hC : rkOf P tC = .agg [(ti, 0), (ti, 1), (ti, 2), (tb, 3)]) (cC : P.cellsOf tC = 4) (ci : P.cellsOf ti = 1) (cb : P.cellsOf tb = 1) (hi : rkOf P ti = .int .i64) (hb : rkOf P tb = .slice tu) (hu : rkOf P tu = .int .u8) (h : ElemFit P n tC x) : ∃ name i of vk d, x = .agg [.int .i64 name, .int .i64 i, .int .i64 of, .vs vk (bytesV d)] ∧ ∀ b, b ∈ d → b < 256 := by
  obtain ⟨c, m, rfl, hlen, hall⟩ := elem_agg hC h
  rw [cC] at hlen
  obtain ⟨a, b, c, d, rfl⟩ : ∃ a b c' d, c = [a, b, c', d] := by
    match c, hlen with
    | [a, b, c, d], _ => exact ⟨a, b, c, d, rfl⟩
  have h0 := hall (ti, 0) (by simp)
  have h1 := hall (ti, 1) (by simp)
  have h2 := hall (ti, 2) (by simp)
  have h3 := hall (tb, 3) (by simp)
  simp only [ci, cb, List.drop_zero, List.drop_succ_cons, List.take_succ_cons, List.take_zero] at h0 h1 h2 h3
  obtain ⟨z0, e0, _⟩ := fit_int hi h0
  obtain ⟨z1, e1, _⟩ := fit_int hi h1
  obtain ⟨z2, e2, _⟩ := fit_int hi h2
  obtain ⟨m3, vk, es, e3, _, _, _, g3⟩ := fit_slice hb h3
  simp only [List.cons.injEq, and_true] at e0 e1 e2 e3
  subst e0; subst e1; subst e2; subst e3
  obtain ⟨bs, rfl, hbs⟩ := list_form (f := fun (b : Nat) => AVal.int .u8 b) (Q := fun b => b < 256) es (fun u hu' => by
    obtain ⟨z, rfl, hz⟩ := elem_int hu (g3 u hu')
    have := u8_range hz
    exact ⟨z.toNat, by simp only [AVal.int.injEq, true_and]; omega, by omega⟩)
  exact ⟨z0, z1, z2, vk, bs, rfl, hbs⟩
theorem u16_range {z : Int} (h : (Lit.int .u16 z).wf = true) : 0 ≤ z ∧ z ≤ 65535 := by
  simp only [Lit.wf, Bool.and_eq_true, decide_eq_true_eq] at h
  have e1 : IntKind.u16.min = 0 := by rfl
  have e2 : IntKind.u16.max = 65535 := by rfl
  rw [e1, e2] at h
  exact h
theorem elem_arr {n : Nat} {x : AVal} (hA : rkOf P tA = .agg [(t16, 0), (t16, 1), (t16, 2)]) (cA : P.cellsOf tA = 3) (c16 : P.cellsOf t16 = 1) (h16 : rkOf P t16 = .int .u16) (h : ElemFit P n tA x) : ∃ a b c : Nat, x = .agg [.int .u16 a, .int .u16 b, .int .u16 c] ∧ a < 65536 ∧ b < 65536 ∧ c < 65536 := by
  obtain ⟨c, m, rfl, hlen, hall⟩ := elem_agg hA h
  rw [cA] at hlen
  obtain ⟨a, b, c, rfl⟩ : ∃ a b c', c = [a, b, c'] := by
    match c, hlen with
    | [a, b, c], _ => exact ⟨a, b, c, rfl⟩
  have h0 := hall (t16, 0) (by simp)
  have h1 := hall (t16, 1) (by simp)
  have h2 := hall (t16, 2) (by simp)
  simp only [c16, List.drop_zero, List.drop_succ_cons, List.take_succ_cons, List.take_zero] at h0 h1 h2
  obtain ⟨z0, e0, g0⟩ := fit_int h16 h0
  obtain ⟨z1, e1, g1⟩ := fit_int h16 h1
  obtain ⟨z2, e2, g2⟩ := fit_int h16 h2
  simp only [List.cons.injEq, and_true] at e0 e1 e2
  subst e0; subst e1; subst e2
  have r0 := u16_range g0
  have r1 := u16_range g1
  have r2 := u16_range g2
  refine ⟨z0.toNat, z1.toNat, z2.toNat, ?_, by omega, by omega, by omega⟩
  rw [show ((z0.toNat : Nat) : Int) = z0 by omega, show ((z1.toNat : Nat) : Int) = z1 by omega, show ((z2.toNat : Nat) : Int) = z2 by omega]
end Go.Proofs.YtjckhhkhgjbpaaaGreatDoor


