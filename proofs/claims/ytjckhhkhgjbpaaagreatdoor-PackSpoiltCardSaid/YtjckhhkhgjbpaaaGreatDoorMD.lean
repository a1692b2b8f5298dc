import Derived.Test.YtjckhhkhgjbpaaaGreatDoorMC
open Nat renaming reduceLT → zLt, reduceLeDiff → zLe, reduceEqDiff → zEq, reduceAdd → zAd, reduceMul → zMu, reduceSub → zSu, reduceBEq → zBe
open Int renaming reduceEq → yEq, reduceLT → yLt, reduceLE → yLe, reduceToNat → yTn
/- pack.Read: the run. -/
set_option maxRecDepth 100000
set_option linter.unusedSimpArgs false
set_option linter.unusedVariables false
namespace Go.Proofs.YtjckhhkhgjbpaaaGreatDoor
open Go Go.Proofs.YtjckhhkhgjbpaaaGreatDoor.Pale
variable {k : Nat} {σ : AMem}

theorem reads_par {d low : Nat} {σ : AMem} {h t : AVal} {p : Pcl} (hh : ReadsL (d + 1) low σ [] [h] [.vs p.hk (p.has.map splV)]) (ht : ReadsL (d + 1) low σ [] [t] [.vs p.tk (spansV p.told)]) : ∃ S, snapF false σ (d + 2) (.agg [.int .i64 p.from_, .int .i64 p.to_, .bool p.whole, .int .u8 p.e.kind, .int .i64 p.e.n, .vs p.e.kk (intsV p.e.keys), .vs p.e.dk (p.e.kids.map elV), h, t]) = some (parV p, S) := by
  have p1 : ReadsL (d + 1) low σ [] [.int .i64 p.from_, .int .i64 p.to_, .bool p.whole, .int .u8 p.e.kind, .int .i64 p.e.n, .vs p.e.kk (intsV p.e.keys), .vs p.e.dk (p.e.kids.map elV)] [.int .i64 p.from_, .int .i64 p.to_, .bool p.whole, .int .u8 p.e.kind, .int .i64 p.e.n, .vs p.e.kk (intsV p.e.keys), .vs p.e.dk (p.e.kids.map elV)] := ReadsL.pure rfl
  obtain ⟨S, h1, _⟩ := (p1.append hh).append ht
  refine ⟨S, ?_⟩
  show (snapL (snapF false σ (d + 1)) _).map (fun (l, a) => (AVal.agg l, a)) = _
  have h2 : snapL (snapF false σ (d + 1)) [.int .i64 p.from_, .int .i64 p.to_, .bool p.whole, .int .u8 p.e.kind, .int .i64 p.e.n, .vs p.e.kk (intsV p.e.keys), .vs p.e.dk (p.e.kids.map elV), h, t] = some (parC p, S) := h1
  rw [h2]; rfl
theorem sealP_len {tabs : List Tab} {d : Nat} {s : Shp} {p : Pcl} (h : parB tabs d s p = true) (hlen : (encE d p.e).length ≤ 20000) : (sealB (encP d p)).length ≤ 50000 := by
  obtain ⟨_, _, _, h8, hok, hto⟩ := parB_iff.1 h
  have h1 := hasL_len h8 hok p.has.length
  rw [List.take_length] at h1
  have h2 := encS_len hto
  have h3 := ok_short hto
  have c5 : (cntB (encE d p.e).length).length ≤ 5 := cntB_len (by omega)
  have c6 : (cntB p.has.length).length ≤ 5 := cntB_len (by omega)
  simp only [sealB, encP, encP1, List.length_append, List.length_cons, List.length_nil]
  omega
set_option maxHeartbeats 12000000 in
theorem pread_ok {lk : VK} {tabs : List Tab} {d dS k0 : Nat} {s : Shp} (hl : tabs.length ≤ 1000) (htl : ∀ n, tlOf tabs n ≤ 1000) (hcs : CS k0 lk tabs s 0) (hs : ShOk tabs dS s) (hd5 : 5 ≤ d) (hd : encL d ≤ 100000000000) (bs : List Nat) (hb : ∀ b, b ∈ bs → b < 256) (hk : 4 * d + 90000 ≤ k) (hk0 : k0 + 40 ≤ k) :
    ∃ T1 σ1 cs, execC lawProg (callN lawProg k) k 15 81 (bodyOf Tryz.f15) (initT 0 [.agg (latC lk tabs s), .vs .some (bytesV bs)] .nil) AMem.empty = some (.ret, T1, σ1) ∧ resultsA lawProg T1 σ1 Tryz.f15.results.toList = some [.agg cs, .int .i64 (prV tabs d s 0 bs).2] ∧ ∃ S, snapF false σ1 11 (.agg cs) = some (.agg (prV tabs d s 0 bs).1, S) := by
  have hbd : ∀ n b, b ∈ bs.drop n → b < 256 := fun n b h => hb b (List.mem_of_mem_drop h)
  have hc := hcs k (by omega)
  have e00 : ((0 : Int) != 0) = false := rfl
  let σ0 : AMem := ((AMem.empty.push (.row 4 true (latC lk tabs s))).push (.row 9 true parZ)).push (.row 1 true [.vs .some (bytesV bs)])
  have z0 : σ0.get 0 = some (.row 4 true (latC lk tabs s)) := by simp only [σ0, AMem.get_push, AMem.next_push, next_empty, zAd, zEq, reduceIte]
  have z1 : σ0.get 1 = some (.row 9 true parZ) := by simp only [σ0, AMem.get_push, AMem.next_push, next_empty, zAd, zEq, reduceIte]
  have z2 : σ0.get 2 = some (.row 1 true [.vs .some (bytesV bs)]) := by simp only [σ0, AMem.get_push, AMem.next_push, next_empty, zAd, zEq, reduceIte]
  obtain ⟨σ1, c1, R1⟩ := one_call (k := k) z2 hb (by omega)
  obtain ⟨σ2, c2, R2⟩ := one_call (k := k) R1.1 (hbd 1) (by omega)
  simp only [List.drop_drop, zAd] at R2
  obtain ⟨σ3, c3, R3⟩ := one_call (k := k) R2.1 (hbd 2) (by omega)
  simp only [List.drop_drop, zAd] at R3
  obtain ⟨σ4, c4, R4⟩ := one_call (k := k) R3.1 (hbd 3) (by omega)
  simp only [List.drop_drop, zAd] at R4
  have Rall := ((R1.trans R2).trans R3).trans R4
  have n4 : σ4.next = 3 := by rw [Rall.2.2]; rfl
  have y0 : σ4.get 0 = some (.row 4 true (latC lk tabs s)) := (Rall.2.1 0 (by omega)).trans z0
  have y1 : σ4.get 1 = some (.row 9 true parZ) := (Rall.2.1 1 (by omega)).trans z1
  obtain ⟨F, hF⟩ : ∃ F : Int, F = (((bs.drop 1).headD 0 : Nat) : Int) := ⟨_, rfl⟩
  obtain ⟨G, hG⟩ : ∃ G : Int, G = (((bs.drop 2).headD 0 : Nat) : Int) := ⟨_, rfl⟩
  obtain ⟨W, hW⟩ : ∃ W : Bool, W = ((((bs.drop 3).headD 0 : Nat) : Int) == 1) := ⟨_, rfl⟩
  obtain ⟨σ5, hσ5⟩ : ∃ s, s = ((σ4.push (.row 9 true parZ)).put 3 (.row 9 true [.int .i64 F, .int .i64 G, .bool W, .int .u8 0, .int .i64 0, .vs .nil [], .vs .nil [], .vs .nil [], .vs .nil []])).push (.row 4 true elZ) := ⟨_, rfl⟩
  have n5 : σ5.next = 5 := by rw [hσ5]; simp [n4]
  have x3 : σ5.get 3 = some (.row 9 true [.int .i64 F, .int .i64 G, .bool W, .int .u8 0, .int .i64 0, .vs .nil [], .vs .nil [], .vs .nil [], .vs .nil []]) := by rw [hσ5, AMem.get_push, if_neg (by simp [n4]), AMem.get_put, if_pos rfl]
  have x4 : σ5.get 4 = some (.row 4 true elZ) := by rw [hσ5, AMem.get_push, if_pos (by simp [n4])]
  have k5 : ∀ s, s < 3 → σ5.get s = σ4.get s := fun s hs => by rw [hσ5, AMem.get_push, if_neg (by simp [n4]; omega), AMem.get_put, if_neg (by omega), AMem.get_push, if_neg (by omega)]
  obtain ⟨σ6, c6, R6⟩ := rcount_call (k := k) ((k5 2 (by omega)).trans R4.1) (hbd 4) (by omega)
  obtain ⟨σ7, c7, R7⟩ := take_call (k := k) (uCnt 4 (bs.drop 4)).1 (rW bs) R6.1 rfl (by omega)
  have R67 := R6.trans R7
  have hrest : ∀ b, b ∈ rRest bs → b < 256 := fun b h => hbd 4 b (uCnt_mem _ _ _ (List.mem_of_mem_drop h))
  have hebs : ∀ b, b ∈ rEl bs → b < 256 := fun b h => hbd 4 b (uCnt_mem _ _ _ (List.mem_of_mem_take h))
  have n7 : σ7.next = 5 := by rw [R67.2.2]; exact n5
  have v0 : σ7.get 0 = some (.row 4 true (latC lk tabs s)) := (R67.2.1 0 (by omega)).trans ((k5 0 (by omega)).trans y0)
  have v05 : σ5.get 0 = some (.row 4 true (latC lk tabs s)) := ((k5 0 (by omega)).trans y0)
  have v06 : σ6.get 0 = some (.row 4 true (latC lk tabs s)) := (R6.2.1 0 (by omega)).trans ((k5 0 (by omega)).trans y0)
  have v1 : σ7.get 1 = some (.row 9 true parZ) := (R67.2.1 1 (by omega)).trans ((k5 1 (by omega)).trans y1)
  have v3 : σ7.get 3 = some (.row 9 true [.int .i64 F, .int .i64 G, .bool W, .int .u8 0, .int .i64 0, .vs .nil [], .vs .nil [], .vs .nil [], .vs .nil []]) := (R67.2.1 3 (by omega)).trans x3
  have v4 : σ7.get 4 = some (.row 4 true elZ) := (R67.2.1 4 (by omega)).trans x4
  have c8 := eread_call (k := k) hl htl hcs (fun _ => hs) hd5 hd .some (rEl bs) hebs (by omega) (by omega)
  have c7' : callN lawProg k (.func 56 [] []) [.ptr 2 0, .int .i64 ((uCnt 4 (bs.drop 4)).1 : Nat)] σ6 = some (.vs .some (bytesV (rEl bs)), σ7) := c7
  have hW' : ((((bs.drop 3).headD 0 : Nat) : Int) == 1) = W := hW.symm
  rw [← hF] at c2
  rw [← hG] at c3
  rw [hσ5] at c6
  simp only [σ0, parZ] at c1
  simp only [parZ, elZ] at c6
  rcases erV_two (tabs := tabs) (d := d) (s := s) (bs := rEl bs) with ⟨n, hn0, he⟩ | he
  · rw [he] at c8
    have hr : prV tabs d s 0 bs = (parZ, 4) := by unfold prV; rw [if_pos rfl, he, if_neg hn0]
    rw [hr]
    have hnn : (n != 0) = true := by simpa using hn0
    have run : ∃ T1 σ1, execC lawProg (callN lawProg k) k 15 81 (bodyOf Tryz.f15) (initT 0 [.agg (latC lk tabs s), .vs .some (bytesV bs)] .nil) AMem.empty = some (.ret, T1, σ1) ∧ resultsA lawProg T1 σ1 Tryz.f15.results.toList = some [.agg parZ, .int .i64 4] := by
      simp only [latC, shpC, parZ, elZ] at hc c1 c6 c8 y0 v0 v06 v1 v3 v4 ⊢
      simp only [bodyOf, Tryz.f15, Option.getD_some, initT, dx, reduceIte, zLt, zLe, zEq, zAd, zMu, zSu, zBe, yEq, yLt, yLe, yTn, reduceCtorEq, sx, fx15, hc, e00, c1, c2, c3, c4, n4, hW', c6, c7', n7, y0, v0, v06, v4, c8, hnn, v1]
      exact ⟨_, _, rfl, by simp only [Tryz.f15, resultsA, resultA, dx, reduceIte, zLt, zLe, zEq, zAd, zMu, zSu, zBe, yEq, yLt, yLe, yTn, reduceCtorEq, sx, fx15, v1]⟩
    obtain ⟨T1, σ1, h1, h2⟩ := run
    exact ⟨T1, σ1, _, h1, h2, [], rfl⟩
  · rw [he] at c8
    generalize hee : (uEl 4 (rEl bs)).1 = e at *
    obtain ⟨M, hM⟩ : ∃ m, m = min (uCnt 4 (rRest bs)).1 8 := ⟨_, rfl⟩
    obtain ⟨R, hR⟩ : ∃ m, m = (uCnt 4 (rRest bs)).2 := ⟨_, rfl⟩
    have hM8 : M ≤ 8 := by omega
    have hrh : rHas bs = uList rSpans M R := by rw [hM, hR]; rfl
    have hRb : ∀ b, b ∈ R → b < 256 := fun b h => hrest b (uCnt_mem _ _ _ (by rw [← hR]; exact h))
    have emin : (if (8 : Int) < (((uCnt 4 (rRest bs)).1 : Nat) : Int) then 8 else (((uCnt 4 (rRest bs)).1 : Nat) : Int)) = ((M : Nat) : Int) := by split <;> omega
    obtain ⟨σ8, hσ8⟩ : ∃ s, s = (σ7.put 4 (.row 4 true (elC e))).put 3 (.row 9 true [.int .i64 F, .int .i64 G, .bool W, .int .u8 e.kind, .int .i64 e.n, .vs e.kk (intsV e.keys), .vs e.dk (e.kids.map elV), .vs .nil [], .vs .nil []]) := ⟨_, rfl⟩
    have n8 : σ8.next = 5 := by rw [hσ8]; simp [n7]
    have k8 : ∀ s, s < 3 → σ8.get s = σ7.get s := fun s hs => by rw [hσ8, AMem.get_put, if_neg (by omega), AMem.get_put, if_neg (by omega)]
    have w3 : σ8.get 3 = some (.row 9 true [.int .i64 F, .int .i64 G, .bool W, .int .u8 e.kind, .int .i64 e.n, .vs e.kk (intsV e.keys), .vs e.dk (e.kids.map elV), .vs .nil [], .vs .nil []]) := by rw [hσ8, AMem.get_put, if_pos rfl]
    obtain ⟨σ9, c9, R9⟩ := rcount_call (k := k) (σ := σ8) (q := 2) (bs := rRest bs) ((k8 2 (by omega)).trans R7.1) hrest (by omega)
    rw [← hR] at R9
    have u0 := (R9.2.1 0 (by omega)).trans ((k8 0 (by omega)).trans v0)
    have u1 := (R9.2.1 1 (by omega)).trans ((k8 1 (by omega)).trans v1)
    have u3 := (R9.2.1 3 (by omega)).trans w3
    have n9 : σ9.next = 5 := by rw [R9.2.2]; exact n8
    rw [hσ8] at c9
    have m4 : ∀ x, σ7.get 4 = some (.row 4 true elZ) → (σ7.put 4 x).get 4 = some x := fun x _ => by rw [AMem.get_put, if_pos rfl]
    have run : ∃ T1 σ1 cs, execC lawProg (callN lawProg k) k 15 81 (bodyOf Tryz.f15) (initT 0 [.agg (latC lk tabs s), .vs .some (bytesV bs)] .nil) AMem.empty = some (.ret, T1, σ1) ∧ resultsA lawProg T1 σ1 Tryz.f15.results.toList = some [.agg cs, .int .i64 (prV tabs d s 0 bs).2] ∧ ∃ S, snapF false σ1 11 (.agg cs) = some (.agg (prV tabs d s 0 bs).1, S) := by
      simp only [latC, shpC, parZ, elZ, elC] at hc c1 c6 c8 c9 y0 v0 v06 v1 v3 v4 u0 u1 u3 ⊢
      simp only [bodyOf, Tryz.f15, Option.getD_some, initT, dx, reduceIte, zLt, zLe, zEq, zAd, zMu, zSu, zBe, yEq, yLt, yLe, yTn, reduceCtorEq, sx, fx15, hc, e00, c1, c2, c3, c4, n4, hW', c6, c7', n7, y0, v0, v06, v4, v3, c8, c9, emin]
      generalize hL : execC _ _ _ _ _ (Code.loop _) _ _ = x
      obtain ⟨ex, T', σ', rfl, _, rfl, t1, t2, t4, t7, t8, g0, g1, g2, hx, g3, hh, h0, hnx⟩ : ∃ ex T' σ', x = some (ex, T', σ') ∧ ex ≠ .normal ∧ (ex = .exit 0 ∧ T'.get 1 = some (.vs .some (bytesV bs)) ∧ T'.get 2 = some (.ptr 0 0) ∧ T'.get 4 = some (.ptr 1 0) ∧ T'.get 7 = some (.ptr 2 0) ∧ T'.get 8 = some (.ptr 3 0) ∧ σ'.get 0 = some (.row 4 true (latC lk tabs s)) ∧ σ'.get 1 = some (.row 9 true parZ) ∧ σ'.get 2 = some (.row 1 true [.vs .some (bytesV (uList rSpans M R).2)]) ∧ ∃ hx, σ'.get 3 = some (.row 9 true [.int .i64 F, .int .i64 G, .bool W, .int .u8 e.kind, .int .i64 e.n, .vs e.kk (intsV e.keys), .vs e.dk (e.kids.map elV), hx, .vs .nil []]) ∧ HD σ' hx (uList rSpans M R).1 ∧ (M = 0 → hx = .vs .nil []) ∧ 5 ≤ σ'.next) := by
        rw [← hL]
        refine exec_loop (fun i T σ' => i ≤ M ∧ T.get 1 = some (.vs .some (bytesV bs)) ∧ T.get 2 = some (.ptr 0 0) ∧ T.get 4 = some (.ptr 1 0) ∧ T.get 7 = some (.ptr 2 0) ∧ T.get 8 = some (.ptr 3 0) ∧ T.get 51 = some (.int .i64 M) ∧ T.get 52 = some (.int .i64 i) ∧ σ'.get 0 = some (.row 4 true (latC lk tabs s)) ∧ σ'.get 1 = some (.row 9 true parZ) ∧ σ'.get 2 = some (.row 1 true [.vs .some (bytesV (uList rSpans i R).2)]) ∧ ∃ hx, σ'.get 3 = some (.row 9 true [.int .i64 F, .int .i64 G, .bool W, .int .u8 e.kind, .int .i64 e.n, .vs e.kk (intsV e.keys), .vs e.dk (e.kids.map elV), hx, .vs .nil []]) ∧ HD σ' hx (uList rSpans i R).1 ∧ (i = 0 → hx = .vs .nil []) ∧ 5 ≤ σ'.next) M (by omega) ?_ ?_ ?_
        · rintro i hi T σ' ⟨_, t1, t2, t4, t7, t8, t51, t52, g0, g1, g2, hx, g3, hh, h0, hnx⟩
          have hlt : ((i : Nat) : Int) < ((M : Nat) : Int) := by omega
          have hwi := i64_succ (i := i) (by omega)
          have hli : (uList rSpans i R).1.length = i := uList_len _ _ _
          obtain ⟨out, σa, a1, a2, a3, a4, a5, a6, a7⟩ := rspans_call (k := k) g2 (by omega) (fun b h => hRb b (uList_mem rSpans_mem _ _ _ h)) (by omega)
          have ha := hh.same a6 fun s h1 h2 => a7 s h2 (by omega)
          obtain ⟨σb, b1, b2, b3, b4⟩ := ha.add (lo := σ'.next) (by omega) hnx (fun r hr => (hh.choose_spec.1.rows r hr).2.1) (by omega) a2 a3 a4
          rw [hli] at b1 b2
          have ho := hh.one
          have vo := cells_one a2
          have gb3 := (b4 3 (by omega)).trans ((a7 3 (by omega) (by omega)).trans g3)
          have gx3 := (a7 3 (by omega) (by omega)).trans g3
          simp only [tySL] at b1
          have hsn : uList rSpans (i + 1) R = ((uList rSpans i R).1 ++ [(rSpans (uList rSpans i R).2).1], (rSpans (uList rSpans i R).2).2) := uList_snoc _ _ _
          refine ⟨_, _, by
            simp only [dx, reduceIte, zLt, zLe, zEq, zAd, zMu, zSu, zBe, yEq, yLt, yLe, yTn, reduceCtorEq, sx, fx15, t1, t2, t4, t7, t8, t51, t52, hlt, g3, gx3, ho, vo, a1, a2, b1, gb3, hwi]
            rfl, hi, ?_, ?_, ?_, ?_, ?_, ?_, ?_, ?_, ?_, ?_, .slice (σa.next + 1) 0 (i + 1) none 1, ?_, ?_, ?_, ?_⟩
          · simp only [Tr.get_set, zEq, reduceIte, t1]
          · simp only [Tr.get_set, zEq, reduceIte, t2]
          · simp only [Tr.get_set, zEq, reduceIte, t4]
          · simp only [Tr.get_set, zEq, reduceIte, t7]
          · simp only [Tr.get_set, zEq, reduceIte, t8]
          · simp only [Tr.get_set, zEq, reduceIte, t51]
          · simp only [Tr.get_set, zEq, reduceIte]
          · rw [AMem.get_put, if_neg (by omega), b4 0 (by omega), a7 0 (by omega) (by omega)]; exact g0
          · rw [AMem.get_put, if_neg (by omega), b4 1 (by omega), a7 1 (by omega) (by omega)]; exact g1
          · rw [AMem.get_put, if_neg (by omega), b4 2 (by omega), hsn]; exact a5
          · rw [AMem.get_put, if_pos rfl]
          · rw [hsn]
            exact b2.same (by simp) fun s h1 _ => by rw [AMem.get_put, if_neg (by omega)]
          · intro h; omega
          · simp only [AMem.next_put]; omega
        · rintro T σ' ⟨_, t1, t2, t4, t7, t8, t51, t52, g0, g1, g2, hx, g3, hh, h0, hnx⟩
          refine ⟨_, _, _, by
            simp only [dx, reduceIte, zLt, zLe, zEq, zAd, zMu, zSu, zBe, yEq, yLt, yLe, yTn, reduceCtorEq, sx, fx15, t51, t52, Int.lt_irrefl]
            rfl, by simp, rfl, ?_, ?_, ?_, ?_, ?_, g0, g1, g2, hx, g3, hh, h0, hnx⟩
          · simp only [Tr.get_set, zEq, reduceIte, t1]
          · simp only [Tr.get_set, zEq, reduceIte, t2]
          · simp only [Tr.get_set, zEq, reduceIte, t4]
          · simp only [Tr.get_set, zEq, reduceIte, t7]
          · simp only [Tr.get_set, zEq, reduceIte, t8]
        · refine ⟨Nat.zero_le _, ?_, ?_, ?_, ?_, ?_, ?_, ?_, u0, u1, R9.1, .vs .nil [], u3, HD.start _, fun _ => rfl, by omega⟩
          all_goals simp only [Tr.get_set, zEq, reduceIte]
          all_goals rfl
      obtain ⟨tx, σt, d1, d2, d3, d4, d5, d6, d7⟩ := rspans_call (k := k) g2 (by omega) (fun b h => hRb b (uList_mem rSpans_mem _ _ _ h)) (by omega)
      have hto : rTold bs = (rSpans (uList rSpans M R).2).1 := by rw [← hrh]; rfl
      rw [← hto] at d3 d4
      have hP : rPcl bs = ⟨F, G, W, e, lkOf M, (uList rSpans M R).1.map splOf, lkOf (rTold bs).length, rTold bs⟩ := by unfold rPcl; rw [hee, hrh, uList_len, hF, hG, hW]
      have gt0 := (d7 0 (by omega) (by omega)).trans g0
      have gt1 := (d7 1 (by omega) (by omega)).trans g1
      have gt3 := (d7 3 (by omega) (by omega)).trans g3
      have ho := hh.one
      have vo := cells_one d2
      have hpar : ∀ σx : AMem, (∀ s, 5 ≤ s → s < σt.next → σx.get s = σt.get s) → σt.next ≤ σx.next → ∃ S, snapF false σx 11 (.agg [.int .i64 F, .int .i64 G, .bool W, .int .u8 e.kind, .int .i64 e.n, .vs e.kk (intsV e.keys), .vs e.dk (e.kids.map elV), hx, tx]) = some (parV (rPcl bs), S) := fun σx hs1 hn1 => by
        have h1 := ((hh.same d6 fun s h1 h2 => d7 s h2 (by omega)).same hn1 fun s h1 h2 => hs1 s h1 h2).reads (by rw [uList_len]; exact h0)
        rw [uList_len] at h1
        have h2 := (spans_reads (d := 8) d3 d4 rfl).same (low' := 5) hnx hn1 (fun s a b _ => hs1 s (by omega) b) (fun _ _ _ h => h)
        rw [hP]
        exact reads_par (d := 9) (p := ⟨F, G, W, e, lkOf M, (uList rSpans M R).1.map splOf, lkOf (rTold bs).length, rTold bs⟩) (ReadsL.up h1) h2
      obtain ⟨σf, hσf⟩ : ∃ s, s = σt.put 3 (.row 9 true [.int .i64 F, .int .i64 G, .bool W, .int .u8 e.kind, .int .i64 e.n, .vs e.kk (intsV e.keys), .vs e.dk (e.kids.map elV), hx, tx]) := ⟨_, rfl⟩
      have nf : σf.next = σt.next := by rw [hσf]; simp
      have kf : ∀ s, s ≠ 3 → σf.get s = σt.get s := fun s hs => by rw [hσf, AMem.get_put, if_neg (Ne.symm hs)]
      obtain ⟨S, hS⟩ := hpar σf (fun s h1 h2 => kf s (by omega)) (by omega)
      have hby : pureCall lawProg (callN lawProg k) (.func 11 [] []) [.agg (latC lk tabs s), .agg [.int .i64 F, .int .i64 G, .bool W, .int .u8 e.kind, .int .i64 e.n, .vs e.kk (intsV e.keys), .vs e.dk (e.kids.map elV), hx, tx]] σf = some (.tuple [(pbV tabs d s 0 (rPcl bs)).1, .int .i64 (pbV tabs d s 0 (rPcl bs)).2], σf) := by
        have hsl : snapL (snapF false σf snapDepth) [.agg (latC lk tabs s), .agg [.int .i64 F, .int .i64 G, .bool W, .int .u8 e.kind, .int .i64 e.n, .vs e.kk (intsV e.keys), .vs e.dk (e.kids.map elV), hx, tx]] = some ([.agg (latC lk tabs s), parV (rPcl bs)], [] ++ (S ++ [])) := by
          have h1 : snapF false σf snapDepth (.agg (latC lk tabs s)) = some (.agg (latC lk tabs s), []) := rfl
          have h2 := snapF_up' _ _ _ _ hS
          have h2' : snapF false σf snapDepth (.agg [.int .i64 F, .int .i64 G, .bool W, .int .u8 e.kind, .int .i64 e.n, .vs e.kk (intsV e.keys), .vs e.dk (e.kids.map elV), hx, tx]) = some (parV (rPcl bs), S) := h2
          simp only [snapL, h1, h2']
        obtain ⟨k', rfl⟩ : ∃ m, k = m + 1 := ⟨k - 1, by omega⟩
        exact pureCall_of hsl (memo11 _) (pBytes_run hl htl hcs (fun _ => hs) (rPcl bs) (rPcl_fit d hd5 bs) hd (by omega) (by omega))
      rw [hσf] at hby
      rcases pbV_two (tabs := tabs) (d := d) (s := s) (p := rPcl bs) with ⟨n, hn0, hpv⟩ | ⟨hpv, hpb, hpl⟩
      · rw [hpv] at hby
        have hr : prV tabs d s 0 bs = (parZ, 4) := by unfold prV; rw [if_pos rfl, he, if_pos rfl, hpv, if_neg (fun h => hn0 h.1)]
        rw [hr]
        have hnn : (n != 0) = true := by simpa using hn0
        simp only [latC, shpC, parZ] at hby gt0 gt1 gt3 ⊢
        simp only [dx, reduceIte, zLt, zLe, zEq, zAd, zMu, zSu, zBe, yEq, yLt, yLe, yTn, reduceCtorEq, sx, fx15, t1, t2, t4, t7, t8, d1, d2, vo, ho, gt3, gt0, hby, hnn, gt1]
        refine ⟨_, _, [.int .i64 0, .int .i64 0, .bool false, .int .u8 0, .int .i64 0, .vs .nil [], .vs .nil [], .vs .nil [], .vs .nil []], rfl, ?_, [], rfl⟩
        simp only [Tryz.f15, resultsA, resultA, dx, reduceIte, zLt, zLe, zEq, zAd, zMu, zSu, zBe, yEq, yLt, yLe, yTn, reduceCtorEq, sx, fx15, gt1, t4]
      · rw [hpv] at hby
        have hfit := rPcl_fit d hd5 bs
        have hsl : (sealB (encP d (rPcl bs))).length ≤ 50000 := sealP_len hpb hpl
        have hq := fun σ => equal_call (k := k) (σ := σ) .some .some (sealB (encP d (rPcl bs))) bs hsl (by omega)
        by_cases hne : sealB (encP d (rPcl bs)) = bs
        · have hr : prV tabs d s 0 bs = (parC (rPcl bs), 0) := by unfold prV; rw [if_pos rfl, he, if_pos rfl, hpv, if_pos ⟨rfl, hne⟩]
          rw [hr]
          rw [decide_eq_true hne] at hq
          obtain ⟨S2, hS2⟩ := hpar ((σt.put 3 (.row 9 true [.int .i64 F, .int .i64 G, .bool W, .int .u8 e.kind, .int .i64 e.n, .vs e.kk (intsV e.keys), .vs e.dk (e.kids.map elV), hx, tx])).put 1 (.row 9 true [.int .i64 F, .int .i64 G, .bool W, .int .u8 e.kind, .int .i64 e.n, .vs e.kk (intsV e.keys), .vs e.dk (e.kids.map elV), hx, tx])) (fun s h1 h2 => by rw [AMem.get_put, if_neg (by omega), AMem.get_put, if_neg (by omega)]) (by simp)
          simp only [latC, shpC, parZ] at hby gt0 gt1 gt3 ⊢
          simp only [dx, reduceIte, zLt, zLe, zEq, zAd, zMu, zSu, zBe, yEq, yLt, yLe, yTn, reduceCtorEq, sx, fx15, t1, t2, t4, t7, t8, d1, d2, vo, ho, gt3, gt0, hby, e00, hq, gt1]
          refine ⟨_, _, _, rfl, ?_, S2, hS2⟩
          simp only [Tryz.f15, resultsA, resultA, dx, reduceIte, zLt, zLe, zEq, zAd, zMu, zSu, zBe, yEq, yLt, yLe, yTn, reduceCtorEq, sx, fx15, t4]
        · have hr : prV tabs d s 0 bs = (parZ, 4) := by unfold prV; rw [if_pos rfl, he, if_pos rfl, hpv, if_neg (fun h => hne h.2)]
          rw [hr]
          rw [decide_eq_false hne] at hq
          simp only [latC, shpC, parZ] at hby gt0 gt1 gt3 ⊢
          simp only [dx, reduceIte, zLt, zLe, zEq, zAd, zMu, zSu, zBe, yEq, yLt, yLe, yTn, reduceCtorEq, sx, fx15, t1, t2, t4, t7, t8, d1, d2, vo, ho, gt3, gt0, hby, e00, hq, gt1]
          refine ⟨_, _, [.int .i64 0, .int .i64 0, .bool false, .int .u8 0, .int .i64 0, .vs .nil [], .vs .nil [], .vs .nil [], .vs .nil []], rfl, ?_, [], rfl⟩
          simp only [Tryz.f15, resultsA, resultA, dx, reduceIte, zLt, zLe, zEq, zAd, zMu, zSu, zBe, yEq, yLt, yLe, yTn, reduceCtorEq, sx, fx15, gt1, t4]
    exact run
end Go.Proofs.YtjckhhkhgjbpaaaGreatDoor

/- pack.Read as a call. -/
set_option maxRecDepth 100000
set_option linter.unusedSimpArgs false
set_option linter.unusedVariables false
namespace Go.Proofs.YtjckhhkhgjbpaaaGreatDoor
open Go Go.Proofs.YtjckhhkhgjbpaaaGreatDoor.Pale
variable {k : Nat} {σ : AMem}

theorem pread_call {lk : VK} {tabs : List Tab} {d dS k0 : Nat} {s : Shp} {E : Int} (hl : tabs.length ≤ 1000) (htl : ∀ n, tlOf tabs n ≤ 1000) (hcs : CS k0 lk tabs s E) (hs : E = 0 → ShOk tabs dS s) (hd5 : 5 ≤ d) (hd : encL d ≤ 100000000000) (bs : List Nat) (hb : ∀ b, b ∈ bs → b < 256) (hk : 4 * d + 90001 ≤ k) (hk0 : k0 + 41 ≤ k) :
    ∃ b, pureRun (callN lawProg k) (.func 15 [] []) [.agg (latC lk tabs s), .vs .some (bytesV bs)] = some (.tuple [.agg (prV tabs d s E bs).1, .int .i64 (prV tabs d s E bs).2], b) := by
  obtain ⟨k, rfl⟩ : ∃ m, k = m + 1 := ⟨k - 1, by omega⟩
  have heq : ∀ (a b : Int), (a != b) = !decide (a = b) := fun a b => by rw [Bool.eq_iff_iff]; simp
  have fin : ∀ {T1 : Tr AVal} {σ1 : AMem} {cs c : List AVal} {n : Int} {S : List Nat}, execC lawProg (callN lawProg k) k 15 81 (bodyOf Tryz.f15) (initT 0 [.agg (latC lk tabs s), .vs .some (bytesV bs)] .nil) AMem.empty = some (.ret, T1, σ1) → resultsA lawProg T1 σ1 Tryz.f15.results.toList = some [.agg cs, .int .i64 n] → snapF false σ1 11 (.agg cs) = some (.agg c, S) → ∃ b, pureRun (callN lawProg (k + 1)) (.func 15 [] []) [.agg (latC lk tabs s), .vs .some (bytesV bs)] = some (.tuple [.agg c, .int .i64 n], b) := by
    intro T1 σ1 cs c n S h1 h2 h3
    have hsn : snapF false σ1 snapDepth (packA [.agg cs, .int .i64 n]) = some (.tuple [.agg c, .int .i64 n], S ++ ([] ++ [])) := by
      have hi : snapF false σ1 11 (.int .i64 n) = some (.int .i64 n, []) := rfl
      show (snapL (snapF false σ1 11) [.agg cs, .int .i64 n]).map (fun (l, a) => (AVal.tuple l, a)) = _
      simp only [snapL, h3, hi, Option.map_some]
    exact pureRun_any fn15 rfl (by simp [Tryz.f15]) h1 (by simp) h2 hsn
  by_cases hE : E = 0
  · subst hE
    obtain ⟨T1, σ1, cs, h1, h2, S, h3⟩ := pread_ok (k := k) hl htl hcs (hs rfl) hd5 hd bs hb (by omega) (by omega)
    exact fin h1 h2 h3
  · have hc := hcs k (by omega)
    have e0 : (E != 0) = true := by rw [heq, decide_eq_false hE]; rfl
    have hr : prV tabs d s E bs = (parZ, E) := by unfold prV; rw [if_neg hE]
    rw [hr]
    have run : ∃ T1 σ1, execC lawProg (callN lawProg k) k 15 81 (bodyOf Tryz.f15) (initT 0 [.agg (latC lk tabs s), .vs .some (bytesV bs)] .nil) AMem.empty = some (.ret, T1, σ1) ∧ resultsA lawProg T1 σ1 Tryz.f15.results.toList = some [.agg parZ, .int .i64 E] := by
      simp only [latC, shpC, parZ] at hc ⊢
      simp only [bodyOf, Tryz.f15, Option.getD_some, initT, dx, reduceIte, zLt, zLe, zEq, zAd, zMu, zSu, zBe, yEq, yLt, yLe, yTn, reduceCtorEq, sx, fx15, hc, e0]
      refine ⟨_, _, rfl, ?_⟩
      simp only [Tryz.f15, resultsA, resultA, dx, reduceIte, zLt, zLe, zEq, zAd, zMu, zSu, zBe, yEq, yLt, yLe, yTn, reduceCtorEq, sx, fx15]
    obtain ⟨T1, σ1, h1, h2⟩ := run
    exact fin h1 h2 (S := []) rfl
end Go.Proofs.YtjckhhkhgjbpaaaGreatDoor


