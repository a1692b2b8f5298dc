import Derived.Test.YtkamjhhodnmoiaaGreatDoorA1
/- pack.Split: what it gives on every message. -/
set_option maxRecDepth 100000
set_option linter.unusedSimpArgs false
set_option linter.unusedVariables false
namespace Go.Proofs.YtkamjhhodnmoiaaGreatDoor
open Go Go.Proofs.YtkamjhhodnmoiaaGreatDoor.Pale
variable {k : Nat} {σ : AMem}

/-! ### the pieces of a message -/
def manyOf (n s : Nat) : Nat := (n + s - 1) / s
def partOf (bs : List Nat) (s i : Nat) : List Nat := (bs.drop (i * s)).take s
def chunkC (name : Int) (of i : Nat) (d : List Nat) : List AVal := [.int .i64 name, .int .i64 i, .int .i64 of, .vs .some (bytesV d)]
/-- The cells of the first j chunks; of some the field Of is known. -/
def chunksC (name : Int) (of : Nat → Nat) (bs : List Nat) (s : Nat) : Nat → List AVal
  | 0 => []
  | j + 1 => chunksC name of bs s j ++ chunkC name (of j) j (partOf bs s j)
theorem chunksC_length (name : Int) (of : Nat → Nat) (bs : List Nat) (s j : Nat) : (chunksC name of bs s j).length = j * 4 := by
  induction j with
  | zero => rfl
  | succ j ih => simp [chunksC, ih, chunkC]; omega
theorem many_lt {n s j : Nat} (hs : 1 ≤ s) : j < manyOf n s ↔ j * s < n := by
  unfold manyOf
  rw [Nat.lt_div_iff_mul_lt (by omega)]
  omega
theorem part_length {bs : List Nat} {s j : Nat} (h : j * s < bs.length) : (partOf bs s j).length = min s (bs.length - j * s) := by simp [partOf]
theorem part_pos {bs : List Nat} {s j : Nat} (hs : 1 ≤ s) (h : j * s < bs.length) : 0 < (partOf bs s j).length := by rw [part_length h]; omega

/-! ### slices.Chunk -/
theorem chunk_call (v : AVal) (size : Int) (h1 : 1 ≤ size) (hk : 1 ≤ k) : callN lawProg k (.func 59 [] []) [v, .int .i64 size] σ =
    some (.func 91 [] [.ptr σ.next 0, .ptr (σ.next + 1) 0], (σ.push (.row 1 false v.cells)).push (.row 1 false [.int .i64 size])) := by
  obtain ⟨k, rfl⟩ : ∃ m, k = m + 1 := ⟨k - 1, by omega⟩
  have hlt : ¬ size < 1 := by omega
  have run : ∃ T1, execC lawProg (callN lawProg k) k 59 9 (bodyOf Tryz.f59) (initT 0 [v, .int .i64 size] .nil) σ = some (.ret, T1, (σ.push (.row 1 false v.cells)).push (.row 1 false [.int .i64 size])) ∧ T1.get 4 = some (.func 91 [] [.ptr σ.next 0, .ptr (σ.next + 1) 0]) := by
    simp only [bodyOf, Tryz.f59, Option.getD_some, initT, runOps, runD, again, step1, wantA, opSem, evalO, evalL, evalOpt, evalParts, putA, ofConst, ofScalar, ofScalars, abin, abinInt, aun, convA, builtinA, oneTy, elemTy, loadA, storeA, storeCellsA, setAt, partA, fillA, placesA, isFn, TyI.isAgg, isSeq, isNum, sliceA, boundA, setParams, minL, minF, maxL, maxF, repZ, reduceIte, Nat.reduceLT, Nat.reduceLeDiff, Nat.reduceEqDiff, Nat.reduceAdd, Nat.reduceMul, Nat.reduceSub, Nat.reduceBEq, Int.reduceEq, Int.reduceLT, Int.reduceLE, Int.reduceToNat, reduceCtorEq, sx, fx59, hlt]
    exact ⟨_, rfl, by simp only [Tr.get_set, Nat.reduceEqDiff, reduceIte]⟩
  obtain ⟨T1, h2, h3⟩ := run
  exact q_call (first := []) (caps := []) fn59 rfl (by simp [Tryz.f59]) h2 (by simp) (res_one h3)

/-! ### one round of pack.Split's loop -/
theorem split_round {T0 : Tr AVal} {name : Int} {bs : List Nat} {s j : Nat} {out : AVal} {d : List Nat} (hT4 : T0.get 4 = some (.ptr 0 0)) (hT6 : T0.get 6 = some (.ptr 1 0)) (hk : 2 ≤ k) (hd : d.length ≤ 1000000) (hj : j < 100000)
    (hl : σ.get 4 = some (.loop (rfLoop Tryz.f23 23 T0))) (h0 : σ.get 0 = some (.row 1 false [.int .i64 name])) (h1 : σ.get 1 = some (.row 1 false [out])) (hout : Grew 5 σ 4 true out j (chunksC name (fun _ => 0) bs s j)) (h5 : 5 ≤ σ.next) (hd2 : d = partOf bs s j) :
    ∃ σ', roundA lawProg (callN lawProg k) k 4 [.vs .some (bytesV d)] σ = some (.bool true, σ') ∧ σ'.get 0 = some (.row 1 false [.int .i64 name]) ∧ (∃ out', σ'.get 1 = some (.row 1 false [out']) ∧ Grew 5 σ' 4 true out' (j + 1) (chunksC name (fun _ => 0) bs s (j + 1))) ∧
      σ'.get 2 = σ.get 2 ∧ σ'.get 3 = σ.get 3 ∧ σ'.get 4 = σ.get 4 ∧ 5 ≤ σ'.next := by
  obtain ⟨hcl, hcase⟩ := hout
  have hlen : lenB (⟨.slice 27, 1, 24, [.vs .nil []]⟩ : TyI) out = some (.int .i64 j) := by
    rcases hcase with ⟨rfl, rfl⟩ | ⟨r, _, _, rfl, _⟩ <;> rfl
  have hone : out.oneCell = true := by rcases hcase with ⟨_, rfl⟩ | ⟨r, _, _, rfl, _⟩ <;> rfl
  have hbusy : Grew 5 ((σ.put 4 (.loop (busyOf (rfLoop Tryz.f23 23 T0)))).push (.row 4 true [.int .i64 name, .int .i64 j, .int .i64 0, .vs .some (bytesV d)])) 4 true out j (chunksC name (fun _ => 0) bs s j) := by
    refine ⟨hcl, ?_⟩
    rcases hcase with h | ⟨r, h6, h7, h8, h9⟩
    · exact .inl h
    · refine .inr ⟨r, h6, by simp; omega, h8, ?_⟩
      rw [AMem.get_push, if_neg (by simp; omega), AMem.get_put, if_neg (by omega)]; exact h9
  obtain ⟨out', σ', happ, hgrew, hnext, hlow, hone'⟩ := Grew.append (e := (⟨.struct [(0, 3), (1, 3), (2, 3), (3, 25)], 4, 48, [.int .i64 0, .int .i64 0, .int .i64 0, .vs .nil []]⟩ : TyI)) (n := 1) (x := .slice σ.next 0 1 (some 1) 4) (xs := [.int .i64 name, .int .i64 j, .int .i64 0, .vs .some (bytesV d)]) hbusy (by simp; omega)
    (by simp only [sourceA, AMem.get_push, AMem.next_put, reduceIte, List.length_cons, List.length_nil, Nat.reduceAdd, Nat.reduceMul, Nat.reduceLeDiff, List.drop_zero, List.take_succ_cons, List.take_zero]) rfl (by simp) (by simp) (by simp) (by simp) (by show (j + 1) * 48 ≤ 1099511627776; omega) rfl
  generalize hB : busyOf (rfLoop Tryz.f23 23 T0) = B at hbusy happ hgrew hnext hlow
  refine ⟨(σ'.put 1 (.row 1 false [out'])).put 4 (.loop (rfLoop Tryz.f23 23 T0)), ?_, ?_, ?_, ?_, ?_, ?_, ?_⟩
  · have g1 : σ'.get 1 = some (.row 1 false [out]) := by rw [hlow 1 (by omega), AMem.get_push, if_neg (by simp; omega), AMem.get_put, if_neg (by omega)]; exact h1
    have hcells := cells_one hone'
    have hbody : ∃ T2, execC lawProg (callN lawProg k) k 23 56 (rfLoop Tryz.f23 23 T0).body ((T0.set 33 (.vs .some (bytesV d))).set 8 (.vs .some (bytesV d))) (σ.put 4 (.loop B)) =
        some (.normal, T2, σ'.put 1 (.row 1 false [out'])) := by
      simp only [rfLoop, bodyOf, Tryz.f23, Option.getD_some, rfOf] 
      simp only [runOps, runD, again, step1, wantA, opSem, evalO, evalL, evalOpt, evalParts, putA, ofConst, ofScalar, ofScalars, abin, abinInt, aun, convA, builtinA, oneTy, elemTy, loadA, storeA, storeCellsA, setAt, partA, fillA, placesA, isFn, TyI.isAgg, isSeq, isNum, sliceA, boundA, setParams, minL, minF, maxL, maxF, repZ, reduceIte, Nat.reduceLT, Nat.reduceLeDiff, Nat.reduceEqDiff, Nat.reduceAdd, Nat.reduceMul, Nat.reduceSub, Nat.reduceBEq, Int.reduceEq, Int.reduceLT, Int.reduceLE, Int.reduceToNat, reduceCtorEq, sx, fx23, hT4, hT6, h0, h1, hlen, clone_call d .some (by decide) hd (show 1 ≤ k by omega)]
      simp only [runOps, runD, again, step1, wantA, opSem, evalO, evalL, evalOpt, evalParts, putA, ofConst, ofScalar, ofScalars, abin, abinInt, aun, convA, builtinA, oneTy, elemTy, loadA, storeA, storeCellsA, setAt, partA, fillA, placesA, isFn, TyI.isAgg, isSeq, isNum, sliceA, boundA, setParams, minL, minF, maxL, maxF, repZ, reduceIte, Nat.reduceLT, Nat.reduceLeDiff, Nat.reduceEqDiff, Nat.reduceAdd, Nat.reduceMul, Nat.reduceSub, Nat.reduceBEq, Int.reduceEq, Int.reduceLT, Int.reduceLE, Int.reduceToNat, reduceCtorEq, sx, fx23, happ, hT6, g1, hcells, hone']
      exact ⟨_, rfl⟩
    obtain ⟨T2, hbody⟩ := hbody
    have hlo : σ'.get 4 = some (.loop B) := by rw [hlow 4 (by omega), AMem.get_push, if_neg (by simp; omega), AMem.get_put, if_pos rfl]
    rw [← hB] at hbody hlo
    have := round_of (A := lawProg) (call := callN lawProg k) (k := k) (l := 4) (args := [.vs .some (bytesV d)]) (T1 := (T0.set 33 (.vs .some (bytesV d))).set 8 (.vs .some (bytesV d))) (T2 := T2) hl rfl rfl rfl
      (by simp only [rfLoop, bodyOf, Tryz.f23, Option.getD_some, rfOf]; simp only [runOps, runD, again, step1, wantA, opSem, evalO, evalL, evalOpt, evalParts, putA, ofConst, ofScalar, ofScalars, abin, abinInt, aun, convA, builtinA, oneTy, elemTy, loadA, storeA, storeCellsA, setAt, partA, fillA, placesA, isFn, TyI.isAgg, isSeq, isNum, sliceA, boundA, setParams, minL, minF, maxL, maxF, repZ, reduceIte, Nat.reduceLT, Nat.reduceLeDiff, Nat.reduceEqDiff, Nat.reduceAdd, Nat.reduceMul, Nat.reduceSub, Nat.reduceBEq, Int.reduceEq, Int.reduceLT, Int.reduceLE, Int.reduceToNat, reduceCtorEq, sx, fx23]) hbody (r2 := busyOf (rfLoop Tryz.f23 23 T0)) (by rw [AMem.get_put, if_neg (by omega)]; exact hlo)
    exact this
  · rw [AMem.get_put, if_neg (by omega), AMem.get_put, if_neg (by omega), hlow 0 (by omega), AMem.get_push, if_neg (by simp; omega), AMem.get_put, if_neg (by omega)]; exact h0
  · refine ⟨out', by rw [AMem.get_put, if_neg (by omega), AMem.get_put, if_pos rfl], ?_⟩
    obtain ⟨c1, c2⟩ := hgrew
    subst hd2
    refine ⟨c1, ?_⟩
    rcases c2 with ⟨h, _⟩ | ⟨r, c3, c4, c5, c6⟩
    · omega
    · exact .inr ⟨r, c3, c4, c5, by rw [AMem.get_put, if_neg (by omega), AMem.get_put, if_neg (by omega)]; exact c6⟩
  · rw [AMem.get_put, if_neg (by omega), AMem.get_put, if_neg (by omega), hlow 2 (by omega), AMem.get_push, if_neg (by simp; omega), AMem.get_put, if_neg (by omega)]
  · rw [AMem.get_put, if_neg (by omega), AMem.get_put, if_neg (by omega), hlow 3 (by omega), AMem.get_push, if_neg (by simp; omega), AMem.get_put, if_neg (by omega)]
  · rw [AMem.get_put, if_pos rfl]; exact hl.symm
  · simp only [AMem.next_put, AMem.next_push] at hnext ⊢; omega

end Go.Proofs.YtkamjhhodnmoiaaGreatDoor

/- The loop of slices.Chunk, and pack.Split whole. -/
set_option maxRecDepth 100000
set_option linter.unusedSimpArgs false
set_option linter.unusedVariables false
namespace Go.Proofs.YtkamjhhodnmoiaaGreatDoor
open Go Go.Proofs.YtkamjhhodnmoiaaGreatDoor.Pale
variable {k : Nat} {σ : AMem}

/-- What stands in memory when j chunks are made. -/
def SplitMem (T0 : Tr AVal) (name : Int) (bs : List Nat) (s j : Nat) (σ : AMem) : Prop :=
  σ.get 0 = some (.row 1 false [.int .i64 name]) ∧ (∃ out, σ.get 1 = some (.row 1 false [out]) ∧ Grew 5 σ 4 true out j (chunksC name (fun _ => 0) bs s j)) ∧ σ.get 2 = some (.row 1 false [.vs .some (bytesV bs)]) ∧ σ.get 3 = some (.row 1 false [.int .i64 s]) ∧
    σ.get 4 = some (.loop (rfLoop Tryz.f23 23 T0)) ∧ 5 ≤ σ.next

theorem chunks_call {T0 : Tr AVal} {name : Int} {bs : List Nat} {s : Nat} (hT4 : T0.get 4 = some (.ptr 0 0)) (hT6 : T0.get 6 = some (.ptr 1 0)) (hs1 : 1 ≤ s) (hs2 : s ≤ 100) (hn : bs.length ≤ 3000) (hk : 4000 ≤ k) (h : SplitMem T0 name bs s 0 σ) :
    ∃ σ', callN lawProg k (.func 91 [] [.ptr 2 0, .ptr 3 0]) [.yield 4] σ = some (.tuple [], σ') ∧ SplitMem T0 name bs s (manyOf bs.length s) σ' := by
  obtain ⟨k, rfl⟩ : ∃ m, k = m + 2 := ⟨k - 2, by omega⟩
  have run : ∃ T1 σ1, execC lawProg (callN lawProg (k + 1)) (k + 1) 91 31 (bodyOf Tryz.f91) (initT 0 [.yield 4, .ptr 2 0, .ptr 3 0] .nil) σ = some (.normal, T1, σ1) ∧ SplitMem T0 name bs s (manyOf bs.length s) σ1 := by
    simp only [bodyOf, Tryz.f91, Option.getD_some, initT, runOps, runD, again, step1, wantA, opSem, evalO, evalL, evalOpt, evalParts, putA, ofConst, ofScalar, ofScalars, abin, abinInt, aun, convA, builtinA, oneTy, elemTy, loadA, storeA, storeCellsA, setAt, partA, fillA, placesA, isFn, TyI.isAgg, isSeq, isNum, sliceA, boundA, setParams, minL, minF, maxL, maxF, repZ, reduceIte, Nat.reduceLT, Nat.reduceLeDiff, Nat.reduceEqDiff, Nat.reduceAdd, Nat.reduceMul, Nat.reduceSub, Nat.reduceBEq, Int.reduceEq, Int.reduceLT, Int.reduceLE, Int.reduceToNat, reduceCtorEq, sx, fx91]
    generalize hL : execC _ _ _ _ _ (Code.loop _) _ _ = r
    obtain ⟨e, T', σ', rfl, _, rfl, hR⟩ : ∃ e T' σ', r = some (e, T', σ') ∧ e ≠ .normal ∧ (e = .exit 0 ∧ SplitMem T0 name bs s (manyOf bs.length s) σ') := by
      rw [← hL]
      have hmb : ∀ j, j ≤ manyOf bs.length s → j * s < 10000 := by
        intro j hj
        rcases Nat.eq_zero_or_pos j with rfl | hp
        · omega
        · have := (many_lt (n := bs.length) (s := s) (j := j - 1) hs1).1 (by omega)
          have h2 : (j - 1) * s + s = j * s := by rw [← Nat.succ_mul]; congr 1; omega
          omega
      have hm : manyOf bs.length s < k + 1 := by
        have := hmb _ (Nat.le_refl _)
        have h2 : manyOf bs.length s * 1 ≤ manyOf bs.length s * s := Nat.mul_le_mul_left _ hs1
        have h3 : manyOf bs.length s ≤ 3000 := by
          unfold manyOf
          rcases Nat.eq_zero_or_pos bs.length with h0 | h0
          · rw [h0]; simp; rw [Nat.div_eq_of_lt (by omega)]; omega
          · exact Nat.le_trans (Nat.div_le_of_le_mul (by
              have : bs.length + s - 1 ≤ s * bs.length := by
                obtain ⟨n, hn'⟩ : ∃ n, bs.length = n + 1 := ⟨bs.length - 1, by omega⟩
                rw [hn', Nat.mul_add, Nat.mul_one]
                have := Nat.mul_le_mul_right n hs1
                omega
              exact this)) hn
        omega
      refine exec_loop (fun j T σ => j ≤ manyOf bs.length s ∧ SplitMem T0 name bs s j σ ∧ T.get 0 = some (.yield 4) ∧ T.get 1 = some (.ptr 2 0) ∧ T.get 2 = some (.ptr 3 0) ∧ T.get 4 = some (.int .i64 ((j * s : Nat) : Int))) (manyOf bs.length s) hm ?_ ?_ ?_
      · rintro j hj T σ ⟨_, ⟨m0, ⟨out, m1, mg⟩, m2, m3, m4, m5⟩, h0, h1, h2, h4⟩
        have hlt := (many_lt (n := bs.length) hs1).1 hj
        have hjb := hmb j (by omega)
        have hj1 : j * 1 ≤ j * s := Nat.mul_le_mul_left _ hs1
        have hd1 : ((partOf bs s j).length) ≤ 1000000 := by rw [part_length hlt]; omega
        obtain ⟨σ', hround, r0, r1, r2, r3, r4, r5⟩ := split_round (k := k) (d := partOf bs s j) hT4 hT6 (by omega) hd1 (by omega) m4 m0 m1 mg m5 rfl
        have hyield : callN lawProg (k + 1) (.yield 4) [.vs .some (bytesV (partOf bs s j))] σ = some (.bool true, σ') := by simp only [callN]; exact hround
        let w := min s (bs.length - j * s)
        have hw1 : 1 ≤ w := by show 1 ≤ min s (bs.length - j * s); omega
        have hw2 : j * s + w ≤ bs.length := by show j * s + min s (bs.length - j * s) ≤ _; omega
        have hltI : (((j * s : Nat) : Int) < (bs.length : Int)) := by omega
        have hleI : (0 : Int) ≤ ((j * s : Nat) : Int) ∧ ((j * s : Nat) : Int) ≤ (bs.length : Int) := by omega
        have hmin : (if ((bs.length - j * s : Nat) : Int) < (s : Int) then ((bs.length - j * s : Nat) : Int) else (s : Int)) = (w : Int) := by
          show _ = ((min s (bs.length - j * s) : Nat) : Int)
          split <;> omega
        have hwrap : IntKind.i64.wrap (((j * s : Nat) : Int) + (w : Int)) = ((j * s + w : Nat) : Int) := by rw [i64_id (by omega) (by omega)]; omega
        have hb1 : (0 : Int) ≤ ((j * s + w : Nat) : Int) ∧ ((j * s + w : Nat) : Int) ≤ (bs.length : Int) := by omega
        have hb2 : (0 : Int) ≤ ((j * s + w : Nat) : Int) ∧ ((j * s + w : Nat) : Int) ≤ ((j * s + w : Nat) : Int) := by omega
        have hb3 : (0 : Int) ≤ ((j * s : Nat) : Int) ∧ ((j * s : Nat) : Int) ≤ ((j * s + w : Nat) : Int) := by omega
        have hne : (j * s + w == j * s) = false := by simp; omega
        have hpart : (bs.take (j * s + w)).drop (j * s) = partOf bs s j := by
          rw [List.drop_take]
          have : j * s + w - j * s = w := by omega
          rw [this]
          show (bs.drop (j * s)).take (min s (bs.length - j * s)) = (bs.drop (j * s)).take s
          rw [← List.length_drop, ← List.take_eq_take_min]
        have hwrap2 : IntKind.i64.wrap (((j * s : Nat) : Int) + (s : Int)) = (((j + 1) * s : Nat) : Int) := by
          rw [i64_id (by omega) (by omega), Nat.succ_mul]; omega
        refine ⟨_, _, by
          simp only [runOps, runD, again, step1, wantA, opSem, evalO, evalL, evalOpt, evalParts, putA, ofConst, ofScalar, ofScalars, abin, abinInt, aun, convA, builtinA, oneTy, elemTy, loadA, storeA, storeCellsA, setAt, partA, fillA, placesA, isFn, TyI.isAgg, isSeq, isNum, sliceA, boundA, setParams, minL, minF, maxL, maxF, repZ, reduceIte, Nat.reduceLT, Nat.reduceLeDiff, Nat.reduceEqDiff, Nat.reduceAdd, Nat.reduceMul, Nat.reduceSub, Nat.reduceBEq, Int.reduceEq, Int.reduceLT, Int.reduceLE, Int.reduceToNat, reduceCtorEq, sx, fx91, h0, h1, h2, h4, m2, m3, bytesV_length, hltI, bytesV_cells, hleI, Int.toNat_natCast, bytesV_take, bytesV_drop, List.length_drop, List.length_take, Nat.min_self, hmin, hwrap, hb1, hb2, hb3, hne, hpart]
          simp only [hyield, runOps, runD, again, step1, wantA, opSem, evalO, evalL, evalOpt, evalParts, putA, ofConst, ofScalar, ofScalars, abin, abinInt, aun, convA, builtinA, oneTy, elemTy, loadA, storeA, storeCellsA, setAt, partA, fillA, placesA, isFn, TyI.isAgg, isSeq, isNum, sliceA, boundA, setParams, minL, minF, maxL, maxF, repZ, reduceIte, Nat.reduceLT, Nat.reduceLeDiff, Nat.reduceEqDiff, Nat.reduceAdd, Nat.reduceMul, Nat.reduceSub, Nat.reduceBEq, Int.reduceEq, Int.reduceLT, Int.reduceLE, Int.reduceToNat, reduceCtorEq, sx, fx91, h2, h4, r3, m3, hwrap2]
          rfl, hj, ⟨r0, r1, by rw [r2]; exact m2, by rw [r3]; exact m3, by rw [r4]; exact m4, r5⟩, ?_, ?_, ?_, ?_⟩
        all_goals simp only [Tr.get_set, Nat.reduceEqDiff, reduceIte, h0, h1, h2]
      · rintro T σ ⟨_, hmem, h0, h1, h2, h4⟩
        have hge : ¬ ((manyOf bs.length s * s : Nat) : Int) < (bs.length : Int) := by
          have := (many_lt (n := bs.length) (j := manyOf bs.length s) hs1).2
          intro hc
          have := this (by omega)
          omega
        obtain ⟨m0, ⟨out, m1, mg⟩, m2, m3, m4, m5⟩ := id hmem
        exact ⟨_, _, _, by
          simp only [runOps, runD, again, step1, wantA, opSem, evalO, evalL, evalOpt, evalParts, putA, ofConst, ofScalar, ofScalars, abin, abinInt, aun, convA, builtinA, oneTy, elemTy, loadA, storeA, storeCellsA, setAt, partA, fillA, placesA, isFn, TyI.isAgg, isSeq, isNum, sliceA, boundA, setParams, minL, minF, maxL, maxF, repZ, reduceIte, Nat.reduceLT, Nat.reduceLeDiff, Nat.reduceEqDiff, Nat.reduceAdd, Nat.reduceMul, Nat.reduceSub, Nat.reduceBEq, Int.reduceEq, Int.reduceLT, Int.reduceLE, Int.reduceToNat, reduceCtorEq, sx, fx91, h0, h1, h2, h4, m2, m3, bytesV_length, hge]
          rfl, by simp, rfl, hmem⟩
      · refine ⟨Nat.zero_le _, h, ?_, ?_, ?_, ?_⟩
        all_goals simp only [Tr.get_set, Nat.reduceEqDiff, reduceIte, Nat.zero_mul]
        all_goals rfl
    simp only [runOps, runD, again, step1, wantA, opSem, evalO, evalL, evalOpt, evalParts, putA, ofConst, ofScalar, ofScalars, abin, abinInt, aun, convA, builtinA, oneTy, elemTy, loadA, storeA, storeCellsA, setAt, partA, fillA, placesA, isFn, TyI.isAgg, isSeq, isNum, sliceA, boundA, setParams, minL, minF, maxL, maxF, repZ, reduceIte, Nat.reduceLT, Nat.reduceLeDiff, Nat.reduceEqDiff, Nat.reduceAdd, Nat.reduceMul, Nat.reduceSub, Nat.reduceBEq, Int.reduceEq, Int.reduceLT, Int.reduceLE, Int.reduceToNat, reduceCtorEq, sx, fx91]
    exact ⟨_, _, rfl, hR⟩
  obtain ⟨T1, σ1, h2, h3⟩ := run
  exact ⟨σ1, q_call (first := []) (vs := []) fn91 rfl (by simp [Tryz.f91]) h2 (by simp) rfl, h3⟩
end Go.Proofs.YtkamjhhodnmoiaaGreatDoor

/- pack.Split whole: what it gives on every message of at most 3000 bytes. -/
set_option maxRecDepth 100000
set_option linter.unusedSimpArgs false
set_option linter.unusedVariables false
namespace Go.Proofs.YtkamjhhodnmoiaaGreatDoor
open Go Go.Proofs.YtkamjhhodnmoiaaGreatDoor.Pale
variable {k : Nat} {σ : AMem}

/-- The chunks of a message, each with its place and how many there are. -/
def chunkL (name : Int) (of : Nat → Nat) (bs : List Nat) (s j : Nat) : List (List AVal) := (List.range j).map fun i => chunkC name (of i) i (partOf bs s i)
theorem chunksC_flatten (name : Int) (of : Nat → Nat) (bs : List Nat) (s j : Nat) : chunksC name of bs s j = (chunkL name of bs s j).flatten := by
  induction j with
  | zero => rfl
  | succ j ih =>
    simp only [chunksC, ih, chunkL, List.range_succ, List.map_append, List.flatten_append, List.map_cons, List.map_nil, List.flatten_cons, List.flatten_nil, List.append_nil]
theorem chunkL_length (name : Int) (of : Nat → Nat) (bs : List Nat) (s j : Nat) : (chunkL name of bs s j).length = j := by simp [chunkL]
theorem chunkL_four (name : Int) (of : Nat → Nat) (bs : List Nat) (s j : Nat) : ∀ l, l ∈ chunkL name of bs s j → l.length = 4 := by
  intro l hl
  simp only [chunkL, List.mem_map] at hl
  obtain ⟨i, _, rfl⟩ := hl
  rfl
theorem snap_chunksC (d : Nat) (name : Int) (of : Nat → Nat) (bs : List Nat) (s j : Nat) : snapL (snapF false σ (d + 1)) (chunksC name of bs s j) = some (chunksC name of bs s j, []) := by
  induction j with
  | zero => rfl
  | succ j ih => exact snapL_append ih rfl
theorem set_chunks (name : Int) (bs : List Nat) (s i v : Nat) : ∀ (j : Nat) (of : Nat → Nat), i < j → (chunksC name of bs s j).set (i * 4 + 2) (.int .i64 (v : Int)) = chunksC name (fun q => if q = i then v else of q) bs s j := by
  have same : ∀ (j : Nat) (of : Nat → Nat), j ≤ i → chunksC name (fun q => if q = i then v else of q) bs s j = chunksC name of bs s j := by
    intro j
    induction j with
    | zero => intro of _; rfl
    | succ j ih =>
      intro of hj
      simp only [chunksC]
      rw [ih of (by omega), if_neg (by omega)]
  intro j
  induction j with
  | zero => intro of h; omega
  | succ j ih =>
    intro of h
    simp only [chunksC]
    by_cases e : i = j
    · subst e
      rw [List.set_append_right _ _ (by rw [chunksC_length]; omega), chunksC_length, same i of (Nat.le_refl _), if_pos rfl]
      have : i * 4 + 2 - i * 4 = 2 := by omega
      rw [this]
      rfl
    · rw [List.set_append_left _ _ (by rw [chunksC_length]; omega), ih of (by omega), if_neg (fun h => e h.symm)]

/-- What a message is cut into, or the error. -/
def splitR (bs : List Nat) (name size : Int) : AVal × Int :=
  if ¬ (1 ≤ size ∧ size ≤ 100) ∨ ¬ (0 ≤ name ∧ name ≤ 65535) then (.vs .nil [], 3)
  else if bs.length = 0 then (.vs .nil [], 2)
  else if 200 < manyOf bs.length size.toNat then (.vs .nil [], 5)
  else (.vs .some ((chunkL name (fun _ => manyOf bs.length size.toNat) bs size.toNat (manyOf bs.length size.toNat)).map AVal.agg), 0)

theorem split_range {T0 : Tr AVal} {name : Int} {bs : List Nat} {s : Nat} (hs1 : 1 ≤ s) (hs2 : s ≤ 100) (hn : bs.length ≤ 3000) (hk : 4000 ≤ k) (hT4 : T0.get 4 = some (.ptr 0 0)) (hT6 : T0.get 6 = some (.ptr 1 0)) (hT32 : T0.get 32 = some (.func 91 [] [.ptr 2 0, .ptr 3 0]))
    (h0 : σ.get 0 = some (.row 1 false [.int .i64 name])) (h1 : σ.get 1 = some (.row 1 false [.vs .nil []])) (h2 : σ.get 2 = some (.row 1 false [.vs .some (bytesV bs)])) (h3 : σ.get 3 = some (.row 1 false [.int .i64 s])) (hnext : σ.next = 4) :
    ∃ T2 σ2, execC lawProg (callN lawProg k) k 23 56 (.rangeFunc (.tmp 32) #[33] (rfLoop Tryz.f23 23 T0).assign (rfLoop Tryz.f23 23 T0).body) T0 σ = some (.normal, T2, σ2) ∧ T2.get 6 = some (.ptr 1 0) ∧
      ∃ out, σ2.get 1 = some (.row 1 false [out]) ∧ Grew 5 σ2 4 true out (manyOf bs.length s) (chunksC name (fun _ => 0) bs s (manyOf bs.length s)) := by
  have hm : SplitMem T0 name bs s 0 (σ.push (.loop (rfLoop Tryz.f23 23 T0))) := by
    refine ⟨?_, ⟨.vs .nil [], ?_, rfl, .inl ⟨rfl, rfl⟩⟩, ?_, ?_, ?_, by simp [hnext]⟩
    all_goals simp only [AMem.get_push, hnext, Nat.reduceEqDiff, reduceIte, h0, h1, h2, h3]
  obtain ⟨σ', hc, m0, ⟨out, m1, mg⟩, m2, m3, m4, m5⟩ := chunks_call hT4 hT6 hs1 hs2 hn hk hm
  refine ⟨T0, _, q_range (A := lawProg) (r := rfLoop Tryz.f23 23 T0) (v := .tuple []) (σ2 := σ') (show evalO lawProg T0 (.tmp 32) = _ from hT32) ?_ (by rw [hnext]; exact m4) (by intro h; cases h) rfl, hT6, out, ?_, mg.1, ?_⟩
  · rw [hnext]; exact hc
  · rw [hnext, AMem.get_put, if_neg (by omega)]; exact m1
  · rcases mg.2 with h | ⟨r, h6, h7, h8, h9⟩
    · exact .inl h
    · exact .inr ⟨r, h6, by simpa using h7, h8, by rw [hnext, AMem.get_put, if_neg (by omega)]; exact h9⟩

theorem many_geq {n s : Nat} (hs : 1 ≤ s) (hn : 1 ≤ n) : manyOf n s = (n - 1) / s + 1 := by
  unfold manyOf
  rw [show n + s - 1 = (n - 1) + s from by omega, Nat.add_div_right _ (by omega)]

theorem split_run (bs : List Nat) (name size : Int) (hn : bs.length ≤ 3000) (hk : 4001 ≤ k) : ∃ b, pureRun (callN lawProg (k + 1)) (.func 23 [] []) [.vs .some (bytesV bs), .int .i64 name, .int .i64 size] = some (.tuple [(splitR bs name size).1, .int .i64 (splitR bs name size).2], b) := by
  have run : ∃ T1 σ1 x seen, execC lawProg (callN lawProg k) k 23 56 (bodyOf Tryz.f23) (initT 0 [.vs .some (bytesV bs), .int .i64 name, .int .i64 size] .nil) AMem.empty = some (.ret, T1, σ1) ∧
      resultsA lawProg T1 σ1 Tryz.f23.results.toList = some [x, .int .i64 (splitR bs name size).2] ∧ snapF false σ1 11 x = some ((splitR bs name size).1, seen) := by
    have hk1 : 1 ≤ k := by omega
    by_cases hs : 1 ≤ size ∧ size ≤ 100
    · by_cases hm : 0 ≤ name ∧ name ≤ 65535
      · have hne1 : ¬ (¬ (1 ≤ size ∧ size ≤ 100) ∨ ¬ (0 ≤ name ∧ name ≤ 65535)) := by simp [hs, hm]
        obtain ⟨s, rfl⟩ : ∃ s : Nat, size = (s : Int) := ⟨size.toNat, by omega⟩
        have hs1 : 1 ≤ s := by omega
        have hs2 : s ≤ 100 := by omega
        by_cases h0 : bs.length = 0
        · have h0I : ((bs.length : Int) = 0) := by omega
          have hres : splitR bs name (s : Int) = (.vs .nil [], 2) := by unfold splitR; rw [if_neg hne1, if_pos h0]
          rw [hres]
          have e : ∃ T1 σ1, execC lawProg (callN lawProg k) k 23 56 (bodyOf Tryz.f23) (initT 0 [.vs .some (bytesV bs), .int .i64 name, .int .i64 ((s : Nat) : Int)] .nil) AMem.empty = some (.ret, T1, σ1) ∧ resultsA lawProg T1 σ1 Tryz.f23.results.toList = some [.vs .nil [], .int .i64 2] := by
            simp only [bodyOf, Tryz.f23, Option.getD_some, initT, runOps, runD, again, step1, wantA, opSem, evalO, evalL, evalOpt, evalParts, putA, ofConst, ofScalar, ofScalars, abin, abinInt, aun, convA, builtinA, oneTy, elemTy, loadA, storeA, storeCellsA, setAt, partA, fillA, placesA, isFn, TyI.isAgg, isSeq, isNum, sliceA, boundA, setParams, minL, minF, maxL, maxF, repZ, reduceIte, Nat.reduceLT, Nat.reduceLeDiff, Nat.reduceEqDiff, Nat.reduceAdd, Nat.reduceMul, Nat.reduceSub, Nat.reduceBEq, Int.reduceEq, Int.reduceLT, Int.reduceLE, Int.reduceToNat, reduceCtorEq, sx, fx23, within_call _ _ _ hk1, hs, hm, bytesV_length, h0I]
            exact ⟨_, _, rfl, by simp only [Tryz.f23, resultsA, resultA, runOps, runD, again, step1, wantA, opSem, evalO, evalL, evalOpt, evalParts, putA, ofConst, ofScalar, ofScalars, abin, abinInt, aun, convA, builtinA, oneTy, elemTy, loadA, storeA, storeCellsA, setAt, partA, fillA, placesA, isFn, TyI.isAgg, isSeq, isNum, sliceA, boundA, setParams, minL, minF, maxL, maxF, repZ, reduceIte, Nat.reduceLT, Nat.reduceLeDiff, Nat.reduceEqDiff, Nat.reduceAdd, Nat.reduceMul, Nat.reduceSub, Nat.reduceBEq, Int.reduceEq, Int.reduceLT, Int.reduceLE, Int.reduceToNat, reduceCtorEq, sx, fx23]⟩
          obtain ⟨T1, σ1, e1, e2⟩ := e
          exact ⟨T1, σ1, .vs .nil [], [], e1, e2, rfl⟩
        · have h0I : ((bs.length : Int) == 0) = false := by simpa using h0
          have hsz : ¬ ((s : Int) = 0) := by omega
          have hq : ((bs.length : Int) - 1).tdiv (s : Int) = (((bs.length - 1) / s : Nat) : Int) := by
            rw [show ((bs.length : Int) - 1) = ((bs.length - 1 : Nat) : Int) from by omega]; rfl
          have hqb : (bs.length - 1) / s ≤ 3000 := Nat.le_trans (Nat.div_le_self _ _) (by omega)
          have hw1 : IntKind.i64.wrap ((bs.length : Int) - 1) = (bs.length : Int) - 1 := i64_id (by omega) (by omega)
          have hmany := many_geq (n := bs.length) hs1 (by omega)
          generalize (bs.length - 1) / s = q at hq hqb hmany
          have hw2 : IntKind.i64.wrap (q : Int) = (q : Int) := i64_id (by omega) (by omega)
          by_cases h200 : 200 < manyOf bs.length s
          · have hge : (200 : Int) ≤ (q : Int) := by omega
            have hres : splitR bs name (s : Int) = (.vs .nil [], 5) := by unfold splitR; rw [if_neg hne1, if_neg h0, if_pos (by simpa using h200)]
            rw [hres]
            have e : ∃ T1 σ1, execC lawProg (callN lawProg k) k 23 56 (bodyOf Tryz.f23) (initT 0 [.vs .some (bytesV bs), .int .i64 name, .int .i64 ((s : Nat) : Int)] .nil) AMem.empty = some (.ret, T1, σ1) ∧ resultsA lawProg T1 σ1 Tryz.f23.results.toList = some [.vs .nil [], .int .i64 5] := by
              simp only [bodyOf, Tryz.f23, Option.getD_some, initT, runOps, runD, again, step1, wantA, opSem, evalO, evalL, evalOpt, evalParts, putA, ofConst, ofScalar, ofScalars, abin, abinInt, aun, convA, builtinA, oneTy, elemTy, loadA, storeA, storeCellsA, setAt, partA, fillA, placesA, isFn, TyI.isAgg, isSeq, isNum, sliceA, boundA, setParams, minL, minF, maxL, maxF, repZ, reduceIte, Nat.reduceLT, Nat.reduceLeDiff, Nat.reduceEqDiff, Nat.reduceAdd, Nat.reduceMul, Nat.reduceSub, Nat.reduceBEq, Int.reduceEq, Int.reduceLT, Int.reduceLE, Int.reduceToNat, reduceCtorEq, sx, fx23, within_call _ _ _ hk1, hs, hm, bytesV_length, h0I, hsz, hw1, hq, hw2, ge_iff_le, hge]
              exact ⟨_, _, rfl, by simp only [Tryz.f23, resultsA, resultA, runOps, runD, again, step1, wantA, opSem, evalO, evalL, evalOpt, evalParts, putA, ofConst, ofScalar, ofScalars, abin, abinInt, aun, convA, builtinA, oneTy, elemTy, loadA, storeA, storeCellsA, setAt, partA, fillA, placesA, isFn, TyI.isAgg, isSeq, isNum, sliceA, boundA, setParams, minL, minF, maxL, maxF, repZ, reduceIte, Nat.reduceLT, Nat.reduceLeDiff, Nat.reduceEqDiff, Nat.reduceAdd, Nat.reduceMul, Nat.reduceSub, Nat.reduceBEq, Int.reduceEq, Int.reduceLT, Int.reduceLE, Int.reduceToNat, reduceCtorEq, sx, fx23]⟩
            obtain ⟨T1, σ1, e1, e2⟩ := e
            exact ⟨T1, σ1, .vs .nil [], [], e1, e2, rfl⟩
          · have hge : ¬ (200 : Int) ≤ (q : Int) := by omega
            have hres : splitR bs name (s : Int) = (.vs .some ((chunkL name (fun _ => manyOf bs.length s) bs s (manyOf bs.length s)).map AVal.agg), 0) := by unfold splitR; rw [if_neg hne1, if_neg h0, if_neg (by simpa using h200)]; simp
            rw [hres]
            simp only [bodyOf, Tryz.f23, Option.getD_some, initT, runOps, runD, again, step1, wantA, opSem, evalO, evalL, evalOpt, evalParts, putA, ofConst, ofScalar, ofScalars, abin, abinInt, aun, convA, builtinA, oneTy, elemTy, loadA, storeA, storeCellsA, setAt, partA, fillA, placesA, isFn, TyI.isAgg, isSeq, isNum, sliceA, boundA, setParams, minL, minF, maxL, maxF, repZ, reduceIte, Nat.reduceLT, Nat.reduceLeDiff, Nat.reduceEqDiff, Nat.reduceAdd, Nat.reduceMul, Nat.reduceSub, Nat.reduceBEq, Int.reduceEq, Int.reduceLT, Int.reduceLE, Int.reduceToNat, reduceCtorEq, sx, fx23, within_call _ _ _ hk1, hs, hm, bytesV_length, h0I, hsz, hw1, hq, hw2, ge_iff_le, hge, chunk_call _ _ (show (1 : Int) ≤ (s : Int) by omega) hk1]
            generalize hL : execC _ _ _ _ _ (Code.rangeFunc _ _ _ _) _ _ = r
            obtain ⟨T2, σ2, rfl, t6, out, m1, mg⟩ : ∃ T2 σ2, r = some (.normal, T2, σ2) ∧ T2.get 6 = some (.ptr 1 0) ∧ ∃ out, σ2.get 1 = some (.row 1 false [out]) ∧ Grew 5 σ2 4 true out (manyOf bs.length s) (chunksC name (fun _ => 0) bs s (manyOf bs.length s)) := by
              rw [← hL]
              exact split_range hs1 hs2 hn (by omega) (by simp only [Tr.get_set, Nat.reduceEqDiff, reduceIte]) (by simp only [Tr.get_set, Nat.reduceEqDiff, reduceIte]) (by simp only [Tr.get_set, Nat.reduceEqDiff, reduceIte]) (by simp only [AMem.get_push, AMem.next_push, next_empty, Nat.reduceAdd, Nat.reduceEqDiff, reduceIte]) (by simp only [AMem.get_push, AMem.next_push, next_empty, Nat.reduceAdd, Nat.reduceEqDiff, reduceIte]) (by simp only [AMem.get_push, AMem.next_push, next_empty, Nat.reduceAdd, Nat.reduceEqDiff, reduceIte]) (by simp only [AMem.get_push, AMem.next_push, next_empty, Nat.reduceAdd, Nat.reduceEqDiff, reduceIte]) (by simp only [AMem.next_push, next_empty, Nat.reduceAdd])
            have hm200 : manyOf bs.length s ≤ 200 := by omega
            have hfl : ∀ of, (chunksC name of bs s (manyOf bs.length s)).length = manyOf bs.length s * 4 := fun of => chunksC_length _ _ _ _ _
            generalize manyOf bs.length s = m at *
            rcases mg with ⟨mcl, ⟨hz, _⟩ | ⟨r, r5, rn, rfl, mr⟩⟩
            · omega
            simp only [runOps, runD, again, step1, wantA, opSem, evalO, evalL, evalOpt, evalParts, putA, ofConst, ofScalar, ofScalars, abin, abinInt, aun, convA, builtinA, oneTy, elemTy, loadA, storeA, storeCellsA, setAt, partA, fillA, placesA, isFn, TyI.isAgg, isSeq, isNum, sliceA, boundA, setParams, minL, minF, maxL, maxF, repZ, reduceIte, Nat.reduceLT, Nat.reduceLeDiff, Nat.reduceEqDiff, Nat.reduceAdd, Nat.reduceMul, Nat.reduceSub, Nat.reduceBEq, Int.reduceEq, Int.reduceLT, Int.reduceLE, Int.reduceToNat, reduceCtorEq, sx, fx23, t6, m1]
            generalize hL2 : execC _ _ _ _ _ (Code.loop _) _ _ = r2
            obtain ⟨e, T', σ', rfl, _, rfl, f6, f1, fr⟩ : ∃ e T' σ', r2 = some (e, T', σ') ∧ e ≠ .normal ∧ (e = .exit 3 ∧ T'.get 6 = some (.ptr 1 0) ∧ σ'.get 1 = some (.row 1 false [.slice r 0 m none 4]) ∧ σ'.get r = some (.row 4 true (chunksC name (fun _ => m) bs s m))) := by
              rw [← hL2]
              refine exec_loop (fun i T σ => i ≤ m ∧ T.get 6 = some (.ptr 1 0) ∧ T.get 44 = some (.int .i64 m) ∧ T.get 45 = some (.int .i64 i) ∧ σ.get 1 = some (.row 1 false [.slice r 0 m none 4]) ∧ σ.get r = some (.row 4 true (chunksC name (fun q => if q < i then m else 0) bs s m))) m (by omega) ?_ ?_ ?_
              · rintro i hi T σ ⟨_, t6, t44, t45, m1, mr⟩
                have hlt : (i : Int) < (m : Int) := by omega
                have hle : i * 4 + 2 + 1 ≤ (chunksC name (fun q => if q < i then m else 0) bs s m).length := by rw [hfl]; omega
                have hw : IntKind.i64.wrap ((i : Int) + 1) = ((i + 1 : Nat) : Int) := by rw [i64_id (by omega) (by omega)]; omega
                have hset := set_chunks name bs s i m m (fun q => if q < i then m else 0) hi
                have hfun : (fun q => if q = i then m else if q < i then m else 0) = fun q => if q < i + 1 then m else 0 := by
                  funext q
                  by_cases h1 : q = i
                  · rw [if_pos h1, if_pos (by omega)]
                  · rw [if_neg h1]
                    by_cases h2 : q < i
                    · rw [if_pos h2, if_pos (by omega)]
                    · rw [if_neg h2, if_neg (by omega)]
                rw [hfun] at hset
                have hr1 : ¬ (r = 1) := by omega
                refine ⟨_, _, by
                  simp only [runOps, runD, again, step1, wantA, opSem, evalO, evalL, evalOpt, evalParts, putA, ofConst, ofScalar, ofScalars, abin, abinInt, aun, convA, builtinA, oneTy, elemTy, loadA, storeA, storeCellsA, setAt, partA, fillA, placesA, isFn, TyI.isAgg, isSeq, isNum, sliceA, boundA, setParams, minL, minF, maxL, maxF, repZ, reduceIte, Nat.reduceLT, Nat.reduceLeDiff, Nat.reduceEqDiff, Nat.reduceAdd, Nat.reduceMul, Nat.reduceSub, Nat.reduceBEq, Int.reduceEq, Int.reduceLT, Int.reduceLE, Int.reduceToNat, reduceCtorEq, sx, fx23, t6, t44, t45, m1, mr, hlt, Int.natCast_nonneg, Int.toNat_natCast, hle, hset, hw]
                  rfl, hi, ?_, ?_, ?_, ?_, ?_⟩
                · simp only [Tr.get_set, Nat.reduceEqDiff, reduceIte, t6]
                · simp only [Tr.get_set, Nat.reduceEqDiff, reduceIte, t44]
                · simp only [Tr.get_set, Nat.reduceEqDiff, reduceIte]
                · rw [AMem.get_put, if_neg hr1]; exact m1
                · rw [AMem.get_put, if_pos rfl]
              · rintro T σ ⟨_, t6, t44, t45, m1, mr⟩
                refine ⟨_, _, _, by
                  simp only [runOps, runD, again, step1, wantA, opSem, evalO, evalL, evalOpt, evalParts, putA, ofConst, ofScalar, ofScalars, abin, abinInt, aun, convA, builtinA, oneTy, elemTy, loadA, storeA, storeCellsA, setAt, partA, fillA, placesA, isFn, TyI.isAgg, isSeq, isNum, sliceA, boundA, setParams, minL, minF, maxL, maxF, repZ, reduceIte, Nat.reduceLT, Nat.reduceLeDiff, Nat.reduceEqDiff, Nat.reduceAdd, Nat.reduceMul, Nat.reduceSub, Nat.reduceBEq, Int.reduceEq, Int.reduceLT, Int.reduceLE, Int.reduceToNat, reduceCtorEq, sx, fx23, t6, t44, t45, Int.lt_irrefl]
                  rfl, by simp, rfl, ?_, m1, ?_⟩
                · simp only [Tr.get_set, Nat.reduceEqDiff, reduceIte, t6]
                · rw [mr]
                  have : ∀ j, j ≤ m → chunksC name (fun q => if q < m then m else 0) bs s j = chunksC name (fun _ => m) bs s j := by
                    intro j
                    induction j with
                    | zero => intro _; rfl
                    | succ j ih => intro h; simp only [chunksC]; rw [ih (by omega), if_pos (by omega)]
                  rw [this m (Nat.le_refl _)]
              · refine ⟨Nat.zero_le _, ?_, ?_, ?_, m1, ?_⟩
                · simp only [Tr.get_set, Nat.reduceEqDiff, reduceIte, t6]
                · simp only [Tr.get_set, Nat.reduceEqDiff, reduceIte]
                · simp only [Tr.get_set, Nat.reduceEqDiff, reduceIte]; rfl
                · simpa using mr
            simp only [runOps, runD, again, step1, wantA, opSem, evalO, evalL, evalOpt, evalParts, putA, ofConst, ofScalar, ofScalars, abin, abinInt, aun, convA, builtinA, oneTy, elemTy, loadA, storeA, storeCellsA, setAt, partA, fillA, placesA, isFn, TyI.isAgg, isSeq, isNum, sliceA, boundA, setParams, minL, minF, maxL, maxF, repZ, reduceIte, Nat.reduceLT, Nat.reduceLeDiff, Nat.reduceEqDiff, Nat.reduceAdd, Nat.reduceMul, Nat.reduceSub, Nat.reduceBEq, Int.reduceEq, Int.reduceLT, Int.reduceLE, Int.reduceToNat, reduceCtorEq, sx, fx23, f6, f1]
            refine ⟨_, _, .slice r 0 m none 4, [r], rfl, by simp only [Tryz.f23, resultsA, resultA, runOps, runD, again, step1, wantA, opSem, evalO, evalL, evalOpt, evalParts, putA, ofConst, ofScalar, ofScalars, abin, abinInt, aun, convA, builtinA, oneTy, elemTy, loadA, storeA, storeCellsA, setAt, partA, fillA, placesA, isFn, TyI.isAgg, isSeq, isNum, sliceA, boundA, setParams, minL, minF, maxL, maxF, repZ, reduceIte, Nat.reduceLT, Nat.reduceLeDiff, Nat.reduceEqDiff, Nat.reduceAdd, Nat.reduceMul, Nat.reduceSub, Nat.reduceBEq, Int.reduceEq, Int.reduceLT, Int.reduceLE, Int.reduceToNat, reduceCtorEq, sx, fx23, f6], ?_⟩
            have := snap_structs (fr := false) (σ := σ'.put 1 (.row 1 false [.slice r 0 m none 4])) (d := 9) (cap := none) (sz := 4) (r := r) (n := m) (ls := chunkL name (fun _ => m) bs s m) (ps := chunkL name (fun _ => m) bs s m) (S := []) (by omega) (chunkL_length _ _ _ _ _).symm rfl (chunkL_four _ _ _ _ _) (chunkL_four _ _ _ _ _) (by rw [AMem.get_put, if_neg (by omega), fr, chunksC_flatten]) (by rw [← chunksC_flatten]; exact snap_chunksC 9 _ _ _ _ _)
            exact this
      · have hres : splitR bs name size = (.vs .nil [], 3) := by unfold splitR; rw [if_pos (.inr hm)]
        rw [hres]
        have e : ∃ T1 σ1, execC lawProg (callN lawProg k) k 23 56 (bodyOf Tryz.f23) (initT 0 [.vs .some (bytesV bs), .int .i64 name, .int .i64 size] .nil) AMem.empty = some (.ret, T1, σ1) ∧ resultsA lawProg T1 σ1 Tryz.f23.results.toList = some [.vs .nil [], .int .i64 3] := by
          simp only [bodyOf, Tryz.f23, Option.getD_some, initT, runOps, runD, again, step1, wantA, opSem, evalO, evalL, evalOpt, evalParts, putA, ofConst, ofScalar, ofScalars, abin, abinInt, aun, convA, builtinA, oneTy, elemTy, loadA, storeA, storeCellsA, setAt, partA, fillA, placesA, isFn, TyI.isAgg, isSeq, isNum, sliceA, boundA, setParams, minL, minF, maxL, maxF, repZ, reduceIte, Nat.reduceLT, Nat.reduceLeDiff, Nat.reduceEqDiff, Nat.reduceAdd, Nat.reduceMul, Nat.reduceSub, Nat.reduceBEq, Int.reduceEq, Int.reduceLT, Int.reduceLE, Int.reduceToNat, reduceCtorEq, sx, fx23, within_call _ _ _ hk1, hs, hm]
          exact ⟨_, _, rfl, by simp only [Tryz.f23, resultsA, resultA, runOps, runD, again, step1, wantA, opSem, evalO, evalL, evalOpt, evalParts, putA, ofConst, ofScalar, ofScalars, abin, abinInt, aun, convA, builtinA, oneTy, elemTy, loadA, storeA, storeCellsA, setAt, partA, fillA, placesA, isFn, TyI.isAgg, isSeq, isNum, sliceA, boundA, setParams, minL, minF, maxL, maxF, repZ, reduceIte, Nat.reduceLT, Nat.reduceLeDiff, Nat.reduceEqDiff, Nat.reduceAdd, Nat.reduceMul, Nat.reduceSub, Nat.reduceBEq, Int.reduceEq, Int.reduceLT, Int.reduceLE, Int.reduceToNat, reduceCtorEq, sx, fx23]⟩
        obtain ⟨T1, σ1, e1, e2⟩ := e
        exact ⟨T1, σ1, .vs .nil [], [], e1, e2, rfl⟩
    · have hres : splitR bs name size = (.vs .nil [], 3) := by unfold splitR; rw [if_pos (.inl hs)]
      rw [hres]
      have e : ∃ T1 σ1, execC lawProg (callN lawProg k) k 23 56 (bodyOf Tryz.f23) (initT 0 [.vs .some (bytesV bs), .int .i64 name, .int .i64 size] .nil) AMem.empty = some (.ret, T1, σ1) ∧ resultsA lawProg T1 σ1 Tryz.f23.results.toList = some [.vs .nil [], .int .i64 3] := by
        simp only [bodyOf, Tryz.f23, Option.getD_some, initT, runOps, runD, again, step1, wantA, opSem, evalO, evalL, evalOpt, evalParts, putA, ofConst, ofScalar, ofScalars, abin, abinInt, aun, convA, builtinA, oneTy, elemTy, loadA, storeA, storeCellsA, setAt, partA, fillA, placesA, isFn, TyI.isAgg, isSeq, isNum, sliceA, boundA, setParams, minL, minF, maxL, maxF, repZ, reduceIte, Nat.reduceLT, Nat.reduceLeDiff, Nat.reduceEqDiff, Nat.reduceAdd, Nat.reduceMul, Nat.reduceSub, Nat.reduceBEq, Int.reduceEq, Int.reduceLT, Int.reduceLE, Int.reduceToNat, reduceCtorEq, sx, fx23, within_call _ _ _ hk1, hs]
        exact ⟨_, _, rfl, by simp only [Tryz.f23, resultsA, resultA, runOps, runD, again, step1, wantA, opSem, evalO, evalL, evalOpt, evalParts, putA, ofConst, ofScalar, ofScalars, abin, abinInt, aun, convA, builtinA, oneTy, elemTy, loadA, storeA, storeCellsA, setAt, partA, fillA, placesA, isFn, TyI.isAgg, isSeq, isNum, sliceA, boundA, setParams, minL, minF, maxL, maxF, repZ, reduceIte, Nat.reduceLT, Nat.reduceLeDiff, Nat.reduceEqDiff, Nat.reduceAdd, Nat.reduceMul, Nat.reduceSub, Nat.reduceBEq, Int.reduceEq, Int.reduceLT, Int.reduceLE, Int.reduceToNat, reduceCtorEq, sx, fx23]⟩
      obtain ⟨T1, σ1, e1, e2⟩ := e
      exact ⟨T1, σ1, .vs .nil [], [], e1, e2, rfl⟩
  obtain ⟨T1, σ1, x, seen, h1, h2, h3⟩ := run
  exact pureRun_any (seen := seen ++ ([] ++ [])) fn23 rfl (by simp [Tryz.f23]) h1 (by simp) h2 (by
    show (snapL (snapF false σ1 11) [x, .int .i64 _]).map (fun (l, a) => (AVal.tuple l, a)) = _
    simp only [snapL, h3, snap_int, Option.map_some])
end Go.Proofs.YtkamjhhodnmoiaaGreatDoor

