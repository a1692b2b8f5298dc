import Derived.Test.YtkamjhhodnmoiaaGreatDoorF4
import Derived.Test.YtkamjhhodnmoiaaGreatDoorPaleDeep
import Derived.Test.YtkamjhhodnmoiaaGreatDoorG1
import Derived.Test.YtkamjhhodnmoiaaGreatDoorG0
import Derived.Test.YtkamjhhodnmoiaaGreatDoorPaleRead
import Derived.Test.YtkamjhhodnmoiaaGreatDoorF3
/- ref.Copy: what it gives. -/
set_option maxRecDepth 100000
set_option linter.unusedSimpArgs false
set_option linter.unusedVariables false
namespace Go.Proofs.YtkamjhhodnmoiaaGreatDoor
open Go Go.Proofs.YtkamjhhodnmoiaaGreatDoor.Pale
variable {k : Nat} {σ : AMem}

def prtN (p : Part) : AVal := .vs .some (bytesV p.2)
def shN (s : Sh) : List AVal := [.int .i64 s.name, .vs (lkOf s.data.length) (s.data.map prtN)]
def normS (s : Sh) : Sh := { name := s.name, dk := lkOf s.data.length, data := s.data.map fun p => (.some, p.2) }
theorem shN_norm (s : Sh) : AVal.agg (shN s) = shV (normS s) := by
  simp only [shN, shV, shC, normS, List.map_map]
  rfl
theorem prtN_one (l : List Part) : (l.map prtN).all AVal.oneCell = true := by
  rw [List.all_eq_true]
  intro v hv
  obtain ⟨p, _, rfl⟩ := List.mem_map.1 hv
  rfl
theorem Deep.one' {d low : Nat} {σ : AMem} {sz : Nat} {g : Bool} {out : AVal} {j : Nat} {cells ys : List AVal} (h : Deep d low σ sz g out j cells ys) : out.oneCell = true := h.1.oneC

theorem rcopy_exec (d : Nat) (lk : VK) (shs : List Sh) (hn : shs.length ≤ 1000) (hd : ∀ s, s ∈ shs → s.data.length ≤ 1000 ∧ ∀ p, p ∈ s.data → p.2.length ≤ 1000) (hk : 3000 ≤ k) :
    ∃ T1 σ1 out ls, execC lawProg (callN lawProg k) k 10 56 (bodyOf Tryz.f10) (initT 0 [.agg [.vs lk (shs.map shV)]] .nil) σ = some (.ret, T1, σ1) ∧ resultsA lawProg T1 σ1 Tryz.f10.results.toList = some [.agg [out]] ∧ Ext σ σ1 ∧ Deep (d + 3) (σ.next + 3) σ1 2 true out shs.length (ls : List (List AVal)).flatten (shs.map shN).flatten ∧ ls.length = shs.length ∧ (∀ l, l ∈ ls → l.length = 2) ∧ (shs.length = 0 → out = .vs .nil []) := by
  obtain ⟨b, hbn⟩ : ∃ b, b = σ.next := ⟨_, rfl⟩
  simp only [bodyOf, Tryz.f10, Option.getD_some, initT, runOps, runD, again, step1, wantA, opSem, evalO, evalL, evalOpt, evalParts, putA, ofConst, ofScalar, ofScalars, abin, abinInt, aun, convA, builtinA, oneTy, elemTy, loadA, storeA, storeCellsA, setAt, partA, fillA, placesA, isFn, TyI.isAgg, isSeq, isNum, sliceA, boundA, setParams, minL, minF, maxL, maxF, repZ, reduceIte, Nat.reduceLT, Nat.reduceLeDiff, Nat.reduceEqDiff, Nat.reduceAdd, Nat.reduceMul, Nat.reduceSub, Nat.reduceBEq, Int.reduceEq, Int.reduceLT, Int.reduceLE, Int.reduceToNat, reduceCtorEq, sx, fx10, Nat.add_assoc, Nat.add_eq_left, Nat.left_eq_add, Nat.add_left_cancel_iff, ← hbn]
  generalize hL : execC _ _ _ _ _ (Code.loop _) _ _ = r
  obtain ⟨e, T', σ', rfl, _, rfl, f2, f3, out, ls, m1, m2, m3, m4, m5, m6, m7, m8⟩ : ∃ e T' σ', r = some (e, T', σ') ∧ e ≠ .normal ∧ (e = .exit 0 ∧ T'.get 2 = some (.ptr (b + 1) 0) ∧ T'.get 3 = some (.ptr (b + 2) 0) ∧ ∃ out ls, σ'.get (b + 1) = some (.row 1 true [.vs .nil []]) ∧ σ'.get (b + 2) = some (.row 1 true [out]) ∧ Ext σ σ' ∧ b + 3 ≤ σ'.next ∧ Deep (d + 3) (b + 3) σ' 2 true out shs.length (ls : List (List AVal)).flatten (shs.map shN).flatten ∧ ls.length = shs.length ∧ (∀ l, l ∈ ls → l.length = 2) ∧ (shs.length = 0 → out = .vs .nil [])) := by
    rw [← hL]
    refine exec_loop (fun i T σ' => i ≤ shs.length ∧ T.get 1 = some (.ptr b 0) ∧ T.get 2 = some (.ptr (b + 1) 0) ∧ T.get 3 = some (.ptr (b + 2) 0) ∧ T.get 4 = some (.int .i64 i) ∧ ∃ out ls, σ'.get b = some (.row 1 true [.vs lk (shs.map shV)]) ∧ σ'.get (b + 1) = some (.row 1 true [.vs .nil []]) ∧ σ'.get (b + 2) = some (.row 1 true [out]) ∧ Ext σ σ' ∧ b + 3 ≤ σ'.next ∧ Deep (d + 3) (b + 3) σ' 2 true out i (ls : List (List AVal)).flatten ((shs.take i).map shN).flatten ∧ ls.length = i ∧ (∀ l, l ∈ ls → l.length = 2) ∧ (i = 0 → out = .vs .nil [])) shs.length (by omega) ?_ ?_ ?_
    · rintro i hi T σ' ⟨_, t1, t2, t3, t4, out, ls, m0, m1, m2, m3, m4, m5, m6, m7, m8⟩
      have hli : (i : Int) < shs.length := by omega
      obtain ⟨d1, d2⟩ := hd _ (List.getElem_mem hi)
      have hw := i64_succ (i := i) (by omega)
      obtain ⟨y, hy⟩ : ∃ y, y = σ'.next := ⟨_, rfl⟩
      have qb : ¬ y = b := by omega
      have qb1 : ¬ y = b + 1 := by omega
      have qb2 : ¬ y = b + 2 := by omega
      simp only [runOps, runD, again, step1, wantA, opSem, evalO, evalL, evalOpt, evalParts, putA, ofConst, ofScalar, ofScalars, abin, abinInt, aun, convA, builtinA, oneTy, elemTy, loadA, storeA, storeCellsA, setAt, partA, fillA, placesA, isFn, TyI.isAgg, isSeq, isNum, sliceA, boundA, setParams, minL, minF, maxL, maxF, repZ, reduceIte, Nat.reduceLT, Nat.reduceLeDiff, Nat.reduceEqDiff, Nat.reduceAdd, Nat.reduceMul, Nat.reduceSub, Nat.reduceBEq, Int.reduceEq, Int.reduceLT, Int.reduceLE, Int.reduceToNat, reduceCtorEq, sx, fx10, Nat.add_assoc, Nat.add_eq_left, Nat.left_eq_add, Nat.add_left_cancel_iff, t1, t2, t3, t4, m0, m1, m2, hli, Int.natCast_nonneg, Int.toNat_natCast, sh_get hi, List.length_map, ← hy, qb, qb1, qb2]
      generalize hL2 : execC _ _ _ _ _ (Code.loop _) _ _ = r2
      obtain ⟨e, T2, σ2, rfl, _, rfl, u1, u2, u3, u4, u5, oi, cs, n1, n2, n3, n4, n5⟩ : ∃ e T' σ2, r2 = some (e, T', σ2) ∧ e ≠ .normal ∧ (e = .exit 2 ∧ T'.get 1 = some (.ptr b 0) ∧ T'.get 2 = some (.ptr (b + 1) 0) ∧ T'.get 3 = some (.ptr (b + 2) 0) ∧ T'.get 4 = some (.int .i64 i) ∧ T'.get 5 = some (.ptr y 0) ∧ ∃ oi cs, σ2.get y = some (.row 2 true [.int .i64 shs[i].name, oi]) ∧ y + 1 ≤ σ2.next ∧ (∀ s, s < y → σ2.get s = σ'.get s) ∧ Deep (d + 2) (y + 1) σ2 1 false oi shs[i].data.length cs (shs[i].data.map prtN) ∧ (shs[i].data.length = 0 → oi = .vs .nil [])) := by
        rw [← hL2]
        refine exec_loop (fun j T σ2 => j ≤ shs[i].data.length ∧ T.get 1 = some (.ptr b 0) ∧ T.get 2 = some (.ptr (b + 1) 0) ∧ T.get 3 = some (.ptr (b + 2) 0) ∧ T.get 4 = some (.int .i64 i) ∧ T.get 5 = some (.ptr y 0) ∧ T.get 6 = some (.int .i64 j) ∧ ∃ oi cs, σ2.get y = some (.row 2 true [.int .i64 shs[i].name, oi]) ∧ y + 1 ≤ σ2.next ∧ (∀ s, s < y → σ2.get s = σ'.get s) ∧ Deep (d + 2) (y + 1) σ2 1 false oi j cs ((shs[i].data.take j).map prtN) ∧ (j = 0 → oi = .vs .nil [])) shs[i].data.length (by omega) ?_ ?_ ?_
        · rintro j hj T σ2 ⟨_, t1, t2, t3, t4, t5, t6, oi, cs, n1, n2, n3, n4, n5⟩
          have hlt : (j : Int) < shs[i].data.length := by omega
          have hw := i64_succ (i := j) (by omega)
          have g0 : σ2.get b = some (.row 1 true [.vs lk (shs.map shV)]) := by rw [n3 b (by omega)]; exact m0
          have hg := part_get hj
          obtain ⟨rp, σ3, c1, c2, c3, c4, c5⟩ := copy_at (σ := σ2) (.vs shs[i].data[j].1 (bytesV shs[i].data[j].2)) (bs := shs[i].data[j].2) (fun σ => source_bytes σ _ _) (by have := d2 _ (List.getElem_mem hj); omega)
          have n4' : Deep (d + 2) (y + 1) σ3 1 false oi j cs ((shs[i].data.take j).map prtN) := n4.same c2.1 fun s _ h => c2.2 s h
          have hx : ReadsL (d + 2) (y + 1) σ3 (rowOf oi) [.slice rp 0 shs[i].data[j].2.length (capOf shs[i].data[j].2) 1] [prtN shs[i].data[j]] := by
            refine ⟨[rp] ++ [], ?_, fun s hs => ?_⟩
            · have := snap_bytes (fr := false) (σ := σ3) (d := d) (r := rp) (bs := shs[i].data[j].2) (more := []) (cap := capOf shs[i].data[j].2) rfl (by rw [List.append_nil]; exact c5)
              simp only [snapL, this, prtN]
            · simp only [List.append_nil, List.mem_singleton] at hs
              subst hs
              exact ⟨by omega, c4, fun h => by have := (n4.1.rows _ h).2.1; omega⟩
          obtain ⟨σ4, a1, a2, a3, a4⟩ := Deep.one (e := tyPart) n4' hx (by have := c2.1; omega) rfl (by decide) (by decide) (by decide) (by simp only [tyPart, mostBytes]; omega) rfl
          simp only [tyPart, TyI.isAgg] at a1 a2
          have k1 : σ4.get y = some (.row 2 true [.int .i64 shs[i].name, oi]) := by rw [a4 y (by omega), c2.2 y (by omega)]; exact n1
          have k0 : σ3.get y = some (.row 2 true [.int .i64 shs[i].name, oi]) := by rw [c2.2 y (by omega)]; exact n1
          have qy : ¬ σ2.next = y := by omega
          have qy0 : ¬ σ2.next = b := by omega
          refine ⟨_, _, by
            simp only [runOps, runD, again, step1, wantA, opSem, evalO, evalL, evalOpt, evalParts, putA, ofConst, ofScalar, ofScalars, abin, abinInt, aun, convA, builtinA, oneTy, elemTy, loadA, storeA, storeCellsA, setAt, partA, fillA, placesA, isFn, TyI.isAgg, isSeq, isNum, sliceA, boundA, setParams, minL, minF, maxL, maxF, repZ, reduceIte, Nat.reduceLT, Nat.reduceLeDiff, Nat.reduceEqDiff, Nat.reduceAdd, Nat.reduceMul, Nat.reduceSub, Nat.reduceBEq, Int.reduceEq, Int.reduceLT, Int.reduceLE, Int.reduceToNat, reduceCtorEq, sx, fx10, Nat.add_assoc, Nat.add_eq_left, Nat.left_eq_add, Nat.add_left_cancel_iff, t1, t2, t3, t4, t5, t6, hli, hlt, Int.natCast_nonneg, Int.toNat_natCast, g0, sh_get hi, List.length_map, hg, n1, qy, qy0, c1, a1, k0, k1, hw]
            rfl, hj, ?_, ?_, ?_, ?_, ?_, ?_, .slice (σ3.next + 1) 0 (j + 1) none 1, cs ++ [.slice rp 0 shs[i].data[j].2.length (capOf shs[i].data[j].2) 1], ?_, ?_, ?_, ?_, fun h => by simp at h⟩
          · simp only [Tr.get_set, Nat.reduceEqDiff, reduceIte, t1]
          · simp only [Tr.get_set, Nat.reduceEqDiff, reduceIte, t2]
          · simp only [Tr.get_set, Nat.reduceEqDiff, reduceIte, t3]
          · simp only [Tr.get_set, Nat.reduceEqDiff, reduceIte, t4]
          · simp only [Tr.get_set, Nat.reduceEqDiff, reduceIte, t5]
          · simp only [Tr.get_set, Nat.reduceEqDiff, reduceIte]
          · rw [AMem.get_put, if_pos rfl]
          · simp only [AMem.next_put]; have := c2.1; omega
          · intro s h1
            rw [AMem.get_put, if_neg (by omega), a4 s (by omega), c2.2 s (by omega), n3 s h1]
          · rw [List.take_succ_eq_append_getElem hj, List.map_append]
            exact a2.same (by simp) fun s h1 h2 => by rw [AMem.get_put, if_neg (by omega)]
        · rintro T σ2 ⟨_, t1, t2, t3, t4, t5, t6, oi, cs, n1, n2, n3, n4, n5⟩
          rw [List.take_length] at n4
          have g0 : σ2.get b = some (.row 1 true [.vs lk (shs.map shV)]) := by rw [n3 b (by omega)]; exact m0
          exact ⟨_, _, _, by
            simp only [runOps, runD, again, step1, wantA, opSem, evalO, evalL, evalOpt, evalParts, putA, ofConst, ofScalar, ofScalars, abin, abinInt, aun, convA, builtinA, oneTy, elemTy, loadA, storeA, storeCellsA, setAt, partA, fillA, placesA, isFn, TyI.isAgg, isSeq, isNum, sliceA, boundA, setParams, minL, minF, maxL, maxF, repZ, reduceIte, Nat.reduceLT, Nat.reduceLeDiff, Nat.reduceEqDiff, Nat.reduceAdd, Nat.reduceMul, Nat.reduceSub, Nat.reduceBEq, Int.reduceEq, Int.reduceLT, Int.reduceLE, Int.reduceToNat, reduceCtorEq, sx, fx10, Nat.add_assoc, Nat.add_eq_left, Nat.left_eq_add, Nat.add_left_cancel_iff, t1, t2, t3, t4, t5, t6, hli, Int.natCast_nonneg, Int.toNat_natCast, g0, sh_get hi, List.length_map, Int.lt_irrefl]
            rfl, by simp, rfl, by simp only [Tr.get_set, Nat.reduceEqDiff, reduceIte, t1], by simp only [Tr.get_set, Nat.reduceEqDiff, reduceIte, t2], by simp only [Tr.get_set, Nat.reduceEqDiff, reduceIte, t3], by simp only [Tr.get_set, Nat.reduceEqDiff, reduceIte, t4], by simp only [Tr.get_set, Nat.reduceEqDiff, reduceIte, t5], oi, cs, n1, n2, n3, n4, n5⟩
        · refine ⟨Nat.zero_le _, ?_, ?_, ?_, ?_, ?_, ?_, .vs .nil [], [], ?_, ?_, ?_, Deep.start _ _ _ _ _, fun _ => rfl⟩
          · simp only [Tr.get_set, Nat.reduceEqDiff, reduceIte, t1]
          · simp only [Tr.get_set, Nat.reduceEqDiff, reduceIte, t2]
          · simp only [Tr.get_set, Nat.reduceEqDiff, reduceIte, t3]
          · simp only [Tr.get_set, Nat.reduceEqDiff, reduceIte, t4]
          · simp only [Tr.get_set, Nat.reduceEqDiff, reduceIte]
          · simp only [Tr.get_set, Nat.reduceEqDiff, reduceIte]; rfl
          · simp only [AMem.get_put, AMem.get_push, AMem.next_put, AMem.next_push, ← hy, reduceIte]
          · simp only [AMem.next_put, AMem.next_push]; omega
          · intro s h1
            simp only [AMem.get_put, AMem.get_push, AMem.next_put, AMem.next_push, ← hy, show ¬ y = s by omega, if_false]
      have hro := n4.1.oneC
      have hrows := m5.1.rows
      have m5' : Deep (d + 3) (b + 3) σ2 2 true out i ls.flatten ((shs.take i).map shN).flatten := m5.same (by omega) fun s _ h => n3 s (by omega)
      have hx : ReadsL (d + 3) (b + 3) σ2 (rowOf out) [.int .i64 shs[i].name, oi] (shN shs[i]) := by
        have h1 : ReadsL (d + 3) (b + 3) σ2 (rowOf out) [.int .i64 shs[i].name] [.int .i64 shs[i].name] := ReadsL.pure rfl
        have h2 := Deep.ones (d := d + 1) n4 n5 (prtN_one _) (rowOf out) (fun s hs => by have := (hrows s hs).2.1; omega)
        exact h1.append (h2.same (low' := b + 3) (by omega) (Nat.le_refl _) (fun _ _ _ _ => rfl) fun _ _ _ h => h)
      obtain ⟨σ3, a1, a2, a3, a4⟩ := Deep.one (e := tySh) m5' hx (by omega) rfl (by decide) (by decide) (by decide) (by simp only [tySh, mostBytes]; omega) (by simp only [List.all_cons, List.all_nil, hro]; rfl)
      simp only [tySh, TyI.isAgg] at a1 a2
      have k2 : σ2.get (b + 2) = some (.row 1 true [out]) := by rw [n3 _ (by omega)]; exact m2
      have k3 : σ3.get (b + 2) = some (.row 1 true [out]) := by rw [a4 _ (by omega)]; exact k2
      have k1 : σ3.get (b + 1) = some (.row 1 true [.vs .nil []]) := by rw [a4 _ (by omega), n3 _ (by omega)]; exact m1
      have k0 : σ3.get b = some (.row 1 true [.vs lk (shs.map shV)]) := by rw [a4 _ (by omega), n3 _ (by omega)]; exact m0
      have ho := m5.1.oneC
      simp only [runOps, runD, again, step1, wantA, opSem, evalO, evalL, evalOpt, evalParts, putA, ofConst, ofScalar, ofScalars, abin, abinInt, aun, convA, builtinA, oneTy, elemTy, loadA, storeA, storeCellsA, setAt, partA, fillA, placesA, isFn, TyI.isAgg, isSeq, isNum, sliceA, boundA, setParams, minL, minF, maxL, maxF, repZ, reduceIte, Nat.reduceLT, Nat.reduceLeDiff, Nat.reduceEqDiff, Nat.reduceAdd, Nat.reduceMul, Nat.reduceSub, Nat.reduceBEq, Int.reduceEq, Int.reduceLT, Int.reduceLE, Int.reduceToNat, reduceCtorEq, sx, fx10, Nat.add_assoc, Nat.add_eq_left, Nat.left_eq_add, Nat.add_left_cancel_iff, u1, u2, u3, u4, u5, n1, k2, k3, a1, ho, hw]
      refine ⟨_, _, rfl, hi, ?_, ?_, ?_, ?_, .slice (σ2.next + 1) 0 (i + 1) none 2, ls ++ [[.int .i64 shs[i].name, oi]], ?_, ?_, ?_, ?_, ?_, ?_, ?_, ?_, fun h => by simp at h⟩
      · simp only [Tr.get_set, Nat.reduceEqDiff, reduceIte, u1]
      · simp only [Tr.get_set, Nat.reduceEqDiff, reduceIte, u2]
      · simp only [Tr.get_set, Nat.reduceEqDiff, reduceIte, u3]
      · simp only [Tr.get_set, Nat.reduceEqDiff, reduceIte]
      · rw [AMem.get_put, if_neg (by omega)]; exact k0
      · rw [AMem.get_put, if_neg (by omega)]; exact k1
      · rw [AMem.get_put, if_pos rfl]
      · refine Ext.put ⟨by have := m3.1; omega, fun s hs => ?_⟩ _ _ (by omega)
        rw [a4 s (by omega), n3 s (by omega)]
        exact m3.2 s hs
      · simp only [AMem.next_put]; omega
      · rw [List.take_succ_eq_append_getElem hi, List.map_append, List.flatten_append, List.flatten_append]
        simp only [List.map_cons, List.map_nil, List.flatten_cons, List.flatten_nil, List.append_nil]
        exact a2.same (by simp) fun s h1 h2 => by rw [AMem.get_put, if_neg (by omega)]
      · simp [m6]
      · intro l hl
        rcases List.mem_append.1 hl with h | h
        · exact m7 l h
        · rw [List.mem_singleton.1 h]; rfl
    · rintro T σ' ⟨_, t1, t2, t3, t4, out, ls, m0, m1, m2, m3, m4, m5, m6, m7, m8⟩
      rw [List.take_length] at m5
      refine ⟨_, _, _, by
        simp only [runOps, runD, again, step1, wantA, opSem, evalO, evalL, evalOpt, evalParts, putA, ofConst, ofScalar, ofScalars, abin, abinInt, aun, convA, builtinA, oneTy, elemTy, loadA, storeA, storeCellsA, setAt, partA, fillA, placesA, isFn, TyI.isAgg, isSeq, isNum, sliceA, boundA, setParams, minL, minF, maxL, maxF, repZ, reduceIte, Nat.reduceLT, Nat.reduceLeDiff, Nat.reduceEqDiff, Nat.reduceAdd, Nat.reduceMul, Nat.reduceSub, Nat.reduceBEq, Int.reduceEq, Int.reduceLT, Int.reduceLE, Int.reduceToNat, reduceCtorEq, sx, fx10, Nat.add_assoc, Nat.add_eq_left, Nat.left_eq_add, Nat.add_left_cancel_iff, t1, t2, t3, t4, m0, m1, m2, List.length_map, Int.lt_irrefl]
        rfl, by simp, rfl, ?_, ?_, out, ls, m1, m2, m3, m4, m5, m6, m7, m8⟩
      · simp only [Tr.get_set, Nat.reduceEqDiff, reduceIte, t2]
      · simp only [Tr.get_set, Nat.reduceEqDiff, reduceIte, t3]
    · refine ⟨Nat.zero_le _, ?_, ?_, ?_, ?_, .vs .nil [], [], ?_, ?_, ?_, ?_, ?_, Deep.start _ _ _ _ _, rfl, by simp, fun _ => rfl⟩
      · simp only [Tr.get_set, Nat.reduceEqDiff, reduceIte]
      · simp only [Tr.get_set, Nat.reduceEqDiff, reduceIte]
      · simp only [Tr.get_set, Nat.reduceEqDiff, reduceIte]
      · simp only [Tr.get_set, Nat.reduceEqDiff, reduceIte]; rfl
      · simp only [AMem.get_put, AMem.get_push, AMem.next_push, AMem.next_put, ← hbn, Nat.add_assoc, Nat.reduceAdd, Nat.add_eq_left, Nat.left_eq_add, Nat.add_left_cancel_iff, Nat.reduceEqDiff, reduceIte]
      · simp only [AMem.get_put, AMem.get_push, AMem.next_push, AMem.next_put, ← hbn, Nat.add_assoc, Nat.reduceAdd, Nat.add_eq_left, Nat.left_eq_add, Nat.add_left_cancel_iff, Nat.reduceEqDiff, reduceIte]
      · simp only [AMem.get_put, AMem.get_push, AMem.next_push, AMem.next_put, ← hbn, Nat.add_assoc, Nat.reduceAdd, Nat.add_eq_left, Nat.left_eq_add, Nat.add_left_cancel_iff, Nat.reduceEqDiff, reduceIte]
      · exact (((Ext.push _ _).trans (Ext.push _ _)).trans (Ext.push _ _)).put _ _ (by omega)
      · simp [← hbn]
  have ho := m5.1.oneC
  simp only [runOps, runD, again, step1, wantA, opSem, evalO, evalL, evalOpt, evalParts, putA, ofConst, ofScalar, ofScalars, abin, abinInt, aun, convA, builtinA, oneTy, elemTy, loadA, storeA, storeCellsA, setAt, partA, fillA, placesA, isFn, TyI.isAgg, isSeq, isNum, sliceA, boundA, setParams, minL, minF, maxL, maxF, repZ, reduceIte, Nat.reduceLT, Nat.reduceLeDiff, Nat.reduceEqDiff, Nat.reduceAdd, Nat.reduceMul, Nat.reduceSub, Nat.reduceBEq, Int.reduceEq, Int.reduceLT, Int.reduceLE, Int.reduceToNat, reduceCtorEq, sx, fx10, Nat.add_assoc, Nat.add_eq_left, Nat.left_eq_add, Nat.add_left_cancel_iff, f2, f3, m1, m2, ho]
  refine ⟨_, _, out, ls, rfl, ?_, m3.put (b + 1) _ (by omega), m5.same (by simp) fun s h1 h2 => by rw [AMem.get_put, if_neg (by omega)], m6, m7, m8⟩
  simp only [Tryz.f10, resultsA, resultA, runOps, runD, again, step1, wantA, opSem, evalO, evalL, evalOpt, evalParts, putA, ofConst, ofScalar, ofScalars, abin, abinInt, aun, convA, builtinA, oneTy, elemTy, loadA, storeA, storeCellsA, setAt, partA, fillA, placesA, isFn, TyI.isAgg, isSeq, isNum, sliceA, boundA, setParams, minL, minF, maxL, maxF, repZ, reduceIte, Nat.reduceLT, Nat.reduceLeDiff, Nat.reduceEqDiff, Nat.reduceAdd, Nat.reduceMul, Nat.reduceSub, Nat.reduceBEq, Int.reduceEq, Int.reduceLT, Int.reduceLE, Int.reduceToNat, reduceCtorEq, sx, fx10, Nat.add_assoc, Nat.add_eq_left, Nat.left_eq_add, Nat.add_left_cancel_iff, f2]
theorem rcopy_call (lk : VK) (shs : List Sh) (hn : shs.length ≤ 1000) (hd : ∀ s, s ∈ shs → s.data.length ≤ 1000 ∧ ∀ p, p ∈ s.data → p.2.length ≤ 1000) (hk : 3001 ≤ k) : pureCall lawProg (callN lawProg k) (.func 10 [] []) [.agg [.vs lk (shs.map shV)]] σ = some (.agg [.vs (lkOf shs.length) ((shs.map normS).map shV)], σ) := by
  obtain ⟨k, rfl⟩ : ∃ m, k = m + 1 := ⟨k - 1, by omega⟩
  obtain ⟨T1, σ1, out, ls, h1, h2, h3, h4, h5, h6, h7⟩ := rcopy_exec (k := k) (σ := AMem.empty) 7 lk shs hn hd (by omega)
  obtain ⟨S, hs⟩ := Deep.recs (d := 9) (ps := shs.map shN) h4 h7 h5.symm (by decide) (by simp [h5]) h6 (fun l hl => by
    obtain ⟨s, _, rfl⟩ := List.mem_map.1 hl
    rfl)
  have hs2 : snapF false σ1 12 (.agg [out]) = some (.agg [.vs (lkOf shs.length) ((shs.map normS).map shV)], S ++ []) := by
    show (snapL (snapF false σ1 11) [out]).map (fun (l, a) => (AVal.agg l, a)) = _
    simp only [snapL, hs, Option.map_some, List.map_map]
    rw [show (AVal.agg ∘ shN) = (shV ∘ normS) from funext fun s => shN_norm s]
  obtain ⟨b, h⟩ := pureRun_any fn10 rfl (by simp [Tryz.f10]) h1 (by simp) h2 hs2
  exact pureCall_of0 (args' := [.agg [.vs lk (shs.map shV)]]) rfl (memo10 _) h
end Go.Proofs.YtkamjhhodnmoiaaGreatDoor

/- pack.Add keeps a sorter right: no program in sight. -/
set_option maxRecDepth 100000
set_option linter.unusedSimpArgs false
set_option linter.unusedVariables false
namespace Go.Proofs.YtkamjhhodnmoiaaGreatDoor
open Go Go.Proofs.YtkamjhhodnmoiaaGreatDoor.Pale

def names (l : List Sh) : List Int := l.map (·.name)
theorem fresh_nodup (shs : List Sh) : (∀ i (hi : i < shs.length), ((shs.take i).any fun o => o.name == shs[i].name) = false) ↔ (names shs).Nodup := by
  unfold names List.Nodup
  rw [List.pairwise_map, List.pairwise_iff_getElem]
  constructor
  · intro h i j hi hj hij e
    have := h j hj
    rw [List.any_eq_false] at this
    have h2 := this shs[i] (List.mem_iff_getElem.2 ⟨i, by rw [List.length_take]; omega, by rw [List.getElem_take]⟩)
    simp [e] at h2
  · intro h i hi
    rw [List.any_eq_false]
    intro o ho
    obtain ⟨j, hj, rfl⟩ := List.mem_iff_getElem.1 ho
    rw [List.length_take] at hj
    rw [List.getElem_take]
    have := h j i (by omega) hi (by omega)
    simpa using this
theorem sorterOk_iff (l : List Sh) : SorterOk l ↔ l.length ≤ 4 ∧ (names l).Nodup ∧ ∀ s, s ∈ l → sheafB s = true := by
  unfold SorterOk
  rw [fresh_nodup]
theorem SorterOk.map {l : List Sh} (f : Sh → Sh) (hn : ∀ s, (f s).name = s.name) (hb : ∀ s, sheafB (f s) = sheafB s) (h : SorterOk l) : SorterOk (l.map f) := by
  rw [sorterOk_iff] at h ⊢
  obtain ⟨h1, h2, h3⟩ := h
  refine ⟨by rw [List.length_map]; exact h1, ?_, fun s hs => ?_⟩
  · rw [show names (l.map f) = names l by unfold names; rw [List.map_map]; exact List.map_congr_left fun s _ => hn s]
    exact h2
  · obtain ⟨t, ht, rfl⟩ := List.mem_map.1 hs
    rw [hb]; exact h3 t ht
theorem sheafB_norm (s : Sh) : sheafB (normS s) = sheafB s := by
  unfold sheafB
  rw [any_empty, any_full, any_great, any_empty, any_full, any_great]
  simp only [normS, List.length_map, List.any_map]
  rfl
theorem SorterOk.norm {l : List Sh} (h : SorterOk l) : SorterOk (l.map normS) := h.map normS (fun _ => rfl) sheafB_norm
theorem SorterOk.dk {l : List Sh} (h : SorterOk l) : SorterOk (l.map dkS) := h.map dkS (fun _ => rfl) fun _ => rfl
theorem place_none {n : Int} {l : List Sh} (h : ¬ placeI n l ≥ 0) : ∀ s, s ∈ l → s.name ≠ n := by
  intro s hs e
  apply h
  have := idxI_any (sameName n) (l.map shV)
  have h2 : (l.map shV).any (sameName n) = true := by
    rw [List.any_eq_true]
    exact ⟨shV s, List.mem_map.2 ⟨s, hs, rfl⟩, by rw [sameName_sh]; simpa using e⟩
  rw [h2] at this
  simpa [placeI] using this
theorem place_lt {n : Int} {l : List Sh} (h : ∀ s, s ∈ l → s.name ≠ n) : placeI n l < 0 := by
  have := idxI_any (sameName n) (l.map shV)
  have h2 : (l.map shV).any (sameName n) = false := by
    rw [List.any_eq_false]
    intro v hv
    obtain ⟨s, hs, rfl⟩ := List.mem_map.1 hv
    rw [sameName_sh]
    simpa using h s hs
  rw [h2] at this
  simpa [placeI] using this
theorem find_names (shs : List Sh) (n : Int) (of : Nat) (h : (names shs).Nodup) (h4 : shs.length ≤ 4) : (names (findL shs n of).1).Nodup ∧ (findL shs n of).1.length ≤ 4 ∧ ∀ s, s ∈ (findL shs n of).1 → s ∈ shs ∨ s = newSh n of := by
  have hF : (names (shs.filter (keepS n of))).Nodup := h.sublist (List.filter_sublist.map _)
  have hl := List.length_filter_le (keepS n of) shs
  unfold findL
  by_cases hp : placeI n (shs.filter (keepS n of)) ≥ 0
  · rw [if_pos hp]
    exact ⟨hF, by simp only; omega, fun s hs => .inl (List.mem_filter.1 hs).1⟩
  · rw [if_neg hp]
    have hno := place_none hp
    have hN : (names (shs.filter (keepS n of) ++ [newSh n of])).Nodup := by
      unfold names List.Nodup
      rw [List.map_append, List.pairwise_append]
      refine ⟨hF, by simp, fun x hx y hy => ?_⟩
      obtain ⟨s, hs, rfl⟩ := List.mem_map.1 hx
      simp only [List.map_cons, List.map_nil, List.mem_singleton] at hy
      subst hy
      exact hno s hs
    have hM : ∀ s, s ∈ shs.filter (keepS n of) ++ [newSh n of] → s ∈ shs ∨ s = newSh n of := fun s hs => by
      rcases List.mem_append.1 hs with h | h
      · exact .inl (List.mem_filter.1 h).1
      · exact .inr (List.mem_singleton.1 h)
    split
    · exact ⟨hN.sublist ((List.drop_sublist 1 _).map _), by simp only [List.length_drop, List.length_append, List.length_singleton]; omega, fun s hs => hM s (List.mem_of_mem_drop hs)⟩
    · exact ⟨hN, by simp only [List.length_append, List.length_singleton]; omega, hM⟩
theorem partsOf_len (l : List Part) (a : Nat) (d : List Nat) : (partsOf l a d).length = l.length := by
  unfold partsOf
  split
  · split
    · rw [List.length_set]
    · rfl
  · rfl
theorem partsOf_small {l : List Part} {a m : Nat} {d : List Nat} (h : ∀ p, p ∈ l → p.2.length ≤ m) (hd : d.length ≤ m) : ∀ p, p ∈ partsOf l a d → p.2.length ≤ m := by
  intro p hp
  unfold partsOf at hp
  split at hp
  · split at hp
    · rcases List.mem_or_eq_of_mem_set hp with h2 | rfl
      · exact h p h2
      · exact hd
    · exact h p hp
  · exact h p hp
theorem partsOf_full {l : List Part} {a : Nat} {d : List Nat} (ha : a < l.length) (hd : 0 < d.length) : ∃ p, p ∈ partsOf l a d ∧ p.2.length ≠ 0 := by
  unfold partsOf
  rw [List.getElem?_eq_getElem ha]
  simp only
  split
  · exact ⟨(.some, d), List.mem_iff_getElem.2 ⟨a, by rw [List.length_set]; exact ha, by rw [List.getElem_set_self]⟩, by simp only; omega⟩
  · rename_i h
    exact ⟨l[a], List.getElem_mem ha, h⟩
theorem catL_ge {ps : List Part} (h : ps.any emptyQ = false) : ps.length ≤ (catL ps).length := by
  induction ps with
  | nil => simp
  | cons p ps ih =>
    simp only [List.any_cons, Bool.or_eq_false_iff, emptyQ, decide_eq_false_iff_not] at h
    have := ih h.2
    have h1 := h.1
    simp only [catL, List.flatMap_cons, List.length_append, List.length_cons] at this ⊢
    omega

theorem addL_ok {shs : List Sh} {n : Int} {of a : Nat} {d : List Nat} (hs : SorterOk shs) (hc : OkC n (a : Nat) (of : Nat) d) : SorterOk (addL shs n of a d).1 ∧ (addL shs n of a d).2.length ≤ of * 100 ∧ ((addL shs n of a d).2 ≠ [] → of ≤ (addL shs n of a d).2.length ∧ ∀ s, s ∈ (addL shs n of a d).1 → s.name ≠ n) := by
  obtain ⟨⟨c1, c2⟩, ⟨c3, c4⟩, ⟨c5, c5'⟩, ⟨c6, c7⟩⟩ := id hc
  obtain ⟨s1, s2, s3⟩ := (sorterOk_iff _).1 hs
  obtain ⟨i, hi, e1, e2, e3⟩ := find_spec shs n of
  obtain ⟨f1, f2, f3⟩ := find_names shs n of s2 s1
  have hsm : ∀ s, s ∈ (findL shs n of).1 → ∀ p, p ∈ s.data → p.2.length ≤ 100 := find_parts n of (fun p => p.2.length ≤ 100) (by simp) (fun s h => ((sheafB_eq s).1 (s3 s h)).2.2.2.2)
  unfold addL
  rw [e1]
  simp only [Int.toNat_natCast, List.getElem?_eq_getElem hi]
  generalize (findL shs n of).1 = F at *
  have hpl : (partsOf F[i].data a d).length = of := by rw [partsOf_len, e3]
  have hsm1 := partsOf_small (a := a) (d := d) (m := 100) (hsm _ (List.getElem_mem hi)) (by omega)
  obtain ⟨pf, pf1, pf2⟩ := partsOf_full (l := F[i].data) (a := a) (d := d) (by omega) (by omega)
  generalize partsOf F[i].data a d = ps at *
  have other : ∀ m (hm : m < F.length), m ≠ i → F[m].name ≠ n ∧ sheafB F[m] = true := by
    intro m hm hne
    have hnm : F[m].name ≠ n := by
      unfold names List.Nodup at f1
      rw [List.pairwise_map, List.pairwise_iff_getElem] at f1
      rcases Nat.lt_or_ge m i with h | h
      · have := f1 m i hm hi h; rw [e2] at this; exact this
      · have := f1 i m hi hm (by omega); rw [e2] at this; exact fun e => this e.symm
    refine ⟨hnm, ?_⟩
    rcases f3 _ (List.getElem_mem hm) with h | h
    · exact s3 _ h
    · exact absurd (by rw [h]; rfl) hnm
  by_cases hany : ps.any emptyQ = true
  · rw [if_pos hany]
    refine ⟨(sorterOk_iff _).2 ⟨by rw [List.length_set]; exact f2, ?_, fun s hs => ?_⟩, by simp, fun h => absurd rfl h⟩
    · rw [show names (F.set i { F[i] with data := ps }) = names F from set_same' _ hi rfl]
      exact f1
    · obtain ⟨m, hm, rfl⟩ := List.mem_iff_getElem.1 hs
      rw [List.length_set] at hm
      rw [List.getElem_set]
      split
      · rw [sheafB_eq]
        simp only
        have k1 := (countP_any emptyQ ps).1.1 hany
        have k2 := (countP_any emptyQ ps).2.1 (by rw [List.any_eq_true]; exact ⟨pf, pf1, by simp [emptyQ]; exact fun h => pf2 (by rw [h]; rfl)⟩)
        exact ⟨by rw [e2]; exact ⟨c5, c5'⟩, by omega, k1, k2, hsm1⟩
      · rename_i h
        exact (other m hm (Ne.symm h)).2
  · rw [if_neg hany]
    have hanyF : ps.any emptyQ = false := by simpa using hany
    have h1 := catL_ge hanyF
    have h2 := catL_bound ps 100 hsm1
    rw [hpl] at h1 h2
    have hmem : ∀ s, s ∈ F.eraseIdx i → ∃ m, ∃ hm : m < F.length, m ≠ i ∧ F[m] = s := fun s hs => by
      rw [List.mem_eraseIdx_iff_getElem] at hs
      obtain ⟨m, hm, h, e⟩ := hs
      exact ⟨m, hm, h, e⟩
    refine ⟨(sorterOk_iff _).2 ⟨by rw [List.length_eraseIdx]; split <;> omega, f1.sublist ((List.eraseIdx_sublist _ _).map _), fun s hs => ?_⟩, h2, fun _ => ⟨h1, fun s hs => ?_⟩⟩
    · obtain ⟨m, hm, h, rfl⟩ := hmem s hs
      exact (other m hm h).2
    · obtain ⟨m, hm, h, rfl⟩ := hmem s hs
      exact (other m hm h).1
end Go.Proofs.YtkamjhhodnmoiaaGreatDoor

/- Chunks as arguments: how they read. -/
set_option linter.unusedVariables false
namespace Go.Proofs.YtkamjhhodnmoiaaGreatDoor
open Go Go.Proofs.YtkamjhhodnmoiaaGreatDoor.Pale
variable {P : Program} {tl tc tb tu ti n : Nat}

structure Ck where
  name : Int
  at_ : Int
  of : Int
  vk : VK
  d : List Nat
def ckV (c : Ck) : AVal := .agg [.int .i64 c.name, .int .i64 c.at_, .int .i64 c.of, .vs c.vk (bytesV c.d)]
theorem ck_get {l : List Ck} {i : Nat} (hi : i < l.length) : (l.map ckV)[i]? = some (.agg [.int .i64 l[i].name, .int .i64 l[i].at_, .int .i64 l[i].of, .vs l[i].vk (bytesV l[i].d)]) := by rw [List.getElem?_map, List.getElem?_eq_getElem hi]; rfl

theorem elem_chunk {x : AVal} (hc : rkOf P tc = .agg [(ti, 0), (ti, 1), (ti, 2), (tb, 3)]) (cc : P.cellsOf tc = 4) (ci : P.cellsOf ti = 1) (cb : P.cellsOf tb = 1) (hi : rkOf P ti = .int .i64) (hb : rkOf P tb = .slice tu) (hu : rkOf P tu = .int .u8) (h : ElemFit P n tc x) : ∃ c : Ck, x = ckV c ∧ ∀ b, b ∈ c.d → b < 256 := by
  obtain ⟨cs, m, rfl, hlen, hall⟩ := elem_agg hc h
  rw [cc] at hlen
  obtain ⟨a, b, c, d, rfl⟩ : ∃ a b c d, cs = [a, b, c, d] := by
    match cs, hlen with
    | [a, b, c, d], _ => exact ⟨a, b, c, d, rfl⟩
  have h0 := hall (ti, 0) (by simp)
  have h1 := hall (ti, 1) (by simp)
  have h2 := hall (ti, 2) (by simp)
  have h3 := hall (tb, 3) (by simp)
  simp only [ci, cb, List.drop_zero, List.drop_succ_cons, List.take_succ_cons, List.take_zero] at h0 h1 h2 h3
  obtain ⟨x, e0, _⟩ := fit_int hi h0
  obtain ⟨y, e1, _⟩ := fit_int hi h1
  obtain ⟨z, e2, _⟩ := fit_int hi h2
  obtain ⟨vk, bs, e3, _, _, e4⟩ := fit_bytes hb hu h3
  simp only [List.cons.injEq, and_true] at e0 e1 e2 e3
  subst e0; subst e1; subst e2; subst e3
  exact ⟨⟨x, y, z, vk, bs⟩, rfl, e4⟩
theorem elem_chunks {x : AVal} (hl : rkOf P tl = .slice tc) (hc : rkOf P tc = .agg [(ti, 0), (ti, 1), (ti, 2), (tb, 3)]) (cc : P.cellsOf tc = 4) (ci : P.cellsOf ti = 1) (cb : P.cellsOf tb = 1) (hi : rkOf P ti = .int .i64) (hb : rkOf P tb = .slice tu) (hu : rkOf P tu = .int .u8) (h : ElemFit P n tl x) : ∃ (vk : VK) (cs : List Ck), x = .vs vk (cs.map ckV) := by
  obtain ⟨m, vk, es, rfl, _, _, _, h2⟩ := elem_slice hl h
  obtain ⟨cs, rfl, _⟩ := list_form (f := ckV) (Q := fun c => ∀ b, b ∈ c.d → b < 256) es (fun x hx => elem_chunk hc cc ci cb hi hb hu (h2 x hx))
  exact ⟨vk, cs, rfl⟩
end Go.Proofs.YtkamjhhodnmoiaaGreatDoor

/- SameSorter on sorters that are the same. -/
set_option maxRecDepth 100000
set_option linter.unusedSimpArgs false
set_option linter.unusedVariables false
namespace Go.Proofs.YtkamjhhodnmoiaaGreatDoor
open Go Go.Proofs.YtkamjhhodnmoiaaGreatDoor.Pale
variable {k : Nat} {σ : AMem}

/-- The same names, and the same bytes in the same places. -/
def coreS (s : Sh) : Int × List (List Nat) := (s.name, s.data.map (·.2))
theorem core_at {xs zs : List Sh} (h : xs.map coreS = zs.map coreS) {i : Nat} (hi : i < xs.length) (hj : i < zs.length) : xs[i].name = zs[i].name ∧ xs[i].data.map (·.2) = zs[i].data.map (·.2) := by
  have h1 : (xs.map coreS)[i]'(by simpa using hi) = (zs.map coreS)[i]'(by simpa using hj) := by simp only [h]
  rw [List.getElem_map, List.getElem_map] at h1
  simpa [coreS] using h1
theorem part_at {xs zs : List Part} (h : xs.map (·.2) = zs.map (·.2)) {i : Nat} (hi : i < xs.length) (hj : i < zs.length) : xs[i].2 = zs[i].2 := by
  have h1 : (xs.map (·.2))[i]'(by simpa using hi) = (zs.map (·.2))[i]'(by simpa using hj) := by simp only [h]
  rw [List.getElem_map, List.getElem_map] at h1
  exact h1
theorem rsame_call (la lb : VK) (xs zs : List Sh) (h : xs.map coreS = zs.map coreS) (hn : xs.length ≤ 1000) (hd : ∀ s, s ∈ xs → s.data.length ≤ 1000) (hk : 2003 ≤ k) : pureCall lawProg (callN lawProg k) (.func 16 [] []) [.agg [.vs la (xs.map shV)], .agg [.vs lb (zs.map shV)]] σ = some (.bool true, σ) := by
  obtain ⟨k, rfl⟩ : ∃ m, k = m + 1 := ⟨k - 1, by omega⟩
  have hlen : zs.length = xs.length := by have := congrArg List.length h; simpa using this.symm
  have run : ∃ T1 σ1, execC lawProg (callN lawProg k) k 16 83 (bodyOf Tryz.f16) (initT 0 [.agg [.vs la (xs.map shV)], .agg [.vs lb (zs.map shV)]] .nil) AMem.empty = some (.ret, T1, σ1) ∧ T1.get 4 = some (.bool true) := by
    simp only [bodyOf, Tryz.f16, Option.getD_some, initT, runOps, runD, again, step1, wantA, opSem, evalO, evalL, evalOpt, evalParts, putA, ofConst, ofScalar, ofScalars, abin, abinInt, aun, convA, builtinA, oneTy, elemTy, loadA, storeA, storeCellsA, setAt, partA, fillA, placesA, isFn, TyI.isAgg, isSeq, isNum, sliceA, boundA, setParams, minL, minF, maxL, maxF, repZ, reduceIte, Nat.reduceLT, Nat.reduceLeDiff, Nat.reduceEqDiff, Nat.reduceAdd, Nat.reduceMul, Nat.reduceSub, Nat.reduceBEq, Int.reduceEq, Int.reduceLT, Int.reduceLE, Int.reduceToNat, reduceCtorEq, sx, fx16, List.length_map, hlen, bne_self_eq_false]
    generalize hL : execC _ _ _ _ _ (Code.loop _) _ _ = r
    obtain ⟨e, T', σ', rfl, _, rfl, _⟩ : ∃ e T' σ', r = some (e, T', σ') ∧ e ≠ .normal ∧ (e = .exit 0 ∧ True) := by
      rw [← hL]
      refine exec_loop (fun i T σ => i ≤ xs.length ∧ T.get 2 = some (.ptr 0 0) ∧ T.get 3 = some (.ptr 1 0) ∧ T.get 5 = some (.int .i64 i) ∧ σ.get 0 = some (.row 1 true [.vs la (xs.map shV)]) ∧ σ.get 1 = some (.row 1 true [.vs lb (zs.map shV)])) xs.length (by omega) ?_ ?_ ?_
      · rintro i hi T σ ⟨_, t2, t3, t5, m0, m1⟩
        have hlt : (i : Int) < xs.length := by omega
        have hib : i < zs.length := by omega
        have hw := i64_succ (i := i) (by omega)
        obtain ⟨e1, e2⟩ := core_at h hi hib
        have hdl := hd _ (List.getElem_mem hi)
        have hl2 : zs[i].data.length = xs[i].data.length := by have := congrArg List.length e2; simpa using this.symm
        simp only [runOps, runD, again, step1, wantA, opSem, evalO, evalL, evalOpt, evalParts, putA, ofConst, ofScalar, ofScalars, abin, abinInt, aun, convA, builtinA, oneTy, elemTy, loadA, storeA, storeCellsA, setAt, partA, fillA, placesA, isFn, TyI.isAgg, isSeq, isNum, sliceA, boundA, setParams, minL, minF, maxL, maxF, repZ, reduceIte, Nat.reduceLT, Nat.reduceLeDiff, Nat.reduceEqDiff, Nat.reduceAdd, Nat.reduceMul, Nat.reduceSub, Nat.reduceBEq, Int.reduceEq, Int.reduceLT, Int.reduceLE, Int.reduceToNat, reduceCtorEq, sx, fx16, t2, t3, t5, m0, m1, hlt, List.length_map, Int.natCast_nonneg, Int.toNat_natCast, sh_get hi, sh_get hib, hlen, e1, hl2, bne_self_eq_false]
        generalize hL2 : execC _ _ _ _ _ (Code.loop _) _ _ = r2
        obtain ⟨e, T2, σ2, rfl, _, rfl, u2, u3, u5, n0, n1⟩ : ∃ e T' σ2, r2 = some (e, T', σ2) ∧ e ≠ .normal ∧ (e = .exit 2 ∧ T'.get 2 = some (.ptr 0 0) ∧ T'.get 3 = some (.ptr 1 0) ∧ T'.get 5 = some (.int .i64 i) ∧ σ2.get 0 = some (.row 1 true [.vs la (xs.map shV)]) ∧ σ2.get 1 = some (.row 1 true [.vs lb (zs.map shV)])) := by
          rw [← hL2]
          refine exec_loop (fun j T σ => j ≤ xs[i].data.length ∧ T.get 2 = some (.ptr 0 0) ∧ T.get 3 = some (.ptr 1 0) ∧ T.get 5 = some (.int .i64 i) ∧ T.get 6 = some (.int .i64 j) ∧ σ.get 0 = some (.row 1 true [.vs la (xs.map shV)]) ∧ σ.get 1 = some (.row 1 true [.vs lb (zs.map shV)])) xs[i].data.length (by omega) ?_ ?_ ?_
          · rintro j hj T σ ⟨_, t2, t3, t5, t6, m0, m1⟩
            have hltj : (j : Int) < xs[i].data.length := by omega
            have hjb : j < zs[i].data.length := by omega
            have hwj := i64_succ (i := j) (by omega)
            have e3 := part_at e2 hj hjb
            refine ⟨_, _, by
              simp only [runOps, runD, again, step1, wantA, opSem, evalO, evalL, evalOpt, evalParts, putA, ofConst, ofScalar, ofScalars, abin, abinInt, aun, convA, builtinA, oneTy, elemTy, loadA, storeA, storeCellsA, setAt, partA, fillA, placesA, isFn, TyI.isAgg, isSeq, isNum, sliceA, boundA, setParams, minL, minF, maxL, maxF, repZ, reduceIte, Nat.reduceLT, Nat.reduceLeDiff, Nat.reduceEqDiff, Nat.reduceAdd, Nat.reduceMul, Nat.reduceSub, Nat.reduceBEq, Int.reduceEq, Int.reduceLT, Int.reduceLE, Int.reduceToNat, reduceCtorEq, sx, fx16, t2, t3, t5, t6, m0, m1, hlt, hltj, List.length_map, Int.natCast_nonneg, Int.toNat_natCast, sh_get hi, sh_get hib, part_get hj, part_get hjb, hlen, hl2, e3, bne_self_eq_false, source_bytes, bytesOf_bytes, abinStr, hwj]
              rfl, hj, ?_, ?_, ?_, ?_, m0, m1⟩
            all_goals simp only [Tr.get_set, Nat.reduceEqDiff, reduceIte, t2, t3, t5]
          · rintro T σ ⟨_, t2, t3, t5, t6, m0, m1⟩
            exact ⟨_, _, _, by
              simp only [runOps, runD, again, step1, wantA, opSem, evalO, evalL, evalOpt, evalParts, putA, ofConst, ofScalar, ofScalars, abin, abinInt, aun, convA, builtinA, oneTy, elemTy, loadA, storeA, storeCellsA, setAt, partA, fillA, placesA, isFn, TyI.isAgg, isSeq, isNum, sliceA, boundA, setParams, minL, minF, maxL, maxF, repZ, reduceIte, Nat.reduceLT, Nat.reduceLeDiff, Nat.reduceEqDiff, Nat.reduceAdd, Nat.reduceMul, Nat.reduceSub, Nat.reduceBEq, Int.reduceEq, Int.reduceLT, Int.reduceLE, Int.reduceToNat, reduceCtorEq, sx, fx16, t2, t3, t5, t6, m0, m1, hlt, List.length_map, Int.natCast_nonneg, Int.toNat_natCast, sh_get hi, Int.lt_irrefl]
              rfl, by simp, rfl, by simp only [Tr.get_set, Nat.reduceEqDiff, reduceIte, t2], by simp only [Tr.get_set, Nat.reduceEqDiff, reduceIte, t3], by simp only [Tr.get_set, Nat.reduceEqDiff, reduceIte, t5], m0, m1⟩
          · refine ⟨Nat.zero_le _, ?_, ?_, ?_, ?_, m0, m1⟩
            · simp only [Tr.get_set, Nat.reduceEqDiff, reduceIte, t2]
            · simp only [Tr.get_set, Nat.reduceEqDiff, reduceIte, t3]
            · simp only [Tr.get_set, Nat.reduceEqDiff, reduceIte, t5]
            · simp only [Tr.get_set, Nat.reduceEqDiff, reduceIte]; rfl
        simp only [runOps, runD, again, step1, wantA, opSem, evalO, evalL, evalOpt, evalParts, putA, ofConst, ofScalar, ofScalars, abin, abinInt, aun, convA, builtinA, oneTy, elemTy, loadA, storeA, storeCellsA, setAt, partA, fillA, placesA, isFn, TyI.isAgg, isSeq, isNum, sliceA, boundA, setParams, minL, minF, maxL, maxF, repZ, reduceIte, Nat.reduceLT, Nat.reduceLeDiff, Nat.reduceEqDiff, Nat.reduceAdd, Nat.reduceMul, Nat.reduceSub, Nat.reduceBEq, Int.reduceEq, Int.reduceLT, Int.reduceLE, Int.reduceToNat, reduceCtorEq, sx, fx16, u2, u3, u5, hw]
        refine ⟨_, _, rfl, hi, ?_, ?_, ?_, n0, n1⟩
        all_goals simp only [Tr.get_set, Nat.reduceEqDiff, reduceIte, u2, u3]
      · rintro T σ ⟨_, t2, t3, t5, m0, m1⟩
        exact ⟨_, _, _, by
          simp only [runOps, runD, again, step1, wantA, opSem, evalO, evalL, evalOpt, evalParts, putA, ofConst, ofScalar, ofScalars, abin, abinInt, aun, convA, builtinA, oneTy, elemTy, loadA, storeA, storeCellsA, setAt, partA, fillA, placesA, isFn, TyI.isAgg, isSeq, isNum, sliceA, boundA, setParams, minL, minF, maxL, maxF, repZ, reduceIte, Nat.reduceLT, Nat.reduceLeDiff, Nat.reduceEqDiff, Nat.reduceAdd, Nat.reduceMul, Nat.reduceSub, Nat.reduceBEq, Int.reduceEq, Int.reduceLT, Int.reduceLE, Int.reduceToNat, reduceCtorEq, sx, fx16, t2, t3, t5, m0, m1, List.length_map, Int.lt_irrefl]
          rfl, by simp, rfl, trivial⟩
      · refine ⟨Nat.zero_le _, ?_, ?_, ?_, ?_, ?_⟩
        · simp only [Tr.get_set, Nat.reduceEqDiff, reduceIte]
        · simp only [Tr.get_set, Nat.reduceEqDiff, reduceIte]
        · simp only [Tr.get_set, Nat.reduceEqDiff, reduceIte]; rfl
        · simp only [AMem.get_push, AMem.next_push, next_empty, Nat.reduceAdd, Nat.reduceEqDiff, reduceIte]
        · simp only [AMem.get_push, AMem.next_push, next_empty, Nat.reduceAdd, Nat.reduceEqDiff, reduceIte]
    simp only [runOps, runD, again, step1, wantA, opSem, evalO, evalL, evalOpt, evalParts, putA, ofConst, ofScalar, ofScalars, abin, abinInt, aun, convA, builtinA, oneTy, elemTy, loadA, storeA, storeCellsA, setAt, partA, fillA, placesA, isFn, TyI.isAgg, isSeq, isNum, sliceA, boundA, setParams, minL, minF, maxL, maxF, repZ, reduceIte, Nat.reduceLT, Nat.reduceLeDiff, Nat.reduceEqDiff, Nat.reduceAdd, Nat.reduceMul, Nat.reduceSub, Nat.reduceBEq, Int.reduceEq, Int.reduceLT, Int.reduceLE, Int.reduceToNat, reduceCtorEq, sx, fx16]
    exact ⟨_, _, rfl, by simp only [Tr.get_set, Nat.reduceEqDiff, reduceIte]⟩
  obtain ⟨T1, σ1, h1, h2⟩ := run
  exact pureCall_of rfl (memo16 _) (pureRun_of fn16 rfl (by simp [Tryz.f16]) h1 (by simp) (res_one h2) rfl)
end Go.Proofs.YtkamjhhodnmoiaaGreatDoor

