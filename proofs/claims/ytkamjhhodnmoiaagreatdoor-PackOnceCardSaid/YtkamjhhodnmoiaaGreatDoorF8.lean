/- The program's find, whole. -/
import Derived.Test.YtkamjhhodnmoiaaGreatDoorF7
set_option maxRecDepth 100000
set_option linter.unusedSimpArgs false
set_option linter.unusedVariables false
namespace Go.Proofs.YtkamjhhodnmoiaaGreatDoor
open Go Go.Proofs.YtkamjhhodnmoiaaGreatDoor.Pale
variable {k : Nat} {σ : AMem}

theorem deleteNil_callN (g : Nat) (rc : Nat) (hk : 3000 ≤ k) : ∃ σ', callN lawProg k (.func 64 [] []) [.vs .nil [], .func g [] [.ptr rc 0]] σ = some (.vs .nil [], σ') ∧ Ext σ σ' := by
  obtain ⟨k, rfl⟩ : ∃ m, k = m + 2 := ⟨k - 2, by omega⟩
  obtain ⟨σ1, c1, x1⟩ := sheaf_v (k := k) (σ := σ) .nil [] g [.ptr rc 0] (fun _ => false) (by simp) (by simp) (fun h => by cases h) (by simp) (by simp; omega)
  have hbq : ((-1 : Int) == -1) = true := rfl
  have e : ∃ T1, execC lawProg (callN lawProg (k + 1)) (k + 1) 64 42 (bodyOf Tryz.f64) (initT 0 [.vs .nil [], .func g [] [.ptr rc 0]] .nil) σ = some (.ret, T1, σ1) ∧ T1.get 4 = some (.vs .nil []) := by
    simp only [bodyOf, Tryz.f64, Option.getD_some, initT, runOps, runD, again, step1, wantA, opSem, evalO, evalL, evalOpt, evalParts, putA, ofConst, ofScalar, ofScalars, abin, abinInt, aun, convA, builtinA, oneTy, elemTy, loadA, storeA, storeCellsA, setAt, partA, fillA, placesA, isFn, TyI.isAgg, isSeq, isNum, sliceA, boundA, setParams, minL, minF, maxL, maxF, repZ, reduceIte, Nat.reduceLT, Nat.reduceLeDiff, Nat.reduceEqDiff, Nat.reduceAdd, Nat.reduceMul, Nat.reduceSub, Nat.reduceBEq, Int.reduceEq, Int.reduceLT, Int.reduceLE, Int.reduceToNat, reduceCtorEq, sx, fx64, c1, idxI, hbq]
    exact ⟨_, rfl, by simp only [Tr.get_set, Nat.reduceEqDiff, reduceIte]⟩
  obtain ⟨T1, e1, e2⟩ := e
  exact ⟨σ1, q_call (first := []) (caps := []) fn64 rfl (by simp [Tryz.f64]) e1 (by simp) (res_one e2), x1⟩

theorem indexNil_callN (g : Nat) (rc : Nat) (hk : 3000 ≤ k) : ∃ σ', callN lawProg k (.func 66 [] []) [.vs .nil [], .func g [] [.ptr rc 0]] σ = some (.int .i64 (-1), σ') ∧ Ext σ σ' := by
  obtain ⟨k, rfl⟩ : ∃ m, k = m + 1 := ⟨k - 1, by omega⟩
  exact sheaf_v (k := k) (σ := σ) .nil [] g [.ptr rc 0] (fun _ => false) (by simp) (by simp) (fun h => by cases h) (by simp) (by simp; omega)

theorem index_mem {low q r rc : Nat} {l : List SR} {zs : List AVal} (n at_ of : Int) (d : AVal) (hm : SrtAt low σ q r 0 l zs) (hl : l.length ≤ 1000) (hc : σ.get rc = some (chunkRow n at_ of d)) (hrc : rc < σ.next) (hk : 3000 ≤ k) :
    ∃ σ', callN lawProg k (.func 66 [] []) [.slice r 0 l.length none 2, .func 67 [] [.ptr rc 0]] σ = some (.int .i64 (placeI n (l.map (·.1))), σ') ∧ Ext σ σ' := by
  obtain ⟨k, rfl⟩ : ∃ m, k = m + 1 := ⟨k - 1, by omega⟩
  have hlen : (cellsR l).length = l.length := by simp [cellsR]
  have := sheaf_m (k := k) (σ := σ) (r := r) (off := 0) (n := l.length) (cap := none) (cells := (cellsR l).flatten ++ zs) ((cellsR l).map AVal.agg) (by simp [hlen]) hm.row hm.hi (flat_cell (cellsR_two l)) 67 [.ptr rc 0] (sameName n) (by simp [hlen]; omega) (fun h => by cases h) (fun e he σ' hx => by
    obtain ⟨c, hc', rfl⟩ := List.mem_map.1 he
    obtain ⟨x, _, rfl⟩ := List.mem_map.1 hc'
    exact find2_callN x.1.name x.2.1 0 x.1.data.length 1 x.2.2 ((hx.2 rc hrc).trans hc) (by have := hx.1; omega) (by omega)) (by simp [hlen]; omega)
  rw [place_mem] at this
  exact this

theorem SrtAt.same {low q r o : Nat} {σ σ' : AMem} {l : List SR} {zs : List AVal} (h : SrtAt low σ q r o l zs) (hn : σ.next ≤ σ'.next) (hs : ∀ s, low ≤ s → s < σ.next → s ≠ q → σ'.get s = σ.get s) : SrtAt low σ' q r o l zs := by
  obtain ⟨m1, m2, m3, m4, m5, m6, m7, m8⟩ := h
  refine ⟨by rw [hs r m5 m6 m3]; exact m1, m2.same (Nat.le_refl _) hn (fun x hx => ?_) m2.2.2, m3, m4, m5, by omega, m7, m8⟩
  have hb := m2.bound x hx
  exact hs x hb.1 hb.2 (fun e => m2.2.2 (e ▸ hx))
theorem SrtMem.at_ {low q r n : Nat} {σ : AMem} {l : List SR} (h : SrtMem low σ q (.slice r 0 n none 2) l) : SrtAt low σ q r 0 l [] := by
  obtain ⟨h1, ⟨_, h2⟩ | ⟨r', a, b, c, d, e, f⟩⟩ := h
  · cases h2
  · simp only [AVal.slice.injEq] at e
    obtain ⟨rfl, _⟩ := e
    rw [cellsR_eq] at f
    exact ⟨by rw [List.append_nil]; exact f, h1, c, d, a, b, ⟨0, rfl⟩, Nat.zero_le _⟩
theorem newSh_len (n : Int) (of : Nat) : (newSh n of).data.length = of := by simp [newSh]

theorem find_callN {low q : Nat} {out : AVal} {l : List SR} (n at_ : Int) (of : Nat) (d : AVal) (hd1 : d.oneCell = true) (hof : 1 ≤ of ∧ of ≤ 200) (hq : σ.get q = some (.row 1 true [out])) (hqn : q < σ.next) (hql : low ≤ q) (sm : SrtMem low σ q out l) (hl : l.length ≤ 1000) (hk : 4000 ≤ k) :
    ∃ r o l' zs σ', callN lawProg k (.func 29 [] []) [.ptr q 0, .agg [.int .i64 n, .int .i64 at_, .int .i64 (of : Nat), d]] σ = some (.int .i64 (findL (l.map (·.1)) n of).2, σ') ∧ σ.next ≤ σ'.next ∧ (∀ s, s < low → σ'.get s = σ.get s) ∧
      σ'.get q = some (.row 1 true [.slice r (o * 2) (l'.length - o) none 2]) ∧ SrtAt low σ' q r o l' zs ∧ (l'.drop o).map (·.1) = (findL (l.map (·.1)) n of).1 ∧ l'.length ≤ l.length + 1 := by
  obtain ⟨k, rfl⟩ : ∃ m, k = m + 1 := ⟨k - 1, by omega⟩
  obtain ⟨rc, hrc⟩ : ∃ rc, rc = σ.next := ⟨_, rfl⟩
  have hdc := cells_one hd1
  have hcrow : ((σ.push (chunkRow n at_ of d))).get rc = some (chunkRow n at_ of d) := by rw [AMem.get_push, if_pos hrc.symm]
  have h24 : (of : Int) * ((24 : Nat) : Int) ≤ ((mostBytes : Nat) : Int) := by unfold mostBytes; omega
  have hmax : (of : Int) ≤ 9223372036854775807 := by omega
  have q1 : ¬ rc = q := by omega
  have q2 : ¬ q = rc := by omega
  rcases hsm : sm.2 with ⟨hl0, hout⟩ | ⟨r, ra, rb, rcc, rd, hout, rf⟩
  · -- no sheaf is there
    subst hl0; subst hout
    obtain ⟨σ1, c1, x1⟩ := deleteNil_callN (k := k) (σ := σ.push (chunkRow n at_ of d)) 65 rc (by omega)
    have hn1 : σ.next + 1 ≤ σ1.next := by have := x1.1; simpa using this
    have k1 : ∀ s, s < σ.next + 1 → σ1.get s = (σ.push (chunkRow n at_ of d)).get s := fun s hs => x1.2 s (by simpa using hs)
    have gq : σ1.get q = some (.row 1 true [.vs .nil []]) := by rw [k1 q (by omega), AMem.get_push, if_neg (by omega)]; exact hq
    obtain ⟨σ2, c2, x2⟩ := indexNil_callN (k := k) (σ := σ1.put q (.row 1 true [.vs .nil []])) 67 rc (by omega)
    have hn2 : σ1.next ≤ σ2.next := by have := x2.1; simpa using this
    have k2 : ∀ s, s < σ.next + 1 → s ≠ q → σ2.get s = (σ.push (chunkRow n at_ of d)).get s := fun s hs hsq => by
      rw [x2.2 s (by simp; omega), AMem.get_put, if_neg (Ne.symm hsq)]; exact k1 s hs
    have g2q : σ2.get q = some (.row 1 true [.vs .nil []]) := by rw [x2.2 q (by simp; omega), AMem.get_put, if_pos rfl]
    have g2c : σ2.get rc = some (chunkRow n at_ of d) := by rw [k2 rc (by omega) q1]; exact hcrow
    have sm2 : SrtMem low (σ2.push (.row 1 false (repZ [.vs .nil []] of))) q (.vs .nil []) [] := ⟨Items.nil _ _ _, .inl ⟨rfl, rfl⟩⟩
    obtain ⟨σ3, a1, a2, a3, a4, a5⟩ := sm2.add (s := newSh n of) (r := σ2.next) (cap := some of) (by simp; omega) (by simp; omega) (by omega) (by simp) (by rw [AMem.get_push, if_pos rfl, rep_new]; rfl) (by simp) (by omega) (fun n c z h => by cases h) (by simp)
    rw [newSh_len] at a1
    simp only [tySh, AMem.next_push, List.length_nil, Nat.zero_add, Nat.add_assoc, Nat.reduceAdd, show (newSh n of).name = n from rfl] at a1
    have g3q : σ3.get q = some (.row 1 true [.vs .nil []]) := by
      rw [a5 q (by simp; omega) (by intro h; cases h), AMem.get_push, if_neg (by omega)]; exact g2q
    have g3c : σ3.get rc = some (chunkRow n at_ of d) := by
      rw [a5 rc (by simp; omega) (by intro h; cases h), AMem.get_push, if_neg (by omega)]; exact g2c
    have hfl : findL (([] : List SR).map (·.1)) n of = ([newSh n of], 0) := rfl
    rw [hfl]
    unfold chunkRow at c1 g2c g3c
    have hw1 : IntKind.i64.wrap (((1 : Nat) : Int) - 1) = 0 := rfl
    have q3 : ¬ σ2.next = q := by omega
    have q4 : ¬ σ2.next = rc := by omega
    have q5 : ¬ σ2.next + 1 = q := by omega
    have q6 : ¬ σ2.next + 1 = rc := by omega
    have e : ∃ T1, execC lawProg (callN lawProg k) k 29 68 (bodyOf Tryz.f29) (initT 0 [.ptr q 0, .agg [.int .i64 n, .int .i64 at_, .int .i64 (of : Nat), d]] .nil) σ = some (.ret, T1, σ3.put q (.row 1 true [.slice (σ2.next + 2) 0 1 none 2])) ∧ T1.get 4 = some (.int .i64 0) := by
      simp only [bodyOf, Tryz.f29, Option.getD_some, initT, runOps, runD, again, step1, wantA, opSem, evalO, evalL, evalOpt, evalParts, putA, ofConst, ofScalar, ofScalars, abin, abinInt, aun, convA, builtinA, oneTy, elemTy, loadA, storeA, storeCellsA, setAt, partA, fillA, placesA, isFn, TyI.isAgg, isSeq, isNum, sliceA, boundA, setParams, minL, minF, maxL, maxF, repZ, reduceIte, Nat.reduceLT, Nat.reduceLeDiff, Nat.reduceEqDiff, Nat.reduceAdd, Nat.reduceMul, Nat.reduceSub, Nat.reduceBEq, Int.reduceEq, Int.reduceLT, Int.reduceLE, Int.reduceToNat, reduceCtorEq, sx, fx29, Nat.add_assoc, Nat.add_eq_left, Nat.left_eq_add, Nat.add_left_cancel_iff, ← hrc, q1, q2, hq, c1, gq, c2, g2q, g2c, Int.natCast_nonneg, Int.le_refl, Int.toNat_natCast, h24, hmax, q3, q4, q5, q6, a1, g3q, hw1, show ¬ (-1 : Int) ≥ 0 by decide, show ¬ ((1 : Nat) : Int) > 4 by decide]
      exact ⟨_, rfl, by simp only [Tr.get_set, Nat.reduceEqDiff, reduceIte]⟩
    obtain ⟨T1, e1, e2⟩ := e
    have hlow3 : ∀ s, s < low → s < σ.next → (σ3.put q (.row 1 true [.slice (σ2.next + 2) 0 1 none 2])).get s = σ.get s := fun s h1 h2 => by
      rw [AMem.get_put, if_neg (by omega), a4 s h1, AMem.get_push, if_neg (by omega), k2 s (by omega) (by omega), AMem.get_push, if_neg (by omega)]
    simp only [AMem.next_push, List.length_nil, Nat.zero_add, Nat.add_assoc, Nat.reduceAdd, List.nil_append] at a2
    refine ⟨σ2.next + 2, 0, [(newSh n of, σ2.next, some of)], [], _, q_call (first := []) (caps := []) fn29 rfl (by simp [Tryz.f29]) e1 (by simp) (res_one e2), by simp only [AMem.next_put]; simp at a3; omega, fun s hs => hlow3 s hs (by omega), by rw [AMem.get_put, if_pos rfl]; rfl, ?_, rfl, by simp⟩
    exact a2.at_.same (by simp) fun s _ _ hs => by rw [AMem.get_put, if_neg (Ne.symm hs)]
  · -- there are some
    subst hout
    rw [cellsR_eq] at rf
    obtain ⟨σ1, zs, c1, m1, n1, f1⟩ := del_mem (k := k) (σ := σ.push (chunkRow n at_ of d)) (rc := rc) n at_ of d (sm.same (by simp) fun s _ h2 _ => by rw [AMem.get_push, if_neg (by omega)]) (by rw [AMem.get_push, if_neg (by omega)]; exact rf) ⟨ra, by simp; omega, rcc, rd⟩ hl hcrow (by simp; omega) (by omega) (by omega)
    have hn1 : σ.next + 1 ≤ σ1.next := by simpa using n1
    generalize hl1 : (l.filter fun x => keepS n of x.1) = l1 at *
    have hl1l : l1.length ≤ l.length := by rw [← hl1]; exact List.length_filter_le _ _
    have hl1n : l1.length ≤ 1000 := by rw [← hl1]; exact Nat.le_trans (List.length_filter_le _ _) hl
    have gq : σ1.get q = some (.row 1 true [.slice r 0 l.length none 2]) := by rw [f1 q (by simp; omega) (Ne.symm rcc), AMem.get_push, if_neg (by omega)]; exact hq
    have gc : σ1.get rc = some (chunkRow n at_ of d) := by rw [f1 rc (by simp; omega) (by omega)]; exact hcrow
    have m2 : SrtAt low (σ1.put q (.row 1 true [.slice r 0 l1.length none 2])) q r 0 l1 zs := m1.same (by simp) fun s _ _ hs => by rw [AMem.get_put, if_neg (Ne.symm hs)]
    obtain ⟨σ2, c2, x2⟩ := index_mem (k := k) (rc := rc) n at_ of d m2 hl1n (by rw [AMem.get_put, if_neg (by omega)]; exact gc) (by simp; omega) (by omega)
    have hn2 : σ1.next ≤ σ2.next := by have := x2.1; simpa using this
    have g2q : σ2.get q = some (.row 1 true [.slice r 0 l1.length none 2]) := by rw [x2.2 q (by simp; omega), AMem.get_put, if_pos rfl]
    have g2c : σ2.get rc = some (chunkRow n at_ of d) := by rw [x2.2 rc (by simp; omega), AMem.get_put, if_neg (by omega)]; exact gc
    have m3 : SrtAt low σ2 q r 0 l1 zs := m2.same (by simpa using hn2) fun s _ h2 _ => x2.2 s h2
    have hlow2 : ∀ s, s < low → σ2.get s = σ.get s := fun s hs => by
      rw [x2.2 s (by simp; omega), AMem.get_put, if_neg (by omega), f1 s (by simp; omega) (by omega), AMem.get_push, if_neg (by omega)]
    have hfst : l1.map (·.1) = (l.map (·.1)).filter (keepS n of) := by rw [← hl1]; exact filter_fst n of l
    have hlen1 : ((l.map (·.1)).filter (keepS n of)).length = l1.length := by rw [← hfst, List.length_map]
    unfold chunkRow at c1 gc g2c
    by_cases hp : placeI n (l1.map (·.1)) ≥ 0
    · have hfl : findL (l.map (·.1)) n of = (l1.map (·.1), placeI n (l1.map (·.1))) := by
        unfold findL
        rw [← hfst, if_pos hp]
      rw [hfl]
      have e : ∃ T1, execC lawProg (callN lawProg k) k 29 68 (bodyOf Tryz.f29) (initT 0 [.ptr q 0, .agg [.int .i64 n, .int .i64 at_, .int .i64 (of : Nat), d]] .nil) σ = some (.ret, T1, σ2) ∧ T1.get 4 = some (.int .i64 (placeI n (l1.map (·.1)))) := by
        simp only [bodyOf, Tryz.f29, Option.getD_some, initT, runOps, runD, again, step1, wantA, opSem, evalO, evalL, evalOpt, evalParts, putA, ofConst, ofScalar, ofScalars, abin, abinInt, aun, convA, builtinA, oneTy, elemTy, loadA, storeA, storeCellsA, setAt, partA, fillA, placesA, isFn, TyI.isAgg, isSeq, isNum, sliceA, boundA, setParams, minL, minF, maxL, maxF, repZ, reduceIte, Nat.reduceLT, Nat.reduceLeDiff, Nat.reduceEqDiff, Nat.reduceAdd, Nat.reduceMul, Nat.reduceSub, Nat.reduceBEq, Int.reduceEq, Int.reduceLT, Int.reduceLE, Int.reduceToNat, reduceCtorEq, sx, fx29, Nat.add_assoc, Nat.add_eq_left, Nat.left_eq_add, Nat.add_left_cancel_iff, ← hrc, q1, q2, hq, c1, gq, c2, hp]
        exact ⟨_, rfl, by simp only [Tr.get_set, Nat.reduceEqDiff, reduceIte]⟩
      obtain ⟨T1, e1, e2⟩ := e
      exact ⟨r, 0, l1, zs, σ2, q_call (first := []) (caps := []) fn29 rfl (by simp [Tryz.f29]) e1 (by simp) (res_one e2), by omega, hlow2, by rw [g2q, Nat.zero_mul, Nat.sub_zero], m3, rfl, by omega⟩
    · obtain ⟨r', σ3, zs', a1, a2, a3, a4⟩ := add_new (σ := σ2) n of m3 (by omega) (by omega) hl1n
      have g3q : σ3.get q = some (.row 1 true [.slice r 0 l1.length none 2]) := by rw [a4 q (by omega) (Ne.symm rcc)]; exact g2q
      have g3c : σ3.get rc = some (.row 4 true [.int .i64 n, .int .i64 at_, .int .i64 (of : Nat), d]) := by rw [a4 rc (by omega) (by omega)]; exact g2c
      simp only [tySh] at a1
      have q3 : ¬ σ2.next = q := by omega
      have q4 : ¬ σ2.next = rc := by omega
      have q5 : ¬ σ2.next + 1 = q := by omega
      have q6 : ¬ σ2.next + 1 = rc := by omega
      have hlow3 : ∀ s, s < low → σ3.get s = σ.get s := fun s hs => by rw [a4 s (by omega) (by omega)]; exact hlow2 s hs
      by_cases h5 : ((l1.length + 1 : Nat) : Int) > 4
      · have hfl : findL (l.map (·.1)) n of = (((l1 ++ [(newSh n of, σ2.next, some of)]).drop 1).map (·.1), (l1.length : Int) - 1) := by
          unfold findL
          rw [← hfst, if_neg hp, List.length_map, if_pos (by omega), List.map_drop, List.map_append]
          rfl
        rw [hfl]
        have s1 : ∀ σ : AMem, sliceM σ 2 r' 0 (l1.length + 1) none 2 (some (.int .i64 1)) none none = some (.slice r' 2 l1.length none 2) := fun σ => slice_from (off := 0) (i := 1) (z := 2) (n := l1.length + 1) (by omega)
        have hw1 : IntKind.i64.wrap (((l1.length : Nat) : Int) - 1) = ((l1.length : Nat) : Int) - 1 := i64_id (by omega) (by omega)
        have e : ∃ T1, execC lawProg (callN lawProg k) k 29 68 (bodyOf Tryz.f29) (initT 0 [.ptr q 0, .agg [.int .i64 n, .int .i64 at_, .int .i64 (of : Nat), d]] .nil) σ = some (.ret, T1, (σ3.put q (.row 1 true [.slice r' 0 (l1.length + 1) none 2])).put q (.row 1 true [.slice r' 2 l1.length none 2])) ∧ T1.get 4 = some (.int .i64 (((l1.length : Nat) : Int) - 1)) := by
          simp only [bodyOf, Tryz.f29, Option.getD_some, initT, runOps, runD, again, step1, wantA, opSem, evalO, evalL, evalOpt, evalParts, putA, ofConst, ofScalar, ofScalars, abin, abinInt, aun, convA, builtinA, oneTy, elemTy, loadA, storeA, storeCellsA, setAt, partA, fillA, placesA, isFn, TyI.isAgg, isSeq, isNum, sliceA, boundA, setParams, minL, minF, maxL, maxF, repZ, reduceIte, Nat.reduceLT, Nat.reduceLeDiff, Nat.reduceEqDiff, Nat.reduceAdd, Nat.reduceMul, Nat.reduceSub, Nat.reduceBEq, Int.reduceEq, Int.reduceLT, Int.reduceLE, Int.reduceToNat, reduceCtorEq, sx, fx29, Nat.add_assoc, Nat.add_eq_left, Nat.left_eq_add, Nat.add_left_cancel_iff, ← hrc, q1, q2, hq, c1, gq, c2, hp, g2q, g2c, Int.natCast_nonneg, Int.le_refl, Int.toNat_natCast, h24, hmax, q3, q4, q5, q6, a1, g3q, h5, s1, hw1]
          exact ⟨_, rfl, by simp only [Tr.get_set, Nat.reduceEqDiff, reduceIte]⟩
        obtain ⟨T1, e1, e2⟩ := e
        refine ⟨r', 1, l1 ++ [(newSh n of, σ2.next, some of)], zs', _, q_call (first := []) (caps := []) fn29 rfl (by simp [Tryz.f29]) e1 (by simp) (res_one e2), by simp only [AMem.next_put]; omega, fun s hs => by rw [AMem.get_put, if_neg (by omega), AMem.get_put, if_neg (by omega)]; exact hlow3 s hs, ?_, ?_, rfl, by simp only [List.length_append, List.length_singleton]; omega⟩
        · rw [AMem.get_put, if_pos rfl, List.length_append, List.length_singleton, Nat.add_sub_cancel]
        · obtain ⟨b1, b2, b3, b4, b5, b6, b7, _⟩ := a2
          have := SrtAt.same (σ' := (σ3.put q (.row 1 true [.slice r' 0 (l1.length + 1) none 2])).put q (.row 1 true [.slice r' 2 l1.length none 2])) (⟨b1, b2, b3, b4, b5, b6, b7, by simp⟩ : SrtAt low σ3 q r' 1 (l1 ++ [(newSh n of, σ2.next, some of)]) zs') (by simp) fun s _ _ hs => by rw [AMem.get_put, if_neg (Ne.symm hs), AMem.get_put, if_neg (Ne.symm hs)]
          exact this
      · have hfl : findL (l.map (·.1)) n of = ((l1 ++ [(newSh n of, σ2.next, some of)]).map (·.1), (l1.length : Int)) := by
          unfold findL
          rw [← hfst, if_neg hp, List.length_map, if_neg (by omega), List.map_append]
          rfl
        rw [hfl]
        have hw1 : IntKind.i64.wrap (((l1.length + 1 : Nat) : Int) - 1) = ((l1.length : Nat) : Int) := by rw [i64_id (by omega) (by omega)]; omega
        have e : ∃ T1, execC lawProg (callN lawProg k) k 29 68 (bodyOf Tryz.f29) (initT 0 [.ptr q 0, .agg [.int .i64 n, .int .i64 at_, .int .i64 (of : Nat), d]] .nil) σ = some (.ret, T1, σ3.put q (.row 1 true [.slice r' 0 (l1.length + 1) none 2])) ∧ T1.get 4 = some (.int .i64 ((l1.length : Nat) : Int)) := by
          simp only [bodyOf, Tryz.f29, Option.getD_some, initT, runOps, runD, again, step1, wantA, opSem, evalO, evalL, evalOpt, evalParts, putA, ofConst, ofScalar, ofScalars, abin, abinInt, aun, convA, builtinA, oneTy, elemTy, loadA, storeA, storeCellsA, setAt, partA, fillA, placesA, isFn, TyI.isAgg, isSeq, isNum, sliceA, boundA, setParams, minL, minF, maxL, maxF, repZ, reduceIte, Nat.reduceLT, Nat.reduceLeDiff, Nat.reduceEqDiff, Nat.reduceAdd, Nat.reduceMul, Nat.reduceSub, Nat.reduceBEq, Int.reduceEq, Int.reduceLT, Int.reduceLE, Int.reduceToNat, reduceCtorEq, sx, fx29, Nat.add_assoc, Nat.add_eq_left, Nat.left_eq_add, Nat.add_left_cancel_iff, ← hrc, q1, q2, hq, c1, gq, c2, hp, g2q, g2c, Int.natCast_nonneg, Int.le_refl, Int.toNat_natCast, h24, hmax, q3, q4, q5, q6, a1, g3q, h5, hw1]
          exact ⟨_, rfl, by simp only [Tr.get_set, Nat.reduceEqDiff, reduceIte]⟩
        obtain ⟨T1, e1, e2⟩ := e
        refine ⟨r', 0, l1 ++ [(newSh n of, σ2.next, some of)], zs', _, q_call (first := []) (caps := []) fn29 rfl (by simp [Tryz.f29]) e1 (by simp) (res_one e2), by simp only [AMem.next_put]; omega, fun s hs => by rw [AMem.get_put, if_neg (by omega)]; exact hlow3 s hs, ?_, ?_, rfl, by simp only [List.length_append, List.length_singleton]; omega⟩
        · rw [AMem.get_put, if_pos rfl, List.length_append, List.length_singleton, Nat.sub_zero, Nat.zero_mul]
        · exact a2.same (by simp) fun s _ _ hs => by rw [AMem.get_put, if_neg (Ne.symm hs)]
end Go.Proofs.YtkamjhhodnmoiaaGreatDoor
