/- Sheaves and sorters: which are right, by the program. -/
import Derived.Test.YtkamjhhodnmoiaaGreatDoorF1
set_option maxRecDepth 100000
set_option linter.unusedSimpArgs false
set_option linter.unusedVariables false
namespace Go.Proofs.YtkamjhhodnmoiaaGreatDoor
open Go Go.Proofs.YtkamjhhodnmoiaaGreatDoor.Pale
variable {k : Nat} {σ : AMem}

abbrev Part := VK × List Nat
def partV (p : Part) : AVal := .vs p.1 (bytesV p.2)
structure Sh where
  name : Int
  dk : VK
  data : List Part
def shC (s : Sh) : List AVal := [.int .i64 s.name, .vs s.dk (s.data.map partV)]
def shV (s : Sh) : AVal := .agg (shC s)
def nameOf : AVal → Int
  | .agg (.int _ n :: _) => n
  | _ => 0
def dataOf : AVal → List AVal
  | .agg [_, .vs _ es] => es
  | _ => []
def emptyP : AVal → Bool
  | .vs _ es => ((es.length : Nat) : Int) == 0
  | _ => false
def fullP (v : AVal) : Bool := !emptyP v
def greatP : AVal → Bool
  | .vs _ es => decide (((es.length : Nat) : Int) > 100)
  | _ => false
theorem emptyP_part (p : Part) : emptyP (partV p) = decide (p.2.length = 0) := by
  simp only [emptyP, partV, bytesV_length]
  rw [Bool.eq_iff_iff]; simp
theorem greatP_part (p : Part) : greatP (partV p) = decide (p.2.length > 100) := by
  simp only [greatP, partV, bytesV_length, decide_eq_decide]
  omega
theorem parts_cells (l : List Part) : ∀ e, e ∈ l.map partV → e.cells.length = 1 := by
  intro e he
  obtain ⟨p, _, rfl⟩ := List.mem_map.1 he
  rfl
theorem shs_cells (l : List Sh) : ∀ e, e ∈ l.map shV → e.cells.length = 2 := by
  intro e he
  obtain ⟨p, _, rfl⟩ := List.mem_map.1 he
  rfl
theorem shs_form (l : List Sh) : ∀ e, e ∈ l.map shV → ∃ cs, e = .agg cs ∧ cs.length = 2 := by
  intro e he
  obtain ⟨p, _, rfl⟩ := List.mem_map.1 he
  exact ⟨_, rfl, rfl⟩
theorem parts_form (l : List Part) : ∀ e, e ∈ l.map partV → ∃ vk es, e = .vs vk es := by
  intro e he
  obtain ⟨p, _, rfl⟩ := List.mem_map.1 he
  exact ⟨_, _, rfl⟩

theorem isEmpty_callN (vk : VK) (es : List AVal) (hk : 1 ≤ k) : callN lawProg k (.func 30 [] []) [.vs vk es] σ = some (.bool (emptyP (.vs vk es)), σ) := by
  obtain ⟨k, rfl⟩ : ∃ m, k = m + 1 := ⟨k - 1, by omega⟩
  have e : ∃ T1, execC lawProg (callN lawProg k) k 30 6 (bodyOf Tryz.f30) (initT 0 [.vs vk es] .nil) σ = some (.ret, T1, σ) ∧ T1.get 2 = some (.bool (emptyP (.vs vk es))) := by
    simp only [bodyOf, Tryz.f30, Option.getD_some, initT, runOps, runD, again, step1, wantA, opSem, evalO, evalL, evalOpt, evalParts, putA, ofConst, ofScalar, ofScalars, abin, abinInt, aun, convA, builtinA, oneTy, elemTy, loadA, storeA, storeCellsA, setAt, partA, fillA, placesA, isFn, TyI.isAgg, isSeq, isNum, sliceA, boundA, setParams, minL, minF, maxL, maxF, repZ, reduceIte, Nat.reduceLT, Nat.reduceLeDiff, Nat.reduceEqDiff, Nat.reduceAdd, Nat.reduceMul, Nat.reduceSub, Nat.reduceBEq, Int.reduceEq, Int.reduceLT, Int.reduceLE, Int.reduceToNat, reduceCtorEq, sx, fx30]
    exact ⟨_, rfl, by simp only [Tr.get_set, Nat.reduceEqDiff, reduceIte, emptyP]⟩
  obtain ⟨T1, e1, e2⟩ := e
  exact q_call (first := []) (caps := []) fn30 rfl (by simp [Tryz.f30]) e1 (by simp) (res_one e2)
theorem isFull_callN (vk : VK) (es : List AVal) (hk : 2 ≤ k) : callN lawProg k (.func 42 [] []) [.vs vk es] σ = some (.bool (fullP (.vs vk es)), σ) := by
  obtain ⟨k, rfl⟩ : ∃ m, k = m + 1 := ⟨k - 1, by omega⟩
  have hc := fun (σ : AMem) => isEmpty_callN (k := k) (σ := σ) vk es (by omega)
  have e : ∃ T1, execC lawProg (callN lawProg k) k 42 6 (bodyOf Tryz.f42) (initT 0 [.vs vk es] .nil) σ = some (.ret, T1, σ) ∧ T1.get 2 = some (.bool (fullP (.vs vk es))) := by
    simp only [bodyOf, Tryz.f42, Option.getD_some, initT, runOps, runD, again, step1, wantA, opSem, evalO, evalL, evalOpt, evalParts, putA, ofConst, ofScalar, ofScalars, abin, abinInt, aun, convA, builtinA, oneTy, elemTy, loadA, storeA, storeCellsA, setAt, partA, fillA, placesA, isFn, TyI.isAgg, isSeq, isNum, sliceA, boundA, setParams, minL, minF, maxL, maxF, repZ, reduceIte, Nat.reduceLT, Nat.reduceLeDiff, Nat.reduceEqDiff, Nat.reduceAdd, Nat.reduceMul, Nat.reduceSub, Nat.reduceBEq, Int.reduceEq, Int.reduceLT, Int.reduceLE, Int.reduceToNat, reduceCtorEq, sx, fx42, hc]
    exact ⟨_, rfl, by simp only [Tr.get_set, Nat.reduceEqDiff, reduceIte, fullP]⟩
  obtain ⟨T1, e1, e2⟩ := e
  exact q_call (first := []) (caps := []) fn42 rfl (by simp [Tryz.f42]) e1 (by simp) (res_one e2)
theorem isGreat_callN (vk : VK) (es : List AVal) (hk : 1 ≤ k) : callN lawProg k (.func 43 [] []) [.vs vk es] σ = some (.bool (greatP (.vs vk es)), σ) := by
  obtain ⟨k, rfl⟩ : ∃ m, k = m + 1 := ⟨k - 1, by omega⟩
  have e : ∃ T1, execC lawProg (callN lawProg k) k 43 6 (bodyOf Tryz.f43) (initT 0 [.vs vk es] .nil) σ = some (.ret, T1, σ) ∧ T1.get 2 = some (.bool (greatP (.vs vk es))) := by
    simp only [bodyOf, Tryz.f43, Option.getD_some, initT, runOps, runD, again, step1, wantA, opSem, evalO, evalL, evalOpt, evalParts, putA, ofConst, ofScalar, ofScalars, abin, abinInt, aun, convA, builtinA, oneTy, elemTy, loadA, storeA, storeCellsA, setAt, partA, fillA, placesA, isFn, TyI.isAgg, isSeq, isNum, sliceA, boundA, setParams, minL, minF, maxL, maxF, repZ, reduceIte, Nat.reduceLT, Nat.reduceLeDiff, Nat.reduceEqDiff, Nat.reduceAdd, Nat.reduceMul, Nat.reduceSub, Nat.reduceBEq, Int.reduceEq, Int.reduceLT, Int.reduceLE, Int.reduceToNat, reduceCtorEq, sx, fx43]
    exact ⟨_, rfl, by simp only [Tr.get_set, Nat.reduceEqDiff, reduceIte, greatP]⟩
  obtain ⟨T1, e1, e2⟩ := e
  exact q_call (first := []) (caps := []) fn43 rfl (by simp [Tryz.f43]) e1 (by simp) (res_one e2)

theorem nv1 : lawProg.isVal 68 30 = false := by kernel_rfl
theorem nv2 : lawProg.isVal 68 42 = false := by kernel_rfl
theorem nv3 : lawProg.isVal 68 43 = false := by kernel_rfl
theorem nv4 : lawProg.isVal 45 41 = false := by kernel_rfl
theorem hasPart (g : Nat) (p : AVal → Bool) (hg : lawProg.isVal 68 g = false) (hp : ∀ (j : Nat) (σ : AMem) vk es, 2 ≤ j → callN lawProg j (.func g [] []) [.vs vk es] σ = some (.bool (p (.vs vk es)), σ)) (vk : VK) (l : List Part) (hl : l.length ≤ 100000) (hk : l.length + 5 ≤ k) :
    ∃ σ', callN lawProg k (.func 32 [] []) [.vs vk (l.map partV), .func g [] []] σ = some (.bool ((l.map partV).any p), σ') ∧ Ext σ σ' := by
  obtain ⟨k, rfl⟩ : ∃ m, k = m + 2 := ⟨k - 2, by omega⟩
  refine part_has_v vk (l.map partV) g [] p (parts_form l) (by simpa using hl) (fun _ => hg) (fun e he σ' hx => ?_) (by simp; omega)
  · obtain ⟨vk', es, rfl⟩ := parts_form l e he
    exact ⟨σ', hp k σ' vk' es (by omega), Ext.refl _⟩

def sheafB (s : Sh) : Bool := (decide (0 ≤ s.name ∧ s.name ≤ 65535) && (decide (((s.data.length : Nat) : Int) ≤ 200) && ((s.data.map partV).any emptyP && (s.data.map partV).any fullP))) && !(s.data.map partV).any greatP

theorem sheaf_callN (i : Int) (s : Sh) (hl : s.data.length ≤ 100000) (hk : s.data.length + 10 ≤ k) : ∃ σ', callN lawProg k (.func 41 [] []) [.int .i64 i, .agg [.int .i64 s.name, .vs s.dk (s.data.map partV)]] σ = some (.bool (sheafB s), σ') ∧ Ext σ σ' := by
  obtain ⟨k, rfl⟩ : ∃ m, k = m + 1 := ⟨k - 1, by omega⟩
  obtain ⟨σ1, c1, x1⟩ := hasPart (k := k) (σ := σ.push (.row 2 true [.int .i64 s.name, .vs s.dk (s.data.map partV)])) _ emptyP nv1 (fun j σ vk es h => isEmpty_callN vk es (by omega)) s.dk s.data hl (by omega)
  obtain ⟨σ2, c2, x2⟩ := hasPart (k := k) (σ := σ1) _ fullP nv2 (fun j σ vk es h => isFull_callN vk es (by omega)) s.dk s.data hl (by omega)
  obtain ⟨σ3, c3, x3⟩ := hasPart (k := k) (σ := σ1) _ greatP nv3 (fun j σ vk es h => isGreat_callN vk es (by omega)) s.dk s.data hl (by omega)
  obtain ⟨σ4, c4, x4⟩ := hasPart (k := k) (σ := σ2) _ greatP nv3 (fun j σ vk es h => isGreat_callN vk es (by omega)) s.dk s.data hl (by omega)
  have hin := fun (σ : AMem) (x y z : Int) => within_call (k := k) (σ := σ) x y z (by omega)
  have g1 : σ1.get σ.next = some (.row 2 true [.int .i64 s.name, .vs s.dk (s.data.map partV)]) := by rw [x1.2 _ (by simp), AMem.get_push, if_pos rfl]
  have hn1 : σ.next < σ1.next := by have := x1.1; simp at this; omega
  have g2 : σ2.get σ.next = some (.row 2 true [.int .i64 s.name, .vs s.dk (s.data.map partV)]) := by rw [x2.2 _ hn1]; exact g1
  have ex1 : Ext σ σ1 := (Ext.push _ _).trans x1
  unfold sheafB
  generalize (s.data.map partV).any emptyP = C at *
  generalize (s.data.map partV).any fullP = D at *
  generalize (s.data.map partV).any greatP = E at *
  have run : ∃ T1 σ', execC lawProg (callN lawProg k) k 41 36 (bodyOf Tryz.f41) (initT 0 [.int .i64 i, .agg [.int .i64 s.name, .vs s.dk (s.data.map partV)]] .nil) σ = some (.ret, T1, σ') ∧ T1.get 4 = some (.bool ((decide (0 ≤ s.name ∧ s.name ≤ 65535) && (decide (((s.data.length : Nat) : Int) ≤ 200) && (C && D))) && !E)) ∧ Ext σ σ' := by
    by_cases hA : 0 ≤ s.name ∧ s.name ≤ 65535
    · by_cases hB : ((s.data.length : Nat) : Int) ≤ 200
      · cases C with
        | false =>
          simp only [bodyOf, Tryz.f41, Option.getD_some, initT, runOps, runD, again, step1, wantA, opSem, evalO, evalL, evalOpt, evalParts, putA, ofConst, ofScalar, ofScalars, abin, abinInt, aun, convA, builtinA, oneTy, elemTy, loadA, storeA, storeCellsA, setAt, partA, fillA, placesA, isFn, TyI.isAgg, isSeq, isNum, sliceA, boundA, setParams, minL, minF, maxL, maxF, repZ, reduceIte, Nat.reduceLT, Nat.reduceLeDiff, Nat.reduceEqDiff, Nat.reduceAdd, Nat.reduceMul, Nat.reduceSub, Nat.reduceBEq, Int.reduceEq, Int.reduceLT, Int.reduceLE, Int.reduceToNat, reduceCtorEq, sx, fx41, List.length_map, c1, c2, c3, c4, hin, g1, g2, hA, hB]
          exact ⟨_, _, rfl, by simp only [Tr.get_set, Nat.reduceEqDiff, reduceIte], ex1⟩
        | true =>
          cases D with
          | false =>
            simp only [bodyOf, Tryz.f41, Option.getD_some, initT, runOps, runD, again, step1, wantA, opSem, evalO, evalL, evalOpt, evalParts, putA, ofConst, ofScalar, ofScalars, abin, abinInt, aun, convA, builtinA, oneTy, elemTy, loadA, storeA, storeCellsA, setAt, partA, fillA, placesA, isFn, TyI.isAgg, isSeq, isNum, sliceA, boundA, setParams, minL, minF, maxL, maxF, repZ, reduceIte, Nat.reduceLT, Nat.reduceLeDiff, Nat.reduceEqDiff, Nat.reduceAdd, Nat.reduceMul, Nat.reduceSub, Nat.reduceBEq, Int.reduceEq, Int.reduceLT, Int.reduceLE, Int.reduceToNat, reduceCtorEq, sx, fx41, List.length_map, c1, c2, c3, c4, hin, g1, g2, hA, hB]
            exact ⟨_, _, rfl, by simp only [Tr.get_set, Nat.reduceEqDiff, reduceIte], ex1.trans x2⟩
          | true =>
            cases E with
            | false =>
              simp only [bodyOf, Tryz.f41, Option.getD_some, initT, runOps, runD, again, step1, wantA, opSem, evalO, evalL, evalOpt, evalParts, putA, ofConst, ofScalar, ofScalars, abin, abinInt, aun, convA, builtinA, oneTy, elemTy, loadA, storeA, storeCellsA, setAt, partA, fillA, placesA, isFn, TyI.isAgg, isSeq, isNum, sliceA, boundA, setParams, minL, minF, maxL, maxF, repZ, reduceIte, Nat.reduceLT, Nat.reduceLeDiff, Nat.reduceEqDiff, Nat.reduceAdd, Nat.reduceMul, Nat.reduceSub, Nat.reduceBEq, Int.reduceEq, Int.reduceLT, Int.reduceLE, Int.reduceToNat, reduceCtorEq, sx, fx41, List.length_map, c1, c2, c3, c4, hin, g1, g2, hA, hB]
              exact ⟨_, _, rfl, by simp only [Tr.get_set, Nat.reduceEqDiff, reduceIte], (ex1.trans x2).trans x4⟩
            | true =>
              simp only [bodyOf, Tryz.f41, Option.getD_some, initT, runOps, runD, again, step1, wantA, opSem, evalO, evalL, evalOpt, evalParts, putA, ofConst, ofScalar, ofScalars, abin, abinInt, aun, convA, builtinA, oneTy, elemTy, loadA, storeA, storeCellsA, setAt, partA, fillA, placesA, isFn, TyI.isAgg, isSeq, isNum, sliceA, boundA, setParams, minL, minF, maxL, maxF, repZ, reduceIte, Nat.reduceLT, Nat.reduceLeDiff, Nat.reduceEqDiff, Nat.reduceAdd, Nat.reduceMul, Nat.reduceSub, Nat.reduceBEq, Int.reduceEq, Int.reduceLT, Int.reduceLE, Int.reduceToNat, reduceCtorEq, sx, fx41, List.length_map, c1, c2, c3, c4, hin, g1, g2, hA, hB]
              exact ⟨_, _, rfl, by simp only [Tr.get_set, Nat.reduceEqDiff, reduceIte], (ex1.trans x2).trans x4⟩
      · cases C
        · simp only [bodyOf, Tryz.f41, Option.getD_some, initT, runOps, runD, again, step1, wantA, opSem, evalO, evalL, evalOpt, evalParts, putA, ofConst, ofScalar, ofScalars, abin, abinInt, aun, convA, builtinA, oneTy, elemTy, loadA, storeA, storeCellsA, setAt, partA, fillA, placesA, isFn, TyI.isAgg, isSeq, isNum, sliceA, boundA, setParams, minL, minF, maxL, maxF, repZ, reduceIte, Nat.reduceLT, Nat.reduceLeDiff, Nat.reduceEqDiff, Nat.reduceAdd, Nat.reduceMul, Nat.reduceSub, Nat.reduceBEq, Int.reduceEq, Int.reduceLT, Int.reduceLE, Int.reduceToNat, reduceCtorEq, sx, fx41, List.length_map, c1, c2, c3, c4, hin, g1, g2, hA, hB]
          exact ⟨_, _, rfl, by simp only [Tr.get_set, Nat.reduceEqDiff, reduceIte], ex1⟩
        · simp only [bodyOf, Tryz.f41, Option.getD_some, initT, runOps, runD, again, step1, wantA, opSem, evalO, evalL, evalOpt, evalParts, putA, ofConst, ofScalar, ofScalars, abin, abinInt, aun, convA, builtinA, oneTy, elemTy, loadA, storeA, storeCellsA, setAt, partA, fillA, placesA, isFn, TyI.isAgg, isSeq, isNum, sliceA, boundA, setParams, minL, minF, maxL, maxF, repZ, reduceIte, Nat.reduceLT, Nat.reduceLeDiff, Nat.reduceEqDiff, Nat.reduceAdd, Nat.reduceMul, Nat.reduceSub, Nat.reduceBEq, Int.reduceEq, Int.reduceLT, Int.reduceLE, Int.reduceToNat, reduceCtorEq, sx, fx41, List.length_map, c1, c2, c3, c4, hin, g1, g2, hA, hB]
          exact ⟨_, _, rfl, by simp only [Tr.get_set, Nat.reduceEqDiff, reduceIte], ex1.trans x2⟩
    · cases C
      · simp only [bodyOf, Tryz.f41, Option.getD_some, initT, runOps, runD, again, step1, wantA, opSem, evalO, evalL, evalOpt, evalParts, putA, ofConst, ofScalar, ofScalars, abin, abinInt, aun, convA, builtinA, oneTy, elemTy, loadA, storeA, storeCellsA, setAt, partA, fillA, placesA, isFn, TyI.isAgg, isSeq, isNum, sliceA, boundA, setParams, minL, minF, maxL, maxF, repZ, reduceIte, Nat.reduceLT, Nat.reduceLeDiff, Nat.reduceEqDiff, Nat.reduceAdd, Nat.reduceMul, Nat.reduceSub, Nat.reduceBEq, Int.reduceEq, Int.reduceLT, Int.reduceLE, Int.reduceToNat, reduceCtorEq, sx, fx41, List.length_map, c1, c2, c3, c4, hin, g1, g2, hA]
        exact ⟨_, _, rfl, by simp only [Tr.get_set, Nat.reduceEqDiff, reduceIte], ex1⟩
      · simp only [bodyOf, Tryz.f41, Option.getD_some, initT, runOps, runD, again, step1, wantA, opSem, evalO, evalL, evalOpt, evalParts, putA, ofConst, ofScalar, ofScalars, abin, abinInt, aun, convA, builtinA, oneTy, elemTy, loadA, storeA, storeCellsA, setAt, partA, fillA, placesA, isFn, TyI.isAgg, isSeq, isNum, sliceA, boundA, setParams, minL, minF, maxL, maxF, repZ, reduceIte, Nat.reduceLT, Nat.reduceLeDiff, Nat.reduceEqDiff, Nat.reduceAdd, Nat.reduceMul, Nat.reduceSub, Nat.reduceBEq, Int.reduceEq, Int.reduceLT, Int.reduceLE, Int.reduceToNat, reduceCtorEq, sx, fx41, List.length_map, c1, c2, c3, c4, hin, g1, g2, hA]
        exact ⟨_, _, rfl, by simp only [Tr.get_set, Nat.reduceEqDiff, reduceIte], ex1.trans x2⟩
  obtain ⟨T1, σ', h1, h2, h3⟩ := run
  exact ⟨σ', q_call (first := []) (caps := []) fn41 rfl (by simp [Tryz.f41]) h1 (by simp) (res_one h2), h3⟩

/-! ### names that are there once -/
def sameName (n : Int) (v : AVal) : Bool := nameOf v == n
theorem nameIs_callN {r : Nat} {b : AVal} (n : Int) (s : Sh) (hg : σ.get r = some (.row 2 true [.int .i64 n, b])) (hr : r < σ.next) (hk : 1 ≤ k) : callN lawProg k (.func 40 [] [.ptr r 0]) [.agg [.int .i64 s.name, .vs s.dk (s.data.map partV)]] σ = some (.bool (s.name == n), σ.push (.row 2 true [.int .i64 s.name, .vs s.dk (s.data.map partV)])) := by
  obtain ⟨k, rfl⟩ : ∃ m, k = m + 1 := ⟨k - 1, by omega⟩
  have hq : ¬ σ.next = r := by omega
  have e : ∃ T1, execC lawProg (callN lawProg k) k 40 9 (bodyOf Tryz.f40) (initT 0 [.agg [.int .i64 s.name, .vs s.dk (s.data.map partV)], .ptr r 0] .nil) σ = some (.ret, T1, σ.push (.row 2 true [.int .i64 s.name, .vs s.dk (s.data.map partV)])) ∧ T1.get 3 = some (.bool (s.name == n)) := by
    simp only [bodyOf, Tryz.f40, Option.getD_some, initT, runOps, runD, again, step1, wantA, opSem, evalO, evalL, evalOpt, evalParts, putA, ofConst, ofScalar, ofScalars, abin, abinInt, aun, convA, builtinA, oneTy, elemTy, loadA, storeA, storeCellsA, setAt, partA, fillA, placesA, isFn, TyI.isAgg, isSeq, isNum, sliceA, boundA, setParams, minL, minF, maxL, maxF, repZ, reduceIte, Nat.reduceLT, Nat.reduceLeDiff, Nat.reduceEqDiff, Nat.reduceAdd, Nat.reduceMul, Nat.reduceSub, Nat.reduceBEq, Int.reduceEq, Int.reduceLT, Int.reduceLE, Int.reduceToNat, reduceCtorEq, sx, fx40, hq, hg]
    exact ⟨_, rfl, by simp only [Tr.get_set, Nat.reduceEqDiff, reduceIte]⟩
  obtain ⟨T1, e1, e2⟩ := e
  exact q_call (first := []) (caps := [.ptr r 0]) fn40 rfl (by simp [Tryz.f40]) e1 (by simp) (res_one e2)
theorem sliceA_take {sz : Nat} {q : VK} {es : List AVal} {i : Nat} {kk : IntKind} (h : i ≤ es.length) : sliceA sz (.vs q es) none (some (.int kk (i : Nat))) none = some (.vs q (es.take i)) := by
  simp only [sliceA, boundA, Int.natCast_nonneg, Int.toNat_natCast, true_and, if_pos (show ((i : Nat) : Int) ≤ ((es.length : Nat) : Int) by omega), List.drop_zero, Option.isSome_none, Bool.false_and, Bool.false_eq_true, if_false]
  cases q <;> rfl
theorem shs_all (l : List Sh) : (l.map shV).all (fun c => c.cells.length == 2) = true := by
  rw [List.all_eq_true]
  intro e he
  rw [shs_cells l e he]; rfl

theorem fresh_callN {r : Nat} {lk : VK} (shs : List Sh) (i : Nat) (s : Sh) (hi : i ≤ shs.length) (hg : σ.get r = some (.row 1 true [.vs lk (shs.map shV)])) (hr : r < σ.next) (hl : shs.length ≤ 1000) (hk : 2000 ≤ k) : ∃ σ', callN lawProg k (.func 38 [] [.ptr r 0]) [.int .i64 (i : Nat), .agg [.int .i64 s.name, .vs s.dk (s.data.map partV)]] σ = some (.bool (!((shs.take i).any fun o => o.name == s.name)), σ') ∧ Ext σ σ' := by
  obtain ⟨k, rfl⟩ : ∃ m, k = m + 3 := ⟨k - 3, by omega⟩
  have hq : ¬ σ.next = r := by omega
  have hii : ((i : Nat) : Int) ≤ ((shs.length : Nat) : Int) := by omega
  have hlk : (if lk = VK.nil then VK.nil else lk) = lk := by cases lk <;> rfl
  have hall := shs_all shs
  have hany : ((shs.map shV).take i).any (sameName s.name) = (shs.take i).any fun o => o.name == s.name := by
    rw [← List.map_take, List.any_map]; rfl
  obtain ⟨σ', c1, x1⟩ := sheaf_has_v (k := k) (σ := σ.push (.row 2 true [.int .i64 s.name, .vs s.dk (s.data.map partV)])) lk ((shs.map shV).take i) 40 [.ptr σ.next 0] (sameName s.name) (fun e he => shs_form shs e (List.mem_of_mem_take he)) (by simp; omega) (fun h => by cases h) (fun e he σ' hx => by
    obtain ⟨o, _, rfl⟩ := List.mem_map.1 (List.mem_of_mem_take he)
    refine ⟨_, nameIs_callN (k := k) s.name o ((hx.2 _ (by simp)).trans (by rw [AMem.get_push, if_pos rfl])) (by have := hx.1; simp at this; omega) (by omega), Ext.push _ _⟩) (by simp; omega)
  rw [hany] at c1
  have e : ∃ T1, execC lawProg (callN lawProg (k + 2)) (k + 2) 38 13 (bodyOf Tryz.f38) (initT 0 [.int .i64 (i : Nat), .agg [.int .i64 s.name, .vs s.dk (s.data.map partV)], .ptr r 0] .nil) σ = some (.ret, T1, σ') ∧ T1.get 5 = some (.bool (!((shs.take i).any fun o => o.name == s.name))) := by
    simp only [bodyOf, Tryz.f38, Option.getD_some, initT, runOps, runD, again, step1, wantA, opSem, evalO, evalL, evalOpt, evalParts, putA, ofConst, ofScalar, ofScalars, abin, abinInt, aun, convA, builtinA, oneTy, elemTy, loadA, storeA, storeCellsA, setAt, partA, fillA, placesA, isFn, TyI.isAgg, isSeq, isNum, sliceA, boundA, setParams, minL, minF, maxL, maxF, repZ, reduceIte, Nat.reduceLT, Nat.reduceLeDiff, Nat.reduceEqDiff, Nat.reduceAdd, Nat.reduceMul, Nat.reduceSub, Nat.reduceBEq, Int.reduceEq, Int.reduceLT, Int.reduceLE, Int.reduceToNat, reduceCtorEq, sx, fx38, hq, hg, hall, Int.natCast_nonneg, Int.toNat_natCast, List.length_map, hii, hlk, c1]
    exact ⟨_, rfl, by simp only [Tr.get_set, Nat.reduceEqDiff, reduceIte]⟩
  obtain ⟨T1, e1, e2⟩ := e
  exact ⟨σ', q_call (first := []) (caps := [.ptr r 0]) fn38 rfl (by simp [Tryz.f38]) e1 (by simp) (res_one e2), (Ext.push _ _).trans x1⟩

/-! ### every one -/
theorem every_callN (vk : VK) (shs : List Sh) (g : Nat) (caps : List AVal) (p : Nat → Sh → Bool) (hlen : shs.length ≤ 1000) (hfn : caps = [] → lawProg.isVal 45 g = false) (hf : ∀ i (hi : i < shs.length) σ', Ext σ σ' → ∃ σ'', callN lawProg k (.func g [] caps) [.int .i64 (i : Nat), .agg [.int .i64 shs[i].name, .vs shs[i].dk (shs[i].data.map partV)]] σ' = some (.bool (p i shs[i]), σ'') ∧ Ext σ' σ'') (hk : shs.length + 1 ≤ k) :
    ∃ σ' b, callN lawProg (k + 1) (.func 45 [] []) [.vs vk (shs.map shV), .func g [] caps] σ = some (.bool b, σ') ∧ Ext σ σ' ∧ (b = true ↔ ∀ i (hi : i < shs.length), p i shs[i] = true) := by
  have run : ∃ T1 σ1 b, execC lawProg (callN lawProg k) k 45 20 (bodyOf Tryz.f45) (initT 0 [.vs vk (shs.map shV), .func g [] caps] .nil) σ = some (.ret, T1, σ1) ∧ T1.get 4 = some (.bool b) ∧ Ext σ σ1 ∧ (b = true ↔ ∀ i (hi : i < shs.length), p i shs[i] = true) := by
    simp only [bodyOf, Tryz.f45, Option.getD_some, initT, runOps, runD, again, step1, wantA, opSem, evalO, evalL, evalOpt, evalParts, putA, ofConst, ofScalar, ofScalars, abin, abinInt, aun, convA, builtinA, oneTy, elemTy, loadA, storeA, storeCellsA, setAt, partA, fillA, placesA, isFn, TyI.isAgg, isSeq, isNum, sliceA, boundA, setParams, minL, minF, maxL, maxF, repZ, reduceIte, Nat.reduceLT, Nat.reduceLeDiff, Nat.reduceEqDiff, Nat.reduceAdd, Nat.reduceMul, Nat.reduceSub, Nat.reduceBEq, Int.reduceEq, Int.reduceLT, Int.reduceLE, Int.reduceToNat, reduceCtorEq, sx, fx45, List.length_map]
    generalize hL : execC _ _ _ _ _ (Code.loop _) _ _ = q
    obtain ⟨e, T', σ', rfl, _, hx, hcase⟩ : ∃ e T' σ', q = some (e, T', σ') ∧ e ≠ .normal ∧ (Ext σ σ' ∧ ((e = .exit 0 ∧ ∀ i (hi : i < shs.length), p i shs[i] = true) ∨ (e = .ret ∧ T'.get 4 = some (.bool false) ∧ ∃ i, ∃ hi : i < shs.length, p i shs[i] = false))) := by
      rw [← hL]
      refine exec_loop2 (fun i T σ' => i ≤ shs.length ∧ T.get 1 = some (.func g [] caps) ∧ T.get 7 = some (.vs vk (shs.map shV)) ∧ T.get 8 = some (.int .i64 shs.length) ∧ T.get 9 = some (.int .i64 i) ∧ Ext σ σ' ∧ ∀ j (hj : j < shs.length), j < i → p j shs[j] = true) shs.length (by omega) ?_ ?_ ?_
      · rintro i hi T σ' ⟨_, t1, t7, t8, t9, hx, hall⟩
        have hlt : (i : Int) < shs.length := by omega
        have hget : (shs.map shV)[i]? = some (.agg [.int .i64 shs[i].name, .vs shs[i].dk (shs[i].data.map partV)]) := by rw [List.getElem?_map, List.getElem?_eq_getElem hi]; rfl
        have hx2 : Ext σ' ((σ'.push (.row 2 true [.int .i64 0, .vs .nil []])).put σ'.next (.row 2 true [.int .i64 shs[i].name, .vs shs[i].dk (shs[i].data.map partV)])) := (Ext.push _ _).put _ _ (Nat.le_refl _)
        obtain ⟨σ'', hc1, hc2⟩ := hf i hi _ (hx.trans hx2)
        have hw := i64_succ (i := i) (by omega)
        cases hp : p i shs[i] with
        | true =>
          left
          rw [hp] at hc1
          cases caps with
          | cons c cs =>
            refine ⟨_, _, by
              simp only [runOps, runD, again, step1, wantA, opSem, evalO, evalL, evalOpt, evalParts, putA, ofConst, ofScalar, ofScalars, abin, abinInt, aun, convA, builtinA, oneTy, elemTy, loadA, storeA, storeCellsA, setAt, partA, fillA, placesA, isFn, TyI.isAgg, isSeq, isNum, sliceA, boundA, setParams, minL, minF, maxL, maxF, repZ, reduceIte, Nat.reduceLT, Nat.reduceLeDiff, Nat.reduceEqDiff, Nat.reduceAdd, Nat.reduceMul, Nat.reduceSub, Nat.reduceBEq, Int.reduceEq, Int.reduceLT, Int.reduceLE, Int.reduceToNat, reduceCtorEq, sx, fx45, t1, t7, t8, t9, hlt, Int.natCast_nonneg, Int.toNat_natCast, hget, hc1, hw]
              rfl, hi, ?_, ?_, ?_, ?_, (hx.trans hx2).trans hc2, fun j hj hji => ?_⟩
            · simp only [Tr.get_set, Nat.reduceEqDiff, reduceIte, t1]
            · simp only [Tr.get_set, Nat.reduceEqDiff, reduceIte, t7]
            · simp only [Tr.get_set, Nat.reduceEqDiff, reduceIte, t8]
            · simp only [Tr.get_set, Nat.reduceEqDiff, reduceIte]
            · rcases Nat.lt_succ_iff_lt_or_eq.1 hji with h | rfl
              · exact hall j hj h
              · exact hp
          | nil =>
            have hv := hfn rfl
            refine ⟨_, _, by
              simp only [runOps, runD, again, step1, wantA, opSem, evalO, evalL, evalOpt, evalParts, putA, ofConst, ofScalar, ofScalars, abin, abinInt, aun, convA, builtinA, oneTy, elemTy, loadA, storeA, storeCellsA, setAt, partA, fillA, placesA, isFn, TyI.isAgg, isSeq, isNum, sliceA, boundA, setParams, minL, minF, maxL, maxF, repZ, reduceIte, Nat.reduceLT, Nat.reduceLeDiff, Nat.reduceEqDiff, Nat.reduceAdd, Nat.reduceMul, Nat.reduceSub, Nat.reduceBEq, Int.reduceEq, Int.reduceLT, Int.reduceLE, Int.reduceToNat, reduceCtorEq, sx, fx45, t1, t7, t8, t9, hlt, Int.natCast_nonneg, Int.toNat_natCast, hget, hv, hc1, hw]
              rfl, hi, ?_, ?_, ?_, ?_, (hx.trans hx2).trans hc2, fun j hj hji => ?_⟩
            · simp only [Tr.get_set, Nat.reduceEqDiff, reduceIte, t1]
            · simp only [Tr.get_set, Nat.reduceEqDiff, reduceIte, t7]
            · simp only [Tr.get_set, Nat.reduceEqDiff, reduceIte, t8]
            · simp only [Tr.get_set, Nat.reduceEqDiff, reduceIte]
            · rcases Nat.lt_succ_iff_lt_or_eq.1 hji with h | rfl
              · exact hall j hj h
              · exact hp
        | false =>
          right
          rw [hp] at hc1
          cases caps with
          | cons c cs =>
            refine ⟨.ret, _, _, by
              simp only [runOps, runD, again, step1, wantA, opSem, evalO, evalL, evalOpt, evalParts, putA, ofConst, ofScalar, ofScalars, abin, abinInt, aun, convA, builtinA, oneTy, elemTy, loadA, storeA, storeCellsA, setAt, partA, fillA, placesA, isFn, TyI.isAgg, isSeq, isNum, sliceA, boundA, setParams, minL, minF, maxL, maxF, repZ, reduceIte, Nat.reduceLT, Nat.reduceLeDiff, Nat.reduceEqDiff, Nat.reduceAdd, Nat.reduceMul, Nat.reduceSub, Nat.reduceBEq, Int.reduceEq, Int.reduceLT, Int.reduceLE, Int.reduceToNat, reduceCtorEq, sx, fx45, t1, t7, t8, t9, hlt, Int.natCast_nonneg, Int.toNat_natCast, hget, hc1, hw]
              rfl, by simp, (hx.trans hx2).trans hc2, .inr ⟨rfl, ?_, i, hi, hp⟩⟩
            simp only [Tr.get_set, Nat.reduceEqDiff, reduceIte]
          | nil =>
            have hv := hfn rfl
            refine ⟨.ret, _, _, by
              simp only [runOps, runD, again, step1, wantA, opSem, evalO, evalL, evalOpt, evalParts, putA, ofConst, ofScalar, ofScalars, abin, abinInt, aun, convA, builtinA, oneTy, elemTy, loadA, storeA, storeCellsA, setAt, partA, fillA, placesA, isFn, TyI.isAgg, isSeq, isNum, sliceA, boundA, setParams, minL, minF, maxL, maxF, repZ, reduceIte, Nat.reduceLT, Nat.reduceLeDiff, Nat.reduceEqDiff, Nat.reduceAdd, Nat.reduceMul, Nat.reduceSub, Nat.reduceBEq, Int.reduceEq, Int.reduceLT, Int.reduceLE, Int.reduceToNat, reduceCtorEq, sx, fx45, t1, t7, t8, t9, hlt, Int.natCast_nonneg, Int.toNat_natCast, hget, hv, hc1, hw]
              rfl, by simp, (hx.trans hx2).trans hc2, .inr ⟨rfl, ?_, i, hi, hp⟩⟩
            simp only [Tr.get_set, Nat.reduceEqDiff, reduceIte]
      · rintro T σ' ⟨_, t1, t7, t8, t9, hx, hall⟩
        exact ⟨_, _, _, by
          simp only [runOps, runD, again, step1, wantA, opSem, evalO, evalL, evalOpt, evalParts, putA, ofConst, ofScalar, ofScalars, abin, abinInt, aun, convA, builtinA, oneTy, elemTy, loadA, storeA, storeCellsA, setAt, partA, fillA, placesA, isFn, TyI.isAgg, isSeq, isNum, sliceA, boundA, setParams, minL, minF, maxL, maxF, repZ, reduceIte, Nat.reduceLT, Nat.reduceLeDiff, Nat.reduceEqDiff, Nat.reduceAdd, Nat.reduceMul, Nat.reduceSub, Nat.reduceBEq, Int.reduceEq, Int.reduceLT, Int.reduceLE, Int.reduceToNat, reduceCtorEq, sx, fx45, t1, t7, t8, t9, Int.lt_irrefl]
          rfl, by simp, hx, .inl ⟨rfl, fun i hi => hall i hi hi⟩⟩
      · refine ⟨Nat.zero_le _, ?_, ?_, ?_, ?_, Ext.refl _, by simp⟩
        all_goals simp only [Tr.get_set, Nat.reduceEqDiff, reduceIte]
        all_goals rfl
    rcases hcase with ⟨rfl, hall⟩ | ⟨rfl, hT, i, hi, hp⟩
    · simp only [runOps, runD, again, step1, wantA, opSem, evalO, evalL, evalOpt, evalParts, putA, ofConst, ofScalar, ofScalars, abin, abinInt, aun, convA, builtinA, oneTy, elemTy, loadA, storeA, storeCellsA, setAt, partA, fillA, placesA, isFn, TyI.isAgg, isSeq, isNum, sliceA, boundA, setParams, minL, minF, maxL, maxF, repZ, reduceIte, Nat.reduceLT, Nat.reduceLeDiff, Nat.reduceEqDiff, Nat.reduceAdd, Nat.reduceMul, Nat.reduceSub, Nat.reduceBEq, Int.reduceEq, Int.reduceLT, Int.reduceLE, Int.reduceToNat, reduceCtorEq, sx, fx45]
      exact ⟨_, _, true, rfl, by simp only [Tr.get_set, Nat.reduceEqDiff, reduceIte], hx, by simpa using hall⟩
    · simp only [runOps, runD, again, step1, wantA, opSem, evalO, evalL, evalOpt, evalParts, putA, ofConst, ofScalar, ofScalars, abin, abinInt, aun, convA, builtinA, oneTy, elemTy, loadA, storeA, storeCellsA, setAt, partA, fillA, placesA, isFn, TyI.isAgg, isSeq, isNum, sliceA, boundA, setParams, minL, minF, maxL, maxF, repZ, reduceIte, Nat.reduceLT, Nat.reduceLeDiff, Nat.reduceEqDiff, Nat.reduceAdd, Nat.reduceMul, Nat.reduceSub, Nat.reduceBEq, Int.reduceEq, Int.reduceLT, Int.reduceLE, Int.reduceToNat, reduceCtorEq, sx, fx45]
      exact ⟨_, _, false, rfl, hT, hx, by simp only [Bool.false_eq_true, false_iff]; exact fun h => by rw [h i hi] at hp; cases hp⟩
  obtain ⟨T1, σ1, b, h1, h2, h3, h4⟩ := run
  exact ⟨σ1, b, q_call (first := []) (caps := []) fn45 rfl (by simp [Tryz.f45]) h1 (by simp) (res_one h2), h3, h4⟩

def SorterOk (shs : List Sh) : Prop := shs.length ≤ 4 ∧ (∀ i (hi : i < shs.length), ((shs.take i).any fun o => o.name == shs[i].name) = false) ∧ ∀ s, s ∈ shs → sheafB s = true
theorem checkSorter_call (lk : VK) (shs : List Sh) (hn : shs.length ≤ 1000) (hd : ∀ s, s ∈ shs → s.data.length ≤ 1000) (hk : 4000 ≤ k) : ∃ E : Int, (∀ σ, pureCall lawProg (callN lawProg k) (.func 15 [] []) [.agg [.vs lk (shs.map shV)]] σ = some (.int .i64 E, σ)) ∧ (SorterOk shs → E = 0) ∧ (¬ SorterOk shs → E = 4) := by
  obtain ⟨k, rfl⟩ : ∃ m, k = m + 2 := ⟨k - 2, by omega⟩
  have run : ∃ T1 σ1 E, execC lawProg (callN lawProg (k + 1)) (k + 1) 15 24 (bodyOf Tryz.f15) (initT 0 [.agg [.vs lk (shs.map shV)]] .nil) AMem.empty = some (.ret, T1, σ1) ∧ T1.get 2 = some (.int .i64 E) ∧ (SorterOk shs → E = 0) ∧ (¬ SorterOk shs → E = 4) := by
    by_cases h4 : ((shs.length : Nat) : Int) > 4
    · simp only [bodyOf, Tryz.f15, Option.getD_some, initT, runOps, runD, again, step1, wantA, opSem, evalO, evalL, evalOpt, evalParts, putA, ofConst, ofScalar, ofScalars, abin, abinInt, aun, convA, builtinA, oneTy, elemTy, loadA, storeA, storeCellsA, setAt, partA, fillA, placesA, isFn, TyI.isAgg, isSeq, isNum, sliceA, boundA, setParams, minL, minF, maxL, maxF, repZ, reduceIte, Nat.reduceLT, Nat.reduceLeDiff, Nat.reduceEqDiff, Nat.reduceAdd, Nat.reduceMul, Nat.reduceSub, Nat.reduceBEq, Int.reduceEq, Int.reduceLT, Int.reduceLE, Int.reduceToNat, reduceCtorEq, sx, fx15, List.length_map, h4]
      exact ⟨_, _, 4, rfl, by simp only [Tr.get_set, Nat.reduceEqDiff, reduceIte], fun h => by have := h.1; omega, fun _ => rfl⟩
    · have g0 : (AMem.empty.push (.row 1 true [.vs lk (shs.map shV)])).get 0 = some (.row 1 true [.vs lk (shs.map shV)]) := by rw [AMem.get_push, if_pos next_empty]
      obtain ⟨σ1, b1, c1, x1, i1⟩ := every_callN (k := k) (σ := AMem.empty.push (.row 1 true [.vs lk (shs.map shV)])) lk shs 38 [.ptr 0 0] (fun i s => !((shs.take i).any fun o => o.name == s.name)) hn (fun h => by cases h) (fun i hi σ' hx => fresh_callN (k := k) shs i shs[i] (by omega) ((hx.2 0 (by simp [next_empty])).trans g0) (by have := hx.1; simp [next_empty] at this; omega) hn (by omega)) (by omega)
      obtain ⟨σ2, b2, c2, x2, i2⟩ := every_callN (k := k) (σ := σ1) lk shs 41 [] (fun i s => sheafB s) hn (fun _ => nv4) (fun i hi σ' hx => by
        have := hd _ (List.getElem_mem hi)
        exact sheaf_callN (k := k) i shs[i] (by omega) (by omega)) (by omega)
      have g1 : σ1.get 0 = some (.row 1 true [.vs lk (shs.map shV)]) := by rw [x1.2 0 (by simp [next_empty])]; exact g0
      cases b1 with
      | false =>
        simp only [bodyOf, Tryz.f15, Option.getD_some, initT, runOps, runD, again, step1, wantA, opSem, evalO, evalL, evalOpt, evalParts, putA, ofConst, ofScalar, ofScalars, abin, abinInt, aun, convA, builtinA, oneTy, elemTy, loadA, storeA, storeCellsA, setAt, partA, fillA, placesA, isFn, TyI.isAgg, isSeq, isNum, sliceA, boundA, setParams, minL, minF, maxL, maxF, repZ, reduceIte, Nat.reduceLT, Nat.reduceLeDiff, Nat.reduceEqDiff, Nat.reduceAdd, Nat.reduceMul, Nat.reduceSub, Nat.reduceBEq, Int.reduceEq, Int.reduceLT, Int.reduceLE, Int.reduceToNat, reduceCtorEq, sx, fx15, List.length_map, h4, c1]
        refine ⟨_, _, 4, rfl, by simp only [Tr.get_set, Nat.reduceEqDiff, reduceIte], fun h => ?_, fun _ => rfl⟩
        have := i1.2 fun i hi => by rw [h.2.1 i hi]; rfl
        cases this
      | true =>
        cases b2 with
        | false =>
          simp only [bodyOf, Tryz.f15, Option.getD_some, initT, runOps, runD, again, step1, wantA, opSem, evalO, evalL, evalOpt, evalParts, putA, ofConst, ofScalar, ofScalars, abin, abinInt, aun, convA, builtinA, oneTy, elemTy, loadA, storeA, storeCellsA, setAt, partA, fillA, placesA, isFn, TyI.isAgg, isSeq, isNum, sliceA, boundA, setParams, minL, minF, maxL, maxF, repZ, reduceIte, Nat.reduceLT, Nat.reduceLeDiff, Nat.reduceEqDiff, Nat.reduceAdd, Nat.reduceMul, Nat.reduceSub, Nat.reduceBEq, Int.reduceEq, Int.reduceLT, Int.reduceLE, Int.reduceToNat, reduceCtorEq, sx, fx15, List.length_map, h4, c1, g1, c2]
          refine ⟨_, _, 4, rfl, by simp only [Tr.get_set, Nat.reduceEqDiff, reduceIte], fun h => ?_, fun _ => rfl⟩
          have := i2.2 fun i hi => h.2.2 _ (List.getElem_mem hi)
          cases this
        | true =>
          simp only [bodyOf, Tryz.f15, Option.getD_some, initT, runOps, runD, again, step1, wantA, opSem, evalO, evalL, evalOpt, evalParts, putA, ofConst, ofScalar, ofScalars, abin, abinInt, aun, convA, builtinA, oneTy, elemTy, loadA, storeA, storeCellsA, setAt, partA, fillA, placesA, isFn, TyI.isAgg, isSeq, isNum, sliceA, boundA, setParams, minL, minF, maxL, maxF, repZ, reduceIte, Nat.reduceLT, Nat.reduceLeDiff, Nat.reduceEqDiff, Nat.reduceAdd, Nat.reduceMul, Nat.reduceSub, Nat.reduceBEq, Int.reduceEq, Int.reduceLT, Int.reduceLE, Int.reduceToNat, reduceCtorEq, sx, fx15, List.length_map, h4, c1, g1, c2]
          refine ⟨_, _, 0, rfl, by simp only [Tr.get_set, Nat.reduceEqDiff, reduceIte], fun _ => rfl, fun h => absurd ⟨by omega, fun i hi => ?_, fun s hs => ?_⟩ h⟩
          · have := i1.1 rfl i hi
            simpa using this
          · obtain ⟨i, hi, rfl⟩ := List.mem_iff_getElem.1 hs
            exact i2.1 rfl i hi
  obtain ⟨T1, σ1, E, h1, h2, h3, h4⟩ := run
  exact ⟨E, fun σ => pureCall_of rfl (memo15 _) (pureRun_of fn15 rfl (by simp [Tryz.f15]) h1 (by simp) (res_one h2) rfl), h3, h4⟩
end Go.Proofs.YtkamjhhodnmoiaaGreatDoor
