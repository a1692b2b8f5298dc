/- The sheaf for a chunk: the program's find. -/
import Derived.Test.YtkamjhhodnmoiaaGreatDoorF5
set_option maxRecDepth 100000
set_option linter.unusedSimpArgs false
set_option linter.unusedVariables false
namespace Go.Proofs.YtkamjhhodnmoiaaGreatDoor
open Go Go.Proofs.YtkamjhhodnmoiaaGreatDoor.Pale
variable {k : Nat} {σ : AMem}

def lenOfM : AVal → Nat
  | .agg [_, .slice _ _ n _ _] => n
  | _ => 0
def delP (n of : Int) (v : AVal) : Bool := (nameOf v == n) && (((lenOfM v : Nat) : Int) != of)
def chunkRow (n at_ of : Int) (d : AVal) : AObj := .row 4 true [.int .i64 n, .int .i64 at_, .int .i64 of, d]

theorem find1_callN {rc : Nat} {n at_ of : Int} {d : AVal} (nm : Int) (r o m z : Nat) (c : Option Nat) (hg : σ.get rc = some (chunkRow n at_ of d)) (hr : rc < σ.next) (hk : 1 ≤ k) : ∃ σ'', callN lawProg k (.func 65 [] [.ptr rc 0]) [.agg [.int .i64 nm, .slice r o m c z]] σ = some (.bool (delP n of (.agg [.int .i64 nm, .slice r o m c z])), σ'') ∧ Ext σ σ'' := by
  obtain ⟨k, rfl⟩ : ∃ m, k = m + 1 := ⟨k - 1, by omega⟩
  have hq : ¬ σ.next = rc := by omega
  unfold chunkRow at hg
  have hd : delP n of (.agg [.int .i64 nm, .slice r o m c z]) = ((nm == n) && (((m : Nat) : Int) != of)) := rfl
  rw [hd]
  have e : ∃ T1, execC lawProg (callN lawProg k) k 65 17 (bodyOf Tryz.f65) (initT 0 [.agg [.int .i64 nm, .slice r o m c z], .ptr rc 0] .nil) σ = some (.ret, T1, σ.push (.row 2 true [.int .i64 nm, .slice r o m c z])) ∧ T1.get 3 = some (.bool ((nm == n) && (((m : Nat) : Int) != of))) := by
    cases h1 : (nm == n) with
    | false =>
      simp only [bodyOf, Tryz.f65, Option.getD_some, initT, runOps, runD, again, step1, wantA, opSem, evalO, evalL, evalOpt, evalParts, putA, ofConst, ofScalar, ofScalars, abin, abinInt, aun, convA, builtinA, oneTy, elemTy, loadA, storeA, storeCellsA, setAt, partA, fillA, placesA, isFn, TyI.isAgg, isSeq, isNum, sliceA, boundA, setParams, minL, minF, maxL, maxF, repZ, reduceIte, Nat.reduceLT, Nat.reduceLeDiff, Nat.reduceEqDiff, Nat.reduceAdd, Nat.reduceMul, Nat.reduceSub, Nat.reduceBEq, Int.reduceEq, Int.reduceLT, Int.reduceLE, Int.reduceToNat, reduceCtorEq, sx, fx65, hq, hg, h1]
      exact ⟨_, rfl, by simp only [Tr.get_set, Nat.reduceEqDiff, reduceIte]⟩
    | true =>
      simp only [bodyOf, Tryz.f65, Option.getD_some, initT, runOps, runD, again, step1, wantA, opSem, evalO, evalL, evalOpt, evalParts, putA, ofConst, ofScalar, ofScalars, abin, abinInt, aun, convA, builtinA, oneTy, elemTy, loadA, storeA, storeCellsA, setAt, partA, fillA, placesA, isFn, TyI.isAgg, isSeq, isNum, sliceA, boundA, setParams, minL, minF, maxL, maxF, repZ, reduceIte, Nat.reduceLT, Nat.reduceLeDiff, Nat.reduceEqDiff, Nat.reduceAdd, Nat.reduceMul, Nat.reduceSub, Nat.reduceBEq, Int.reduceEq, Int.reduceLT, Int.reduceLE, Int.reduceToNat, reduceCtorEq, sx, fx65, hq, hg, h1]
      exact ⟨_, rfl, by simp only [Tr.get_set, Nat.reduceEqDiff, reduceIte]⟩
  obtain ⟨T1, e1, e2⟩ := e
  exact ⟨_, q_call (first := []) (caps := [.ptr rc 0]) fn65 rfl (by simp [Tryz.f65]) e1 (by simp) (res_one e2), Ext.push _ _⟩
theorem find2_callN {rc : Nat} {n at_ of : Int} {d : AVal} (nm : Int) (r o m z : Nat) (c : Option Nat) (hg : σ.get rc = some (chunkRow n at_ of d)) (hr : rc < σ.next) (hk : 1 ≤ k) : ∃ σ'', callN lawProg k (.func 67 [] [.ptr rc 0]) [.agg [.int .i64 nm, .slice r o m c z]] σ = some (.bool (sameName n (.agg [.int .i64 nm, .slice r o m c z])), σ'') ∧ Ext σ σ'' := by
  obtain ⟨k, rfl⟩ : ∃ m, k = m + 1 := ⟨k - 1, by omega⟩
  have hq : ¬ σ.next = rc := by omega
  unfold chunkRow at hg
  have hd : sameName n (.agg [.int .i64 nm, .slice r o m c z]) = (nm == n) := rfl
  rw [hd]
  have e : ∃ T1, execC lawProg (callN lawProg k) k 67 9 (bodyOf Tryz.f67) (initT 0 [.agg [.int .i64 nm, .slice r o m c z], .ptr rc 0] .nil) σ = some (.ret, T1, σ.push (.row 2 true [.int .i64 nm, .slice r o m c z])) ∧ T1.get 3 = some (.bool (nm == n)) := by
    simp only [bodyOf, Tryz.f67, Option.getD_some, initT, runOps, runD, again, step1, wantA, opSem, evalO, evalL, evalOpt, evalParts, putA, ofConst, ofScalar, ofScalars, abin, abinInt, aun, convA, builtinA, oneTy, elemTy, loadA, storeA, storeCellsA, setAt, partA, fillA, placesA, isFn, TyI.isAgg, isSeq, isNum, sliceA, boundA, setParams, minL, minF, maxL, maxF, repZ, reduceIte, Nat.reduceLT, Nat.reduceLeDiff, Nat.reduceEqDiff, Nat.reduceAdd, Nat.reduceMul, Nat.reduceSub, Nat.reduceBEq, Int.reduceEq, Int.reduceLT, Int.reduceLE, Int.reduceToNat, reduceCtorEq, sx, fx67, hq, hg]
    exact ⟨_, rfl, by simp only [Tr.get_set, Nat.reduceEqDiff, reduceIte]⟩
  obtain ⟨T1, e1, e2⟩ := e
  exact ⟨_, q_call (first := []) (caps := [.ptr rc 0]) fn67 rfl (by simp [Tryz.f67]) e1 (by simp) (res_one e2), Ext.push _ _⟩

/-! ### an element more, where there may be room -/
theorem append_room {e : TyI} {r n : Nat} {ls : List (List AVal)} {zs xs : List AVal} (hl : ∀ l, l ∈ ls → l.length = e.size) (hn : n = ls.length) (hr : σ.get r = some (.row e.size e.isAgg (ls.flatten ++ zs))) (hrn : r < σ.next) (hxl : xs.length = e.size) (hone : xs.all AVal.oneCell = true) (hzs : ∃ m, zs.length = m * e.size)
    (hs0 : e.size ≠ 0) (hb0 : e.bytes ≠ 0) (hb1 : e.bytes ≤ 1048576) (hby : (n + 1) * e.bytes ≤ mostBytes) :
    ∃ r' σ' zs', appendA e (σ.push (.row e.size e.isAgg xs)) (.slice r 0 n none e.size) (.slice σ.next 0 1 (some 1) e.size) = some (.slice r' 0 (n + 1) none e.size, σ') ∧ σ'.get r' = some (.row e.size e.isAgg ((ls ++ [xs]).flatten ++ zs')) ∧ (r' = r ∨ r' = σ.next + 1) ∧ r' < σ'.next ∧ σ.next < σ'.next ∧ (∀ s, s < σ.next → s ≠ r → σ'.get s = σ.get s) ∧ ∃ m, zs'.length = m * e.size := by
  subst hn
  have hfl := flat_length hl
  have hsrc : sourceA e.size (σ.push (.row e.size e.isAgg xs)) (.slice σ.next 0 1 (some 1) e.size) = some (xs, 1) := by
    have : (σ.push (.row e.size e.isAgg xs)).get σ.next = some (.row e.size e.isAgg xs) := by rw [AMem.get_push, if_pos rfl]
    simp only [sourceA, this, List.drop_zero, Nat.zero_add, Nat.one_mul, hxl, Nat.le_refl, if_true]
    rw [← hxl, List.take_length]
  have hg : (σ.push (.row e.size e.isAgg xs)).get r = some (.row e.size e.isAgg (ls.flatten ++ zs)) := by rw [AMem.get_push, if_neg (by omega)]; exact hr
  obtain ⟨m, hm⟩ := hzs
  have hfx : (ls ++ [xs]).flatten = ls.flatten ++ xs := by rw [List.flatten_append]; simp
  by_cases h0 : m = 0
  · subst h0
    have hz : zs = [] := List.eq_nil_of_length_eq_zero (by omega)
    subst hz
    refine ⟨σ.next + 1, ((σ.push (.row e.size e.isAgg xs)).del r).push (.row e.size e.isAgg (ls.flatten ++ xs)), [], ?_, ?_, .inr rfl, by simp, by simp; omega, fun s h1 h2 => ?_, 0, by simp⟩
    · simp only [appendA, hsrc, hg]
      have hnf : ¬ 0 + (ls.length + 1) * e.size ≤ (ls.flatten ++ []).length := by
        rw [List.append_nil, hfl, Nat.add_mul]; omega
      have hc : (decide (0 + ls.length * e.size ≤ (ls.flatten ++ []).length) && xs.all AVal.oneCell) = true := by
        rw [hone, Bool.and_true]; exact decide_eq_true (by rw [List.append_nil, hfl]; omega)
      rw [if_neg (by simp), if_neg (by simp [hs0, hb0]; omega), if_pos hby, if_pos trivial, if_neg hnf, if_pos hc]
      have ht : ((ls.flatten ++ []).drop 0).take (ls.length * e.size) = ls.flatten := by rw [List.append_nil, List.drop_zero, ← hfl, List.take_length]
      rw [ht]
      rfl
    · rw [AMem.get_push, if_pos (by simp), hfx, List.append_nil]
    · rw [AMem.get_push, if_neg (by simp; omega), AMem.get_del, if_neg (Ne.symm h2), AMem.get_push, if_neg (by omega)]
  · have hzl : e.size ≤ zs.length := by
      rw [hm]; exact Nat.le_mul_of_pos_left _ (by omega)
    refine ⟨r, (σ.push (.row e.size e.isAgg xs)).put r (.row e.size e.isAgg ((ls ++ [xs]).flatten ++ zs.drop e.size)), zs.drop e.size, ?_, by rw [AMem.get_put, if_pos rfl], .inl rfl, by simp; omega, by simp, fun s h1 h2 => by rw [AMem.get_put, if_neg (Ne.symm h2), AMem.get_push, if_neg (by omega)], m - 1, by rw [List.length_drop, hm, Nat.sub_mul, Nat.one_mul]⟩
    have hf : 0 + (ls.length + 1) * e.size ≤ (ls.flatten ++ zs).length := by
      rw [List.length_append, hfl, Nat.add_mul]; omega
    have hc : (decide (0 + ls.length * e.size + xs.length ≤ (ls.flatten ++ zs).length) && xs.all AVal.oneCell) = true := by
      rw [hone, Bool.and_true]; exact decide_eq_true (by rw [List.length_append, hfl, hxl]; omega)
    have hset : setAt (ls.flatten ++ zs) (0 + ls.length * e.size) xs = (ls ++ [xs]).flatten ++ zs.drop e.size := by
      rw [Nat.zero_add, setAt_split (by rw [List.length_append, hfl, hxl]; omega), ← hfl, List.take_left, ← List.drop_drop, List.drop_left, hxl, hfx, List.append_assoc]
    simp only [appendA, hsrc, hg]
    rw [if_neg (by simp), if_neg (by simp [hs0, hb0]; omega), if_pos hby, if_pos trivial, if_pos hf]
    simp only [storeCellsA, hg, hc, if_true, Option.map_some, hset]

/-! ### find -/
def newSh (n : Int) (of : Nat) : Sh := ⟨n, .some, List.replicate of (.nil, [])⟩
def keepS (n : Int) (of : Nat) (s : Sh) : Bool := !((s.name == n) && decide (s.data.length ≠ of))
/-- The sheaves with one for a chunk, and where it stands. -/
def findL (shs : List Sh) (n : Int) (of : Nat) : List Sh × Int :=
  if placeI n (shs.filter (keepS n of)) ≥ 0 then (shs.filter (keepS n of), placeI n (shs.filter (keepS n of)))
  else if (shs.filter (keepS n of)).length + 1 > 4 then ((shs.filter (keepS n of) ++ [newSh n of]).drop 1, ((shs.filter (keepS n of)).length : Int) - 1)
  else (shs.filter (keepS n of) ++ [newSh n of], ((shs.filter (keepS n of)).length : Int))
end Go.Proofs.YtkamjhhodnmoiaaGreatDoor
