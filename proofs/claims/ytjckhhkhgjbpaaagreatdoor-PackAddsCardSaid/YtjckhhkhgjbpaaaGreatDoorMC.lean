import Derived.Test.YtjckhhkhgjbpaaaGreatDoorMA
import Derived.Test.YtjckhhkhgjbpaaaGreatDoorMB
import Derived.Test.YtjckhhkhgjbpaaaGreatDoorPaleDeep
import Derived.Test.YtjckhhkhgjbpaaaGreatDoorPaleRead
/- Chunks: when one is right; copies. -/
set_option maxRecDepth 100000
set_option linter.unusedSimpArgs false
set_option linter.unusedVariables false
namespace Go.Proofs.YtjckhhkhgjbpaaaGreatDoor
open Go Go.Proofs.YtjckhhkhgjbpaaaGreatDoor.Pale
variable {k : Nat} {σ : AMem}

/-- A chunk as a value. -/
def chunkV (name i of : Int) (vk : VK) (d : List Nat) : AVal := .agg [.int .i64 name, .int .i64 i, .int .i64 of, .vs vk (bytesV d)]
def OkC (name i of : Int) (d : List Nat) : Prop := (1 ≤ of ∧ of ≤ 200) ∧ (0 ≤ i ∧ i ≤ of - 1) ∧ (0 ≤ name ∧ name ≤ 65535) ∧ (1 ≤ (d.length : Int) ∧ (d.length : Int) ≤ 100)
instance (name i of : Int) (d : List Nat) : Decidable (OkC name i of d) := by unfold OkC; infer_instance

theorem isChunk_run (name i of : Int) (vk : VK) (d : List Nat) (hk : 1 ≤ k) : pureRun (callN lawProg (k + 1)) (.func 68 [] []) [chunkV name i of vk d] = some (.bool (decide (OkC name i of d)), true) := by
  have run : ∃ T1 σ1, execC lawProg (callN lawProg k) k 68 25 (bodyOf Tryz.f68) (initT 0 [.agg [.int .i64 name, .int .i64 i, .int .i64 of, .vs vk (bytesV d)]] .nil) AMem.empty = some (.ret, T1, σ1) ∧ T1.get 2 = some (.bool (decide (OkC name i of d))) := by
    by_cases h1 : 1 ≤ of ∧ of ≤ 200
    · have hw : IntKind.i64.wrap (of - 1) = of - 1 := i64_id (by omega) (by omega)
      by_cases h2 : 0 ≤ i ∧ i ≤ of - 1
      · by_cases h3 : 0 ≤ name ∧ name ≤ 65535
        · by_cases h4 : 1 ≤ (d.length : Int) ∧ (d.length : Int) ≤ 100
          · have hd : decide (OkC name i of d) = true := decide_eq_true ⟨h1, h2, h3, h4⟩
            rw [hd]
            simp only [bodyOf, Tryz.f68, Option.getD_some, initT, dx, reduceIte, Nat.reduceLT, Nat.reduceLeDiff, Nat.reduceEqDiff, Nat.reduceAdd, Nat.reduceMul, Nat.reduceSub, Nat.reduceBEq, Int.reduceEq, Int.reduceLT, Int.reduceLE, Int.reduceToNat, reduceCtorEq, sx, fx68, within_call _ _ _ hk, h1, h2, h3, h4, hw, bytesV_length]
            exact ⟨_, _, rfl, by simp only [Tr.get_set, Nat.reduceEqDiff, reduceIte]⟩
          · have hd : decide (OkC name i of d) = false := decide_eq_false (fun h => h4 h.2.2.2)
            rw [hd]
            simp only [bodyOf, Tryz.f68, Option.getD_some, initT, dx, reduceIte, Nat.reduceLT, Nat.reduceLeDiff, Nat.reduceEqDiff, Nat.reduceAdd, Nat.reduceMul, Nat.reduceSub, Nat.reduceBEq, Int.reduceEq, Int.reduceLT, Int.reduceLE, Int.reduceToNat, reduceCtorEq, sx, fx68, within_call _ _ _ hk, h1, h2, h3, h4, hw, bytesV_length]
            exact ⟨_, _, rfl, by simp only [Tr.get_set, Nat.reduceEqDiff, reduceIte]⟩
        · have hd : decide (OkC name i of d) = false := decide_eq_false (fun h => h3 h.2.2.1)
          rw [hd]
          simp only [bodyOf, Tryz.f68, Option.getD_some, initT, dx, reduceIte, Nat.reduceLT, Nat.reduceLeDiff, Nat.reduceEqDiff, Nat.reduceAdd, Nat.reduceMul, Nat.reduceSub, Nat.reduceBEq, Int.reduceEq, Int.reduceLT, Int.reduceLE, Int.reduceToNat, reduceCtorEq, sx, fx68, within_call _ _ _ hk, h1, h2, h3, hw, bytesV_length]
          exact ⟨_, _, rfl, by simp only [Tr.get_set, Nat.reduceEqDiff, reduceIte]⟩
      · have hd : decide (OkC name i of d) = false := decide_eq_false (fun h => h2 h.2.1)
        rw [hd]
        simp only [bodyOf, Tryz.f68, Option.getD_some, initT, dx, reduceIte, Nat.reduceLT, Nat.reduceLeDiff, Nat.reduceEqDiff, Nat.reduceAdd, Nat.reduceMul, Nat.reduceSub, Nat.reduceBEq, Int.reduceEq, Int.reduceLT, Int.reduceLE, Int.reduceToNat, reduceCtorEq, sx, fx68, within_call _ _ _ hk, h1, h2, hw, bytesV_length]
        exact ⟨_, _, rfl, by simp only [Tr.get_set, Nat.reduceEqDiff, reduceIte]⟩
    · have hd : decide (OkC name i of d) = false := decide_eq_false (fun h => h1 h.1)
      rw [hd]
      simp only [bodyOf, Tryz.f68, Option.getD_some, initT, dx, reduceIte, Nat.reduceLT, Nat.reduceLeDiff, Nat.reduceEqDiff, Nat.reduceAdd, Nat.reduceMul, Nat.reduceSub, Nat.reduceBEq, Int.reduceEq, Int.reduceLT, Int.reduceLE, Int.reduceToNat, reduceCtorEq, sx, fx68, within_call _ _ _ hk, h1, bytesV_length]
      exact ⟨_, _, rfl, by simp only [Tr.get_set, Nat.reduceEqDiff, reduceIte]⟩
  obtain ⟨T1, σ1, h1, h2⟩ := run
  exact pureRun_of fn68 rfl (by simp [Tryz.f68]) h1 (by simp) (res_one h2) rfl
theorem isChunk_call {x : AVal} {seen : List Nat} {name i of : Int} {vk : VK} {d : List Nat} (hx : snapF false σ snapDepth x = some (chunkV name i of vk d, seen)) (hk : 2 ≤ k) : pureCall lawProg (callN lawProg k) (.func 68 [] []) [x] σ = some (.bool (decide (OkC name i of d)), σ) := by
  obtain ⟨k, rfl⟩ : ∃ m, k = m + 1 := ⟨k - 1, by omega⟩
  have hs : snapL (snapF false σ snapDepth) [x] = some ([chunkV name i of vk d], seen ++ []) := by simp only [snapL, hx]
  exact pureCall_of hs (memo68 _) (isChunk_run name i of vk d (by omega))

theorem rIsChunk_run (name i of : Int) (vk : VK) (d : List Nat) (hk : 1 ≤ k) : pureRun (callN lawProg (k + 1)) (.func 23 [] []) [chunkV name i of vk d] = some (.bool (decide (OkC name i of d)), true) := by
  have run : ∃ T1 σ1, execC lawProg (callN lawProg k) k 23 25 (bodyOf Tryz.f23) (initT 0 [.agg [.int .i64 name, .int .i64 i, .int .i64 of, .vs vk (bytesV d)]] .nil) AMem.empty = some (.ret, T1, σ1) ∧ T1.get 2 = some (.bool (decide (OkC name i of d))) := by
    by_cases h1 : 1 ≤ of ∧ of ≤ 200
    · have hw : IntKind.i64.wrap (of - 1) = of - 1 := i64_id (by omega) (by omega)
      by_cases h2 : 0 ≤ i ∧ i ≤ of - 1
      · by_cases h3 : 0 ≤ name ∧ name ≤ 65535
        · by_cases h4 : 1 ≤ (d.length : Int) ∧ (d.length : Int) ≤ 100
          · have hd : decide (OkC name i of d) = true := decide_eq_true ⟨h1, h2, h3, h4⟩
            rw [hd]
            simp only [bodyOf, Tryz.f23, Option.getD_some, initT, dx, reduceIte, Nat.reduceLT, Nat.reduceLeDiff, Nat.reduceEqDiff, Nat.reduceAdd, Nat.reduceMul, Nat.reduceSub, Nat.reduceBEq, Int.reduceEq, Int.reduceLT, Int.reduceLE, Int.reduceToNat, reduceCtorEq, sx, fx23, in_call _ _ _ hk, h1, h2, h3, h4, hw, bytesV_length]
            exact ⟨_, _, rfl, by simp only [Tr.get_set, Nat.reduceEqDiff, reduceIte]⟩
          · have hd : decide (OkC name i of d) = false := decide_eq_false (fun h => h4 h.2.2.2)
            rw [hd]
            simp only [bodyOf, Tryz.f23, Option.getD_some, initT, dx, reduceIte, Nat.reduceLT, Nat.reduceLeDiff, Nat.reduceEqDiff, Nat.reduceAdd, Nat.reduceMul, Nat.reduceSub, Nat.reduceBEq, Int.reduceEq, Int.reduceLT, Int.reduceLE, Int.reduceToNat, reduceCtorEq, sx, fx23, in_call _ _ _ hk, h1, h2, h3, h4, hw, bytesV_length]
            exact ⟨_, _, rfl, by simp only [Tr.get_set, Nat.reduceEqDiff, reduceIte]⟩
        · have hd : decide (OkC name i of d) = false := decide_eq_false (fun h => h3 h.2.2.1)
          rw [hd]
          simp only [bodyOf, Tryz.f23, Option.getD_some, initT, dx, reduceIte, Nat.reduceLT, Nat.reduceLeDiff, Nat.reduceEqDiff, Nat.reduceAdd, Nat.reduceMul, Nat.reduceSub, Nat.reduceBEq, Int.reduceEq, Int.reduceLT, Int.reduceLE, Int.reduceToNat, reduceCtorEq, sx, fx23, in_call _ _ _ hk, h1, h2, h3, hw, bytesV_length]
          exact ⟨_, _, rfl, by simp only [Tr.get_set, Nat.reduceEqDiff, reduceIte]⟩
      · have hd : decide (OkC name i of d) = false := decide_eq_false (fun h => h2 h.2.1)
        rw [hd]
        simp only [bodyOf, Tryz.f23, Option.getD_some, initT, dx, reduceIte, Nat.reduceLT, Nat.reduceLeDiff, Nat.reduceEqDiff, Nat.reduceAdd, Nat.reduceMul, Nat.reduceSub, Nat.reduceBEq, Int.reduceEq, Int.reduceLT, Int.reduceLE, Int.reduceToNat, reduceCtorEq, sx, fx23, in_call _ _ _ hk, h1, h2, hw, bytesV_length]
        exact ⟨_, _, rfl, by simp only [Tr.get_set, Nat.reduceEqDiff, reduceIte]⟩
    · have hd : decide (OkC name i of d) = false := decide_eq_false (fun h => h1 h.1)
      rw [hd]
      simp only [bodyOf, Tryz.f23, Option.getD_some, initT, dx, reduceIte, Nat.reduceLT, Nat.reduceLeDiff, Nat.reduceEqDiff, Nat.reduceAdd, Nat.reduceMul, Nat.reduceSub, Nat.reduceBEq, Int.reduceEq, Int.reduceLT, Int.reduceLE, Int.reduceToNat, reduceCtorEq, sx, fx23, in_call _ _ _ hk, h1, bytesV_length]
      exact ⟨_, _, rfl, by simp only [Tr.get_set, Nat.reduceEqDiff, reduceIte]⟩
  obtain ⟨T1, σ1, h1, h2⟩ := run
  exact pureRun_of fn23 rfl (by simp [Tryz.f23]) h1 (by simp) (res_one h2) rfl
theorem rIsChunk_call {x : AVal} {seen : List Nat} {name i of : Int} {vk : VK} {d : List Nat} (hx : snapF false σ snapDepth x = some (chunkV name i of vk d, seen)) (hk : 2 ≤ k) : pureCall lawProg (callN lawProg k) (.func 23 [] []) [x] σ = some (.bool (decide (OkC name i of d)), σ) := by
  obtain ⟨k, rfl⟩ : ∃ m, k = m + 1 := ⟨k - 1, by omega⟩
  have hs : snapL (snapF false σ snapDepth) [x] = some ([chunkV name i of vk d], seen ++ []) := by simp only [snapL, hx]
  exact pureCall_of hs (memo23 _) (rIsChunk_run name i of vk d (by omega))

theorem copyChunk_run (name i of : Int) (vk : VK) (d : List Nat) (hd : d.length ≤ 1000) : ∃ b, pureRun (callN lawProg (k + 1)) (.func 21 [] []) [chunkV name i of vk d] = some (chunkV name i of .some d, b) := by
  let base : AMem := ((AMem.empty.push (.row 4 true [.int .i64 name, .int .i64 i, .int .i64 of, .vs vk (bytesV d)])).push (.row 4 true [.int .i64 0, .int .i64 0, .int .i64 0, .vs .nil []])).push (.row 1 false [])
  have happ := append_bytes (σ := base) (e := ⟨.int .u8, 1, 1, [.int .u8 0]⟩) (r := 2) (x := .vs vk (bytesV d)) (bs := d) rfl rfl rfl (source_bytes _ _ _) (by simp only [base, AMem.get_push, AMem.next_push, next_empty, Nat.reduceAdd, Nat.reduceEqDiff, reduceIte]) (by omega)
  have run : ∃ T1 σ1 x seen, execC lawProg (callN lawProg k) k 21 9 (bodyOf Tryz.f21) (initT 0 [.agg [.int .i64 name, .int .i64 i, .int .i64 of, .vs vk (bytesV d)]] .nil) AMem.empty = some (.ret, T1, σ1) ∧ resultsA lawProg T1 σ1 Tryz.f21.results.toList = some [x] ∧ snapF false σ1 12 x = some (chunkV name i of .some d, seen) := by
    by_cases h0 : d.length = 0
    · have hb : d = [] := List.eq_nil_of_length_eq_zero h0
      subst hb
      rw [if_pos h0, if_pos h0] at happ
      simp only [base] at happ
      have e : ∃ T1 σ1, execC lawProg (callN lawProg k) k 21 9 (bodyOf Tryz.f21) (initT 0 [.agg [.int .i64 name, .int .i64 i, .int .i64 of, .vs vk (bytesV [])]] .nil) AMem.empty = some (.ret, T1, σ1) ∧ resultsA lawProg T1 σ1 Tryz.f21.results.toList = some [.agg [.int .i64 name, .int .i64 i, .int .i64 of, .slice 2 0 0 (some 0) 1]] ∧ σ1.get 2 = some (.row 1 false (bytesV ([] ++ []))) := by
        simp only [bodyOf, Tryz.f21, Option.getD_some, initT, dx, reduceIte, Nat.reduceLT, Nat.reduceLeDiff, Nat.reduceEqDiff, Nat.reduceAdd, Nat.reduceMul, Nat.reduceSub, Nat.reduceBEq, Int.reduceEq, Int.reduceLT, Int.reduceLE, Int.reduceToNat, reduceCtorEq, sx, fx21, happ]
        exact ⟨_, _, rfl, by simp only [Tryz.f21, resultsA, resultA, dx, reduceIte, Nat.reduceLT, Nat.reduceLeDiff, Nat.reduceEqDiff, Nat.reduceAdd, Nat.reduceMul, Nat.reduceSub, Nat.reduceBEq, Int.reduceEq, Int.reduceLT, Int.reduceLE, Int.reduceToNat, reduceCtorEq, sx, fx21], by simp only [AMem.get_put, AMem.get_push, AMem.next_put, AMem.next_push, next_empty, Nat.reduceAdd, Nat.reduceEqDiff, reduceIte]; rfl⟩
      obtain ⟨T1, σ1, e1, e2, e3⟩ := e
      have hx : snapF false σ1 11 (.slice 2 0 0 (some 0) 1) = some (.vs .some [], [2]) := snap_bytes (d := 9) (bs := []) (more := []) rfl e3
      refine ⟨T1, σ1, _, [] ++ ([] ++ ([] ++ ([2] ++ []))), e1, e2, ?_⟩
      show (snapL (snapF false σ1 11) _).map (fun (l, a) => (AVal.agg l, a)) = _
      simp only [snapL, snap_int, hx, Option.map_some]
      rfl
    · rw [if_neg h0, if_neg h0] at happ
      simp only [base] at happ
      have e : ∃ T1 σ1, execC lawProg (callN lawProg k) k 21 9 (bodyOf Tryz.f21) (initT 0 [.agg [.int .i64 name, .int .i64 i, .int .i64 of, .vs vk (bytesV d)]] .nil) AMem.empty = some (.ret, T1, σ1) ∧ resultsA lawProg T1 σ1 Tryz.f21.results.toList = some [.agg [.int .i64 name, .int .i64 i, .int .i64 of, .slice 3 0 d.length none 1]] ∧ σ1.get 3 = some (.row 1 false (bytesV (d ++ []))) := by
        simp only [AMem.next_push, next_empty, Nat.reduceAdd] at happ
        simp only [bodyOf, Tryz.f21, Option.getD_some, initT, dx, reduceIte, Nat.reduceLT, Nat.reduceLeDiff, Nat.reduceEqDiff, Nat.reduceAdd, Nat.reduceMul, Nat.reduceSub, Nat.reduceBEq, Int.reduceEq, Int.reduceLT, Int.reduceLE, Int.reduceToNat, reduceCtorEq, sx, fx21, happ]
        exact ⟨_, _, rfl, by simp only [Tryz.f21, resultsA, resultA, dx, reduceIte, Nat.reduceLT, Nat.reduceLeDiff, Nat.reduceEqDiff, Nat.reduceAdd, Nat.reduceMul, Nat.reduceSub, Nat.reduceBEq, Int.reduceEq, Int.reduceLT, Int.reduceLE, Int.reduceToNat, reduceCtorEq, sx, fx21], by simp only [AMem.get_put, AMem.get_push, AMem.next_put, AMem.next_push, next_empty, Nat.reduceAdd, Nat.reduceEqDiff, reduceIte, List.append_nil]⟩
      obtain ⟨T1, σ1, e1, e2, e3⟩ := e
      have hx : snapF false σ1 11 (.slice 3 0 d.length none 1) = some (.vs .some (bytesV d), [3]) := snap_bytes (d := 9) (bs := d) (more := []) rfl e3
      refine ⟨T1, σ1, _, [] ++ ([] ++ ([] ++ ([3] ++ []))), e1, e2, ?_⟩
      show (snapL (snapF false σ1 11) _).map (fun (l, a) => (AVal.agg l, a)) = _
      simp only [snapL, snap_int, hx, Option.map_some]
      rfl
  obtain ⟨T1, σ1, x, seen, h1, h2, h3⟩ := run
  exact pureRun_any fn21 rfl (by simp [Tryz.f21]) h1 (by simp) h2 h3
theorem copyChunk_call (name i of : Int) (vk : VK) (d : List Nat) (hd : d.length ≤ 1000) (hk : 1 ≤ k) : pureCall lawProg (callN lawProg k) (.func 21 [] []) [.agg [.int .i64 name, .int .i64 i, .int .i64 of, .vs vk (bytesV d)]] σ = some (.agg [.int .i64 name, .int .i64 i, .int .i64 of, .vs .some (bytesV d)], σ) := by
  obtain ⟨k, rfl⟩ : ∃ m, k = m + 1 := ⟨k - 1, by omega⟩
  obtain ⟨b, h⟩ := copyChunk_run (k := k) name i of vk d hd
  exact pureCall_of0 (args' := [chunkV name i of vk d]) rfl (memo21 _) h

end Go.Proofs.YtjckhhkhgjbpaaaGreatDoor

/- pack.Add: what it gives. -/
set_option maxRecDepth 100000
set_option linter.unusedSimpArgs false
set_option linter.unusedVariables false
namespace Go.Proofs.YtjckhhkhgjbpaaaGreatDoor
open Go Go.Proofs.YtjckhhkhgjbpaaaGreatDoor.Pale
variable {k : Nat} {σ : AMem}

def partsOf (data : List Part) (a : Nat) (d : List Nat) : List Part := match data[a]? with
  | some p => if p.2.length = 0 then data.set a (.some, d) else data
  | none => data
def addL (shs : List Sh) (n : Int) (of a : Nat) (d : List Nat) : List Sh × List Nat := match (findL shs n of).1[(findL shs n of).2.toNat]? with
  | some s => if (partsOf s.data a d).any emptyQ then ((findL shs n of).1.set (findL shs n of).2.toNat { s with data := partsOf s.data a d }, []) else ((findL shs n of).1.eraseIdx (findL shs n of).2.toNat, catL (partsOf s.data a d))
  | none => ([], [])
def dkS (s : Sh) : Sh := { s with dk := .some }

theorem idxI_ge {p : AVal → Bool} : ∀ {l : List AVal}, idxI p l ≥ 0 → ∃ i, ∃ hi : i < l.length, idxI p l = (i : Int) ∧ p l[i] = true := by
  intro l
  induction l with
  | nil => intro h; simp [idxI] at h
  | cons x l ih =>
    intro h
    cases hx : p x with
    | true => exact ⟨0, by simp, by simp [idxI, hx], by simpa using hx⟩
    | false =>
      simp only [idxI, hx, Bool.false_eq_true, if_false] at h ⊢
      by_cases h0 : idxI p l < 0
      · rw [if_pos h0] at h; omega
      · obtain ⟨i, hi, h1, h2⟩ := ih (by omega)
        exact ⟨i + 1, by simpa using hi, by rw [if_neg h0, h1]; omega, by simpa using h2⟩
theorem keepS_len {n : Int} {of : Nat} {s : Sh} (h : keepS n of s = true) (h2 : (s.name == n) = true) : s.data.length = of := by
  unfold keepS at h
  simpa [h2] using h
/-- What find finds. -/
theorem find_spec (shs : List Sh) (n : Int) (of : Nat) : ∃ i, ∃ hi : i < (findL shs n of).1.length, (findL shs n of).2 = ((i : Nat) : Int) ∧ (findL shs n of).1[i].name = n ∧ (findL shs n of).1[i].data.length = of := by
  unfold findL
  split
  · rename_i hp
    obtain ⟨i, hi, h1, h2⟩ := idxI_ge hp
    rw [List.length_map] at hi
    rw [List.getElem_map, sameName_sh] at h2
    have hk := (List.mem_filter.1 (List.getElem_mem hi)).2
    refine ⟨i, hi, h1, by simpa using h2, ?_⟩
    exact keepS_len hk h2
  · split
    · rename_i hp h4
      generalize shs.filter (keepS n of) = F at *
      refine ⟨F.length - 1, by simp; omega, by simp only; omega, ?_, ?_⟩
      · simp only [List.getElem_drop]
        rw [List.getElem_append_right (by omega)]
        simp [newSh]
      · simp only [List.getElem_drop]
        rw [List.getElem_append_right (by omega)]
        simp [newSh]
    · generalize shs.filter (keepS n of) = F at *
      refine ⟨F.length, by simp, rfl, ?_, ?_⟩
      · rw [List.getElem_append_right (by omega)]; simp [newSh]
      · rw [List.getElem_append_right (by omega)]; simp [newSh]
theorem find_len (shs : List Sh) (n : Int) (of : Nat) : (findL shs n of).1.length ≤ shs.length + 1 := by
  have := List.length_filter_le (keepS n of) shs
  unfold findL
  split
  · simp only; omega
  · split
    · simp only [List.length_drop, List.length_append, List.length_singleton]; omega
    · simp only [List.length_append, List.length_singleton]; omega
theorem drop_set' {α : Type} (l : List α) (o i : Nat) (v : α) : (l.set (o + i) v).drop o = (l.drop o).set i v := by
  apply List.ext_getElem?
  intro m
  rw [List.getElem?_drop, List.getElem?_set, List.getElem?_set, List.length_drop, List.getElem?_drop]
  by_cases h : i = m
  · subst h
    simp only [if_true]
    by_cases h2 : o + i < l.length
    · rw [if_pos h2, if_pos (by omega)]
    · rw [if_neg h2, if_neg (by omega)]
  · rw [if_neg (by omega), if_neg h]
theorem drop_erase' {α : Type} (l : List α) (o i : Nat) (h : o + i < l.length) : (l.eraseIdx (o + i)).drop o = (l.drop o).eraseIdx i := by
  rw [List.eraseIdx_eq_take_drop_succ, List.eraseIdx_eq_take_drop_succ, List.drop_append_of_le_length (by rw [List.length_take]; omega), List.drop_take, List.drop_drop, Nat.add_sub_cancel_left, Nat.add_assoc]
theorem map_erase' {α β : Type} (f : α → β) (l : List α) (i : Nat) : (l.eraseIdx i).map f = (l.map f).eraseIdx i := by
  rw [List.eraseIdx_eq_take_drop_succ, List.eraseIdx_eq_take_drop_succ, List.map_append, List.map_take, List.map_drop]
/-- How a sorter in memory reads. -/
theorem SrtAt.snap {low q r o n : Nat} {l : List SR} {zs : List AVal} (d : Nat) (h : SrtAt low σ q r o l zs) (hn : o + n = l.length) : ∃ S, snapF false σ (d + 4) (.agg [.slice r (o * 2) n none 2]) = some (.agg [.vs .some (((l.drop o).map (·.1)).map fun s => shV (dkS s))], S) := by
  obtain ⟨S, hs⟩ := Items.snap (σ := σ) (n := n) (i := o) (cap := none) (sz := 2) d h.items (by decide) (fun a ha => by
    obtain ⟨x, _, rfl⟩ := List.mem_map.1 ha
    rfl) (by rw [List.map_map]; exact h.row) (by rw [List.length_map]; exact hn)
  refine ⟨S ++ [], ?_⟩
  show (snapL (snapF false σ (d + 3)) [.slice r (o * 2) n none 2]).map (fun (l, a) => (AVal.agg l, a)) = _
  simp only [snapL, hs, Option.map_some]
  rw [← List.map_drop, List.map_map, List.map_map]
  rfl
/-- All parts of what is found are short. -/
theorem find_parts {shs : List Sh} (n : Int) (of : Nat) (P : Part → Prop) (h0 : P (.nil, [])) (h : ∀ s, s ∈ shs → ∀ p, p ∈ s.data → P p) : ∀ s, s ∈ (findL shs n of).1 → ∀ p, p ∈ s.data → P p := by
  have hF : ∀ s, s ∈ shs.filter (keepS n of) → ∀ p, p ∈ s.data → P p := fun s hs => h s (List.mem_filter.1 hs).1
  have hN : ∀ s, s ∈ shs.filter (keepS n of) ++ [newSh n of] → ∀ p, p ∈ s.data → P p := fun s hs p hp => by
    rcases List.mem_append.1 hs with hs | hs
    · exact hF s hs p hp
    · simp only [List.mem_singleton] at hs
      subst hs
      rw [List.eq_of_mem_replicate hp]
      exact h0
  unfold findL
  split
  · exact hF
  · split
    · exact fun s hs => hN s (List.mem_of_mem_drop hs)
    · exact hN

theorem tuple_three' {σ : AMem} {d : Nat} {x y z v w u : AVal} {s1 s2 s3 : List Nat} (h1 : snapF false σ d x = some (v, s1)) (h2 : snapF false σ d y = some (w, s2)) (h3 : snapF false σ d z = some (u, s3)) : snapF false σ (d + 1) (packA [x, y, z]) = some (.tuple [v, w, u], s1 ++ (s2 ++ (s3 ++ []))) := by
  show (snapL (snapF false σ d) [x, y, z]).map (fun (l, a) => (AVal.tuple l, a)) = _
  simp only [snapL, h1, h2, h3, Option.map_some]
theorem set_same' {α β : Type} (f : α → β) {l : List α} {i : Nat} {x : α} (hi : i < l.length) (h : f x = f l[i]) : (l.set i x).map f = l.map f := by
  apply List.ext_getElem (by simp)
  intro n h1 h2
  simp only [List.getElem_map, List.getElem_set]
  split
  · rename_i e; subst e; exact h
  · rfl
theorem hasEmpty_mem {r n : Nat} {cap : Option Nat} (l : List Part) (hn : n = l.length) (hr : σ.get r = some (.row 1 false (l.map partV))) (hrn : r < σ.next) (hl : l.length ≤ 1000) (hk : 2000 ≤ k) : ∃ σ', callN lawProg k (.func 73 [] []) [.slice r 0 n cap 1, .func 71 [] []] σ = some (.bool (l.any emptyQ), σ') ∧ Ext σ σ' := by
  obtain ⟨k, rfl⟩ : ∃ m, k = m + 2 := ⟨k - 2, by omega⟩
  have := part_has_m (k := k) (σ := σ) (r := r) (off := 0) (n := n) (cap := cap) (cells := l.map partV) (l.map partV) (by rw [List.length_map]; exact hn) hr hrn (fun i hi => by rw [Nat.zero_add, List.getElem?_eq_getElem hi]) 71 [] emptyP (by simp; omega) (fun _ => nv1) (fun e he σ' hx => by
    obtain ⟨vk, es, rfl⟩ := parts_form l e he
    exact ⟨σ', isEmpty_callN vk es (by omega), Ext.refl _⟩) (by simp; omega)
  rw [any_empty] at this
  exact this

theorem catL_ne {ps : List Part} (h0 : 0 < ps.length) (h : ps.any emptyQ = false) : catL ps ≠ [] := by
  cases ps with
  | nil => simp at h0
  | cons p ps =>
    intro e
    simp only [catL, List.flatMap_cons, List.append_eq_nil_iff] at e
    simp [emptyQ, e.1] at h
theorem catL_bound (ps : List Part) (m : Nat) (h : ∀ p, p ∈ ps → p.2.length ≤ m) : (catL ps).length ≤ ps.length * m := by
  induction ps with
  | nil => simp [catL]
  | cons p ps ih =>
    have h1 := h p (by simp)
    have h2 := ih fun x hx => h x (by simp [hx])
    simp only [catL, List.flatMap_cons, List.length_append, List.length_cons, Nat.succ_mul] at h2 ⊢
    omega
theorem erase_set {α : Type} (l : List α) (i : Nat) (x : α) : (l.set i x).eraseIdx i = l.eraseIdx i := by
  induction l generalizing i with
  | nil => rfl
  | cons y l ih =>
    cases i with
    | zero => rfl
    | succ i => simp only [List.set_cons_succ, List.eraseIdx_cons_succ, ih]

theorem add_call (lk : VK) (shs : List Sh) (n : Int) (a of : Nat) (d : List Nat) (hs : SorterOk shs) (hv : ∀ s, s ∈ shs → ∀ p, p ∈ s.data → p.1 = .some) (hc : OkC n a of d) (hk : 5000 ≤ k) :
    pureCall lawProg (callN lawProg k) (.func 19 [] []) [.agg [.vs lk (shs.map shV)], .agg [.int .i64 n, .int .i64 (a : Nat), .int .i64 (of : Nat), .vs .some (bytesV d)]] σ = some (.tuple [.agg [.vs .some ((addL shs n of a d).1.map fun s => shV (dkS s))], if (addL shs n of a d).2 = [] then .vs .nil [] else .vs .some (bytesV (addL shs n of a d).2), .int .i64 0], σ) := by
  obtain ⟨k, rfl⟩ : ∃ m, k = m + 1 := ⟨k - 1, by omega⟩
  obtain ⟨⟨c1, c2⟩, ⟨c3, c4⟩, c5, ⟨c6, c7⟩⟩ := id hc
  obtain ⟨s1, s2, s3⟩ := id hs
  have hsh : ∀ s, s ∈ shs → 0 < s.data.length ∧ s.data.length ≤ 200 ∧ ∀ p, p ∈ s.data → p.2.length ≤ 100 := fun s h => by
    have := (sheafB_eq s).1 (s3 s h)
    exact ⟨by omega, this.2.1, this.2.2.2.2⟩
  obtain ⟨E, hck, hck0, _⟩ := checkSorter_call (k := k) lk shs (by omega) (fun s h => by have := hsh s h; omega) (by omega)
  rw [hck0 hs] at hck
  have hic := fun (σ : AMem) => isChunk_call (k := k) (σ := σ) (x := .agg [.int .i64 n, .int .i64 (a : Nat), .int .i64 (of : Nat), .vs .some (bytesV d)]) (seen := []) (name := n) (i := (a : Nat)) (of := (of : Nat)) (vk := .some) (d := d) rfl (by omega)
  simp only [decide_eq_true hc] at hic
  let σ0 : AMem := ((AMem.empty.push (.row 1 true [.vs lk (shs.map shV)])).push (.row 4 true [.int .i64 n, .int .i64 (a : Nat), .int .i64 (of : Nat), .vs .some (bytesV d)])).push (.row 1 true [.vs .nil []])
  obtain ⟨q, out, l, σ1, o1, o2, o3, o4, o5, o6, o7⟩ := open_callN (k := k) (σ := σ0) lk shs (by omega) (fun s h => ⟨(hsh s h).1, by have := (hsh s h).2.1; omega, fun p hp => ⟨hv s h p hp, by have := (hsh s h).2.2 p hp; omega⟩⟩) (by omega)
  have hn0 : σ0.next = 3 := rfl
  rw [hn0] at o3 o6
  have hll : l.length = shs.length := by rw [← o7, List.length_map]
  have g0 : σ1.get 0 = some (.row 1 true [.vs lk (shs.map shV)]) := by rw [o2.2 0 (by omega)]; rfl
  have g1 : σ1.get 1 = some (.row 4 true [.int .i64 n, .int .i64 (a : Nat), .int .i64 (of : Nat), .vs .some (bytesV d)]) := by rw [o2.2 1 (by omega)]; simp only [σ0, AMem.get_push, AMem.next_push, next_empty, Nat.reduceAdd, Nat.reduceEqDiff, reduceIte]
  have g2 : σ1.get 2 = some (.row 1 true [.vs .nil []]) := by rw [o2.2 2 (by omega)]; simp only [σ0, AMem.get_push, AMem.next_push, next_empty, Nat.reduceAdd, Nat.reduceEqDiff, reduceIte]
  obtain ⟨r, o, l', zs, σ2, f1, f2, f3, f4, f5, f6, f7⟩ := find_callN (k := k) (σ := σ1) n (a : Nat) of (.vs .some (bytesV d)) rfl (by omega) o5 o4 o3 o6 (by omega) (by omega)
  rw [o7] at f1 f6
  obtain ⟨i, hi, hi2, hnm, hlen⟩ := find_spec shs n of
  have hfl : ∀ s, s ∈ (findL shs n of).1 → ∀ p, p ∈ s.data → p.2.length ≤ 100 := find_parts n of (fun p => p.2.length ≤ 100) (by simp) (fun s h p hp => (hsh s h).2.2 p hp)
  rw [hi2] at f1
  unfold addL
  rw [hi2]
  simp only [Int.toNat_natCast, List.getElem?_eq_getElem hi]
  have hol : o ≤ l'.length := f5.le
  have hij : o + i < l'.length := by
    have := congrArg List.length f6
    rw [List.length_map, List.length_drop] at this
    omega
  have hmi : (l'.length - o) = (findL shs n of).1.length := by rw [← f6, List.length_map, List.length_drop]
  have hel : (findL shs n of).1[i] = l'[o + i].1 := by
    simp only [← f6, List.getElem_map, List.getElem_drop]
  have hfl' := hfl _ (List.getElem_mem hi)
  rw [hel] at hlen hnm hfl' ⊢
  generalize hx : l'[o + i] = x at *
  obtain ⟨xs, rd, cap⟩ := x
  simp only at hlen hnm hfl' ⊢
  -- the row of its parts
  have hmemI : itemR l'[o + i] ∈ l'.map itemR := List.mem_map.2 ⟨_, List.getElem_mem hij, rfl⟩
  obtain ⟨_, _, hxx⟩ := f5.items.1 _ hmemI
  rw [hx] at hxx hmemI
  have hrow : 3 ≤ rd ∧ rd < σ2.next ∧ σ2.get rd = some (.row 1 false (xs.data.map partV)) := by
    rcases hxx with ⟨kk, hk1⟩ | ⟨r1, c1, e1, e2, e3, e4⟩
    · cases hk1
    · simp only [itemR, itemOf, AVal.slice.injEq] at e1
      obtain ⟨rfl, _⟩ := e1
      exact ⟨e2, e3, e4⟩
  obtain ⟨rd1, rd2, rd3⟩ := hrow
  have hrdr : ¬ r = rd := fun e => f5.rl (e ▸ (List.mem_map.2 ⟨_, List.getElem_mem hij, by rw [hx]⟩))
  have hrdq : ¬ q = rd := fun e => f5.items.2.2 (by
    rw [show rowsOf (l'.map itemR) = l'.map fun x => x.2.1 from rowsOf_items l', e]
    exact List.mem_map.2 ⟨_, List.getElem_mem hij, by rw [hx]⟩)
  have hcell : ((cellsR l').flatten ++ zs)[o * 2 + i * 2 + 1]? = some (.slice rd 0 xs.data.length cap 1) := by
    have := flat_get (more := zs) (j := 1) (i := o + i) (cellsR_two l') (by simpa [cellsR] using hij) (by omega)
    rw [show o * 2 + i * 2 + 1 = (o + i) * 2 + 1 by omega, this]
    simp only [cellsR, List.getElem_map, hx]
    rfl
  have ha : a < xs.data.length := by omega
  have hilt : (i : Int) < ((l'.length - o : Nat) : Int) := by omega
  have halt : (a : Int) < ((xs.data.length : Nat) : Int) := by omega
  have hfn := find_len shs n of
  have hw := i64_succ (i := i) (by omega)
  have k0 : σ2.get 0 = some (.row 1 true [.vs lk (shs.map shV)]) := (f3 0 (by omega)).trans g0
  have k1 : σ2.get 1 = some (.row 4 true [.int .i64 n, .int .i64 (a : Nat), .int .i64 (of : Nat), .vs .some (bytesV d)]) := (f3 1 (by omega)).trans g1
  have k2 : σ2.get 2 = some (.row 1 true [.vs .nil []]) := (f3 2 (by omega)).trans g2
  have hq3 : 3 ≤ q := o3
  have hr3 : 3 ≤ r := f5.lo
  have hqn2 : q < σ2.next := by omega
  have hclone := fun (σ : AMem) => clone_call (k := k) (σ := σ) d .some (by decide) (by omega) (by omega)
  have hsetp : (xs.data.map partV).set a (.vs .some (bytesV d)) = (xs.data.set a (.some, d)).map partV := by rw [List.map_set]; rfl
  have hal2 : a + 1 ≤ xs.data.length := by omega
  have q1 : ¬ q = 0 := by omega
  have q2 : ¬ q = 1 := by omega
  have q3 : ¬ q = 2 := by omega
  have q4 : ¬ rd = 0 := by omega
  have q5 : ¬ rd = 1 := by omega
  have q6 : ¬ rd = 2 := by omega
  have q7 : ¬ rd = q := fun e => hrdq e.symm
  have q8 : ¬ rd = r := fun e => hrdr e.symm
  have q9 : ¬ 2 = q := by omega
  simp only [σ0] at o1
  -- the memory with the part
  obtain ⟨ps, hps, σ3, hst, hst2, hrow3, hat3, n3, fr3⟩ : ∃ ps, ps = partsOf xs.data a d ∧ ∃ σ3 : AMem, ((emptyQ xs.data[a] = true → σ3 = σ2.put rd (.row 1 false ((xs.data.set a (.some, d)).map partV)))) ∧ (emptyQ xs.data[a] = false → σ3 = σ2) ∧ σ3.get rd = some (.row 1 false (ps.map partV)) ∧ SrtAt 3 σ3 q r o (l'.set (o + i) ({ xs with data := ps }, rd, cap)) zs ∧ σ3.next = σ2.next ∧ ∀ s, s ≠ rd → σ3.get s = σ2.get s := by
    have hlenp : (xs.data.set a (.some, d)).length = xs.data.length := by rw [List.length_set]
    cases he : emptyQ xs.data[a] with
    | true =>
      have h0 : xs.data[a].2.length = 0 := by unfold emptyQ at he; simpa using he
      refine ⟨xs.data.set a (.some, d), ?_, σ2.put rd (.row 1 false ((xs.data.set a (.some, d)).map partV)), fun _ => rfl, (fun h => by cases h), by rw [AMem.get_put, if_pos rfl], ?_, by simp, fun s hs => by rw [AMem.get_put, if_neg (Ne.symm hs)]⟩
      · unfold partsOf
        rw [List.getElem?_eq_getElem ha]
        simp only [h0, if_true]
      · have hcs : cellsR (l'.set (o + i) ({ xs with data := xs.data.set a (.some, d) }, rd, cap)) = cellsR l' := by
          unfold cellsR
          exact set_same' _ hij (by rw [hx]; simp only [itemR, itemOf, MItem.cells, hlenp])
        have hrs : (l'.set (o + i) ({ xs with data := xs.data.set a (.some, d) }, rd, cap)).map (fun x => x.2.1) = l'.map fun x => x.2.1 := set_same' _ hij (by rw [hx])
        have hpk := Items.poke (l := l'.map itemR) (i := o + i) (j := a) (r := rd) (cap := cap) (v := .vs .some (bytesV d)) f5.items (by simpa using hij) (by rw [List.getElem_map, hx]; simp only [itemR, itemOf, List.length_map]) rfl
        have hinn : (l'.map itemR)[o + i]'(by simpa using hij) = itemOf xs rd cap := by rw [List.getElem_map, hx]; rfl
        rw [hinn] at hpk
        have hset2 : (l'.set (o + i) ({ xs with data := xs.data.set a (.some, d) }, rd, cap)).map itemR = (l'.map itemR).set (o + i) { itemOf xs rd cap with inn := (itemOf xs rd cap).inn.set a (.vs .some (bytesV d)) } := by
          rw [List.map_set]
          congr 1
          simp only [itemR, itemOf, hlenp, ← hsetp]
        refine ⟨by rw [hcs, AMem.get_put, if_neg q8]; exact f5.row, ?_, f5.rq, by rw [hrs]; exact f5.rl, f5.lo, by simpa using f5.hi, f5.zl, by rw [List.length_set]; exact f5.le⟩
        rw [hset2, ← hsetp]
        exact hpk
    | false =>
      have h0 : ¬ xs.data[a].2.length = 0 := by unfold emptyQ at he; simpa using he
      refine ⟨xs.data, ?_, σ2, (fun h => by cases h), fun _ => rfl, rd3, ?_, rfl, fun _ _ => rfl⟩
      · unfold partsOf
        rw [List.getElem?_eq_getElem ha]
        simp only [h0, if_false]
      · rw [show (({ xs with data := xs.data } : Sh), rd, cap) = l'[o + i] from hx.symm, List.set_getElem_self]
        exact f5
  rw [← hps]
  have hpl : ps.length = xs.data.length := by
    rw [hps]; unfold partsOf
    split
    · split
      · rw [List.length_set]
      · rfl
    · rfl
  have hpd : ∀ p, p ∈ ps → p.2.length ≤ 100 := by
    intro p hp
    rw [hps] at hp
    unfold partsOf at hp
    split at hp
    · split at hp
      · rcases List.mem_or_eq_of_mem_set hp with h | rfl
        · exact hfl' p h
        · exact (by omega : d.length ≤ 100)
      · exact hfl' p hp
    · exact hfl' p hp
  obtain ⟨σ4, e4, x4⟩ := hasEmpty_mem (k := k) (σ := σ3) (cap := cap) (n := xs.data.length) ps hpl.symm hrow3 (by omega) (by omega) (by omega)
  have n4 : σ2.next ≤ σ4.next := by have := x4.1; omega
  have k4 : ∀ s, s < σ2.next → s ≠ rd → σ4.get s = σ2.get s := fun s h1 h2 => by rw [x4.2 s (by omega), fr3 s h2]
  have k40 : σ4.get 0 = some (.row 1 true [.vs lk (shs.map shV)]) := (k4 0 (by omega) (Ne.symm q4)).trans k0
  have k41 : σ4.get 1 = some (.row 4 true [.int .i64 n, .int .i64 (a : Nat), .int .i64 (of : Nat), .vs .some (bytesV d)]) := (k4 1 (by omega) (Ne.symm q5)).trans k1
  have k42 : σ4.get 2 = some (.row 1 true [.vs .nil []]) := (k4 2 (by omega) (Ne.symm q6)).trans k2
  have k4q : σ4.get q = some (.row 1 true [.slice r (o * 2) (l'.length - o) none 2]) := (k4 q hqn2 (by omega)).trans f4
  have hat4 : SrtAt 3 σ4 q r o (l'.set (o + i) ({ xs with data := ps }, rd, cap)) zs := hat3.same x4.1 fun s _ h2 _ => x4.2 s h2
  have hrow4 : σ4.get rd = some (.row 1 false (ps.map partV)) := (x4.2 rd (by omega)).trans hrow3
  have hLn : (l'.set (o + i) ({ xs with data := ps }, rd, cap)).length = l'.length := by rw [List.length_set]
  have hfst : ((l'.set (o + i) ({ xs with data := ps }, rd, cap)).drop o).map (·.1) = (findL shs n of).1.set i { xs with data := ps } := by
    rw [drop_set', List.map_set, f6]
  have hres : ∀ (y z : AVal), resultsA lawProg (((((Tr.nil : Tr AVal).set 4 (.ptr 2 0)).set 5 y).set 6 (.int .i64 0))) σ4 [] = some [] := fun _ _ => rfl
  have hnil : ∀ σ : AMem, snapF false σ 11 (.vs .nil []) = some (.vs .nil [], []) := fun σ => rfl
  have hint : ∀ σ : AMem, snapF false σ 11 (.int .i64 0) = some (.int .i64 0, []) := fun σ => rfl
  have fin : ∀ {T1 : Tr AVal} {σ5 : AMem} {x y : AVal} {v w : AVal} {s1 s2 : List Nat}, execC lawProg (callN lawProg k) k 19 73 (bodyOf Tryz.f19) (initT 0 [.agg [.vs lk (shs.map shV)], .agg [.int .i64 n, .int .i64 (a : Nat), .int .i64 (of : Nat), .vs .some (bytesV d)]] .nil) AMem.empty = some (.ret, T1, σ5) → resultsA lawProg T1 σ5 Tryz.f19.results.toList = some [x, y, .int .i64 0] → snapF false σ5 11 x = some (v, s1) → snapF false σ5 11 y = some (w, s2) →
      pureCall lawProg (callN lawProg (k + 1)) (.func 19 [] []) [.agg [.vs lk (shs.map shV)], .agg [.int .i64 n, .int .i64 (a : Nat), .int .i64 (of : Nat), .vs .some (bytesV d)]] σ = some (.tuple [v, w, .int .i64 0], σ) := by
    intro T1 σ5 x y v w s1 s2 h1 h2 h3 h4
    obtain ⟨b, h⟩ := pureRun_any (seen := s1 ++ (s2 ++ ([] ++ []))) fn19 rfl (by simp [Tryz.f19]) h1 (by simp) h2 (tuple_three' (d := 11) h3 h4 (hint _))
    exact pureCall_of0 rfl (memo19 _) h
  by_cases hany : ps.any emptyQ = true
  · rw [if_pos hany]
    rw [hany] at e4
    rw [if_pos rfl]
    obtain ⟨S, hsn⟩ := SrtAt.snap (σ := σ4.put 2 (.row 1 true [.slice r (o * 2) (l'.length - o) none 2])) 7 (hat4.same (by simp) fun s h1 _ _ => by rw [AMem.get_put, if_neg (by omega)]) (n := l'.length - o) (by rw [hLn]; omega)
    rw [hfst] at hsn
    have e : ∃ T1, execC lawProg (callN lawProg k) k 19 73 (bodyOf Tryz.f19) (initT 0 [.agg [.vs lk (shs.map shV)], .agg [.int .i64 n, .int .i64 (a : Nat), .int .i64 (of : Nat), .vs .some (bytesV d)]] .nil) AMem.empty = some (.ret, T1, σ4.put 2 (.row 1 true [.slice r (o * 2) (l'.length - o) none 2])) ∧ resultsA lawProg T1 (σ4.put 2 (.row 1 true [.slice r (o * 2) (l'.length - o) none 2])) Tryz.f19.results.toList = some [.agg [.slice r (o * 2) (l'.length - o) none 2], .vs .nil [], .int .i64 0] := by
      cases he : emptyQ xs.data[a] with
      | true =>
        have h3 := hst he
        subst h3
        have hem : ∀ σ : AMem, callN lawProg k (.func 71 [] []) [.vs xs.data[a].1 (bytesV xs.data[a].2)] σ = some (.bool true, σ) := fun σ => by
          have := isEmpty_callN (k := k) (σ := σ) xs.data[a].1 (bytesV xs.data[a].2) (by omega)
          rw [show emptyP (.vs xs.data[a].1 (bytesV xs.data[a].2)) = emptyQ xs.data[a] from emptyP_part _, he] at this
          exact this
        simp only [bodyOf, Tryz.f19, Option.getD_some, initT, dx, reduceIte, Nat.reduceLT, Nat.reduceLeDiff, Nat.reduceEqDiff, Nat.reduceAdd, Nat.reduceMul, Nat.reduceSub, Nat.reduceBEq, Int.reduceEq, Int.reduceLT, Int.reduceLE, Int.reduceToNat, reduceCtorEq, sx, fx19, hck, hic, bne_self_eq_false, o1, g0, g1, g2, f1, f4, f5.row, hcell, rd3, k0, k1, k2, hilt, halt, Int.natCast_nonneg, Int.toNat_natCast, part_get ha, hem, hclone, List.length_map, hsetp, hal2, hrdr, hrdq, q1, q2, q3, q4, q5, q6, q7, q8, q9, e4, k40, k41, k42, k4q]
        exact ⟨_, rfl, by simp only [Tryz.f19, resultsA, resultA, dx, reduceIte, Nat.reduceLT, Nat.reduceLeDiff, Nat.reduceEqDiff, Nat.reduceAdd, Nat.reduceMul, Nat.reduceSub, Nat.reduceBEq, Int.reduceEq, Int.reduceLT, Int.reduceLE, Int.reduceToNat, reduceCtorEq, sx, fx19]⟩
      | false =>
        have h3 := hst2 he
        subst h3
        have hem : ∀ σ : AMem, callN lawProg k (.func 71 [] []) [.vs xs.data[a].1 (bytesV xs.data[a].2)] σ = some (.bool false, σ) := fun σ => by
          have := isEmpty_callN (k := k) (σ := σ) xs.data[a].1 (bytesV xs.data[a].2) (by omega)
          rw [show emptyP (.vs xs.data[a].1 (bytesV xs.data[a].2)) = emptyQ xs.data[a] from emptyP_part _, he] at this
          exact this
        simp only [bodyOf, Tryz.f19, Option.getD_some, initT, dx, reduceIte, Nat.reduceLT, Nat.reduceLeDiff, Nat.reduceEqDiff, Nat.reduceAdd, Nat.reduceMul, Nat.reduceSub, Nat.reduceBEq, Int.reduceEq, Int.reduceLT, Int.reduceLE, Int.reduceToNat, reduceCtorEq, sx, fx19, hck, hic, bne_self_eq_false, o1, g0, g1, g2, f1, f4, f5.row, hcell, rd3, k0, k1, k2, hilt, halt, Int.natCast_nonneg, Int.toNat_natCast, part_get ha, hem, hclone, List.length_map, hsetp, hal2, hrdr, hrdq, q1, q2, q3, q4, q5, q6, q7, q8, q9, e4, k40, k41, k42, k4q]
        exact ⟨_, rfl, by simp only [Tryz.f19, resultsA, resultA, dx, reduceIte, Nat.reduceLT, Nat.reduceLeDiff, Nat.reduceEqDiff, Nat.reduceAdd, Nat.reduceMul, Nat.reduceSub, Nat.reduceBEq, Int.reduceEq, Int.reduceLT, Int.reduceLE, Int.reduceToNat, reduceCtorEq, sx, fx19]⟩
    obtain ⟨T1, e1, e2⟩ := e
    exact fin e1 e2 hsn (hnil _)
  · rw [if_neg hany]
    have hanyF : ps.any emptyQ = false := by simpa using hany
    rw [hanyF] at e4
    have hne : catL ps ≠ [] := catL_ne (by omega) hanyF
    rw [if_neg hne]
    have hcl := catL_bound ps 100 hpd
    have hcl0 : 0 < (catL ps).length := by
      rcases Nat.eq_zero_or_pos (catL ps).length with h | h
      · exact absurd (List.length_eq_zero_iff.1 h) hne
      · exact h
    have hcl2 : (catL ps).length ≤ 100000 := by
      have : ps.length * 100 ≤ 200 * 100 := Nat.mul_le_mul_right _ (by omega)
      omega
    obtain ⟨σ5, zs5, d1, d2, d3, d4⟩ := deleteSh_callN (k := k) (i := i) hat4 (by rw [hLn]; exact hij) (by rw [hLn]; omega) (by omega)
    rw [hLn] at d1
    have hLe : ((l'.set (o + i) ({ xs with data := ps }, rd, cap)).eraseIdx (o + i)).length = l'.length - 1 := by rw [List.length_eraseIdx, if_pos (by rw [hLn]; exact hij), hLn]
    have hfst5 : (((l'.set (o + i) ({ xs with data := ps }, rd, cap)).eraseIdx (o + i)).drop o).map (·.1) = (findL shs n of).1.eraseIdx i := by
      rw [drop_erase' _ _ _ (by rw [hLn]; exact hij), map_erase', hfst, erase_set]
    have k5q : σ5.get q = some (.row 1 true [.slice r (o * 2) (l'.length - o) none 2]) := (d4 q (by intro e; exact f5.rq e.symm)).trans k4q
    have k52 : σ5.get 2 = some (.row 1 true [.vs .nil []]) := (d4 2 (by omega)).trans k42
    have k5d : σ5.get rd = some (.row 1 false (ps.map partV)) := (d4 rd q8).trans hrow4
    let σ6 : AMem := σ5.put q (.row 1 true [.slice r (o * 2) (l'.length - o - 1) none 2])
    have hcat := concat_call (k := k) (σ := σ6) (x := .slice rd 0 xs.data.length cap 1) (K := .some) (seen := [rd]) ps (snap_ones (d := snapDepth - 2) (cs := ps.map partV) (more := []) (by rw [List.length_map, hpl]) (by
        rw [List.all_eq_true]
        intro v hv
        obtain ⟨p, _, rfl⟩ := List.mem_map.1 hv
        rfl) (by
        simp only [σ6]
        rw [List.append_nil, AMem.get_put, if_neg (by exact hrdq)]
        exact k5d)) hcl0 hcl2 (by omega) (fun p hp => by have := hpd p hp; omega) (by omega)
    simp only [σ6] at hcat
    obtain ⟨S, hsn⟩ := SrtAt.snap (σ := σ6.put 2 (.row 1 true [.slice r (o * 2) (l'.length - o - 1) none 2])) 7 (d2.same (by simp [σ6]) fun s h1 _ h3 => by simp only [σ6]; rw [AMem.get_put, if_neg (by omega), AMem.get_put, if_neg (by omega)]) (n := l'.length - o - 1) (by rw [hLe]; omega)
    rw [hfst5] at hsn
    simp only [σ6] at hsn
    have e : ∃ T1, execC lawProg (callN lawProg k) k 19 73 (bodyOf Tryz.f19) (initT 0 [.agg [.vs lk (shs.map shV)], .agg [.int .i64 n, .int .i64 (a : Nat), .int .i64 (of : Nat), .vs .some (bytesV d)]] .nil) AMem.empty = some (.ret, T1, (σ5.put q (.row 1 true [.slice r (o * 2) (l'.length - o - 1) none 2])).put 2 (.row 1 true [.slice r (o * 2) (l'.length - o - 1) none 2])) ∧ resultsA lawProg T1 ((σ5.put q (.row 1 true [.slice r (o * 2) (l'.length - o - 1) none 2])).put 2 (.row 1 true [.slice r (o * 2) (l'.length - o - 1) none 2])) Tryz.f19.results.toList = some [.agg [.slice r (o * 2) (l'.length - o - 1) none 2], .vs .some (bytesV (catL ps)), .int .i64 0] := by
      cases he : emptyQ xs.data[a] with
      | true =>
        have h3 := hst he
        subst h3
        have hem : ∀ σ : AMem, callN lawProg k (.func 71 [] []) [.vs xs.data[a].1 (bytesV xs.data[a].2)] σ = some (.bool true, σ) := fun σ => by
          have := isEmpty_callN (k := k) (σ := σ) xs.data[a].1 (bytesV xs.data[a].2) (by omega)
          rw [show emptyP (.vs xs.data[a].1 (bytesV xs.data[a].2)) = emptyQ xs.data[a] from emptyP_part _, he] at this
          exact this
        simp only [bodyOf, Tryz.f19, Option.getD_some, initT, dx, reduceIte, Nat.reduceLT, Nat.reduceLeDiff, Nat.reduceEqDiff, Nat.reduceAdd, Nat.reduceMul, Nat.reduceSub, Nat.reduceBEq, Int.reduceEq, Int.reduceLT, Int.reduceLE, Int.reduceToNat, reduceCtorEq, sx, fx19, hck, hic, bne_self_eq_false, o1, g0, g1, g2, f1, f4, f5.row, hcell, rd3, k0, k1, k2, hilt, halt, Int.natCast_nonneg, Int.toNat_natCast, part_get ha, hem, hclone, List.length_map, hsetp, hal2, hrdr, hrdq, q1, q2, q3, q4, q5, q6, q7, q8, q9, e4, k40, k41, k42, k4q, hw, d1, k5q, k52, hcat]
        exact ⟨_, rfl, by simp only [Tryz.f19, resultsA, resultA, dx, reduceIte, Nat.reduceLT, Nat.reduceLeDiff, Nat.reduceEqDiff, Nat.reduceAdd, Nat.reduceMul, Nat.reduceSub, Nat.reduceBEq, Int.reduceEq, Int.reduceLT, Int.reduceLE, Int.reduceToNat, reduceCtorEq, sx, fx19]⟩
      | false =>
        have h3 := hst2 he
        subst h3
        have hem : ∀ σ : AMem, callN lawProg k (.func 71 [] []) [.vs xs.data[a].1 (bytesV xs.data[a].2)] σ = some (.bool false, σ) := fun σ => by
          have := isEmpty_callN (k := k) (σ := σ) xs.data[a].1 (bytesV xs.data[a].2) (by omega)
          rw [show emptyP (.vs xs.data[a].1 (bytesV xs.data[a].2)) = emptyQ xs.data[a] from emptyP_part _, he] at this
          exact this
        simp only [bodyOf, Tryz.f19, Option.getD_some, initT, dx, reduceIte, Nat.reduceLT, Nat.reduceLeDiff, Nat.reduceEqDiff, Nat.reduceAdd, Nat.reduceMul, Nat.reduceSub, Nat.reduceBEq, Int.reduceEq, Int.reduceLT, Int.reduceLE, Int.reduceToNat, reduceCtorEq, sx, fx19, hck, hic, bne_self_eq_false, o1, g0, g1, g2, f1, f4, f5.row, hcell, rd3, k0, k1, k2, hilt, halt, Int.natCast_nonneg, Int.toNat_natCast, part_get ha, hem, hclone, List.length_map, hsetp, hal2, hrdr, hrdq, q1, q2, q3, q4, q5, q6, q7, q8, q9, e4, k40, k41, k42, k4q, hw, d1, k5q, k52, hcat]
        exact ⟨_, rfl, by simp only [Tryz.f19, resultsA, resultA, dx, reduceIte, Nat.reduceLT, Nat.reduceLeDiff, Nat.reduceEqDiff, Nat.reduceAdd, Nat.reduceMul, Nat.reduceSub, Nat.reduceBEq, Int.reduceEq, Int.reduceLT, Int.reduceLE, Int.reduceToNat, reduceCtorEq, sx, fx19]⟩
    obtain ⟨T1, e1, e2⟩ := e
    exact fin e1 e2 hsn (snap_vs _ 10 _ _)
end Go.Proofs.YtjckhhkhgjbpaaaGreatDoor

/- ref.Copy: what it gives. -/
set_option maxRecDepth 100000
set_option linter.unusedSimpArgs false
set_option linter.unusedVariables false
namespace Go.Proofs.YtjckhhkhgjbpaaaGreatDoor
open Go Go.Proofs.YtjckhhkhgjbpaaaGreatDoor.Pale
variable {k : Nat} {σ : AMem}

def prtN (p : Part) : AVal := .vs .some (bytesV p.2)
def shN (s : Sh) : List AVal := [.int .i64 s.name, .vs (lkOf s.data.length) (s.data.map prtN)]
def normS (s : Sh) : Sh := { name := s.name, dk := lkOf s.data.length, data := s.data.map fun p => (.some, p.2) }
theorem shN_norm (s : Sh) : AVal.agg (shN s) = shV (normS s) := by
  simp only [shN, shV, shC, normS, List.map_map]
  rfl
theorem prtN_one (l : List Part) : (l.map prtN).all AVal.oneCell = true := by
  rw [List.all_eq_true]
  intro v hv
  obtain ⟨p, _, rfl⟩ := List.mem_map.1 hv
  rfl
theorem rcopy_exec (d : Nat) (lk : VK) (shs : List Sh) (hn : shs.length ≤ 1000) (hd : ∀ s, s ∈ shs → s.data.length ≤ 1000 ∧ ∀ p, p ∈ s.data → p.2.length ≤ 1000) (hk : 3000 ≤ k) :
    ∃ T1 σ1 out ls, execC lawProg (callN lawProg k) k 20 56 (bodyOf Tryz.f20) (initT 0 [.agg [.vs lk (shs.map shV)]] .nil) σ = some (.ret, T1, σ1) ∧ resultsA lawProg T1 σ1 Tryz.f20.results.toList = some [.agg [out]] ∧ Ext σ σ1 ∧ Deep (d + 3) (σ.next + 3) σ1 2 true out shs.length (ls : List (List AVal)).flatten (shs.map shN).flatten ∧ ls.length = shs.length ∧ (∀ l, l ∈ ls → l.length = 2) ∧ (shs.length = 0 → out = .vs .nil []) := by
  obtain ⟨b, hbn⟩ : ∃ b, b = σ.next := ⟨_, rfl⟩
  simp only [bodyOf, Tryz.f20, Option.getD_some, initT, dx, reduceIte, Nat.reduceLT, Nat.reduceLeDiff, Nat.reduceEqDiff, Nat.reduceAdd, Nat.reduceMul, Nat.reduceSub, Nat.reduceBEq, Int.reduceEq, Int.reduceLT, Int.reduceLE, Int.reduceToNat, reduceCtorEq, sx, fx20, Nat.add_assoc, Nat.add_eq_left, Nat.left_eq_add, Nat.add_left_cancel_iff, ← hbn]
  generalize hL : execC _ _ _ _ _ (Code.loop _) _ _ = r
  obtain ⟨e, T', σ', rfl, _, rfl, f2, f3, out, ls, m1, m2, m3, m4, m5, m6, m7, m8⟩ : ∃ e T' σ', r = some (e, T', σ') ∧ e ≠ .normal ∧ (e = .exit 0 ∧ T'.get 2 = some (.ptr (b + 1) 0) ∧ T'.get 3 = some (.ptr (b + 2) 0) ∧ ∃ out ls, σ'.get (b + 1) = some (.row 1 true [.vs .nil []]) ∧ σ'.get (b + 2) = some (.row 1 true [out]) ∧ Ext σ σ' ∧ b + 3 ≤ σ'.next ∧ Deep (d + 3) (b + 3) σ' 2 true out shs.length (ls : List (List AVal)).flatten (shs.map shN).flatten ∧ ls.length = shs.length ∧ (∀ l, l ∈ ls → l.length = 2) ∧ (shs.length = 0 → out = .vs .nil [])) := by
    rw [← hL]
    refine exec_loop (fun i T σ' => i ≤ shs.length ∧ T.get 1 = some (.ptr b 0) ∧ T.get 2 = some (.ptr (b + 1) 0) ∧ T.get 3 = some (.ptr (b + 2) 0) ∧ T.get 4 = some (.int .i64 i) ∧ ∃ out ls, σ'.get b = some (.row 1 true [.vs lk (shs.map shV)]) ∧ σ'.get (b + 1) = some (.row 1 true [.vs .nil []]) ∧ σ'.get (b + 2) = some (.row 1 true [out]) ∧ Ext σ σ' ∧ b + 3 ≤ σ'.next ∧ Deep (d + 3) (b + 3) σ' 2 true out i (ls : List (List AVal)).flatten ((shs.take i).map shN).flatten ∧ ls.length = i ∧ (∀ l, l ∈ ls → l.length = 2) ∧ (i = 0 → out = .vs .nil [])) shs.length (by omega) ?_ ?_ ?_
    · rintro i hi T σ' ⟨_, t1, t2, t3, t4, out, ls, m0, m1, m2, m3, m4, m5, m6, m7, m8⟩
      have hli : (i : Int) < shs.length := by omega
      obtain ⟨d1, d2⟩ := hd _ (List.getElem_mem hi)
      have hw := i64_succ (i := i) (by omega)
      obtain ⟨y, hy⟩ : ∃ y, y = σ'.next := ⟨_, rfl⟩
      have qb : ¬ y = b := by omega
      have qb1 : ¬ y = b + 1 := by omega
      have qb2 : ¬ y = b + 2 := by omega
      simp only [dx, reduceIte, Nat.reduceLT, Nat.reduceLeDiff, Nat.reduceEqDiff, Nat.reduceAdd, Nat.reduceMul, Nat.reduceSub, Nat.reduceBEq, Int.reduceEq, Int.reduceLT, Int.reduceLE, Int.reduceToNat, reduceCtorEq, sx, fx20, Nat.add_assoc, Nat.add_eq_left, Nat.left_eq_add, Nat.add_left_cancel_iff, t1, t2, t3, t4, m0, m1, m2, hli, Int.natCast_nonneg, Int.toNat_natCast, sh_get hi, List.length_map, ← hy, qb, qb1, qb2]
      generalize hL2 : execC _ _ _ _ _ (Code.loop _) _ _ = r2
      obtain ⟨e, T2, σ2, rfl, _, rfl, u1, u2, u3, u4, u5, oi, cs, n1, n2, n3, n4, n5⟩ : ∃ e T' σ2, r2 = some (e, T', σ2) ∧ e ≠ .normal ∧ (e = .exit 2 ∧ T'.get 1 = some (.ptr b 0) ∧ T'.get 2 = some (.ptr (b + 1) 0) ∧ T'.get 3 = some (.ptr (b + 2) 0) ∧ T'.get 4 = some (.int .i64 i) ∧ T'.get 5 = some (.ptr y 0) ∧ ∃ oi cs, σ2.get y = some (.row 2 true [.int .i64 shs[i].name, oi]) ∧ y + 1 ≤ σ2.next ∧ (∀ s, s < y → σ2.get s = σ'.get s) ∧ Deep (d + 2) (y + 1) σ2 1 false oi shs[i].data.length cs (shs[i].data.map prtN) ∧ (shs[i].data.length = 0 → oi = .vs .nil [])) := by
        rw [← hL2]
        refine exec_loop (fun j T σ2 => j ≤ shs[i].data.length ∧ T.get 1 = some (.ptr b 0) ∧ T.get 2 = some (.ptr (b + 1) 0) ∧ T.get 3 = some (.ptr (b + 2) 0) ∧ T.get 4 = some (.int .i64 i) ∧ T.get 5 = some (.ptr y 0) ∧ T.get 6 = some (.int .i64 j) ∧ ∃ oi cs, σ2.get y = some (.row 2 true [.int .i64 shs[i].name, oi]) ∧ y + 1 ≤ σ2.next ∧ (∀ s, s < y → σ2.get s = σ'.get s) ∧ Deep (d + 2) (y + 1) σ2 1 false oi j cs ((shs[i].data.take j).map prtN) ∧ (j = 0 → oi = .vs .nil [])) shs[i].data.length (by omega) ?_ ?_ ?_
        · rintro j hj T σ2 ⟨_, t1, t2, t3, t4, t5, t6, oi, cs, n1, n2, n3, n4, n5⟩
          have hlt : (j : Int) < shs[i].data.length := by omega
          have hw := i64_succ (i := j) (by omega)
          have g0 : σ2.get b = some (.row 1 true [.vs lk (shs.map shV)]) := by rw [n3 b (by omega)]; exact m0
          have hg := part_get hj
          obtain ⟨rp, σ3, c1, c2, c3, c4, c5⟩ := copy_at (σ := σ2) (.vs shs[i].data[j].1 (bytesV shs[i].data[j].2)) (bs := shs[i].data[j].2) (fun σ => source_bytes σ _ _) (by have := d2 _ (List.getElem_mem hj); omega)
          have n4' : Deep (d + 2) (y + 1) σ3 1 false oi j cs ((shs[i].data.take j).map prtN) := n4.same c2.1 fun s _ h => c2.2 s h
          have hx : ReadsL (d + 2) (y + 1) σ3 (rowOf oi) [.slice rp 0 shs[i].data[j].2.length (capOf shs[i].data[j].2) 1] [prtN shs[i].data[j]] := by
            refine ⟨[rp] ++ [], ?_, fun s hs => ?_⟩
            · have := snap_bytes (fr := false) (σ := σ3) (d := d) (r := rp) (bs := shs[i].data[j].2) (more := []) (cap := capOf shs[i].data[j].2) rfl (by rw [List.append_nil]; exact c5)
              simp only [snapL, this, prtN]
            · simp only [List.append_nil, List.mem_singleton] at hs
              subst hs
              exact ⟨by omega, c4, fun h => by have := (n4.1.rows _ h).2.1; omega⟩
          obtain ⟨σ4, a1, a2, a3, a4⟩ := Deep.one (e := tyPart) n4' hx (by have := c2.1; omega) rfl (by decide) (by decide) (by decide) (by simp only [tyPart, mostBytes]; omega) rfl
          simp only [tyPart, TyI.isAgg] at a1 a2
          have k1 : σ4.get y = some (.row 2 true [.int .i64 shs[i].name, oi]) := by rw [a4 y (by omega), c2.2 y (by omega)]; exact n1
          have k0 : σ3.get y = some (.row 2 true [.int .i64 shs[i].name, oi]) := by rw [c2.2 y (by omega)]; exact n1
          have qy : ¬ σ2.next = y := by omega
          have qy0 : ¬ σ2.next = b := by omega
          refine ⟨_, _, by
            simp only [dx, reduceIte, Nat.reduceLT, Nat.reduceLeDiff, Nat.reduceEqDiff, Nat.reduceAdd, Nat.reduceMul, Nat.reduceSub, Nat.reduceBEq, Int.reduceEq, Int.reduceLT, Int.reduceLE, Int.reduceToNat, reduceCtorEq, sx, fx20, Nat.add_assoc, Nat.add_eq_left, Nat.left_eq_add, Nat.add_left_cancel_iff, t1, t2, t3, t4, t5, t6, hli, hlt, Int.natCast_nonneg, Int.toNat_natCast, g0, sh_get hi, List.length_map, hg, n1, qy, qy0, c1, a1, k0, k1, hw]
            rfl, hj, ?_, ?_, ?_, ?_, ?_, ?_, .slice (σ3.next + 1) 0 (j + 1) none 1, cs ++ [.slice rp 0 shs[i].data[j].2.length (capOf shs[i].data[j].2) 1], ?_, ?_, ?_, ?_, fun h => by simp at h⟩
          · simp only [Tr.get_set, Nat.reduceEqDiff, reduceIte, t1]
          · simp only [Tr.get_set, Nat.reduceEqDiff, reduceIte, t2]
          · simp only [Tr.get_set, Nat.reduceEqDiff, reduceIte, t3]
          · simp only [Tr.get_set, Nat.reduceEqDiff, reduceIte, t4]
          · simp only [Tr.get_set, Nat.reduceEqDiff, reduceIte, t5]
          · simp only [Tr.get_set, Nat.reduceEqDiff, reduceIte]
          · rw [AMem.get_put, if_pos rfl]
          · simp only [AMem.next_put]; have := c2.1; omega
          · intro s h1
            rw [AMem.get_put, if_neg (by omega), a4 s (by omega), c2.2 s (by omega), n3 s h1]
          · rw [List.take_succ_eq_append_getElem hj, List.map_append]
            exact a2.same (by simp) fun s h1 h2 => by rw [AMem.get_put, if_neg (by omega)]
        · rintro T σ2 ⟨_, t1, t2, t3, t4, t5, t6, oi, cs, n1, n2, n3, n4, n5⟩
          rw [List.take_length] at n4
          have g0 : σ2.get b = some (.row 1 true [.vs lk (shs.map shV)]) := by rw [n3 b (by omega)]; exact m0
          exact ⟨_, _, _, by
            simp only [dx, reduceIte, Nat.reduceLT, Nat.reduceLeDiff, Nat.reduceEqDiff, Nat.reduceAdd, Nat.reduceMul, Nat.reduceSub, Nat.reduceBEq, Int.reduceEq, Int.reduceLT, Int.reduceLE, Int.reduceToNat, reduceCtorEq, sx, fx20, Nat.add_assoc, Nat.add_eq_left, Nat.left_eq_add, Nat.add_left_cancel_iff, t1, t2, t3, t4, t5, t6, hli, Int.natCast_nonneg, Int.toNat_natCast, g0, sh_get hi, List.length_map, Int.lt_irrefl]
            rfl, by simp, rfl, by simp only [Tr.get_set, Nat.reduceEqDiff, reduceIte, t1], by simp only [Tr.get_set, Nat.reduceEqDiff, reduceIte, t2], by simp only [Tr.get_set, Nat.reduceEqDiff, reduceIte, t3], by simp only [Tr.get_set, Nat.reduceEqDiff, reduceIte, t4], by simp only [Tr.get_set, Nat.reduceEqDiff, reduceIte, t5], oi, cs, n1, n2, n3, n4, n5⟩
        · refine ⟨Nat.zero_le _, ?_, ?_, ?_, ?_, ?_, ?_, .vs .nil [], [], ?_, ?_, ?_, Deep.start _ _ _ _ _, fun _ => rfl⟩
          · simp only [Tr.get_set, Nat.reduceEqDiff, reduceIte, t1]
          · simp only [Tr.get_set, Nat.reduceEqDiff, reduceIte, t2]
          · simp only [Tr.get_set, Nat.reduceEqDiff, reduceIte, t3]
          · simp only [Tr.get_set, Nat.reduceEqDiff, reduceIte, t4]
          · simp only [Tr.get_set, Nat.reduceEqDiff, reduceIte]
          · simp only [Tr.get_set, Nat.reduceEqDiff, reduceIte]; rfl
          · simp only [AMem.get_put, AMem.get_push, AMem.next_put, AMem.next_push, ← hy, reduceIte]
          · simp only [AMem.next_put, AMem.next_push]; omega
          · intro s h1
            simp only [AMem.get_put, AMem.get_push, AMem.next_put, AMem.next_push, ← hy, show ¬ y = s by omega, if_false]
      have hro := n4.1.oneC
      have hrows := m5.1.rows
      have m5' : Deep (d + 3) (b + 3) σ2 2 true out i ls.flatten ((shs.take i).map shN).flatten := m5.same (by omega) fun s _ h => n3 s (by omega)
      have hx : ReadsL (d + 3) (b + 3) σ2 (rowOf out) [.int .i64 shs[i].name, oi] (shN shs[i]) := by
        have h1 : ReadsL (d + 3) (b + 3) σ2 (rowOf out) [.int .i64 shs[i].name] [.int .i64 shs[i].name] := ReadsL.pure rfl
        have h2 := Deep.ones (d := d + 1) n4 n5 (prtN_one _) (rowOf out) (fun s hs => by have := (hrows s hs).2.1; omega)
        exact h1.append (h2.same (low' := b + 3) (by omega) (Nat.le_refl _) (fun _ _ _ _ => rfl) fun _ _ _ h => h)
      obtain ⟨σ3, a1, a2, a3, a4⟩ := Deep.one (e := tySh) m5' hx (by omega) rfl (by decide) (by decide) (by decide) (by simp only [tySh, mostBytes]; omega) (by simp only [List.all_cons, List.all_nil, hro]; rfl)
      simp only [tySh, TyI.isAgg] at a1 a2
      have k2 : σ2.get (b + 2) = some (.row 1 true [out]) := by rw [n3 _ (by omega)]; exact m2
      have k3 : σ3.get (b + 2) = some (.row 1 true [out]) := by rw [a4 _ (by omega)]; exact k2
      have k1 : σ3.get (b + 1) = some (.row 1 true [.vs .nil []]) := by rw [a4 _ (by omega), n3 _ (by omega)]; exact m1
      have k0 : σ3.get b = some (.row 1 true [.vs lk (shs.map shV)]) := by rw [a4 _ (by omega), n3 _ (by omega)]; exact m0
      have ho := m5.1.oneC
      simp only [dx, reduceIte, Nat.reduceLT, Nat.reduceLeDiff, Nat.reduceEqDiff, Nat.reduceAdd, Nat.reduceMul, Nat.reduceSub, Nat.reduceBEq, Int.reduceEq, Int.reduceLT, Int.reduceLE, Int.reduceToNat, reduceCtorEq, sx, fx20, Nat.add_assoc, Nat.add_eq_left, Nat.left_eq_add, Nat.add_left_cancel_iff, u1, u2, u3, u4, u5, n1, k2, k3, a1, ho, hw]
      refine ⟨_, _, rfl, hi, ?_, ?_, ?_, ?_, .slice (σ2.next + 1) 0 (i + 1) none 2, ls ++ [[.int .i64 shs[i].name, oi]], ?_, ?_, ?_, ?_, ?_, ?_, ?_, ?_, fun h => by simp at h⟩
      · simp only [Tr.get_set, Nat.reduceEqDiff, reduceIte, u1]
      · simp only [Tr.get_set, Nat.reduceEqDiff, reduceIte, u2]
      · simp only [Tr.get_set, Nat.reduceEqDiff, reduceIte, u3]
      · simp only [Tr.get_set, Nat.reduceEqDiff, reduceIte]
      · rw [AMem.get_put, if_neg (by omega)]; exact k0
      · rw [AMem.get_put, if_neg (by omega)]; exact k1
      · rw [AMem.get_put, if_pos rfl]
      · refine Ext.put ⟨by have := m3.1; omega, fun s hs => ?_⟩ _ _ (by omega)
        rw [a4 s (by omega), n3 s (by omega)]
        exact m3.2 s hs
      · simp only [AMem.next_put]; omega
      · rw [List.take_succ_eq_append_getElem hi, List.map_append, List.flatten_append, List.flatten_append]
        simp only [List.map_cons, List.map_nil, List.flatten_cons, List.flatten_nil, List.append_nil]
        exact a2.same (by simp) fun s h1 h2 => by rw [AMem.get_put, if_neg (by omega)]
      · simp [m6]
      · intro l hl
        rcases List.mem_append.1 hl with h | h
        · exact m7 l h
        · rw [List.mem_singleton.1 h]; rfl
    · rintro T σ' ⟨_, t1, t2, t3, t4, out, ls, m0, m1, m2, m3, m4, m5, m6, m7, m8⟩
      rw [List.take_length] at m5
      refine ⟨_, _, _, by
        simp only [dx, reduceIte, Nat.reduceLT, Nat.reduceLeDiff, Nat.reduceEqDiff, Nat.reduceAdd, Nat.reduceMul, Nat.reduceSub, Nat.reduceBEq, Int.reduceEq, Int.reduceLT, Int.reduceLE, Int.reduceToNat, reduceCtorEq, sx, fx20, Nat.add_assoc, Nat.add_eq_left, Nat.left_eq_add, Nat.add_left_cancel_iff, t1, t2, t3, t4, m0, m1, m2, List.length_map, Int.lt_irrefl]
        rfl, by simp, rfl, ?_, ?_, out, ls, m1, m2, m3, m4, m5, m6, m7, m8⟩
      · simp only [Tr.get_set, Nat.reduceEqDiff, reduceIte, t2]
      · simp only [Tr.get_set, Nat.reduceEqDiff, reduceIte, t3]
    · refine ⟨Nat.zero_le _, ?_, ?_, ?_, ?_, .vs .nil [], [], ?_, ?_, ?_, ?_, ?_, Deep.start _ _ _ _ _, rfl, by simp, fun _ => rfl⟩
      · simp only [Tr.get_set, Nat.reduceEqDiff, reduceIte]
      · simp only [Tr.get_set, Nat.reduceEqDiff, reduceIte]
      · simp only [Tr.get_set, Nat.reduceEqDiff, reduceIte]
      · simp only [Tr.get_set, Nat.reduceEqDiff, reduceIte]; rfl
      · simp only [AMem.get_put, AMem.get_push, AMem.next_push, AMem.next_put, ← hbn, Nat.add_assoc, Nat.reduceAdd, Nat.add_eq_left, Nat.left_eq_add, Nat.add_left_cancel_iff, Nat.reduceEqDiff, reduceIte]
      · simp only [AMem.get_put, AMem.get_push, AMem.next_push, AMem.next_put, ← hbn, Nat.add_assoc, Nat.reduceAdd, Nat.add_eq_left, Nat.left_eq_add, Nat.add_left_cancel_iff, Nat.reduceEqDiff, reduceIte]
      · simp only [AMem.get_put, AMem.get_push, AMem.next_push, AMem.next_put, ← hbn, Nat.add_assoc, Nat.reduceAdd, Nat.add_eq_left, Nat.left_eq_add, Nat.add_left_cancel_iff, Nat.reduceEqDiff, reduceIte]
      · exact (((Ext.push _ _).trans (Ext.push _ _)).trans (Ext.push _ _)).put _ _ (by omega)
      · simp [← hbn]
  have ho := m5.1.oneC
  simp only [dx, reduceIte, Nat.reduceLT, Nat.reduceLeDiff, Nat.reduceEqDiff, Nat.reduceAdd, Nat.reduceMul, Nat.reduceSub, Nat.reduceBEq, Int.reduceEq, Int.reduceLT, Int.reduceLE, Int.reduceToNat, reduceCtorEq, sx, fx20, Nat.add_assoc, Nat.add_eq_left, Nat.left_eq_add, Nat.add_left_cancel_iff, f2, f3, m1, m2, ho]
  refine ⟨_, _, out, ls, rfl, ?_, m3.put (b + 1) _ (by omega), m5.same (by simp) fun s h1 h2 => by rw [AMem.get_put, if_neg (by omega)], m6, m7, m8⟩
  simp only [Tryz.f20, resultsA, resultA, dx, reduceIte, Nat.reduceLT, Nat.reduceLeDiff, Nat.reduceEqDiff, Nat.reduceAdd, Nat.reduceMul, Nat.reduceSub, Nat.reduceBEq, Int.reduceEq, Int.reduceLT, Int.reduceLE, Int.reduceToNat, reduceCtorEq, sx, fx20, Nat.add_assoc, Nat.add_eq_left, Nat.left_eq_add, Nat.add_left_cancel_iff, f2]
theorem rcopy_call (lk : VK) (shs : List Sh) (hn : shs.length ≤ 1000) (hd : ∀ s, s ∈ shs → s.data.length ≤ 1000 ∧ ∀ p, p ∈ s.data → p.2.length ≤ 1000) (hk : 3001 ≤ k) : pureCall lawProg (callN lawProg k) (.func 20 [] []) [.agg [.vs lk (shs.map shV)]] σ = some (.agg [.vs (lkOf shs.length) ((shs.map normS).map shV)], σ) := by
  obtain ⟨k, rfl⟩ : ∃ m, k = m + 1 := ⟨k - 1, by omega⟩
  obtain ⟨T1, σ1, out, ls, h1, h2, h3, h4, h5, h6, h7⟩ := rcopy_exec (k := k) (σ := AMem.empty) 7 lk shs hn hd (by omega)
  obtain ⟨S, hs⟩ := Deep.recs (d := 9) (ps := shs.map shN) h4 h7 h5.symm (by decide) (by simp [h5]) h6 (fun l hl => by
    obtain ⟨s, _, rfl⟩ := List.mem_map.1 hl
    rfl)
  have hs2 : snapF false σ1 12 (.agg [out]) = some (.agg [.vs (lkOf shs.length) ((shs.map normS).map shV)], S ++ []) := by
    show (snapL (snapF false σ1 11) [out]).map (fun (l, a) => (AVal.agg l, a)) = _
    simp only [snapL, hs, Option.map_some, List.map_map]
    rw [show (AVal.agg ∘ shN) = (shV ∘ normS) from funext fun s => shN_norm s]
  obtain ⟨b, h⟩ := pureRun_any fn20 rfl (by simp [Tryz.f20]) h1 (by simp) h2 hs2
  exact pureCall_of0 (args' := [.agg [.vs lk (shs.map shV)]]) rfl (memo20 _) h
end Go.Proofs.YtjckhhkhgjbpaaaGreatDoor

/- pack.Add keeps a sorter right: no program in sight. -/
set_option maxRecDepth 100000
set_option linter.unusedSimpArgs false
set_option linter.unusedVariables false
namespace Go.Proofs.YtjckhhkhgjbpaaaGreatDoor
open Go Go.Proofs.YtjckhhkhgjbpaaaGreatDoor.Pale

def names (l : List Sh) : List Int := l.map (·.name)
theorem fresh_nodup (shs : List Sh) : (∀ i (hi : i < shs.length), ((shs.take i).any fun o => o.name == shs[i].name) = false) ↔ (names shs).Nodup := by
  unfold names List.Nodup
  rw [List.pairwise_map, List.pairwise_iff_getElem]
  constructor
  · intro h i j hi hj hij e
    have := h j hj
    rw [List.any_eq_false] at this
    have h2 := this shs[i] (List.mem_iff_getElem.2 ⟨i, by rw [List.length_take]; omega, by rw [List.getElem_take]⟩)
    simp [e] at h2
  · intro h i hi
    rw [List.any_eq_false]
    intro o ho
    obtain ⟨j, hj, rfl⟩ := List.mem_iff_getElem.1 ho
    rw [List.length_take] at hj
    rw [List.getElem_take]
    have := h j i (by omega) hi (by omega)
    simpa using this
theorem sorterOk_iff (l : List Sh) : SorterOk l ↔ l.length ≤ 4 ∧ (names l).Nodup ∧ ∀ s, s ∈ l → sheafB s = true := by
  unfold SorterOk
  rw [fresh_nodup]
theorem SorterOk.map {l : List Sh} (f : Sh → Sh) (hn : ∀ s, (f s).name = s.name) (hb : ∀ s, sheafB (f s) = sheafB s) (h : SorterOk l) : SorterOk (l.map f) := by
  rw [sorterOk_iff] at h ⊢
  obtain ⟨h1, h2, h3⟩ := h
  refine ⟨by rw [List.length_map]; exact h1, ?_, fun s hs => ?_⟩
  · rw [show names (l.map f) = names l by unfold names; rw [List.map_map]; exact List.map_congr_left fun s _ => hn s]
    exact h2
  · obtain ⟨t, ht, rfl⟩ := List.mem_map.1 hs
    rw [hb]; exact h3 t ht
theorem sheafB_norm (s : Sh) : sheafB (normS s) = sheafB s := by
  unfold sheafB
  rw [any_empty, any_full, any_great, any_empty, any_full, any_great]
  simp only [normS, List.length_map, List.any_map]
  rfl
theorem SorterOk.dk {l : List Sh} (h : SorterOk l) : SorterOk (l.map dkS) := h.map dkS (fun _ => rfl) fun _ => rfl
theorem place_none {n : Int} {l : List Sh} (h : ¬ placeI n l ≥ 0) : ∀ s, s ∈ l → s.name ≠ n := by
  intro s hs e
  apply h
  have := idxI_any (sameName n) (l.map shV)
  have h2 : (l.map shV).any (sameName n) = true := by
    rw [List.any_eq_true]
    exact ⟨shV s, List.mem_map.2 ⟨s, hs, rfl⟩, by rw [sameName_sh]; simpa using e⟩
  rw [h2] at this
  simpa [placeI] using this
theorem find_names (shs : List Sh) (n : Int) (of : Nat) (h : (names shs).Nodup) (h4 : shs.length ≤ 4) : (names (findL shs n of).1).Nodup ∧ (findL shs n of).1.length ≤ 4 ∧ ∀ s, s ∈ (findL shs n of).1 → s ∈ shs ∨ s = newSh n of := by
  have hF : (names (shs.filter (keepS n of))).Nodup := h.sublist (List.filter_sublist.map _)
  have hl := List.length_filter_le (keepS n of) shs
  unfold findL
  by_cases hp : placeI n (shs.filter (keepS n of)) ≥ 0
  · rw [if_pos hp]
    exact ⟨hF, by simp only; omega, fun s hs => .inl (List.mem_filter.1 hs).1⟩
  · rw [if_neg hp]
    have hno := place_none hp
    have hN : (names (shs.filter (keepS n of) ++ [newSh n of])).Nodup := by
      unfold names List.Nodup
      rw [List.map_append, List.pairwise_append]
      refine ⟨hF, by simp, fun x hx y hy => ?_⟩
      obtain ⟨s, hs, rfl⟩ := List.mem_map.1 hx
      simp only [List.map_cons, List.map_nil, List.mem_singleton] at hy
      subst hy
      exact hno s hs
    have hM : ∀ s, s ∈ shs.filter (keepS n of) ++ [newSh n of] → s ∈ shs ∨ s = newSh n of := fun s hs => by
      rcases List.mem_append.1 hs with h | h
      · exact .inl (List.mem_filter.1 h).1
      · exact .inr (List.mem_singleton.1 h)
    split
    · exact ⟨hN.sublist ((List.drop_sublist 1 _).map _), by simp only [List.length_drop, List.length_append, List.length_singleton]; omega, fun s hs => hM s (List.mem_of_mem_drop hs)⟩
    · exact ⟨hN, by simp only [List.length_append, List.length_singleton]; omega, hM⟩
theorem partsOf_len (l : List Part) (a : Nat) (d : List Nat) : (partsOf l a d).length = l.length := by
  unfold partsOf
  split
  · split
    · rw [List.length_set]
    · rfl
  · rfl
theorem partsOf_small {l : List Part} {a m : Nat} {d : List Nat} (h : ∀ p, p ∈ l → p.2.length ≤ m) (hd : d.length ≤ m) : ∀ p, p ∈ partsOf l a d → p.2.length ≤ m := by
  intro p hp
  unfold partsOf at hp
  split at hp
  · split at hp
    · rcases List.mem_or_eq_of_mem_set hp with h2 | rfl
      · exact h p h2
      · exact hd
    · exact h p hp
  · exact h p hp
theorem partsOf_full {l : List Part} {a : Nat} {d : List Nat} (ha : a < l.length) (hd : 0 < d.length) : ∃ p, p ∈ partsOf l a d ∧ p.2.length ≠ 0 := by
  unfold partsOf
  rw [List.getElem?_eq_getElem ha]
  simp only
  split
  · exact ⟨(.some, d), List.mem_iff_getElem.2 ⟨a, by rw [List.length_set]; exact ha, by rw [List.getElem_set_self]⟩, by simp only; omega⟩
  · rename_i h
    exact ⟨l[a], List.getElem_mem ha, h⟩
theorem catL_ge {ps : List Part} (h : ps.any emptyQ = false) : ps.length ≤ (catL ps).length := by
  induction ps with
  | nil => simp
  | cons p ps ih =>
    simp only [List.any_cons, Bool.or_eq_false_iff, emptyQ, decide_eq_false_iff_not] at h
    have := ih h.2
    have h1 := h.1
    simp only [catL, List.flatMap_cons, List.length_append, List.length_cons] at this ⊢
    omega

theorem addL_ok {shs : List Sh} {n : Int} {of a : Nat} {d : List Nat} (hs : SorterOk shs) (hc : OkC n (a : Nat) (of : Nat) d) : SorterOk (addL shs n of a d).1 ∧ (addL shs n of a d).2.length ≤ of * 100 ∧ ((addL shs n of a d).2 ≠ [] → of ≤ (addL shs n of a d).2.length ∧ ∀ s, s ∈ (addL shs n of a d).1 → s.name ≠ n) := by
  obtain ⟨⟨c1, c2⟩, ⟨c3, c4⟩, ⟨c5, c5'⟩, ⟨c6, c7⟩⟩ := id hc
  obtain ⟨s1, s2, s3⟩ := (sorterOk_iff _).1 hs
  obtain ⟨i, hi, e1, e2, e3⟩ := find_spec shs n of
  obtain ⟨f1, f2, f3⟩ := find_names shs n of s2 s1
  have hsm : ∀ s, s ∈ (findL shs n of).1 → ∀ p, p ∈ s.data → p.2.length ≤ 100 := find_parts n of (fun p => p.2.length ≤ 100) (by simp) (fun s h => ((sheafB_eq s).1 (s3 s h)).2.2.2.2)
  unfold addL
  rw [e1]
  simp only [Int.toNat_natCast, List.getElem?_eq_getElem hi]
  generalize (findL shs n of).1 = F at *
  have hpl : (partsOf F[i].data a d).length = of := by rw [partsOf_len, e3]
  have hsm1 := partsOf_small (a := a) (d := d) (m := 100) (hsm _ (List.getElem_mem hi)) (by omega)
  obtain ⟨pf, pf1, pf2⟩ := partsOf_full (l := F[i].data) (a := a) (d := d) (by omega) (by omega)
  generalize partsOf F[i].data a d = ps at *
  have other : ∀ m (hm : m < F.length), m ≠ i → F[m].name ≠ n ∧ sheafB F[m] = true := by
    intro m hm hne
    have hnm : F[m].name ≠ n := by
      unfold names List.Nodup at f1
      rw [List.pairwise_map, List.pairwise_iff_getElem] at f1
      rcases Nat.lt_or_ge m i with h | h
      · have := f1 m i hm hi h; rw [e2] at this; exact this
      · have := f1 i m hi hm (by omega); rw [e2] at this; exact fun e => this e.symm
    refine ⟨hnm, ?_⟩
    rcases f3 _ (List.getElem_mem hm) with h | h
    · exact s3 _ h
    · exact absurd (by rw [h]; rfl) hnm
  by_cases hany : ps.any emptyQ = true
  · rw [if_pos hany]
    refine ⟨(sorterOk_iff _).2 ⟨by rw [List.length_set]; exact f2, ?_, fun s hs => ?_⟩, by simp, fun h => absurd rfl h⟩
    · rw [show names (F.set i { F[i] with data := ps }) = names F from set_same' _ hi rfl]
      exact f1
    · obtain ⟨m, hm, rfl⟩ := List.mem_iff_getElem.1 hs
      rw [List.length_set] at hm
      rw [List.getElem_set]
      split
      · rw [sheafB_eq]
        simp only
        have k1 := (countP_any emptyQ ps).1.1 hany
        have k2 := (countP_any emptyQ ps).2.1 (by rw [List.any_eq_true]; exact ⟨pf, pf1, by simp [emptyQ]; exact fun h => pf2 (by rw [h]; rfl)⟩)
        exact ⟨by rw [e2]; exact ⟨c5, c5'⟩, by omega, k1, k2, hsm1⟩
      · rename_i h
        exact (other m hm (Ne.symm h)).2
  · rw [if_neg hany]
    have hanyF : ps.any emptyQ = false := by simpa using hany
    have h1 := catL_ge hanyF
    have h2 := catL_bound ps 100 hsm1
    rw [hpl] at h1 h2
    have hmem : ∀ s, s ∈ F.eraseIdx i → ∃ m, ∃ hm : m < F.length, m ≠ i ∧ F[m] = s := fun s hs => by
      rw [List.mem_eraseIdx_iff_getElem] at hs
      obtain ⟨m, hm, h, e⟩ := hs
      exact ⟨m, hm, h, e⟩
    refine ⟨(sorterOk_iff _).2 ⟨by rw [List.length_eraseIdx]; split <;> omega, f1.sublist ((List.eraseIdx_sublist _ _).map _), fun s hs => ?_⟩, h2, fun _ => ⟨h1, fun s hs => ?_⟩⟩
    · obtain ⟨m, hm, h, rfl⟩ := hmem s hs
      exact (other m hm h).2
    · obtain ⟨m, hm, h, rfl⟩ := hmem s hs
      exact (other m hm h).1
end Go.Proofs.YtjckhhkhgjbpaaaGreatDoor

/- Chunks as arguments: how they read. -/
set_option linter.unusedVariables false
namespace Go.Proofs.YtjckhhkhgjbpaaaGreatDoor
open Go Go.Proofs.YtjckhhkhgjbpaaaGreatDoor.Pale
variable {P : Program} {tl tc tb tu ti n : Nat}

structure Ck where
  name : Int
  at_ : Int
  of : Int
  vk : VK
  d : List Nat
def ckV (c : Ck) : AVal := .agg [.int .i64 c.name, .int .i64 c.at_, .int .i64 c.of, .vs c.vk (bytesV c.d)]
theorem elem_chunk {x : AVal} (hc : rkOf P tc = .agg [(ti, 0), (ti, 1), (ti, 2), (tb, 3)]) (cc : P.cellsOf tc = 4) (ci : P.cellsOf ti = 1) (cb : P.cellsOf tb = 1) (hi : rkOf P ti = .int .i64) (hb : rkOf P tb = .slice tu) (hu : rkOf P tu = .int .u8) (h : ElemFit P n tc x) : ∃ c : Ck, x = ckV c ∧ ∀ b, b ∈ c.d → b < 256 := by
  obtain ⟨cs, m, rfl, hlen, hall⟩ := elem_agg hc h
  rw [cc] at hlen
  obtain ⟨a, b, c, d, rfl⟩ : ∃ a b c d, cs = [a, b, c, d] := by
    match cs, hlen with
    | [a, b, c, d], _ => exact ⟨a, b, c, d, rfl⟩
  have h0 := hall (ti, 0) (by simp)
  have h1 := hall (ti, 1) (by simp)
  have h2 := hall (ti, 2) (by simp)
  have h3 := hall (tb, 3) (by simp)
  simp only [ci, cb, List.drop_zero, List.drop_succ_cons, List.take_succ_cons, List.take_zero] at h0 h1 h2 h3
  obtain ⟨x, e0, _⟩ := fit_int hi h0
  obtain ⟨y, e1, _⟩ := fit_int hi h1
  obtain ⟨z, e2, _⟩ := fit_int hi h2
  obtain ⟨vk, bs, e3, _, _, e4⟩ := fit_bytes hb hu h3
  simp only [List.cons.injEq, and_true] at e0 e1 e2 e3
  subst e0; subst e1; subst e2; subst e3
  exact ⟨⟨x, y, z, vk, bs⟩, rfl, e4⟩
end Go.Proofs.YtjckhhkhgjbpaaaGreatDoor

/- SameSorter on sorters that are the same. -/
set_option maxRecDepth 100000
set_option linter.unusedSimpArgs false
set_option linter.unusedVariables false
namespace Go.Proofs.YtjckhhkhgjbpaaaGreatDoor
open Go Go.Proofs.YtjckhhkhgjbpaaaGreatDoor.Pale
variable {k : Nat} {σ : AMem}

/-- The same names, and the same bytes in the same places. -/
def coreS (s : Sh) : Int × List (List Nat) := (s.name, s.data.map (·.2))
theorem core_at {xs zs : List Sh} (h : xs.map coreS = zs.map coreS) {i : Nat} (hi : i < xs.length) (hj : i < zs.length) : xs[i].name = zs[i].name ∧ xs[i].data.map (·.2) = zs[i].data.map (·.2) := by
  have h1 : (xs.map coreS)[i]'(by simpa using hi) = (zs.map coreS)[i]'(by simpa using hj) := by simp only [h]
  rw [List.getElem_map, List.getElem_map] at h1
  simpa [coreS] using h1
theorem part_at {xs zs : List Part} (h : xs.map (·.2) = zs.map (·.2)) {i : Nat} (hi : i < xs.length) (hj : i < zs.length) : xs[i].2 = zs[i].2 := by
  have h1 : (xs.map (·.2))[i]'(by simpa using hi) = (zs.map (·.2))[i]'(by simpa using hj) := by simp only [h]
  rw [List.getElem_map, List.getElem_map] at h1
  exact h1
theorem rsame_call (la lb : VK) (xs zs : List Sh) (h : xs.map coreS = zs.map coreS) (hn : xs.length ≤ 1000) (hd : ∀ s, s ∈ xs → s.data.length ≤ 1000) (hk : 2003 ≤ k) : pureCall lawProg (callN lawProg k) (.func 26 [] []) [.agg [.vs la (xs.map shV)], .agg [.vs lb (zs.map shV)]] σ = some (.bool true, σ) := by
  obtain ⟨k, rfl⟩ : ∃ m, k = m + 1 := ⟨k - 1, by omega⟩
  have hlen : zs.length = xs.length := by have := congrArg List.length h; simpa using this.symm
  have run : ∃ T1 σ1, execC lawProg (callN lawProg k) k 26 83 (bodyOf Tryz.f26) (initT 0 [.agg [.vs la (xs.map shV)], .agg [.vs lb (zs.map shV)]] .nil) AMem.empty = some (.ret, T1, σ1) ∧ T1.get 4 = some (.bool true) := by
    simp only [bodyOf, Tryz.f26, Option.getD_some, initT, dx, reduceIte, Nat.reduceLT, Nat.reduceLeDiff, Nat.reduceEqDiff, Nat.reduceAdd, Nat.reduceMul, Nat.reduceSub, Nat.reduceBEq, Int.reduceEq, Int.reduceLT, Int.reduceLE, Int.reduceToNat, reduceCtorEq, sx, fx26, List.length_map, hlen, bne_self_eq_false]
    generalize hL : execC _ _ _ _ _ (Code.loop _) _ _ = r
    obtain ⟨e, T', σ', rfl, _, rfl, _⟩ : ∃ e T' σ', r = some (e, T', σ') ∧ e ≠ .normal ∧ (e = .exit 0 ∧ True) := by
      rw [← hL]
      refine exec_loop (fun i T σ => i ≤ xs.length ∧ T.get 2 = some (.ptr 0 0) ∧ T.get 3 = some (.ptr 1 0) ∧ T.get 5 = some (.int .i64 i) ∧ σ.get 0 = some (.row 1 true [.vs la (xs.map shV)]) ∧ σ.get 1 = some (.row 1 true [.vs lb (zs.map shV)])) xs.length (by omega) ?_ ?_ ?_
      · rintro i hi T σ ⟨_, t2, t3, t5, m0, m1⟩
        have hlt : (i : Int) < xs.length := by omega
        have hib : i < zs.length := by omega
        have hw := i64_succ (i := i) (by omega)
        obtain ⟨e1, e2⟩ := core_at h hi hib
        have hdl := hd _ (List.getElem_mem hi)
        have hl2 : zs[i].data.length = xs[i].data.length := by have := congrArg List.length e2; simpa using this.symm
        simp only [dx, reduceIte, Nat.reduceLT, Nat.reduceLeDiff, Nat.reduceEqDiff, Nat.reduceAdd, Nat.reduceMul, Nat.reduceSub, Nat.reduceBEq, Int.reduceEq, Int.reduceLT, Int.reduceLE, Int.reduceToNat, reduceCtorEq, sx, fx26, t2, t3, t5, m0, m1, hlt, List.length_map, Int.natCast_nonneg, Int.toNat_natCast, sh_get hi, sh_get hib, hlen, e1, hl2, bne_self_eq_false]
        generalize hL2 : execC _ _ _ _ _ (Code.loop _) _ _ = r2
        obtain ⟨e, T2, σ2, rfl, _, rfl, u2, u3, u5, n0, n1⟩ : ∃ e T' σ2, r2 = some (e, T', σ2) ∧ e ≠ .normal ∧ (e = .exit 2 ∧ T'.get 2 = some (.ptr 0 0) ∧ T'.get 3 = some (.ptr 1 0) ∧ T'.get 5 = some (.int .i64 i) ∧ σ2.get 0 = some (.row 1 true [.vs la (xs.map shV)]) ∧ σ2.get 1 = some (.row 1 true [.vs lb (zs.map shV)])) := by
          rw [← hL2]
          refine exec_loop (fun j T σ => j ≤ xs[i].data.length ∧ T.get 2 = some (.ptr 0 0) ∧ T.get 3 = some (.ptr 1 0) ∧ T.get 5 = some (.int .i64 i) ∧ T.get 6 = some (.int .i64 j) ∧ σ.get 0 = some (.row 1 true [.vs la (xs.map shV)]) ∧ σ.get 1 = some (.row 1 true [.vs lb (zs.map shV)])) xs[i].data.length (by omega) ?_ ?_ ?_
          · rintro j hj T σ ⟨_, t2, t3, t5, t6, m0, m1⟩
            have hltj : (j : Int) < xs[i].data.length := by omega
            have hjb : j < zs[i].data.length := by omega
            have hwj := i64_succ (i := j) (by omega)
            have e3 := part_at e2 hj hjb
            refine ⟨_, _, by
              simp only [dx, reduceIte, Nat.reduceLT, Nat.reduceLeDiff, Nat.reduceEqDiff, Nat.reduceAdd, Nat.reduceMul, Nat.reduceSub, Nat.reduceBEq, Int.reduceEq, Int.reduceLT, Int.reduceLE, Int.reduceToNat, reduceCtorEq, sx, fx26, t2, t3, t5, t6, m0, m1, hlt, hltj, List.length_map, Int.natCast_nonneg, Int.toNat_natCast, sh_get hi, sh_get hib, part_get hj, part_get hjb, hlen, hl2, e3, bne_self_eq_false, source_bytes, bytesOf_bytes, abinStr, hwj]
              rfl, hj, ?_, ?_, ?_, ?_, m0, m1⟩
            all_goals simp only [Tr.get_set, Nat.reduceEqDiff, reduceIte, t2, t3, t5]
          · rintro T σ ⟨_, t2, t3, t5, t6, m0, m1⟩
            exact ⟨_, _, _, by
              simp only [dx, reduceIte, Nat.reduceLT, Nat.reduceLeDiff, Nat.reduceEqDiff, Nat.reduceAdd, Nat.reduceMul, Nat.reduceSub, Nat.reduceBEq, Int.reduceEq, Int.reduceLT, Int.reduceLE, Int.reduceToNat, reduceCtorEq, sx, fx26, t2, t3, t5, t6, m0, m1, hlt, List.length_map, Int.natCast_nonneg, Int.toNat_natCast, sh_get hi, Int.lt_irrefl]
              rfl, by simp, rfl, by simp only [Tr.get_set, Nat.reduceEqDiff, reduceIte, t2], by simp only [Tr.get_set, Nat.reduceEqDiff, reduceIte, t3], by simp only [Tr.get_set, Nat.reduceEqDiff, reduceIte, t5], m0, m1⟩
          · refine ⟨Nat.zero_le _, ?_, ?_, ?_, ?_, m0, m1⟩
            · simp only [Tr.get_set, Nat.reduceEqDiff, reduceIte, t2]
            · simp only [Tr.get_set, Nat.reduceEqDiff, reduceIte, t3]
            · simp only [Tr.get_set, Nat.reduceEqDiff, reduceIte, t5]
            · simp only [Tr.get_set, Nat.reduceEqDiff, reduceIte]; rfl
        simp only [dx, reduceIte, Nat.reduceLT, Nat.reduceLeDiff, Nat.reduceEqDiff, Nat.reduceAdd, Nat.reduceMul, Nat.reduceSub, Nat.reduceBEq, Int.reduceEq, Int.reduceLT, Int.reduceLE, Int.reduceToNat, reduceCtorEq, sx, fx26, u2, u3, u5, hw]
        refine ⟨_, _, rfl, hi, ?_, ?_, ?_, n0, n1⟩
        all_goals simp only [Tr.get_set, Nat.reduceEqDiff, reduceIte, u2, u3]
      · rintro T σ ⟨_, t2, t3, t5, m0, m1⟩
        exact ⟨_, _, _, by
          simp only [dx, reduceIte, Nat.reduceLT, Nat.reduceLeDiff, Nat.reduceEqDiff, Nat.reduceAdd, Nat.reduceMul, Nat.reduceSub, Nat.reduceBEq, Int.reduceEq, Int.reduceLT, Int.reduceLE, Int.reduceToNat, reduceCtorEq, sx, fx26, t2, t3, t5, m0, m1, List.length_map, Int.lt_irrefl]
          rfl, by simp, rfl, trivial⟩
      · refine ⟨Nat.zero_le _, ?_, ?_, ?_, ?_, ?_⟩
        · simp only [Tr.get_set, Nat.reduceEqDiff, reduceIte]
        · simp only [Tr.get_set, Nat.reduceEqDiff, reduceIte]
        · simp only [Tr.get_set, Nat.reduceEqDiff, reduceIte]; rfl
        · simp only [AMem.get_push, AMem.next_push, next_empty, Nat.reduceAdd, Nat.reduceEqDiff, reduceIte]
        · simp only [AMem.get_push, AMem.next_push, next_empty, Nat.reduceAdd, Nat.reduceEqDiff, reduceIte]
    simp only [dx, reduceIte, Nat.reduceLT, Nat.reduceLeDiff, Nat.reduceEqDiff, Nat.reduceAdd, Nat.reduceMul, Nat.reduceSub, Nat.reduceBEq, Int.reduceEq, Int.reduceLT, Int.reduceLE, Int.reduceToNat, reduceCtorEq, sx, fx26]
    exact ⟨_, _, rfl, by simp only [Tr.get_set, Nat.reduceEqDiff, reduceIte]⟩
  obtain ⟨T1, σ1, h1, h2⟩ := run
  exact pureCall_of rfl (memo26 _) (pureRun_of fn26 rfl (by simp [Tryz.f26]) h1 (by simp) (res_one h2) rfl)
end Go.Proofs.YtjckhhkhgjbpaaaGreatDoor

/- thinSorter. -/
set_option maxRecDepth 100000
set_option linter.unusedSimpArgs false
set_option linter.unusedVariables false
namespace Go.Proofs.YtjckhhkhgjbpaaaGreatDoor
open Go Go.Proofs.YtjckhhkhgjbpaaaGreatDoor.Pale
variable {k : Nat} {σ : AMem}

def ThinS (shs : List Sh) : Prop := shs.length ≤ 6 ∧ ∀ s, s ∈ shs → s.data.length ≤ 210 ∧ ∀ p, p ∈ s.data → p.2.length ≤ 110
theorem thinSorter_call (lk : VK) (shs : List Sh) (hk : 2003 ≤ k) : ∃ b, (∀ σ, pureCall lawProg (callN lawProg k) (.func 18 [] []) [.agg [.vs lk (shs.map shV)]] σ = some (.bool b, σ)) ∧ (b = true → ThinS shs) := by
  obtain ⟨k, rfl⟩ : ∃ m, k = m + 1 := ⟨k - 1, by omega⟩
  have run : ∃ T1 σ1 b, execC lawProg (callN lawProg k) k 18 46 (bodyOf Tryz.f18) (initT 0 [.agg [.vs lk (shs.map shV)]] .nil) AMem.empty = some (.ret, T1, σ1) ∧ T1.get 2 = some (.bool b) ∧ (b = true → ThinS shs) := by
    by_cases h2 : (shs.length : Int) > 6
    · simp only [bodyOf, Tryz.f18, Option.getD_some, initT, dx, reduceIte, Nat.reduceLT, Nat.reduceLeDiff, Nat.reduceEqDiff, Nat.reduceAdd, Nat.reduceMul, Nat.reduceSub, Nat.reduceBEq, Int.reduceEq, Int.reduceLT, Int.reduceLE, Int.reduceToNat, reduceCtorEq, sx, fx18, List.length_map, h2]
      exact ⟨_, _, false, rfl, by simp only [Tr.get_set, Nat.reduceEqDiff, reduceIte], fun h => by cases h⟩
    · simp only [bodyOf, Tryz.f18, Option.getD_some, initT, dx, reduceIte, Nat.reduceLT, Nat.reduceLeDiff, Nat.reduceEqDiff, Nat.reduceAdd, Nat.reduceMul, Nat.reduceSub, Nat.reduceBEq, Int.reduceEq, Int.reduceLT, Int.reduceLE, Int.reduceToNat, reduceCtorEq, sx, fx18, List.length_map, h2]
      generalize hL : execC _ _ _ _ _ (Code.loop _) _ _ = q
      obtain ⟨e, T', σ', rfl, _, hcase⟩ : ∃ e T' σ', q = some (e, T', σ') ∧ e ≠ .normal ∧ ((e = .exit 0 ∧ ∀ s, s ∈ shs → s.data.length ≤ 210 ∧ ∀ p, p ∈ s.data → p.2.length ≤ 110) ∨ (e = .ret ∧ T'.get 2 = some (.bool false))) := by
        rw [← hL]
        refine exec_loop2 (fun i T σ' => i ≤ shs.length ∧ T.get 1 = some (.ptr 0 0) ∧ T.get 3 = some (.int .i64 i) ∧ σ'.get 0 = some (.row 1 true [.vs lk (shs.map shV)]) ∧ ∀ s, s ∈ shs.take i → s.data.length ≤ 210 ∧ ∀ p, p ∈ s.data → p.2.length ≤ 110) shs.length (by omega) ?_ ?_ ?_
        · rintro i hi T σ' ⟨_, t1, t3, m0, hall⟩
          have hlt : (i : Int) < shs.length := by omega
          have hw := i64_succ (i := i) (by omega)
          by_cases hp : (shs[i].data.length : Int) > 210
          · right
            refine ⟨.ret, _, _, by
              simp only [dx, reduceIte, Nat.reduceLT, Nat.reduceLeDiff, Nat.reduceEqDiff, Nat.reduceAdd, Nat.reduceMul, Nat.reduceSub, Nat.reduceBEq, Int.reduceEq, Int.reduceLT, Int.reduceLE, Int.reduceToNat, reduceCtorEq, sx, fx18, t1, t3, m0, hlt, List.length_map, Int.natCast_nonneg, Int.toNat_natCast, sh_get hi, hp, hw]
              rfl, by simp, .inr ⟨rfl, ?_⟩⟩
            simp only [Tr.get_set, Nat.reduceEqDiff, reduceIte]
          · simp only [dx, reduceIte, Nat.reduceLT, Nat.reduceLeDiff, Nat.reduceEqDiff, Nat.reduceAdd, Nat.reduceMul, Nat.reduceSub, Nat.reduceBEq, Int.reduceEq, Int.reduceLT, Int.reduceLE, Int.reduceToNat, reduceCtorEq, sx, fx18, t1, t3, m0, hlt, List.length_map, Int.natCast_nonneg, Int.toNat_natCast, sh_get hi, hp]
            generalize hL2 : execC _ _ _ _ _ (Code.loop _) _ _ = q2
            obtain ⟨e, T2, σ2, rfl, _, hcase⟩ : ∃ e T' σ2, q2 = some (e, T', σ2) ∧ e ≠ .normal ∧ ((e = .exit 2 ∧ T'.get 1 = some (.ptr 0 0) ∧ T'.get 3 = some (.int .i64 i) ∧ σ2.get 0 = some (.row 1 true [.vs lk (shs.map shV)]) ∧ ∀ p, p ∈ shs[i].data → p.2.length ≤ 110) ∨ (e = .ret ∧ T'.get 2 = some (.bool false))) := by
              rw [← hL2]
              refine exec_loop2 (fun j T σ' => j ≤ shs[i].data.length ∧ T.get 1 = some (.ptr 0 0) ∧ T.get 3 = some (.int .i64 i) ∧ T.get 4 = some (.int .i64 j) ∧ σ'.get 0 = some (.row 1 true [.vs lk (shs.map shV)]) ∧ ∀ p, p ∈ shs[i].data.take j → p.2.length ≤ 110) shs[i].data.length (by omega) ?_ ?_ ?_
              · rintro j hj T σ' ⟨_, t1, t3, t4, m0, hall⟩
                have hltj : (j : Int) < shs[i].data.length := by omega
                have hwj := i64_succ (i := j) (by omega)
                by_cases hq : (shs[i].data[j].2.length : Int) > 110
                · right
                  refine ⟨.ret, _, _, by
                    simp only [dx, reduceIte, Nat.reduceLT, Nat.reduceLeDiff, Nat.reduceEqDiff, Nat.reduceAdd, Nat.reduceMul, Nat.reduceSub, Nat.reduceBEq, Int.reduceEq, Int.reduceLT, Int.reduceLE, Int.reduceToNat, reduceCtorEq, sx, fx18, t1, t3, t4, m0, hlt, hltj, List.length_map, Int.natCast_nonneg, Int.toNat_natCast, sh_get hi, part_get hj, bytesV_length, hq]
                    rfl, by simp, .inr ⟨rfl, ?_⟩⟩
                  simp only [Tr.get_set, Nat.reduceEqDiff, reduceIte]
                · left
                  refine ⟨_, _, by
                    simp only [dx, reduceIte, Nat.reduceLT, Nat.reduceLeDiff, Nat.reduceEqDiff, Nat.reduceAdd, Nat.reduceMul, Nat.reduceSub, Nat.reduceBEq, Int.reduceEq, Int.reduceLT, Int.reduceLE, Int.reduceToNat, reduceCtorEq, sx, fx18, t1, t3, t4, m0, hlt, hltj, List.length_map, Int.natCast_nonneg, Int.toNat_natCast, sh_get hi, part_get hj, bytesV_length, hq, hwj]
                    rfl, hj, ?_, ?_, ?_, m0, take_all hj hall (by omega)⟩
                  all_goals simp only [Tr.get_set, Nat.reduceEqDiff, reduceIte, t1, t3]
              · rintro T σ' ⟨_, t1, t3, t4, m0, hall⟩
                rw [List.take_length] at hall
                exact ⟨_, _, _, by
                  simp only [dx, reduceIte, Nat.reduceLT, Nat.reduceLeDiff, Nat.reduceEqDiff, Nat.reduceAdd, Nat.reduceMul, Nat.reduceSub, Nat.reduceBEq, Int.reduceEq, Int.reduceLT, Int.reduceLE, Int.reduceToNat, reduceCtorEq, sx, fx18, t1, t3, t4, m0, hlt, List.length_map, Int.natCast_nonneg, Int.toNat_natCast, sh_get hi, Int.lt_irrefl]
                  rfl, by simp, .inl ⟨rfl, by simp only [Tr.get_set, Nat.reduceEqDiff, reduceIte, t1], by simp only [Tr.get_set, Nat.reduceEqDiff, reduceIte, t3], m0, hall⟩⟩
              · refine ⟨Nat.zero_le _, ?_, ?_, ?_, m0, by simp⟩
                · simp only [Tr.get_set, Nat.reduceEqDiff, reduceIte, t1]
                · simp only [Tr.get_set, Nat.reduceEqDiff, reduceIte, t3]
                · simp only [Tr.get_set, Nat.reduceEqDiff, reduceIte]; rfl
            rcases hcase with ⟨rfl, u1, u3, n0, hall2⟩ | ⟨rfl, hT⟩
            · left
              simp only [dx, reduceIte, Nat.reduceLT, Nat.reduceLeDiff, Nat.reduceEqDiff, Nat.reduceAdd, Nat.reduceMul, Nat.reduceSub, Nat.reduceBEq, Int.reduceEq, Int.reduceLT, Int.reduceLE, Int.reduceToNat, reduceCtorEq, sx, fx18, u1, u3, hw]
              refine ⟨_, _, rfl, hi, ?_, ?_, n0, take_all hi hall ⟨by omega, hall2⟩⟩
              all_goals simp only [Tr.get_set, Nat.reduceEqDiff, reduceIte, u1]
            · right
              simp only [dx, reduceIte, Nat.reduceLT, Nat.reduceLeDiff, Nat.reduceEqDiff, Nat.reduceAdd, Nat.reduceMul, Nat.reduceSub, Nat.reduceBEq, Int.reduceEq, Int.reduceLT, Int.reduceLE, Int.reduceToNat, reduceCtorEq, sx, fx18]
              exact ⟨_, _, _, rfl, by simp, .inr ⟨rfl, hT⟩⟩
        · rintro T σ' ⟨_, t1, t3, m0, hall⟩
          rw [List.take_length] at hall
          exact ⟨_, _, _, by
            simp only [dx, reduceIte, Nat.reduceLT, Nat.reduceLeDiff, Nat.reduceEqDiff, Nat.reduceAdd, Nat.reduceMul, Nat.reduceSub, Nat.reduceBEq, Int.reduceEq, Int.reduceLT, Int.reduceLE, Int.reduceToNat, reduceCtorEq, sx, fx18, t1, t3, m0, List.length_map, Int.lt_irrefl]
            rfl, by simp, .inl ⟨rfl, hall⟩⟩
        · refine ⟨Nat.zero_le _, ?_, ?_, ?_, by simp⟩
          · simp only [Tr.get_set, Nat.reduceEqDiff, reduceIte]
          · simp only [Tr.get_set, Nat.reduceEqDiff, reduceIte]; rfl
          · simp only [AMem.get_push, next_empty, reduceIte]
      rcases hcase with ⟨rfl, hall⟩ | ⟨rfl, hT⟩
      · simp only [dx, reduceIte, Nat.reduceLT, Nat.reduceLeDiff, Nat.reduceEqDiff, Nat.reduceAdd, Nat.reduceMul, Nat.reduceSub, Nat.reduceBEq, Int.reduceEq, Int.reduceLT, Int.reduceLE, Int.reduceToNat, reduceCtorEq, sx, fx18]
        exact ⟨_, _, true, rfl, by simp only [Tr.get_set, Nat.reduceEqDiff, reduceIte], fun _ => ⟨by omega, hall⟩⟩
      · simp only [dx, reduceIte, Nat.reduceLT, Nat.reduceLeDiff, Nat.reduceEqDiff, Nat.reduceAdd, Nat.reduceMul, Nat.reduceSub, Nat.reduceBEq, Int.reduceEq, Int.reduceLT, Int.reduceLE, Int.reduceToNat, reduceCtorEq, sx, fx18]
        exact ⟨_, _, false, rfl, hT, fun h => by cases h⟩
  obtain ⟨T1, σ1, b, h1, h2, h3⟩ := run
  exact ⟨b, fun σ => pureCall_of rfl (memo18 _) (pureRun_of fn18 rfl (by simp [Tryz.f18]) h1 (by simp) (res_one h2) rfl), h3⟩

end Go.Proofs.YtjckhhkhgjbpaaaGreatDoor


