import Derived.Test.YtjkfdiglokkceaaHR
open Nat renaming reduceLT → zLt, reduceLeDiff → zLe, reduceEqDiff → zEq, reduceAdd → zAd, reduceMul → zMu, reduceSub → zSu, reduceBEq → zBe
open Int renaming reduceEq → yEq, reduceLT → yLt, reduceLE → yLe, reduceToNat → yTn
/- Heaps: which heaps the laws look at. -/
set_option maxRecDepth 100000
set_option linter.unusedSimpArgs false
set_option linter.unusedVariables false
namespace Go.Proofs.Ytjkfdiglokkceaa
open Go Go.Proofs.Ytjkfdiglokkceaa.Pale
variable {k : Nat} {σ : AMem}

end Go.Proofs.Ytjkfdiglokkceaa

/- Heaps: the loop over the slots of a page of a heap in memory of its own. -/
set_option maxRecDepth 100000
set_option linter.unusedSimpArgs false
set_option linter.unusedVariables false
namespace Go.Proofs.Ytjkfdiglokkceaa
open Go Go.Proofs.Ytjkfdiglokkceaa.Pale
variable {k : Nat} {σ : AMem}

def pgPI (p : Pg) : List AVal × List AVal := ([.int .u8 p.kind, .int .i64 p.n], boolV p.used)
theorem pi_pv (l : List PV) : l.map pvPI = (pgsOf l).map pgPI := by
  unfold pgsOf
  rw [List.map_map]
  rfl
def pvOf (p : Pg) : PV := (p, .some)
theorem pgs_pvOf (ps : List Pg) : pgsOf (ps.map pvOf) = ps := by
  unfold pgsOf
  rw [List.map_map]
  exact (List.map_congr_left (fun _ _ => rfl)).trans (List.map_id _)
theorem pi_pvOf (ps : List Pg) : (ps.map pvOf).map pvPI = ps.map pgPI := by rw [pi_pv, pgs_pvOf]
theorem pg_two {its : List MItem} {ps : List Pg} (h : its.map MItem.pi = ps.map pgPI) : ∀ a, a ∈ its → a.pre.length = 2 := pi_two (l := ps.map pvOf) (by rw [pi_pvOf]; exact h)
theorem pg_len {its : List MItem} {ps : List Pg} (h : its.map MItem.pi = ps.map pgPI) : its.length = ps.length := by simpa using congrArg List.length h
theorem pg_item {its : List MItem} {ps : List Pg} (h : its.map MItem.pi = ps.map pgPI) {i : Nat} (hi : i < its.length) : its[i].pre = [.int .u8 (pgAt ps i).kind, .int .i64 (pgAt ps i).n] ∧ its[i].inn = boolV (pgAt ps i).used := by
  have hi2 : i < ps.length := by rw [← pg_len h]; exact hi
  have : (its.map MItem.pi)[i]'(by simpa using hi) = (ps.map pgPI)[i]'(by simpa using hi2) := by simp only [h]
  rw [List.getElem_map, List.getElem_map] at this
  rw [pgAt_lt hi2]
  exact ⟨congrArg (·.1) this, congrArg (·.2) this⟩
theorem pg_load {its : List MItem} {ps : List Pg} (h : its.map MItem.pi = ps.map pgPI) {i : Nat} (hi : i < its.length) : (((its.map MItem.cells).flatten).drop (i * 3)).take 3 = [.int .u8 (pgAt ps i).kind, .int .i64 (pgAt ps i).n, its[i].x] := by
  have hp2 := pg_two h
  have := flat_elem (sz := 3) (i := i) (more := []) (ls := its.map MItem.cells) (fun c hc => by
    obtain ⟨a, ha, rfl⟩ := List.mem_map.1 hc
    simp [MItem.cells, hp2 a ha]) (by simpa using hi)
  rw [List.append_nil] at this
  rw [this, List.getElem_map]
  simp only [MItem.cells, (pg_item h hi).1]
  rfl
theorem pg_get {its : List MItem} {ps : List Pg} (h : its.map MItem.pi = ps.map pgPI) {i j : Nat} (hi : i < its.length) (hj : j < 3) : ((its.map MItem.cells).flatten)[i * 3 + j]? = [.int .u8 (pgAt ps i).kind, .int .i64 (pgAt ps i).n, its[i].x][j]? := by
  rw [← pg_load h hi, List.getElem?_take, if_pos hj, List.getElem?_drop]
theorem OwnH.ext {low : Nat} {σ' : AMem} {sp pr wr : Nat} {pc wc : Option Nat} {its : List MItem} {ws : List Int} (h : OwnH low σ sp pr pc wr wc its ws) (hx : Ext σ σ') : OwnH low σ' sp pr pc wr wc its ws :=
  ⟨by rw [hx.2 sp h.nx.1]; exact h.ms, by rw [hx.2 pr h.nx.2.1]; exact h.mp, by rw [hx.2 wr h.nx.2.2]; exact h.mw, h.it.same (Nat.le_refl _) hx.1 (fun r hr => hx.2 r (h.it.bound r hr).2) h.it.2.2, h.ns, h.nw, h.ne, h.lo, ⟨Nat.lt_of_lt_of_le h.nx.1 hx.1, Nat.lt_of_lt_of_le h.nx.2.1 hx.1, Nat.lt_of_lt_of_le h.nx.2.2 hx.1⟩⟩
/-- The list of a page, where it is in a row. -/
theorem own_used {low sp pr wr : Nat} {pc wc : Option Nat} {its : List MItem} {ps : List Pg} {ws : List Int} (h : OwnH low σ sp pr pc wr wc its ws) (hpi : its.map MItem.pi = ps.map pgPI) (hox : ∀ a, a ∈ its → ownX a) {i : Nat} (hi : i < its.length) (hu : (pgAt ps i).used ≠ []) : ∃ r cap, its[i].x = .slice r 0 (pgAt ps i).used.length cap 1 ∧ low ≤ r ∧ r < σ.next ∧ σ.get r = some (.row 1 false (boolV (pgAt ps i).used)) := by
  obtain ⟨h1, h2⟩ := pg_item hpi hi
  have hl : its[i].inn.length = (pgAt ps i).used.length := by rw [h2, boolV_length]
  rcases hox its[i] (List.getElem_mem hi) with ⟨_, h3⟩ | ⟨r, cap, h3⟩
  · rw [h2] at h3
    exact absurd (by simpa [boolV] using h3) hu
  · obtain ⟨_, _, ⟨K, h4⟩ | ⟨r', cap', h4, h5, h6, h7⟩⟩ := h.it.1 its[i] (List.getElem_mem hi)
    · rw [h3] at h4; cases h4
    · rw [h3] at h4
      cases h4
      rw [h2] at h7
      exact ⟨r, cap, by rw [h3, hl], h5, h6, h7⟩
theorem oslots_make {low sp pr wr i : Nat} {pc wc : Option Nat} {its : List MItem} {ps : List Pg} {ws : List Int} (h : OwnH low σ sp pr pc wr wc its ws) (hpi : its.map MItem.pi = ps.map pgPI) (hi : i < its.length) : ∃ σ1, callN lawProg (k + 1) (.func 68 [] []) [.ptr sp 0, .int .i64 (i : Nat)] σ = some (.func 85 [] [.ptr σ.next 0, .ptr (σ.next + 1) 0, .ptr (σ.next + 2) 0], σ1) ∧ Ext σ σ1 ∧ σ1.next = σ.next + 3 ∧ σ1.get σ.next = some (.row 1 false [.ptr sp 0]) ∧ σ1.get (σ.next + 1) = some (.row 1 false [.int .i64 (i : Nat)]) ∧ σ1.get (σ.next + 2) = some (.row 1 false [.int .i64 (pgAt ps i).n]) := by
  have hget := pg_get (j := 1) hpi hi (by omega)
  simp only [List.getElem?_cons_succ, List.getElem?_cons_zero] at hget
  have ms := h.ms
  have mp := h.mp
  have hlt : ((i : Nat) : Int) < ((its.length : Nat) : Int) := by omega
  obtain ⟨n1, n2, _⟩ := h.nx
  have q1 : ¬ σ.next = sp := by omega
  have q2 : ¬ σ.next + 1 = sp := by omega
  have q3 : ¬ σ.next + 2 = sp := by omega
  have q4 : ¬ σ.next = pr := by omega
  have q5 : ¬ σ.next + 1 = pr := by omega
  have q6 : ¬ σ.next + 2 = pr := by omega
  have run : ∃ T1, execC lawProg (callN lawProg k) k 68 16 (bodyOf Try.f68) (initT 0 [.ptr sp 0, .int .i64 (i : Nat)] .nil) σ = some (.ret, T1, (((σ.push (.row 1 false [.ptr sp 0])).push (.row 1 false [.int .i64 (i : Nat)])).push (.row 1 false [.int .i64 0])).put (σ.next + 2) (.row 1 false [.int .i64 (pgAt ps i).n])) ∧ T1.get 4 = some (.func 85 [] [.ptr σ.next 0, .ptr (σ.next + 1) 0, .ptr (σ.next + 2) 0]) := by
    simp only [bodyOf, Try.f68, Option.getD_some, initT, dx, reduceIte, zLt, zLe, zEq, zAd, zMu, zSu, zBe, yEq, yLt, yLe, yTn, reduceCtorEq, sx, fx68, Nat.add_assoc, Nat.add_eq_left, Nat.left_eq_add, Nat.add_left_cancel_iff, ms, mp, q1, q2, q3, q4, q5, q6, hlt, Int.natCast_nonneg, Int.toNat_natCast, hget]
    exact ⟨_, rfl, by simp only [Tr.get_set, zEq, reduceIte]⟩
  obtain ⟨T1, h3, h4⟩ := run
  refine ⟨_, q_call (first := []) (caps := []) fn68 rfl (by simp [Try.f68]) h3 (by simp) (res_one h4), ((((Ext.push _ _).trans (Ext.push _ _)).trans (Ext.push _ _)).put _ _ (by omega)), by simp, ?_, ?_, ?_⟩
  · rw [AMem.get_put, if_neg (by omega), AMem.get_push, if_neg (by simp only [AMem.next_push]; omega), AMem.get_push, if_neg (by simp only [AMem.next_push]; omega), AMem.get_push, if_pos rfl]
  · rw [AMem.get_put, if_neg (by omega), AMem.get_push, if_neg (by simp only [AMem.next_push]; omega), AMem.get_push, if_pos (by simp)]
  · rw [AMem.get_put, if_pos rfl]
/-- The loop over the slots of a page: its body is called with each, until it says no. -/
theorem oslots_exec {low sp pr wr i r0 L : Nat} {pc wc : Option Nat} {its : List MItem} {ps : List Pg} {ws : List Int} (I D : Nat → AMem → Prop) (h : OwnH low σ sp pr pc wr wc its ws) (hpi : its.map MItem.pi = ps.map pgPI) (hox : ∀ a, a ∈ its → ownX a) (hi : i < its.length) (hi2 : its.length ≤ 1000) (hu : (pgAt ps i).used.length ≤ 1000) (hu0 : (pgAt ps i).used ≠ []) (hn : 0 ≤ (pgAt ps i).n ∧ (pgAt ps i).n ≤ 64) (hk : 1000 < k)
    (m0 : σ.get r0 = some (.row 1 false [.ptr sp 0]))
    (hI : ∀ s σ, I s σ → σ.get (r0 + 1) = some (.row 1 false [.int .i64 (i : Nat)]) ∧ σ.get (r0 + 2) = some (.row 1 false [.int .i64 (pgAt ps i).n]))
    (hstep : ∀ s σ, s < (pgAt ps i).used.length → I s σ → (∃ σ', callN lawProg k (.yield L) [.agg (blkC (slotB i (pgAt ps i) s))] σ = some (.bool true, σ') ∧ I (s + 1) σ') ∨ (∃ σ', callN lawProg k (.yield L) [.agg (blkC (slotB i (pgAt ps i) s))] σ = some (.bool false, σ') ∧ D s σ')) (h0 : I 0 σ) :
    ∃ σ', callN lawProg (k + 1) (.func 85 [] [.ptr r0 0, .ptr (r0 + 1) 0, .ptr (r0 + 2) 0]) [.yield L] σ = some (.tuple [], σ') ∧ (I (pgAt ps i).used.length σ' ∨ ∃ s, D s σ') := by
  have hget := pg_get (j := 2) hpi hi (by omega)
  simp only [List.getElem?_cons_succ, List.getElem?_cons_zero] at hget
  obtain ⟨m1, m2⟩ := hI 0 σ h0
  have ms := h.ms
  have mp := h.mp
  obtain ⟨ur, uc, hx, _, _, _⟩ := own_used h hpi hox hi hu0
  rw [hx] at hget
  have hilt : ((i : Nat) : Int) < ((its.length : Nat) : Int) := by omega
  clear h hox hpi
  generalize pgAt ps i = x at *
  obtain ⟨kd, n, us⟩ := x
  simp only at *
  have run : ∃ e T1 σ1, execC lawProg (callN lawProg k) k 85 33 (bodyOf Try.f85) (initT 0 [.yield L, .ptr r0 0, .ptr (r0 + 1) 0, .ptr (r0 + 2) 0] .nil) σ = some (e, T1, σ1) ∧ (e = .normal ∨ e = .ret) ∧ (I us.length σ1 ∨ ∃ s, D s σ1) := by
    simp only [bodyOf, Try.f85, Option.getD_some, initT, dx, reduceIte, zLt, zLe, zEq, zAd, zMu, zSu, zBe, yEq, yLt, yLe, yTn, reduceCtorEq, sx, fx85, m0, m1, m2, ms, mp, hilt, Int.natCast_nonneg, Int.toNat_natCast, hget]
    generalize hL : execC _ _ _ _ _ (Code.loop _) _ _ = q
    obtain ⟨e, T', σ', rfl, _, hc⟩ : ∃ e T' σ', q = some (e, T', σ') ∧ e ≠ .normal ∧ ((e = .ret ∧ ∃ s, D s σ') ∨ (e = .exit 0 ∧ I us.length σ')) := by
      rw [← hL]
      refine exec_loop2 (fun s T σ => s ≤ us.length ∧ T.get 0 = some (.yield L) ∧ T.get 2 = some (.ptr (r0 + 1) 0) ∧ T.get 3 = some (.ptr (r0 + 2) 0) ∧ T.get 15 = some (.int .i64 (us.length : Nat)) ∧ T.get 16 = some (.int .i64 (s : Nat)) ∧ I s σ) us.length (by omega) ?_ ?_ ?_
      · rintro s hs T σ ⟨_, t0, t2, t3, t15, t16, hi0⟩
        obtain ⟨m2, m3⟩ := hI s σ hi0
        have hlt : ((s : Nat) : Int) < ((us.length : Nat) : Int) := by omega
        have hw := i64_succ (i := s) (by omega)
        have hsn : (s : Int) * n ≤ 1000 * 64 ∧ 0 ≤ (s : Int) * n := by
          obtain ⟨m, rfl⟩ : ∃ m : Nat, n = (m : Int) := ⟨n.toNat, by omega⟩
          have h1 : s * m ≤ 1000 * 64 := Nat.mul_le_mul (by omega) (by omega)
          have h2 : ((s * m : Nat) : Int) = (s : Int) * (m : Int) := by simp
          omega
        have w1 : IntKind.i64.wrap (((i : Nat) : Int) * 64) = 64 * (i : Int) := by rw [i64_id (by omega) (by omega)]; omega
        have w2 : IntKind.i64.wrap (((s : Nat) : Int) * n) = (s : Int) * n := i64_id (by omega) (by omega)
        have w3 : IntKind.i64.wrap (64 * (i : Int) + (s : Int) * n) = 64 * (i : Int) + (s : Int) * n := i64_id (by omega) (by omega)
        rcases hstep s σ hs hi0 with ⟨σ', hy, h1⟩ | ⟨σ', hy, h1⟩
        · simp only [blkC, slotB] at hy
          refine .inl ⟨_, _, by
            simp only [dx, reduceIte, zLt, zLe, zEq, zAd, zMu, zSu, zBe, yEq, yLt, yLe, yTn, reduceCtorEq, sx, fx85, t0, t2, t3, t15, t16, m2, m3, hlt, w1, w2, w3, hy, hw]
            rfl, by omega, ?_, ?_, ?_, ?_, ?_, h1⟩
          · simp only [Tr.get_set, zEq, reduceIte, t0]
          · simp only [Tr.get_set, zEq, reduceIte, t2]
          · simp only [Tr.get_set, zEq, reduceIte, t3]
          · simp only [Tr.get_set, zEq, reduceIte, t15]
          · simp only [Tr.get_set, zEq, reduceIte]
        · simp only [blkC, slotB] at hy
          exact .inr ⟨_, _, _, by
            simp only [dx, reduceIte, zLt, zLe, zEq, zAd, zMu, zSu, zBe, yEq, yLt, yLe, yTn, reduceCtorEq, sx, fx85, t0, t2, t3, t15, t16, m2, m3, hlt, w1, w2, w3, hy]
            rfl, by simp, .inl ⟨rfl, s, h1⟩⟩
      · rintro T σ ⟨_, t0, t2, t3, t15, t16, hi0⟩
        have hge : ¬ (((us.length : Nat) : Int) < ((us.length : Nat) : Int)) := by omega
        exact ⟨_, _, _, by
          simp only [dx, reduceIte, zLt, zLe, zEq, zAd, zMu, zSu, zBe, yEq, yLt, yLe, yTn, reduceCtorEq, sx, fx85, t15, t16, hge]
          rfl, by simp, .inr ⟨rfl, hi0⟩⟩
      · refine ⟨Nat.zero_le _, ?_, ?_, ?_, ?_, ?_, h0⟩
        all_goals simp only [Tr.get_set, zEq, reduceIte] <;> rfl
    rcases hc with ⟨rfl, h1⟩ | ⟨rfl, h1⟩
    · simp only [dx, reduceIte, zLt, zLe, zEq, zAd, zMu, zSu, zBe, yEq, yLt, yLe, yTn, reduceCtorEq, sx, fx85]
      exact ⟨_, _, _, rfl, .inr rfl, .inr h1⟩
    · simp only [dx, reduceIte, zLt, zLe, zEq, zAd, zMu, zSu, zBe, yEq, yLt, yLe, yTn, reduceCtorEq, sx, fx85]
      exact ⟨_, _, _, rfl, .inl rfl, .inl h1⟩
  obtain ⟨e, T1, σ1, h2, h3, h4⟩ := run
  refine ⟨σ1, q_call (first := []) (vs := []) fn85 rfl (by simp [Try.f85]) h2 (fun i hc => ?_) rfl, h4⟩
  rcases h3 with rfl | rfl <;> cases hc
end Go.Proofs.Ytjkfdiglokkceaa

/- Heaps: the program's small: its inner loop. -/
set_option maxRecDepth 100000
set_option linter.unusedSimpArgs false
set_option linter.unusedVariables false
namespace Go.Proofs.Ytjkfdiglokkceaa
open Go Go.Proofs.Ytjkfdiglokkceaa.Pale
variable {k : Nat} {σ : AMem}

noncomputable def loopP (T0 : Tr AVal) : ALoop := rfLoop Try.f70 70 T0
noncomputable def loopPd (T0 : Tr AVal) : ALoop := { loopP T0 with state := .done, pending := some .ret }
theorem psmall_round {T0 : Tr AVal} {σi : AMem} {c q ur s i : Nat} {uc : Option Nat} {kd n : Int} {us : List Bool} (hT4 : T0.get 4 = some (.ptr c 0)) (hT5 : T0.get 5 = some (.ptr (c + 1) 0)) (hT7 : T0.get 7 = some (.ptr q 0)) (hs : s < us.length)
    (hq : σi.get q = some (.row 3 true [.int .u8 kd, .int .i64 n, .slice ur 0 us.length uc 1])) (hur : σi.get ur = some (.row 1 false (boolV us))) (hc : σi.get c = some (.row 4 true [.int .i64 0, .int .i64 0, .int .i64 0, .int .i64 0])) (hc1 : σi.get (c + 1) = some (.row 1 false [.bool false])) (lc : c + 1 < σi.next ∧ q < σi.next ∧ ur < σi.next)
    (fr : ∀ r, r < σi.next → σ.get r = σi.get r) (nx : σi.next + 1 ≤ σ.next) (ml : σ.get σi.next = some (.loop (loopP T0))) :
    (us[s]?.getD false = true ∧ ∃ σ', roundA lawProg (callN lawProg k) k σi.next [.agg (blkC (slotB i ⟨kd, n, us⟩ s))] σ = some (.bool true, σ') ∧ (∀ r, r < σi.next → σ'.get r = σi.get r) ∧ σi.next + 1 ≤ σ'.next ∧ σ'.get σi.next = some (.loop (loopP T0))) ∨
    (us[s]?.getD false = false ∧ ∃ σ', roundA lawProg (callN lawProg k) k σi.next [.agg (blkC (slotB i ⟨kd, n, us⟩ s))] σ = some (.bool false, σ') ∧ (∀ r, r < σi.next → r ≠ c → r ≠ c + 1 → σ'.get r = σi.get r) ∧ σi.next + 1 ≤ σ'.next ∧ σ'.get σi.next = some (.loop (loopPd T0)) ∧ σ'.get c = some (.row 4 true (blkC (slotB i ⟨kd, n, us⟩ s))) ∧ σ'.get (c + 1) = some (.row 1 false [.bool true])) := by
  obtain ⟨d, hd⟩ : ∃ d, d = σ.next := ⟨_, rfl⟩
  obtain ⟨e, he⟩ : ∃ e, e = σi.next := ⟨_, rfl⟩
  rw [← he] at lc fr nx ml ⊢
  obtain ⟨bl, hbl⟩ : ∃ b, b = slotB i ⟨kd, n, us⟩ s := ⟨_, rfl⟩
  have hslot : bl.slot = s := by rw [hbl]; rfl
  rw [← hbl]
  obtain ⟨B, hB⟩ : ∃ B, B = busyOf (loopP T0) := ⟨_, rfl⟩
  obtain ⟨σ1, hσ1⟩ : ∃ s, s = (σ.push (.row 4 true [.int .i64 0, .int .i64 0, .int .i64 0, .int .i64 0])).put σ.next (.row 4 true (blkC bl)) := ⟨_, rfl⟩
  have g1 : ∀ r, r < d → σ1.get r = σ.get r := fun r hr => by rw [hσ1, AMem.get_put, if_neg (by omega), AMem.get_push, if_neg (by omega)]
  have gd : σ1.get d = some (.row 4 true (blkC bl)) := by rw [hσ1, hd, AMem.get_put, if_pos rfl]
  have n1 : σ1.next = d + 1 := by rw [hσ1, hd]; simp
  have ha : ∃ T1, execC lawProg (callN lawProg k) k 70 43 (loopP T0).assign (setParams T0 (loopP T0).params [.agg (blkC bl)]) σ = some (.normal, T1, σ1) ∧ T1.get 4 = some (.ptr c 0) ∧ T1.get 5 = some (.ptr (c + 1) 0) ∧ T1.get 7 = some (.ptr q 0) ∧ T1.get 8 = some (.ptr d 0) := by
    rw [hσ1, hd]
    simp only [loopP, rfLoop, bodyOf, Try.f70, Option.getD_some, rfOf]
    simp only [dx, reduceIte, zLt, zLe, zEq, zAd, zMu, zSu, zBe, yEq, yLt, yLe, yTn, reduceCtorEq, sx, fx70, blkC]
    exact ⟨_, rfl, by simp only [Tr.get_set, zEq, reduceIte, hT4], by simp only [Tr.get_set, zEq, reduceIte, hT5], by simp only [Tr.get_set, zEq, reduceIte, hT7], by simp only [Tr.get_set, zEq, reduceIte]⟩
  obtain ⟨T1, ha, u4, u5, u7, u8⟩ := ha
  obtain ⟨σb, hσb⟩ : ∃ s, s = σ1.put e (.loop B) := ⟨_, rfl⟩
  have gb : ∀ r, r < e → σb.get r = σi.get r := fun r hr => by rw [hσb, AMem.get_put, if_neg (by omega), g1 r (by omega)]; exact fr r hr
  have gbd : σb.get d = some (.row 4 true (blkC bl)) := by rw [hσb, AMem.get_put, if_neg (by omega)]; exact gd
  have nb : σb.next = d + 1 := by rw [hσb]; simpa using n1
  have bq : σb.get q = some (.row 3 true [.int .u8 kd, .int .i64 n, .slice ur 0 us.length uc 1]) := by rw [gb q (by omega)]; exact hq
  have bur : σb.get ur = some (.row 1 false (boolV us)) := by rw [gb ur (by omega)]; exact hur
  have bc : σb.get c = some (.row 4 true [.int .i64 0, .int .i64 0, .int .i64 0, .int .i64 0]) := by rw [gb c (by omega)]; exact hc
  have bc1 : σb.get (c + 1) = some (.row 1 false [.bool false]) := by rw [gb (c + 1) (by omega)]; exact hc1
  have be : σb.get e = some (.loop B) := by rw [hσb, AMem.get_put, if_pos rfl]
  have hget := boolV_get hs
  have hsl : ((s : Nat) : Int) < ((us.length : Nat) : Int) := by omega
  have hum : us[s]?.getD false = us[s] := by rw [List.getElem?_eq_getElem hs]; rfl
  rw [hum]
  have hz1 : loopP T0 = { B with state := .ready, pending := none } := by rw [hB]; rfl
  have hz2 : loopPd T0 = { B with state := .done, pending := some .ret } := by rw [hB]; rfl
  simp only [blkC, hslot] at gbd ha ⊢
  have q1 : ¬ c = c + 1 := by omega
  have q2 : ¬ c + 1 = c := by omega
  cases hus : us[s] with
  | true =>
    rw [hus] at hget
    left
    refine ⟨rfl, ?_⟩
    have hb2 : ∃ T2, execC lawProg (callN lawProg k) k 70 43 (loopP T0).body T1 σb = some (.normal, T2, σb) := by
      simp only [loopP, rfLoop, bodyOf, Try.f70, Option.getD_some, rfOf]
      simp only [dx, reduceIte, zLt, zLe, zEq, zAd, zMu, zSu, zBe, yEq, yLt, yLe, yTn, reduceCtorEq, sx, fx70, u4, u5, u7, u8, bq, bur, gbd, hsl, boolV_length, Int.natCast_nonneg, Int.toNat_natCast, Nat.zero_add, Nat.mul_one, hget]
      exact ⟨_, rfl⟩
    obtain ⟨T2, hb2⟩ := hb2
    have key := round_body (A := lawProg) (call := callN lawProg k) (k := k) (σ := σ) (l := e) (r := loopP T0) (T1 := T1) (T2 := T2) (σ1 := σ1) ml rfl rfl rfl ha (by rw [g1 e (by omega)]; exact ml) (by rw [← hB, ← hσb]; exact hb2) (r2 := B) be
    rw [← hz1] at key
    exact ⟨_, key, fun r hr => by rw [AMem.get_put, if_neg (by omega)]; exact gb r hr, by simp only [AMem.next_put]; omega, by rw [AMem.get_put, if_pos rfl]⟩
  | false =>
    rw [hus] at hget
    right
    refine ⟨rfl, ?_⟩
    obtain ⟨σ2, hσ2⟩ : ∃ m, m = (σb.put c (.row 4 true [.int .i64 (bl.page : Nat), .int .i64 (s : Nat), .int .i64 bl.at_, .int .i64 bl.size])).put (c + 1) (.row 1 false [.bool true]) := ⟨_, rfl⟩
    have hb2 : ∃ T2, execC lawProg (callN lawProg k) k 70 43 (loopP T0).body T1 σb = some (.ret, T2, σ2) := by
      rw [hσ2]
      simp only [loopP, rfLoop, bodyOf, Try.f70, Option.getD_some, rfOf]
      simp only [dx, reduceIte, zLt, zLe, zEq, zAd, zMu, zSu, zBe, yEq, yLt, yLe, yTn, reduceCtorEq, sx, fx70, u4, u5, u7, u8, bq, bur, bc, bc1, q1, q2, gbd, hsl, boolV_length, Int.natCast_nonneg, Int.toNat_natCast, Nat.zero_add, Nat.mul_one, hget]
      exact ⟨_, rfl⟩
    obtain ⟨T2, hb2⟩ := hb2
    have g2 : ∀ r, r ≠ c → r ≠ c + 1 → σ2.get r = σb.get r := fun r h1 h2 => by rw [hσ2, AMem.get_put, if_neg (fun h => h2 h.symm), AMem.get_put, if_neg (fun h => h1 h.symm)]
    have key := round_ret (A := lawProg) (call := callN lawProg k) (k := k) (σ := σ) (l := e) (r := loopP T0) (T1 := T1) (T2 := T2) (σ1 := σ1) ml rfl rfl rfl ha (by rw [g1 e (by omega)]; exact ml) (by rw [← hB, ← hσb]; exact hb2) (r2 := B) (by rw [g2 e (by omega) (by omega)]; exact be)
    rw [← hz2] at key
    refine ⟨_, key, fun r hr h1 h2 => by rw [AMem.get_put, if_neg (by omega), g2 r h1 h2]; exact gb r hr, ?_, by rw [AMem.get_put, if_pos rfl], ?_, ?_⟩
    · rw [hσ2]; simp only [AMem.next_put]; omega
    · rw [AMem.get_put, if_neg (by omega), hσ2, AMem.get_put, if_neg (by omega), AMem.get_put, if_pos rfl]
    · rw [AMem.get_put, if_neg (by omega), hσ2, AMem.get_put, if_pos rfl]
theorem firstFree_none {p : Pg} : firstFree p = none ↔ ∀ t, t < p.used.length → p.used[t]?.getD false = true := by
  unfold firstFree
  rw [List.findIdx?_eq_none_iff]
  constructor
  · intro h t ht
    rw [List.getElem?_eq_getElem ht]
    simpa using h _ (List.getElem_mem ht)
  · intro h x hx
    obtain ⟨t, ht, rfl⟩ := List.mem_iff_getElem.1 hx
    have := h t ht
    rw [List.getElem?_eq_getElem ht] at this
    simpa using this
theorem firstFree_of {p : Pg} {s : Nat} (h : s < p.used.length) (h1 : ∀ t, t < s → p.used[t]?.getD false = true) (h2 : p.used[s]?.getD false = false) : firstFree p = some s := by
  cases hf : firstFree p with
  | none =>
    rw [firstFree_none.1 hf s h] at h2
    cases h2
  | some t =>
    obtain ⟨a, b, c⟩ := firstFree_some hf
    rcases Nat.lt_trichotomy s t with h3 | h3 | h3
    · rw [c s h3] at h2; cases h2
    · rw [h3]
    · rw [h1 t h3] at b; cases b
/-- The inner loop of small. -/
theorem psmall_range {T0 : Tr AVal} {low c q sp pr wr i : Nat} {pc wc : Option Nat} {its : List MItem} {ps : List Pg} {ws : List Int} (hT4 : T0.get 4 = some (.ptr c 0)) (hT5 : T0.get 5 = some (.ptr (c + 1) 0)) (hT7 : T0.get 7 = some (.ptr q 0)) (h : OwnH low σ sp pr pc wr wc its ws) (hpi : its.map MItem.pi = ps.map pgPI) (hox : ∀ a, a ∈ its → ownX a) (hi : i < its.length) (hi2 : its.length ≤ 1000) (hu : (pgAt ps i).used.length ≤ 1000) (hu0 : (pgAt ps i).used ≠ []) (hn : 0 ≤ (pgAt ps i).n ∧ (pgAt ps i).n ≤ 64) (hk : 1000 < k)
    (hT31 : T0.get 31 = some (.func 85 [] [.ptr (q + 1) 0, .ptr (q + 1 + 1) 0, .ptr (q + 1 + 2) 0])) (hnx : σ.next = q + 4) (hcq : c + 1 < q)
    (hq : σ.get q = some (.row 3 true [.int .u8 (pgAt ps i).kind, .int .i64 (pgAt ps i).n, its[i].x])) (hc : σ.get c = some (.row 4 true [.int .i64 0, .int .i64 0, .int .i64 0, .int .i64 0])) (hc1 : σ.get (c + 1) = some (.row 1 false [.bool false]))
    (m1 : σ.get (q + 1) = some (.row 1 false [.ptr sp 0])) (m2 : σ.get (q + 1 + 1) = some (.row 1 false [.int .i64 (i : Nat)])) (m3 : σ.get (q + 1 + 2) = some (.row 1 false [.int .i64 (pgAt ps i).n]))
    {X : Out} (hX : execC lawProg (callN lawProg (k + 2)) (k + 2) 70 43 (.rangeFunc (.tmp 31) #[32] (loopP T0).assign (loopP T0).body) T0 σ = X) :
    ∃ e σ', X = some (e, T0, σ') ∧ σ.next ≤ σ'.next ∧ (∀ r, r < σ.next → r ≠ c → r ≠ c + 1 → σ'.get r = σ.get r) ∧ ((e = .normal ∧ firstFree (pgAt ps i) = none ∧ σ'.get c = σ.get c ∧ σ'.get (c + 1) = σ.get (c + 1)) ∨ (∃ s, e = .ret ∧ firstFree (pgAt ps i) = some s ∧ σ'.get c = some (.row 4 true (blkC (slotB i (pgAt ps i) s))) ∧ σ'.get (c + 1) = some (.row 1 false [.bool true]))) := by
  rw [← hX]
  obtain ⟨ur, uc, hx, hlow, hur, hrow⟩ := own_used h hpi hox hi hu0
  rw [hx] at hq
  have hpush : ∀ r, r < σ.next → (σ.push (.loop (loopP T0))).get r = σ.get r := fun r hr => by rw [AMem.get_push, if_neg (by omega)]
  obtain ⟨σ', hcl, hres⟩ := oslots_exec (k := k + 1) (σ := σ.push (.loop (loopP T0))) (L := σ.next) (r0 := q + 1)
    (fun s σ' => (∀ r, r < σ.next → σ'.get r = σ.get r) ∧ σ.next + 1 ≤ σ'.next ∧ σ'.get σ.next = some (.loop (loopP T0)) ∧ ∀ t, t < s → (pgAt ps i).used[t]?.getD false = true)
    (fun s σ' => (∀ r, r < σ.next → r ≠ c → r ≠ c + 1 → σ'.get r = σ.get r) ∧ σ.next + 1 ≤ σ'.next ∧ σ'.get σ.next = some (.loop (loopPd T0)) ∧ firstFree (pgAt ps i) = some s ∧ σ'.get c = some (.row 4 true (blkC (slotB i (pgAt ps i) s))) ∧ σ'.get (c + 1) = some (.row 1 false [.bool true]))
    (h.ext (Ext.push _ _)) hpi hox hi hi2 hu hu0 hn (by omega) (by rw [hpush _ (by omega)]; exact m1) (fun s σ' hh => ⟨by rw [hh.1 _ (by omega)]; exact m2, by rw [hh.1 _ (by omega)]; exact m3⟩) (fun s σ' hs hh => by
      rcases psmall_round (k := k) (σ := σ') (σi := σ) (i := i) (kd := (pgAt ps i).kind) (n := (pgAt ps i).n) hT4 hT5 hT7 hs hq hrow hc hc1 ⟨by omega, by omega, by omega⟩ hh.1 hh.2.1 hh.2.2.1 with ⟨a, σ2, b1, b2, b3, b4⟩ | ⟨a, σ2, b1, b2, b3, b4, b5, b6⟩
      · exact .inl ⟨σ2, by simp only [callN]; exact b1, b2, b3, b4, fun t ht => by
          by_cases e : t = s
          · subst e; exact a
          · exact hh.2.2.2 t (by omega)⟩
      · exact .inr ⟨σ2, by simp only [callN]; exact b1, b2, b3, b4, firstFree_of hs hh.2.2.2 a, b5, b6⟩)
    ⟨hpush, by simp, by rw [AMem.get_push, if_pos rfl], fun t ht => by omega⟩
  rcases hres with ⟨f1, f2, f3, f4⟩ | ⟨s, f1, f2, f3, f4, f5, f6⟩
  · have key := q_range (A := lawProg) (call := callN lawProg (k + 2)) (k := k + 2) (f := 70) (N := 43) (T := T0) (σ := σ) (g := .tmp 31) (ps := #[32]) (a := (loopP T0).assign) (b := (loopP T0).body) (r := loopP T0) (v := .tuple []) (σ2 := σ') hT31 hcl f3 (by intro h; cases h) rfl
    exact ⟨_, _, key, by simp only [AMem.next_put]; omega, fun r hr _ _ => by rw [AMem.get_put, if_neg (by omega)]; exact f1 r hr, .inl ⟨rfl, firstFree_none.2 f4, by rw [AMem.get_put, if_neg (by omega)]; exact f1 c (by omega), by rw [AMem.get_put, if_neg (by omega)]; exact f1 (c + 1) (by omega)⟩⟩
  · have key := q_range_ret (A := lawProg) (call := callN lawProg (k + 2)) (k := k + 2) (f := 70) (N := 43) (T := T0) (σ := σ) (g := .tmp 31) (ps := #[32]) (a := (loopP T0).assign) (b := (loopP T0).body) (r := loopPd T0) (v := .tuple []) (σ2 := σ') (e := .ret) hT31 hcl f3 (by intro h; cases h) rfl
    exact ⟨_, _, key, by simp only [AMem.next_put]; omega, fun r hr h1 h2 => by rw [AMem.get_put, if_neg (by omega)]; exact f1 r hr h1 h2, .inr ⟨s, rfl, f4, by rw [AMem.get_put, if_neg (by omega)]; exact f5, by rw [AMem.get_put, if_neg (by omega)]; exact f6⟩⟩
end Go.Proofs.Ytjkfdiglokkceaa

/- Heaps: the program's small. -/
set_option maxRecDepth 100000
set_option linter.unusedSimpArgs false
set_option linter.unusedVariables false
namespace Go.Proofs.Ytjkfdiglokkceaa
open Go Go.Proofs.Ytjkfdiglokkceaa.Pale
variable {k : Nat} {σ : AMem}

theorem placeTo_more {ps : List Pg} {size : Int} {x : Nat × Nat} {i : Nat} (h : placeTo ps size i = some x) (hi : i ≤ ps.length) : placeL ps size = some x := by
  unfold placeL
  have key : ∀ d, placeTo ps size (i + d) = some x := by
    intro d
    induction d with
    | zero => exact h
    | succ d ih => rw [show i + (d + 1) = i + d + 1 by omega, placeTo, ih]
  have := key (ps.length - i)
  rwa [show i + (ps.length - i) = ps.length by omega] at this
def noBlk : Blk := ⟨0, 0, 0, 0⟩
def placeB (ps : List Pg) (size : Int) : Blk × Bool := match placeL ps size with
  | some (j, s) => (slotB j (pgAt ps j) s, true)
  | none => (noBlk, false)
theorem psmall_exec {low sp pr wr : Nat} {pc wc : Option Nat} {its : List MItem} {ps : List Pg} {ws : List Int} {size : Int} (h : OwnH low σ sp pr pc wr wc its ws) (hpi : its.map MItem.pi = ps.map pgPI) (hox : ∀ a, a ∈ its → ownX a) (hsh : Shape ps) (hl : ps.length ≤ 1000) (hk : 2000 ≤ k) :
    ∃ σ', callN lawProg (k + 3) (.func 70 [] []) [.ptr sp 0, .int .i64 size] σ = some (.tuple [.agg (blkC (placeB ps size).1), .bool (placeB ps size).2], σ') ∧ Ext σ σ' := by
  have hil := pg_len hpi
  have ms := h.ms
  have hlen := items_len (pg_two hpi)
  obtain ⟨c, hc⟩ : ∃ c, c = σ.next := ⟨_, rfl⟩
  obtain ⟨σ1, hσ1⟩ : ∃ s, s = (σ.push (.row 4 true [.int .i64 0, .int .i64 0, .int .i64 0, .int .i64 0])).push (.row 1 false [.bool false]) := ⟨_, rfl⟩
  have n1 : σ1.next = c + 2 := by rw [hσ1, hc]; simp
  have ex1 : Ext σ σ1 := by rw [hσ1]; exact (Ext.push _ _).trans (Ext.push _ _)
  have c0 : σ1.get c = some (.row 4 true [.int .i64 0, .int .i64 0, .int .i64 0, .int .i64 0]) := by rw [hσ1, hc, AMem.get_push, if_neg (by simp), AMem.get_push, if_pos rfl]
  have c1 : σ1.get (c + 1) = some (.row 1 false [.bool false]) := by rw [hσ1, hc, AMem.get_push, if_pos (by simp)]
  have ms1 : σ1.get sp = some (.row 2 true [.slice pr 0 its.length pc 3, .slice wr 0 ws.length wc 1]) := by rw [ex1.2 sp h.nx.1]; exact ms
  obtain ⟨nx1, nx2, nx3⟩ := h.nx
  have q1 : ¬ σ.next = sp := by omega
  have q2 : ¬ σ.next + 1 = sp := by omega
  have q3 : ¬ c = c + 1 := by omega
  have q4 : ¬ c + 1 = c := by omega
  have run : ∃ T1 σ', execC lawProg (callN lawProg (k + 2)) (k + 2) 70 43 (bodyOf Try.f70) (initT 0 [.ptr sp 0, .int .i64 size] .nil) σ = some (.ret, T1, σ') ∧ T1.get 4 = some (.ptr c 0) ∧ T1.get 5 = some (.ptr (c + 1) 0) ∧ σ'.get c = some (.row 4 true (blkC (placeB ps size).1)) ∧ σ'.get (c + 1) = some (.row 1 false [.bool (placeB ps size).2]) ∧ Ext σ σ' := by
    simp only [bodyOf, Try.f70, Option.getD_some, initT, dx, reduceIte, zLt, zLe, zEq, zAd, zMu, zSu, zBe, yEq, yLt, yLe, yTn, reduceCtorEq, sx, fx70, Nat.add_assoc, Nat.add_eq_left, Nat.left_eq_add, Nat.add_left_cancel_iff, ← hσ1, ← hc, q1, q2, ms]
    simp only [dx, reduceIte, zLt, zLe, zEq, zAd, zMu, zSu, zBe, yEq, yLt, yLe, yTn, reduceCtorEq, sx, fx70, ms1]
    generalize hL : execC _ _ _ _ _ (Code.loop _) _ _ = r
    obtain ⟨e, T', σ', rfl, _, hc⟩ : ∃ e T' σ', r = some (e, T', σ') ∧ e ≠ .normal ∧ ((e = .ret ∧ ∃ j s, placeL ps size = some (j, s) ∧ T'.get 4 = some (.ptr c 0) ∧ T'.get 5 = some (.ptr (c + 1) 0) ∧ σ'.get c = some (.row 4 true (blkC (slotB j (pgAt ps j) s))) ∧ σ'.get (c + 1) = some (.row 1 false [.bool true]) ∧ Ext σ σ') ∨ (e = .exit 0 ∧ placeL ps size = none ∧ T'.get 4 = some (.ptr c 0) ∧ T'.get 5 = some (.ptr (c + 1) 0) ∧ Ext σ1 σ')) := by
      rw [← hL]
      refine exec_loop2 (fun i T σ' => i ≤ ps.length ∧ T.get 0 = some (.ptr sp 0) ∧ T.get 1 = some (.int .i64 size) ∧ T.get 4 = some (.ptr c 0) ∧ T.get 5 = some (.ptr (c + 1) 0) ∧ T.get 13 = some (.slice pr 0 its.length pc 3) ∧ T.get 14 = some (.int .i64 (its.length : Nat)) ∧ T.get 15 = some (.int .i64 (i : Nat)) ∧ Ext σ1 σ' ∧ placeTo ps size i = none) ps.length (by omega) ?_ ?_ ?_
      · rintro i hi T σ0 ⟨_, t0, t1, t4, t5, t13, t14, t15, ex, hno⟩
        have hii : i < its.length := by omega
        have hlt : ((i : Nat) : Int) < ((its.length : Nat) : Int) := by omega
        have hw' := i64_succ (i := i) (by omega)
        have hload := pg_load hpi hii
        have ow0 := (h.ext ex1).ext ex
        have mp0 := ow0.mp
        have hin : i * 3 + 3 ≤ its.length * 3 := by omega
        have hone : its[i].x.oneCell = true := by
          rcases (h.it.1 its[i] (List.getElem_mem hii)).2.2 with ⟨_, e⟩ | ⟨_, _, e, _⟩ <;> rw [e] <;> rfl
        obtain ⟨q, hqd⟩ : ∃ q, q = σ0.next := ⟨_, rfl⟩
        obtain ⟨σ2, hσ2⟩ : ∃ m, m = (σ0.push (.row 3 true [.int .u8 0, .int .i64 0, .vs .nil []])).put σ0.next (.row 3 true [.int .u8 (pgAt ps i).kind, .int .i64 (pgAt ps i).n, its[i].x]) := ⟨_, rfl⟩
        have n2 : σ2.next = q + 1 := by rw [hσ2, hqd]; simp
        have ex2 : Ext σ0 σ2 := by rw [hσ2]; exact (Ext.push _ _).put _ _ (by omega)
        have gq : σ2.get q = some (.row 3 true [.int .u8 (pgAt ps i).kind, .int .i64 (pgAt ps i).n, its[i].x]) := by rw [hσ2, hqd, AMem.get_put, if_pos rfl]
        have hstep : ∀ x, placeTo ps size (i + 1) = x → (¬ ((pgAt ps i).kind = 1 ∧ (pgAt ps i).n = size) → x = none) := fun x hx hn => by
          rw [← hx, placeTo, hno, if_neg hn]
        by_cases k1 : (pgAt ps i).kind = 1
        · have hb1 : ((pgAt ps i).kind != 1) = false := by rw [k1]; rfl
          by_cases kn : (pgAt ps i).n = size
          · have hb2 : ((pgAt ps i).n != size) = false := by rw [kn]; exact bne_self_eq_false _
            have hsc := small_cases (hsh i hi) k1
            have hu0 : (pgAt ps i).used ≠ [] := fun e => by rw [e] at hsc; simp at hsc
            obtain ⟨σ3, e3, x3, n3, g3, g4, g5⟩ := oslots_make (k := k + 1) (σ := σ2) (ow0.ext ex2) hpi hii
            rw [n2] at e3 n3 g3 g4 g5
            have ex3 : Ext σ1 σ3 := ex.trans (ex2.trans x3)
            have hx1 := ex.1
            have k0 : σ3.get c = some (.row 4 true [.int .i64 0, .int .i64 0, .int .i64 0, .int .i64 0]) := by rw [ex3.2 c (by omega)]; exact c0
            have k2 : σ3.get (c + 1) = some (.row 1 false [.bool false]) := by rw [ex3.2 (c + 1) (by omega)]; exact c1
            have kq : σ3.get q = some (.row 3 true [.int .u8 (pgAt ps i).kind, .int .i64 (pgAt ps i).n, its[i].x]) := by rw [x3.2 q (by omega)]; exact gq
            simp only [dx, reduceIte, zLt, zLe, zEq, zAd, zMu, zSu, zBe, yEq, yLt, yLe, yTn, reduceCtorEq, sx, fx70, Nat.add_assoc, Nat.add_eq_left, Nat.left_eq_add, Nat.add_left_cancel_iff, t0, t1, t4, t5, t13, t14, t15, mp0, hlt, hlen, hin, hload, hone, Int.natCast_nonneg, Int.toNat_natCast, ← hσ2]
            simp only [dx, reduceIte, zLt, zLe, zEq, zAd, zMu, zSu, zBe, yEq, yLt, yLe, yTn, reduceCtorEq, sx, fx70, t0, t1, t4, t5, t13, t14, t15, ← hqd, gq, hb1, hb2, e3]
            generalize hR : execC _ _ _ _ _ (Code.rangeFunc _ _ _ _) _ _ = r
            have hrng := fun (T0 : Tr AVal) (X : Out) a b c' d (hX : _ = X) => psmall_range (T0 := T0) (c := c) (q := q) (k := k) (X := X) a b c' (((ow0.ext ex2).ext x3)) hpi hox hii (by omega) (by rcases hsc with ⟨_, h⟩ | ⟨_, h⟩ | ⟨_, h⟩ | ⟨_, h⟩ | ⟨_, h⟩ <;> omega) hu0 (by rcases hsc with ⟨h, _⟩ | ⟨h, _⟩ | ⟨h, _⟩ | ⟨h, _⟩ | ⟨h, _⟩ <;> omega) (by omega) d (by omega) (by omega) kq k0 k2 g3 g4 g5 hX
            obtain ⟨e, σ4, rfl, z1, z2, z3⟩ := hrng _ _ (by simp only [Tr.get_set, zEq, reduceIte, t4]) (by simp only [Tr.get_set, zEq, reduceIte, t5]) (by simp only [Tr.get_set, zEq, reduceIte]) (by simp only [Tr.get_set, zEq, reduceIte]) hR
            have ex4 : ∀ r, r < σ1.next → r ≠ c → r ≠ c + 1 → σ4.get r = σ1.get r := fun r h1 h2 h3 => by rw [z2 r (by omega) h2 h3]; exact ex3.2 r h1
            rcases z3 with ⟨rfl, f1, f2, f3⟩ | ⟨s, rfl, f1, f2, f3⟩
            · refine .inl ⟨_, _, by
                simp only [dx, reduceIte, zLt, zLe, zEq, zAd, zMu, zSu, zBe, yEq, yLt, yLe, yTn, reduceCtorEq, sx, fx70, t15, hw']
                rfl, by omega, ?_, ?_, ?_, ?_, ?_, ?_, ?_, ⟨by omega, fun r hr => ?_⟩, by rw [placeTo, hno, if_pos ⟨k1, kn⟩, f1]; rfl⟩
              · simp only [Tr.get_set, zEq, reduceIte, t0]
              · simp only [Tr.get_set, zEq, reduceIte, t1]
              · simp only [Tr.get_set, zEq, reduceIte, t4]
              · simp only [Tr.get_set, zEq, reduceIte, t5]
              · simp only [Tr.get_set, zEq, reduceIte, t13]
              · simp only [Tr.get_set, zEq, reduceIte, t14]
              · simp only [Tr.get_set, zEq, reduceIte]
              · by_cases e1 : r = c
                · rw [e1, f2]; exact ex3.2 c (by omega)
                · by_cases e2 : r = c + 1
                  · rw [e2, f3]; exact ex3.2 (c + 1) (by omega)
                  · exact ex4 r hr e1 e2
            · refine .inr ⟨_, _, _, by
                simp only [dx, reduceIte, zLt, zLe, zEq, zAd, zMu, zSu, zBe, yEq, yLt, yLe, yTn, reduceCtorEq, sx, fx70]
                rfl, by simp, .inl ⟨rfl, i, s, placeTo_more (i := i + 1) (by rw [placeTo, hno, if_pos ⟨k1, kn⟩, f1]; rfl) (by omega), ?_, ?_, f2, f3, ⟨by have := ex1.1; omega, fun r hr => by rw [ex4 r (by omega) (by omega) (by omega)]; exact ex1.2 r hr⟩⟩⟩
              · simp only [Tr.get_set, zEq, reduceIte, t4]
              · simp only [Tr.get_set, zEq, reduceIte, t5]
          · have hb2 : ((pgAt ps i).n != size) = true := by rw [bne_iff_ne]; exact kn
            refine .inl ⟨_, _, by
              simp only [dx, reduceIte, zLt, zLe, zEq, zAd, zMu, zSu, zBe, yEq, yLt, yLe, yTn, reduceCtorEq, sx, fx70, Nat.add_assoc, Nat.add_eq_left, Nat.left_eq_add, Nat.add_left_cancel_iff, t0, t1, t4, t5, t13, t14, t15, mp0, hlt, hlen, hin, hload, hone, Int.natCast_nonneg, Int.toNat_natCast, ← hσ2]
              simp only [dx, reduceIte, zLt, zLe, zEq, zAd, zMu, zSu, zBe, yEq, yLt, yLe, yTn, reduceCtorEq, sx, fx70, t0, t1, t4, t5, t13, t14, t15, ← hqd, gq, hb1, hb2, hw']
              rfl, by omega, ?_, ?_, ?_, ?_, ?_, ?_, ?_, ex.trans ex2, hstep _ rfl (fun h => kn h.2)⟩
            · simp only [Tr.get_set, zEq, reduceIte, t0]
            · simp only [Tr.get_set, zEq, reduceIte, t1]
            · simp only [Tr.get_set, zEq, reduceIte, t4]
            · simp only [Tr.get_set, zEq, reduceIte, t5]
            · simp only [Tr.get_set, zEq, reduceIte, t13]
            · simp only [Tr.get_set, zEq, reduceIte, t14]
            · simp only [Tr.get_set, zEq, reduceIte]
        · have hb1 : ((pgAt ps i).kind != 1) = true := by rw [bne_iff_ne]; exact k1
          refine .inl ⟨_, _, by
            simp only [dx, reduceIte, zLt, zLe, zEq, zAd, zMu, zSu, zBe, yEq, yLt, yLe, yTn, reduceCtorEq, sx, fx70, Nat.add_assoc, Nat.add_eq_left, Nat.left_eq_add, Nat.add_left_cancel_iff, t0, t1, t4, t5, t13, t14, t15, mp0, hlt, hlen, hin, hload, hone, Int.natCast_nonneg, Int.toNat_natCast, ← hσ2]
            simp only [dx, reduceIte, zLt, zLe, zEq, zAd, zMu, zSu, zBe, yEq, yLt, yLe, yTn, reduceCtorEq, sx, fx70, t0, t1, t4, t5, t13, t14, t15, ← hqd, gq, hb1, hw']
            rfl, by omega, ?_, ?_, ?_, ?_, ?_, ?_, ?_, ex.trans ex2, hstep _ rfl (fun h => k1 h.1)⟩
          · simp only [Tr.get_set, zEq, reduceIte, t0]
          · simp only [Tr.get_set, zEq, reduceIte, t1]
          · simp only [Tr.get_set, zEq, reduceIte, t4]
          · simp only [Tr.get_set, zEq, reduceIte, t5]
          · simp only [Tr.get_set, zEq, reduceIte, t13]
          · simp only [Tr.get_set, zEq, reduceIte, t14]
          · simp only [Tr.get_set, zEq, reduceIte]
      · rintro T σ0 ⟨_, t0, t1, t4, t5, t13, t14, t15, ex, hno⟩
        have hge : ¬ (((ps.length : Nat) : Int) < ((its.length : Nat) : Int)) := by omega
        refine ⟨_, _, _, by
          simp only [dx, reduceIte, zLt, zLe, zEq, zAd, zMu, zSu, zBe, yEq, yLt, yLe, yTn, reduceCtorEq, sx, fx70, t14, t15, hge]
          rfl, by simp, .inr ⟨rfl, hno, ?_, ?_, ex⟩⟩
        · simp only [Tr.get_set, zEq, reduceIte, t4]
        · simp only [Tr.get_set, zEq, reduceIte, t5]
      · refine ⟨Nat.zero_le _, ?_, ?_, ?_, ?_, ?_, ?_, ?_, Ext.refl _, rfl⟩
        all_goals simp only [Tr.get_set, zEq, reduceIte] <;> rfl
    rcases hc with ⟨rfl, j, s, h1, h2, h3, h4, h5, h6⟩ | ⟨rfl, h1, h2, h3, h4⟩
    · simp only [dx, reduceIte, zLt, zLe, zEq, zAd, zMu, zSu, zBe, yEq, yLt, yLe, yTn, reduceCtorEq, sx, fx70]
      unfold placeB
      rw [h1]
      exact ⟨_, _, rfl, h2, h3, h4, h5, h6⟩
    · have k0 : σ'.get c = some (.row 4 true [.int .i64 0, .int .i64 0, .int .i64 0, .int .i64 0]) := by rw [h4.2 c (by omega)]; exact c0
      have k2 : σ'.get (c + 1) = some (.row 1 false [.bool false]) := by rw [h4.2 (c + 1) (by omega)]; exact c1
      simp only [dx, reduceIte, zLt, zLe, zEq, zAd, zMu, zSu, zBe, yEq, yLt, yLe, yTn, reduceCtorEq, sx, fx70, h2, h3, k0, k2, q3, q4]
      unfold placeB
      rw [h1]
      refine ⟨_, _, rfl, by simp only [Tr.get_set, zEq, reduceIte, h2], by simp only [Tr.get_set, zEq, reduceIte, h3], ?_, ?_, ?_⟩
      · rw [AMem.get_put, if_neg (by omega), AMem.get_put, if_pos rfl]; rfl
      · rw [AMem.get_put, if_pos rfl]
      · have := (ex1.trans h4).put c (.row 4 true [.int .i64 0, .int .i64 0, .int .i64 0, .int .i64 0]) (by omega)
        exact this.put (c + 1) _ (by omega)
  obtain ⟨T1, σ', h1, h2, h3, h4, h5, h6⟩ := run
  refine ⟨σ', q_call (first := []) (caps := []) (vs := [.agg (blkC (placeB ps size).1), .bool (placeB ps size).2]) fn70 rfl (by simp [Try.f70]) h1 (by simp) ?_, h6⟩
  simp only [Try.f70, resultsA, resultA, dx, reduceIte, zLt, zLe, zEq, zAd, zMu, zSu, zBe, yEq, yLt, yLe, yTn, reduceCtorEq, sx, fx70, h2, h3, h4, h5, blkC]
end Go.Proofs.Ytjkfdiglokkceaa

/- Heaps: what a change of memory does to an own heap. -/
set_option maxRecDepth 100000
set_option linter.unusedSimpArgs false
set_option linter.unusedVariables false
namespace Go.Proofs.Ytjkfdiglokkceaa
open Go Go.Proofs.Ytjkfdiglokkceaa.Pale
variable {k : Nat} {σ : AMem}

theorem flat_set3 : ∀ (ls : List (List AVal)) (i : Nat) (hi : i < ls.length) (j : Nat) (hj : j < 3) (v : AVal), (∀ c, c ∈ ls → c.length = 3) → ls.flatten.set (i * 3 + j) v = (ls.set i (ls[i].set j v)).flatten := by
  intro ls
  induction ls with
  | nil => intro i hi; simp at hi
  | cons c ls ih =>
    intro i hi j hj v hl
    have hc := hl c (by simp)
    cases i with
    | zero =>
      simp only [List.flatten_cons, List.set_cons_zero, List.getElem_cons_zero]
      rw [List.set_append_left _ _ (by omega), Nat.zero_mul, Nat.zero_add]
    | succ i =>
      simp only [List.flatten_cons, List.set_cons_succ, List.getElem_cons_succ]
      rw [List.set_append_right _ _ (by omega), hc, show (i + 1) * 3 + j - 3 = i * 3 + j by omega, ih i (by simpa using hi) j hj v (fun b hb => hl b (by simp [hb]))]
theorem cells_three {its : List MItem} (hp : ∀ a, a ∈ its → a.pre.length = 2) : ∀ c, c ∈ its.map MItem.cells → c.length = 3 := by
  intro c hc
  obtain ⟨a, ha, rfl⟩ := List.mem_map.1 hc
  simp [MItem.cells, hp a ha]
theorem items_cell {its : List MItem} {i j : Nat} {v : AVal} (hi : i < its.length) (hj : j < 3) (hp : ∀ a, a ∈ its → a.pre.length = 2) {a : MItem} (ha : a.cells = its[i].cells.set j v) : ((its.map MItem.cells).flatten).set (i * 3 + j) v = ((its.set i a).map MItem.cells).flatten := by
  rw [flat_set3 _ i (by simpa using hi) j hj v (cells_three hp), List.map_set, List.getElem_map, ha]
theorem items_rec {its : List MItem} {i : Nat} {x y v : AVal} {inn : List AVal} (hi : i < its.length) (hp : ∀ a, a ∈ its → a.pre.length = 2) : ((((its.map MItem.cells).flatten).set (i * 3) x).set (i * 3 + 1) y).set (i * 3 + 1 + 1) v = ((its.set i ⟨[x, y], v, inn⟩).map MItem.cells).flatten := by
  have h3 := hp its[i] (List.getElem_mem hi)
  obtain ⟨p, q, hpq⟩ : ∃ p q, its[i].pre = [p, q] := by
    match h : its[i].pre, h3 with
    | [p, q], _ => exact ⟨p, q, rfl⟩
  have e1 := items_cell (its := its) (i := i) (j := 0) (v := x) (a := ⟨[x, q], its[i].x, inn⟩) hi (by omega) hp (by simp [MItem.cells, hpq])
  rw [Nat.add_zero] at e1
  rw [e1]
  have hp1 : ∀ a, a ∈ its.set i ⟨[x, q], its[i].x, inn⟩ → a.pre.length = 2 := fun a ha => by
    rcases List.mem_or_eq_of_mem_set ha with h | rfl
    · exact hp a h
    · rfl
  have hi1 : i < (its.set i ⟨[x, q], its[i].x, inn⟩).length := by simpa using hi
  rw [items_cell (its := its.set i ⟨[x, q], its[i].x, inn⟩) (i := i) (j := 1) (v := y) (a := ⟨[x, y], its[i].x, inn⟩) hi1 (by omega) hp1 (by simp [MItem.cells]), List.set_set]
  have hp2 : ∀ a, a ∈ its.set i ⟨[x, y], its[i].x, inn⟩ → a.pre.length = 2 := fun a ha => by
    rcases List.mem_or_eq_of_mem_set ha with h | rfl
    · exact hp a h
    · rfl
  have hi2 : i < (its.set i ⟨[x, y], its[i].x, inn⟩).length := by simpa using hi
  rw [show i * 3 + 1 + 1 = i * 3 + 2 by omega, items_cell (its := its.set i ⟨[x, y], its[i].x, inn⟩) (i := i) (j := 2) (v := v) (a := ⟨[x, y], v, inn⟩) hi2 (by omega) hp2 (by simp [MItem.cells]), List.set_set]
theorem OwnH.items {low : Nat} {σ1 : AMem} {sp pr wr : Nat} {pc wc : Option Nat} {its its' : List MItem} {ws : List Int} (h : OwnH low σ sp pr pc wr wc its ws) (hl : its'.length = its.length) (hit : Items low σ1 pr its') (h1 : σ1.get sp = σ.get sp) (h2 : σ1.get wr = σ.get wr) (h3 : σ1.get pr = some (.row 3 true (its'.map MItem.cells).flatten)) (hr : ∀ r, r ∈ rowsOf its' → r ∈ rowsOf its ∨ σ.next ≤ r) (hn : σ.next ≤ σ1.next) : OwnH low σ1 sp pr pc wr wc its' ws := by
  obtain ⟨a, b, c⟩ := h.nx
  refine ⟨by rw [h1, hl]; exact h.ms, h3, by rw [h2]; exact h.mw, hit, fun hm => ?_, fun hm => ?_, h.ne, h.lo, ⟨by omega, by omega, by omega⟩⟩
  · rcases hr _ hm with h5 | h5
    · exact h.ns h5
    · omega
  · rcases hr _ hm with h5 | h5
    · exact h.nw h5
    · omega
/-- A page is another one. -/
theorem OwnH.record {low : Nat} {σ1 : AMem} {sp pr wr i : Nat} {pc wc : Option Nat} {its : List MItem} {ws : List Int} {a : MItem} (h : OwnH low σ sp pr pc wr wc its ws) (hi : i < its.length) (hx : Ext σ σ1) (hlow : low ≤ σ.next) (hp : a.pre.all pureB = true) (hn : a.inn.all pureB = true) (hv : (a.x = .vs .nil [] ∧ a.inn = []) ∨ ∃ r cap, a.x = .slice r 0 a.inn.length cap 1 ∧ σ.next ≤ r ∧ r < σ1.next ∧ σ1.get r = some (.row 1 false a.inn)) :
    OwnH low (σ1.put pr (.row 3 true ((its.set i a).map MItem.cells).flatten)) sp pr pc wr wc (its.set i a) ws := by
  have hb := h.it.bound
  obtain ⟨x1, x2, x3⟩ := h.nx
  have hr : ∀ r, r ∈ rowOf a.x → σ.next ≤ r ∧ r < σ1.next := fun r hr => by
    rcases hv with ⟨e, _⟩ | ⟨r', cap, e, h1, h2, _⟩
    · rw [e] at hr; simp [rowOf] at hr
    · rw [e] at hr
      simp only [rowOf, List.mem_singleton] at hr
      omega
  have it1 : Items low σ1 pr its := h.it.same (Nat.le_refl _) hx.1 (fun r hr => hx.2 r (hb r hr).2) h.it.2.2
  have ha : a.okAt low σ1 := by
    refine ⟨hp, hn, ?_⟩
    rcases hv with ⟨e, h1⟩ | ⟨r, cap, e, h1, h2, h3⟩
    · exact .inl ⟨.nil, by rw [h1]; exact e⟩
    · exact .inr ⟨r, cap, e, by omega, h2, h3⟩
  have it2 : Items low σ1 pr (its.set i a) := it1.set hi ha fun r hr2 => by
    have := hr r hr2
    exact ⟨fun hm => by have := (hb r hm).2; omega, by omega⟩
  have hn1 := hx.1
  refine h.items (by simp) (it2.same (Nat.le_refl _) (by simp) (fun r hr2 => ?_) it2.2.2) ?_ ?_ (by rw [AMem.get_put, if_pos rfl]) (fun r hr2 => ?_) (by simp only [AMem.next_put]; omega)
  · rw [AMem.get_put, if_neg (fun e => it2.2.2 (by rw [e]; exact hr2))]
  · rw [AMem.get_put, if_neg (fun e => h.ne.1 e.symm), hx.2 sp x1]
  · rw [AMem.get_put, if_neg h.ne.2.2, hx.2 wr x3]
  · rcases rowsOf_set_mem hr2 with h1 | h1
    · exact .inl h1
    · exact .inr (hr r h1).1
/-- A page's plain fields are others. -/
theorem OwnH.plain {low : Nat} {sp pr wr i : Nat} {pc wc : Option Nat} {its : List MItem} {ws : List Int} {p : List AVal} (h : OwnH low σ sp pr pc wr wc its ws) (hi : i < its.length) (hp : p.all pureB = true) :
    OwnH low (σ.put pr (.row 3 true ((its.set i { its[i] with pre := p }).map MItem.cells).flatten)) sp pr pc wr wc (its.set i { its[i] with pre := p }) ws := by
  have hrow := rowsOf_set_same (l := its) (i := i) (a := { its[i] with pre := p }) hi rfl
  have hpn : pr ∉ rowsOf its := h.it.2.2
  refine h.items (by simp) ⟨fun a ha => ?_, by rw [hrow]; exact h.it.2.1, by rw [hrow]; exact hpn⟩ ?_ ?_ (by rw [AMem.get_put, if_pos rfl]) (fun r hr2 => .inl (by rw [hrow] at hr2; exact hr2)) (by simp)
  · have key : a.okAt low σ := by
      rcases List.mem_or_eq_of_mem_set ha with h1 | rfl
      · exact h.it.1 a h1
      · have := h.it.1 _ (List.getElem_mem hi)
        exact ⟨hp, this.2.1, this.2.2⟩
    refine key.same (Nat.le_refl _) (by simp) fun r hr => ?_
    rw [AMem.get_put, if_neg]
    intro e
    apply hpn
    rw [e, ← hrow]
    exact mem_rowsOf ha hr
  · rw [AMem.get_put, if_neg (fun e => h.ne.1 e.symm)]
  · rw [AMem.get_put, if_neg h.ne.2.2]
/-- A slot of a page is another one. -/
theorem OwnH.slot {low : Nat} {sp pr wr i j r : Nat} {pc wc cap : Option Nat} {its : List MItem} {ws : List Int} {v : AVal} (h : OwnH low σ sp pr pc wr wc its ws) (hi : i < its.length) (hx : its[i].x = .slice r 0 its[i].inn.length cap 1) (hv : pureB v = true) :
    OwnH low (σ.put r (.row 1 false (its[i].inn.set j v))) sp pr pc wr wc (its.set i { its[i] with inn := its[i].inn.set j v }) ws := by
  have hrow := rowsOf_set_same (l := its) (i := i) (a := { its[i] with inn := its[i].inn.set j v }) hi rfl
  have hm : r ∈ rowsOf its := mem_rowsOf (List.getElem_mem hi) (by rw [hx]; simp [rowOf])
  have hne : ∀ q, q ∉ rowsOf its → ¬ r = q := fun q hq e => hq (by rw [← e]; exact hm)
  refine h.items (by simp) (h.it.poke hi hx hv) ?_ ?_ ?_ (fun q hq => .inl (by rw [hrow] at hq; exact hq)) (by simp)
  · rw [AMem.get_put, if_neg (hne sp h.ns)]
  · rw [AMem.get_put, if_neg (hne wr h.nw)]
  · rw [AMem.get_put, if_neg (hne pr h.it.2.2), h.mp]
    congr 2
    rw [List.map_set, show ({ its[i] with inn := its[i].inn.set j v } : MItem).cells = (its.map MItem.cells)[i]'(by simpa using hi) by rw [List.getElem_map]; rfl, List.set_getElem_self]
/-- The words are others. -/
theorem OwnH.wordsTo {low : Nat} {sp pr wr : Nat} {pc wc : Option Nat} {its : List MItem} {ws vs : List Int} (h : OwnH low σ sp pr pc wr wc its ws) (hl : vs.length = ws.length) :
    OwnH low (σ.put wr (.row 1 false (intV vs))) sp pr pc wr wc its vs := by
  refine ⟨by rw [AMem.get_put, if_neg (fun e => h.ne.2.1 e.symm), hl]; exact h.ms, by rw [AMem.get_put, if_neg (fun e => h.ne.2.2 e.symm)]; exact h.mp, by rw [AMem.get_put, if_pos rfl], h.it.same (Nat.le_refl _) (by simp) (fun r hr => ?_) h.it.2.2, h.ns, h.nw, h.ne, h.lo, by simpa using h.nx⟩
  rw [AMem.get_put, if_neg (fun e => h.nw (by rw [e]; exact hr))]
/-- A heap in memory of its own, with its pages. -/
structure HeapM (low : Nat) (σ : AMem) (sp pr : Nat) (pc : Option Nat) (wr : Nat) (wc : Option Nat) (its : List MItem) (ps : List Pg) (ws : List Int) : Prop where
  own : OwnH low σ sp pr pc wr wc its ws
  pi : its.map MItem.pi = ps.map pgPI
  ox : ∀ a, a ∈ its → ownX a
theorem HeapM.ext {low : Nat} {σ' : AMem} {sp pr wr : Nat} {pc wc : Option Nat} {its : List MItem} {ps : List Pg} {ws : List Int} (h : HeapM low σ sp pr pc wr wc its ps ws) (hx : Ext σ σ') : HeapM low σ' sp pr pc wr wc its ps ws := ⟨h.own.ext hx, h.pi, h.ox⟩
theorem pi_at {its : List MItem} {ps : List Pg} {i : Nat} {a : MItem} {p : Pg} (h : its.map MItem.pi = ps.map pgPI) (ha : MItem.pi a = pgPI p) : (its.set i a).map MItem.pi = (ps.set i p).map pgPI := by
  rw [List.map_set, List.map_set, h, ha]
theorem ox_at {its : List MItem} {i : Nat} {a : MItem} (h : ∀ a, a ∈ its → ownX a) (ha : ownX a) : ∀ b, b ∈ its.set i a → ownX b := fun b hb => by
  rcases List.mem_or_eq_of_mem_set hb with h1 | rfl
  · exact h b h1
  · exact ha
/-- Page i is p: its list nil or new. -/
theorem HeapM.record {low : Nat} {σ1 : AMem} {sp pr wr i : Nat} {pc wc : Option Nat} {its : List MItem} {ps : List Pg} {ws : List Int} (h : HeapM low σ sp pr pc wr wc its ps ws) (hi : i < ps.length) (hx : Ext σ σ1) (hlow : low ≤ σ.next) (p : Pg) (x : AVal) (hv : (x = .vs .nil [] ∧ p.used = []) ∨ ∃ r cap, x = .slice r 0 p.used.length cap 1 ∧ σ.next ≤ r ∧ r < σ1.next ∧ σ1.get r = some (.row 1 false (boolV p.used))) :
    HeapM low (σ1.put pr (.row 3 true (((((its.map MItem.cells).flatten).set (i * 3) (.int .u8 p.kind)).set (i * 3 + 1) (.int .i64 p.n)).set (i * 3 + 1 + 1) x))) sp pr pc wr wc (its.set i ⟨[.int .u8 p.kind, .int .i64 p.n], x, boolV p.used⟩) (ps.set i p) ws := by
  have hil := pg_len h.pi
  rw [items_rec (inn := boolV p.used) (by omega) (pg_two h.pi)]
  have hv2 : (x = .vs .nil [] ∧ boolV p.used = []) ∨ ∃ r cap, x = .slice r 0 (boolV p.used).length cap 1 ∧ σ.next ≤ r ∧ r < σ1.next ∧ σ1.get r = some (.row 1 false (boolV p.used)) := by
    rcases hv with ⟨h1, h2⟩ | ⟨r, cap, h1, h2⟩
    · exact .inl ⟨h1, by rw [h2]; rfl⟩
    · exact .inr ⟨r, cap, by rw [boolV_length]; exact h1, h2⟩
  refine ⟨h.own.record (a := ⟨[.int .u8 p.kind, .int .i64 p.n], x, boolV p.used⟩) (by omega) hx hlow rfl (boolV_pure _) hv2, pi_at h.pi rfl, ox_at h.ox ?_⟩
  rcases hv2 with h1 | ⟨r, cap, h1, _⟩
  · exact .inl h1
  · exact .inr ⟨r, cap, h1⟩
/-- Page i has another kind. -/
theorem HeapM.kind {low : Nat} {sp pr wr i : Nat} {pc wc : Option Nat} {its : List MItem} {ps : List Pg} {ws : List Int} (h : HeapM low σ sp pr pc wr wc its ps ws) (hi : i < ps.length) (kd : Int) :
    ∃ its', HeapM low (σ.put pr (.row 3 true (((its.map MItem.cells).flatten).set (i * 3) (.int .u8 kd)))) sp pr pc wr wc its' (ps.set i { pgAt ps i with kind := kd }) ws ∧ its'.length = its.length ∧ rowsOf its' = rowsOf its := by
  have hil := pg_len h.pi
  have hi2 : i < its.length := by omega
  obtain ⟨h1, h2⟩ := pg_item h.pi hi2
  have e := items_cell (its := its) (i := i) (j := 0) (v := .int .u8 kd) (a := { its[i] with pre := [.int .u8 kd, .int .i64 (pgAt ps i).n] }) hi2 (by omega) (pg_two h.pi) (by simp [MItem.cells, h1])
  rw [Nat.add_zero] at e
  rw [e]
  exact ⟨_, ⟨h.own.plain hi2 rfl, pi_at h.pi (by unfold MItem.pi pgPI; rw [← h2]), ox_at h.ox (h.ox its[i] (List.getElem_mem hi2))⟩, by simp, rowsOf_set_same hi2 rfl⟩
theorem boolV_set (l : List Bool) (j : Nat) (b : Bool) : (boolV l).set j (.bool b) = boolV (l.set j b) := by
  unfold boolV
  rw [List.map_set]
/-- A slot of page i is another one. -/
theorem HeapM.slot {low : Nat} {sp pr wr i j r : Nat} {pc wc cap : Option Nat} {its : List MItem} {ps : List Pg} {ws : List Int} (h : HeapM low σ sp pr pc wr wc its ps ws) (hi : i < its.length) (hx : its[i].x = .slice r 0 (pgAt ps i).used.length cap 1) (b : Bool) :
    ∃ its', HeapM low (σ.put r (.row 1 false ((boolV (pgAt ps i).used).set j (.bool b)))) sp pr pc wr wc its' (ps.set i (useAt (pgAt ps i) j b)) ws ∧ its'.map MItem.cells = its.map MItem.cells := by
  obtain ⟨h1, h2⟩ := pg_item h.pi hi
  have hx2 : its[i].x = .slice r 0 its[i].inn.length cap 1 := by rw [hx, h2, boolV_length]
  have key := h.own.slot (j := j) (v := .bool b) hi hx2 rfl
  rw [h2] at key
  refine ⟨_, ⟨key, pi_at h.pi ?_, ox_at h.ox (.inr ⟨r, cap, ?_⟩)⟩, ?_⟩
  · unfold MItem.pi pgPI useAt
    simp only [h1, boolV_set]
  · simp only [List.length_set, boolV_length]
    exact hx
  · rw [List.map_set, show ({ its[i] with inn := (boolV (pgAt ps i).used).set j (.bool b) } : MItem).cells = (its.map MItem.cells)[i]'(by simpa using hi) by rw [List.getElem_map]; rfl, List.set_getElem_self]
/-- What is between two memories, where one side owns some rows. -/
structure Fr (σ : AMem) (O : List Nat) (σ' : AMem) (O' : List Nat) : Prop where
  nx : σ.next ≤ σ'.next
  get : ∀ r, r < σ.next → r ∉ O → σ'.get r = σ.get r
  sub : ∀ r, r ∈ O' → r ∈ O ∨ σ.next ≤ r
theorem Fr.refl (σ : AMem) (O : List Nat) : Fr σ O σ O := ⟨Nat.le_refl _, fun _ _ _ => rfl, fun _ h => .inl h⟩
theorem Fr.trans {σ σ1 σ2 : AMem} {O O1 O2 : List Nat} (h : Fr σ O σ1 O1) (h2 : Fr σ1 O1 σ2 O2) : Fr σ O σ2 O2 := by
  refine ⟨Nat.le_trans h.nx h2.nx, fun r hr hn => ?_, fun r hr => ?_⟩
  · rw [h2.get r (Nat.lt_of_lt_of_le hr h.nx) (fun hm => ?_), h.get r hr hn]
    rcases h.sub r hm with h3 | h3
    · exact hn h3
    · omega
  · rcases h2.sub r hr with h3 | h3
    · exact h.sub r h3
    · have := h.nx
      exact .inr (by omega)
theorem Fr.ext {σ σ1 : AMem} {O : List Nat} (h : Ext σ σ1) : Fr σ O σ1 O := ⟨h.1, fun r hr _ => h.2 r hr, fun _ h => .inl h⟩
/-- A change of a row that is new. -/
theorem Fr.put {σ σ1 : AMem} {O O1 : List Nat} (h : Fr σ O σ1 O1) {q : Nat} (o : AObj) (hq : σ.next ≤ q) : Fr σ O (σ1.put q o) O1 :=
  ⟨h.nx, fun r hr hn => by rw [AMem.get_put, if_neg (by omega)]; exact h.get r hr hn, h.sub⟩
theorem Fr.own {σ σ1 : AMem} {O O1 : List Nat} (h : Fr σ O σ1 O1) {q : Nat} (o : AObj) (hq : q ∈ O1) : Fr σ O (σ1.put q o) O1 :=
  ⟨h.nx, fun r hr hn => by
    rw [AMem.get_put, if_neg (fun e => ?_)]
    · exact h.get r hr hn
    · rcases h.sub q hq with h1 | h1
      · exact hn (by rw [← e]; exact h1)
      · omega, h.sub⟩
theorem Fr.into {σ σ1 : AMem} {O O1 O2 : List Nat} (h : Fr σ O σ1 O1) (hs : ∀ r, r ∈ O2 → r ∈ O1 ∨ σ.next ≤ r) : Fr σ O σ1 O2 := ⟨h.nx, h.get, fun r hr => by
  rcases hs r hr with h1 | h1
  · exact h.sub r h1
  · exact .inr h1⟩
/-- The rows of a heap. -/
def hrows (sp pr wr : Nat) (its : List MItem) : List Nat := sp :: pr :: wr :: rowsOf its
theorem Fr.rows {σ σ1 : AMem} {O : List Nat} {sp pr wr : Nat} {its its' : List MItem} (h : Fr σ O σ1 (hrows sp pr wr its)) (e : rowsOf its' = rowsOf its) : Fr σ O σ1 (hrows sp pr wr its') := by
  unfold hrows at h ⊢
  rw [e]
  exact h
theorem Fr.set {σ σ1 : AMem} {O : List Nat} {sp pr wr i : Nat} {its : List MItem} {a : MItem} (h : Fr σ O σ1 (hrows sp pr wr its)) (ha : ∀ r, r ∈ rowOf a.x → σ.next ≤ r) (o : AObj) : Fr σ O (σ1.put pr o) (hrows sp pr wr (its.set i a)) := by
  refine (h.own o (q := pr) (by simp [hrows])).into fun r hr => ?_
  simp only [hrows, List.mem_cons] at hr ⊢
  rcases hr with h1 | h1 | h1 | h1
  · exact .inl (.inl h1)
  · exact .inl (.inr (.inl h1))
  · exact .inl (.inr (.inr (.inl h1)))
  · rcases rowsOf_set_mem h1 with h2 | h2
    · exact .inl (.inr (.inr (.inr h2)))
    · exact .inr (ha r h2)
theorem rows_cells {its its' : List MItem} (h : its'.map MItem.cells = its.map MItem.cells) : rowsOf its' = rowsOf its := by
  have hl : its'.length = its.length := by simpa using congrArg List.length h
  have hxs : its'.map (fun a => a.x) = its.map (fun a => a.x) := by
    apply List.ext_getElem (by simpa using hl)
    intro t h1 h2
    simp only [List.getElem_map]
    have := congrArg (fun l => l[t]?) h
    simp only [List.getElem?_map] at this
    rw [List.getElem?_eq_getElem (by simpa using h1), List.getElem?_eq_getElem (by simpa using h2)] at this
    simp only [Option.map_some, Option.some.injEq] at this
    unfold MItem.cells at this
    have := congrArg List.getLast? this
    simpa using this
  unfold rowsOf
  rw [← List.flatMap_map (fun a : MItem => a.x) rowOf, ← List.flatMap_map (fun a : MItem => a.x) rowOf, hxs]
end Go.Proofs.Ytjkfdiglokkceaa

/- Heaps: the program's alloc, for large blocks. -/
set_option maxRecDepth 100000
set_option linter.unusedSimpArgs false
set_option linter.unusedVariables false
namespace Go.Proofs.Ytjkfdiglokkceaa
open Go Go.Proofs.Ytjkfdiglokkceaa.Pale
variable {k : Nat} {σ : AMem}

def kindsTo (ps : List Pg) (f : Nat) : Nat → List Pg
  | 0 => ps
  | j + 1 => (kindsTo ps f j).set (f + j) { pgAt (kindsTo ps f j) (f + j) with kind := 3 }
theorem kindsTo_len (ps : List Pg) (f : Nat) : ∀ j, (kindsTo ps f j).length = ps.length := by
  intro j
  induction j with
  | zero => rfl
  | succ j ih => rw [kindsTo, List.length_set, ih]
theorem kindsTo_at {ps : List Pg} {f : Nat} : ∀ {j : Nat}, f + j ≤ ps.length → ∀ i, pgAt (kindsTo ps f j) i = if f ≤ i ∧ i < f + j then { pgAt ps i with kind := 3 } else pgAt ps i := by
  intro j
  induction j with
  | zero => intro _ i; rw [kindsTo, if_neg (by omega)]
  | succ j ih =>
    intro h i
    rw [kindsTo, pgAt_set (by rw [kindsTo_len]; omega)]
    by_cases e : i = f + j
    · subst e
      rw [if_pos rfl, if_pos (by omega), ih (by omega), if_neg (by omega)]
    · rw [if_neg e, ih (by omega)]
      by_cases e2 : f ≤ i ∧ i < f + j
      · rw [if_pos e2, if_pos (by omega)]
      · rw [if_neg e2, if_neg (by omega)]
theorem free_pg {ps : List Pg} (h : Shape ps) {i : Nat} (hi : i < ps.length) (hk : (pgAt ps i).kind = 0) : pgAt ps i = noPg := by
  obtain ⟨_, k2⟩ := shape_kind (h i hi)
  rcases k2 with ⟨a, b, c⟩ | ⟨e, _⟩ | ⟨e, _⟩ | ⟨e, _⟩
  · cases hp : pgAt ps i with
    | mk x y z => rw [hp] at a b c; simp only at a b c; subst a; subst b; subst c; rfl
  all_goals omega
theorem kinds_done {ps : List Pg} {f many : Nat} (h : Shape ps) (hr : runL ps many = some f) (hm : 1 ≤ many) : (kindsTo ps f many).set f ⟨2, (many : Nat), []⟩ = setRun ps f many (bigG many) := by
  obtain ⟨h1, h2⟩ := runL_some hr
  apply pages_ext
  · rw [List.length_set, kindsTo_len, setRun_length h1]
  · intro i hi
    rw [pgAt_set (by rw [kindsTo_len]; omega), pgAt_setRun h1]
    unfold bigG
    by_cases e : i = f
    · subst e
      rw [if_pos rfl, if_pos (by omega), if_pos (by omega)]
    · rw [if_neg e, kindsTo_at h1]
      by_cases e2 : f ≤ i ∧ i < f + many
      · rw [if_pos e2, if_pos e2, if_neg (by omega), free_pg h (by omega) (h2 i e2.1 e2.2)]
        rfl
      · rw [if_neg e2, if_neg e2]
theorem palloc_big {low sp pr wr : Nat} {pc wc : Option Nat} {its : List MItem} {ps : List Pg} {ws : List Int} {n : Nat} (h : HeapM low σ sp pr pc wr wc its ps ws) (hsh : Shape ps) (hl : ps.length ≤ 40) (h1 : 32 < n) (h2 : n ≤ 2560) (hk : 4000 ≤ k) :
    ∃ σ', (∀ r, r < low → σ'.get r = σ.get r) ∧ σ.next ≤ σ'.next ∧
    ((runL ps ((n + 63) / 64) = none ∧ callN lawProg (k + 1) (.func 53 [] []) [.ptr sp 0, .int .i64 (n : Nat)] σ = some (.tuple [.int .i64 0, .int .i64 8], σ') ∧ HeapM low σ' sp pr pc wr wc its ps ws ∧ Fr σ (hrows sp pr wr its) σ' (hrows sp pr wr its)) ∨
    (∃ f its', runL ps ((n + 63) / 64) = some f ∧ callN lawProg (k + 1) (.func 53 [] []) [.ptr sp 0, .int .i64 (n : Nat)] σ = some (.tuple [.int .i64 ((64 * f : Nat) : Int), .int .i64 0], σ') ∧ HeapM low σ' sp pr pc wr wc its' (setRun ps f ((n + 63) / 64) (bigG ((n + 63) / 64))) ws ∧ Fr σ (hrows sp pr wr its) σ' (hrows sp pr wr its'))) := by
  have hil := pg_len h.pi
  have hwi := fun (σ : AMem) => within_call (k := k) (σ := σ) 1 2560 ((n : Nat) : Int) (by omega)
  rw [decide_eq_true (by omega)] at hwi
  obtain ⟨many, hmany⟩ : ∃ m, m = (n + 63) / 64 := ⟨_, rfl⟩
  rw [← hmany]
  have hm1 : 1 ≤ many := by omega
  have hm2 : many ≤ 40 := by omega
  have w1 : IntKind.i64.wrap (((n : Nat) : Int) + 64) = ((n + 64 : Nat) : Int) := by rw [i64_id (by omega) (by omega)]; omega
  have w2 : IntKind.i64.wrap (((n + 64 : Nat) : Int) - 1) = ((n + 63 : Nat) : Int) := by rw [i64_id (by omega) (by omega)]; omega
  have w3 : IntKind.i64.wrap ((((n + 63 : Nat) : Int)).tdiv 64) = ((many : Nat) : Int) := by
    have : (((n + 63 : Nat) : Int)).tdiv 64 = (((n + 63) / 64 : Nat) : Int) := rfl
    rw [this, ← hmany]
    exact i64_id (by omega) (by omega)
  have hgt : (((n : Nat) : Int) > 32) := by omega
  obtain ⟨σr, hrun, exr⟩ := run_exec (k := k - 1) (many := many) (l := ps.map pvOf) h.own (by rw [pi_pvOf]; exact h.pi) (by rw [List.length_map]; omega) (by omega) (by omega)
  rw [pgs_pvOf, show k - 1 + 1 = k by omega] at hrun
  have h64 : ¬ (64 : Int) = 0 := by omega
  cases hr : runL ps many with
  | none =>
    rw [hr] at hrun
    simp only [Option.getD_none, Option.isSome_none] at hrun
    refine ⟨σr, fun r hr => exr.2 r (by have := h.own.lo; have := h.own.nx; omega), exr.1, .inl ⟨rfl, ?_, h.ext exr, Fr.ext exr⟩⟩
    have run : ∃ T1, execC lawProg (callN lawProg k) k 53 107 (bodyOf Try.f53) (initT 0 [.ptr sp 0, .int .i64 (n : Nat)] .nil) σ = some (.ret, T1, σr) ∧ T1.get 4 = some (.int .i64 0) ∧ T1.get 5 = some (.int .i64 8) := by
      simp only [bodyOf, Try.f53, Option.getD_some, initT, dx, reduceIte, zLt, zLe, zEq, zAd, zMu, zSu, zBe, yEq, yLt, yLe, yTn, reduceCtorEq, sx, fx53, hwi, hgt, w1, w2, w3, h64, hrun]
      exact ⟨_, rfl, by simp only [Tr.get_set, zEq, reduceIte], by simp only [Tr.get_set, zEq, reduceIte]⟩
    obtain ⟨T1, r1, r2, r3⟩ := run
    exact q_call (first := []) (caps := []) fn53 rfl (by simp [Try.f53]) r1 (by simp) (res_two r2 r3)
  | some f =>
    rw [hr] at hrun
    simp only [Option.getD_some, Option.isSome_some] at hrun
    obtain ⟨hf1, hf2⟩ := runL_some hr
    have hr1 := h.ext exr
    obtain ⟨x1, x2, x3⟩ := h.own.lo
    obtain ⟨y1, y2, y3⟩ := h.own.nx
    have run : ∃ T1 σ' its', execC lawProg (callN lawProg k) k 53 107 (bodyOf Try.f53) (initT 0 [.ptr sp 0, .int .i64 (n : Nat)] .nil) σ = some (.ret, T1, σ') ∧ T1.get 4 = some (.int .i64 ((64 * f : Nat) : Int)) ∧ T1.get 5 = some (.int .i64 0) ∧ HeapM low σ' sp pr pc wr wc its' (setRun ps f many (bigG many)) ws ∧ Fr σ (hrows sp pr wr its) σ' (hrows sp pr wr its') ∧ (∀ r, r < low → σ'.get r = σ.get r) ∧ σ.next ≤ σ'.next := by
      simp only [bodyOf, Try.f53, Option.getD_some, initT, dx, reduceIte, zLt, zLe, zEq, zAd, zMu, zSu, zBe, yEq, yLt, yLe, yTn, reduceCtorEq, sx, fx53, hwi, hgt, w1, w2, w3, h64, hrun]
      generalize hL : execC _ _ _ _ _ (Code.loop _) _ _ = q
      obtain ⟨e, T', σ', rfl, _, rfl, t0, t6, t7, fr, nx, its', hM, hF⟩ : ∃ e T' σ', q = some (e, T', σ') ∧ e ≠ .normal ∧ e = .exit 0 ∧ T'.get 0 = some (.ptr sp 0) ∧ T'.get 6 = some (.int .i64 (many : Nat)) ∧ T'.get 7 = some (.int .i64 (f : Nat)) ∧ (∀ r, r < low → σ'.get r = σ.get r) ∧ σ.next ≤ σ'.next ∧ ∃ its', HeapM low σ' sp pr pc wr wc its' (kindsTo ps f many) ws ∧ Fr σ (hrows sp pr wr its) σ' (hrows sp pr wr its') := by
        rw [← hL]
        refine exec_loop (fun i T σ' => i ≤ many ∧ T.get 0 = some (.ptr sp 0) ∧ T.get 6 = some (.int .i64 (many : Nat)) ∧ T.get 7 = some (.int .i64 (f : Nat)) ∧ T.get 32 = some (.int .i64 (many : Nat)) ∧ T.get 33 = some (.int .i64 (i : Nat)) ∧ (∀ r, r < low → σ'.get r = σ.get r) ∧ σ.next ≤ σ'.next ∧ ∃ its', HeapM low σ' sp pr pc wr wc its' (kindsTo ps f i) ws ∧ Fr σ (hrows sp pr wr its) σ' (hrows sp pr wr its')) many (by omega) ?_ ?_ ?_
        · rintro i hi T σ0 ⟨_, t0, t6, t7, t32, t33, fr, nx, its0, hM, hF⟩
          have hlt : ((i : Nat) : Int) < ((many : Nat) : Int) := by omega
          have hw' := i64_succ (i := i) (by omega)
          have hfi : IntKind.i64.wrap (((f : Nat) : Int) + ((i : Nat) : Int)) = ((f + i : Nat) : Int) := by rw [i64_id (by omega) (by omega)]; omega
          have hkl := kindsTo_len ps f i
          have hil0 := pg_len hM.pi
          have hlt2 : ((f + i : Nat) : Int) < ((its0.length : Nat) : Int) := by omega
          have ms0 := hM.own.ms
          have mp0 := hM.own.mp
          have hlen0 := items_len (pg_two hM.pi)
          have hin : (f + i) * 3 + 1 ≤ its0.length * 3 := by omega
          obtain ⟨its1, hM1, _, hrw⟩ := hM.kind (i := f + i) (by omega) 3
          refine ⟨_, _, by
            simp only [dx, reduceIte, zLt, zLe, zEq, zAd, zMu, zSu, zBe, yEq, yLt, yLe, yTn, reduceCtorEq, sx, fx53, t0, t6, t7, t32, t33, hlt, hfi, hlt2, ms0, mp0, hlen0, hin, Int.natCast_nonneg, Int.toNat_natCast, hw']
            rfl, by omega, ?_, ?_, ?_, ?_, ?_, fun r hr => ?_, ?_, its1, hM1, (hF.own _ (by simp [hrows])).rows hrw⟩
          · simp only [Tr.get_set, zEq, reduceIte, t0]
          · simp only [Tr.get_set, zEq, reduceIte, t6]
          · simp only [Tr.get_set, zEq, reduceIte, t7]
          · simp only [Tr.get_set, zEq, reduceIte, t32]
          · simp only [Tr.get_set, zEq, reduceIte]
          · rw [AMem.get_put, if_neg (by omega)]; exact fr r hr
          · simp only [AMem.next_put]; exact nx
        · rintro T σ0 ⟨_, t0, t6, t7, t32, t33, fr, nx, its0, hM, hF⟩
          have hge : ¬ (((many : Nat) : Int) < ((many : Nat) : Int)) := by omega
          refine ⟨_, _, _, by
            simp only [dx, reduceIte, zLt, zLe, zEq, zAd, zMu, zSu, zBe, yEq, yLt, yLe, yTn, reduceCtorEq, sx, fx53, t32, t33, hge]
            rfl, by simp, rfl, ?_, ?_, ?_, fr, nx, its0, hM, hF⟩
          · simp only [Tr.get_set, zEq, reduceIte, t0]
          · simp only [Tr.get_set, zEq, reduceIte, t6]
          · simp only [Tr.get_set, zEq, reduceIte, t7]
        · refine ⟨Nat.zero_le _, ?_, ?_, ?_, ?_, ?_, fun r hr => exr.2 r (by omega), exr.1, its, hr1, Fr.ext exr⟩
          all_goals simp only [Tr.get_set, zEq, reduceIte] <;> rfl
      have hkl := kindsTo_len ps f many
      have hil0 := pg_len hM.pi
      have hlt2 : ((f : Nat) : Int) < ((its'.length : Nat) : Int) := by omega
      have ms0 := hM.own.ms
      have mp0 := hM.own.mp
      have hlen0 := items_len (pg_two hM.pi)
      have hin : f * 3 + 3 ≤ its'.length * 3 := by omega
      have w4 : IntKind.i64.wrap (((f : Nat) : Int) * 64) = ((64 * f : Nat) : Int) := by rw [i64_id (by omega) (by omega)]; omega
      have hM2 := hM.record (i := f) (by omega) (Ext.refl _) (by omega) ⟨2, (many : Nat), []⟩ (.vs .nil []) (.inl ⟨rfl, rfl⟩)
      rw [kinds_done hsh hr hm1] at hM2
      simp only [dx, reduceIte, zLt, zLe, zEq, zAd, zMu, zSu, zBe, yEq, yLt, yLe, yTn, reduceCtorEq, sx, fx53, t0, t6, t7, ms0, mp0, hlt2, hlen0, hin, w4, Int.natCast_nonneg, Int.toNat_natCast]
      refine ⟨_, _, _, rfl, by simp only [Tr.get_set, zEq, reduceIte], by simp only [Tr.get_set, zEq, reduceIte], hM2, hF.set (fun r hr => by simp [rowOf] at hr) _, fun r hr => ?_, by simp only [AMem.next_put]; exact nx⟩
      rw [AMem.get_put, if_neg (by omega)]; exact fr r hr
    obtain ⟨T1, σ', its', r1, r2, r3, r4, rF, r5, r6⟩ := run
    exact ⟨σ', r5, r6, .inr ⟨f, its', rfl, q_call (first := []) (caps := []) fn53 rfl (by simp [Try.f53]) r1 (by simp) (res_two r2 r3), r4, rF⟩⟩
end Go.Proofs.Ytjkfdiglokkceaa

/- Heaps: the program's alloc, for small blocks, and for any. -/
set_option maxRecDepth 100000
set_option linter.unusedSimpArgs false
set_option linter.unusedVariables false
namespace Go.Proofs.Ytjkfdiglokkceaa
open Go Go.Proofs.Ytjkfdiglokkceaa.Pale
variable {k : Nat} {σ : AMem}

theorem HeapM.away {low : Nat} {sp pr wr q : Nat} {pc wc : Option Nat} {its : List MItem} {ps : List Pg} {ws : List Int} (h : HeapM low σ sp pr pc wr wc its ps ws) (o : AObj) (h1 : q ≠ sp) (h2 : q ≠ pr) (h3 : q ≠ wr) (h4 : q ∉ rowsOf its) : HeapM low (σ.put q o) sp pr pc wr wc its ps ws := by
  have g : ∀ r, r ≠ q → (σ.put q o).get r = σ.get r := fun r hr => by rw [AMem.get_put, if_neg (fun e => hr e.symm)]
  refine ⟨⟨by rw [g sp (fun e => h1 e.symm)]; exact h.own.ms, by rw [g pr (fun e => h2 e.symm)]; exact h.own.mp, by rw [g wr (fun e => h3 e.symm)]; exact h.own.mw, h.own.it.same (Nat.le_refl _) (by simp) (fun r hr => g r (fun e => h4 (by rw [← e]; exact hr))) h.own.it.2.2, h.own.ns, h.own.nw, h.own.ne, h.own.lo, by simpa using h.own.nx⟩, h.pi, h.ox⟩
theorem repZ_bools (n : Nat) : repZ [AVal.bool false] n = boolV (List.replicate n false) := by
  induction n with
  | zero => rfl
  | succ n ih => rw [repZ, ih]; rfl
theorem sizeF_cases (n : Int) : ∃ m : Nat, (64 : Int).tdiv (sizeF n) = (m : Nat) ∧ 2 ≤ m ∧ m ≤ 32 ∧ ¬ sizeF n = 0 ∧ 2 ≤ sizeF n ∧ sizeF n ≤ 32 := by
  unfold sizeF
  split
  · exact ⟨32, rfl, by omega, by omega, by omega, by omega, by omega⟩
  · split
    · exact ⟨16, rfl, by omega, by omega, by omega, by omega, by omega⟩
    · split
      · exact ⟨8, rfl, by omega, by omega, by omega, by omega, by omega⟩
      · split
        · exact ⟨4, rfl, by omega, by omega, by omega, by omega, by omega⟩
        · exact ⟨2, rfl, by omega, by omega, by omega, by omega, by omega⟩
theorem palloc_small {low sp pr wr : Nat} {pc wc : Option Nat} {its : List MItem} {ps : List Pg} {ws : List Int} {n : Nat} (h : HeapM low σ sp pr pc wr wc its ps ws) (hsh : Shape ps) (hl : ps.length ≤ 40) (h1 : 1 ≤ n) (h2 : n ≤ 32) (hk : 4000 ≤ k) :
    ∃ σ', (∀ r, r < low → σ'.get r = σ.get r) ∧ σ.next ≤ σ'.next ∧
    ((allocL ps (n : Nat) = none ∧ callN lawProg (k + 1) (.func 53 [] []) [.ptr sp 0, .int .i64 (n : Nat)] σ = some (.tuple [.int .i64 0, .int .i64 8], σ') ∧ HeapM low σ' sp pr pc wr wc its ps ws ∧ Fr σ (hrows sp pr wr its) σ' (hrows sp pr wr its)) ∨
    (∃ qs b its', allocL ps (n : Nat) = some (qs, b) ∧ callN lawProg (k + 1) (.func 53 [] []) [.ptr sp 0, .int .i64 (n : Nat)] σ = some (.tuple [.int .i64 b.at_, .int .i64 0], σ') ∧ HeapM low σ' sp pr pc wr wc its' qs ws ∧ Fr σ (hrows sp pr wr its) σ' (hrows sp pr wr its'))) := by
  have hil := pg_len h.pi
  have hwi := fun (σ : AMem) => within_call (k := k) (σ := σ) 1 2560 ((n : Nat) : Int) (by omega)
  rw [decide_eq_true (by omega)] at hwi
  have hsz := fun (σ : AMem) => sizeOf_call (k := k) (σ := σ) n h1 h2 (by omega)
  obtain ⟨m, hm, m2, m32, sz0, sz2, sz32⟩ := sizeF_cases (n : Nat)
  obtain ⟨size, hsize⟩ : ∃ s, s = sizeF ((n : Nat) : Int) := ⟨_, rfl⟩
  have halloc : allocL ps (n : Nat) = match placeL ps size with
      | some (j, s) => some (ps.set j (useAt (pgAt ps j) s true), slotB j (pgAt ps j) s)
      | none => match runL ps 1 with
        | some f => some (ps.set f (smallG size), ⟨f, 0, 64 * f, size⟩)
        | none => none := by
    unfold allocL
    rw [if_neg (by omega), ← hsize]
    rfl
  rw [← hsize] at hsz hm sz0 sz2 sz32
  have hgt : ¬ (((n : Nat) : Int) > 32) := by omega
  obtain ⟨σ1, hsm, ex1⟩ := psmall_exec (k := k - 3) (size := size) h.own h.pi h.ox hsh (by omega) (by omega)
  rw [show k - 3 + 3 = k by omega] at hsm
  have h1' := h.ext ex1
  obtain ⟨x1, x2, x3⟩ := h.own.lo
  obtain ⟨y1, y2, y3⟩ := h.own.nx
  have hx1 := ex1.1
  obtain ⟨c, hc⟩ : ∃ c, c = σ1.next := ⟨_, rfl⟩
  have qc1 : ¬ c = sp := by omega
  have qc2 : ¬ c = pr := by omega
  have hlow := h.own.lo
  cases hp : placeL ps size with
  | some js =>
    obtain ⟨j, s⟩ := js
    rw [hp] at halloc
    simp only at halloc
    obtain ⟨hj, hj1, hj2, hj3⟩ := placeTo_some hp
    obtain ⟨hs1, hs2, _⟩ := firstFree_some hj3
    have hsm' : callN lawProg k (.func 70 [] []) [.ptr sp 0, .int .i64 size] σ = some (.tuple [.agg [.int .i64 (j : Nat), .int .i64 (s : Nat), .int .i64 (slotB j (pgAt ps j) s).at_, .int .i64 (slotB j (pgAt ps j) s).size], .bool true], σ1) := by
      rw [hsm]
      unfold placeB
      rw [hp]
      rfl
    obtain ⟨σ2, hσ2⟩ : ∃ m, m = (σ1.push (.row 4 true [.int .i64 0, .int .i64 0, .int .i64 0, .int .i64 0])).put c (.row 4 true [.int .i64 (j : Nat), .int .i64 (s : Nat), .int .i64 (slotB j (pgAt ps j) s).at_, .int .i64 (slotB j (pgAt ps j) s).size]) := ⟨_, rfl⟩
    have ex2 : Ext σ1 σ2 := by rw [hσ2]; exact (Ext.push _ _).put _ _ (by omega)
    have n2 : σ2.next = c + 1 := by rw [hσ2, hc]; simp
    have h2' := h1'.ext ex2
    have gc : σ2.get c = some (.row 4 true [.int .i64 (j : Nat), .int .i64 (s : Nat), .int .i64 (slotB j (pgAt ps j) s).at_, .int .i64 (slotB j (pgAt ps j) s).size]) := by rw [hσ2, AMem.get_put, if_pos rfl]
    have hji : j < its.length := by omega
    have hu0 : (pgAt ps j).used ≠ [] := fun e => by rw [e] at hs1; simp at hs1
    obtain ⟨r, cap, r1, r2, r3, r4⟩ := own_used h.own h.pi h.ox hji hu0
    have r4' : σ2.get r = some (.row 1 false (boolV (pgAt ps j).used)) := by rw [ex2.2 r (by omega), ex1.2 r r3]; exact r4
    have qcr : ¬ c = r := by omega
    have qrc : ¬ r = c := by omega
    have ms2 := h2'.own.ms
    have mp2 := h2'.own.mp
    have hget := pg_get (j := 2) h.pi hji (by omega)
    simp only [List.getElem?_cons_succ, List.getElem?_cons_zero, r1] at hget
    have hlt1 : ((j : Nat) : Int) < ((its.length : Nat) : Int) := by omega
    have hlt2 : ((s : Nat) : Int) < (((pgAt ps j).used.length : Nat) : Int) := by omega
    have hin : s + 1 ≤ (pgAt ps j).used.length := by omega
    obtain ⟨its', hM, hcl⟩ := h2'.slot (j := s) hji r1 true
    refine ⟨σ2.put r (.row 1 false ((boolV (pgAt ps j).used).set s (.bool true))), fun q hq => ?_, ?_, .inr ⟨_, _, its', halloc, ?_, hM, ((Fr.ext (ex1.trans ex2)).own _ (by simp only [hrows, List.mem_cons]; exact .inr (.inr (.inr (mem_rowsOf (List.getElem_mem hji) (by rw [r1]; simp [rowOf])))))).rows (rows_cells hcl)⟩⟩
    · have hlr : low ≤ r := r2
      rw [AMem.get_put, if_neg (by omega), ex2.2 q (by omega), ex1.2 q (by omega)]
    · simp only [AMem.next_put]; omega
    · have run : ∃ T1, execC lawProg (callN lawProg k) k 53 107 (bodyOf Try.f53) (initT 0 [.ptr sp 0, .int .i64 (n : Nat)] .nil) σ = some (.ret, T1, σ2.put r (.row 1 false ((boolV (pgAt ps j).used).set s (.bool true)))) ∧ T1.get 4 = some (.int .i64 (slotB j (pgAt ps j) s).at_) ∧ T1.get 5 = some (.int .i64 0) := by
        simp only [bodyOf, Try.f53, Option.getD_some, initT, dx, reduceIte, zLt, zLe, zEq, zAd, zMu, zSu, zBe, yEq, yLt, yLe, yTn, reduceCtorEq, sx, fx53, Nat.add_assoc, Nat.add_eq_left, Nat.left_eq_add, Nat.add_left_cancel_iff, hwi, hgt, hsz, hsm', ← hc, ← hσ2]
        simp only [dx, reduceIte, zLt, zLe, zEq, zAd, zMu, zSu, zBe, yEq, yLt, yLe, yTn, reduceCtorEq, sx, fx53, Nat.add_assoc, Nat.add_eq_left, Nat.left_eq_add, Nat.add_left_cancel_iff, ms2, mp2, gc, hget, r4', hlt1, hlt2, hin, qrc, boolV_length, Int.natCast_nonneg, Int.toNat_natCast]
        exact ⟨_, rfl, by simp only [Tr.get_set, zEq, reduceIte], by simp only [Tr.get_set, zEq, reduceIte]⟩
      obtain ⟨T1, g1, g2, g3⟩ := run
      exact q_call (first := []) (caps := []) fn53 rfl (by simp [Try.f53]) g1 (by simp) (res_two g2 g3)
  | none =>
    rw [hp] at halloc
    simp only at halloc
    have hsm' : callN lawProg k (.func 70 [] []) [.ptr sp 0, .int .i64 size] σ = some (.tuple [.agg [.int .i64 0, .int .i64 0, .int .i64 0, .int .i64 0], .bool false], σ1) := by
      rw [hsm]
      unfold placeB
      rw [hp]
      rfl
    obtain ⟨σ2, hσ2⟩ : ∃ m, m = (σ1.push (.row 4 true [.int .i64 0, .int .i64 0, .int .i64 0, .int .i64 0])).put c (.row 4 true [.int .i64 0, .int .i64 0, .int .i64 0, .int .i64 0]) := ⟨_, rfl⟩
    have ex2 : Ext σ1 σ2 := by rw [hσ2]; exact (Ext.push _ _).put _ _ (by omega)
    have n2 : σ2.next = c + 1 := by rw [hσ2, hc]; simp
    have h2' := h1'.ext ex2
    have gc : σ2.get c = some (.row 4 true [.int .i64 0, .int .i64 0, .int .i64 0, .int .i64 0]) := by rw [hσ2, AMem.get_put, if_pos rfl]
    obtain ⟨σ3, hrun, ex3⟩ := run_exec (k := k - 1) (many := 1) (l := ps.map pvOf) h2'.own (by rw [pi_pvOf]; exact h.pi) (by rw [List.length_map]; omega) (by omega) (by omega)
    rw [pgs_pvOf, show k - 1 + 1 = k by omega] at hrun
    have e1 : ((1 : Nat) : Int) = 1 := rfl
    rw [e1] at hrun
    have hx3 := ex3.1
    cases hr : runL ps 1 with
    | none =>
      rw [hr] at hrun halloc
      simp only [Option.getD_none, Option.isSome_none] at hrun halloc
      refine ⟨σ3, fun q hq => by rw [ex3.2 q (by omega), ex2.2 q (by omega), ex1.2 q (by omega)], by omega, .inl ⟨halloc, ?_, h2'.ext ex3, Fr.ext (ex1.trans (ex2.trans ex3))⟩⟩
      have run : ∃ T1, execC lawProg (callN lawProg k) k 53 107 (bodyOf Try.f53) (initT 0 [.ptr sp 0, .int .i64 (n : Nat)] .nil) σ = some (.ret, T1, σ3) ∧ T1.get 4 = some (.int .i64 0) ∧ T1.get 5 = some (.int .i64 8) := by
        simp only [bodyOf, Try.f53, Option.getD_some, initT, dx, reduceIte, zLt, zLe, zEq, zAd, zMu, zSu, zBe, yEq, yLt, yLe, yTn, reduceCtorEq, sx, fx53, Nat.add_assoc, Nat.add_eq_left, Nat.left_eq_add, Nat.add_left_cancel_iff, hwi, hgt, hsz, hsm', ← hc, ← hσ2]
        simp only [dx, reduceIte, zLt, zLe, zEq, zAd, zMu, zSu, zBe, yEq, yLt, yLe, yTn, reduceCtorEq, sx, fx53, Nat.add_assoc, Nat.add_eq_left, Nat.left_eq_add, Nat.add_left_cancel_iff, hrun]
        exact ⟨_, rfl, by simp only [Tr.get_set, zEq, reduceIte], by simp only [Tr.get_set, zEq, reduceIte]⟩
      obtain ⟨T1, g1, g2, g3⟩ := run
      exact q_call (first := []) (caps := []) fn53 rfl (by simp [Try.f53]) g1 (by simp) (res_two g2 g3)
    | some f =>
      rw [hr] at hrun halloc
      simp only [Option.getD_some, Option.isSome_some] at hrun halloc
      obtain ⟨hf1, hf2⟩ := runL_some hr
      have h3' := h2'.ext ex3
      obtain ⟨r, hrr⟩ : ∃ r, r = σ3.next := ⟨_, rfl⟩
      obtain ⟨σ4, hσ4⟩ : ∃ s, s = σ3.push (.row 1 false (boolV (List.replicate m false))) := ⟨_, rfl⟩
      have ex4 : Ext σ3 σ4 := by rw [hσ4]; exact Ext.push _ _
      have n4 : σ4.next = r + 1 := by rw [hσ4, hrr]; simp
      have g4 : σ4.get r = some (.row 1 false (boolV (List.replicate m false))) := by rw [hσ4, hrr, AMem.get_push, if_pos rfl]
      have hrec := h3'.record (σ1 := σ4) (i := f) (by omega) ex4 (by omega) ⟨1, size, List.replicate m false⟩ (.slice r 0 m (some m) 1) (.inr ⟨r, some m, by simp, by omega, by omega, g4⟩)
      obtain ⟨its3, hits3⟩ : ∃ x, x = its.set f ⟨[.int .u8 1, .int .i64 size], .slice r 0 m (some m) 1, boolV (List.replicate m false)⟩ := ⟨_, rfl⟩
      obtain ⟨ps3, hps3⟩ : ∃ x, x = ps.set f ⟨1, size, List.replicate m false⟩ := ⟨_, rfl⟩
      simp only at hrec
      rw [← hits3, ← hps3] at hrec
      have hfi : f < its3.length := by rw [hits3, List.length_set]; omega
      have hx3r : its3[f].x = .slice r 0 m (some m) 1 := by simp only [hits3, List.getElem_set_self]
      have hpf : pgAt ps3 f = ⟨1, size, List.replicate m false⟩ := by rw [hps3, pgAt_set (by omega), if_pos rfl]
      have hrow := hrec.own.mp
      rw [AMem.get_put, if_pos rfl] at hrow
      have hrow' := AObj.row.inj (Option.some.inj hrow)
      have hflat := hrow'.2.2
      rw [hflat] at hrec
      have hri : ∀ q, q ∈ rowsOf its3 → q < σ.next ∨ q = r := fun q hq => by
        rw [hits3] at hq
        rcases rowsOf_set_mem hq with h5 | h5
        · exact .inl (h.own.it.bound q h5).2
        · simp only [rowOf, List.mem_singleton] at h5; exact .inr h5
      obtain ⟨x4, x5, x6⟩ := hrec.own.nx
      have haw := hrec.away (q := c) (.row 4 true [.int .i64 (f : Nat), .int .i64 0, .int .i64 ((64 * f : Nat) : Int), .int .i64 size]) (by omega) (by omega) (by omega) (fun hm => by rcases hri c hm with h5 | h5 <;> omega)
      obtain ⟨its4, hM, hcl⟩ := haw.slot (j := 0) hfi (r := r) (cap := some m) (by rw [hx3r, hpf]; simp) true
      rw [hpf] at hM
      have hfin : ps3.set f (useAt ⟨1, size, List.replicate m false⟩ 0 true) = ps.set f (smallG size) := by
        rw [hps3, List.set_set]
        unfold useAt smallG
        rw [hm, Int.toNat_natCast]
      rw [hfin] at hM
      have ms3 := h3'.own.ms
      have mp3 := h3'.own.mp
      have gc3 : σ3.get c = some (.row 4 true [.int .i64 0, .int .i64 0, .int .i64 0, .int .i64 0]) := by rw [ex3.2 c (by omega)]; exact gc
      have ms4 : σ4.get sp = some (.row 2 true [.slice pr 0 its.length pc 3, .slice wr 0 ws.length wc 1]) := by rw [ex4.2 sp (by omega)]; exact ms3
      have mp4 : σ4.get pr = some (.row 3 true (its.map MItem.cells).flatten) := by rw [ex4.2 pr (by omega)]; exact mp3
      have gc4 : σ4.get c = some (.row 4 true [.int .i64 0, .int .i64 0, .int .i64 0, .int .i64 0]) := by rw [ex4.2 c (by omega)]; exact gc3
      have hlen3 := items_len (pg_two h.pi)
      have hin3 : f * 3 + 3 ≤ its.length * 3 := by omega
      have hltf : ((f : Nat) : Int) < ((its.length : Nat) : Int) := by omega
      have w1 : IntKind.i64.wrap ((64 : Int).tdiv size) = ((m : Nat) : Int) := by rw [hm]; exact i64_id (by omega) (by omega)
      have w4 : IntKind.i64.wrap (((f : Nat) : Int) * 64) = ((64 * f : Nat) : Int) := by rw [i64_id (by omega) (by omega)]; omega
      have cm : (0 : Int) ≤ ((m : Nat) : Int) ∧ ((m : Nat) : Int) ≤ ((m : Nat) : Int) ∧ ((m : Nat) : Int) * ((1 : Nat) : Int) ≤ ((mostBytes : Nat) : Int) ∧ ((m : Nat) : Int) ≤ 9223372036854775807 := by unfold mostBytes; omega
      have hg3 := pg_get (j := 2) hrec.pi hfi (by omega)
      simp only [List.getElem?_cons_succ, List.getElem?_cons_zero, hx3r] at hg3
      have hlt0 : (0 : Int) < ((m : Nat) : Int) := by omega
      have hin0 : 0 + 1 ≤ m := by omega
      have hin0' : 1 ≤ m := by omega
      have qrc : ¬ r = c := by omega
      have qcr : ¬ c = r := by omega
      have qrp : ¬ r = pr := by omega
      have qrs : ¬ r = sp := by omega
      have qpr : ¬ pr = r := by omega
      have qpc : ¬ pr = c := by omega
      have qps : ¬ pr = sp := fun e => h.own.ne.1 e.symm
      have hF0 : Fr σ (hrows sp pr wr its) (σ4.put pr (.row 3 true (its3.map MItem.cells).flatten)) (hrows sp pr wr its3) := by
        rw [hits3]
        exact (Fr.ext (ex1.trans (ex2.trans (ex3.trans ex4)))).set (fun q hq => by simp only [rowOf, List.mem_singleton] at hq; omega) _
      refine ⟨((σ4.put pr (.row 3 true (its3.map MItem.cells).flatten)).put c (.row 4 true [.int .i64 (f : Nat), .int .i64 0, .int .i64 ((64 * f : Nat) : Int), .int .i64 size])).put r (.row 1 false ((boolV (List.replicate m false)).set 0 (.bool true))), fun q hq => ?_, ?_, .inr ⟨_, _, its4, halloc, ?_, hM, ((hF0.put _ (by omega)).put _ (by omega)).rows (rows_cells hcl)⟩⟩
      · rw [AMem.get_put, if_neg (by omega), AMem.get_put, if_neg (by omega), AMem.get_put, if_neg (by omega), ex4.2 q (by omega), ex3.2 q (by omega), ex2.2 q (by omega), ex1.2 q (by omega)]
      · simp only [AMem.next_put]; omega
      · have run : ∃ T1, execC lawProg (callN lawProg k) k 53 107 (bodyOf Try.f53) (initT 0 [.ptr sp 0, .int .i64 (n : Nat)] .nil) σ = some (.ret, T1, ((σ4.put pr (.row 3 true (its3.map MItem.cells).flatten)).put c (.row 4 true [.int .i64 (f : Nat), .int .i64 0, .int .i64 ((64 * f : Nat) : Int), .int .i64 size])).put r (.row 1 false ((boolV (List.replicate m false)).set 0 (.bool true)))) ∧ T1.get 4 = some (.int .i64 ((64 * f : Nat) : Int)) ∧ T1.get 5 = some (.int .i64 0) := by
          simp only [bodyOf, Try.f53, Option.getD_some, initT, dx, reduceIte, zLt, zLe, zEq, zAd, zMu, zSu, zBe, yEq, yLt, yLe, yTn, reduceCtorEq, sx, fx53, Nat.add_assoc, Nat.add_eq_left, Nat.left_eq_add, Nat.add_left_cancel_iff, hwi, hgt, hsz, hsm', ← hc, ← hσ2]
          simp only [dx, reduceIte, zLt, zLe, zEq, zAd, zMu, zSu, zBe, yEq, yLt, yLe, yTn, reduceCtorEq, sx, fx53, hrun, ms3, mp3, w1, cm, sz0, repZ_bools, Int.toNat_natCast, ← hrr, ← hσ4]
          simp only [dx, reduceIte, zLt, zLe, zEq, zAd, zMu, zSu, zBe, yEq, yLt, yLe, yTn, reduceCtorEq, sx, fx53, ms4, mp4, gc4, hltf, hlen3, hin3, hflat, w4, qpc, qps, qcr, qc1, qc2, hg3, g4, qrc, qpr, qrp, qrs, hlt0, hin0, hin0', boolV_length, List.length_replicate, Int.natCast_nonneg, Int.toNat_natCast]
          exact ⟨_, rfl, by simp only [Tr.get_set, zEq, reduceIte], by simp only [Tr.get_set, zEq, reduceIte]⟩
        obtain ⟨T1, g1, g2, g3⟩ := run
        have hat : ((64 * f : Nat) : Int) = 64 * (f : Int) := by omega
        rw [hat] at g2
        exact q_call (vs := [.int .i64 (64 * (f : Int)), .int .i64 0]) (first := []) (caps := []) fn53 rfl (by simp [Try.f53]) g1 (by simp) (res_two g2 g3)
theorem palloc_execF {low sp pr wr : Nat} {pc wc : Option Nat} {its : List MItem} {ps : List Pg} {ws : List Int} {n : Int} (h : HeapM low σ sp pr pc wr wc its ps ws) (hsh : Shape ps) (hl : ps.length ≤ 40) (hk : 4000 ≤ k) :
    ∃ σ', (∀ r, r < low → σ'.get r = σ.get r) ∧ σ.next ≤ σ'.next ∧
    ((¬ (1 ≤ n ∧ n ≤ 2560) ∧ callN lawProg (k + 1) (.func 53 [] []) [.ptr sp 0, .int .i64 n] σ = some (.tuple [.int .i64 0, .int .i64 3], σ') ∧ HeapM low σ' sp pr pc wr wc its ps ws ∧ Fr σ (hrows sp pr wr its) σ' (hrows sp pr wr its)) ∨
    (1 ≤ n ∧ n ≤ 2560 ∧ allocL ps n = none ∧ callN lawProg (k + 1) (.func 53 [] []) [.ptr sp 0, .int .i64 n] σ = some (.tuple [.int .i64 0, .int .i64 8], σ') ∧ HeapM low σ' sp pr pc wr wc its ps ws ∧ Fr σ (hrows sp pr wr its) σ' (hrows sp pr wr its)) ∨
    (1 ≤ n ∧ n ≤ 2560 ∧ ∃ qs b its', allocL ps n = some (qs, b) ∧ callN lawProg (k + 1) (.func 53 [] []) [.ptr sp 0, .int .i64 n] σ = some (.tuple [.int .i64 b.at_, .int .i64 0], σ') ∧ HeapM low σ' sp pr pc wr wc its' qs ws ∧ Fr σ (hrows sp pr wr its) σ' (hrows sp pr wr its'))) := by
  by_cases hn : 1 ≤ n ∧ n ≤ 2560
  · obtain ⟨m, rfl⟩ : ∃ m : Nat, n = (m : Nat) := ⟨n.toNat, by omega⟩
    by_cases h32 : m ≤ 32
    · obtain ⟨σ', g1, g2, ⟨g3, g4⟩ | ⟨qs, b, its', g3, g4, g5⟩⟩ := palloc_small (k := k) h hsh hl (by omega) h32 hk
      · exact ⟨σ', g1, g2, .inr (.inl ⟨hn.1, hn.2, g3, g4⟩)⟩
      · exact ⟨σ', g1, g2, .inr (.inr ⟨hn.1, hn.2, qs, b, its', g3, g4, g5⟩)⟩
    · have hq : ((((m : Nat) : Int) + 63) / 64).toNat = (m + 63) / 64 := by omega
      have hq2 : (((m : Nat) : Int) + 63) / 64 = (((m + 63) / 64 : Nat) : Int) := by omega
      have ha : allocL ps (m : Nat) = match runL ps ((m + 63) / 64) with
          | some f => some (setRun ps f ((m + 63) / 64) (bigG ((m + 63) / 64)), ⟨f, 0, 64 * f, 64 * (((m + 63) / 64 : Nat) : Int)⟩)
          | none => none := by
        unfold allocL
        rw [if_pos (by omega), hq, hq2]
        rfl
      obtain ⟨σ', g1, g2, ⟨g3, g4⟩ | ⟨f, its', g3, g4, g5⟩⟩ := palloc_big (k := k) (n := m) h hsh hl (by omega) (by omega) hk
      · exact ⟨σ', g1, g2, .inr (.inl ⟨hn.1, hn.2, by rw [ha, g3], g4⟩)⟩
      · refine ⟨σ', g1, g2, .inr (.inr ⟨hn.1, hn.2, _, _, its', by rw [ha, g3], ?_, g5⟩)⟩
        rw [g4]
        simp only [Int.natCast_mul]
        rfl
  · have hwi := fun (σ : AMem) => within_call (k := k) (σ := σ) 1 2560 n (by omega)
    rw [decide_eq_false hn] at hwi
    have run : ∃ T1, execC lawProg (callN lawProg k) k 53 107 (bodyOf Try.f53) (initT 0 [.ptr sp 0, .int .i64 n] .nil) σ = some (.ret, T1, σ) ∧ T1.get 4 = some (.int .i64 0) ∧ T1.get 5 = some (.int .i64 3) := by
      simp only [bodyOf, Try.f53, Option.getD_some, initT, dx, reduceIte, zLt, zLe, zEq, zAd, zMu, zSu, zBe, yEq, yLt, yLe, yTn, reduceCtorEq, sx, fx53, hwi]
      exact ⟨_, rfl, by simp only [Tr.get_set, zEq, reduceIte], by simp only [Tr.get_set, zEq, reduceIte]⟩
    obtain ⟨T1, g1, g2, g3⟩ := run
    exact ⟨σ, fun _ _ => rfl, Nat.le_refl _, .inl ⟨hn, q_call (first := []) (caps := []) fn53 rfl (by simp [Try.f53]) g1 (by simp) (res_two g2 g3), h, Fr.refl _ _⟩⟩
theorem palloc_exec {low sp pr wr : Nat} {pc wc : Option Nat} {its : List MItem} {ps : List Pg} {ws : List Int} {n : Int} (h : HeapM low σ sp pr pc wr wc its ps ws) (hsh : Shape ps) (hl : ps.length ≤ 40) (hk : 4000 ≤ k) :
    ∃ σ', (∀ r, r < low → σ'.get r = σ.get r) ∧ σ.next ≤ σ'.next ∧
    ((¬ (1 ≤ n ∧ n ≤ 2560) ∧ callN lawProg (k + 1) (.func 53 [] []) [.ptr sp 0, .int .i64 n] σ = some (.tuple [.int .i64 0, .int .i64 3], σ') ∧ HeapM low σ' sp pr pc wr wc its ps ws) ∨
    (1 ≤ n ∧ n ≤ 2560 ∧ allocL ps n = none ∧ callN lawProg (k + 1) (.func 53 [] []) [.ptr sp 0, .int .i64 n] σ = some (.tuple [.int .i64 0, .int .i64 8], σ') ∧ HeapM low σ' sp pr pc wr wc its ps ws) ∨
    (1 ≤ n ∧ n ≤ 2560 ∧ ∃ qs b its', allocL ps n = some (qs, b) ∧ callN lawProg (k + 1) (.func 53 [] []) [.ptr sp 0, .int .i64 n] σ = some (.tuple [.int .i64 b.at_, .int .i64 0], σ') ∧ HeapM low σ' sp pr pc wr wc its' qs ws)) := by
  obtain ⟨σ', g1, g2, ⟨a, b, c, _⟩ | ⟨a, a2, b, c, d, _⟩ | ⟨a, a2, qs, b, its', c, d, e, _⟩⟩ := palloc_execF (k := k) (n := n) h hsh hl hk
  · exact ⟨σ', g1, g2, .inl ⟨a, b, c⟩⟩
  · exact ⟨σ', g1, g2, .inr (.inl ⟨a, a2, b, c, d⟩)⟩
  · exact ⟨σ', g1, g2, .inr (.inr ⟨a, a2, qs, b, its', c, d, e⟩)⟩
end Go.Proofs.Ytjkfdiglokkceaa

/- Heaps: the program's loop over all blocks: what the body of such a loop must show; a round over a slot. -/
set_option maxRecDepth 100000
set_option linter.unusedSimpArgs false
set_option linter.unusedVariables false
namespace Go.Proofs.Ytjkfdiglokkceaa
open Go Go.Proofs.Ytjkfdiglokkceaa.Pale
variable {k : Nat} {σ : AMem}

/-- The body of a loop over blocks, as the loop sees it. -/
structure Client (k0 L : Nat) (bs : List Blk) (I : Option (List Blk) → List Nat → AMem → Prop) : Prop where
  stable : ∀ {x : Option (List Blk)} {O : List Nat} {σ σ' : AMem}, I x O σ → σ.next ≤ σ'.next → (∀ r, r ∈ O → σ'.get r = σ.get r) → I x O σ'
  bound : ∀ {x : Option (List Blk)} {O : List Nat} {σ : AMem}, I x O σ → ∀ r, r ∈ O → r < σ.next
  step : ∀ {k : Nat} {d : List Blk} {b : Blk} {rest : List Blk} {O : List Nat} {σ : AMem}, bs = d ++ b :: rest → k0 ≤ k → I (some d) O σ → ∃ v O' σ', callN lawProg k (.yield L) [.agg (blkC b)] σ = some (.bool v, σ') ∧ I (if v then some (d ++ [b]) else none) O' σ' ∧ Fr σ O σ' O'
noncomputable def loopK (T0 : Tr AVal) : ALoop := rfLoop Try.f47 47 T0
noncomputable def loopKd (T0 : Tr AVal) : ALoop := { loopK T0 with state := .done, pending := some .ret }
theorem pblk_round {k0 L y q ur e i s : Nat} {uc : Option Nat} {kd n : Int} {us : List Bool} {bs d : List Blk} {I : Option (List Blk) → List Nat → AMem → Prop} {T0 : Tr AVal} {σp : AMem} {Oi O : List Nat} (hC : Client k0 L bs I) (hk : k0 ≤ k) (hT3 : T0.get 3 = some (.ptr y 0)) (hT5 : T0.get 5 = some (.ptr q 0)) (hs : s < us.length)
    (hy : σp.get y = some (.row 1 false [.yield L])) (hq : σp.get q = some (.row 3 true [.int .u8 kd, .int .i64 n, .slice ur 0 us.length uc 1])) (hur : σp.get ur = some (.row 1 false (boolV us))) (lt : y < e ∧ q < e ∧ ur < e) (hO : y ∉ Oi ∧ q ∉ Oi ∧ ur ∉ Oi ∧ e ∉ Oi) (hnx : σp.next = e + 1) (he : σp.get e = some (.loop (loopK T0)))
    (hfr : Fr σp Oi σ O) (hi : I (some d) O σ) (hbs : us[s]?.getD false = true → ∃ rest, bs = d ++ slotB i ⟨kd, n, us⟩ s :: rest) :
    ∃ v O' σ', roundA lawProg (callN lawProg k) k e [.agg (blkC (slotB i ⟨kd, n, us⟩ s))] σ = some (.bool v, σ') ∧ I (if v then some (d ++ if us[s]?.getD false then [slotB i ⟨kd, n, us⟩ s] else []) else none) O' σ' ∧ (v = true → Fr σp Oi σ' O') ∧ (v = false → σ'.get e = some (.loop (loopKd T0)) ∧ σp.next ≤ σ'.next ∧ (∀ r, r < e → r ∉ Oi → σ'.get r = σp.get r) ∧ (∀ r, r ∈ O' → r ∈ Oi ∨ σp.next ≤ r)) := by
  have key : ∀ r, r < e + 1 → r ∉ Oi → σ.get r = σp.get r := fun r hr hn => hfr.get r (by omega) hn
  have hnxs := hfr.nx
  have heO : e ∉ O := fun hm => by
    rcases hfr.sub e hm with h1 | h1
    · exact hO.2.2.2 h1
    · omega
  obtain ⟨c, hc⟩ : ∃ c, c = σ.next := ⟨_, rfl⟩
  obtain ⟨bl, hbl⟩ : ∃ b, b = slotB i ⟨kd, n, us⟩ s := ⟨_, rfl⟩
  have hslot : bl.slot = s := by rw [hbl]; rfl
  rw [← hbl] at hbs ⊢
  obtain ⟨B, hB⟩ : ∃ B, B = busyOf (loopK T0) := ⟨_, rfl⟩
  have ml : σ.get e = some (.loop (loopK T0)) := by rw [key e (by omega) hO.2.2.2]; exact he
  obtain ⟨σ1, hσ1⟩ : ∃ s, s = (σ.push (.row 4 true [.int .i64 0, .int .i64 0, .int .i64 0, .int .i64 0])).put σ.next (.row 4 true (blkC bl)) := ⟨_, rfl⟩
  have ex1 : Ext σ σ1 := by rw [hσ1]; exact (Ext.push _ _).put _ _ (by omega)
  have gd : σ1.get c = some (.row 4 true (blkC bl)) := by rw [hσ1, hc, AMem.get_put, if_pos rfl]
  have n1 : σ1.next = c + 1 := by rw [hσ1, hc]; simp
  have ha : ∃ T1, execC lawProg (callN lawProg k) k 47 53 (loopK T0).assign (setParams T0 (loopK T0).params [.agg (blkC bl)]) σ = some (.normal, T1, σ1) ∧ T1.get 3 = some (.ptr y 0) ∧ T1.get 5 = some (.ptr q 0) ∧ T1.get 6 = some (.ptr c 0) := by
    rw [hσ1, hc]
    simp only [loopK, rfLoop, bodyOf, Try.f47, Option.getD_some, rfOf]
    simp only [dx, reduceIte, zLt, zLe, zEq, zAd, zMu, zSu, zBe, yEq, yLt, yLe, yTn, reduceCtorEq, sx, fx47, blkC]
    exact ⟨_, rfl, by simp only [Tr.get_set, zEq, reduceIte, hT3], by simp only [Tr.get_set, zEq, reduceIte, hT5], by simp only [Tr.get_set, zEq, reduceIte]⟩
  obtain ⟨T1, ha, u3, u5, u6⟩ := ha
  obtain ⟨σb, hσb⟩ : ∃ s, s = σ1.put e (.loop B) := ⟨_, rfl⟩
  have gb : ∀ r, r < c → r ≠ e → σb.get r = σ.get r := fun r hr hne => by rw [hσb, AMem.get_put, if_neg (fun h => hne h.symm)]; exact ex1.2 r (by omega)
  have gbc : σb.get c = some (.row 4 true (blkC bl)) := by rw [hσb, AMem.get_put, if_neg (by omega)]; exact gd
  have nb : σb.next = c + 1 := by rw [hσb]; simpa using n1
  have be : σb.get e = some (.loop B) := by rw [hσb, AMem.get_put, if_pos rfl]
  have by' : σb.get y = some (.row 1 false [.yield L]) := by rw [gb y (by omega) (by omega), key y (by omega) hO.1]; exact hy
  have bq : σb.get q = some (.row 3 true [.int .u8 kd, .int .i64 n, .slice ur 0 us.length uc 1]) := by rw [gb q (by omega) (by omega), key q (by omega) hO.2.1]; exact hq
  have bur : σb.get ur = some (.row 1 false (boolV us)) := by rw [gb ur (by omega) (by omega), key ur (by omega) hO.2.2.1]; exact hur
  have hIb : I (some d) O σb := hC.stable hi (by omega) fun r hr => by
    have := hC.bound hi r hr
    exact gb r (by omega) (fun h => heO (by rw [← h]; exact hr))
  have hget := boolV_get hs
  have hsl : ((s : Nat) : Int) < ((us.length : Nat) : Int) := by omega
  have hum : us[s]?.getD false = us[s] := by rw [List.getElem?_eq_getElem hs]; rfl
  rw [hum] at hbs ⊢
  have hz1 : loopK T0 = { B with state := .ready, pending := none } := by rw [hB]; rfl
  have hz2 : loopKd T0 = { B with state := .done, pending := some .ret } := by rw [hB]; rfl
  have hrow : blkC bl = [.int .i64 (bl.page : Nat), .int .i64 (s : Nat), .int .i64 bl.at_, .int .i64 bl.size] := by unfold blkC; rw [hslot]
  cases hus : us[s] with
  | false =>
    rw [hus] at hget
    have hb2 : ∃ T2, execC lawProg (callN lawProg k) k 47 53 (loopK T0).body T1 σb = some (.normal, T2, σb) := by
      rw [hrow] at gbc
      simp only [loopK, rfLoop, bodyOf, Try.f47, Option.getD_some, rfOf]
      simp only [dx, reduceIte, zLt, zLe, zEq, zAd, zMu, zSu, zBe, yEq, yLt, yLe, yTn, reduceCtorEq, sx, fx47, u3, u5, u6, bq, bur, gbc, hsl, boolV_length, Int.natCast_nonneg, Int.toNat_natCast, Nat.zero_add, Nat.mul_one, hget]
      exact ⟨_, rfl⟩
    obtain ⟨T2, hb2⟩ := hb2
    have kk := round_body (A := lawProg) (call := callN lawProg k) (k := k) (σ := σ) (l := e) (r := loopK T0) (T1 := T1) (T2 := T2) (σ1 := σ1) ml rfl rfl rfl ha (by rw [ex1.2 e (by omega)]; exact ml) (by rw [← hB, ← hσb]; exact hb2) (r2 := B) be
    rw [← hz1] at kk
    refine ⟨true, O, _, kk, ?_, fun _ => ⟨by simp only [AMem.next_put]; omega, fun r hr hn => ?_, hfr.sub⟩, fun h => by cases h⟩
    · simp only [Bool.false_eq_true, if_false, if_true, List.append_nil]
      refine hC.stable hIb (by simp) fun r hr => ?_
      rw [AMem.get_put, if_neg (fun h => heO (by rw [h]; exact hr))]
    · by_cases hre : r = e
      · subst hre; rw [AMem.get_put, if_pos rfl]; exact he.symm
      · rw [AMem.get_put, if_neg (fun h => hre h.symm), gb r (by omega) hre]; exact key r (by omega) hn
  | true =>
    rw [hus] at hget
    obtain ⟨rest, hbs⟩ := hbs hus
    obtain ⟨v, O2, σ2, hcall, hI2, hF⟩ := hC.step hbs hk hIb
    have heO2 : e ∉ O2 := fun hm => by
      rcases hF.sub e hm with h1 | h1
      · exact heO h1
      · omega
    have b2e : σ2.get e = some (.loop B) := by rw [hF.get e (by omega) heO]; exact be
    have hF2 := hF.nx
    have hcall' := hcall
    rw [hrow] at hcall'
    have hgen : ∀ r, r < e + 1 → r ∉ Oi → r ≠ e → σ2.get r = σp.get r := fun r hr hn hre => by
      rw [hF.get r (by omega) (fun hm => by
        rcases hfr.sub r hm with h1 | h1
        · exact hn h1
        · omega), gb r (by omega) hre]
      exact key r hr hn
    have hsub : ∀ r, r ∈ O2 → r ∈ Oi ∨ σp.next ≤ r := fun r hr => by
      rcases hF.sub r hr with h1 | h1
      · exact hfr.sub r h1
      · exact .inr (by omega)
    cases v with
    | true =>
      have hb2 : ∃ T2, execC lawProg (callN lawProg k) k 47 53 (loopK T0).body T1 σb = some (.normal, T2, σ2) := by
        rw [hrow] at gbc
        simp only [loopK, rfLoop, bodyOf, Try.f47, Option.getD_some, rfOf]
        simp only [dx, reduceIte, zLt, zLe, zEq, zAd, zMu, zSu, zBe, yEq, yLt, yLe, yTn, reduceCtorEq, sx, fx47, u3, u5, u6, by', bq, bur, gbc, hsl, boolV_length, Int.natCast_nonneg, Int.toNat_natCast, Nat.zero_add, Nat.mul_one, hget, hcall']
        exact ⟨_, rfl⟩
      obtain ⟨T2, hb2⟩ := hb2
      have kk := round_body (A := lawProg) (call := callN lawProg k) (k := k) (σ := σ) (l := e) (r := loopK T0) (T1 := T1) (T2 := T2) (σ1 := σ1) ml rfl rfl rfl ha (by rw [ex1.2 e (by omega)]; exact ml) (by rw [← hB, ← hσb]; exact hb2) (r2 := B) b2e
      rw [← hz1] at kk
      refine ⟨true, O2, _, kk, ?_, fun _ => ⟨by simp only [AMem.next_put]; omega, fun r hr hn => ?_, hsub⟩, fun h => by cases h⟩
      · simp only [if_true] at hI2 ⊢
        refine hC.stable hI2 (by simp) fun r hr => ?_
        rw [AMem.get_put, if_neg (fun h => heO2 (by rw [h]; exact hr))]
      · by_cases hre : r = e
        · subst hre; rw [AMem.get_put, if_pos rfl]; exact he.symm
        · rw [AMem.get_put, if_neg (fun h => hre h.symm)]; exact hgen r (by omega) hn hre
    | false =>
      have hb2 : ∃ T2, execC lawProg (callN lawProg k) k 47 53 (loopK T0).body T1 σb = some (.ret, T2, σ2) := by
        rw [hrow] at gbc
        simp only [loopK, rfLoop, bodyOf, Try.f47, Option.getD_some, rfOf]
        simp only [dx, reduceIte, zLt, zLe, zEq, zAd, zMu, zSu, zBe, yEq, yLt, yLe, yTn, reduceCtorEq, sx, fx47, u3, u5, u6, by', bq, bur, gbc, hsl, boolV_length, Int.natCast_nonneg, Int.toNat_natCast, Nat.zero_add, Nat.mul_one, hget, hcall']
        exact ⟨_, rfl⟩
      obtain ⟨T2, hb2⟩ := hb2
      have kk := round_ret (A := lawProg) (call := callN lawProg k) (k := k) (σ := σ) (l := e) (r := loopK T0) (T1 := T1) (T2 := T2) (σ1 := σ1) ml rfl rfl rfl ha (by rw [ex1.2 e (by omega)]; exact ml) (by rw [← hB, ← hσb]; exact hb2) (r2 := B) b2e
      rw [← hz2] at kk
      refine ⟨false, O2, _, kk, ?_, (fun h => by cases h), fun _ => ⟨by rw [AMem.get_put, if_pos rfl], by simp only [AMem.next_put]; omega, fun r hr hn => ?_, fun r hr => ?_⟩⟩
      · simp only [Bool.false_eq_true, if_false] at hI2 ⊢
        refine hC.stable hI2 (by simp) fun r hr => ?_
        rw [AMem.get_put, if_neg (fun h => heO2 (by rw [h]; exact hr))]
      · rw [AMem.get_put, if_neg (by omega)]; exact hgen r (by omega) hn (by omega)
      · exact hsub r hr
end Go.Proofs.Ytjkfdiglokkceaa

/- Heaps: the program's loop over all blocks. -/
set_option maxRecDepth 100000
set_option linter.unusedSimpArgs false
set_option linter.unusedVariables false
namespace Go.Proofs.Ytjkfdiglokkceaa
open Go Go.Proofs.Ytjkfdiglokkceaa.Pale
variable {k : Nat} {σ : AMem}

theorem blocksTo_split (ps : List Pg) (i : Nat) : ∀ n, i ≤ n → ∃ rest, blocksTo ps n = blocksTo ps i ++ rest := by
  intro n
  induction n with
  | zero => intro h; exact ⟨[], by rw [show i = 0 by omega]; simp⟩
  | succ n ih =>
    intro h
    by_cases e : i = n + 1
    · exact ⟨[], by rw [e]; simp⟩
    · obtain ⟨rest, h1⟩ := ih (by omega)
      exact ⟨rest ++ pgB n (pgAt ps n), by rw [blocksTo_succ, h1, List.append_assoc]⟩
theorem blocks_split {ps : List Pg} {i : Nat} (hi : i < ps.length) : ∃ rest, blocksL ps = blocksTo ps i ++ (pgB i (pgAt ps i) ++ rest) := by
  obtain ⟨rest, h⟩ := blocksTo_split ps (i + 1) ps.length hi
  exact ⟨rest, by unfold blocksL; rw [h, blocksTo_succ, List.append_assoc]⟩
theorem smallTo_split (i : Nat) (p : Pg) (s : Nat) : ∀ n, s ≤ n → ∃ rest, smallTo i p n = smallTo i p s ++ rest := by
  intro n
  induction n with
  | zero => intro h; exact ⟨[], by rw [show s = 0 by omega]; simp⟩
  | succ n ih =>
    intro h
    by_cases e : s = n + 1
    · exact ⟨[], by rw [e]; simp⟩
    · obtain ⟨rest, h1⟩ := ih (by omega)
      exact ⟨_, by rw [smallTo_succ, h1, List.append_assoc]⟩
theorem slot_split {ps : List Pg} {i s : Nat} (hi : i < ps.length) (hk : (pgAt ps i).kind = 1) (hs : s < (pgAt ps i).used.length) (hu : (pgAt ps i).used[s]?.getD false = true) : ∃ rest, blocksL ps = (blocksTo ps i ++ smallTo i (pgAt ps i) s) ++ slotB i (pgAt ps i) s :: rest := by
  obtain ⟨r1, h1⟩ := blocks_split hi
  obtain ⟨r2, h2⟩ := smallTo_split i (pgAt ps i) (s + 1) (pgAt ps i).used.length hs
  refine ⟨r2 ++ r1, ?_⟩
  rw [h1, pgB, if_neg (by omega), if_pos hk, h2, smallTo_succ, if_pos hu]
  simp
theorem head_split {ps : List Pg} {i : Nat} (hi : i < ps.length) (hk : (pgAt ps i).kind = 2) : ∃ rest, blocksL ps = blocksTo ps i ++ headB i (pgAt ps i) :: rest := by
  obtain ⟨r1, h1⟩ := blocks_split hi
  exact ⟨r1, by rw [h1, pgB, if_pos hk]; rfl⟩
theorem pblk_range {k0 L y low q sp pr wr i : Nat} {pc wc : Option Nat} {its : List MItem} {ps : List Pg} {ws : List Int} {I : Option (List Blk) → List Nat → AMem → Prop} {T0 : Tr AVal} {O : List Nat} (hC : Client k0 L (blocksL ps) I) (hk0 : k0 ≤ k) (hT3 : T0.get 3 = some (.ptr y 0)) (hT5 : T0.get 5 = some (.ptr q 0)) (h : HeapM low σ sp pr pc wr wc its ps ws) (hi : i < its.length) (hi2 : its.length ≤ 1000) (hkd : (pgAt ps i).kind = 1) (hu : (pgAt ps i).used.length ≤ 1000) (hu0 : (pgAt ps i).used ≠ []) (hn : 0 ≤ (pgAt ps i).n ∧ (pgAt ps i).n ≤ 64) (hk : 1000 < k)
    (hT38 : T0.get 38 = some (.func 85 [] [.ptr (q + 1) 0, .ptr (q + 1 + 1) 0, .ptr (q + 1 + 2) 0])) (hnx : σ.next = q + 4) (hyq : y < q)
    (hy : σ.get y = some (.row 1 false [.yield L])) (hq : σ.get q = some (.row 3 true [.int .u8 (pgAt ps i).kind, .int .i64 (pgAt ps i).n, its[i].x]))
    (m1 : σ.get (q + 1) = some (.row 1 false [.ptr sp 0])) (m2 : σ.get (q + 1 + 1) = some (.row 1 false [.int .i64 (i : Nat)])) (m3 : σ.get (q + 1 + 2) = some (.row 1 false [.int .i64 (pgAt ps i).n]))
    (hO : y ∉ O ∧ (∀ r, r ∈ O → r < q) ∧ ∀ r, r ∈ rowsOf its → r ∉ O) (hI : I (some (blocksTo ps i)) O σ)
    {X : Out} (hX : execC lawProg (callN lawProg (k + 2)) (k + 2) 47 53 (.rangeFunc (.tmp 38) #[39] (loopK T0).assign (loopK T0).body) T0 σ = X) :
    ∃ e O' σ', X = some (e, T0, σ') ∧ Fr σ O σ' O' ∧ ((e = .normal ∧ I (some (blocksTo ps i ++ smallTo i (pgAt ps i) (pgAt ps i).used.length)) O' σ') ∨ (e = .ret ∧ I none O' σ')) := by
  rw [← hX]
  have hil := pg_len h.pi
  obtain ⟨ur, uc, hx, hlow, hur, hrow⟩ := own_used h.own h.pi h.ox hi hu0
  rw [hx] at hq
  have hurm : ur ∈ rowsOf its := mem_rowsOf (List.getElem_mem hi) (by rw [hx]; simp [rowOf])
  obtain ⟨σp, hσp⟩ : ∃ s, s = σ.push (.loop (loopK T0)) := ⟨_, rfl⟩
  have hpush : ∀ r, r < σ.next → σp.get r = σ.get r := fun r hr => by rw [hσp, AMem.get_push, if_neg (by omega)]
  have np : σp.next = σ.next + 1 := by rw [hσp]; simp
  have hpe : σp.get σ.next = some (.loop (loopK T0)) := by rw [hσp, AMem.get_push, if_pos rfl]
  have hOe : ∀ r, q ≤ r → r ∉ O := fun r hr hm => by have := hO.2.1 r hm; omega
  have hIp : I (some (blocksTo ps i)) O σp := hC.stable hI (by omega) fun r hr => hpush r (by have := hO.2.1 r hr; omega)
  obtain ⟨σ', hcl, hres⟩ := oslots_exec (k := k + 1) (σ := σp) (L := σ.next) (r0 := q + 1)
    (fun s σ' => ∃ O', Fr σp O σ' O' ∧ I (some (blocksTo ps i ++ smallTo i (pgAt ps i) s)) O' σ')
    (fun s σ' => ∃ O', σ'.get σ.next = some (.loop (loopKd T0)) ∧ σp.next ≤ σ'.next ∧ (∀ r, r < σ.next → r ∉ O → σ'.get r = σp.get r) ∧ (∀ r, r ∈ O' → r ∈ O ∨ σp.next ≤ r) ∧ I none O' σ')
    (by rw [hσp]; exact h.own.ext (Ext.push _ _)) h.pi h.ox hi hi2 hu hu0 hn (by omega) (by rw [hpush _ (by omega)]; exact m1) (fun s σ' hh => by
      obtain ⟨O', hf, _⟩ := hh
      exact ⟨by rw [hf.get _ (by omega) (hOe _ (by omega)), hpush _ (by omega)]; exact m2, by rw [hf.get _ (by omega) (hOe _ (by omega)), hpush _ (by omega)]; exact m3⟩) (fun s σ' hs hh => by
      obtain ⟨O', hf, hi'⟩ := hh
      obtain ⟨v, O2, σ2, r1, r2, r3, r4⟩ := pblk_round (k := k) (σ := σ') (i := i) (s := s) (e := σ.next) (kd := (pgAt ps i).kind) (n := (pgAt ps i).n) hC hk0 hT3 hT5 hs (by rw [hpush _ (by omega)]; exact hy) (by rw [hpush _ (by omega)]; exact hq) (by rw [hpush _ (by omega)]; exact hrow) ⟨by omega, by omega, by omega⟩ ⟨hO.1, hOe _ (by omega), hO.2.2 ur hurm, hOe _ (by omega)⟩ np hpe hf hi' (fun hus => slot_split (by omega) hkd hs hus)
      cases v with
      | true =>
        refine .inl ⟨σ2, by simp only [callN]; exact r1, O2, r3 rfl, ?_⟩
        rw [smallTo_succ, ← List.append_assoc]
        exact r2
      | false =>
        obtain ⟨g1, g2, g3, g4⟩ := r4 rfl
        exact .inr ⟨σ2, by simp only [callN]; exact r1, O2, g1, g2, g3, g4, r2⟩)
    ⟨O, Fr.refl _ _, by simpa [smallTo] using hIp⟩
  have hsE : Fr σ O σp O := by rw [hσp]; exact Fr.ext (Ext.push _ _)
  rw [hσp] at hcl
  rcases hres with ⟨O', hf, hi'⟩ | ⟨s, O', g1, g2, g3, g4, hi'⟩
  · have hfe : σ'.get σ.next = some (.loop (loopK T0)) := by rw [hf.get _ (by omega) (hOe _ (by omega))]; exact hpe
    have key := q_range (A := lawProg) (call := callN lawProg (k + 2)) (k := k + 2) (f := 47) (N := 53) (T := T0) (σ := σ) (g := .tmp 38) (ps := #[39]) (a := (loopK T0).assign) (b := (loopK T0).body) (r := loopK T0) (v := .tuple []) (σ2 := σ') hT38 hcl hfe (by intro h; cases h) rfl
    refine ⟨_, O', _, key, (hsE.trans hf).put _ (Nat.le_refl _), .inl ⟨rfl, hC.stable hi' (by simp) fun r hr => ?_⟩⟩
    rw [AMem.get_put, if_neg]
    rintro rfl
    rcases hf.sub _ hr with h1 | h1
    · exact hOe _ (by omega) h1
    · omega
  · have key := q_range_ret (A := lawProg) (call := callN lawProg (k + 2)) (k := k + 2) (f := 47) (N := 53) (T := T0) (σ := σ) (g := .tmp 38) (ps := #[39]) (a := (loopK T0).assign) (b := (loopK T0).body) (r := loopKd T0) (v := .tuple []) (σ2 := σ') (e := .ret) hT38 hcl g1 (by intro h; cases h) rfl
    have hF : Fr σ O σ' O' := ⟨by omega, fun r hr hn => by rw [g3 r hr hn]; exact hpush r hr, fun r hr => by
      rcases g4 r hr with h1 | h1
      · exact .inl h1
      · exact .inr (by omega)⟩
    refine ⟨_, O', _, key, hF.put _ (Nat.le_refl _), .inr ⟨rfl, hC.stable hi' (by simp) fun r hr => ?_⟩⟩
    rw [AMem.get_put, if_neg]
    rintro rfl
    rcases g4 _ hr with h1 | h1
    · exact hOe _ (by omega) h1
    · omega
/-- The loop over all blocks: its body is called with each, until it says no. -/
theorem pblocks_exec {k0 L low sp pr wr : Nat} {pc wc : Option Nat} {its : List MItem} {ps : List Pg} {ws : List Int} {I : Option (List Blk) → List Nat → AMem → Prop} {O : List Nat} (hC : Client k0 L (blocksL ps) I) (h : HeapM low σ sp pr pc wr wc its ps ws) (hsh : Shape ps) (hl : ps.length ≤ 40) (hk0 : k0 ≤ k) (hk : 1000 < k)
    (hO : sp ∉ O ∧ pr ∉ O ∧ wr ∉ O ∧ ∀ r, r ∈ rowsOf its → r ∉ O) (hI : I (some []) O σ) :
    ∃ O' σ', callN lawProg (k + 3) (.func 47 [] []) [.ptr sp 0, .yield L] σ = some (.tuple [], σ') ∧ Fr σ O σ' O' ∧ (I (some (blocksL ps)) O' σ' ∨ I none O' σ') := by
  have hil := pg_len h.pi
  have hlen := items_len (pg_two h.pi)
  obtain ⟨y, hy⟩ : ∃ y, y = σ.next := ⟨_, rfl⟩
  obtain ⟨σ1, hσ1⟩ : ∃ s, s = σ.push (.row 1 false [.yield L]) := ⟨_, rfl⟩
  have ex1 : Ext σ σ1 := by rw [hσ1]; exact Ext.push _ _
  have n1 : σ1.next = y + 1 := by rw [hσ1, hy]; simp
  have gy : σ1.get y = some (.row 1 false [.yield L]) := by rw [hσ1, hy, AMem.get_push, if_pos rfl]
  have hOy : ∀ r, r ∈ O → r < y := fun r hr => by rw [hy]; exact hC.bound hI r hr
  have hyO : y ∉ O := fun hm => by have := hOy y hm; omega
  have hm1 := h.ext ex1
  have ms1 := hm1.own.ms
  obtain ⟨x1, x2, x3⟩ := h.own.nx
  have hI1 : I (some []) O σ1 := hC.stable hI (by omega) fun r hr => ex1.2 r (by have := hOy r hr; omega)
  have run : ∃ e T1 O' σ', execC lawProg (callN lawProg (k + 2)) (k + 2) 47 53 (bodyOf Try.f47) (initT 0 [.ptr sp 0, .yield L] .nil) σ = some (e, T1, σ') ∧ (e = .normal ∨ e = .ret) ∧ Fr σ O σ' O' ∧ (I (some (blocksL ps)) O' σ' ∨ I none O' σ') := by
    simp only [bodyOf, Try.f47, Option.getD_some, initT, dx, reduceIte, zLt, zLe, zEq, zAd, zMu, zSu, zBe, yEq, yLt, yLe, yTn, reduceCtorEq, sx, fx47, ← hσ1, ← hy, ms1]
    generalize hL : execC _ _ _ _ _ (Code.loop _) _ _ = r
    obtain ⟨e, T', σ', rfl, _, hc⟩ : ∃ e T' σ', r = some (e, T', σ') ∧ e ≠ .normal ∧ ((e = .ret ∧ ∃ O', Fr σ1 O σ' O' ∧ I none O' σ') ∨ (e = .exit 0 ∧ ∃ O', Fr σ1 O σ' O' ∧ I (some (blocksL ps)) O' σ')) := by
      rw [← hL]
      refine exec_loop2 (fun i T σ' => i ≤ ps.length ∧ T.get 0 = some (.ptr sp 0) ∧ T.get 3 = some (.ptr y 0) ∧ T.get 11 = some (.slice pr 0 its.length pc 3) ∧ T.get 12 = some (.int .i64 (its.length : Nat)) ∧ T.get 13 = some (.int .i64 (i : Nat)) ∧ ∃ O', Fr σ1 O σ' O' ∧ I (some (blocksTo ps i)) O' σ') ps.length (by omega) ?_ ?_ ?_
      · rintro i hi T σ0 ⟨_, t0, t3, t11, t12, t13, O', hF, hI'⟩
        have hii : i < its.length := by omega
        have hlt : ((i : Nat) : Int) < ((its.length : Nat) : Int) := by omega
        have hw' := i64_succ (i := i) (by omega)
        have hload := pg_load h.pi hii
        have hFn := hF.nx
        have g0 : ∀ r, r < y + 1 → r ∉ O → σ0.get r = σ1.get r := fun r hr hn => hF.get r (by omega) hn
        have hO' : ∀ r, r < y + 1 → r ∉ O → r ∉ O' := fun r hr hn hm => by
          rcases hF.sub r hm with h1 | h1
          · exact hn h1
          · omega
        have hrb : ∀ r, r ∈ rowsOf its → r < y := fun r hr => by rw [hy]; exact (h.own.it.bound r hr).2
        have hm0 : HeapM low σ0 sp pr pc wr wc its ps ws := by
          refine ⟨⟨by rw [g0 sp (by omega) hO.1]; exact ms1, by rw [g0 pr (by omega) hO.2.1]; exact hm1.own.mp, by rw [g0 wr (by omega) hO.2.2.1]; exact hm1.own.mw, hm1.own.it.same (Nat.le_refl _) hFn (fun r hr => g0 r (by have := hrb r hr; omega) (hO.2.2.2 r hr)) hm1.own.it.2.2, h.own.ns, h.own.nw, h.own.ne, h.own.lo, ⟨by omega, by omega, by omega⟩⟩, h.pi, h.ox⟩
        have mp0 := hm0.own.mp
        have hin : i * 3 + 3 ≤ its.length * 3 := by omega
        have hone : its[i].x.oneCell = true := by
          rcases (h.own.it.1 its[i] (List.getElem_mem hii)).2.2 with ⟨_, e⟩ | ⟨_, _, e, _⟩ <;> rw [e] <;> rfl
        have gy0 : σ0.get y = some (.row 1 false [.yield L]) := by rw [g0 y (by omega) hyO]; exact gy
        obtain ⟨q, hqd⟩ : ∃ q, q = σ0.next := ⟨_, rfl⟩
        obtain ⟨σ2, hσ2⟩ : ∃ m, m = (σ0.push (.row 3 true [.int .u8 0, .int .i64 0, .vs .nil []])).put σ0.next (.row 3 true [.int .u8 (pgAt ps i).kind, .int .i64 (pgAt ps i).n, its[i].x]) := ⟨_, rfl⟩
        have n2 : σ2.next = q + 1 := by rw [hσ2, hqd]; simp
        have ex2 : Ext σ0 σ2 := by rw [hσ2]; exact (Ext.push _ _).put _ _ (by omega)
        have gq : σ2.get q = some (.row 3 true [.int .u8 (pgAt ps i).kind, .int .i64 (pgAt ps i).n, its[i].x]) := by rw [hσ2, hqd, AMem.get_put, if_pos rfl]
        have gy2 : σ2.get y = some (.row 1 false [.yield L]) := by rw [ex2.2 y (by omega)]; exact gy0
        have hO'q : ∀ r, r ∈ O' → r < q := fun r hr => by rw [hqd]; exact hC.bound hI' r hr
        have hI2 : I (some (blocksTo ps i)) O' σ2 := hC.stable hI' ex2.1 fun r hr => ex2.2 r (hC.bound hI' r hr)
        have hF2 : Fr σ1 O σ2 O' := hF.trans (Fr.ext ex2)
        by_cases k2 : (pgAt ps i).kind = 2
        · have hb1 : ((pgAt ps i).kind == 2) = true := by rw [k2]; rfl
          have hb2 : ((pgAt ps i).kind != 1) = true := by rw [k2]; rfl
          obtain ⟨rest, hsp⟩ := head_split (ps := ps) hi k2
          obtain ⟨hd1, hd2, _⟩ := head_more hsh hi k2
          have w1 : IntKind.i64.wrap (((i : Nat) : Int) * 64) = 64 * (i : Int) := by rw [i64_id (by omega) (by omega)]; omega
          have w2 : IntKind.i64.wrap ((pgAt ps i).n * 64) = 64 * (pgAt ps i).n := by rw [i64_id (by omega) (by omega)]; omega
          obtain ⟨v, O2, σ3, hcall, hI3, hF3⟩ := hC.step (k := k + 2) hsp (by omega) hI2
          have hF4 := hF2.trans hF3
          have hsucc : blocksTo ps (i + 1) = blocksTo ps i ++ [headB i (pgAt ps i)] := by rw [blocksTo_succ, pgB, if_pos k2]
          have hcall' : callN lawProg (k + 2) (.yield L) [.agg [.int .i64 (i : Nat), .int .i64 0, .int .i64 (64 * (i : Int)), .int .i64 (64 * (pgAt ps i).n)]] σ2 = some (.bool v, σ3) := hcall
          have gq3 : σ3.get q = some (.row 3 true [.int .u8 (pgAt ps i).kind, .int .i64 (pgAt ps i).n, its[i].x]) := by rw [hF3.get q (by omega) (fun hm => by have := hO'q q hm; omega)]; exact gq
          cases v with
          | true =>
            refine .inl ⟨_, _, by
              simp only [dx, reduceIte, zLt, zLe, zEq, zAd, zMu, zSu, zBe, yEq, yLt, yLe, yTn, reduceCtorEq, sx, fx47, Nat.add_assoc, Nat.add_eq_left, Nat.left_eq_add, Nat.add_left_cancel_iff, t0, t3, t11, t12, t13, mp0, hlt, hlen, hin, hload, hone, Int.natCast_nonneg, Int.toNat_natCast, ← hσ2]
              simp only [dx, reduceIte, zLt, zLe, zEq, zAd, zMu, zSu, zBe, yEq, yLt, yLe, yTn, reduceCtorEq, sx, fx47, t0, t3, t11, t12, t13, ← hqd, gq, gy2, hb1, hb2, w1, w2, hcall', gq3, hw']
              rfl, by omega, ?_, ?_, ?_, ?_, ?_, O2, hF4, by rw [hsucc]; exact hI3⟩
            · simp only [Tr.get_set, zEq, reduceIte, t0]
            · simp only [Tr.get_set, zEq, reduceIte, t3]
            · simp only [Tr.get_set, zEq, reduceIte, t11]
            · simp only [Tr.get_set, zEq, reduceIte, t12]
            · simp only [Tr.get_set, zEq, reduceIte]
          | false =>
            exact .inr ⟨_, _, _, by
              simp only [dx, reduceIte, zLt, zLe, zEq, zAd, zMu, zSu, zBe, yEq, yLt, yLe, yTn, reduceCtorEq, sx, fx47, Nat.add_assoc, Nat.add_eq_left, Nat.left_eq_add, Nat.add_left_cancel_iff, t0, t3, t11, t12, t13, mp0, hlt, hlen, hin, hload, hone, Int.natCast_nonneg, Int.toNat_natCast, ← hσ2]
              simp only [dx, reduceIte, zLt, zLe, zEq, zAd, zMu, zSu, zBe, yEq, yLt, yLe, yTn, reduceCtorEq, sx, fx47, t0, t3, t11, t12, t13, ← hqd, gq, gy2, hb1, hb2, w1, w2, hcall']
              rfl, by simp, .inl ⟨rfl, O2, hF4, hI3⟩⟩
        · have hb1 : ((pgAt ps i).kind == 2) = false := by rw [beq_eq_false_iff_ne]; exact k2
          by_cases k1 : (pgAt ps i).kind = 1
          · have hb2 : ((pgAt ps i).kind != 1) = false := by rw [k1]; rfl
            have hsc := small_cases (hsh i hi) k1
            have hu0 : (pgAt ps i).used ≠ [] := fun e => by rw [e] at hsc; simp at hsc
            have hm2 := hm0.ext ex2
            obtain ⟨σ3, e3, x3, n3, g3, g4, g5⟩ := oslots_make (k := k + 1) (σ := σ2) hm2.own h.pi hii
            rw [n2] at e3 n3 g3 g4 g5
            have hI3 : I (some (blocksTo ps i)) O' σ3 := hC.stable hI2 x3.1 fun r hr => x3.2 r (by have := hO'q r hr; omega)
            have gy3 : σ3.get y = some (.row 1 false [.yield L]) := by rw [x3.2 y (by omega)]; exact gy2
            have gq3 : σ3.get q = some (.row 3 true [.int .u8 (pgAt ps i).kind, .int .i64 (pgAt ps i).n, its[i].x]) := by rw [x3.2 q (by omega)]; exact gq
            simp only [dx, reduceIte, zLt, zLe, zEq, zAd, zMu, zSu, zBe, yEq, yLt, yLe, yTn, reduceCtorEq, sx, fx47, Nat.add_assoc, Nat.add_eq_left, Nat.left_eq_add, Nat.add_left_cancel_iff, t0, t3, t11, t12, t13, mp0, hlt, hlen, hin, hload, hone, Int.natCast_nonneg, Int.toNat_natCast, ← hσ2]
            simp only [dx, reduceIte, zLt, zLe, zEq, zAd, zMu, zSu, zBe, yEq, yLt, yLe, yTn, reduceCtorEq, sx, fx47, t0, t3, t11, t12, t13, ← hqd, gq, gy2, hb1, hb2, e3]
            generalize hR : execC _ _ _ _ _ (Code.rangeFunc _ _ _ _) _ _ = r
            have hrng := fun (T0 : Tr AVal) (X : Out) a b d (hX : _ = X) => pblk_range (T0 := T0) (q := q) (k := k) (X := X) hC hk0 a b (hm2.ext x3) hii (by omega) k1 (by rcases hsc with ⟨_, h⟩ | ⟨_, h⟩ | ⟨_, h⟩ | ⟨_, h⟩ | ⟨_, h⟩ <;> omega) hu0 (by rcases hsc with ⟨h, _⟩ | ⟨h, _⟩ | ⟨h, _⟩ | ⟨h, _⟩ | ⟨h, _⟩ <;> omega) hk d (by omega) (by omega) gy3 gq3 g3 g4 g5 ⟨hO' y (by omega) hyO, hO'q, fun r hr => hO' r (by have := hrb r hr; omega) (hO.2.2.2 r hr)⟩ hI3 hX
            obtain ⟨e, O2, σ4, rfl, z1, z2⟩ := hrng _ _ (by simp only [Tr.get_set, zEq, reduceIte, t3]) (by simp only [Tr.get_set, zEq, reduceIte]) (by simp only [Tr.get_set, zEq, reduceIte]) hR
            have hF4 : Fr σ1 O σ4 O2 := (hF2.trans (Fr.ext x3)).trans z1
            have hsucc : blocksTo ps (i + 1) = blocksTo ps i ++ smallTo i (pgAt ps i) (pgAt ps i).used.length := by rw [blocksTo_succ, pgB, if_neg k2, if_pos k1]
            rcases z2 with ⟨rfl, hI4⟩ | ⟨rfl, hI4⟩
            · refine .inl ⟨_, _, by
                simp only [dx, reduceIte, zLt, zLe, zEq, zAd, zMu, zSu, zBe, yEq, yLt, yLe, yTn, reduceCtorEq, sx, fx47, t13, hw']
                rfl, by omega, ?_, ?_, ?_, ?_, ?_, O2, hF4, by rw [hsucc]; exact hI4⟩
              · simp only [Tr.get_set, zEq, reduceIte, t0]
              · simp only [Tr.get_set, zEq, reduceIte, t3]
              · simp only [Tr.get_set, zEq, reduceIte, t11]
              · simp only [Tr.get_set, zEq, reduceIte, t12]
              · simp only [Tr.get_set, zEq, reduceIte]
            · exact .inr ⟨_, _, _, by
                simp only [dx, reduceIte, zLt, zLe, zEq, zAd, zMu, zSu, zBe, yEq, yLt, yLe, yTn, reduceCtorEq, sx, fx47]
                rfl, by simp, .inl ⟨rfl, O2, hF4, hI4⟩⟩
          · have hb2 : ((pgAt ps i).kind != 1) = true := by rw [bne_iff_ne]; exact k1
            have hsucc : blocksTo ps (i + 1) = blocksTo ps i := by rw [blocksTo_succ, pgB, if_neg k2, if_neg k1, List.append_nil]
            refine .inl ⟨_, _, by
              simp only [dx, reduceIte, zLt, zLe, zEq, zAd, zMu, zSu, zBe, yEq, yLt, yLe, yTn, reduceCtorEq, sx, fx47, Nat.add_assoc, Nat.add_eq_left, Nat.left_eq_add, Nat.add_left_cancel_iff, t0, t3, t11, t12, t13, mp0, hlt, hlen, hin, hload, hone, Int.natCast_nonneg, Int.toNat_natCast, ← hσ2]
              simp only [dx, reduceIte, zLt, zLe, zEq, zAd, zMu, zSu, zBe, yEq, yLt, yLe, yTn, reduceCtorEq, sx, fx47, t0, t3, t11, t12, t13, ← hqd, gq, hb1, hb2, hw']
              rfl, by omega, ?_, ?_, ?_, ?_, ?_, O', hF2, by rw [hsucc]; exact hI2⟩
            · simp only [Tr.get_set, zEq, reduceIte, t0]
            · simp only [Tr.get_set, zEq, reduceIte, t3]
            · simp only [Tr.get_set, zEq, reduceIte, t11]
            · simp only [Tr.get_set, zEq, reduceIte, t12]
            · simp only [Tr.get_set, zEq, reduceIte]
      · rintro T σ0 ⟨_, t0, t3, t11, t12, t13, O', hF, hI'⟩
        have hge : ¬ (((ps.length : Nat) : Int) < ((its.length : Nat) : Int)) := by omega
        exact ⟨_, _, _, by
          simp only [dx, reduceIte, zLt, zLe, zEq, zAd, zMu, zSu, zBe, yEq, yLt, yLe, yTn, reduceCtorEq, sx, fx47, t12, t13, hge]
          rfl, by simp, .inr ⟨rfl, O', hF, hI'⟩⟩
      · refine ⟨Nat.zero_le _, ?_, ?_, ?_, ?_, ?_, O, Fr.refl _ _, hI1⟩
        all_goals simp only [Tr.get_set, zEq, reduceIte] <;> rfl
    rcases hc with ⟨rfl, O', h1, h2⟩ | ⟨rfl, O', h1, h2⟩
    · simp only [dx, reduceIte, zLt, zLe, zEq, zAd, zMu, zSu, zBe, yEq, yLt, yLe, yTn, reduceCtorEq, sx, fx47]
      exact ⟨_, _, O', _, rfl, .inr rfl, (Fr.ext ex1).trans h1, .inr h2⟩
    · simp only [dx, reduceIte, zLt, zLe, zEq, zAd, zMu, zSu, zBe, yEq, yLt, yLe, yTn, reduceCtorEq, sx, fx47]
      exact ⟨_, _, O', _, rfl, .inl rfl, (Fr.ext ex1).trans h1, .inl h2⟩
  obtain ⟨e, T1, O', σ', r1, r2, r3, r4⟩ := run
  refine ⟨O', σ', q_call (first := []) (caps := []) (vs := []) fn47 rfl (by simp [Try.f47]) r1 (fun i hc => ?_) rfl, r3, r4⟩
  rcases r2 with rfl | rfl <;> cases hc
end Go.Proofs.Ytjkfdiglokkceaa

/- Heaps: the program's find. -/
set_option maxRecDepth 100000
set_option linter.unusedSimpArgs false
set_option linter.unusedVariables false
namespace Go.Proofs.Ytjkfdiglokkceaa
open Go Go.Proofs.Ytjkfdiglokkceaa.Pale
variable {k : Nat} {σ : AMem}

theorem call_first {A : AProg} {f : Nat} {a : AVal} {args : List AVal} : callN A (k + 1) (.func f [a] []) args σ = callN A (k + 1) (.func f [] []) (a :: args) σ := by
  simp only [callN, List.nil_append, List.cons_append, List.append_nil]
noncomputable def loopF (T0 : Tr AVal) : ALoop := rfLoop Try.f60 60 T0
noncomputable def loopFd (T0 : Tr AVal) : ALoop := { loopF T0 with state := .done, pending := some .ret }
def blk0 : List AVal := [.int .i64 0, .int .i64 0, .int .i64 0, .int .i64 0]
theorem find_client {T0 : Tr AVal} {y L : Nat} {a : Int} {bs : List Blk} (hT3 : T0.get 3 = some (.ptr y 0)) (hT4 : T0.get 4 = some (.ptr (y + 1) 0)) (hT5 : T0.get 5 = some (.ptr (y + 2) 0)) (hL : L = y + 3) : Client 1 L bs (fun x O σ => O = [y, y + 1, y + 2, L] ∧ L < σ.next ∧ σ.get y = some (.row 1 false [.int .i64 a]) ∧ match x with
    | some d => (∀ b, b ∈ d → b.at_ ≠ a) ∧ σ.get (y + 1) = some (.row 4 true blk0) ∧ σ.get (y + 2) = some (.row 1 false [.bool false]) ∧ σ.get L = some (.loop (loopF T0))
    | none => ∃ b, bs.find? (fun b => b.at_ == a) = some b ∧ σ.get (y + 1) = some (.row 4 true (blkC b)) ∧ σ.get (y + 2) = some (.row 1 false [.bool true]) ∧ σ.get L = some (.loop (loopFd T0))) := by
  refine ⟨?_, ?_, ?_⟩
  · rintro x O σ σ' ⟨rfl, h1, h2, h3⟩ hn hs
    have g0 := hs y (by simp)
    have g1 := hs (y + 1) (by simp)
    have g2 := hs (y + 2) (by simp)
    have g3 := hs L (by simp)
    refine ⟨rfl, by omega, by rw [g0]; exact h2, ?_⟩
    cases x with
    | some d => exact ⟨h3.1, by rw [g1]; exact h3.2.1, by rw [g2]; exact h3.2.2.1, by rw [g3]; exact h3.2.2.2⟩
    | none =>
      obtain ⟨b, h4, h5, h6, h7⟩ := h3
      exact ⟨b, h4, by rw [g1]; exact h5, by rw [g2]; exact h6, by rw [g3]; exact h7⟩
  · rintro x O σ ⟨rfl, h1, _⟩ r hr
    simp only [List.mem_cons, List.not_mem_nil, or_false] at hr
    omega
  · rintro k d b rest O σ hbs hk ⟨rfl, h1, my, hd, mc, mb, ml⟩
    obtain ⟨k, rfl⟩ : ∃ m, k = m + 1 := ⟨k - 1, by omega⟩
    obtain ⟨c, hc⟩ : ∃ c, c = σ.next := ⟨_, rfl⟩
    obtain ⟨B, hB⟩ : ∃ B, B = busyOf (loopF T0) := ⟨_, rfl⟩
    obtain ⟨σ1, hσ1⟩ : ∃ s, s = (σ.push (.row 4 true blk0)).put σ.next (.row 4 true (blkC b)) := ⟨_, rfl⟩
    have ex1 : Ext σ σ1 := by rw [hσ1]; exact (Ext.push _ _).put _ _ (by omega)
    have gd : σ1.get c = some (.row 4 true (blkC b)) := by rw [hσ1, hc, AMem.get_put, if_pos rfl]
    have n1 : σ1.next = c + 1 := by rw [hσ1, hc]; simp
    have ha : ∃ T1, execC lawProg (callN lawProg k) k 60 16 (loopF T0).assign (setParams T0 (loopF T0).params [.agg (blkC b)]) σ = some (.normal, T1, σ1) ∧ T1.get 3 = some (.ptr y 0) ∧ T1.get 4 = some (.ptr (y + 1) 0) ∧ T1.get 5 = some (.ptr (y + 2) 0) ∧ T1.get 6 = some (.ptr c 0) := by
      rw [hσ1, hc]
      simp only [loopF, rfLoop, bodyOf, Try.f60, Option.getD_some, rfOf]
      simp only [dx, reduceIte, zLt, zLe, zEq, zAd, zMu, zSu, zBe, yEq, yLt, yLe, yTn, reduceCtorEq, sx, fx60, blkC, blk0]
      exact ⟨_, rfl, by simp only [Tr.get_set, zEq, reduceIte, hT3], by simp only [Tr.get_set, zEq, reduceIte, hT4], by simp only [Tr.get_set, zEq, reduceIte, hT5], by simp only [Tr.get_set, zEq, reduceIte]⟩
    obtain ⟨T1, ha, u3, u4, u5, u6⟩ := ha
    obtain ⟨σb, hσb⟩ : ∃ s, s = σ1.put L (.loop B) := ⟨_, rfl⟩
    have gb : ∀ r, r < c → r ≠ L → σb.get r = σ.get r := fun r hr hne => by rw [hσb, AMem.get_put, if_neg (fun h => hne h.symm)]; exact ex1.2 r (by omega)
    have gbc : σb.get c = some (.row 4 true (blkC b)) := by rw [hσb, AMem.get_put, if_neg (by omega)]; exact gd
    have nb : σb.next = c + 1 := by rw [hσb]; simpa using n1
    have be : σb.get L = some (.loop B) := by rw [hσb, AMem.get_put, if_pos rfl]
    have by0 : σb.get y = some (.row 1 false [.int .i64 a]) := by rw [gb y (by omega) (by omega)]; exact my
    have by1 : σb.get (y + 1) = some (.row 4 true blk0) := by rw [gb (y + 1) (by omega) (by omega)]; exact mc
    have by2 : σb.get (y + 2) = some (.row 1 false [.bool false]) := by rw [gb (y + 2) (by omega) (by omega)]; exact mb
    have hz1 : loopF T0 = { B with state := .ready, pending := none } := by rw [hB]; rfl
    have hz2 : loopFd T0 = { B with state := .done, pending := some .ret } := by rw [hB]; rfl
    have q1 : ¬ y + 1 = y + 2 := by omega
    have q2 : ¬ y + 2 = y + 1 := by omega
    have q3 : ¬ y + 1 = c := by omega
    by_cases he : b.at_ = a
    · have hb1 : (b.at_ == a) = true := by rw [he]; simp
      obtain ⟨σ2, hσ2⟩ : ∃ m, m = (σb.put (y + 1) (.row 4 true (blkC b))).put (y + 2) (.row 1 false [.bool true]) := ⟨_, rfl⟩
      have hb2 : ∃ T2, execC lawProg (callN lawProg k) k 60 16 (loopF T0).body T1 σb = some (.ret, T2, σ2) := by
        rw [hσ2]
        unfold blkC blk0 at *
        simp only [loopF, rfLoop, bodyOf, Try.f60, Option.getD_some, rfOf]
        simp only [dx, reduceIte, zLt, zLe, zEq, zAd, zMu, zSu, zBe, yEq, yLt, yLe, yTn, reduceCtorEq, sx, fx60, u3, u4, u5, u6, gbc, by0, by1, by2, q1, q2, q3, hb1]
        exact ⟨_, rfl⟩
      obtain ⟨T2, hb2⟩ := hb2
      have g2 : ∀ r, r ≠ y + 1 → r ≠ y + 2 → σ2.get r = σb.get r := fun r h1 h2 => by rw [hσ2, AMem.get_put, if_neg (fun h => h2 h.symm), AMem.get_put, if_neg (fun h => h1 h.symm)]
      have key := round_ret (A := lawProg) (call := callN lawProg k) (k := k) (σ := σ) (l := L) (r := loopF T0) (T1 := T1) (T2 := T2) (σ1 := σ1) ml rfl rfl rfl ha (by rw [ex1.2 L (by omega)]; exact ml) (by rw [← hB, ← hσb]; exact hb2) (r2 := B) (by rw [g2 L (by omega) (by omega)]; exact be)
      rw [← hz2] at key
      refine ⟨false, [y, y + 1, y + 2, L], _, by simp only [callN]; exact key, ?_, ⟨?_, fun r hr hn => ?_, fun r hr => .inl hr⟩⟩
      · simp only [Bool.false_eq_true, if_false]
        refine ⟨trivial, ?_, ?_, b, ?_, ?_, ?_, ?_⟩
        · rw [hσ2]; simp only [AMem.next_put]; omega
        · rw [AMem.get_put, if_neg (by omega), g2 y (by omega) (by omega)]; exact by0
        · rw [hbs, List.find?_append, List.find?_eq_none.2 (fun x hx => by simpa using hd x hx), List.find?_cons, hb1]
          rfl
        · rw [AMem.get_put, if_neg (by omega), hσ2, AMem.get_put, if_neg (by omega), AMem.get_put, if_pos rfl]
        · rw [AMem.get_put, if_neg (by omega), hσ2, AMem.get_put, if_pos rfl]
        · rw [AMem.get_put, if_pos rfl]
      · rw [hσ2]; simp only [AMem.next_put]; omega
      · simp only [List.mem_cons, List.not_mem_nil, or_false, not_or] at hn
        rw [AMem.get_put, if_neg (by omega), g2 r hn.2.1 hn.2.2.1]
        exact gb r (by omega) hn.2.2.2
    · have hb1 : (b.at_ == a) = false := by rw [beq_eq_false_iff_ne]; exact he
      have hb2 : ∃ T2, execC lawProg (callN lawProg k) k 60 16 (loopF T0).body T1 σb = some (.normal, T2, σb) := by
        unfold blkC blk0 at *
        simp only [loopF, rfLoop, bodyOf, Try.f60, Option.getD_some, rfOf]
        simp only [dx, reduceIte, zLt, zLe, zEq, zAd, zMu, zSu, zBe, yEq, yLt, yLe, yTn, reduceCtorEq, sx, fx60, u3, u4, u5, u6, gbc, by0, hb1]
        exact ⟨_, rfl⟩
      obtain ⟨T2, hb2⟩ := hb2
      have key := round_body (A := lawProg) (call := callN lawProg k) (k := k) (σ := σ) (l := L) (r := loopF T0) (T1 := T1) (T2 := T2) (σ1 := σ1) ml rfl rfl rfl ha (by rw [ex1.2 L (by omega)]; exact ml) (by rw [← hB, ← hσb]; exact hb2) (r2 := B) be
      rw [← hz1] at key
      refine ⟨true, [y, y + 1, y + 2, L], _, by simp only [callN]; exact key, ?_, ⟨?_, fun r hr hn => ?_, fun r hr => .inl hr⟩⟩
      · simp only [if_true]
        refine ⟨trivial, ?_, ?_, ?_, ?_, ?_, ?_⟩
        · simp only [AMem.next_put]; omega
        · rw [AMem.get_put, if_neg (by omega)]; exact by0
        · intro x hx
          rcases List.mem_append.1 hx with h | h
          · exact hd x h
          · simp only [List.mem_singleton] at h; rw [h]; exact he
        · rw [AMem.get_put, if_neg (by omega)]; exact by1
        · rw [AMem.get_put, if_neg (by omega)]; exact by2
        · rw [AMem.get_put, if_pos rfl]
      · simp only [AMem.next_put]; omega
      · simp only [List.mem_cons, List.not_mem_nil, or_false, not_or] at hn
        rw [AMem.get_put, if_neg (by omega)]
        exact gb r (by omega) hn.2.2.2
theorem find_exec {low sp pr wr : Nat} {pc wc : Option Nat} {its : List MItem} {ps : List Pg} {ws : List Int} {a : Int} (h : HeapM low σ sp pr pc wr wc its ps ws) (hsh : Shape ps) (hl : ps.length ≤ 40) (hk : 2000 ≤ k) :
    ∃ σ', callN lawProg (k + 1) (.func 60 [] []) [.ptr sp 0, .int .i64 a] σ = some (.tuple [.agg (blkC ((findL ps a).getD noBlk)), .bool (findL ps a).isSome], σ') ∧ Ext σ σ' := by
  obtain ⟨y, hy⟩ : ∃ y, y = σ.next := ⟨_, rfl⟩
  obtain ⟨σ1, hσ1⟩ : ∃ s, s = ((σ.push (.row 1 false [.int .i64 a])).push (.row 4 true blk0)).push (.row 1 false [.bool false]) := ⟨_, rfl⟩
  have n1 : σ1.next = y + 3 := by rw [hσ1, hy]; simp
  have ex1 : Ext σ σ1 := by rw [hσ1]; exact ((Ext.push _ _).trans (Ext.push _ _)).trans (Ext.push _ _)
  have g0 : σ1.get y = some (.row 1 false [.int .i64 a]) := by rw [hσ1, hy, AMem.get_push, if_neg (by simp only [AMem.next_push]; omega), AMem.get_push, if_neg (by simp only [AMem.next_push]; omega), AMem.get_push, if_pos rfl]
  have g1 : σ1.get (y + 1) = some (.row 4 true blk0) := by rw [hσ1, hy, AMem.get_push, if_neg (by simp only [AMem.next_push]; omega), AMem.get_push, if_pos (by simp)]
  have g2 : σ1.get (y + 2) = some (.row 1 false [.bool false]) := by rw [hσ1, hy, AMem.get_push, if_pos (by simp)]
  obtain ⟨x1, x2, x3⟩ := h.own.nx
  have run : ∃ T1 σ', execC lawProg (callN lawProg k) k 60 16 (bodyOf Try.f60) (initT 0 [.ptr sp 0, .int .i64 a] .nil) σ = some (.ret, T1, σ') ∧ T1.get 4 = some (.ptr (y + 1) 0) ∧ T1.get 5 = some (.ptr (y + 2) 0) ∧ σ'.get (y + 1) = some (.row 4 true (blkC ((findL ps a).getD noBlk))) ∧ σ'.get (y + 2) = some (.row 1 false [.bool (findL ps a).isSome]) ∧ Ext σ σ' := by
    have hσ1' := hσ1
    unfold blk0 at hσ1'
    simp only [bodyOf, Try.f60, Option.getD_some, initT, dx, reduceIte, zLt, zLe, zEq, zAd, zMu, zSu, zBe, yEq, yLt, yLe, yTn, reduceCtorEq, sx, fx60, ← hσ1', ← hy]
    have e1 : y + 1 = σ.next + 1 := by omega
    generalize hR : execC _ _ _ _ _ (Code.rangeFunc _ _ _ _) _ _ = r
    have hrng : ∀ (T0 : Tr AVal) (X : Out), T0.get 3 = some (.ptr y 0) → T0.get 4 = some (.ptr (y + 1) 0) → T0.get 5 = some (.ptr (y + 2) 0) → T0.get 8 = some (.func 47 [.ptr sp 0] []) → execC lawProg (callN lawProg k) k 60 16 (.rangeFunc (.tmp 8) #[9] (loopF T0).assign (loopF T0).body) T0 σ1 = X → ∃ e σ', X = some (e, T0, σ') ∧ (∀ r, r < σ.next → σ'.get r = σ.get r) ∧ y + 3 ≤ σ'.next ∧ ((e = .normal ∧ findL ps a = none ∧ σ'.get (y + 1) = some (.row 4 true blk0) ∧ σ'.get (y + 2) = some (.row 1 false [.bool false])) ∨ (e = .ret ∧ ∃ b, findL ps a = some b ∧ σ'.get (y + 1) = some (.row 4 true (blkC b)) ∧ σ'.get (y + 2) = some (.row 1 false [.bool true]))) := by
      intro T0 X t3 t4 t5 t8 hX
      rw [← hX]
      obtain ⟨σp, hσp⟩ : ∃ s, s = σ1.push (.loop (loopF T0)) := ⟨_, rfl⟩
      have np : σp.next = y + 4 := by rw [hσp]; simp only [AMem.next_push]; omega
      have exp : Ext σ1 σp := by rw [hσp]; exact Ext.push _ _
      have gL : σp.get (y + 3) = some (.loop (loopF T0)) := by rw [hσp, AMem.get_push, if_pos (by omega)]
      have hmem : ∀ r, r < y → r ∉ [y, y + 1, y + 2, y + 3] := fun r hr hm => by
        simp only [List.mem_cons, List.not_mem_nil, or_false] at hm
        omega
      obtain ⟨O', σ', hcl, hF, hres⟩ := pblocks_exec (k := k - 3) (σ := σp) (O := [y, y + 1, y + 2, y + 3]) (find_client (bs := blocksL ps) (a := a) t3 t4 t5 rfl) ((h.ext ex1).ext exp) hsh hl (by omega) (by omega) ⟨hmem _ (by omega), hmem _ (by omega), hmem _ (by omega), fun r hr => hmem r (by rw [hy]; exact (h.own.it.bound r hr).2)⟩ ⟨rfl, by omega, by rw [exp.2 y (by omega)]; exact g0, (fun b hb => by cases hb), by rw [exp.2 _ (by omega)]; exact g1, by rw [exp.2 _ (by omega)]; exact g2, gL⟩
      rw [show k - 3 + 3 = k by omega] at hcl
      have hcl' : callN lawProg k (.func 47 [.ptr sp 0] []) [.yield σ1.next] (σ1.push (.loop (loopF T0))) = some (.tuple [], σ') := by
        obtain ⟨m, hm⟩ : ∃ m, k = m + 1 := ⟨k - 1, by omega⟩
        rw [hm, call_first, ← hm, ← hσp, n1]
        exact hcl
      have hfr : ∀ r, r < σ.next → σ'.get r = σ.get r := fun r hr => by rw [hF.get r (by omega) (hmem r (by omega)), exp.2 r (by omega), ex1.2 r hr]
      have hnx := hF.nx
      rcases hres with ⟨_, h1, h2, h3, h4, h5, h6⟩ | ⟨_, h1, h2, b, h3, h4, h5, h6⟩
      · have key := q_range (A := lawProg) (call := callN lawProg k) (k := k) (f := 60) (N := 16) (T := T0) (σ := σ1) (g := .tmp 8) (ps := #[9]) (a := (loopF T0).assign) (b := (loopF T0).body) (r := loopF T0) (v := .tuple []) (σ2 := σ') t8 hcl' (by rw [n1]; exact h6) (by intro h; cases h) rfl
        refine ⟨_, _, key, fun r hr => by rw [AMem.get_put, if_neg (by omega)]; exact hfr r hr, by simp only [AMem.next_put]; omega, .inl ⟨rfl, ?_, ?_, ?_⟩⟩
        · unfold findL
          rw [List.find?_eq_none]
          intro x hx
          simpa using h3 x hx
        · rw [AMem.get_put, if_neg (by omega)]; exact h4
        · rw [AMem.get_put, if_neg (by omega)]; exact h5
      · have key := q_range_ret (A := lawProg) (call := callN lawProg k) (k := k) (f := 60) (N := 16) (T := T0) (σ := σ1) (g := .tmp 8) (ps := #[9]) (a := (loopF T0).assign) (b := (loopF T0).body) (r := loopFd T0) (v := .tuple []) (σ2 := σ') (e := .ret) t8 hcl' (by rw [n1]; exact h6) (by intro h; cases h) rfl
        refine ⟨_, _, key, fun r hr => by rw [AMem.get_put, if_neg (by omega)]; exact hfr r hr, by simp only [AMem.next_put]; omega, .inr ⟨rfl, b, h3, ?_, ?_⟩⟩
        · rw [AMem.get_put, if_neg (by omega)]; exact h4
        · rw [AMem.get_put, if_neg (by omega)]; exact h5
    obtain ⟨e, σ', rfl, z1, z2, z3⟩ := hrng _ _ (by simp only [Tr.get_set, zEq, reduceIte]) (by simp only [Tr.get_set, zEq, reduceIte]) (by simp only [Tr.get_set, zEq, reduceIte]) (by simp only [Tr.get_set, zEq, reduceIte]) hR
    rcases z3 with ⟨rfl, f1, f2, f3⟩ | ⟨rfl, b, f1, f2, f3⟩
    · unfold blk0 at f2
      have q1 : ¬ y + 1 = y + 2 := by omega
      have q2 : ¬ y + 2 = y + 1 := by omega
      simp only [dx, reduceIte, zLt, zLe, zEq, zAd, zMu, zSu, zBe, yEq, yLt, yLe, yTn, reduceCtorEq, sx, fx60, f2, f3, q1, q2]
      refine ⟨_, _, rfl, by simp only [Tr.get_set, zEq, reduceIte], by simp only [Tr.get_set, zEq, reduceIte], ?_, ?_, ⟨by simp only [AMem.next_put]; omega, fun r hr => ?_⟩⟩
      · rw [f1, AMem.get_put, if_neg (by omega), AMem.get_put, if_pos rfl]; rfl
      · rw [f1, AMem.get_put, if_pos rfl]; rfl
      · rw [AMem.get_put, if_neg (by omega), AMem.get_put, if_neg (by omega)]; exact z1 r hr
    · simp only [dx, reduceIte, zLt, zLe, zEq, zAd, zMu, zSu, zBe, yEq, yLt, yLe, yTn, reduceCtorEq, sx, fx60]
      exact ⟨_, _, rfl, by simp only [Tr.get_set, zEq, reduceIte], by simp only [Tr.get_set, zEq, reduceIte], by rw [f1]; exact f2, by rw [f1]; exact f3, ⟨by omega, z1⟩⟩
  obtain ⟨T1, σ', h1, h2, h3, h4, h5, h6⟩ := run
  refine ⟨σ', q_call (first := []) (caps := []) (vs := [.agg (blkC ((findL ps a).getD noBlk)), .bool (findL ps a).isSome]) fn60 rfl (by simp [Try.f60]) h1 (by simp) ?_, h6⟩
  simp only [Try.f60, resultsA, resultA, dx, reduceIte, zLt, zLe, zEq, zAd, zMu, zSu, zBe, yEq, yLt, yLe, yTn, reduceCtorEq, sx, fx60, h2, h3, h4, h5, blkC]
end Go.Proofs.Ytjkfdiglokkceaa


