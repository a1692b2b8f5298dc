/- Nets whose packets lie in memory; copies of nets. -/
import Derived.Test.YtikhidpcaefjiaaGreatDoorC1
set_option maxRecDepth 100000
set_option linter.unusedSimpArgs false
set_option linter.unusedVariables false
namespace Go.Proofs.YtikhidpcaefjiaaGreatDoor
open Go Go.Proofs.YtikhidpcaefjiaaGreatDoor.Pale
variable {k : Nat} {σ : AMem}

/-- A list of packets in memory: each has a row of bytes of its own. -/
def NetMem (low : Nat) (σ : AMem) (out : AVal) (l : List (Pk × Nat)) : Prop :=
  Grew low σ 3 true out l.length (l.map fun x => pkM x.1 x.2).flatten ∧ (l.length = 0 → out = .vs .nil []) ∧ (l.map (·.2)).Nodup ∧
    ∀ x, x ∈ l → low ≤ x.2 ∧ x.2 < σ.next ∧ σ.get x.2 = some (.row 1 false (bytesV x.1.b)) ∧ ∀ n c z, out ≠ .slice x.2 0 n c z
theorem NetMem.nil (low : Nat) (σ : AMem) : NetMem low σ (.vs .nil []) [] := ⟨⟨rfl, .inl ⟨rfl, rfl⟩⟩, fun _ => rfl, by simp, by simp⟩
theorem NetMem.same {low : Nat} {σ σ' : AMem} {out : AVal} {l : List (Pk × Nat)} (h : NetMem low σ out l) (hn : σ.next ≤ σ'.next) (hs : ∀ s, low ≤ s → s < σ.next → σ'.get s = σ.get s) : NetMem low σ' out l := by
  obtain ⟨⟨hcl, hcase⟩, h2, h3, h4⟩ := h
  refine ⟨⟨hcl, ?_⟩, h2, h3, fun x hx => ?_⟩
  · rcases hcase with h | ⟨r, h6, h7, h8, h9⟩
    · exact .inl h
    · exact .inr ⟨r, h6, Nat.lt_of_lt_of_le h7 hn, h8, by rw [hs r h6 h7]; exact h9⟩
  · obtain ⟨a, b, c, d⟩ := h4 x hx
    exact ⟨a, Nat.lt_of_lt_of_le b hn, by rw [hs _ a b]; exact c, d⟩
theorem NetMem.one {low : Nat} {σ : AMem} {out : AVal} {l : List (Pk × Nat)} (h : NetMem low σ out l) : out.oneCell = true := by
  rcases h.1.2 with ⟨_, rfl⟩ | ⟨_, _, _, rfl, _⟩ <;> rfl
theorem NetMem.ext {low : Nat} {σ σ' : AMem} {out : AVal} {l : List (Pk × Nat)} (h : NetMem low σ out l) (hx : Ext σ σ') : NetMem low σ' out l := h.same hx.1 fun s _ hs => hx.2 s hs
theorem NetMem.low {low low' : Nat} {σ : AMem} {out : AVal} {l : List (Pk × Nat)} (h : NetMem low σ out l) (hl : low' ≤ low) : NetMem low' σ out l := by
  obtain ⟨⟨hcl, hcase⟩, h2, h3, h4⟩ := h
  refine ⟨⟨hcl, ?_⟩, h2, h3, fun x hx => ?_⟩
  · rcases hcase with h | ⟨r, h6, h7, h8, h9⟩
    · exact .inl h
    · exact .inr ⟨r, by omega, h7, h8, h9⟩
  · obtain ⟨a, b, c, d⟩ := h4 x hx
    exact ⟨by omega, b, c, d⟩

def tyPk : TyI := ⟨.struct [(0, 3), (1, 3), (2, 22)], 3, 40, [.int .i64 0, .int .i64 0, .vs .nil []]⟩
theorem NetMem.add2 {low r : Nat} {σ σ1 : AMem} {out : AVal} {l : List (Pk × Nat)} {p : Pk} (h : NetMem low σ out l) (hlow : low ≤ σ.next) (hx : Ext σ σ1) (hr1 : σ.next ≤ r) (hr2 : r < σ1.next) (hr3 : σ1.get r = some (.row 1 false (bytesV p.b))) (hn : l.length ≤ 1000000) :
    ∃ σ', appendA tyPk (σ1.push (.row 3 true (pkM p r))) out (.slice σ1.next 0 1 (some 1) 3) = some (.slice (σ1.next + 1) 0 (l.length + 1) none 3, σ') ∧ NetMem low σ' (.slice (σ1.next + 1) 0 (l.length + 1) none 3) (l ++ [(p, r)]) ∧ σ'.next = σ1.next + 2 ∧ (∀ s, s < low → σ'.get s = σ1.get s) ∧ ∀ s, s < σ1.next → out ≠ .slice s 0 l.length none 3 → σ'.get s = σ1.get s := by
  have h' := h.ext hx
  obtain ⟨hg, h2, h3, h4⟩ := h'
  obtain ⟨σ', a1, a2, a3, a4, a5⟩ := Grew.one (e := tyPk) (xs := pkM p r) hg (Nat.le_trans hlow hx.1) rfl (by decide) (by decide) (by decide) (by simp only [tyPk, mostBytes]; omega) (by rfl)
  have hne : out ≠ .slice r 0 l.length none 3 := by
    rcases h.1.2 with ⟨_, rfl⟩ | ⟨q, _, hq, rfl, _⟩
    · intro h; cases h
    · intro h; simp only [AVal.slice.injEq] at h; omega
  refine ⟨σ', a1, ⟨?_, by simp, ?_, ?_⟩, a3, a4, a5⟩
  · rw [List.length_append, List.map_append, List.flatten_append]
    simp only [List.map_cons, List.map_nil, List.flatten_cons, List.flatten_nil, List.append_nil, List.length_cons, List.length_nil]
    exact a2
  · rw [List.map_append, List.nodup_append]
    refine ⟨h3, by simp, ?_⟩
    intro a ha b hb
    simp only [List.map_cons, List.map_nil, List.mem_singleton] at hb
    obtain ⟨x, hx, rfl⟩ := List.mem_map.1 ha
    have := (h.2.2.2 x hx).2.1
    omega
  · intro x hx
    rcases List.mem_append.1 hx with hx | hx
    · obtain ⟨b1, b2, b3, b4⟩ := h4 x hx
      refine ⟨b1, by omega, by rw [a5 _ b2 (b4 _ _ _)]; exact b3, ?_⟩
      intro n c z hc
      simp only [AVal.slice.injEq] at hc
      omega
    · simp only [List.mem_singleton] at hx
      subst hx
      refine ⟨by have := hr1; omega, by omega, by rw [a5 _ hr2 hne]; exact hr3, ?_⟩
      intro n c z hc
      simp only [AVal.slice.injEq] at hc
      omega

theorem NetMem.add {low r : Nat} {σ σ1 : AMem} {out : AVal} {l : List (Pk × Nat)} {p : Pk} (h : NetMem low σ out l) (hlow : low ≤ σ.next) (hx : Ext σ σ1) (hr1 : σ.next ≤ r) (hr2 : r < σ1.next) (hr3 : σ1.get r = some (.row 1 false (bytesV p.b))) (hn : l.length ≤ 1000000) :
    ∃ σ', appendA tyPk (σ1.push (.row 3 true (pkM p r))) out (.slice σ1.next 0 1 (some 1) 3) = some (.slice (σ1.next + 1) 0 (l.length + 1) none 3, σ') ∧ NetMem low σ' (.slice (σ1.next + 1) 0 (l.length + 1) none 3) (l ++ [(p, r)]) ∧ σ'.next = σ1.next + 2 ∧ ∀ s, s < low → σ'.get s = σ1.get s := by
  obtain ⟨σ', a1, a2, a3, a4, _⟩ := h.add2 hlow hx hr1 hr2 hr3 hn
  exact ⟨σ', a1, a2, a3, a4⟩

theorem netMem_snapL {low : Nat} {σ : AMem} (d : Nat) : ∀ (l : List (Pk × Nat)), (∀ x, x ∈ l → σ.get x.2 = some (.row 1 false (bytesV x.1.b))) → snapL (snapF false σ (d + 2)) (l.map fun x => pkM x.1 x.2).flatten = some ((l.map fun x => pkC (cp x.1)).flatten, l.map (·.2)) := by
  intro l
  induction l with
  | nil => intro _; rfl
  | cons x l ih =>
    intro h
    have h1 : snapL (snapF false σ (d + 2)) (pkM x.1 x.2) = some (pkC (cp x.1), [x.2]) := by
      simp only [pkM, snapL, snap_int, snap_bytes (d := d) (cap := capOf x.1.b) (more := []) rfl (by rw [List.append_nil]; exact h x (by simp))]
      rfl
    exact snapL_append h1 (ih fun y hy => h y (by simp [hy]))
theorem NetMem.snap {low : Nat} {σ : AMem} {out : AVal} {l : List (Pk × Nat)} (d : Nat) (h : NetMem low σ out l) : ∃ seen, snapF false σ (d + 3) out = some (.vs (lkOf l.length) (l.map fun x => pkV (cp x.1)), seen) := by
  obtain ⟨hg, h2, h3, h4⟩ := h
  have := snap_grew (d := d + 1) (ls := l.map fun x => pkM x.1 x.2) (ps := l.map fun x => pkC (cp x.1)) (S := l.map (·.2)) hg h2 (by simp) (by simp) (by simp) (by
    intro y hy; obtain ⟨x, _, rfl⟩ := List.mem_map.1 hy; rfl) (by
    intro y hy; obtain ⟨x, _, rfl⟩ := List.mem_map.1 hy; rfl) (netMem_snapL (low := low) d l fun x hx => (h4 x hx).2.2.1)
  simpa [List.map_map, Function.comp_def, pkV] using this

theorem copyPacket_callN (p : Pk) (hn : p.b.length ≤ 1000000) (hk : 1 ≤ k) : ∃ r σ1, callN lawProg k (.func 24 [] []) [.agg [.int .i64 p.fr, .int .i64 p.to, .vs p.vk (bytesV p.b)]] σ = some (.agg (pkM p r), σ1) ∧ Ext σ σ1 ∧ σ.next ≤ r ∧ r < σ1.next ∧ σ1.get r = some (.row 1 false (bytesV p.b)) := by
  obtain ⟨k, rfl⟩ : ∃ m, k = m + 1 := ⟨k - 1, by omega⟩
  obtain ⟨T1, σ1, r, h1, h2, h3⟩ := copyPacket_exec (k := k) (σ := σ) p hn
  exact ⟨r, σ1, q_call (first := []) (caps := []) fn24 rfl (by simp [Tryz.f24]) h1 (by simp) h2, h3⟩
theorem snap_pkM {σ : AMem} (d : Nat) {p : Pk} {r : Nat} (h : σ.get r = some (.row 1 false (bytesV p.b))) : ∃ seen, snapF false σ (d + 3) (.agg (pkM p r)) = some (pkV (cp p), seen) := by
  have := netMem_snapL (low := 0) (σ := σ) d [(p, r)] (by simpa using h)
  simp only [List.map_cons, List.map_nil, List.flatten_cons, List.flatten_nil, List.append_nil] at this
  exact ⟨[r], by show (snapL (snapF false σ (d + 2)) _).map (fun (l, a) => (AVal.agg l, a)) = _; rw [this]; rfl⟩
theorem copyPacket_call (p : Pk) (hn : p.b.length ≤ 1000000) (hk : 1 ≤ k) : pureCall lawProg (callN lawProg k) (.func 24 [] []) [.agg [.int .i64 p.fr, .int .i64 p.to, .vs p.vk (bytesV p.b)]] σ = some (.agg [.int .i64 p.fr, .int .i64 p.to, .vs .some (bytesV p.b)], σ) := by
  obtain ⟨k, rfl⟩ : ∃ m, k = m + 1 := ⟨k - 1, by omega⟩
  obtain ⟨T1, σ1, r, h1, h2, _, _, _, h3⟩ := copyPacket_exec (k := k) (σ := AMem.empty) p hn
  obtain ⟨seen, hs⟩ := snap_pkM (σ := σ1) 9 h3
  obtain ⟨b, h⟩ := pureRun_any fn24 rfl (by simp [Tryz.f24]) h1 (by simp) h2 hs
  exact pureCall_of0 (args' := [pkV p]) rfl (memo24 _) h

theorem copyNet_exec (h : Int) (vk : VK) (ps : List Pk) (hn : ps.length ≤ 1000) (hb : ∀ p, p ∈ ps → p.b.length ≤ 1000000) (hk : 2000 ≤ k) : ∃ T1 σ1 out l, execC lawProg (callN lawProg k) k 23 27 (bodyOf Tryz.f23) (initT 0 [.agg [.int .i64 h, .vs vk (ps.map pkV)]] .nil) σ = some (.ret, T1, σ1) ∧
    resultsA lawProg T1 σ1 Tryz.f23.results.toList = some [.agg [.int .i64 h, out]] ∧ Ext σ σ1 ∧ NetMem σ.next σ1 out l ∧ l.map (·.1) = ps := by
  obtain ⟨b, hbn⟩ : ∃ b, b = σ.next := ⟨_, rfl⟩
  simp only [bodyOf, Tryz.f23, Option.getD_some, initT, q_seq, q_cond, q_block, q_region, q_drawn, q_skip, q_exit, q_ret, runOps, runD, again, step1, wantA, opSem, evalO, evalL, evalOpt, evalParts, putA, ofConst, ofScalar, ofScalars, abin, abinInt, aun, convA, builtinA, oneTy, elemTy, lenB_vs, lenB_sl, lenB_str, loadA, storeA, storeCellsA, setAt, partA, fillA, placesA, isFn, TyI.isAgg, isSeq, isNum, sliceA, boundA, cells_bool, one_bool, cells_int, one_int, cells_str, one_str, cells_ptr, one_ptr, cells_nilptr, one_nilptr, cells_slice, one_slice, cells_vs, one_vs, cells_vptr, one_vptr, cells_func, one_func, cells_yield, one_yield, cells_nilfn, one_nilfn, cells_nilmap, one_nilmap, cells_map, one_map, cells_agg, setParams, Tr.get_set, AMem.get_put, AMem.get_push, AMem.next_put, AMem.next_push, AMem.get_empty, next_empty, Option.map_some, Option.map_none, Option.bind_some, reduceIte, Nat.reduceLT, Nat.reduceLeDiff, Nat.reduceEqDiff, Nat.reduceAdd, Nat.reduceMul, Nat.reduceSub, Nat.reduceBEq, Nat.zero_add, Nat.add_zero, Nat.mul_one, Nat.one_mul, Nat.zero_mul, and_self, and_true, true_and, false_and, and_false, Bool.and_true, Bool.true_and, Bool.and_false, Bool.false_and, if_true, if_false, Int.reduceEq, Int.reduceLT, Int.reduceLE, Int.reduceToNat, Bool.false_eq_true, Bool.not_true, Bool.not_false, BEq.rfl, beq_true_true, beq_true_false, beq_false_true, beq_false_false, List.length_cons, List.length_nil, List.all_cons, List.all_nil, List.getElem?_cons_zero, List.getElem?_cons_succ, List.getElem?_nil, List.getElem?_toArray, List.take_succ_cons, List.take_zero, List.drop_succ_cons, List.drop_zero, List.set_cons_zero, List.set_cons_succ, List.append_nil, List.nil_append, List.cons_append, decide_true, decide_false, decide_eq_true_eq, Option.isNone_none, Option.isNone_some, Option.isSome_none, Option.isSome_some, Bool.or_true, Bool.true_or, Bool.or_false, Bool.false_or, ne_eq, not_false_eq_true, not_true_eq_false, reduceCtorEq, eq_self, beq_refl, minL, minF, maxL, maxF, repZ, vp23_24, ty3, ty5, ty22, ty40, ty42, ty44, ord23_5, Nat.add_assoc, Nat.add_eq_left, Nat.left_eq_add, Nat.add_left_cancel_iff, ← hbn]
  generalize hL : execC _ _ _ _ _ (Code.loop _) _ _ = r
  obtain ⟨e, T', σ', rfl, _, rfl, f2, f3, out, l, m1, m2, m3, m4, m5, m6⟩ : ∃ e T' σ', r = some (e, T', σ') ∧ e ≠ .normal ∧ (e = .exit 0 ∧ T'.get 2 = some (.ptr (b + 1) 0) ∧ T'.get 3 = some (.ptr (b + 2) 0) ∧ ∃ out l, σ'.get (b + 1) = some (.row 2 true [.int .i64 0, .vs .nil []]) ∧ σ'.get (b + 2) = some (.row 2 true [.int .i64 h, out]) ∧ Ext σ σ' ∧ NetMem (b + 3) σ' out l ∧ b + 3 ≤ σ'.next ∧ l.map (·.1) = ps) := by
    rw [← hL]
    refine exec_loop (fun i T σ' => i ≤ ps.length ∧ T.get 1 = some (.ptr b 0) ∧ T.get 2 = some (.ptr (b + 1) 0) ∧ T.get 3 = some (.ptr (b + 2) 0) ∧ T.get 4 = some (.int .i64 i) ∧ ∃ out l, σ'.get b = some (.row 2 true [.int .i64 h, .vs vk (ps.map pkV)]) ∧ σ'.get (b + 1) = some (.row 2 true [.int .i64 0, .vs .nil []]) ∧ σ'.get (b + 2) = some (.row 2 true [.int .i64 h, out]) ∧ Ext σ σ' ∧ NetMem (b + 3) σ' out l ∧ b + 3 ≤ σ'.next ∧ l.map (·.1) = ps.take i) ps.length (by omega) ?_ ?_ ?_
    · rintro i hi T σ' ⟨_, t1, t2, t3, t4, out, l, m0, m1, m2, m3, m4, m5, m6⟩
      have hlt : (i : Int) < ps.length := by omega
      have hll : l.length = i := by have := congrArg List.length m6; simpa [Nat.min_eq_left (Nat.le_of_lt hi)] using this
      obtain ⟨r, σ1, c1, c2, c3, c4, c5⟩ := copyPacket_callN (k := k) (σ := σ') ps[i] (hb _ (List.getElem_mem hi)) (by omega)
      obtain ⟨σ2, a1, a2, a3, a4⟩ := NetMem.add m4 m5 c2 c3 c4 c5 (by omega)
      have hget : (ps.map pkV)[i]? = some (.agg [.int .i64 ps[i].fr, .int .i64 ps[i].to, .vs ps[i].vk (bytesV ps[i].b)]) := by rw [List.getElem?_map, List.getElem?_eq_getElem hi]; rfl
      have hw : IntKind.i64.wrap ((i : Int) + 1) = ((i + 1 : Nat) : Int) := by rw [i64_id (by omega) (by omega)]; omega
      simp only [tyPk, pkM, hll] at a1
      have hkeep : ∀ s, s < b + 3 → σ2.get s = σ'.get s := fun s hs => by rw [a4 s hs, c2.2 s (by omega)]
      have k1 : σ1.get (b + 2) = some (.row 2 true [.int .i64 h, out]) := by rw [c2.2 _ (by omega)]; exact m2
      have k0 : σ1.get b = some (.row 2 true [.int .i64 h, .vs vk (ps.map pkV)]) := by rw [c2.2 _ (by omega)]; exact m0
      have k2 : σ2.get (b + 2) = some (.row 2 true [.int .i64 h, out]) := by rw [hkeep _ (by omega)]; exact m2
      refine ⟨_, _, by
        simp only [q_seq, q_cond, q_block, q_region, q_drawn, q_skip, q_exit, q_ret, runOps, runD, again, step1, wantA, opSem, evalO, evalL, evalOpt, evalParts, putA, ofConst, ofScalar, ofScalars, abin, abinInt, aun, convA, builtinA, oneTy, elemTy, lenB_vs, lenB_sl, lenB_str, loadA, storeA, storeCellsA, setAt, partA, fillA, placesA, isFn, TyI.isAgg, isSeq, isNum, sliceA, boundA, cells_bool, one_bool, cells_int, one_int, cells_str, one_str, cells_ptr, one_ptr, cells_nilptr, one_nilptr, cells_slice, one_slice, cells_vs, one_vs, cells_vptr, one_vptr, cells_func, one_func, cells_yield, one_yield, cells_nilfn, one_nilfn, cells_nilmap, one_nilmap, cells_map, one_map, cells_agg, setParams, Tr.get_set, AMem.get_put, AMem.get_push, AMem.next_put, AMem.next_push, AMem.get_empty, next_empty, Option.map_some, Option.map_none, Option.bind_some, reduceIte, Nat.reduceLT, Nat.reduceLeDiff, Nat.reduceEqDiff, Nat.reduceAdd, Nat.reduceMul, Nat.reduceSub, Nat.reduceBEq, Nat.zero_add, Nat.add_zero, Nat.mul_one, Nat.one_mul, Nat.zero_mul, and_self, and_true, true_and, false_and, and_false, Bool.and_true, Bool.true_and, Bool.and_false, Bool.false_and, if_true, if_false, Int.reduceEq, Int.reduceLT, Int.reduceLE, Int.reduceToNat, Bool.false_eq_true, Bool.not_true, Bool.not_false, BEq.rfl, beq_true_true, beq_true_false, beq_false_true, beq_false_false, List.length_cons, List.length_nil, List.all_cons, List.all_nil, List.getElem?_cons_zero, List.getElem?_cons_succ, List.getElem?_nil, List.getElem?_toArray, List.take_succ_cons, List.take_zero, List.drop_succ_cons, List.drop_zero, List.set_cons_zero, List.set_cons_succ, List.append_nil, List.nil_append, List.cons_append, decide_true, decide_false, decide_eq_true_eq, Option.isNone_none, Option.isNone_some, Option.isSome_none, Option.isSome_some, Bool.or_true, Bool.true_or, Bool.or_false, Bool.false_or, ne_eq, not_false_eq_true, not_true_eq_false, reduceCtorEq, eq_self, beq_refl, minL, minF, maxL, maxF, repZ, vp23_24, ty3, ty5, ty22, ty40, ty42, ty44, ord23_5, Nat.add_assoc, Nat.add_eq_left, Nat.left_eq_add, Nat.add_left_cancel_iff, t1, t2, t3, t4, m0, m1, m2, hlt, List.length_map, Int.natCast_nonneg, Int.toNat_natCast, hget, c1, pkM, a1, k0, k1, k2, hw]
        rfl, hi, ?_, ?_, ?_, ?_, .slice (σ1.next + 1) 0 (i + 1) none 3, l ++ [(ps[i], r)], ?_, ?_, ?_, ?_, ?_, ?_, ?_⟩
      · simp only [Tr.get_set, Nat.reduceEqDiff, reduceIte, t1]
      · simp only [Tr.get_set, Nat.reduceEqDiff, reduceIte, t2]
      · simp only [Tr.get_set, Nat.reduceEqDiff, reduceIte, t3]
      · simp only [Tr.get_set, Nat.reduceEqDiff, reduceIte]
      · rw [AMem.get_put, if_neg (by omega), hkeep _ (by omega)]; exact m0
      · rw [AMem.get_put, if_neg (by omega), hkeep _ (by omega)]; exact m1
      · rw [AMem.get_put, if_pos rfl]
      · refine Ext.put ⟨?_, ?_⟩ _ _ (by omega)
        · have := c2.1; have := m3.1; omega
        · intro s hs; rw [hkeep s (by omega)]; exact m3.2 s hs
      · rw [hll] at a2
        exact a2.same (by simp) fun s h1 h2 => by rw [AMem.get_put, if_neg (by omega)]
      · simp only [AMem.next_put]; omega
      · rw [List.map_append, m6, List.take_succ_eq_append_getElem hi]; rfl
    · rintro T σ' ⟨_, t1, t2, t3, t4, out, l, m0, m1, m2, m3, m4, m5, m6⟩
      refine ⟨_, _, _, by
        simp only [q_seq, q_cond, q_block, q_region, q_drawn, q_skip, q_exit, q_ret, runOps, runD, again, step1, wantA, opSem, evalO, evalL, evalOpt, evalParts, putA, ofConst, ofScalar, ofScalars, abin, abinInt, aun, convA, builtinA, oneTy, elemTy, lenB_vs, lenB_sl, lenB_str, loadA, storeA, storeCellsA, setAt, partA, fillA, placesA, isFn, TyI.isAgg, isSeq, isNum, sliceA, boundA, cells_bool, one_bool, cells_int, one_int, cells_str, one_str, cells_ptr, one_ptr, cells_nilptr, one_nilptr, cells_slice, one_slice, cells_vs, one_vs, cells_vptr, one_vptr, cells_func, one_func, cells_yield, one_yield, cells_nilfn, one_nilfn, cells_nilmap, one_nilmap, cells_map, one_map, cells_agg, setParams, Tr.get_set, AMem.get_put, AMem.get_push, AMem.next_put, AMem.next_push, AMem.get_empty, next_empty, Option.map_some, Option.map_none, Option.bind_some, reduceIte, Nat.reduceLT, Nat.reduceLeDiff, Nat.reduceEqDiff, Nat.reduceAdd, Nat.reduceMul, Nat.reduceSub, Nat.reduceBEq, Nat.zero_add, Nat.add_zero, Nat.mul_one, Nat.one_mul, Nat.zero_mul, and_self, and_true, true_and, false_and, and_false, Bool.and_true, Bool.true_and, Bool.and_false, Bool.false_and, if_true, if_false, Int.reduceEq, Int.reduceLT, Int.reduceLE, Int.reduceToNat, Bool.false_eq_true, Bool.not_true, Bool.not_false, BEq.rfl, beq_true_true, beq_true_false, beq_false_true, beq_false_false, List.length_cons, List.length_nil, List.all_cons, List.all_nil, List.getElem?_cons_zero, List.getElem?_cons_succ, List.getElem?_nil, List.getElem?_toArray, List.take_succ_cons, List.take_zero, List.drop_succ_cons, List.drop_zero, List.set_cons_zero, List.set_cons_succ, List.append_nil, List.nil_append, List.cons_append, decide_true, decide_false, decide_eq_true_eq, Option.isNone_none, Option.isNone_some, Option.isSome_none, Option.isSome_some, Bool.or_true, Bool.true_or, Bool.or_false, Bool.false_or, ne_eq, not_false_eq_true, not_true_eq_false, reduceCtorEq, eq_self, beq_refl, minL, minF, maxL, maxF, repZ, vp23_24, ty3, ty5, ty22, ty40, ty42, ty44, ord23_5, Nat.add_assoc, Nat.add_eq_left, Nat.left_eq_add, Nat.add_left_cancel_iff, t1, t2, t3, t4, m0, m1, m2, List.length_map, Int.lt_irrefl]
        rfl, by simp, rfl, ?_, ?_, out, l, m1, m2, m3, m4, m5, ?_⟩
      · simp only [Tr.get_set, Nat.reduceEqDiff, reduceIte, t2]
      · simp only [Tr.get_set, Nat.reduceEqDiff, reduceIte, t3]
      · rw [m6, List.take_length]
    · refine ⟨Nat.zero_le _, ?_, ?_, ?_, ?_, .vs .nil [], [], ?_, ?_, ?_, ?_, NetMem.nil _ _, ?_, by simp⟩
      · simp only [Tr.get_set, Nat.reduceEqDiff, reduceIte]
      · simp only [Tr.get_set, Nat.reduceEqDiff, reduceIte]
      · simp only [Tr.get_set, Nat.reduceEqDiff, reduceIte]
      · simp only [Tr.get_set, Nat.reduceEqDiff, reduceIte]; rfl
      · simp only [AMem.get_put, AMem.get_push, AMem.next_push, ← hbn, Nat.add_assoc, Nat.reduceAdd, Nat.add_eq_left, Nat.left_eq_add, Nat.add_left_cancel_iff, Nat.reduceEqDiff, reduceIte]
      · simp only [AMem.get_put, AMem.get_push, AMem.next_push, ← hbn, Nat.add_assoc, Nat.reduceAdd, Nat.add_eq_left, Nat.left_eq_add, Nat.add_left_cancel_iff, Nat.reduceEqDiff, reduceIte]
      · simp only [AMem.get_put, AMem.get_push, AMem.next_push, ← hbn, Nat.add_assoc, Nat.reduceAdd, Nat.add_eq_left, Nat.left_eq_add, Nat.add_left_cancel_iff, Nat.reduceEqDiff, reduceIte]
      · exact (((Ext.push _ _).trans (Ext.push _ _)).trans (Ext.push _ _)).put _ _ (by omega)
      · simp [← hbn]
  have ho := m4.one
  simp only [q_seq, q_cond, q_block, q_region, q_drawn, q_skip, q_exit, q_ret, runOps, runD, again, step1, wantA, opSem, evalO, evalL, evalOpt, evalParts, putA, ofConst, ofScalar, ofScalars, abin, abinInt, aun, convA, builtinA, oneTy, elemTy, lenB_vs, lenB_sl, lenB_str, loadA, storeA, storeCellsA, setAt, partA, fillA, placesA, isFn, TyI.isAgg, isSeq, isNum, sliceA, boundA, cells_bool, one_bool, cells_int, one_int, cells_str, one_str, cells_ptr, one_ptr, cells_nilptr, one_nilptr, cells_slice, one_slice, cells_vs, one_vs, cells_vptr, one_vptr, cells_func, one_func, cells_yield, one_yield, cells_nilfn, one_nilfn, cells_nilmap, one_nilmap, cells_map, one_map, cells_agg, setParams, Tr.get_set, AMem.get_put, AMem.get_push, AMem.next_put, AMem.next_push, AMem.get_empty, next_empty, Option.map_some, Option.map_none, Option.bind_some, reduceIte, Nat.reduceLT, Nat.reduceLeDiff, Nat.reduceEqDiff, Nat.reduceAdd, Nat.reduceMul, Nat.reduceSub, Nat.reduceBEq, Nat.zero_add, Nat.add_zero, Nat.mul_one, Nat.one_mul, Nat.zero_mul, and_self, and_true, true_and, false_and, and_false, Bool.and_true, Bool.true_and, Bool.and_false, Bool.false_and, if_true, if_false, Int.reduceEq, Int.reduceLT, Int.reduceLE, Int.reduceToNat, Bool.false_eq_true, Bool.not_true, Bool.not_false, BEq.rfl, beq_true_true, beq_true_false, beq_false_true, beq_false_false, List.length_cons, List.length_nil, List.all_cons, List.all_nil, List.getElem?_cons_zero, List.getElem?_cons_succ, List.getElem?_nil, List.getElem?_toArray, List.take_succ_cons, List.take_zero, List.drop_succ_cons, List.drop_zero, List.set_cons_zero, List.set_cons_succ, List.append_nil, List.nil_append, List.cons_append, decide_true, decide_false, decide_eq_true_eq, Option.isNone_none, Option.isNone_some, Option.isSome_none, Option.isSome_some, Bool.or_true, Bool.true_or, Bool.or_false, Bool.false_or, ne_eq, not_false_eq_true, not_true_eq_false, reduceCtorEq, eq_self, beq_refl, minL, minF, maxL, maxF, repZ, vp23_24, ty3, ty5, ty22, ty40, ty42, ty44, ord23_5, Nat.add_assoc, Nat.add_eq_left, Nat.left_eq_add, Nat.add_left_cancel_iff, f2, f3, m1, m2, ho]
  refine ⟨_, _, out, l, rfl, ?_, m3.put (b + 1) _ (by omega), (m4.same (by simp) fun s h1 h2 => by rw [AMem.get_put, if_neg (by omega)]).low (by omega), m6⟩
  simp only [Tryz.f23, resultsA, resultA, q_seq, q_cond, q_block, q_region, q_drawn, q_skip, q_exit, q_ret, runOps, runD, again, step1, wantA, opSem, evalO, evalL, evalOpt, evalParts, putA, ofConst, ofScalar, ofScalars, abin, abinInt, aun, convA, builtinA, oneTy, elemTy, lenB_vs, lenB_sl, lenB_str, loadA, storeA, storeCellsA, setAt, partA, fillA, placesA, isFn, TyI.isAgg, isSeq, isNum, sliceA, boundA, cells_bool, one_bool, cells_int, one_int, cells_str, one_str, cells_ptr, one_ptr, cells_nilptr, one_nilptr, cells_slice, one_slice, cells_vs, one_vs, cells_vptr, one_vptr, cells_func, one_func, cells_yield, one_yield, cells_nilfn, one_nilfn, cells_nilmap, one_nilmap, cells_map, one_map, cells_agg, setParams, Tr.get_set, AMem.get_put, AMem.get_push, AMem.next_put, AMem.next_push, AMem.get_empty, next_empty, Option.map_some, Option.map_none, Option.bind_some, reduceIte, Nat.reduceLT, Nat.reduceLeDiff, Nat.reduceEqDiff, Nat.reduceAdd, Nat.reduceMul, Nat.reduceSub, Nat.reduceBEq, Nat.zero_add, Nat.add_zero, Nat.mul_one, Nat.one_mul, Nat.zero_mul, and_self, and_true, true_and, false_and, and_false, Bool.and_true, Bool.true_and, Bool.and_false, Bool.false_and, if_true, if_false, Int.reduceEq, Int.reduceLT, Int.reduceLE, Int.reduceToNat, Bool.false_eq_true, Bool.not_true, Bool.not_false, BEq.rfl, beq_true_true, beq_true_false, beq_false_true, beq_false_false, List.length_cons, List.length_nil, List.all_cons, List.all_nil, List.getElem?_cons_zero, List.getElem?_cons_succ, List.getElem?_nil, List.getElem?_toArray, List.take_succ_cons, List.take_zero, List.drop_succ_cons, List.drop_zero, List.set_cons_zero, List.set_cons_succ, List.append_nil, List.nil_append, List.cons_append, decide_true, decide_false, decide_eq_true_eq, Option.isNone_none, Option.isNone_some, Option.isSome_none, Option.isSome_some, Bool.or_true, Bool.true_or, Bool.or_false, Bool.false_or, ne_eq, not_false_eq_true, not_true_eq_false, reduceCtorEq, eq_self, beq_refl, minL, minF, maxL, maxF, repZ, vp23_24, ty3, ty5, ty22, ty40, ty42, ty44, ord23_5, Nat.add_assoc, Nat.add_eq_left, Nat.left_eq_add, Nat.add_left_cancel_iff, f2]
theorem copyNet_callN (h : Int) (vk : VK) (ps : List Pk) (hn : ps.length ≤ 1000) (hb : ∀ p, p ∈ ps → p.b.length ≤ 1000000) (hk : 2001 ≤ k) : ∃ out l σ1, callN lawProg k (.func 23 [] []) [.agg [.int .i64 h, .vs vk (ps.map pkV)]] σ = some (.agg [.int .i64 h, out], σ1) ∧ Ext σ σ1 ∧ NetMem σ.next σ1 out l ∧ l.map (·.1) = ps := by
  obtain ⟨k, rfl⟩ : ∃ m, k = m + 1 := ⟨k - 1, by omega⟩
  obtain ⟨T1, σ1, out, l, h1, h2, h3⟩ := copyNet_exec (k := k) (σ := σ) h vk ps hn hb (by omega)
  exact ⟨out, l, σ1, q_call (first := []) (caps := []) fn23 rfl (by simp [Tryz.f23]) h1 (by simp) h2, h3⟩
theorem snap_net {σ : AMem} {low : Nat} {out : AVal} {l : List (Pk × Nat)} {ps : List Pk} (d : Nat) (h : Int) (hm : NetMem low σ out l) (hl : l.map (·.1) = ps) : ∃ seen, snapF false σ (d + 4) (.agg [.int .i64 h, out]) = some (.agg [.int .i64 h, .vs (lkOf ps.length) (ps.map fun p => pkV (cp p))], seen) := by
  obtain ⟨seen, hs⟩ := hm.snap d
  subst hl
  refine ⟨[] ++ (seen ++ []), ?_⟩
  show (snapL (snapF false σ (d + 3)) _).map (fun (l, a) => (AVal.agg l, a)) = _
  simp only [snapL, snap_int, hs, List.length_map, List.map_map, Option.map_some]
  rfl
theorem copyNet_call (h : Int) (vk : VK) (ps : List Pk) (hn : ps.length ≤ 1000) (hb : ∀ p, p ∈ ps → p.b.length ≤ 1000000) (hk : 2001 ≤ k) : pureCall lawProg (callN lawProg k) (.func 23 [] []) [.agg [.int .i64 h, .vs vk (ps.map pkV)]] σ = some (.agg [.int .i64 h, .vs (lkOf ps.length) ((ps.map cp).map pkV)], σ) := by
  obtain ⟨k, rfl⟩ : ∃ m, k = m + 1 := ⟨k - 1, by omega⟩
  obtain ⟨T1, σ1, out, l, h1, h2, _, h4, h5⟩ := copyNet_exec (k := k) (σ := AMem.empty) h vk ps hn hb (by omega)
  obtain ⟨seen, hs⟩ := snap_net 8 h h4 h5
  obtain ⟨b, h⟩ := pureRun_any fn23 rfl (by simp [Tryz.f23]) h1 (by simp) h2 hs
  rw [List.map_map]
  exact pureCall_of0 rfl (memo23 _) h
end Go.Proofs.YtikhidpcaefjiaaGreatDoor
