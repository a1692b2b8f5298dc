/- The law PackNet on the abstract machine: what is kept from round to round; a packet that is sent. -/
import Derived.Test.YtikhidpcaefjiaaGreatDoorE2
set_option maxRecDepth 100000
set_option linter.unusedSimpArgs false
set_option linter.unusedVariables false
namespace Go.Proofs.YtikhidpcaefjiaaGreatDoor
open Go Go.Proofs.YtikhidpcaefjiaaGreatDoor.Pale
variable {k : Nat} {σ : AMem}

abbrev L3 := Nat × Nat × Nat
abbrev M4 := Nat × Nat × Nat × Nat
def l3V (t : L3) : AVal := .agg [.int .u8 (t.1 : Nat), .int .u8 (t.2.1 : Nat), .int .u8 (t.2.2 : Nat)]
def m4V (t : M4) : AVal := .agg [.int .u8 (t.1 : Nat), .int .u8 (t.2.1 : Nat), .int .u8 (t.2.2.1 : Nat), .int .u8 (t.2.2.2 : Nat)]
def L3ok (t : L3) : Prop := t.1 < 256 ∧ t.2.1 < 256 ∧ t.2.2 < 256
def M4ok (t : M4) : Prop := t.1 < 256 ∧ t.2.1 < 256 ∧ t.2.2.1 < 256 ∧ t.2.2.2 < 256
theorem l3_get {L : List L3} {i : Nat} (h : i < L.length) : (L.map l3V)[i]? = some (.agg [.int .u8 (L[i].1 : Nat), .int .u8 (L[i].2.1 : Nat), .int .u8 (L[i].2.2 : Nat)]) := by rw [List.getElem?_map, List.getElem?_eq_getElem h]; rfl
theorem m4_get {M : List M4} {i : Nat} (h : i < M.length) : (M.map m4V)[i]? = some (.agg [.int .u8 (M[i].1 : Nat), .int .u8 (M[i].2.1 : Nat), .int .u8 (M[i].2.2.1 : Nat), .int .u8 (M[i].2.2.2 : Nat)]) := by rw [List.getElem?_map, List.getElem?_eq_getElem h]; rfl

structure NetSt (k1 k2 : VK) (L : List L3) (M : List M4) (i m : Nat) (bad : Bool) (K : VK) (ps : List Pk) (l : List (Pk × Nat)) (T : Tr AVal) (σ : AMem) : Prop where
  t1 : T.get 1 = some (.ptr 0 0)
  t3 : T.get 3 = some (.ptr 1 0)
  t5 : T.get 5 = some (.int .i64 ps.length)
  t6 : T.get 6 = some (.bool bad)
  t7 : T.get 7 = some (.int .i64 i)
  t4 : ∃ out, T.get 4 = some out ∧ SentMem 2 σ out l
  g0 : σ.get 0 = some (.row 2 true [.vs k1 (L.map l3V), .vs k2 (M.map m4V)])
  g1 : σ.get 1 = some (.row 2 true [.int .i64 3, .vs K (ps.map pkV)])
  nx : 2 ≤ σ.next
  ok : NetOk 3 ps
  each : ∀ p, p ∈ ps → p.vk = .some ∧ p.b.length = 2 ∧ SentIn (l.map (·.1)) bad p
  len : l.length ≤ m
def keepT : List Nat := [1, 3, 4, 5, 6, 7]
theorem NetSt.frame {k1 k2 : VK} {L : List L3} {M : List M4} {i m : Nat} {bad : Bool} {K : VK} {ps : List Pk} {l : List (Pk × Nat)} {T T' : Tr AVal} {σ : AMem} (h : NetSt k1 k2 L M i m bad K ps l T σ) (hT : ∀ t, t ∈ keepT → T'.get t = T.get t) : NetSt k1 k2 L M i m bad K ps l T' σ := by
  obtain ⟨a1, a2, a3, a4, a5, ⟨out, a6, a7⟩, b1, b2, b3, b4, b5, b6⟩ := h
  exact ⟨(hT 1 (by decide)).trans a1, (hT 3 (by decide)).trans a2, (hT 5 (by decide)).trans a3, (hT 6 (by decide)).trans a4, (hT 7 (by decide)).trans a5, ⟨out, (hT 4 (by decide)).trans a6, a7⟩, b1, b2, b3, b4, b5, b6⟩

/-- What is sent in a round. -/
def pkA (L : List L3) (i : Nat) : Pk := match L[i]? with
  | some t => ⟨(t.1 % 3 : Nat), (t.2.1 % 3 : Nat), .some, [t.2.2, i % 256]⟩
  | none => ⟨0, 0, .some, [0, 0]⟩
theorem pkA_ok (L : List L3) (i : Nat) : PkOk 3 (pkA L i) := by
  unfold pkA
  split
  · rename_i t _
    refine ⟨⟨by simp only; omega, by simp only; omega⟩, ⟨by simp only; omega, by simp only; omega⟩, by simp, by simp⟩
  · exact ⟨by simp, by simp, by simp, by simp⟩
theorem pkA_two (L : List L3) (i : Nat) : (pkA L i).b.length = 2 ∧ (pkA L i).vk = .some := by
  unfold pkA
  split <;> exact ⟨rfl, rfl⟩
theorem sentIn_mono {S S' : List Pk} {bad : Bool} {p : Pk} (h : SentIn S bad p) (hs : ∀ s, s ∈ S → s ∈ S') : SentIn S' bad p := by
  obtain ⟨s, h1, h2⟩ := h
  exact ⟨s, hs s h1, h2⟩
theorem netOk_cp2 (h : Int) (ps : List Pk) : NetOk h (ps.map cp) ↔ NetOk h ps := by
  unfold NetOk
  simp only [List.length_map]
  constructor
  · exact fun ⟨a, b, c⟩ => ⟨a, b, fun p hp => c (cp p) (List.mem_map.2 ⟨p, hp, rfl⟩)⟩
  · rintro ⟨a, b, c⟩
    refine ⟨a, b, fun p hp => ?_⟩
    obtain ⟨q, hq, rfl⟩ := List.mem_map.1 hp
    exact c q hq
theorem map_cp {ps : List Pk} (h : ∀ p, p ∈ ps → p.vk = .some) : ps.map cp = ps := by
  have : ∀ p, p ∈ ps → cp p = p := fun p hp => by unfold cp; rw [← h p hp]
  rw [List.map_congr_left this, List.map_id']

/-- The rounds' text; the first half of it. -/
noncomputable def roundC : Code := innerC (stmtC (innerC (innerC (stmtC (bodyOf Tryz.f7) 5))) 2)
noncomputable def codeA : Code := thenC (stmtC roundC 1)
/-- A PACKET IS SENT, or there is no room. -/
theorem stageA {k1 k2 : VK} {L : List L3} {M : List M4} {i : Nat} {bad : Bool} {K : VK} {ps : List Pk} {l : List (Pk × Nat)} {T : Tr AVal} {σ : AMem} (st : NetSt k1 k2 L M i i bad K ps l T σ) (hi : i < L.length) (hi20 : i < 80) (hL : ∀ t, t ∈ L → L3ok t) (h39 : T.get 39 = some (.bool true)) (hk : 5000 ≤ k) :
    Runs lawProg (callN lawProg k) k 7 225 codeA T σ fun e T σ => e = .normal ∧ ∃ K' ps' l', NetSt k1 k2 L M i (i + 1) bad K' ps' l' T σ := by
  obtain ⟨t1, t3, t5, t6, t7, ⟨out, t4, sm⟩, g0, g1, nx, ok, each, len⟩ := st
  have hLi := hL _ (List.getElem_mem hi)
  obtain ⟨l1, l2, l3⟩ := hLi
  have hn60 : ps.length ≤ 60 := ok.2.1
  have hvk : ∀ p, p ∈ ps → p.vk = .some := fun p hp => (each p hp).1
  have hps : ps.map cp = ps := map_cp hvk
  have hbl : ∀ p, p ∈ ps → p.b.length ≤ 1000000 := fun p hp => by have := (each p hp).2.1; omega
  have hlt : (i : Int) < (L.length : Int) := by omega
  have w1 : IntKind.i64.wrap ((L[i].1 : Nat) : Int) = ((L[i].1 : Nat) : Int) := i64_id (by omega) (by omega)
  have w2 : IntKind.i64.wrap ((L[i].2.1 : Nat) : Int) = ((L[i].2.1 : Nat) : Int) := i64_id (by omega) (by omega)
  have m1 : ((L[i].1 : Nat) : Int).tmod 3 = ((L[i].1 % 3 : Nat) : Int) := rfl
  have m2 : ((L[i].2.1 : Nat) : Int).tmod 3 = ((L[i].2.1 % 3 : Nat) : Int) := rfl
  have w3 := u8_nat i
  have hpA : pkA L i = ⟨(L[i].1 % 3 : Nat), (L[i].2.1 % 3 : Nat), .some, [L[i].2.2, i % 256]⟩ := by unfold pkA; rw [List.getElem?_eq_getElem hi]
  have hA2 := pkA_two L i
  have hAok := pkA_ok L i
  have hcn := fun (σ : AMem) => copyNet_call (k := k) (σ := σ) 3 K ps (by omega) hbl (by omega)
  simp only [hps] at hcn
  have hsend := fun (σ : AMem) => send_call (k := k) (σ := σ) 3 (lkOf ps.length) ps (pkA L i) (by omega) hvk hbl hA2.2 (by omega) (by omega)
  -- the memory behind the copy of the packet
  have hcp : ∀ σ' : AMem, σ'.get σ.next = some (.row 1 false [.int .u8 (L[i].2.2 : Nat), .int .u8 (i % 256 : Nat)]) → pureCall lawProg (callN lawProg k) (.func 24 [] []) [.agg [.int .i64 (L[i].1 % 3 : Nat), .int .i64 (L[i].2.1 % 3 : Nat), .slice σ.next 0 2 (some 2) 1]] σ' = some (.agg [.int .i64 (L[i].1 % 3 : Nat), .int .i64 (L[i].2.1 % 3 : Nat), .vs .some (bytesV [L[i].2.2, i % 256])], σ') := fun σ' h =>
    copyPacket_mem (k := k) (σ := σ') (r := σ.next) ⟨(L[i].1 % 3 : Nat), (L[i].2.1 % 3 : Nat), .some, [L[i].2.2, i % 256]⟩ h rfl rfl (by omega)
  replace hcp := hcp ((((σ.push (.row 1 false [.int .u8 (L[i].2.2 : Nat), .int .u8 (i % 256 : Nat)])).push (.row 3 true [.int .i64 0, .int .i64 0, .vs .nil []])).put (σ.next + 1) (.row 3 true [.int .i64 (L[i].1 % 3 : Nat), .int .i64 (L[i].2.1 % 3 : Nat), .slice σ.next 0 2 (some 2) 1])).push (.row 2 true [.int .i64 0, .vs .nil []])) (by
    rw [AMem.get_push, if_neg (by simp; omega), AMem.get_put, if_neg (by omega), AMem.get_push, if_neg (by simp), AMem.get_push, if_pos rfl])
  simp only [hpA] at hsend
  rw [hpA] at hA2 hAok
  have z3 : ((3 : Nat) : Int) = 3 := rfl
  have z2 : ((2 : Nat) : Int) = 2 := rfl
  have q0 : ¬ σ.next = 0 := by omega
  have q1 : ¬ σ.next = 1 := by omega
  have q2 : ¬ 1 = σ.next := by omega
  have q3 : ¬ σ.next + 1 = 0 := by omega
  have q4 : ¬ σ.next + 1 = 1 := by omega
  have q5 : ¬ σ.next + 2 = 0 := by omega
  have q6 : ¬ σ.next + 2 = 1 := by omega
  by_cases h60 : ps.length = 60
  · obtain ⟨e1, e2⟩ := send_full (p := ⟨(L[i].1 % 3 : Nat), (L[i].2.1 % 3 : Nat), .some, [L[i].2.2, i % 256]⟩) ok hAok h60
    simp only [e1, e2, netV, List.map_nil] at hsend
    have hbq : (((ps.length : Nat) : Int) == 60) = true := by rw [h60]; rfl
    refine ⟨.normal, _, _, by
      simp only [codeA, roundC, bodyOf, Tryz.f7, Option.getD_some, flatC, innerC, thenC, stmtC, List.append_assoc, q_seq, q_cond, q_block, q_region, q_drawn, q_skip, q_exit, q_ret, runOps, runD, again, step1, wantA, opSem, evalO, evalL, evalOpt, evalParts, putA, ofConst, ofScalar, ofScalars, abin, abinInt, aun, convA, builtinA, oneTy, elemTy, lenB_vs, lenB_sl, lenB_str, loadA, storeA, storeCellsA, setAt, partA, fillA, placesA, isFn, TyI.isAgg, isSeq, isNum, sliceA, boundA, cells_bool, one_bool, cells_int, one_int, cells_str, one_str, cells_ptr, one_ptr, cells_nilptr, one_nilptr, cells_slice, one_slice, cells_vs, one_vs, cells_vptr, one_vptr, cells_func, one_func, cells_yield, one_yield, cells_nilfn, one_nilfn, cells_nilmap, one_nilmap, cells_map, one_map, cells_agg, setParams, Tr.get_set, AMem.get_put, AMem.get_push, AMem.next_put, AMem.next_push, AMem.get_empty, next_empty, Option.map_some, Option.map_none, Option.bind_some, reduceIte, Nat.reduceLT, Nat.reduceLeDiff, Nat.reduceEqDiff, Nat.reduceAdd, Nat.reduceMul, Nat.reduceSub, Nat.reduceBEq, Nat.zero_add, Nat.add_zero, Nat.mul_one, Nat.one_mul, Nat.zero_mul, and_self, and_true, true_and, false_and, and_false, Bool.and_true, Bool.true_and, Bool.and_false, Bool.false_and, if_true, if_false, Int.reduceEq, Int.reduceLT, Int.reduceLE, Int.reduceToNat, Bool.false_eq_true, Bool.not_true, Bool.not_false, BEq.rfl, beq_true_true, beq_true_false, beq_false_true, beq_false_false, List.length_cons, List.length_nil, List.all_cons, List.all_nil, List.getElem?_cons_zero, List.getElem?_cons_succ, List.getElem?_nil, List.getElem?_toArray, List.take_succ_cons, List.take_zero, List.drop_succ_cons, List.drop_zero, List.set_cons_zero, List.set_cons_succ, List.append_nil, List.nil_append, List.cons_append, decide_true, decide_false, decide_eq_true_eq, Option.isNone_none, Option.isNone_some, Option.isSome_none, Option.isSome_some, Bool.or_true, Bool.true_or, Bool.or_false, Bool.false_or, ne_eq, not_false_eq_true, not_true_eq_false, reduceCtorEq, eq_self, beq_refl, minL, minF, maxL, maxF, repZ, vp7_9, vp7_22, vp7_23, vp7_24, vp7_28, vp7_31, vp7_34, vp7_35, ty3, ty4, ty5, ty22, ty25, ty40, ty42, ty44, ty58, ty63, ty64, ty66, ty67, ty68, ord7_8, ord7_9, ord7_10, ord7_15, ord7_17, ord7_18, ord7_22, Nat.add_assoc, Nat.add_eq_left, Nat.left_eq_add, Nat.add_left_cancel_iff, t1, t3, t5, t6, t7, t4, g0, g1, hlt, List.length_map, Int.natCast_nonneg, Int.toNat_natCast, l3_get hi, w1, w2, m1, m2, w3, hcn, hcp, hsend, hbq, z3, z2, q0, q1, q2, q3, q4, q5, q6]
      rfl, rfl, K, ps, l, ?_⟩
    refine ⟨?_, ?_, ?_, ?_, ?_, ⟨out, ?_, sm.same ?_ fun s h1 h2 => ?_⟩, ?_, ?_, ?_, ok, each, by omega⟩
    · simp only [Tr.get_set, Nat.reduceEqDiff, reduceIte, t1]
    · simp only [Tr.get_set, Nat.reduceEqDiff, reduceIte, t3]
    · simp only [Tr.get_set, Nat.reduceEqDiff, reduceIte, t5]
    · simp only [Tr.get_set, Nat.reduceEqDiff, reduceIte, t6]
    · simp only [Tr.get_set, Nat.reduceEqDiff, reduceIte, t7]
    · simp only [Tr.get_set, Nat.reduceEqDiff, reduceIte, t4]
    · simp only [AMem.next_push, AMem.next_put]; omega
    · simp only [AMem.get_push, AMem.get_put, AMem.next_push, AMem.next_put, show ¬ σ.next = s by omega, show ¬ σ.next + 1 = s by omega, show ¬ σ.next + 2 = s by omega, show ¬ σ.next + 1 + 1 = s by omega, if_false]
    · simp only [AMem.get_push, AMem.get_put, AMem.next_push, AMem.next_put, q0, q3, q5, show ¬ σ.next + 1 + 1 = 0 by omega, if_false, g0]
    · simp only [AMem.get_push, AMem.get_put, AMem.next_push, AMem.next_put, q1, q4, q6, show ¬ σ.next + 1 + 1 = 1 by omega, if_false, g1]
    · simp only [AMem.next_push, AMem.next_put]; omega
  · obtain ⟨e1, e2⟩ := send_ok (p := ⟨(L[i].1 % 3 : Nat), (L[i].2.1 % 3 : Nat), .some, [L[i].2.2, i % 256]⟩) ok hAok h60
    generalize hpa : (⟨(L[i].1 % 3 : Nat), (L[i].2.1 % 3 : Nat), .some, [L[i].2.2, i % 256]⟩ : Pk) = pa at e1 e2 hA2 hAok
    have hps2 : (ps ++ [pa]).map cp = ps ++ [pa] := map_cp fun p hp => by
      rcases List.mem_append.1 hp with hp | hp
      · exact hvk p hp
      · simp only [List.mem_singleton] at hp; subst hp; exact hA2.2
    rw [hps2] at e2
    have hst : stM pa σ.next = [.int .i64 (L[i].1 % 3 : Nat), .int .i64 (L[i].2.1 % 3 : Nat), .slice σ.next 0 2 (some 2) 1] := by rw [← hpa]; rfl
    have hbv : bytesV pa.b = [.int .u8 (L[i].2.2 : Nat), .int .u8 (i % 256 : Nat)] := by rw [← hpa]; rfl
    simp only [hpa, e1, e2, netV] at hsend
    have hnew : NetOk 3 (ps ++ [pa]) := ⟨ok.1, by rw [List.length_append, List.length_singleton]; omega, fun p hp => by
      rcases List.mem_append.1 hp with hp | hp
      · exact ok.2.2 p hp
      · simp only [List.mem_singleton] at hp; subst hp; exact hAok⟩
    have hin := fun (σ : AMem) => isNet_call (k := k) (σ := σ) 3 .some (ps ++ [pa]) (by rw [List.length_append, List.length_singleton]; omega) (by omega)
    simp only [decide_eq_true hnew] at hin
    let σa : AMem := ((((σ.push (.row 1 false [.int .u8 (L[i].2.2 : Nat), .int .u8 (i % 256 : Nat)])).push (.row 3 true [.int .i64 0, .int .i64 0, .vs .nil []])).put (σ.next + 1) (.row 3 true [.int .i64 (L[i].1 % 3 : Nat), .int .i64 (L[i].2.1 % 3 : Nat), .slice σ.next 0 2 (some 2) 1])).push (.row 2 true [.int .i64 0, .vs .nil []])).put (σ.next + 2) (.row 2 true [.int .i64 3, .vs .some ((ps ++ [pa]).map pkV)])
    have hna : σa.next = σ.next + 3 := rfl
    have sma : SentMem 2 σa out l := sm.same (by omega) fun s h1 h2 => by
      simp only [σa, AMem.get_push, AMem.get_put, AMem.next_push, AMem.next_put, show ¬ σ.next = s by omega, show ¬ σ.next + 1 = s by omega, show ¬ σ.next + 2 = s by omega, show ¬ σ.next + 1 + 1 = s by omega, if_false]
    have hrow : σa.get σ.next = some (.row 1 false (bytesV pa.b)) := by
      rw [hbv]
      simp only [σa, AMem.get_push, AMem.get_put, AMem.next_push, AMem.next_put, Nat.add_assoc, Nat.reduceAdd, Nat.add_eq_left, Nat.reduceEqDiff, reduceIte]
    have hne : ∀ n c z, out ≠ .slice σ.next 0 n c z := by
      intro n c z h
      rcases sm.1.2 with ⟨_, rfl⟩ | ⟨r, _, hr, rfl, _⟩
      · cases h
      · simp only [AVal.slice.injEq] at h; omega
    obtain ⟨σb, a1, a2, a3, a4, a5⟩ := sma.add (p := pa) (r := σ.next) (by omega) nx (by omega) hrow (by rw [← hpa]; rfl) hA2.2 hne (by omega)
    rw [hst] at a1
    simp only [tyPk, σa, AMem.next_put, AMem.next_push, Nat.add_assoc, Nat.reduceAdd] at a1
    have kb1 : σb.get 1 = some (.row 2 true [.int .i64 3, .vs K (ps.map pkV)]) := by
      rw [a4 1 (by omega)]
      simp only [σa, AMem.get_push, AMem.get_put, AMem.next_push, AMem.next_put, q1, q4, q6, show ¬ σ.next + 1 + 1 = 1 by omega, if_false, g1]
    have kb0 : σb.get 0 = some (.row 2 true [.vs k1 (L.map l3V), .vs k2 (M.map m4V)]) := by
      rw [a4 0 (by omega)]
      simp only [σa, AMem.get_push, AMem.get_put, AMem.next_push, AMem.next_put, q0, q3, q5, show ¬ σ.next + 1 + 1 = 0 by omega, if_false, g0]
    have kbn : σb.get (σ.next + 2) = some (.row 2 true [.int .i64 3, .vs .some ((ps ++ [pa]).map pkV)]) := by
      rw [a5 _ (by omega) (fun h => by
        rcases sm.1.2 with ⟨_, rfl⟩ | ⟨r, _, hr, rfl, _⟩
        · cases h
        · simp only [AVal.slice.injEq] at h; omega)]
      simp only [σa, AMem.get_put, reduceIte]
    have hw5 : IntKind.i64.wrap (((ps.length : Nat) : Int) + 1) = ((ps.length + 1 : Nat) : Int) := i64_succ (by omega)
    have b8 : ((0 : Int) == 8) = false := rfl
    have b0 : ((0 : Int) != 0) = false := rfl
    refine ⟨.normal, _, _, by
      simp only [codeA, roundC, bodyOf, Tryz.f7, Option.getD_some, flatC, innerC, thenC, stmtC, List.append_assoc, q_seq, q_cond, q_block, q_region, q_drawn, q_skip, q_exit, q_ret, runOps, runD, again, step1, wantA, opSem, evalO, evalL, evalOpt, evalParts, putA, ofConst, ofScalar, ofScalars, abin, abinInt, aun, convA, builtinA, oneTy, elemTy, lenB_vs, lenB_sl, lenB_str, loadA, storeA, storeCellsA, setAt, partA, fillA, placesA, isFn, TyI.isAgg, isSeq, isNum, sliceA, boundA, cells_bool, one_bool, cells_int, one_int, cells_str, one_str, cells_ptr, one_ptr, cells_nilptr, one_nilptr, cells_slice, one_slice, cells_vs, one_vs, cells_vptr, one_vptr, cells_func, one_func, cells_yield, one_yield, cells_nilfn, one_nilfn, cells_nilmap, one_nilmap, cells_map, one_map, cells_agg, setParams, Tr.get_set, AMem.get_put, AMem.get_push, AMem.next_put, AMem.next_push, AMem.get_empty, next_empty, Option.map_some, Option.map_none, Option.bind_some, reduceIte, Nat.reduceLT, Nat.reduceLeDiff, Nat.reduceEqDiff, Nat.reduceAdd, Nat.reduceMul, Nat.reduceSub, Nat.reduceBEq, Nat.zero_add, Nat.add_zero, Nat.mul_one, Nat.one_mul, Nat.zero_mul, and_self, and_true, true_and, false_and, and_false, Bool.and_true, Bool.true_and, Bool.and_false, Bool.false_and, if_true, if_false, Int.reduceEq, Int.reduceLT, Int.reduceLE, Int.reduceToNat, Bool.false_eq_true, Bool.not_true, Bool.not_false, BEq.rfl, beq_true_true, beq_true_false, beq_false_true, beq_false_false, List.length_cons, List.length_nil, List.all_cons, List.all_nil, List.getElem?_cons_zero, List.getElem?_cons_succ, List.getElem?_nil, List.getElem?_toArray, List.take_succ_cons, List.take_zero, List.drop_succ_cons, List.drop_zero, List.set_cons_zero, List.set_cons_succ, List.append_nil, List.nil_append, List.cons_append, decide_true, decide_false, decide_eq_true_eq, Option.isNone_none, Option.isNone_some, Option.isSome_none, Option.isSome_some, Bool.or_true, Bool.true_or, Bool.or_false, Bool.false_or, ne_eq, not_false_eq_true, not_true_eq_false, reduceCtorEq, eq_self, beq_refl, minL, minF, maxL, maxF, repZ, vp7_9, vp7_22, vp7_23, vp7_24, vp7_28, vp7_31, vp7_34, vp7_35, ty3, ty4, ty5, ty22, ty25, ty40, ty42, ty44, ty58, ty63, ty64, ty66, ty67, ty68, ord7_8, ord7_9, ord7_10, ord7_15, ord7_17, ord7_18, ord7_22, Nat.add_assoc, Nat.add_eq_left, Nat.left_eq_add, Nat.add_left_cancel_iff, t1, t3, t5, t6, t7, t4, g0, g1, hlt, List.length_map, Int.natCast_nonneg, Int.toNat_natCast, l3_get hi, w1, w2, m1, m2, w3, hcn, hcp, hsend, z3, z2, q0, q1, q2, q3, q4, q5, q6, b8, b0, hin, a1, kb1, kbn, hw5]
      rfl, rfl, .some, ps ++ [pa], l ++ [(pa, σ.next)], ?_⟩
    refine ⟨?_, ?_, ?_, ?_, ?_, ⟨_, ?_, a2.same ?_ fun s h1 h2 => ?_⟩, ?_, ?_, ?_, hnew, fun p hp => ?_, by rw [List.length_append, List.length_singleton]; omega⟩
    · simp only [Tr.get_set, Nat.reduceEqDiff, reduceIte, t1]
    · simp only [Tr.get_set, Nat.reduceEqDiff, reduceIte, t3]
    · simp only [Tr.get_set, Nat.reduceEqDiff, reduceIte, List.length_append, List.length_singleton]
    · simp only [Tr.get_set, Nat.reduceEqDiff, reduceIte, t6]
    · simp only [Tr.get_set, Nat.reduceEqDiff, reduceIte, t7]
    · simp only [Tr.get_set, Nat.reduceEqDiff, reduceIte]; rfl
    · simp
    · rw [AMem.get_put, if_neg (by omega)]
    · rw [AMem.get_put, if_neg (by omega)]; exact kb0
    · rw [AMem.get_put, if_pos rfl]
    · simp only [AMem.next_put]; omega
    · rw [List.map_append]
      rcases List.mem_append.1 hp with hp | hp
      · obtain ⟨x1, x2, x3⟩ := each p hp
        exact ⟨x1, x2, sentIn_mono x3 fun s hs => by simp only [List.mem_append]; exact .inl hs⟩
      · simp only [List.mem_singleton] at hp
        subst hp
        exact ⟨hA2.2, hA2.1, p, by simp, rfl, rfl, rfl, fun _ => rfl⟩
end Go.Proofs.YtikhidpcaefjiaaGreatDoor
