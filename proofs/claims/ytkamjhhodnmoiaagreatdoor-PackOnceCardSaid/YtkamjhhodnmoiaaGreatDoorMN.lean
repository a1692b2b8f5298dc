import Derived.Test.YtkamjhhodnmoiaaGreatDoorMA
import Derived.Test.YtkamjhhodnmoiaaGreatDoorF4
import Derived.Test.YtkamjhhodnmoiaaGreatDoorMH
import Derived.Test.YtkamjhhodnmoiaaGreatDoorPaleDeep
import Derived.Test.YtkamjhhodnmoiaaGreatDoorG1
/- The chunks of some messages: what chunks gives. -/
set_option maxRecDepth 100000
set_option linter.unusedSimpArgs false
set_option linter.unusedVariables false
namespace Go.Proofs.YtkamjhhodnmoiaaGreatDoor
open Go Go.Proofs.YtkamjhhodnmoiaaGreatDoor.Pale
variable {k : Nat} {σ : AMem}

def tyCk : TyI := (⟨.struct [(0, 3), (1, 3), (2, 3), (3, 25)], 4, 48, [.int .i64 0, .int .i64 0, .int .i64 0, .vs .nil []]⟩ : TyI)
def ckC (c : Ck) : List AVal := [.int .i64 c.name, .int .i64 c.at_, .int .i64 c.of, .vs c.vk (bytesV c.d)]
def cksOf (name : Int) (bs : List Nat) (s : Nat) : List Ck := (List.range (manyOf bs.length s)).map fun (i : Nat) => ⟨name, (i : Nat), (manyOf bs.length s : Nat), .some, partOf bs s i⟩
theorem cksOf_length (name : Int) (bs : List Nat) (s : Nat) : (cksOf name bs s).length = manyOf bs.length s := by simp [cksOf]
theorem chunkL_cks (name : Int) (bs : List Nat) (s : Nat) : (chunkL name (fun _ => manyOf bs.length s) bs s (manyOf bs.length s)).map AVal.agg = (cksOf name bs s).map ckV := by
  unfold chunkL cksOf
  rw [List.map_map, List.map_map]
  rfl
def mailStep (s : Nat) (most : Nat) (acc : List Ck × List Part) (m : Part) : List Ck × List Part :=
  if acc.2.length < most ∧ m.2.length ≠ 0 ∧ m.2.length ≤ 600 ∧ manyOf m.2.length s ≤ 200 ∧ acc.1.length + manyOf m.2.length s ≤ 40 then (acc.1 ++ cksOf (acc.2.length : Nat) m.2 s, acc.2 ++ [m]) else acc
def mailL (s most : Nat) (ms : List Part) : List Ck × List Part := ms.foldl (mailStep s most) ([], [])
theorem mail_stop {s most : Nat} : ∀ (ms : List Part) (acc : List Ck × List Part), most ≤ acc.2.length → ms.foldl (mailStep s most) acc = acc := by
  intro ms
  induction ms with
  | nil => intro acc _; rfl
  | cons m ms ih =>
    intro acc h
    rw [List.foldl_cons, show mailStep s most acc m = acc by unfold mailStep; rw [if_neg (by omega)]]
    exact ih acc h
theorem mail_take {s most : Nat} {ms : List Part} {i : Nat} (hi : i < ms.length) : mailL s most (ms.take (i + 1)) = mailStep s most (mailL s most (ms.take i)) ms[i] := by
  unfold mailL
  rw [List.take_succ_eq_append_getElem hi, List.foldl_append]
  rfl
theorem mail_done {s most : Nat} {ms : List Part} {i : Nat} (h : most ≤ (mailL s most (ms.take i)).2.length) : mailL s most ms = mailL s most (ms.take i) := by
  have h1 : mailL s most ms = (ms.drop i).foldl (mailStep s most) (mailL s most (ms.take i)) := by
    unfold mailL
    rw [← List.foldl_append, List.take_append_drop]
  rw [h1]
  exact mail_stop _ _ h
theorem mail_bound (s most : Nat) : ∀ (ms : List Part) (acc : List Ck × List Part), acc.1.length ≤ 40 → acc.2.length ≤ most → (ms.foldl (mailStep s most) acc).1.length ≤ 40 ∧ (ms.foldl (mailStep s most) acc).2.length ≤ most := by
  intro ms
  induction ms with
  | nil => intro acc h1 h2; exact ⟨h1, h2⟩
  | cons m ms ih =>
    intro acc h1 h2
    rw [List.foldl_cons]
    unfold mailStep
    split
    · rename_i h
      exact ih _ (by simp only [List.length_append, cksOf_length]; omega) (by simp only [List.length_append, List.length_singleton]; omega)
    · exact ih _ h1 h2

theorem grewS {low : Nat} {σ σ' : AMem} {sz : Nat} {g : Bool} {out : AVal} {j : Nat} {cells : List AVal} (h : Grew low σ sz g out j cells) (hn : σ.next ≤ σ'.next) (hs : ∀ s, s ∈ rowOf out → σ'.get s = σ.get s) : Grew low σ' sz g out j cells := by
  refine ⟨h.1, ?_⟩
  rcases h.2 with h | ⟨r, h1, h2, rfl, h4⟩
  · exact .inl h
  · exact .inr ⟨r, h1, by omega, rfl, by rw [hs r (by simp [rowOf])]; exact h4⟩
theorem source_cks (σ : AMem) (cs : List Ck) : sourceA 4 σ (.vs .some (cs.map ckV)) = some ((cs.map ckC).flatten, cs.length) := by
  have h1 : (cs.map ckV).all (fun e => e.cells.length == 4) = true := by
    rw [List.all_eq_true]
    intro v hv
    obtain ⟨c, _, rfl⟩ := List.mem_map.1 hv
    rfl
  have h2 : (cs.map ckV).flatMap AVal.cells = (cs.map ckC).flatten := by
    rw [List.flatMap_def, List.map_map]
    rfl
  simp only [sourceA, h1, if_true, h2, List.length_map]
theorem ckC_flat (cs : List Ck) : (cs.map ckC).flatten.length = cs.length * 4 := by
  rw [flat_length (sz := 4) (fun l hl => by
    obtain ⟨c, _, rfl⟩ := List.mem_map.1 hl
    rfl), List.length_map]
theorem ckC_pure (cs : List Ck) : (cs.map ckC).flatten.all pureB = true := by
  rw [List.all_eq_true]
  intro v hv
  obtain ⟨c, hc, hv⟩ := List.mem_flatten.1 hv
  obtain ⟨c, _, rfl⟩ := List.mem_map.1 hc
  simp only [ckC, List.mem_cons, List.not_mem_nil, or_false] at hv
  rcases hv with rfl | rfl | rfl | rfl <;> rfl

theorem split_at {r n : Nat} {cap : Option Nat} (bs : List Nat) (name size : Int) (hr : σ.get r = some (.row 1 false (bytesV bs))) (hn : n = bs.length) (hb : bs.length ≤ 3000) (hk : 5000 ≤ k) : ∃ σ', pureCall lawProg (callN lawProg k) (.func 23 [] []) [.slice r 0 n cap 1, .int .i64 name, .int .i64 size] σ = some (.tuple [(splitR bs name size).1, .int .i64 (splitR bs name size).2], σ') ∧ σ'.next = σ.next ∧ ∀ s, s ≠ r → σ'.get s = σ.get s := by
  obtain ⟨k, rfl⟩ : ∃ m, k = m + 1 := ⟨k - 1, by omega⟩
  obtain ⟨b, h⟩ := split_run (k := k) bs name size hb (by omega)
  have hx : snapF false σ snapDepth (.slice r 0 n cap 1) = some (.vs .some (bytesV bs), [r]) := snap_bytes (fr := false) (d := 10) (more := []) hn (by rw [List.append_nil]; exact hr)
  have hs : snapL (snapF false σ snapDepth) [.slice r 0 n cap 1, .int .i64 name, .int .i64 size] = some ([.vs .some (bytesV bs), .int .i64 name, .int .i64 size], [r]) := by
    simp only [snapL, hx]; rfl
  refine ⟨if b then σ else delAll σ [r], by simp only [pureCall, hs, memoRun, isFn, memo23, h], ?_, fun s hs => ?_⟩
  · cases b <;> rfl
  · cases b
    · simp only [Bool.false_eq_true, if_false, delAll]
      rw [AMem.get_del, if_neg (Ne.symm hs)]
    · rfl

theorem GrewE.snapK {low : Nat} {σ : AMem} {out : AVal} {cells : List AVal} (d : Nat) {j : Nat} (h : Grew low σ 1 false out j cells) (h0 : j = 0 → out = .vs .nil []) (hp : cells.all pureB = true) : ∃ seen, snapF false σ (d + 2) out = some (.vs (lkOf j) cells, seen) := by
  by_cases hj : j = 0
  · have h1 := h.1
    have : cells = [] := List.eq_nil_of_length_eq_zero (by omega)
    subst this
    rw [h0 hj, hj]
    exact ⟨[], rfl⟩
  · obtain ⟨vk, seen, h1, h2, _, _⟩ := GrewE.snap (d := d) (.inl h) hp
    have hne : out ≠ .vs .nil [] := by
      intro e
      rcases h.2 with ⟨h, _⟩ | ⟨r, _, _, h, _⟩
      · exact hj h
      · rw [e] at h; cases h
    rw [h2 hne] at h1
    rw [show lkOf j = .some by simp [lkOf, hj]]
    exact ⟨seen, h1⟩

/-- What is so in each round of chunks. -/
structure MailSt (s most : Nat) (sz : Int) (kl kw : VK) (ms : List Part) (way : List Nat) (i : Nat) (T : Tr AVal) (σ : AMem) (out al : AVal) (acc : List Ck × List Part) : Prop where
  hi : i ≤ ms.length
  t1 : T.get 1 = some (.int .i64 (most : Nat))
  t2 : T.get 2 = some (.ptr 0 0)
  t7 : T.get 7 = some out
  t8 : T.get 8 = some al
  t9 : T.get 9 = some (.int .i64 (s : Nat))
  t10 : T.get 10 = some (.int .i64 (i : Nat))
  m0 : σ.get 0 = some (.row 3 true [.int .u8 sz, .vs kl (ms.map partV), .vs kw (bytesV way)])
  nx : 1 ≤ σ.next
  go : Grew 1 σ 4 true out acc.1.length (acc.1.map ckC).flatten
  z1 : acc.1.length = 0 → out = .vs .nil []
  ga : Grew 1 σ 1 false al acc.2.length (acc.2.map partV)
  z2 : acc.2.length = 0 → al = .vs .nil []
  ap : ∀ r, r ∈ rowOf out → r ∉ rowOf al
  eq : acc = mailL s most (ms.take i)

end Go.Proofs.YtkamjhhodnmoiaaGreatDoor

/- chunks: the walk. -/
set_option maxRecDepth 100000
set_option linter.unusedSimpArgs false
set_option linter.unusedVariables false
namespace Go.Proofs.YtkamjhhodnmoiaaGreatDoor
open Go Go.Proofs.YtkamjhhodnmoiaaGreatDoor.Pale
variable {k : Nat} {σ : AMem}

theorem MailSt.lenAl {s most : Nat} {sz : Int} {kl kw : VK} {ms : List Part} {way : List Nat} {i : Nat} {T : Tr AVal} {σ : AMem} {out al : AVal} {acc : List Ck × List Part} (st : MailSt s most sz kl kw ms way i T σ out al acc) : lenB (⟨.slice 25, 1, 24, [.vs .nil []]⟩ : TyI) al = some (.int .i64 (acc.2.length : Nat)) := by
  rcases st.ga.2 with ⟨h, rfl⟩ | ⟨r, _, _, rfl, _⟩
  · rw [h]; rfl
  · rfl
theorem MailSt.lenOut {s most : Nat} {sz : Int} {kl kw : VK} {ms : List Part} {way : List Nat} {i : Nat} {T : Tr AVal} {σ : AMem} {out al : AVal} {acc : List Ck × List Part} (st : MailSt s most sz kl kw ms way i T σ out al acc) : lenB (⟨.slice 27, 1, 24, [.vs .nil []]⟩ : TyI) out = some (.int .i64 (acc.1.length : Nat)) := by
  rcases st.go.2 with ⟨h, rfl⟩ | ⟨r, _, _, rfl, _⟩
  · rw [h]; rfl
  · rfl
/-- A round that takes nothing. -/
theorem MailSt.skip {s most : Nat} {sz : Int} {kl kw : VK} {ms : List Part} {way : List Nat} {i : Nat} {T T' : Tr AVal} {σ σ' : AMem} {out al : AVal} {acc : List Ck × List Part} (st : MailSt s most sz kl kw ms way i T σ out al acc) (hi : i < ms.length) (hn : σ.next ≤ σ'.next) (hs : ∀ r, r < σ.next → σ'.get r = σ.get r)
    (hno : mailStep s most acc ms[i] = acc) (u1 : T'.get 1 = T.get 1) (u2 : T'.get 2 = T.get 2) (u7 : T'.get 7 = T.get 7) (u8 : T'.get 8 = T.get 8) (u9 : T'.get 9 = T.get 9) (u10 : T'.get 10 = some (.int .i64 ((i + 1 : Nat) : Int))) : MailSt s most sz kl kw ms way (i + 1) T' σ' out al acc := by
  have hb : ∀ r, r ∈ rowOf out → r < σ.next := fun r h => (st.go.rows r h).2.1
  have hb2 : ∀ r, r ∈ rowOf al → r < σ.next := fun r h => (st.ga.rows r h).2.1
  exact ⟨hi, u1.trans st.t1, u2.trans st.t2, u7.trans st.t7, u8.trans st.t8, u9.trans st.t9, u10, (hs 0 (by have := st.nx; omega)).trans st.m0, by have := st.nx; omega, grewS st.go hn fun r h => hs r (hb r h), st.z1, grewS st.ga hn fun r h => hs r (hb2 r h), st.z2, st.ap, by rw [mail_take hi, ← st.eq, hno]⟩

theorem mailChunks_call (z : Nat) (hz : z < 256) (kl kw : VK) (ms : List Part) (way : List Nat) (most : Nat) (hmost : most ≤ 10) (hms : ms.length ≤ 9223372036854775807) (hk : 6000 + ms.length ≤ k) :
    pureCall lawProg (callN lawProg k) (.func 17 [] []) [.agg [.int .u8 (z : Nat), .vs kl (ms.map partV), .vs kw (bytesV way)], .int .i64 (most : Nat)] σ = some (.tuple [.vs (lkOf (mailL (z % 100 + 1) most ms).1.length) ((mailL (z % 100 + 1) most ms).1.map ckV), .vs (lkOf (mailL (z % 100 + 1) most ms).2.length) ((mailL (z % 100 + 1) most ms).2.map partV), .bool (decide (((mailL (z % 100 + 1) most ms).2.length : Int) > 0))], σ) := by
  obtain ⟨k, rfl⟩ : ∃ m, k = m + 1 := ⟨k - 1, by omega⟩
  obtain ⟨s, hs⟩ : ∃ s, s = z % 100 + 1 := ⟨_, rfl⟩
  rw [← hs]
  have hs1 : 1 ≤ s := by omega
  have hs2 : s ≤ 100 := by omega
  have hcz : IntKind.i64.wrap ((z : Nat) : Int) = ((z : Nat) : Int) := i64_id (by omega) (by omega)
  have hrm : ((z : Nat) : Int).tmod 100 = ((z % 100 : Nat) : Int) := rfl
  have hw1 : IntKind.i64.wrap ((z % 100 : Nat) : Int) = ((z % 100 : Nat) : Int) := i64_id (by omega) (by omega)
  have hw2 : IntKind.i64.wrap (((z % 100 : Nat) : Int) + 1) = ((s : Nat) : Int) := by rw [i64_id (by omega) (by omega)]; omega
  have run : ∃ T1 σ1 x y seen seen2, execC lawProg (callN lawProg k) k 17 87 (bodyOf Tryz.f17) (initT 0 [.agg [.int .u8 (z : Nat), .vs kl (ms.map partV), .vs kw (bytesV way)], .int .i64 (most : Nat)] .nil) AMem.empty = some (.ret, T1, σ1) ∧ resultsA lawProg T1 σ1 Tryz.f17.results.toList = some [x, y, .bool (decide (((mailL s most ms).2.length : Int) > 0))] ∧ snapF false σ1 11 x = some (.vs (lkOf (mailL s most ms).1.length) ((mailL s most ms).1.map ckV), seen) ∧ snapF false σ1 11 y = some (.vs (lkOf (mailL s most ms).2.length) ((mailL s most ms).2.map partV), seen2) := by
    simp only [bodyOf, Tryz.f17, Option.getD_some, initT, runOps, runD, again, step1, wantA, opSem, evalO, evalL, evalOpt, evalParts, putA, ofConst, ofScalar, ofScalars, abin, abinInt, aun, convA, builtinA, oneTy, elemTy, loadA, storeA, storeCellsA, setAt, partA, fillA, placesA, isFn, TyI.isAgg, isSeq, isNum, sliceA, boundA, setParams, minL, minF, maxL, maxF, repZ, reduceIte, Nat.reduceLT, Nat.reduceLeDiff, Nat.reduceEqDiff, Nat.reduceAdd, Nat.reduceMul, Nat.reduceSub, Nat.reduceBEq, Int.reduceEq, Int.reduceLT, Int.reduceLE, Int.reduceToNat, reduceCtorEq, sx, fx17, hcz, hrm, hw1, hw2]
    generalize hL : execC _ _ _ _ _ (Code.loop _) _ _ = q
    obtain ⟨e, T', σ', rfl, _, rfl, out, al, i, acc, st, hfin⟩ : ∃ e T' σ', q = some (e, T', σ') ∧ e ≠ .normal ∧ (e = .exit 0 ∧ ∃ out al i acc, MailSt s most (z : Nat) kl kw ms way i T' σ' out al acc ∧ acc = mailL s most ms) := by
      rw [← hL]
      refine exec_loop2 (fun i T σ => ∃ out al acc, MailSt s most (z : Nat) kl kw ms way i T σ out al acc) ms.length (by omega) ?_ ?_ ?_
      · rintro i hi T σ ⟨out, al, acc, st⟩
        have hla := st.lenAl
        have hlo := st.lenOut
        obtain ⟨_, t1, t2, t7, t8, t9, t10, m0, nx, go, z1, ga, z2, ap, heq⟩ := id st
        have hlt : (i : Int) < ms.length := by omega
        have hw := i64_succ (i := i)
        have hbd := mail_bound s most (ms.take i) ([], []) (by simp) (by simp)
        rw [show (ms.take i).foldl (mailStep s most) ([], []) = acc from heq.symm] at hbd
        by_cases hm : ((acc.2.length : Nat) : Int) < ((most : Nat) : Int)
        · left
          have hmn : acc.2.length < most := by omega
          have hti := part_get hi
          have hwi : IntKind.i64.wrap ((i : Int) + 1) = ((i + 1 : Nat) : Int) := by rw [i64_id (by omega) (by omega)]; omega
          have q1 : ¬ σ.next = 0 := by omega
          by_cases b1 : ms[i].2.length = 0
          · have hb1 : (((ms[i].2.length : Nat) : Int) == 0) = true := by rw [beq_iff_eq]; omega
            refine ⟨_, _, by
              simp only [runOps, runD, again, step1, wantA, opSem, evalO, evalL, evalOpt, evalParts, putA, ofConst, ofScalar, ofScalars, abin, abinInt, aun, convA, builtinA, oneTy, elemTy, loadA, storeA, storeCellsA, setAt, partA, fillA, placesA, isFn, TyI.isAgg, isSeq, isNum, sliceA, boundA, setParams, minL, minF, maxL, maxF, repZ, reduceIte, Nat.reduceLT, Nat.reduceLeDiff, Nat.reduceEqDiff, Nat.reduceAdd, Nat.reduceMul, Nat.reduceSub, Nat.reduceBEq, Int.reduceEq, Int.reduceLT, Int.reduceLE, Int.reduceToNat, reduceCtorEq, sx, fx17, t1, t2, t7, t8, t9, t10, m0, hlt, List.length_map, Int.natCast_nonneg, Int.toNat_natCast, hti, bytesV_length, hla, hm, hwi, hb1]
              rfl, out, al, acc, st.skip hi (Nat.le_refl _) (fun _ _ => rfl) (by unfold mailStep; rw [if_neg (by omega)]) ?_ ?_ ?_ ?_ ?_ ?_⟩
            all_goals simp only [Tr.get_set, Nat.reduceEqDiff, reduceIte]
          · have hb1 : (((ms[i].2.length : Nat) : Int) == 0) = false := by rw [beq_eq_false_iff_ne]; omega
            by_cases b2 : ((ms[i].2.length : Nat) : Int) > 600
            · refine ⟨_, _, by
                simp only [runOps, runD, again, step1, wantA, opSem, evalO, evalL, evalOpt, evalParts, putA, ofConst, ofScalar, ofScalars, abin, abinInt, aun, convA, builtinA, oneTy, elemTy, loadA, storeA, storeCellsA, setAt, partA, fillA, placesA, isFn, TyI.isAgg, isSeq, isNum, sliceA, boundA, setParams, minL, minF, maxL, maxF, repZ, reduceIte, Nat.reduceLT, Nat.reduceLeDiff, Nat.reduceEqDiff, Nat.reduceAdd, Nat.reduceMul, Nat.reduceSub, Nat.reduceBEq, Int.reduceEq, Int.reduceLT, Int.reduceLE, Int.reduceToNat, reduceCtorEq, sx, fx17, t1, t2, t7, t8, t9, t10, m0, hlt, List.length_map, Int.natCast_nonneg, Int.toNat_natCast, hti, bytesV_length, hla, hm, hwi, hb1, b2]
                rfl, out, al, acc, st.skip hi (Nat.le_refl _) (fun _ _ => rfl) (by unfold mailStep; rw [if_neg (by omega)]) ?_ ?_ ?_ ?_ ?_ ?_⟩
              all_goals simp only [Tr.get_set, Nat.reduceEqDiff, reduceIte]
            · obtain ⟨r, σ1, c1, c2, c3, c4, c5⟩ := copy_at (σ := σ) (.vs ms[i].1 (bytesV ms[i].2)) (bs := ms[i].2) (fun σ => source_bytes σ _ _) (by omega)
              obtain ⟨σ2, d1, d2, d3⟩ := split_at (k := k) (σ := σ1) (cap := capOf ms[i].2) ms[i].2 ((acc.2.length : Nat) : Int) ((s : Nat) : Int) c5 rfl (by omega) (by omega)
              have hlow : ∀ x, x < σ.next → σ2.get x = σ.get x := fun x h => by rw [d3 x (by omega), c2.2 x h]
              have hnx : σ.next ≤ σ2.next := by have := c2.1; omega
              have k1 : σ1.get 0 = some (.row 3 true [.int .u8 (z : Nat), .vs kl (ms.map partV), .vs kw (bytesV way)]) := by rw [c2.2 0 (by omega)]; exact m0
              have k2 : σ2.get 0 = some (.row 3 true [.int .u8 (z : Nat), .vs kl (ms.map partV), .vs kw (bytesV way)]) := by rw [hlow 0 (by omega)]; exact m0
              have hno : ¬ (¬ (1 ≤ ((s : Nat) : Int) ∧ ((s : Nat) : Int) ≤ 100) ∨ ¬ (0 ≤ ((acc.2.length : Nat) : Int) ∧ ((acc.2.length : Nat) : Int) ≤ 65535)) := by omega
              by_cases b3 : manyOf ms[i].2.length s ≤ 200
              · have hsp : splitR ms[i].2 ((acc.2.length : Nat) : Int) ((s : Nat) : Int) = (.vs .some ((cksOf ((acc.2.length : Nat) : Int) ms[i].2 s).map ckV), 0) := by
                  unfold splitR
                  rw [if_neg hno, if_neg b1, if_neg (by rw [Int.toNat_natCast]; omega), Int.toNat_natCast, chunkL_cks]
                rw [hsp] at d1
                have hws : IntKind.i64.wrap (((acc.1.length : Nat) : Int) + ((manyOf ms[i].2.length s : Nat) : Int)) = ((acc.1.length : Nat) : Int) + ((manyOf ms[i].2.length s : Nat) : Int) := i64_id (by omega) (by omega)
                by_cases b4 : ((acc.1.length : Nat) : Int) + ((manyOf ms[i].2.length s : Nat) : Int) > 40
                · refine ⟨_, _, by
                    simp only [runOps, runD, again, step1, wantA, opSem, evalO, evalL, evalOpt, evalParts, putA, ofConst, ofScalar, ofScalars, abin, abinInt, aun, convA, builtinA, oneTy, elemTy, loadA, storeA, storeCellsA, setAt, partA, fillA, placesA, isFn, TyI.isAgg, isSeq, isNum, sliceA, boundA, setParams, minL, minF, maxL, maxF, repZ, reduceIte, Nat.reduceLT, Nat.reduceLeDiff, Nat.reduceEqDiff, Nat.reduceAdd, Nat.reduceMul, Nat.reduceSub, Nat.reduceBEq, Int.reduceEq, Int.reduceLT, Int.reduceLE, Int.reduceToNat, reduceCtorEq, sx, fx17, t1, t2, t7, t8, t9, t10, m0, hlt, List.length_map, Int.natCast_nonneg, Int.toNat_natCast, hti, bytesV_length, hla, hm, hwi, hb1, b2, q1, c1, k1, d1, hlo, cksOf_length, hws, b4, bne_self_eq_false]
                    rfl, out, al, acc, st.skip hi hnx hlow (by unfold mailStep; rw [if_neg (by omega)]) ?_ ?_ ?_ ?_ ?_ ?_⟩
                  all_goals simp only [Tr.get_set, Nat.reduceEqDiff, reduceIte]
                · have hmany : 0 < manyOf ms[i].2.length s := by
                    have := (many_lt (n := ms[i].2.length) (s := s) (j := 0) hs1).2 (by omega)
                    omega
                  have go2 : Grew 1 σ2 4 true out acc.1.length (acc.1.map ckC).flatten := grewS go hnx fun x h => hlow x (go.rows x h).2.1
                  have ga2 : Grew 1 σ2 1 false al acc.2.length (acc.2.map partV) := grewS ga hnx fun x h => hlow x (ga.rows x h).2.1
                  have hpn : ∀ x, x < σ2.next → (σ2.push (.row 1 false [partV ms[i]])).get x = σ2.get x := fun x h => by rw [AMem.get_push, if_neg (by omega)]
                  have hsn : (σ2.push (.row 1 false [partV ms[i]])).next = σ2.next + 1 := rfl
                  have go3 := grewS (σ' := σ2.push (.row 1 false [partV ms[i]])) go2 (by omega) fun x h => hpn x (go2.rows x h).2.1
                  have ga3 := grewS (σ' := σ2.push (.row 1 false [partV ms[i]])) ga2 (by omega) fun x h => hpn x (ga2.rows x h).2.1
                  obtain ⟨σ3, e1, e2, e3, e4⟩ := Grew.append2 (e := tyCk) (x := .vs .some ((cksOf ((acc.2.length : Nat) : Int) ms[i].2 s).map ckV)) (n := manyOf ms[i].2.length s) go3 (by omega) (by rw [← cksOf_length ((acc.2.length : Nat) : Int) ms[i].2 s]; exact source_cks _ _) (by rw [ckC_flat, cksOf_length]; rfl) (by omega) (by decide) (by decide) (by decide) (by simp only [tyCk, mostBytes]; omega) (pure_one _ (ckC_pure _))
                  rw [hsn] at e1 e2 e3
                  have hk3 : ∀ x, x < σ2.next → x ∉ rowOf out → σ3.get x = σ2.get x := fun x h hx => (e4 x (by omega) fun e => hx (by rw [e]; simp [rowOf])).trans (hpn x h)
                  have ga4 : Grew 1 σ3 1 false al acc.2.length (acc.2.map partV) := grewS ga2 (by omega) fun x h => hk3 x (ga2.rows x h).2.1 fun hx => ap x hx h
                  have hpg : σ3.get σ2.next = some (.row 1 false [partV ms[i]]) := by
                    rw [e4 σ2.next (by omega) fun e => by
                      have := (go2.rows σ2.next (by rw [e]; simp [rowOf])).2.1
                      omega]
                    rw [AMem.get_push, if_pos rfl]
                  obtain ⟨σ4, f1, f2, f3, f5⟩ := Grew.append2 (e := tyPart) (x := .slice σ2.next 0 1 (some 1) 1) (xs := [partV ms[i]]) (n := 1) ga4 (by omega) (by
                    show sourceA 1 σ3 _ = _
                    simp only [sourceA, hpg]
                    rfl) rfl (by omega) (by decide) (by decide) (by decide) (by simp only [tyPart, mostBytes]; omega) rfl
                  simp only [tyCk, TyI.isAgg, partV] at e1
                  simp only [tyPart, TyI.isAgg] at f1
                  have hr0 : ∀ x, x ∈ rowOf out → x ≠ 0 := fun x h e => by have := (go2.rows x h).1; omega
                  have hal0 : ∀ x, x ∈ rowOf al → x ≠ 0 := fun x h e => by have := (ga2.rows x h).1; omega
                  have k3 : σ3.get 0 = some (.row 3 true [.int .u8 (z : Nat), .vs kl (ms.map partV), .vs kw (bytesV way)]) := by rw [hk3 0 (by omega) (fun h => hr0 0 h rfl)]; exact k2
                  have k4 : σ4.get 0 = some (.row 3 true [.int .u8 (z : Nat), .vs kl (ms.map partV), .vs kw (bytesV way)]) := by rw [f5 0 (by omega) (fun e => hal0 0 (by rw [e]; simp [rowOf]) rfl)]; exact k3
                  have hstep : mailStep s most acc ms[i] = (acc.1 ++ cksOf ((acc.2.length : Nat) : Int) ms[i].2 s, acc.2 ++ [ms[i]]) := by unfold mailStep; rw [if_pos (by omega)]
                  have hoo := go.oneC
                  have hao := ga.oneC
                  refine ⟨_, _, by
                    simp only [runOps, runD, again, step1, wantA, opSem, evalO, evalL, evalOpt, evalParts, putA, ofConst, ofScalar, ofScalars, abin, abinInt, aun, convA, builtinA, oneTy, elemTy, loadA, storeA, storeCellsA, setAt, partA, fillA, placesA, isFn, TyI.isAgg, isSeq, isNum, sliceA, boundA, setParams, minL, minF, maxL, maxF, repZ, reduceIte, Nat.reduceLT, Nat.reduceLeDiff, Nat.reduceEqDiff, Nat.reduceAdd, Nat.reduceMul, Nat.reduceSub, Nat.reduceBEq, Int.reduceEq, Int.reduceLT, Int.reduceLE, Int.reduceToNat, reduceCtorEq, sx, fx17, t1, t2, t7, t8, t9, t10, m0, hlt, List.length_map, Int.natCast_nonneg, Int.toNat_natCast, hti, bytesV_length, hla, hm, hwi, hb1, b2, q1, c1, k1, d1, hlo, cksOf_length, hws, b4, bne_self_eq_false, e1, k2, k3, f1]
                    rfl, .slice (σ2.next + 1) 0 (acc.1.length + manyOf ms[i].2.length s) none 4, .slice σ3.next 0 (acc.2.length + 1) none 1, (acc.1 ++ cksOf ((acc.2.length : Nat) : Int) ms[i].2 s, acc.2 ++ [ms[i]]), ⟨hi, ?_, ?_, ?_, ?_, ?_, ?_, k4, by omega, ?_, ?_, ?_, ?_, ?_, ?_⟩⟩
                  · simp only [Tr.get_set, Nat.reduceEqDiff, reduceIte, t1]
                  · simp only [Tr.get_set, Nat.reduceEqDiff, reduceIte, t2]
                  · simp only [Tr.get_set, Nat.reduceEqDiff, reduceIte]
                  · simp only [Tr.get_set, Nat.reduceEqDiff, reduceIte]
                  · simp only [Tr.get_set, Nat.reduceEqDiff, reduceIte, t9]
                  · simp only [Tr.get_set, Nat.reduceEqDiff, reduceIte]
                  · simp only [List.length_append, cksOf_length, List.map_append, List.flatten_append]
                    refine grewS (σ := σ3) e2 (by omega) fun x hx => ?_
                    simp only [rowOf, List.mem_singleton] at hx
                    subst hx
                    exact f5 _ (by omega) fun e => by
                      have := (ga2.rows (σ2.next + 1) (by rw [e]; simp [rowOf])).2.1
                      omega
                  · intro h
                    simp only [List.length_append, cksOf_length] at h
                    omega
                  · simp only [List.length_append, List.length_singleton, List.map_append, List.map_cons, List.map_nil]
                    exact f2
                  · intro h
                    simp at h
                  · intro x hx
                    simp only [rowOf, List.mem_singleton] at hx ⊢
                    omega
                  · rw [mail_take hi, ← heq, hstep]
              · have hsp : splitR ms[i].2 ((acc.2.length : Nat) : Int) ((s : Nat) : Int) = (.vs .nil [], 5) := by
                  unfold splitR
                  rw [if_neg hno, if_neg b1, if_pos (by rw [Int.toNat_natCast]; omega)]
                rw [hsp] at d1
                refine ⟨_, _, by
                  simp only [runOps, runD, again, step1, wantA, opSem, evalO, evalL, evalOpt, evalParts, putA, ofConst, ofScalar, ofScalars, abin, abinInt, aun, convA, builtinA, oneTy, elemTy, loadA, storeA, storeCellsA, setAt, partA, fillA, placesA, isFn, TyI.isAgg, isSeq, isNum, sliceA, boundA, setParams, minL, minF, maxL, maxF, repZ, reduceIte, Nat.reduceLT, Nat.reduceLeDiff, Nat.reduceEqDiff, Nat.reduceAdd, Nat.reduceMul, Nat.reduceSub, Nat.reduceBEq, Int.reduceEq, Int.reduceLT, Int.reduceLE, Int.reduceToNat, reduceCtorEq, sx, fx17, t1, t2, t7, t8, t9, t10, m0, hlt, List.length_map, Int.natCast_nonneg, Int.toNat_natCast, hti, bytesV_length, hla, hm, hwi, hb1, b2, q1, c1, k1, d1, hlo, show ((5 : Int) != 0) = true from rfl]
                  rfl, out, al, acc, st.skip hi hnx hlow (by unfold mailStep; rw [if_neg (by omega)]) ?_ ?_ ?_ ?_ ?_ ?_⟩
                all_goals simp only [Tr.get_set, Nat.reduceEqDiff, reduceIte]
        · right
          refine ⟨_, _, _, by
            simp only [runOps, runD, again, step1, wantA, opSem, evalO, evalL, evalOpt, evalParts, putA, ofConst, ofScalar, ofScalars, abin, abinInt, aun, convA, builtinA, oneTy, elemTy, loadA, storeA, storeCellsA, setAt, partA, fillA, placesA, isFn, TyI.isAgg, isSeq, isNum, sliceA, boundA, setParams, minL, minF, maxL, maxF, repZ, reduceIte, Nat.reduceLT, Nat.reduceLeDiff, Nat.reduceEqDiff, Nat.reduceAdd, Nat.reduceMul, Nat.reduceSub, Nat.reduceBEq, Int.reduceEq, Int.reduceLT, Int.reduceLE, Int.reduceToNat, reduceCtorEq, sx, fx17, t1, t2, t7, t8, t9, t10, m0, hlt, List.length_map, hla, hm]
            rfl, by simp, rfl, out, al, i, acc, ⟨st.hi, ?_, ?_, ?_, ?_, ?_, ?_, m0, nx, go, z1, ga, z2, ap, heq⟩, ?_⟩
          all_goals try simp only [Tr.get_set, Nat.reduceEqDiff, reduceIte, t1, t2, t7, t8, t9, t10]
          rw [heq]
          exact (mail_done (by rw [← heq]; omega)).symm
      · rintro T σ ⟨out, al, acc, st⟩
        obtain ⟨_, t1, t2, t7, t8, t9, t10, m0, nx, go, z1, ga, z2, ap, heq⟩ := id st
        refine ⟨_, _, _, by
          simp only [runOps, runD, again, step1, wantA, opSem, evalO, evalL, evalOpt, evalParts, putA, ofConst, ofScalar, ofScalars, abin, abinInt, aun, convA, builtinA, oneTy, elemTy, loadA, storeA, storeCellsA, setAt, partA, fillA, placesA, isFn, TyI.isAgg, isSeq, isNum, sliceA, boundA, setParams, minL, minF, maxL, maxF, repZ, reduceIte, Nat.reduceLT, Nat.reduceLeDiff, Nat.reduceEqDiff, Nat.reduceAdd, Nat.reduceMul, Nat.reduceSub, Nat.reduceBEq, Int.reduceEq, Int.reduceLT, Int.reduceLE, Int.reduceToNat, reduceCtorEq, sx, fx17, t1, t2, t7, t8, t9, t10, m0, Int.lt_irrefl, List.length_map]
          rfl, by simp, rfl, out, al, ms.length, acc, ⟨st.hi, ?_, ?_, ?_, ?_, ?_, ?_, m0, nx, go, z1, ga, z2, ap, heq⟩, by rw [heq, List.take_length]⟩
        all_goals simp only [Tr.get_set, Nat.reduceEqDiff, reduceIte, t1, t2, t7, t8, t9, t10]
      · refine ⟨.vs .nil [], .vs .nil [], ([], []), ⟨Nat.zero_le _, ?_, ?_, ?_, ?_, ?_, ?_, ?_, by simp [next_empty], ⟨by simp, .inl ⟨rfl, rfl⟩⟩, fun _ => rfl, ⟨by simp, .inl ⟨rfl, rfl⟩⟩, fun _ => rfl, by simp [rowOf], by simp [mailL]⟩⟩
        · simp only [Tr.get_set, Nat.reduceEqDiff, reduceIte]
        · simp only [Tr.get_set, Nat.reduceEqDiff, reduceIte]
        · simp only [Tr.get_set, Nat.reduceEqDiff, reduceIte]
        · simp only [Tr.get_set, Nat.reduceEqDiff, reduceIte]
        · simp only [Tr.get_set, Nat.reduceEqDiff, reduceIte]
        · simp only [Tr.get_set, Nat.reduceEqDiff, reduceIte]; rfl
        · simp only [AMem.get_push, next_empty, reduceIte]
    have hla := st.lenAl
    have t7 := st.t7
    have t8 := st.t8
    simp only [runOps, runD, again, step1, wantA, opSem, evalO, evalL, evalOpt, evalParts, putA, ofConst, ofScalar, ofScalars, abin, abinInt, aun, convA, builtinA, oneTy, elemTy, loadA, storeA, storeCellsA, setAt, partA, fillA, placesA, isFn, TyI.isAgg, isSeq, isNum, sliceA, boundA, setParams, minL, minF, maxL, maxF, repZ, reduceIte, Nat.reduceLT, Nat.reduceLeDiff, Nat.reduceEqDiff, Nat.reduceAdd, Nat.reduceMul, Nat.reduceSub, Nat.reduceBEq, Int.reduceEq, Int.reduceLT, Int.reduceLE, Int.reduceToNat, reduceCtorEq, sx, fx17, t7, t8, hla]
    subst hfin
    obtain ⟨seen, h1⟩ := snap_grew (d := 9) (ls := (mailL s most ms).1.map ckC) (ps := (mailL s most ms).1.map ckC) st.go st.z1 (by simp) (by decide) (by simp) (fun l hl => by
      obtain ⟨c, _, rfl⟩ := List.mem_map.1 hl
      rfl) (fun l hl => by
      obtain ⟨c, _, rfl⟩ := List.mem_map.1 hl
      rfl) (snapL_pure 9 _ (ckC_pure _))
    obtain ⟨seen2, h2⟩ := GrewE.snapK (d := 9) st.ga st.z2 (parts_pure _)
    refine ⟨_, _, out, al, seen, seen2, rfl, by simp only [Tryz.f17, resultsA, resultA, runOps, runD, again, step1, wantA, opSem, evalO, evalL, evalOpt, evalParts, putA, ofConst, ofScalar, ofScalars, abin, abinInt, aun, convA, builtinA, oneTy, elemTy, loadA, storeA, storeCellsA, setAt, partA, fillA, placesA, isFn, TyI.isAgg, isSeq, isNum, sliceA, boundA, setParams, minL, minF, maxL, maxF, repZ, reduceIte, Nat.reduceLT, Nat.reduceLeDiff, Nat.reduceEqDiff, Nat.reduceAdd, Nat.reduceMul, Nat.reduceSub, Nat.reduceBEq, Int.reduceEq, Int.reduceLT, Int.reduceLE, Int.reduceToNat, reduceCtorEq, sx, fx17], ?_, h2⟩
    rw [h1, List.map_map]
    rfl
  obtain ⟨T1, σ1, x, y, seen, seen2, h1, h2, h3, h4⟩ := run
  obtain ⟨b, h⟩ := pureRun_any fn17 rfl (by simp [Tryz.f17]) h1 (by simp) h2 (tuple_three' (d := 11) h3 h4 (show snapF false σ1 11 (.bool _) = some (.bool _, []) from rfl))
  exact pureCall_of0 rfl (memo17 _) h
end Go.Proofs.YtkamjhhodnmoiaaGreatDoor

/- One message of which one part is lost: the sorter keeps what came. No program in sight. -/
set_option maxRecDepth 100000
set_option linter.unusedSimpArgs false
set_option linter.unusedVariables false
namespace Go.Proofs.YtkamjhhodnmoiaaGreatDoor
open Go Go.Proofs.YtkamjhhodnmoiaaGreatDoor.Pale

theorem cks_get {name : Int} {bs : List Nat} {s i : Nat} (hi : i < (cksOf name bs s).length) : (cksOf name bs s)[i] = ⟨name, i, (manyOf bs.length s : Nat), .some, partOf bs s i⟩ := by
  simp only [cksOf, List.getElem_map, List.getElem_range]
theorem cks_ok {name : Int} {bs : List Nat} {s i : Nat} (hi : i < manyOf bs.length s) (hn : 0 ≤ name ∧ name ≤ 65535) (hs1 : 1 ≤ s) (hs2 : s ≤ 100) (hm : manyOf bs.length s ≤ 200) : OkC name (i : Nat) (manyOf bs.length s : Nat) (partOf bs s i) := by
  have h1 := (many_lt (n := bs.length) (j := i) hs1).1 hi
  have h2 := part_pos (bs := bs) hs1 h1
  have h3 := part_length (bs := bs) h1
  have h4 : (partOf bs s i).length ≤ s := by rw [h3]; exact Nat.min_le_left _ _
  exact ⟨by omega, by omega, hn, by omega⟩
/-- At most one message. -/
theorem mail_one (s : Nat) (ms : List Part) : mailL s 1 ms = ([], []) ∨ ∃ m : Part, m.2.length ≠ 0 ∧ manyOf m.2.length s ≤ 40 ∧ mailL s 1 ms = (cksOf 0 m.2 s, [m]) := by
  have key : ∀ (ms : List Part) (acc : List Ck × List Part), (acc = ([], []) ∨ ∃ m : Part, m.2.length ≠ 0 ∧ manyOf m.2.length s ≤ 40 ∧ acc = (cksOf 0 m.2 s, [m])) → (ms.foldl (mailStep s 1) acc = ([], []) ∨ ∃ m : Part, m.2.length ≠ 0 ∧ manyOf m.2.length s ≤ 40 ∧ ms.foldl (mailStep s 1) acc = (cksOf 0 m.2 s, [m])) := by
    intro ms
    induction ms with
    | nil => intro acc h; exact h
    | cons m ms ih =>
      intro acc h
      rw [List.foldl_cons]
      apply ih
      rcases h with rfl | ⟨m', h1, h2, rfl⟩
      · unfold mailStep
        split
        · rename_i hc
          right
          simp only [List.length_nil, Nat.zero_add] at hc
          exact ⟨m, hc.2.1, hc.2.2.2.2, by simp⟩
        · exact .inl rfl
      · right
        refine ⟨m', h1, h2, ?_⟩
        unfold mailStep
        rw [if_neg (by simp)]
  exact key ms ([], []) (.inl rfl)

/-- The sheaf for a chunk, where there is at most one sheaf. -/
def oneS (shs : List Sh) (n : Int) (of : Nat) : Sh := match shs with
  | s :: _ => s
  | [] => newSh n of
def putS (s : Sh) (a : Nat) (d : List Nat) : Sh := { s with data := partsOf s.data a d }
/-- The sorter of one message of so many parts of which one is lost. -/
def LostOk (o k0 : Nat) (shs : List Sh) : Prop := SorterOk shs ∧ (shs = [] ∨ ∃ s, shs = [s] ∧ s.name = 0 ∧ s.data.length = o ∧ ∃ p, s.data[k0]? = some p ∧ emptyQ p = true)
theorem add_one {shs : List Sh} {o a : Nat} {d : List Nat} (h : shs = [] ∨ ∃ s, shs = [s] ∧ s.name = 0 ∧ s.data.length = o) (he : (partsOf (oneS shs 0 o).data a d).any emptyQ = true) : addL shs 0 o a d = ([putS (oneS shs 0 o) a d], []) := by
  rcases h with rfl | ⟨s, rfl, h1, h2⟩
  · have hfl : findL [] 0 o = ([newSh 0 o], 0) := rfl
    unfold addL
    rw [hfl]
    simp only [oneS] at he
    simp only [Int.toNat_zero, List.getElem?_cons_zero, he, if_true, List.set_cons_zero, oneS, putS]
  · have hk : keepS 0 o s = true := by unfold keepS; rw [h2]; simp
    have hp : placeI 0 [s] = 0 := by unfold placeI; simp [idxI, sameName_sh, h1]
    have hf : [s].filter (keepS 0 o) = [s] := by simp [hk]
    have hfl : findL [s] 0 o = ([s], 0) := by
      unfold findL
      rw [hf, hp]
      rfl
    unfold addL
    rw [hfl]
    simp only [oneS] at he
    simp only [Int.toNat_zero, List.getElem?_cons_zero, he, if_true, List.set_cons_zero, oneS, putS]
theorem partsOf_other {l : List Part} {a k0 : Nat} {d : List Nat} (h : a ≠ k0) : (partsOf l a d)[k0]? = l[k0]? := by
  unfold partsOf
  split
  · split
    · rw [List.getElem?_set, if_neg h]
    · rfl
  · rfl
theorem partsOf_at {l : List Part} {a : Nat} {d : List Nat} (ha : a < l.length) (hd : 0 < d.length) : ∃ p, (partsOf l a d)[a]? = some p ∧ p.2.length ≠ 0 := by
  unfold partsOf
  rw [List.getElem?_eq_getElem ha]
  simp only
  split
  · exact ⟨(.some, d), by rw [List.getElem?_set_self ha], by simp only; omega⟩
  · rename_i h
    exact ⟨l[a], List.getElem?_eq_getElem ha, h⟩
theorem partsOf_again {l : List Part} {a : Nat} {d : List Nat} (h : ∃ p, l[a]? = some p ∧ p.2.length ≠ 0) : partsOf l a d = l := by
  obtain ⟨p, h1, h2⟩ := h
  unfold partsOf
  rw [h1]
  simp only [h2, if_false]
theorem any_of_at {l : List Part} {k0 : Nat} {p : Part} (h : l[k0]? = some p) (he : emptyQ p = true) : l.any emptyQ = true := by
  rw [List.any_eq_true]
  exact ⟨p, List.mem_of_getElem? h, he⟩
theorem LostOk.one {o k0 : Nat} {shs : List Sh} (h : LostOk o k0 shs) (hk : k0 < o) : (oneS shs 0 o).name = 0 ∧ (oneS shs 0 o).data.length = o ∧ ∃ p, (oneS shs 0 o).data[k0]? = some p ∧ emptyQ p = true := by
  rcases h.2 with rfl | ⟨s, rfl, h1, h2, h3⟩
  · refine ⟨rfl, by simp [oneS, newSh], (.nil, []), ?_, rfl⟩
    simp only [oneS, newSh]
    rw [List.getElem?_replicate, if_pos hk]
  · exact ⟨h1, h2, h3⟩
theorem LostOk.norm {o k0 : Nat} {shs : List Sh} (h : LostOk o k0 shs) : LostOk o k0 (shs.map normS) := by
  refine ⟨h.1.norm, ?_⟩
  rcases h.2 with rfl | ⟨s, rfl, h1, h2, p, h3, h4⟩
  · exact .inl rfl
  · exact .inr ⟨normS s, rfl, h1, by simp [normS, h2], (.some, p.2), by simp [normS, h3], h4⟩
theorem LostOk.put {o k0 a : Nat} {shs : List Sh} {d : List Nat} (h : LostOk o k0 shs) (hk : k0 < o) (hne : a ≠ k0) (hc : OkC 0 (a : Nat) (o : Nat) d) : addL shs 0 o a d = ([putS (oneS shs 0 o) a d], []) ∧ LostOk o k0 [dkS (putS (oneS shs 0 o) a d)] := by
  obtain ⟨h1, h2, p, h3, h4⟩ := h.one hk
  have h5 : (partsOf (oneS shs 0 o).data a d)[k0]? = some p := by rw [partsOf_other hne]; exact h3
  have he := add_one (shs := shs) (o := o) (a := a) (d := d) (by
    rcases h.2 with h | ⟨s, h, h1, h2, _⟩
    · exact .inl h
    · exact .inr ⟨s, h, h1, h2⟩) (any_of_at h5 h4)
  refine ⟨he, ?_, .inr ⟨_, rfl, h1, by simp only [dkS, putS, partsOf_len, h2], p, h5, h4⟩⟩
  have := (addL_ok h.1 hc).1.dk
  rw [he] at this
  exact this
/-- A chunk that came once more changes nothing. -/
theorem LostOk.again {o k0 a : Nat} {shs : List Sh} {d : List Nat} (h : LostOk o k0 shs) (hk : k0 < o) (hne : a ≠ k0) (hc : OkC 0 (a : Nat) (o : Nat) d) : ∃ x y : Sh, addL (shs.map normS) 0 o a d = ([x], []) ∧ LostOk o k0 [dkS x] ∧ addL ([dkS x].map normS) 0 o a d = ([y], []) ∧ [dkS x].map coreS = [dkS y].map coreS ∧ LostOk o k0 [dkS y] := by
  obtain ⟨e1, l1⟩ := h.norm.put hk hne hc
  obtain ⟨e2, l2⟩ := l1.norm.put hk hne hc
  refine ⟨_, _, e1, l1, e2, ?_, l2⟩
  have hoo := (h.norm.one hk).2.1
  generalize oneS (shs.map normS) 0 o = s0 at *
  have h6 := partsOf_at (l := s0.data) (a := a) (d := d) (by have := hc.2.1; omega) (by have := hc.2.2.2; omega)
  obtain ⟨p, h7, h8⟩ := h6
  have h9 : partsOf ((partsOf s0.data a d).map fun p => ((.some, p.2) : Part)) a d = (partsOf s0.data a d).map fun p => ((.some, p.2) : Part) := partsOf_again ⟨(.some, p.2), by rw [List.getElem?_map, h7]; rfl, h8⟩
  simp only [List.map_cons, List.map_nil, oneS, dkS, putS, normS, coreS, h9, List.map_map]
  rfl
end Go.Proofs.YtkamjhhodnmoiaaGreatDoor

/- Helpers of PackLost and PackOnce; a mail as an argument. -/
set_option maxRecDepth 100000
set_option linter.unusedSimpArgs false
set_option linter.unusedVariables false
namespace Go.Proofs.YtkamjhhodnmoiaaGreatDoor
open Go Go.Proofs.YtkamjhhodnmoiaaGreatDoor.Pale
variable {k : Nat} {σ : AMem}

theorem SorterOk.small' {l : List Sh} (h : SorterOk l) : l.length ≤ 4 ∧ ∀ s, s ∈ l → s.data.length ≤ 200 ∧ ∀ p, p ∈ s.data → p.2.length ≤ 100 := by
  refine ⟨h.1, fun s hs => ?_⟩
  have := (sheafB_eq s).1 (h.2.2 s hs)
  exact ⟨this.2.1, this.2.2.2.2⟩
theorem add_in (shs : List Sh) (x : Sh) (n : Int) (a o : Nat) (d : List Nat) (hs : SorterOk shs) (hc : OkC n (a : Nat) (o : Nat) d) (he : addL (shs.map normS) n o a d = ([x], [])) (hk : 5000 ≤ k) : pureCall lawProg (callN lawProg k) (.func 9 [] []) [.agg [.vs (lkOf shs.length) ((shs.map normS).map shV)], .agg [.int .i64 n, .int .i64 (a : Nat), .int .i64 (o : Nat), .vs .some (bytesV d)]] σ = some (.tuple [.agg [.vs .some ([dkS x].map shV)], .vs .nil [], .int .i64 0], σ) := by
  have := add_call (k := k) (σ := σ) (lkOf shs.length) (shs.map normS) n a o d hs.norm (fun s hs p hp => by
      obtain ⟨t, _, rfl⟩ := List.mem_map.1 hs
      obtain ⟨q, _, rfl⟩ := List.mem_map.1 hp
      rfl) hc hk
  rw [he] at this
  exact this
theorem copy_in (lk : VK) (shs : List Sh) (hs : SorterOk shs) (hk : 5000 ≤ k) : pureCall lawProg (callN lawProg k) (.func 10 [] []) [.agg [.vs lk (shs.map shV)]] σ = some (.agg [.vs (lkOf shs.length) ((shs.map normS).map shV)], σ) :=
  rcopy_call lk shs (by have := hs.small'.1; omega) (fun s h => ⟨by have := (hs.small'.2 s h).1; omega, fun p hp => by have := (hs.small'.2 s h).2 p hp; omega⟩) (by omega)
theorem byte_get {l : List Nat} {i : Nat} (hi : i < l.length) : (bytesV l)[i]? = some (.int .u8 (l[i] : Nat)) := by
  unfold bytesV
  rw [List.getElem?_map, List.getElem?_eq_getElem hi]
  rfl

/-! ### how it reads -/
variable {P : Program} {tm tL tB tu n : Nat}
theorem elem_mail {x : AVal} (hm : rkOf P tm = .agg [(tu, 0), (tL, 1), (tB, 2)]) (cm : P.cellsOf tm = 3) (cu : P.cellsOf tu = 1) (cL : P.cellsOf tL = 1) (cB : P.cellsOf tB = 1) (hu : rkOf P tu = .int .u8) (hL : rkOf P tL = .slice tB) (hB : rkOf P tB = .slice tu) (h : ElemFit P n tm x) : ∃ (z : Nat) (kl kw : VK) (ms : List Part) (way : List Nat), x = .agg [.int .u8 (z : Nat), .vs kl (ms.map partV), .vs kw (bytesV way)] ∧ z < 256 ∧ (∀ b, b ∈ way → b < 256) ∧ ms.length ≤ 9223372036854775807 := by
  obtain ⟨cs, q, rfl, hlen, hall⟩ := elem_agg hm h
  rw [cm] at hlen
  obtain ⟨a, b, c, rfl⟩ : ∃ a b c, cs = [a, b, c] := by
    match cs, hlen with
    | [a, b, c], _ => exact ⟨a, b, c, rfl⟩
  have h0 := hall (tu, 0) (by simp)
  have h1 := hall (tL, 1) (by simp)
  have h2 := hall (tB, 2) (by simp)
  simp only [cu, cL, cB, List.drop_zero, List.drop_succ_cons, List.take_succ_cons, List.take_zero] at h0 h1 h2
  obtain ⟨y, e0, w0⟩ := fit_int hu h0
  obtain ⟨m2, vk, es, e1, _, _, hl, h3⟩ := fit_slice hL h1
  obtain ⟨kw, way, e2, _, _, e4⟩ := fit_bytes hB hu h2
  simp only [List.cons.injEq, and_true] at e0 e1 e2
  subst e0; subst e1; subst e2
  have hy := u8_range w0
  obtain ⟨ms, rfl, _⟩ := list_form (f := partV) (Q := fun _ => True) es (fun x hx => by
    have hx := h3 x hx
    unfold ElemFit at hx
    rw [hB] at hx
    obtain ⟨m3, vk, es, rfl, _, _, _, h5⟩ := elem_slice hB (show ElemFit P m2 tB x by unfold ElemFit; rw [hB]; exact hx)
    obtain ⟨bs, rfl, _⟩ := list_form (f := fun (b : Nat) => AVal.int .u8 (b : Nat)) (Q := fun _ => True) es (fun x hx => by
      obtain ⟨z, rfl, w⟩ := elem_int hu (h5 x hx)
      have := u8_range w
      exact ⟨z.toNat, by rw [Int.toNat_of_nonneg this.1], trivial⟩)
    exact ⟨(vk, bs), rfl, trivial⟩)
  refine ⟨y.toNat, vk, kw, ms, way, by rw [Int.toNat_of_nonneg hy.1], by omega, e4, ?_⟩
  rw [List.length_map] at hl
  exact hl
end Go.Proofs.YtkamjhhodnmoiaaGreatDoor

