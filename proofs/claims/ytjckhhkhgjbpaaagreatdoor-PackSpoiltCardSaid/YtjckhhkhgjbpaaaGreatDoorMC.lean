import Derived.Test.YtjckhhkhgjbpaaaGreatDoorMB
import Derived.Test.YtjckhhkhgjbpaaaGreatDoorMA
open Nat renaming reduceLT → zLt, reduceLeDiff → zLe, reduceEqDiff → zEq, reduceAdd → zAd, reduceMul → zMu, reduceSub → zSu, reduceBEq → zBe
open Int renaming reduceEq → yEq, reduceLT → yLt, reduceLE → yLe, reduceToNat → yTn
/- elem.Bytes. -/
set_option maxRecDepth 100000
set_option linter.unusedSimpArgs false
set_option linter.unusedVariables false
namespace Go.Proofs.YtjckhhkhgjbpaaaGreatDoor
open Go Go.Proofs.YtjckhhkhgjbpaaaGreatDoor.Pale
variable {k : Nat} {σ : AMem}

theorem pureRun_new {call : CallA} {f : AVal} {args : List AVal} {v w : AVal} {σ1 : AMem} {S : List Nat} (h : call f args AMem.empty = some (w, σ1)) (hs : snapF true σ1 snapDepth w = some (v, S)) : pureRun call f args = some (v, true) := by
  simp only [pureRun, h, hs]
theorem epack_run {d : Nat} {e : El} (hv : VE d e) (hd : encL d ≤ 100000000000) (hk : d + 200 ≤ k) : ∃ K, pureRun (callN lawProg k) (.func 118 [] []) [.vs .nil [], .agg (elC e)] = some (.vs K (bytesV (encE d e)), true) := by
  obtain ⟨b', σ', h1, h2⟩ := pack_callN d k hk (low := 0) (σ := AMem.empty) (b := .vs .nil []) (bs := []) hv (GB.start _ _) (Nat.zero_le _) (by simpa using hd)
  obtain ⟨K, S, h3⟩ := GB.snap (d := 10) h2.1
  rw [List.nil_append] at h3
  exact ⟨K, pureRun_new h1 h3⟩
theorem epack_call {d : Nat} {e : El} (hv : VE d e) (hd : encL d ≤ 100000000000) (hk : d + 200 ≤ k) : ∃ K, ∀ {x : AVal} {S : List Nat} {σ : AMem}, snapF false σ snapDepth x = some (elV e, S) → pureCall lawProg (callN lawProg k) (.func 118 [] []) [.vs .nil [], x] σ = some (.vs K (bytesV (encE d e)), σ) := by
  obtain ⟨K, h⟩ := epack_run hv hd hk
  refine ⟨K, fun {x S σ} hx => ?_⟩
  have hs : snapL (snapF false σ snapDepth) [.vs .nil [], x] = some ([.vs .nil [], .agg (elC e)], [] ++ (S ++ [])) := by
    have h0 : snapF false σ snapDepth (.vs .nil []) = some (.vs .nil [], []) := rfl
    simp only [snapL, hx, h0, elV_eq]
  exact pureCall_of hs (memo118 _) h
/-- The bytes of an element of a lattice, or the error. -/
def ebV (tabs : List Tab) (d : Nat) (s : Shp) (E : Int) (K : VK) (e : El) : AVal × Int := if openE tabs d s E [e] = 0 then (if (encE d e).length ≤ 20000 then (.vs K (bytesV (encE d e)), 0) else (.vs .nil [], 5)) else (.vs .nil [], openE tabs d s E [e])
theorem openE_VE {tabs : List Tab} {d : Nat} {s : Shp} {E : Int} {e : El} (htl : ∀ n, tlOf tabs n ≤ 1000) (h : openE tabs d s E [e] = 0) : E = 0 ∧ isElB (tlOf tabs) d s e = true ∧ VE d e := by
  unfold openE at h
  by_cases hE : E = 0
  · rw [if_pos hE] at h
    cases hb : isElB (tlOf tabs) d s e with
    | true => exact ⟨hE, rfl, isElB_VE htl hb⟩
    | false => simp [hb] at h
  · rw [if_neg hE] at h; exact absurd h hE
theorem ebytes_call {lk : VK} {tabs : List Tab} {d dS k0 : Nat} {s : Shp} {E : Int} (hl : tabs.length ≤ 1000) (htl : ∀ n, tlOf tabs n ≤ 1000) (hcs : CS k0 lk tabs s E) (hs : E = 0 → ShOk tabs dS s) (e : El) (he : Fit 1000 d e) (hd : encL d ≤ 100000000000) (hk : 4 * d + 8000 ≤ k) (hk0 : k0 + 10 ≤ k) :
    ∃ K, ∀ σ, pureCall lawProg (callN lawProg k) (.func 41 [] []) [.agg (latC lk tabs s), .agg (elC e)] σ = some (.tuple [(ebV tabs d s E K e).1, .int .i64 (ebV tabs d s E K e).2], σ) := by
  obtain ⟨k, rfl⟩ : ∃ m, k = m + 2 := ⟨k - 2, by omega⟩
  obtain ⟨b, hop⟩ := open_run (k := k) (vk := .some) hl hcs hs [e] (by simpa using he) (by simp) (by omega) (by omega)
  let σ0 : AMem := ((AMem.empty.push (.row 4 true (latC lk tabs s))).push (.row 4 true (elC e))).push (.row 4 true (elC e))
  have g2 : σ0.get 2 = some (.row 4 true (elC e)) := by simp only [σ0, AMem.get_push, AMem.next_push, next_empty, zAd, zEq, reduceIte]
  have g1 : σ0.get 1 = some (.row 4 true (elC e)) := by simp only [σ0, AMem.get_push, AMem.next_push, next_empty, zAd, zEq, reduceIte]
  have hsl : snapL (snapF false σ0 snapDepth) [.agg (latC lk tabs s), .slice 2 0 1 (some 1) 4] = some ([.agg (latC lk tabs s), .vs .some [elV e]], [] ++ ([2] ++ [])) := by
    have h1 : snapF false σ0 snapDepth (.agg (latC lk tabs s)) = some (.agg (latC lk tabs s), []) := rfl
    have h2 : snapF false σ0 snapDepth (.slice 2 0 1 (some 1) 4) = some (.vs .some [elV e], [2]) := snap_one_el (d := 10) g2
    simp only [snapL, h1, h2]
  obtain ⟨σ', hc, hn, hk'⟩ := pureCall_any hsl (memo117 _) hop
  have hn3 : σ'.next = 3 := hn
  have g1' : σ'.get 1 = some (.row 4 true (elC e)) := (hk' 1 (by simp)).trans g1
  have heq : ∀ (a b : Int), (a != b) = !decide (a = b) := fun a b => by rw [Bool.eq_iff_iff]; simp
  simp only [σ0] at hc
  have q1 : ¬ 3 = 1 := by decide
  by_cases hE : openE tabs d s E [e] = 0
  · obtain ⟨_, _, hv⟩ := openE_VE htl hE
    obtain ⟨K, hp⟩ := epack_call (k := k + 1) hv hd (by omega)
    rw [hE] at hc
    have hp' := fun (σ : AMem) => hp (x := .agg (elC e)) (S := []) (σ := σ) (by
      have : snapF false σ snapDepth (.agg (elC e)) = some (.agg (elC e), []) := rfl
      rw [this, elV_eq])
    have h0 : ((0 : Int) != 0) = false := rfl
    refine ⟨K, fun σ => ?_⟩
    have run : ∃ T1 σ1, execC lawProg (callN lawProg (k + 1)) (k + 1) 41 25 (bodyOf Tryz.f41) (initT 0 [.agg (latC lk tabs s), .agg (elC e)] .nil) AMem.empty = some (.ret, T1, σ1) ∧ T1.get 4 = some (ebV tabs d s E K e).1 ∧ T1.get 5 = some (.int .i64 (ebV tabs d s E K e).2) := by
      unfold ebV
      rw [if_pos hE]
      by_cases hlen : (encE d e).length ≤ 20000
      · have hg : ¬ (((encE d e).length : Nat) : Int) > 20000 := by omega
        rw [if_pos hlen]
        simp only [latC, shpC, elC] at hc g1' hp' ⊢
        simp only [bodyOf, Tryz.f41, Option.getD_some, initT, dx, reduceIte, zLt, zLe, zEq, zAd, zMu, zSu, zBe, yEq, yLt, yLe, yTn, reduceCtorEq, sx, fx41, hc, h0, hn3, g1', q1, hp', bytesV_length, hg]
        exact ⟨_, _, rfl, by simp only [Tr.get_set, zEq, reduceIte], by simp only [Tr.get_set, zEq, reduceIte]⟩
      · have hg : (((encE d e).length : Nat) : Int) > 20000 := by omega
        rw [if_neg hlen]
        simp only [latC, shpC, elC] at hc g1' hp' ⊢
        simp only [bodyOf, Tryz.f41, Option.getD_some, initT, dx, reduceIte, zLt, zLe, zEq, zAd, zMu, zSu, zBe, yEq, yLt, yLe, yTn, reduceCtorEq, sx, fx41, hc, h0, hn3, g1', q1, hp', bytesV_length, hg]
        exact ⟨_, _, rfl, by simp only [Tr.get_set, zEq, reduceIte], by simp only [Tr.get_set, zEq, reduceIte]⟩
    obtain ⟨T1, σ1, h1, h2, h3⟩ := run
    have hsn : snapF false σ1 snapDepth (packA [(ebV tabs d s E K e).1, .int .i64 (ebV tabs d s E K e).2]) = some (.tuple [(ebV tabs d s E K e).1, .int .i64 (ebV tabs d s E K e).2], []) := by
      unfold ebV
      rw [if_pos hE]
      by_cases hlen : (encE d e).length ≤ 20000
      · rw [if_pos hlen]; rfl
      · rw [if_neg hlen]; rfl
    obtain ⟨b, h⟩ := pureRun_any fn41 rfl (by simp [Tryz.f41]) h1 (by simp) (res_two h2 h3) hsn
    exact pureCall_of0 (args' := [.agg (latC lk tabs s), .agg (elC e)]) rfl (memo41 _) h
  · refine ⟨.nil, fun σ => ?_⟩
    have h0 : (openE tabs d s E [e] != 0) = true := by rw [heq, decide_eq_false hE]; rfl
    have hr : ebV tabs d s E .nil e = (.vs .nil [], openE tabs d s E [e]) := by unfold ebV; rw [if_neg hE]
    rw [hr]
    have run : ∃ T1 σ1, execC lawProg (callN lawProg (k + 1)) (k + 1) 41 25 (bodyOf Tryz.f41) (initT 0 [.agg (latC lk tabs s), .agg (elC e)] .nil) AMem.empty = some (.ret, T1, σ1) ∧ T1.get 4 = some (.vs .nil []) ∧ T1.get 5 = some (.int .i64 (openE tabs d s E [e])) := by
      generalize openE tabs d s E [e] = X at *
      simp only [latC, shpC, elC] at hc g1' ⊢
      simp only [bodyOf, Tryz.f41, Option.getD_some, initT, dx, reduceIte, zLt, zLe, zEq, zAd, zMu, zSu, zBe, yEq, yLt, yLe, yTn, reduceCtorEq, sx, fx41, hc, h0, hn3, g1', q1]
      exact ⟨_, _, rfl, by simp only [Tr.get_set, zEq, reduceIte], by simp only [Tr.get_set, zEq, reduceIte]⟩
    obtain ⟨T1, σ1, h1, h2, h3⟩ := run
    exact pureCall_of rfl (memo41 _) (pureRun_of fn41 rfl (by simp [Tryz.f41]) h1 (by simp) (res_two h2 h3) rfl)
end Go.Proofs.YtjckhhkhgjbpaaaGreatDoor

/- The writer's counts and spans; lists that are right. -/
set_option maxRecDepth 100000
set_option linter.unusedSimpArgs false
set_option linter.unusedVariables false
namespace Go.Proofs.YtjckhhkhgjbpaaaGreatDoor
open Go Go.Proofs.YtjckhhkhgjbpaaaGreatDoor.Pale
variable {k : Nat} {σ : AMem}

theorem spls_v (vk : VK) (es : List AVal) (g : Nat) (caps : List AVal) (p : AVal → Bool) (hc : ∀ e, e ∈ es → ∃ vk es, e = .vs vk es) (hlen : es.length ≤ 100000) (hfn : caps = [] → lawProg.isVal 160 g = false) (hf : ∀ e, e ∈ es → ∀ σ', Ext σ σ' → ∃ σ'', callN lawProg k (.func g [] caps) [e] σ' = some (.bool (p e), σ'') ∧ Ext σ' σ'') (hk : es.length + 1 ≤ k) :
    ∃ σ', callN lawProg (k + 1) (.func 160 [] []) [.vs vk es, .func g [] caps] σ = some (.int .i64 (idxI p es), σ') ∧ Ext σ σ' := by
  have run : ∃ T1 σ1, execC lawProg (callN lawProg k) k 160 19 (bodyOf Tryz.f160) (initT 0 [.vs vk es, .func g [] caps] .nil) σ = some (.ret, T1, σ1) ∧ T1.get 4 = some (.int .i64 (idxI p es)) ∧ Ext σ σ1 := by
    simp only [bodyOf, Tryz.f160, Option.getD_some, initT, dx, reduceIte, zLt, zLe, zEq, zAd, zMu, zSu, zBe, yEq, yLt, yLe, yTn, reduceCtorEq, sx, fx160]
    generalize hL : execC _ _ _ _ _ (Code.loop _) _ _ = q
    obtain ⟨e, T', σ', rfl, _, hx, hcase⟩ : ∃ e T' σ', q = some (e, T', σ') ∧ e ≠ .normal ∧ (Ext σ σ' ∧ ((e = .exit 0 ∧ ∀ x, x ∈ es → p x = false) ∨ (e = .ret ∧ T'.get 4 = some (.int .i64 (idxI p es))))) := by
      rw [← hL]
      refine exec_loop2 (fun i T σ' => i ≤ es.length ∧ T.get 0 = some (.vs vk es) ∧ T.get 1 = some (.func g [] caps) ∧ T.get 7 = some (.int .i64 es.length) ∧ T.get 8 = some (.int .i64 i) ∧ Ext σ σ' ∧ ∀ x, x ∈ es.take i → p x = false) es.length (by omega) ?_ ?_ ?_
      · rintro i hi T σ' ⟨_, t0, t1, t7, t8, hx, hall⟩
        have hlt : (i : Int) < es.length := by omega
        obtain ⟨vk', es', hci⟩ := hc _ (List.getElem_mem hi)
        have hgi : es[i]? = some (.vs vk' es') := by rw [List.getElem?_eq_getElem hi, hci]
        obtain ⟨σ'', hc1, hc2⟩ := hf _ (List.getElem_mem hi) σ' hx
        have hw := i64_succ (i := i) (by omega)
        cases hp : p es[i] with
        | false =>
          left
          rw [hp] at hc1
          rw [hci] at hc1
          cases caps with
          | cons c cs =>
            refine ⟨_, _, by
              simp only [dx, reduceIte, zLt, zLe, zEq, zAd, zMu, zSu, zBe, yEq, yLt, yLe, yTn, reduceCtorEq, sx, fx160, t0, t1, t7, t8, hlt, Int.natCast_nonneg, Int.toNat_natCast, hgi, hc1, hw]
              rfl, hi, ?_, ?_, ?_, ?_, hx.trans hc2, take_all hi hall hp⟩
            all_goals simp only [Tr.get_set, zEq, reduceIte, t0, t1, t7]
          | nil =>
            have hv := hfn rfl
            refine ⟨_, _, by
              simp only [dx, reduceIte, zLt, zLe, zEq, zAd, zMu, zSu, zBe, yEq, yLt, yLe, yTn, reduceCtorEq, sx, fx160, t0, t1, t7, t8, hlt, Int.natCast_nonneg, Int.toNat_natCast, hgi, hv, hc1, hw]
              rfl, hi, ?_, ?_, ?_, ?_, hx.trans hc2, take_all hi hall hp⟩
            all_goals simp only [Tr.get_set, zEq, reduceIte, t0, t1, t7]
        | true =>
          right
          rw [hp] at hc1
          rw [hci] at hc1
          have hidx := idxI_at hi hall hp
          cases caps with
          | cons c cs =>
            refine ⟨.ret, _, _, by
              simp only [dx, reduceIte, zLt, zLe, zEq, zAd, zMu, zSu, zBe, yEq, yLt, yLe, yTn, reduceCtorEq, sx, fx160, t0, t1, t7, t8, hlt, Int.natCast_nonneg, Int.toNat_natCast, hgi, hc1, hw]
              rfl, by simp, hx.trans hc2, .inr ⟨rfl, ?_⟩⟩
            simp only [Tr.get_set, zEq, reduceIte, hidx]
          | nil =>
            have hv := hfn rfl
            refine ⟨.ret, _, _, by
              simp only [dx, reduceIte, zLt, zLe, zEq, zAd, zMu, zSu, zBe, yEq, yLt, yLe, yTn, reduceCtorEq, sx, fx160, t0, t1, t7, t8, hlt, Int.natCast_nonneg, Int.toNat_natCast, hgi, hv, hc1, hw]
              rfl, by simp, hx.trans hc2, .inr ⟨rfl, ?_⟩⟩
            simp only [Tr.get_set, zEq, reduceIte, hidx]
      · rintro T σ' ⟨_, t0, t1, t7, t8, hx, hall⟩
        rw [List.take_length] at hall
        exact ⟨_, _, _, by
          simp only [dx, reduceIte, zLt, zLe, zEq, zAd, zMu, zSu, zBe, yEq, yLt, yLe, yTn, reduceCtorEq, sx, fx160, t0, t1, t7, t8, Int.lt_irrefl]
          rfl, by simp, hx, .inl ⟨rfl, hall⟩⟩
      · refine ⟨Nat.zero_le _, ?_, ?_, ?_, ?_, Ext.refl _, by simp⟩
        all_goals simp only [Tr.get_set, zEq, reduceIte]
        all_goals rfl
    rcases hcase with ⟨rfl, hall⟩ | ⟨rfl, hT⟩
    · simp only [dx, reduceIte, zLt, zLe, zEq, zAd, zMu, zSu, zBe, yEq, yLt, yLe, yTn, reduceCtorEq, sx, fx160]
      exact ⟨_, _, rfl, by simp only [Tr.get_set, zEq, reduceIte, idxI_none hall], hx⟩
    · simp only [dx, reduceIte, zLt, zLe, zEq, zAd, zMu, zSu, zBe, yEq, yLt, yLe, yTn, reduceCtorEq, sx, fx160]
      exact ⟨_, _, rfl, hT, hx⟩
  obtain ⟨T1, σ1, h1, h2, h3⟩ := run
  exact ⟨σ1, q_call (first := []) (caps := []) fn160 rfl (by simp [Tryz.f160]) h1 (by simp) (res_one h2), h3⟩

theorem spls_has_v (vk : VK) (es : List AVal) (g : Nat) (caps : List AVal) (p : AVal → Bool) (hc : ∀ e, e ∈ es → ∃ vk es, e = .vs vk es) (hlen : es.length ≤ 100000) (hfn : caps = [] → lawProg.isVal 160 g = false) (hf : ∀ e, e ∈ es → ∀ σ', Ext σ σ' → ∃ σ'', callN lawProg k (.func g [] caps) [e] σ' = some (.bool (p e), σ'') ∧ Ext σ' σ'') (hk : es.length + 1 ≤ k) :
    ∃ σ', callN lawProg (k + 2) (.func 116 [] []) [.vs vk es, .func g [] caps] σ = some (.bool (es.any p), σ') ∧ Ext σ σ' := by
  obtain ⟨σ', hc, hx⟩ := spls_v vk es g caps p hc hlen hfn hf hk
  have e : ∃ T1, execC lawProg (callN lawProg (k + 1)) (k + 1) 116 9 (bodyOf Tryz.f116) (initT 0 [.vs vk es, .func g [] caps] .nil) σ = some (.ret, T1, σ') ∧ T1.get 4 = some (.bool (decide (idxI p es ≥ 0))) := by
    simp only [bodyOf, Tryz.f116, Option.getD_some, initT, dx, reduceIte, zLt, zLe, zEq, zAd, zMu, zSu, zBe, yEq, yLt, yLe, yTn, reduceCtorEq, sx, fx116, hc]
    exact ⟨_, rfl, by simp only [Tr.get_set, zEq, reduceIte]⟩
  obtain ⟨T1, e1, e2⟩ := e
  rw [idxI_any] at e2
  exact ⟨σ', q_call (first := []) (caps := []) fn116 rfl (by simp [Tryz.f116]) e1 (by simp) (res_one e2), hx⟩


/-- A writer whose bytes lie in b: some bytes more, and what is kept. -/
def WA (low r : Nat) (σ : AMem) (b : AVal) (bs : List Nat) (σ' : AMem) (b' : AVal) (more : List Nat) : Prop :=
  σ'.get r = some (.row 1 true [b']) ∧ GB low σ' b' (bs ++ more) ∧ σ.next ≤ σ'.next ∧ (∀ s, s < σ.next → s ≠ r → s ∉ rowOf b → σ'.get s = σ.get s) ∧ (∀ s, s ∈ rowOf b' → s ∈ rowOf b ∨ σ.next ≤ s)
theorem WA.refl {low r : Nat} {b : AVal} {bs : List Nat} (h1 : σ.get r = some (.row 1 true [b])) (h : GB low σ b bs) : WA low r σ b bs σ b [] := ⟨h1, by rw [List.append_nil]; exact h, Nat.le_refl _, fun _ _ _ _ => rfl, fun _ h => .inl h⟩
theorem WA.trans {low r : Nat} {σ1 σ2 : AMem} {b b1 b2 : AVal} {bs m1 m2 : List Nat} (h : WA low r σ b bs σ1 b1 m1) (h2 : WA low r σ1 b1 (bs ++ m1) σ2 b2 m2) : WA low r σ b bs σ2 b2 (m1 ++ m2) := by
  obtain ⟨a0, a1, a2, a3, a4⟩ := h
  obtain ⟨c0, c1, c2, c3, c4⟩ := h2
  refine ⟨c0, by rw [← List.append_assoc]; exact c1, by omega, fun s hs hr hn => ?_, fun s hs => ?_⟩
  · rw [c3 s (by omega) hr (fun hm => by rcases a4 s hm with h | h; exact hn h; omega), a3 s hs hr hn]
  · rcases c4 s hs with h | h
    · rcases a4 s h with h | h
      · exact .inl h
      · exact .inr h
    · exact .inr (by omega)
theorem WA.push {low r : Nat} {σ0 σ' : AMem} {b b' : AVal} {bs more : List Nat} (hx : Ext σ0 σ) (h : WA low r σ b bs σ' b' more) : WA low r σ0 b bs σ' b' more := by
  obtain ⟨a0, a1, a2, a3, a4⟩ := h
  refine ⟨a0, a1, Nat.le_trans hx.1 a2, fun s hs hr hn => by rw [a3 s (Nat.lt_of_lt_of_le hs hx.1) hr hn]; exact hx.2 s hs, fun s hs => ?_⟩
  rcases a4 s hs with h | h
  · exact .inl h
  · exact .inr (Nat.le_trans hx.1 h)
theorem gb_ext {low : Nat} {σ' : AMem} {b : AVal} {bs : List Nat} (h : GB low σ b bs) (hx : Ext σ σ') : GB low σ' b bs := h.keep hx.1 fun s hs => hx.2 s (h.rows s hs).2
theorem put2_call {low r : Nat} {b x : AVal} {bs more : List Nat} (h1 : σ.get r = some (.row 1 true [b])) (h : GB low σ b bs) (hr : r < low) (hlow : low ≤ σ.next) (hsrc : sourceA 1 σ x = some (bytesV more, more.length)) (hb : bs.length + more.length ≤ 1000000000) (hk : 1 ≤ k) :
    ∃ b' σ', callN lawProg k (.func 42 [] []) [.ptr r 0, x] σ = some (.tuple [], σ') ∧ WA low r σ b bs σ' b' more := by
  obtain ⟨k, rfl⟩ : ∃ m, k = m + 1 := ⟨k - 1, by omega⟩
  obtain ⟨b', σ1, a1, a2, a3, a4, a5⟩ := GB.app h hlow hsrc (by omega)
  have hrb := h.rows
  have g1 : σ1.get r = some (.row 1 true [b]) := by rw [a4 r (by omega) (fun hm => by have := (hrb r hm).1; omega)]; exact h1
  have hone := a2.one
  have hcells := cells_one hone
  simp only [tyByte] at a1
  have run : ∃ T1, execC lawProg (callN lawProg k) k 42 13 (bodyOf Tryz.f42) (initT 0 [.ptr r 0, x] .nil) σ = some (.normal, T1, σ1.put r (.row 1 true [b'])) := by
    simp only [bodyOf, Tryz.f42, Option.getD_some, initT, dx, reduceIte, zLt, zLe, zEq, zAd, zMu, zSu, zBe, yEq, yLt, yLe, yTn, reduceCtorEq, sx, fx42, h1, a1, g1, hcells, hone]
    exact ⟨_, rfl⟩
  obtain ⟨T1, h2⟩ := run
  have hrb2 := a2.rows
  refine ⟨b', _, q_call (first := []) (caps := []) (vs := []) fn42 rfl (by simp [Tryz.f42]) h2 (by simp) rfl, by rw [AMem.get_put, if_pos rfl], a2.keep (by simp) fun s hs => by rw [AMem.get_put, if_neg (by have := (hrb2 s hs).1; omega)], by simpa using a3, fun s hs hne hn => by rw [AMem.get_put, if_neg (Ne.symm hne)]; exact a4 s hs hn, a5⟩
theorem wbyte_call {low r : Nat} {b : AVal} {bs : List Nat} {c : Nat} (h1 : σ.get r = some (.row 1 true [b])) (h : GB low σ b bs) (hr : r < low) (hlow : low ≤ σ.next) (hb : bs.length ≤ 90000) (hk : 1 ≤ k) :
    ∃ b' σ', callN lawProg k (.func 42 [] []) [.ptr r 0, .slice σ.next 0 1 (some 1) 1] (σ.push (.row 1 false [.int .u8 (c : Nat)])) = some (.tuple [], σ') ∧ WA low r σ b bs σ' b' [c] := by
  have hx : Ext σ (σ.push (.row 1 false [.int .u8 (c : Nat)])) := Ext.push _ _
  obtain ⟨b', σ', hp, hw⟩ := put2_call (k := k) (σ := σ.push (.row 1 false [.int .u8 (c : Nat)])) (more := [c]) (x := .slice σ.next 0 1 (some 1) 1) ((hx.2 r (by omega)).trans h1) (gb_ext h hx) hr (Nat.le_trans hlow hx.1) (by
      have : (σ.push (.row 1 false [.int .u8 (c : Nat)])).get σ.next = some (.row 1 false [.int .u8 (c : Nat)]) := by rw [AMem.get_push, if_pos rfl]
      simp only [sourceA, this]; rfl) (by simp; omega) hk
  exact ⟨b', σ', hp, hw.push hx⟩
theorem wcount_call {low r : Nat} {b : AVal} {bs : List Nat} (n : Nat) (h1 : σ.get r = some (.row 1 true [b])) (h : GB low σ b bs) (hr : r < low) (hlow : low ≤ σ.next) (hn : n < 34359738368) (hb : bs.length ≤ 80000) (hk : 20 ≤ k) :
    ∃ b' σ', callN lawProg k (.func 43 [] []) [.ptr r 0, .int .i64 (n : Nat)] σ = some (.tuple [], σ') ∧ WA low r σ b bs σ' b' (cntB n) := by
  obtain ⟨k, rfl⟩ : ∃ m, k = m + 1 := ⟨k - 1, by omega⟩
  have run : ∃ T1 σ1 b', execC lawProg (callN lawProg k) k 43 20 (bodyOf Tryz.f43) (initT 0 [.ptr r 0, .int .i64 (n : Nat)] .nil) σ = some (.normal, T1, σ1) ∧ WA low r σ b bs σ1 b' (cntB n) := by
    simp only [bodyOf, Tryz.f43, Option.getD_some, initT, dx, reduceIte, zLt, zLe, zEq, zAd, zMu, zSu, zBe, yEq, yLt, yLe, yTn, reduceCtorEq, sx, fx43]
    generalize hL : execC _ _ _ _ _ (Code.loop _) _ _ = q
    obtain ⟨e, T', σ', rfl, _, rfl, m, pre, b', t0, t1, hm, hp, hpl, ha⟩ : ∃ e T' σ', q = some (e, T', σ') ∧ e ≠ .normal ∧ (e = .exit 0 ∧ ∃ (m : Nat) (pre : List Nat) (b' : AVal), T'.get 0 = some (.ptr r 0) ∧ T'.get 1 = some (.int .i64 (m : Nat)) ∧ m < 128 ∧ cntB n = pre ++ [m] ∧ pre.length ≤ 10 ∧ WA low r σ b bs σ' b' pre) := by
      rw [← hL]
      refine exec_loop2 (fun i T σ' => i ≤ 10 ∧ ∃ (m : Nat) (pre : List Nat) (b' : AVal), T.get 0 = some (.ptr r 0) ∧ T.get 1 = some (.int .i64 (m : Nat)) ∧ m * 128 ^ i ≤ n ∧ cntB n = pre ++ cntF (10 - i) m ∧ pre.length = i ∧ WA low r σ b bs σ' b' pre) 10 (by omega) ?_ ?_ ?_
      · rintro i hi T σ' ⟨_, m, pre, b', t0, t1, hm, hp, hpl, ha⟩
        have hmn : m ≤ n := Nat.le_trans (Nat.le_mul_of_pos_right m (Nat.pow_pos (by decide))) hm
        by_cases h128 : m < 128
        · right
          have hge : ¬ ((m : Nat) : Int) ≥ 128 := by omega
          refine ⟨_, _, _, by
            simp only [dx, reduceIte, zLt, zLe, zEq, zAd, zMu, zSu, zBe, yEq, yLt, yLe, yTn, reduceCtorEq, sx, fx43, t0, t1, hge]
            rfl, by simp, rfl, m, pre, b', ?_, ?_, h128, by rw [hp, cntF_small h128], by omega, ha⟩
          all_goals simp only [Tr.get_set, zEq, reduceIte, t0, t1]
        · left
          have hge : ((m : Nat) : Int) ≥ 128 := by omega
          have e1 : ((m : Nat) : Int).tmod 128 = ((m % 128 : Nat) : Int) := rfl
          have e2 : ((m : Nat) : Int).tdiv 128 = ((m / 128 : Nat) : Int) := rfl
          have w1 : IntKind.i64.wrap (((m % 128 : Nat) : Int) + 128) = ((m % 128 + 128 : Nat) : Int) := by rw [i64_id (by omega) (by omega)]; omega
          have w2 : IntKind.u8.wrap ((m % 128 + 128 : Nat) : Int) = ((m % 128 + 128 : Nat) : Int) := u8_idB (by omega)
          have w3 : IntKind.i64.wrap ((m / 128 : Nat) : Int) = ((m / 128 : Nat) : Int) := i64_id (by omega) (by omega)
          obtain ⟨b2, σ2, a1, a2⟩ := wbyte_call (k := k) (σ := σ') (c := m % 128 + 128) ha.1 ha.2.1 hr (Nat.le_trans hlow ha.2.2.1) (by rw [List.length_append]; omega) (by omega)
          refine ⟨_, _, by
            simp only [dx, reduceIte, zLt, zLe, zEq, zAd, zMu, zSu, zBe, yEq, yLt, yLe, yTn, reduceCtorEq, sx, fx43, t0, t1, hge, e1, e2, w1, w2, w3, a1]
            rfl, by omega, m / 128, pre ++ [m % 128 + 128], b2, ?_, ?_, ?_, ?_, by simp [hpl], ha.trans a2⟩
          · simp only [Tr.get_set, zEq, reduceIte, t0]
          · simp only [Tr.get_set, zEq, reduceIte]
          · rw [Nat.pow_succ]
            have := Nat.div_mul_le_self m 128
            calc m / 128 * (128 ^ i * 128) = (m / 128 * 128) * 128 ^ i := by rw [Nat.mul_assoc, Nat.mul_comm 128 (128 ^ i)]
              _ ≤ m * 128 ^ i := Nat.mul_le_mul_right _ this
              _ ≤ n := hm
          · rw [hp, show 10 - i = (10 - (i + 1)) + 1 by omega, cntF_step (by omega), List.append_assoc]
            rfl
      · rintro T σ' ⟨_, m, pre, b', t0, t1, hm, hp, hpl, ha⟩
        have h0 : m = 0 := by
          by_cases h : m = 0
          · exact h
          · have hp10 : (128 : Nat) ^ 10 = 1180591620717411303424 := by rfl
            rw [hp10] at hm
            omega
        subst h0
        refine ⟨_, _, _, by
          simp only [dx, reduceIte, zLt, zLe, zEq, zAd, zMu, zSu, zBe, yEq, yLt, yLe, yTn, reduceCtorEq, sx, fx43, t0, t1]
          rfl, by simp, rfl, 0, pre, b', ?_, ?_, by decide, by rw [hp]; rfl, Nat.le_of_eq hpl, ha⟩
        all_goals simp only [Tr.get_set, zEq, reduceIte, t0, t1]
      · exact ⟨Nat.zero_le _, n, [], b, by simp only [Tr.get_set, zEq, reduceIte], by simp only [Tr.get_set, zEq, reduceIte], by simp, rfl, rfl, WA.refl h1 h⟩
    have w2 : IntKind.u8.wrap ((m : Nat) : Int) = ((m : Nat) : Int) := u8_idB (by omega)
    obtain ⟨b2, σ2, a1, a2⟩ := wbyte_call (k := k) (σ := σ') (c := m) ha.1 ha.2.1 hr (Nat.le_trans hlow ha.2.2.1) (by rw [List.length_append]; omega) (by omega)
    simp only [dx, reduceIte, zLt, zLe, zEq, zAd, zMu, zSu, zBe, yEq, yLt, yLe, yTn, reduceCtorEq, sx, fx43, t0, t1, w2, a1]
    refine ⟨_, _, b2, rfl, ?_⟩
    rw [hp]
    exact ha.trans a2
  obtain ⟨T1, σ1, b', e1, e2⟩ := run
  exact ⟨b', σ1, q_call (first := []) (caps := []) (vs := []) fn43 rfl (by simp [Tryz.f43]) e1 (by simp) rfl, e2⟩
/-- A list of spans as bytes. -/
def encS (l : List Sp) : List Nat := cntB l.length ++ l.flatMap fun s => cntB s.1.toNat ++ cntB s.2.toNat
theorem encS_len {l : List Sp} (ok : OkSp l) : (encS l).length ≤ 5 + l.length * 10 := by
  have h1 := flat_len (f := fun s : Sp => cntB s.1.toNat ++ cntB s.2.toNat) (m := 10) (l := l) fun s hs => by
    obtain ⟨a, b, c⟩ := ok.1 s hs
    have x1 : (cntB s.1.toNat).length ≤ 5 := cntB_len (by omega)
    have x2 : (cntB s.2.toNat).length ≤ 5 := cntB_len (by omega)
    rw [List.length_append]; omega
  have h2 := ok_len _ l rfl ok
  have h3 := (lastTo_bound ok).2.2
  have x1 : (cntB l.length).length ≤ 5 := cntB_len (by omega)
  unfold encS
  rw [List.length_append]; omega
theorem ok_short {l : List Sp} (ok : OkSp l) : l.length ≤ 30 := by
  have h2 := ok_len _ l rfl ok
  have h3 := (lastTo_bound ok).2.2
  omega
theorem wspans_call {low r : Nat} {b : AVal} {bs : List Nat} {vk : VK} {l : List Sp} (ok : OkSp l) (h1 : σ.get r = some (.row 1 true [b])) (h : GB low σ b bs) (hr : r < low) (hlow : low ≤ σ.next) (hb : bs.length ≤ 70000) (hk : 100 ≤ k) :
    ∃ b' σ', callN lawProg k (.func 44 [] []) [.ptr r 0, .vs vk (spansV l)] σ = some (.tuple [], σ') ∧ WA low r σ b bs σ' b' (encS l) := by
  obtain ⟨k, rfl⟩ : ∃ m, k = m + 1 := ⟨k - 1, by omega⟩
  have hl30 := ok_short ok
  obtain ⟨b1, σ1, c1, c2⟩ := wcount_call (k := k) l.length h1 h hr hlow (by omega) (by omega) (by omega)
  have hcl : (cntB l.length).length ≤ 5 := cntB_len (by omega)
  have hfl5 : ∀ s, s ∈ l → (cntB s.1.toNat ++ cntB s.2.toNat).length ≤ 10 := fun s hs => by
    obtain ⟨a, b, c⟩ := ok.1 s hs
    have x1 : (cntB s.1.toNat).length ≤ 5 := cntB_len (by omega)
    have x2 : (cntB s.2.toNat).length ≤ 5 := cntB_len (by omega)
    rw [List.length_append]; omega
  have run : ∃ T1 σ2 b', execC lawProg (callN lawProg k) k 44 25 (bodyOf Tryz.f44) (initT 0 [.ptr r 0, .vs vk (spansV l)] .nil) σ = some (.normal, T1, σ2) ∧ WA low r σ b bs σ2 b' (encS l) := by
    simp only [bodyOf, Tryz.f44, Option.getD_some, initT, dx, reduceIte, zLt, zLe, zEq, zAd, zMu, zSu, zBe, yEq, yLt, yLe, yTn, reduceCtorEq, sx, fx44, spansV_length, c1]
    generalize hL : execC _ _ _ _ _ (Code.loop _) _ _ = q
    obtain ⟨e, T', σ', rfl, _, rfl, b', ha⟩ : ∃ e T' σ', q = some (e, T', σ') ∧ e ≠ .normal ∧ (e = .exit 0 ∧ ∃ b', WA low r σ b bs σ' b' (encS l)) := by
      rw [← hL]
      refine exec_loop (fun i T σ' => i ≤ l.length ∧ T.get 0 = some (.ptr r 0) ∧ T.get 10 = some (.vs vk (spansV l)) ∧ T.get 11 = some (.int .i64 l.length) ∧ T.get 12 = some (.int .i64 i) ∧ ∃ b', WA low r σ b bs σ' b' (cntB l.length ++ (l.take i).flatMap fun s => cntB s.1.toNat ++ cntB s.2.toNat)) l.length (by omega) ?_ ?_ ?_
      · rintro i hi T σ' ⟨_, t0, t10, t11, t12, b', ha⟩
        have hlt : (i : Int) < l.length := by omega
        have hw := i64_succ (i := i) (by omega)
        obtain ⟨s1, s2, s3⟩ := ok.1 _ (List.getElem_mem hi)
        have hfl := flat_le hfl5 i
        have hx : Ext σ' ((σ'.push (.row 2 true [.int .i64 0, .int .i64 0])).put σ'.next (.row 2 true [.int .i64 (l[i]).1, .int .i64 (l[i]).2])) := (Ext.push _ _).put _ _ (Nat.le_refl _)
        have hn' := Nat.le_trans hlow ha.2.2.1
        have hgr := (hx.2 r (by omega)).trans ha.1
        obtain ⟨b2, σ2, d1, d2⟩ := wcount_call (k := k) (l[i]).1.toNat hgr (gb_ext ha.2.1 hx) hr (Nat.le_trans hn' hx.1) (by omega) (by simp only [List.length_append]; omega) (by omega)
        obtain ⟨b3, σ3, e1, e2⟩ := wcount_call (k := k) (l[i]).2.toNat d2.1 d2.2.1 hr (Nat.le_trans (Nat.le_trans hn' hx.1) d2.2.2.1) (by omega) (by
          have x1 : (cntB (l[i]).1.toNat).length ≤ 5 := cntB_len (by omega)
          simp only [List.length_append]; omega) (by omega)
        rw [show (((l[i]).1.toNat : Nat) : Int) = (l[i]).1 by omega] at d1
        rw [show (((l[i]).2.toNat : Nat) : Int) = (l[i]).2 by omega] at e1
        have hg := spansV_get hi
        have g2 : σ2.get σ'.next = some (.row 2 true [.int .i64 (l[i]).1, .int .i64 (l[i]).2]) := by
          rw [d2.2.2.2.1 σ'.next (by simp) (by omega) (fun hm => by have := (ha.2.1.rows _ hm).2; omega), AMem.get_put, if_pos rfl]
        refine ⟨_, _, by
          simp only [dx, reduceIte, zLt, zLe, zEq, zAd, zMu, zSu, zBe, yEq, yLt, yLe, yTn, reduceCtorEq, sx, fx44, t0, t10, t11, t12, hlt, Int.natCast_nonneg, Int.toNat_natCast, hg, d1, g2, e1, hw]
          rfl, hi, ?_, ?_, ?_, ?_, b3, ?_⟩
        · simp only [Tr.get_set, zEq, reduceIte, t0]
        · simp only [Tr.get_set, zEq, reduceIte, t10]
        · simp only [Tr.get_set, zEq, reduceIte, t11]
        · simp only [Tr.get_set, zEq, reduceIte]
        · have h3 := ha.trans ((d2.trans e2).push hx)
          rw [flat_snoc hi, ← List.append_assoc]
          exact h3
      · rintro T σ' ⟨_, t0, t10, t11, t12, b', ha⟩
        rw [List.take_length] at ha
        exact ⟨_, _, _, by
          simp only [dx, reduceIte, zLt, zLe, zEq, zAd, zMu, zSu, zBe, yEq, yLt, yLe, yTn, reduceCtorEq, sx, fx44, t11, t12, Int.lt_irrefl]
          rfl, by simp, rfl, b', ha⟩
      · refine ⟨Nat.zero_le _, ?_, ?_, ?_, ?_, b1, ?_⟩
        · simp only [Tr.get_set, zEq, reduceIte]
        · simp only [Tr.get_set, zEq, reduceIte]
        · simp only [Tr.get_set, zEq, reduceIte]
        · simp only [Tr.get_set, zEq, reduceIte]; rfl
        · simp only [List.take_zero, List.flatMap_nil, List.append_nil]
          exact c2
    simp only [dx, reduceIte, zLt, zLe, zEq, zAd, zMu, zSu, zBe, yEq, yLt, yLe, yTn, reduceCtorEq, sx, fx44]
    exact ⟨_, _, b', rfl, ha⟩
  obtain ⟨T1, σ2, b', e1, e2⟩ := run
  exact ⟨b', σ2, q_call (first := []) (caps := []) (vs := []) fn44 rfl (by simp [Tryz.f44]) e1 (by simp) rfl, e2⟩
end Go.Proofs.YtjckhhkhgjbpaaaGreatDoor

/- Parcels: which are right; their bytes. -/
set_option maxRecDepth 100000
set_option linter.unusedSimpArgs false
set_option linter.unusedVariables false
namespace Go.Proofs.YtjckhhkhgjbpaaaGreatDoor
open Go Go.Proofs.YtjckhhkhgjbpaaaGreatDoor.Pale
variable {k : Nat} {σ : AMem}

abbrev Spl := VK × List Sp
def splV (x : Spl) : AVal := .vs x.1 (spansV x.2)
structure Pcl where
  from_ : Int
  to_ : Int
  whole : Bool
  e : El
  hk : VK
  has : List Spl
  tk : VK
  told : List Sp
def parC (p : Pcl) : List AVal := [.int .i64 p.from_, .int .i64 p.to_, .bool p.whole, .int .u8 p.e.kind, .int .i64 p.e.n, .vs p.e.kk (intsV p.e.keys), .vs p.e.dk (p.e.kids.map elV), .vs p.hk (p.has.map splV), .vs p.tk (spansV p.told)]
def parV (p : Pcl) : AVal := .agg (parC p)
theorem spl_get {l : List Spl} {i : Nat} (hi : i < l.length) : (l.map splV)[i]? = some (.vs (l[i]).1 (spansV (l[i]).2)) := by rw [List.getElem?_map, List.getElem?_eq_getElem hi]; rfl
theorem spansV_inj : ∀ {a b : List Sp}, spansV a = spansV b → a = b := by
  intro a
  induction a with
  | nil => intro b h; cases b with
    | nil => rfl
    | cons => simp [spansV] at h
  | cons x a ih => intro b h; cases b with
    | nil => simp [spansV] at h
    | cons y b =>
      simp only [spansV, List.map_cons, List.cons.injEq, spanV, spanC, AVal.agg.injEq, AVal.int.injEq, true_and, and_true] at h
      rw [ih (b := b) h.2, show x = y from Prod.ext h.1.1 h.1.2]
theorem splV_inj : ∀ (a b : Spl), splV a = splV b → a = b := fun a b h => by
  simp only [splV, AVal.vs.injEq] at h
  exact Prod.ext h.1 (spansV_inj h.2)
theorem ok_nil_true : okB [] = true := okB_true OkSp.nil
theorem pIsList_call {x : AVal} {S : List Nat} {vk : VK} {l : List Sp} (hx : snapF false σ snapDepth x = some (.vs vk (spansV l), S)) (hl : l.length ≤ 1000) (hk : 3001 ≤ k) : pureCall lawProg (callN lawProg k) (.func 114 [] []) [x] σ = some (.bool (okB l), σ) := by
  obtain ⟨k, rfl⟩ : ∃ m, k = m + 1 := ⟨k - 1, by omega⟩
  have hu := fun (σ : AMem) => dunion_call (k := k) (σ := σ) (x := .vs vk (spansV l)) (y := .vs .nil []) (S := []) (S2 := []) (ka := vk) (kb := .nil) (a := l) (b := []) rfl rfl hl (by simp) (by omega)
  have run : ∃ T1 σ1, execC lawProg (callN lawProg k) k 114 12 (bodyOf Tryz.f114) (initT 0 [.vs vk (spansV l)] .nil) AMem.empty = some (.ret, T1, σ1) ∧ T1.get 2 = some (.bool (okB l)) := by
    cases h : okB l with
    | true =>
      have h2 : (unionR l []).2 = 0 := by unfold unionR; rw [h, ok_nil_true]; rfl
      rw [h2] at hu
      have h0 : ((0 : Int) == 0) = true := rfl
      simp only [bodyOf, Tryz.f114, Option.getD_some, initT, dx, reduceIte, zLt, zLe, zEq, zAd, zMu, zSu, zBe, yEq, yLt, yLe, yTn, reduceCtorEq, sx, fx114, hu, h0]
      exact ⟨_, _, rfl, by simp only [Tr.get_set, zEq, reduceIte]⟩
    | false =>
      have h2 : (unionR l []).2 = 4 := by unfold unionR; rw [h]; rfl
      rw [h2] at hu
      have h0 : ((4 : Int) == 0) = false := rfl
      simp only [bodyOf, Tryz.f114, Option.getD_some, initT, dx, reduceIte, zLt, zLe, zEq, zAd, zMu, zSu, zBe, yEq, yLt, yLe, yTn, reduceCtorEq, sx, fx114, hu, h0]
      exact ⟨_, _, rfl, by simp only [Tr.get_set, zEq, reduceIte]⟩
  obtain ⟨T1, σ1, h1, h2⟩ := run
  have hs : snapL (snapF false σ snapDepth) [x] = some ([.vs vk (spansV l)], S ++ []) := by simp only [snapL, hx]
  exact pureCall_of hs (memo114 _) (pureRun_of fn114 rfl (by simp [Tryz.f114]) h1 (by simp) (res_one h2) rfl)
theorem oddList_callN (x : Spl) (hl : x.2.length ≤ 1000) (hk : 3002 ≤ k) : callN lawProg k (.func 113 [] []) [splV x] σ = some (.bool (!okB x.2), σ) := by
  obtain ⟨k, rfl⟩ : ∃ m, k = m + 1 := ⟨k - 1, by omega⟩
  have hi := fun (σ : AMem) => pIsList_call (k := k) (σ := σ) (x := .vs x.1 (spansV x.2)) (S := []) (vk := x.1) (l := x.2) rfl hl (by omega)
  have run : ∃ T1, execC lawProg (callN lawProg k) k 113 6 (bodyOf Tryz.f113) (initT 0 [splV x] .nil) σ = some (.ret, T1, σ) ∧ T1.get 2 = some (.bool (!okB x.2)) := by
    generalize okB x.2 = B at *
    simp only [splV] at hi ⊢
    simp only [bodyOf, Tryz.f113, Option.getD_some, initT, dx, reduceIte, zLt, zLe, zEq, zAd, zMu, zSu, zBe, yEq, yLt, yLe, yTn, reduceCtorEq, sx, fx113, hi]
    exact ⟨_, rfl, by simp only [Tr.get_set, zEq, reduceIte]⟩
  obtain ⟨T1, h1, h2⟩ := run
  exact q_call (first := []) (caps := []) fn113 rfl (by simp [Tryz.f113]) h1 (by simp) (res_one h2)
theorem nvList : lawProg.isVal 160 113 = false := by kernel_rfl
/-- Parcels that are right. -/
noncomputable def parB (tabs : List Tab) (d : Nat) (s : Shp) (p : Pcl) : Bool := ((((((decide (0 ≤ p.from_ ∧ p.from_ ≤ 7) && decide (0 ≤ p.to_ ∧ p.to_ ≤ 7)) && isElB (tlOf tabs) d s p.e) && decide (p.has.length ≤ 8)) && !(p.has.any fun x => !okB x.2)) && okB p.told))
/-- How large a parcel may be at all. -/
def ParFit (d : Nat) (p : Pcl) : Prop := Fit 1000 d p.e ∧ p.has.length ≤ 1000 ∧ (∀ x, x ∈ p.has → x.2.length ≤ 1000) ∧ p.told.length ≤ 1000
theorem parB_iff {tabs : List Tab} {d : Nat} {s : Shp} {p : Pcl} : parB tabs d s p = true ↔ (0 ≤ p.from_ ∧ p.from_ ≤ 7) ∧ (0 ≤ p.to_ ∧ p.to_ ≤ 7) ∧ isElB (tlOf tabs) d s p.e = true ∧ p.has.length ≤ 8 ∧ (∀ x, x ∈ p.has → OkSp x.2) ∧ OkSp p.told := by
  unfold parB
  simp only [Bool.and_eq_true, decide_eq_true_eq, Bool.not_eq_true', List.any_eq_false, okB_iff, and_assoc]
  have : (∀ x, x ∈ p.has → ¬ okB x.2 = false) ↔ ∀ x, x ∈ p.has → OkSp x.2 := by
    constructor
    · intro h x hx
      have := h x hx
      rw [Bool.not_eq_false] at this
      exact okB_iff.1 this
    · intro h x hx
      rw [okB_true (h x hx)]; simp
  rw [this]
theorem isParcel_call {lk : VK} {tabs : List Tab} {d dS k0 : Nat} {s : Shp} (hl : tabs.length ≤ 1000) (hcs : CS k0 lk tabs s 0) (hs : ShOk tabs dS s) (p : Pcl) (hp : ParFit d p) (hk : 4 * d + 9000 ≤ k) (hk0 : k0 + 20 ≤ k) :
    pureCall lawProg (callN lawProg k) (.func 40 [] []) [.agg (latC lk tabs s), parV p] σ = some (.bool (parB tabs d s p), σ) := by
  obtain ⟨k, rfl⟩ : ∃ m, k = m + 1 := ⟨k - 1, by omega⟩
  obtain ⟨p1, p2, p3, p4⟩ := hp
  have hin := fun (σ : AMem) (x y z : Int) => within_call (k := k) (σ := σ) x y z (by omega)
  have hck := fun (σ : AMem) => check_call (k := k) (σ := σ) hl hcs (fun _ => hs) p.e p1 (by omega) (by omega)
  have hoE : openE tabs d s 0 [p.e] = if isElB (tlOf tabs) d s p.e = true then 0 else 2 := by
    unfold openE
    rw [if_pos rfl]
    cases h : isElB (tlOf tabs) d s p.e <;> simp [h]
  have hto := fun (σ : AMem) => pIsList_call (k := k) (σ := σ) (x := .vs p.tk (spansV p.told)) (S := []) (vk := p.tk) (l := p.told) rfl p4 (by omega)
  have hcont : ∀ σ : AMem, ∃ σ', callN lawProg k (.func 116 [] []) [.vs p.hk (p.has.map splV), .func 113 [] []] σ = some (.bool (p.has.any fun x => !okB x.2), σ') ∧ Ext σ σ' := fun σ => by
    obtain ⟨K, rfl⟩ : ∃ m, k = m + 2 := ⟨k - 2, by omega⟩
    have := spls_has_v (k := K) (σ := σ) p.hk (p.has.map splV) 113 [] (viaP splV fun x => !okB x.2) (fun v hv => by
      obtain ⟨x, _, rfl⟩ := List.mem_map.1 hv
      exact ⟨x.1, spansV x.2, rfl⟩) (by rw [List.length_map]; omega) (fun _ => nvList) (fun v hv σ2 hx => by
      obtain ⟨x, hxm, rfl⟩ := List.mem_map.1 hv
      rw [viaP_eq (f := splV) splV_inj]
      exact ⟨σ2, oddList_callN x (p3 x hxm) (by omega), Ext.refl _⟩) (by rw [List.length_map]; omega)
    rw [viaP_any splV_inj] at this
    exact this
  let σ0 : AMem := (AMem.empty.push (.row 4 true (latC lk tabs s))).push (.row 9 true (parC p))
  have n0 : σ0.next = 2 := rfl
  obtain ⟨σ', hc, hx⟩ := hcont σ0
  have g1 : σ'.get 1 = some (.row 9 true (parC p)) := (hx.2 1 (by omega)).trans (by simp only [σ0, AMem.get_push, AMem.next_push, next_empty, zAd, zEq, reduceIte])
  have run : ∃ T1 σ1, execC lawProg (callN lawProg k) k 40 41 (bodyOf Tryz.f40) (initT 0 [.agg (latC lk tabs s), .agg (parC p)] .nil) AMem.empty = some (.ret, T1, σ1) ∧ T1.get 4 = some (.bool (parB tabs d s p)) := by
    unfold parB
    rw [hoE] at hck
    simp only [σ0] at hc
    clear hcont
    generalize (p.has.any fun x => !okB x.2) = C at *
    generalize okB p.told = D at *
    have e20 : ((2 : Int) == 0) = false := rfl
    have e00 : ((0 : Int) == 0) = true := rfl
    have h8 : (((p.has.length : Nat) : Int) ≤ 8) ↔ p.has.length ≤ 8 := by omega
    generalize isElB (tlOf tabs) d s p.e = B at *
    simp only [latC, shpC, elC, parC] at *
    by_cases a1 : 0 ≤ p.from_ ∧ p.from_ ≤ 7
    · by_cases a2 : 0 ≤ p.to_ ∧ p.to_ ≤ 7
      · rw [decide_eq_true a1, decide_eq_true a2]
        cases B with
        | false =>
          simp only [Bool.false_eq_true, if_false] at hck
          simp only [bodyOf, Tryz.f40, Option.getD_some, initT, dx, reduceIte, zLt, zLe, zEq, zAd, zMu, zSu, zBe, yEq, yLt, yLe, yTn, reduceCtorEq, sx, fx40, hin, a1, a2, hck, e20]
          exact ⟨_, _, rfl, by simp only [Tr.get_set, zEq, reduceIte, Bool.false_and, Bool.and_false]⟩
        | true =>
          simp only [if_true] at hck
          by_cases a3 : p.has.length ≤ 8
          · rw [decide_eq_true a3]
            have a3' := h8.2 a3
            cases C with
            | true =>
              simp only [bodyOf, Tryz.f40, Option.getD_some, initT, dx, reduceIte, zLt, zLe, zEq, zAd, zMu, zSu, zBe, yEq, yLt, yLe, yTn, reduceCtorEq, sx, fx40, hin, a1, a2, hck, e00, List.length_map, a3', hc]
              exact ⟨_, _, rfl, by simp only [Tr.get_set, zEq, reduceIte, Bool.false_and, Bool.and_false, Bool.not_true]⟩
            | false =>
              simp only [bodyOf, Tryz.f40, Option.getD_some, initT, dx, reduceIte, zLt, zLe, zEq, zAd, zMu, zSu, zBe, yEq, yLt, yLe, yTn, reduceCtorEq, sx, fx40, hin, a1, a2, hck, e00, List.length_map, a3', hc, g1, hto]
              exact ⟨_, _, rfl, by simp only [Tr.get_set, zEq, reduceIte, Bool.true_and, Bool.and_true, Bool.not_false]⟩
          · rw [decide_eq_false a3]
            have a3' : ¬ ((p.has.length : Nat) : Int) ≤ 8 := fun h => a3 (h8.1 h)
            simp only [bodyOf, Tryz.f40, Option.getD_some, initT, dx, reduceIte, zLt, zLe, zEq, zAd, zMu, zSu, zBe, yEq, yLt, yLe, yTn, reduceCtorEq, sx, fx40, hin, a1, a2, hck, e00, List.length_map, a3']
            exact ⟨_, _, rfl, by simp only [Tr.get_set, zEq, reduceIte, Bool.false_and, Bool.and_false]⟩
      · rw [decide_eq_false a2]
        simp only [bodyOf, Tryz.f40, Option.getD_some, initT, dx, reduceIte, zLt, zLe, zEq, zAd, zMu, zSu, zBe, yEq, yLt, yLe, yTn, reduceCtorEq, sx, fx40, hin, a1, a2]
        exact ⟨_, _, rfl, by simp only [Tr.get_set, zEq, reduceIte, Bool.false_and, Bool.and_false]⟩
    · rw [decide_eq_false a1]
      simp only [bodyOf, Tryz.f40, Option.getD_some, initT, dx, reduceIte, zLt, zLe, zEq, zAd, zMu, zSu, zBe, yEq, yLt, yLe, yTn, reduceCtorEq, sx, fx40, hin, a1]
      exact ⟨_, _, rfl, by simp only [Tr.get_set, zEq, reduceIte, Bool.false_and]⟩
  obtain ⟨T1, σ1, h1, h2⟩ := run
  exact pureCall_of rfl (memo40 _) (pureRun_of fn40 rfl (by simp [Tryz.f40]) h1 (by simp) (res_one h2) rfl)
end Go.Proofs.YtjckhhkhgjbpaaaGreatDoor

/- Parcels: the program's Bytes. -/
set_option maxRecDepth 100000
set_option linter.unusedSimpArgs false
set_option linter.unusedVariables false
namespace Go.Proofs.YtjckhhkhgjbpaaaGreatDoor
open Go Go.Proofs.YtjckhhkhgjbpaaaGreatDoor.Pale
variable {k : Nat} {σ : AMem}

def wh (b : Bool) : Nat := if b then 1 else 0
def encP1 (d : Nat) (p : Pcl) : List Nat := [80, p.from_.toNat, p.to_.toNat] ++ ([wh p.whole] ++ (cntB (encE d p.e).length ++ (encE d p.e ++ cntB p.has.length)))
/-- A parcel as bytes, without their sum. -/
def encP (d : Nat) (p : Pcl) : List Nat := encP1 d p ++ (p.has.flatMap (fun x => encS x.2) ++ encS p.told)
noncomputable def pbV (tabs : List Tab) (d : Nat) (s : Shp) (E : Int) (p : Pcl) : AVal × Int :=
  if E = 0 then (if parB tabs d s p then (if (encE d p.e).length ≤ 20000 then (.vs .some (bytesV (sealB (encP d p))), 0) else (.vs .nil [], 5)) else (.vs .nil [], 4)) else (.vs .nil [], E)
theorem hasL_len {p : Pcl} (h8 : p.has.length ≤ 8) (hok : ∀ x, x ∈ p.has → OkSp x.2) (i : Nat) : ((p.has.take i).flatMap fun x => encS x.2).length ≤ 2440 := by
  have := flat_le (f := fun x : Spl => encS x.2) (m := 305) (l := p.has) (fun x hx => by
    have h1 := encS_len (hok x hx)
    have h2 := ok_short (hok x hx)
    omega) i
  have h3 : p.has.length * 305 ≤ 8 * 305 := Nat.mul_le_mul_right _ h8
  omega
theorem encP_lt {d : Nat} {p : Pcl} (h1 : 0 ≤ p.from_ ∧ p.from_ ≤ 7) (h2 : 0 ≤ p.to_ ∧ p.to_ ≤ 7) (hv : VE d p.e) : ∀ b, b ∈ encP d p → b < 256 := by
  intro b hb
  have hc : ∀ n, b ∈ cntB n → b < 256 := fun n h => cntF_lt _ _ _ h
  have hs : ∀ l : List Sp, b ∈ encS l → b < 256 := fun l h => by
    unfold encS at h
    rcases List.mem_append.1 h with h | h
    · exact hc _ h
    · obtain ⟨s, _, h⟩ := List.mem_flatMap.1 h
      rcases List.mem_append.1 h with h | h <;> exact hc _ h
  simp only [encP, encP1, List.mem_append, List.mem_cons, List.not_mem_nil, or_false] at hb
  rcases hb with ((h | h | h) | h | h | h | h) | h | h
  · omega
  · omega
  · omega
  · subst h; unfold wh; split <;> omega
  · exact hc _ h
  · exact encE_lt hv _ h
  · exact hc _ h
  · obtain ⟨x, _, h⟩ := List.mem_flatMap.1 h
    exact hs _ h
  · exact hs _ h
theorem source3 {σ : AMem} (a b c : Nat) : sourceA 1 (σ.push (.row 1 false [.int .u8 (a : Nat), .int .u8 (b : Nat), .int .u8 (c : Nat)])) (.slice σ.next 0 3 (some 3) 1) = some (bytesV [a, b, c], 3) := by
  have : (σ.push (.row 1 false [.int .u8 (a : Nat), .int .u8 (b : Nat), .int .u8 (c : Nat)])).get σ.next = some (.row 1 false [.int .u8 (a : Nat), .int .u8 (b : Nat), .int .u8 (c : Nat)]) := by rw [AMem.get_push, if_pos rfl]
  simp only [sourceA, this]
  rfl
theorem pBytes_ok {lk : VK} {tabs : List Tab} {d dS k0 : Nat} {s : Shp} (hl : tabs.length ≤ 1000) (htl : ∀ n, tlOf tabs n ≤ 1000) (hcs : CS k0 lk tabs s 0) (hs : ShOk tabs dS s) (p : Pcl) (hp : ParFit d p) (hd : encL d ≤ 100000000000) (hpb : parB tabs d s p = true) (hlen : (encE d p.e).length ≤ 20000) (hk : 4 * d + 80000 ≤ k) (hk0 : k0 + 20 ≤ k) :
    ∃ T1 σ1 q, execC lawProg (callN lawProg k) k 11 82 (bodyOf Tryz.f11) (initT 0 [.agg (latC lk tabs s), .agg (parC p)] .nil) AMem.empty = some (.ret, T1, σ1) ∧ T1.get 4 = some (.slice q 0 (sealB (encP d p)).length none 1) ∧ T1.get 5 = some (.int .i64 0) ∧ σ1.get q = some (.row 1 false (bytesV (sealB (encP d p)))) := by
  obtain ⟨⟨f1, f2⟩, ⟨t1, t2⟩, hel, h8, hok, hto⟩ := parB_iff.1 hpb
  have hv := isElB_VE htl hel
  have hc := hcs k (by omega)
  have hisp := fun (σ : AMem) => isParcel_call (k := k) (σ := σ) hl hcs hs p hp (by omega) (by omega)
  rw [hpb] at hisp
  obtain ⟨K, hby⟩ := ebytes_call (k := k) hl htl hcs (fun _ => hs) p.e hp.1 hd (by omega) (by omega)
  have hoE : openE tabs d s 0 [p.e] = 0 := by
    unfold openE
    rw [if_pos rfl]
    simp [hel]
  have heb : ebV tabs d s 0 K p.e = (.vs K (bytesV (encE d p.e)), 0) := by unfold ebV; rw [if_pos hoE, if_pos hlen]
  rw [heb] at hby
  have hil := encE_len hv
  have c5 : (cntB (encE d p.e).length).length ≤ 5 := cntB_len (by omega)
  have c6 : (cntB p.has.length).length ≤ 5 := cntB_len (by omega)
  let σ0 : AMem := ((AMem.empty.push (.row 4 true (latC lk tabs s))).push (.row 9 true (parC p))).push (.row 1 true [.vs .nil []])
  have n0 : σ0.next = 3 := rfl
  have z0 : σ0.get 0 = some (.row 4 true (latC lk tabs s)) := by simp only [σ0, AMem.get_push, AMem.next_push, next_empty, zAd, zEq, reduceIte]
  have z1 : σ0.get 1 = some (.row 9 true (parC p)) := by simp only [σ0, AMem.get_push, AMem.next_push, next_empty, zAd, zEq, reduceIte]
  have z2 : σ0.get 2 = some (.row 1 true [.vs .nil []]) := by simp only [σ0, AMem.get_push, AMem.next_push, next_empty, zAd, zEq, reduceIte]
  -- the first bytes
  obtain ⟨b1, σ1, e1, w1⟩ := put2_call (k := k) (low := 3) (r := 2) (σ := σ0.push (.row 1 false [.int .u8 ((80 : Nat) : Int), .int .u8 (p.from_.toNat : Nat), .int .u8 (p.to_.toNat : Nat)])) (b := .vs .nil []) (bs := []) (more := [80, p.from_.toNat, p.to_.toNat]) (x := .slice σ0.next 0 3 (some 3) 1) (by rw [AMem.get_push, if_neg (by omega)]; exact z2) (GB.start _ _) (by omega) (by simp [n0]) (source3 _ _ _) (by simp) (by omega)
  have w1' := w1.push (Ext.push σ0 _)
  obtain ⟨b2, σ2, e2, w2⟩ := wbyte_call (k := k) (low := 3) (r := 2) (σ := σ1) (c := wh p.whole) w1'.1 w1'.2.1 (by omega) (by have := w1'.2.2.1; omega) (by simp) (by omega)
  have w12 := w1'.trans w2
  obtain ⟨b3, σ3, e3, w3⟩ := wcount_call (k := k) (low := 3) (r := 2) (σ := σ2) (encE d p.e).length w12.1 w12.2.1 (by omega) (by have := w12.2.2.1; omega) (by omega) (by simp) (by omega)
  have w13 := w12.trans w3
  obtain ⟨b4, σ4, e4, w4⟩ := put2_call (k := k) (low := 3) (r := 2) (σ := σ3) (x := .vs K (bytesV (encE d p.e))) (more := encE d p.e) w13.1 w13.2.1 (by omega) (by have := w13.2.2.1; omega) (source_bytes _ _ _) (by simp; omega) (by omega)
  have w14 := w13.trans w4
  obtain ⟨b5, σ5, e5, w5⟩ := wcount_call (k := k) (low := 3) (r := 2) (σ := σ4) p.has.length w14.1 w14.2.1 (by omega) (by have := w14.2.2.1; omega) (by omega) (by simp; omega) (by omega)
  have w15 := w14.trans w5
  have keep : ∀ {σ' : AMem} {b : AVal} {m : List Nat}, WA 3 2 σ0 (.vs .nil []) [] σ' b m → σ'.get 1 = some (.row 9 true (parC p)) := fun h => (h.2.2.2.1 1 (by omega) (by omega) (by simp [rowOf])).trans z1
  have hF : ([80, p.from_.toNat, p.to_.toNat] ++ [wh p.whole] ++ cntB (encE d p.e).length ++ encE d p.e ++ cntB p.has.length) = encP1 d p := by simp [encP1]
  rw [hF] at w15
  have hl1 : (encP1 d p).length ≤ 20020 := by simp only [encP1, List.length_append, List.length_cons, List.length_nil]; omega
  have g1 := keep w1'
  have g3 := keep w13
  have g4 := keep w14
  have g5 := keep w15
  have v80 : ((80 : Nat) : Int) = 80 := rfl
  have vf : ((p.from_.toNat : Nat) : Int) = p.from_ := by omega
  have vt : ((p.to_.toNat : Nat) : Int) = p.to_ := by omega
  have wf : IntKind.u8.wrap p.from_ = p.from_ := by rw [← vf]; exact u8_idB (by omega)
  have wt : IntKind.u8.wrap p.to_ = p.to_ := by rw [← vt]; exact u8_idB (by omega)
  rw [v80, vf, vt, n0] at e1
  have e00 : ((0 : Int) != 0) = false := rfl
  simp only [σ0] at e1
  have g2 : σ2.get 1 = some (.row 9 true (parC p)) := keep w12
  cases hw : p.whole with
  | true =>
    have hwh : ((wh p.whole : Nat) : Int) = 1 := by rw [hw]; rfl
    rw [hwh] at e2
    simp only [latC, shpC, parV, parC, elC, hw] at hc hisp hby e1 g1 g2 e2 e3 e4 g3 g4 e5 g5 ⊢
    simp only [bodyOf, Tryz.f11, Option.getD_some, initT, dx, reduceIte, zLt, zLe, zEq, zAd, zMu, zSu, zBe, yEq, yLt, yLe, yTn, reduceCtorEq, sx, fx11, hc, e00, hisp, hby, wf, wt, hw, e1, g1, e2, e3, bytesV_length, e4, g4, List.length_map, e5, g5]
    generalize hL : execC _ _ _ _ _ (Code.loop _) _ _ = q
    obtain ⟨ex, T', σ', rfl, _, rfl, t3, t9, b6, w6⟩ : ∃ ex T' σ', q = some (ex, T', σ') ∧ ex ≠ .normal ∧ (ex = .exit 0 ∧ T'.get 3 = some (.ptr 1 0) ∧ T'.get 9 = some (.ptr 2 0) ∧ ∃ b', WA 3 2 σ0 (.vs .nil []) [] σ' b' (encP1 d p ++ p.has.flatMap fun x => encS x.2)) := by
      rw [← hL]
      refine exec_loop (fun i T σ' => i ≤ p.has.length ∧ T.get 3 = some (.ptr 1 0) ∧ T.get 9 = some (.ptr 2 0) ∧ T.get 66 = some (.vs p.hk (p.has.map splV)) ∧ T.get 67 = some (.int .i64 p.has.length) ∧ T.get 68 = some (.int .i64 i) ∧ ∃ b', WA 3 2 σ0 (.vs .nil []) [] σ' b' (encP1 d p ++ (p.has.take i).flatMap fun x => encS x.2)) p.has.length (by omega) ?_ ?_ ?_
      · rintro i hi T σ' ⟨_, t3, t9, t66, t67, t68, b', wa⟩
        have hlt : (i : Int) < p.has.length := by omega
        have hwi := i64_succ (i := i) (by omega)
        have hfl := hasL_len h8 hok i
        obtain ⟨b7, σ7, e7, w7⟩ := wspans_call (k := k) (low := 3) (r := 2) (σ := σ') (vk := (p.has[i]).1) (hok _ (List.getElem_mem hi)) wa.1 wa.2.1 (by omega) (by have := wa.2.2.1; omega) (by simp only [List.length_append, List.nil_append]; omega) (by omega)
        refine ⟨_, _, by
          simp only [dx, reduceIte, zLt, zLe, zEq, zAd, zMu, zSu, zBe, yEq, yLt, yLe, yTn, reduceCtorEq, sx, fx11, t3, t9, t66, t67, t68, hlt, Int.natCast_nonneg, Int.toNat_natCast, spl_get hi, e7, hwi]
          rfl, hi, ?_, ?_, ?_, ?_, ?_, b7, ?_⟩
        · simp only [Tr.get_set, zEq, reduceIte, t3]
        · simp only [Tr.get_set, zEq, reduceIte, t9]
        · simp only [Tr.get_set, zEq, reduceIte, t66]
        · simp only [Tr.get_set, zEq, reduceIte, t67]
        · simp only [Tr.get_set, zEq, reduceIte]
        · rw [flat_snoc (f := fun x : Spl => encS x.2) hi, ← List.append_assoc]
          exact wa.trans w7
      · rintro T σ' ⟨_, t3, t9, t66, t67, t68, b', wa⟩
        rw [List.take_length] at wa
        refine ⟨_, _, _, by
          simp only [dx, reduceIte, zLt, zLe, zEq, zAd, zMu, zSu, zBe, yEq, yLt, yLe, yTn, reduceCtorEq, sx, fx11, t67, t68, Int.lt_irrefl]
          rfl, by simp, rfl, ?_, ?_, b', wa⟩
        all_goals simp only [Tr.get_set, zEq, reduceIte, t3, t9]
      · refine ⟨Nat.zero_le _, ?_, ?_, ?_, ?_, ?_, b5, ?_⟩
        · simp only [Tr.get_set, zEq, reduceIte]
        · simp only [Tr.get_set, zEq, reduceIte]
        · simp only [Tr.get_set, zEq, reduceIte]
        · simp only [Tr.get_set, zEq, reduceIte]
        · simp only [Tr.get_set, zEq, reduceIte]; rfl
        · simp only [List.take_zero, List.flatMap_nil, List.append_nil]
          exact w15
    have g6 := keep w6
    have hfl6 := hasL_len h8 hok p.has.length
    rw [List.take_length] at hfl6
    obtain ⟨b7, σ7, e7, w7⟩ := wspans_call (k := k) (low := 3) (r := 2) (σ := σ') (vk := p.tk) hto w6.1 w6.2.1 (by omega) (by have := w6.2.2.1; omega) (by simp only [List.length_append, List.nil_append]; omega) (by omega)
    have w67 := w6.trans w7
    rw [List.append_assoc] at w67
    have hPe : encP1 d p ++ ((p.has.flatMap fun x => encS x.2) ++ encS p.told) = encP d p := rfl
    rw [hPe] at w67
    have hPl : (encP d p).length ≤ 30000 := by
      have h1 := encS_len hto
      have h2 := ok_short hto
      simp only [encP, List.length_append]; omega
    have hPn : (encP d p).length ≠ 0 := by simp [encP, encP1]
    have hW : Writes 3 2 (encP d p) σ7 := by
      obtain ⟨a1, a2, a3, _, _⟩ := w67
      rw [List.nil_append] at a2
      rcases a2 with h | ⟨h, _⟩
      · exact ⟨b7, a1, h, by omega⟩
      · exact absurd h hPn
    obtain ⟨σ8, q, e8, g8, _⟩ := sealed_call (k := k) hW (by omega) hPn (by omega) (encP_lt ⟨f1, f2⟩ ⟨t1, t2⟩ hv) (by omega)
    simp only [parC, hw] at g6
    simp only [dx, reduceIte, zLt, zLe, zEq, zAd, zMu, zSu, zBe, yEq, yLt, yLe, yTn, reduceCtorEq, sx, fx11, t3, t9, g6, e7, e8]
    exact ⟨_, _, q, rfl, by simp only [Tr.get_set, zEq, reduceIte], by simp only [Tr.get_set, zEq, reduceIte], g8⟩
  | false =>
    have hwh : ((wh p.whole : Nat) : Int) = 0 := by rw [hw]; rfl
    rw [hwh] at e2
    simp only [latC, shpC, parV, parC, elC, hw] at hc hisp hby e1 g1 g2 e2 e3 e4 g3 g4 e5 g5 ⊢
    simp only [bodyOf, Tryz.f11, Option.getD_some, initT, dx, reduceIte, zLt, zLe, zEq, zAd, zMu, zSu, zBe, yEq, yLt, yLe, yTn, reduceCtorEq, sx, fx11, hc, e00, hisp, hby, wf, wt, hw, e1, g1, e2, e3, bytesV_length, e4, g4, List.length_map, e5, g5]
    generalize hL : execC _ _ _ _ _ (Code.loop _) _ _ = q
    obtain ⟨ex, T', σ', rfl, _, rfl, t3, t9, b6, w6⟩ : ∃ ex T' σ', q = some (ex, T', σ') ∧ ex ≠ .normal ∧ (ex = .exit 0 ∧ T'.get 3 = some (.ptr 1 0) ∧ T'.get 9 = some (.ptr 2 0) ∧ ∃ b', WA 3 2 σ0 (.vs .nil []) [] σ' b' (encP1 d p ++ p.has.flatMap fun x => encS x.2)) := by
      rw [← hL]
      refine exec_loop (fun i T σ' => i ≤ p.has.length ∧ T.get 3 = some (.ptr 1 0) ∧ T.get 9 = some (.ptr 2 0) ∧ T.get 66 = some (.vs p.hk (p.has.map splV)) ∧ T.get 67 = some (.int .i64 p.has.length) ∧ T.get 68 = some (.int .i64 i) ∧ ∃ b', WA 3 2 σ0 (.vs .nil []) [] σ' b' (encP1 d p ++ (p.has.take i).flatMap fun x => encS x.2)) p.has.length (by omega) ?_ ?_ ?_
      · rintro i hi T σ' ⟨_, t3, t9, t66, t67, t68, b', wa⟩
        have hlt : (i : Int) < p.has.length := by omega
        have hwi := i64_succ (i := i) (by omega)
        have hfl := hasL_len h8 hok i
        obtain ⟨b7, σ7, e7, w7⟩ := wspans_call (k := k) (low := 3) (r := 2) (σ := σ') (vk := (p.has[i]).1) (hok _ (List.getElem_mem hi)) wa.1 wa.2.1 (by omega) (by have := wa.2.2.1; omega) (by simp only [List.length_append, List.nil_append]; omega) (by omega)
        refine ⟨_, _, by
          simp only [dx, reduceIte, zLt, zLe, zEq, zAd, zMu, zSu, zBe, yEq, yLt, yLe, yTn, reduceCtorEq, sx, fx11, t3, t9, t66, t67, t68, hlt, Int.natCast_nonneg, Int.toNat_natCast, spl_get hi, e7, hwi]
          rfl, hi, ?_, ?_, ?_, ?_, ?_, b7, ?_⟩
        · simp only [Tr.get_set, zEq, reduceIte, t3]
        · simp only [Tr.get_set, zEq, reduceIte, t9]
        · simp only [Tr.get_set, zEq, reduceIte, t66]
        · simp only [Tr.get_set, zEq, reduceIte, t67]
        · simp only [Tr.get_set, zEq, reduceIte]
        · rw [flat_snoc (f := fun x : Spl => encS x.2) hi, ← List.append_assoc]
          exact wa.trans w7
      · rintro T σ' ⟨_, t3, t9, t66, t67, t68, b', wa⟩
        rw [List.take_length] at wa
        refine ⟨_, _, _, by
          simp only [dx, reduceIte, zLt, zLe, zEq, zAd, zMu, zSu, zBe, yEq, yLt, yLe, yTn, reduceCtorEq, sx, fx11, t67, t68, Int.lt_irrefl]
          rfl, by simp, rfl, ?_, ?_, b', wa⟩
        all_goals simp only [Tr.get_set, zEq, reduceIte, t3, t9]
      · refine ⟨Nat.zero_le _, ?_, ?_, ?_, ?_, ?_, b5, ?_⟩
        · simp only [Tr.get_set, zEq, reduceIte]
        · simp only [Tr.get_set, zEq, reduceIte]
        · simp only [Tr.get_set, zEq, reduceIte]
        · simp only [Tr.get_set, zEq, reduceIte]
        · simp only [Tr.get_set, zEq, reduceIte]; rfl
        · simp only [List.take_zero, List.flatMap_nil, List.append_nil]
          exact w15
    have g6 := keep w6
    have hfl6 := hasL_len h8 hok p.has.length
    rw [List.take_length] at hfl6
    obtain ⟨b7, σ7, e7, w7⟩ := wspans_call (k := k) (low := 3) (r := 2) (σ := σ') (vk := p.tk) hto w6.1 w6.2.1 (by omega) (by have := w6.2.2.1; omega) (by simp only [List.length_append, List.nil_append]; omega) (by omega)
    have w67 := w6.trans w7
    rw [List.append_assoc] at w67
    have hPe : encP1 d p ++ ((p.has.flatMap fun x => encS x.2) ++ encS p.told) = encP d p := rfl
    rw [hPe] at w67
    have hPl : (encP d p).length ≤ 30000 := by
      have h1 := encS_len hto
      have h2 := ok_short hto
      simp only [encP, List.length_append]; omega
    have hPn : (encP d p).length ≠ 0 := by simp [encP, encP1]
    have hW : Writes 3 2 (encP d p) σ7 := by
      obtain ⟨a1, a2, a3, _, _⟩ := w67
      rw [List.nil_append] at a2
      rcases a2 with h | ⟨h, _⟩
      · exact ⟨b7, a1, h, by omega⟩
      · exact absurd h hPn
    obtain ⟨σ8, q, e8, g8, _⟩ := sealed_call (k := k) hW (by omega) hPn (by omega) (encP_lt ⟨f1, f2⟩ ⟨t1, t2⟩ hv) (by omega)
    simp only [parC, hw] at g6
    simp only [dx, reduceIte, zLt, zLe, zEq, zAd, zMu, zSu, zBe, yEq, yLt, yLe, yTn, reduceCtorEq, sx, fx11, t3, t9, g6, e7, e8]
    exact ⟨_, _, q, rfl, by simp only [Tr.get_set, zEq, reduceIte], by simp only [Tr.get_set, zEq, reduceIte], g8⟩
end Go.Proofs.YtjckhhkhgjbpaaaGreatDoor

/- Parcels: the program's Bytes as a call. -/
set_option maxRecDepth 100000
set_option linter.unusedSimpArgs false
set_option linter.unusedVariables false
namespace Go.Proofs.YtjckhhkhgjbpaaaGreatDoor
open Go Go.Proofs.YtjckhhkhgjbpaaaGreatDoor.Pale
variable {k : Nat} {σ : AMem}

theorem pBytes_run {lk : VK} {tabs : List Tab} {d dS k0 : Nat} {s : Shp} {E : Int} (hl : tabs.length ≤ 1000) (htl : ∀ n, tlOf tabs n ≤ 1000) (hcs : CS k0 lk tabs s E) (hs : E = 0 → ShOk tabs dS s) (p : Pcl) (hp : ParFit d p) (hd : encL d ≤ 100000000000) (hk : 4 * d + 80000 ≤ k) (hk0 : k0 + 29 ≤ k) :
    pureRun (callN lawProg (k + 1)) (.func 11 [] []) [.agg (latC lk tabs s), parV p] = some (.tuple [(pbV tabs d s E p).1, .int .i64 (pbV tabs d s E p).2], true) := by
  have heq : ∀ (a b : Int), (a != b) = !decide (a = b) := fun a b => by rw [Bool.eq_iff_iff]; simp
  have hc := hcs k (by omega)
  have done : ∀ {T1 : Tr AVal} {σ1 : AMem} {n : Int}, execC lawProg (callN lawProg k) k 11 82 (bodyOf Tryz.f11) (initT 0 [.agg (latC lk tabs s), .agg (parC p)] .nil) AMem.empty = some (.ret, T1, σ1) → T1.get 4 = some (.vs .nil []) → T1.get 5 = some (.int .i64 n) → pbV tabs d s E p = (.vs .nil [], n) → pureRun (callN lawProg (k + 1)) (.func 11 [] []) [.agg (latC lk tabs s), parV p] = some (.tuple [(pbV tabs d s E p).1, .int .i64 (pbV tabs d s E p).2], true) := fun h1 h2 h3 h4 => by
    rw [h4]
    exact (pureRun_of fn11 rfl (by simp [Tryz.f11]) h1 (by simp) (res_two h2 h3) rfl)
  by_cases hE : E = 0
  · subst hE
    have hisp := fun (σ : AMem) => isParcel_call (k := k) (σ := σ) hl hcs (hs rfl) p hp (by omega) (by omega)
    have e00 : ((0 : Int) != 0) = false := rfl
    cases hpb : parB tabs d s p with
    | false =>
      rw [hpb] at hisp
      have hr : pbV tabs d s 0 p = (.vs .nil [], 4) := by unfold pbV; rw [if_pos rfl, hpb]; rfl
      have run : ∃ T1 σ1, execC lawProg (callN lawProg k) k 11 82 (bodyOf Tryz.f11) (initT 0 [.agg (latC lk tabs s), .agg (parC p)] .nil) AMem.empty = some (.ret, T1, σ1) ∧ T1.get 4 = some (.vs .nil []) ∧ T1.get 5 = some (.int .i64 4) := by
        simp only [latC, shpC, parV, parC] at hc hisp ⊢
        simp only [bodyOf, Tryz.f11, Option.getD_some, initT, dx, reduceIte, zLt, zLe, zEq, zAd, zMu, zSu, zBe, yEq, yLt, yLe, yTn, reduceCtorEq, sx, fx11, hc, e00, hisp]
        exact ⟨_, _, rfl, by simp only [Tr.get_set, zEq, reduceIte], by simp only [Tr.get_set, zEq, reduceIte]⟩
      obtain ⟨T1, σ1, h1, h2, h3⟩ := run
      exact done h1 h2 h3 hr
    | true =>
      by_cases hlen : (encE d p.e).length ≤ 20000
      · obtain ⟨T1, σ1, q, h1, h2, h3, h4⟩ := pBytes_ok (k := k) hl htl hcs (hs rfl) p hp hd hpb hlen (by omega) (by omega)
        have hr : pbV tabs d s 0 p = (.vs .some (bytesV (sealB (encP d p))), 0) := by unfold pbV; rw [if_pos rfl, hpb, if_pos rfl, if_pos hlen]
        rw [hr]
        have hsn : snapF true σ1 11 (.slice q 0 (sealB (encP d p)).length none 1) = some (.vs .some (bytesV (sealB (encP d p))), [q]) := snap_bytes (d := 9) (bs := sealB (encP d p)) (more := []) rfl (by rw [List.append_nil]; exact h4)
        exact (pureRun_of fn11 rfl (by simp [Tryz.f11]) h1 (by simp) (res_two h2 h3) (snapT_tuple hsn))
      · have hr : pbV tabs d s 0 p = (.vs .nil [], 5) := by unfold pbV; rw [if_pos rfl, hpb, if_pos rfl, if_neg hlen]
        rw [hpb] at hisp
        obtain ⟨K, hby⟩ := ebytes_call (k := k) hl htl hcs hs p.e hp.1 hd (by omega) (by omega)
        have hel := (parB_iff.1 hpb).2.2.1
        have hoE : openE tabs d s 0 [p.e] = 0 := by
          unfold openE
          rw [if_pos rfl]
          simp [hel]
        have heb : ebV tabs d s 0 K p.e = (.vs .nil [], 5) := by unfold ebV; rw [if_pos hoE, if_neg hlen]
        rw [heb] at hby
        have e50 : ((5 : Int) != 0) = true := rfl
        have run : ∃ T1 σ1, execC lawProg (callN lawProg k) k 11 82 (bodyOf Tryz.f11) (initT 0 [.agg (latC lk tabs s), .agg (parC p)] .nil) AMem.empty = some (.ret, T1, σ1) ∧ T1.get 4 = some (.vs .nil []) ∧ T1.get 5 = some (.int .i64 5) := by
          simp only [latC, shpC, parV, parC, elC] at hc hisp hby ⊢
          simp only [bodyOf, Tryz.f11, Option.getD_some, initT, dx, reduceIte, zLt, zLe, zEq, zAd, zMu, zSu, zBe, yEq, yLt, yLe, yTn, reduceCtorEq, sx, fx11, hc, e00, hisp, hby, e50]
          exact ⟨_, _, rfl, by simp only [Tr.get_set, zEq, reduceIte], by simp only [Tr.get_set, zEq, reduceIte]⟩
        obtain ⟨T1, σ1, h1, h2, h3⟩ := run
        exact done h1 h2 h3 hr
  · have hr : pbV tabs d s E p = (.vs .nil [], E) := by unfold pbV; rw [if_neg hE]
    have e0 : (E != 0) = true := by rw [heq, decide_eq_false hE]; rfl
    have run : ∃ T1 σ1, execC lawProg (callN lawProg k) k 11 82 (bodyOf Tryz.f11) (initT 0 [.agg (latC lk tabs s), .agg (parC p)] .nil) AMem.empty = some (.ret, T1, σ1) ∧ T1.get 4 = some (.vs .nil []) ∧ T1.get 5 = some (.int .i64 E) := by
      simp only [latC, shpC, parC] at hc ⊢
      simp only [bodyOf, Tryz.f11, Option.getD_some, initT, dx, reduceIte, zLt, zLe, zEq, zAd, zMu, zSu, zBe, yEq, yLt, yLe, yTn, reduceCtorEq, sx, fx11, hc, e0]
      exact ⟨_, _, rfl, by simp only [Tr.get_set, zEq, reduceIte], by simp only [Tr.get_set, zEq, reduceIte]⟩
    obtain ⟨T1, σ1, h1, h2, h3⟩ := run
    exact done h1 h2 h3 hr

/-! ### reading: counts, numbers -/
/-- A count, and what is left. -/
def uCnt : Nat → List Nat → Nat × List Nat
  | 0, bs => (0, bs)
  | f + 1, bs => if bs.headD 0 < 128 then (bs.headD 0, bs.drop 1) else (bs.headD 0 % 128 + 128 * (uCnt f (bs.drop 1)).1, (uCnt f (bs.drop 1)).2)
theorem uCnt_lt : ∀ (f : Nat) (bs : List Nat), (uCnt f bs).1 < 128 ^ f := by
  intro f
  induction f with
  | zero => intro bs; simp [uCnt]
  | succ f ih =>
    intro bs
    have hp : 0 < 128 ^ f := Nat.pow_pos (by decide)
    simp only [uCnt]
    split
    · rename_i h
      have : 1 * 128 ≤ 128 ^ f * 128 := Nat.mul_le_mul_right _ hp
      rw [Nat.pow_succ]
      show bs.headD 0 < _
      omega
    · have := ih (bs.drop 1)
      rw [Nat.pow_succ]
      show bs.headD 0 % 128 + 128 * (uCnt f (bs.drop 1)).1 < _
      have h2 : bs.headD 0 % 128 < 128 := Nat.mod_lt _ (by decide)
      omega
theorem uCnt_mem : ∀ (f : Nat) (bs : List Nat) (b : Nat), b ∈ (uCnt f bs).2 → b ∈ bs := by
  intro f
  induction f with
  | zero => intro bs b h; exact h
  | succ f ih =>
    intro bs b h
    simp only [uCnt] at h
    split at h
    · exact List.mem_of_mem_drop h
    · exact List.mem_of_mem_drop (ih _ _ h)
theorem headD_lt {bs : List Nat} (h : ∀ b, b ∈ bs → b < 256) : bs.headD 0 < 256 := by
  cases bs with
  | nil => simp
  | cons b bs => exact h b (by simp)
/-- What reads from a row: it keeps all other rows. -/
def Got (q : Nat) (bs : List Nat) (σ σ' : AMem) : Prop := (∃ K, σ'.get q = some (.row 1 true [.vs K (bytesV bs)])) ∧ (∀ s, s ≠ q → σ'.get s = σ.get s) ∧ σ'.next = σ.next
theorem Got.trans {q : Nat} {a b : List Nat} {σ1 σ2 σ3 : AMem} (h : Got q a σ1 σ2) (h2 : Got q b σ2 σ3) : Got q b σ1 σ3 := ⟨h2.1, fun s hs => (h2.2.1 s hs).trans (h.2.1 s hs), h2.2.2.trans h.2.2⟩
theorem ubyte_call {q : Nat} {K : VK} {bs : List Nat} (hq : σ.get q = some (.row 1 true [.vs K (bytesV bs)])) (hk : 1 ≤ k) : ∃ σ', callN lawProg k (.func 167 [] []) [.ptr q 0] σ = some (.int .u8 (bs.headD 0 : Nat), σ') ∧ Got q (bs.drop 1) σ σ' := by
  obtain ⟨k, rfl⟩ : ∃ m, k = m + 1 := ⟨k - 1, by omega⟩
  by_cases h00 : bs.length = 0
  · have hb0 : bs = [] := List.eq_nil_of_length_eq_zero h00
    subst hb0
    have run : ∃ T1, execC lawProg (callN lawProg k) k 167 24 (bodyOf Tryz.f167) (initT 0 [.ptr q 0] .nil) σ = some (.ret, T1, σ) ∧ T1.get 2 = some (.int .u8 0) := by
      have hg : ¬ (((bytesV []).length : Nat) : Int) > 0 := by simp [bytesV]
      simp only [bodyOf, Tryz.f167, Option.getD_some, initT, dx, reduceIte, zLt, zLe, zEq, zAd, zMu, zSu, zBe, yEq, yLt, yLe, yTn, reduceCtorEq, sx, fx167, hq, hg]
      exact ⟨_, rfl, by simp only [Tr.get_set, zEq, reduceIte]⟩
    obtain ⟨T1, h1, h2⟩ := run
    exact ⟨σ, q_call (first := []) (caps := []) fn167 rfl (by simp [Tryz.f167]) h1 (by simp) (res_one h2), ⟨K, hq⟩, fun _ _ => rfl, rfl⟩
  · have hg : ((bs.length : Nat) : Int) > 0 := by omega
    have h0 : (bytesV bs)[0]? = some (.int .u8 (bs.headD 0 : Nat)) := by
      cases bs with
      | nil => exact absurd rfl h00
      | cons b bs => rfl
    have hall : (bytesV bs).all (fun c => c.cells.length == 1) = true := bytesV_cells _
    have hle : (1 : Int) ≤ ((bs.length : Nat) : Int) := by omega
    have htk : (bytesV bs).take bs.length = bytesV bs := by rw [List.take_of_length_le (by rw [bytesV_length]; exact Nat.le_refl _)]
    have hd := bytesV_drop bs 1
    have p1 : (0 : Int) ≤ 1 := by decide
    have t1 : ((1 : Int)).toNat = 1 := rfl
    have t0 : ((0 : Int)).toNat = 0 := rfl
    have run : ∃ T1 K', execC lawProg (callN lawProg k) k 167 24 (bodyOf Tryz.f167) (initT 0 [.ptr q 0] .nil) σ = some (.ret, T1, σ.put q (.row 1 true [.vs K' (bytesV (bs.drop 1))])) ∧ T1.get 2 = some (.int .u8 (bs.headD 0 : Nat)) := by
      cases K <;>
      (simp only [bodyOf, Tryz.f167, Option.getD_some, initT, dx, reduceIte, zLt, zLe, zEq, zAd, zMu, zSu, zBe, yEq, yLt, yLe, yTn, reduceCtorEq, sx, fx167, hq, bytesV_length, hg, h0, hall, hle, htk, hd, p1, t1, t0, Int.le_refl]
       exact ⟨_, _, rfl, by simp only [Tr.get_set, zEq, reduceIte]⟩)
    obtain ⟨T1, K', h1, h2⟩ := run
    exact ⟨σ.put q (.row 1 true [.vs K' (bytesV (bs.drop 1))]), q_call (first := []) (caps := []) fn167 rfl (by simp [Tryz.f167]) h1 (by simp) (res_one h2), ⟨K', by rw [AMem.get_put, if_pos rfl]⟩, fun s hs => by rw [AMem.get_put, if_neg (Ne.symm hs)], rfl⟩
end Go.Proofs.YtjckhhkhgjbpaaaGreatDoor

/- The unpacker's counts and numbers. -/
set_option maxRecDepth 100000
set_option linter.unusedSimpArgs false
set_option linter.unusedVariables false
namespace Go.Proofs.YtjckhhkhgjbpaaaGreatDoor
open Go Go.Proofs.YtjckhhkhgjbpaaaGreatDoor.Pale
variable {k : Nat} {σ : AMem}

theorem pow_small {i : Nat} (h : i ≤ 6) : 1 ≤ 128 ^ i ∧ 128 ^ i ≤ 4398046511104 := by
  refine ⟨Nat.pow_pos (by decide), ?_⟩
  have h6 : (128 : Nat) ^ 6 = 4398046511104 := by rfl
  rw [← h6]
  exact Nat.pow_le_pow_right (by decide) h
/-- A count is read; so many bytes at most (the program's two readers differ only there). -/
theorem ucount_call {q : Nat} {K : VK} {bs : List Nat} (hq : σ.get q = some (.row 1 true [.vs K (bytesV bs)])) (hb : ∀ b, b ∈ bs → b < 256) (hk : 20 ≤ k) : ∃ σ', callN lawProg k (.func 169 [] []) [.ptr q 0] σ = some (.int .i64 ((uCnt 6 bs).1 : Nat), σ') ∧ Got q (uCnt 6 bs).2 σ σ' := by
  obtain ⟨k, rfl⟩ : ∃ m, k = m + 1 := ⟨k - 1, by omega⟩
  have run : ∃ T1 σ1, execC lawProg (callN lawProg k) k 169 24 (bodyOf Tryz.f169) (initT 0 [.ptr q 0] .nil) σ = some (.ret, T1, σ1) ∧ T1.get 2 = some (.int .i64 ((uCnt 6 bs).1 : Nat)) ∧ Got q (uCnt 6 bs).2 σ σ1 := by
    simp only [bodyOf, Tryz.f169, Option.getD_some, initT, dx, reduceIte, zLt, zLe, zEq, zAd, zMu, zSu, zBe, yEq, yLt, yLe, yTn, reduceCtorEq, sx, fx169]
    generalize hL : execC _ _ _ _ _ (Code.loop _) _ _ = x
    obtain ⟨e, T', σ', rfl, _, rfl, t2, hg⟩ : ∃ e T' σ', x = some (e, T', σ') ∧ e ≠ .normal ∧ (e = .exit 0 ∧ T'.get 2 = some (.int .i64 ((uCnt 6 bs).1 : Nat)) ∧ Got q (uCnt 6 bs).2 σ σ') := by
      rw [← hL]
      refine exec_loop2 (fun i T σ' => i ≤ 6 ∧ ∃ (n : Nat) (r : List Nat), T.get 0 = some (.ptr q 0) ∧ T.get 2 = some (.int .i64 (n : Nat)) ∧ T.get 3 = some (.int .i64 i) ∧ T.get 4 = some (.int .i64 ((128 ^ i : Nat) : Int)) ∧ n < 128 ^ i ∧ (uCnt 6 bs).1 = n + 128 ^ i * (uCnt (6 - i) r).1 ∧ (uCnt 6 bs).2 = (uCnt (6 - i) r).2 ∧ (∀ b, b ∈ r → b < 256) ∧ Got q r σ σ') 6 (by omega) ?_ ?_ ?_
      · rintro i hi T σ' ⟨_, n, r, t0, t2, t3, t4, hn, h1, h2, hr, hg⟩
        obtain ⟨K', hgq⟩ := hg.1
        obtain ⟨σ2, c1, c2⟩ := ubyte_call (k := k) hgq (by omega)
        have hc := headD_lt hr
        obtain ⟨p1, p2⟩ := pow_small (i := i + 1) (by omega)
        rw [Nat.pow_succ] at p2
        obtain ⟨p3, _⟩ := pow_small (i := i) (by omega)
        rw [show 6 - i = (6 - (i + 1)) + 1 by omega] at h1 h2
        generalize hB : 128 ^ i = B at *
        generalize hcc : r.headD 0 = c at *
        have hlt : (i : Int) < 6 := by omega
        have w0 : IntKind.i64.wrap ((c : Nat) : Int) = ((c : Nat) : Int) := i64_id (by omega) (by omega)
        have e1 : ((c : Nat) : Int).tmod 128 = ((c % 128 : Nat) : Int) := rfl
        have hmB : c % 128 * B ≤ 127 * B := Nat.mul_le_mul_right _ (by omega)
        have w1 : IntKind.i64.wrap (((c % 128 : Nat) : Int) * ((B : Nat) : Int)) = ((c % 128 * B : Nat) : Int) := by rw [← Int.natCast_mul]; exact i64_id (by omega) (by omega)
        have w2 : IntKind.i64.wrap (((n : Nat) : Int) + ((c % 128 * B : Nat) : Int)) = ((n + c % 128 * B : Nat) : Int) := by rw [← Int.natCast_add]; exact i64_id (by omega) (by omega)
        have w3 : IntKind.i64.wrap (((B : Nat) : Int) * 128) = ((B * 128 : Nat) : Int) := by rw [show ((B : Nat) : Int) * 128 = ((B * 128 : Nat) : Int) by omega]; exact i64_id (by omega) (by omega)
        have hw := i64_succ (i := i) (by omega)
        have hst : uCnt (6 - (i + 1) + 1) r = if r.headD 0 < 128 then (r.headD 0, r.drop 1) else (r.headD 0 % 128 + 128 * (uCnt (6 - (i + 1)) (r.drop 1)).1, (uCnt (6 - (i + 1)) (r.drop 1)).2) := rfl
        rw [hst, hcc] at h1 h2
        by_cases h128 : c < 128
        · right
          rw [if_pos h128] at h1 h2
          have hlt2 : ((c : Nat) : Int) < 128 := by omega
          refine ⟨_, _, _, by
            simp only [dx, reduceIte, zLt, zLe, zEq, zAd, zMu, zSu, zBe, yEq, yLt, yLe, yTn, reduceCtorEq, sx, fx169, t0, t2, t3, t4, hlt, c1, w0, e1, w1, w2, hlt2]
            rfl, by simp, rfl, ?_, ?_⟩
          · simp only [Tr.get_set, zEq, reduceIte]
            rw [h1, Nat.mod_eq_of_lt h128, Nat.mul_comm]
          · rw [h2]; exact hg.trans c2
        · left
          rw [if_neg h128] at h1 h2
          have hlt2 : ¬ ((c : Nat) : Int) < 128 := by omega
          refine ⟨_, _, by
            simp only [dx, reduceIte, zLt, zLe, zEq, zAd, zMu, zSu, zBe, yEq, yLt, yLe, yTn, reduceCtorEq, sx, fx169, t0, t2, t3, t4, hlt, c1, w0, e1, w1, w2, w3, hlt2, hw]
            rfl, by omega, n + c % 128 * B, r.drop 1, ?_, ?_, ?_, ?_, ?_, ?_, h2, fun b hb => hr b (List.mem_of_mem_drop hb), hg.trans c2⟩
          · simp only [Tr.get_set, zEq, reduceIte, t0]
          · simp only [Tr.get_set, zEq, reduceIte]
          · simp only [Tr.get_set, zEq, reduceIte]
          · simp only [Tr.get_set, zEq, reduceIte]; rw [Nat.pow_succ, hB]
          · rw [Nat.pow_succ, hB]; omega
          · rw [h1, Nat.pow_succ, hB, Nat.mul_add, Nat.add_assoc, Nat.mul_comm B (c % 128), Nat.mul_assoc]
      · rintro T σ' ⟨_, n, r, t0, t2, t3, t4, hn, h1, h2, hr, hg⟩
        have hlt : ¬ ((6 : Nat) : Int) < 6 := by decide
        refine ⟨_, _, _, by
          simp only [dx, reduceIte, zLt, zLe, zEq, zAd, zMu, zSu, zBe, yEq, yLt, yLe, yTn, reduceCtorEq, sx, fx169, t3, hlt]
          rfl, by simp, rfl, ?_, ?_⟩
        · simp only [Tr.get_set, zEq, reduceIte, t2]
          rw [h1]
          have h0 : (uCnt (6 - 6) r).1 = 0 := rfl
          rw [h0, Nat.mul_zero, Nat.add_zero]
        · rw [h2]; exact hg
      · refine ⟨Nat.zero_le _, 0, bs, ?_, ?_, ?_, ?_, by decide, by simp, rfl, hb, ⟨K, hq⟩, fun _ _ => rfl, rfl⟩
        · simp only [Tr.get_set, zEq, reduceIte]
        · simp only [Tr.get_set, zEq, reduceIte]; rfl
        · simp only [Tr.get_set, zEq, reduceIte]; rfl
        · simp only [Tr.get_set, zEq, reduceIte]; rfl
    simp only [dx, reduceIte, zLt, zLe, zEq, zAd, zMu, zSu, zBe, yEq, yLt, yLe, yTn, reduceCtorEq, sx, fx169, t2]
    exact ⟨_, _, rfl, by simp only [Tr.get_set, zEq, reduceIte], hg⟩
  obtain ⟨T1, σ1, h1, h2, h3⟩ := run
  exact ⟨σ1, q_call (first := []) (caps := []) fn169 rfl (by simp [Tryz.f169]) h1 (by simp) (res_one h2), h3⟩
/-- A number, and what is left. -/
def uNum (bs : List Nat) : Int × List Nat := (if (uCnt 6 bs).1 % 2 = 1 then -((((uCnt 6 bs).1 + 1) / 2 : Nat) : Int) else (((uCnt 6 bs).1 / 2 : Nat) : Int), (uCnt 6 bs).2)
theorem unumber_call {q : Nat} {K : VK} {bs : List Nat} (hq : σ.get q = some (.row 1 true [.vs K (bytesV bs)])) (hb : ∀ b, b ∈ bs → b < 256) (hk : 21 ≤ k) : ∃ σ', callN lawProg k (.func 168 [] []) [.ptr q 0] σ = some (.int .i64 (uNum bs).1, σ') ∧ Got q (uNum bs).2 σ σ' := by
  obtain ⟨k, rfl⟩ : ∃ m, k = m + 1 := ⟨k - 1, by omega⟩
  obtain ⟨σ', c1, c2⟩ := ucount_call (k := k) hq hb (by omega)
  refine ⟨σ', ?_, c2⟩
  have hlt := uCnt_lt 6 bs
  have h6 : (128 : Nat) ^ 6 = 4398046511104 := by rfl
  rw [h6] at hlt
  have run : ∃ T1, execC lawProg (callN lawProg k) k 168 15 (bodyOf Tryz.f168) (initT 0 [.ptr q 0] .nil) σ = some (.ret, T1, σ') ∧ T1.get 2 = some (.int .i64 (uNum bs).1) := by
    unfold uNum
    generalize (uCnt 6 bs).1 = n at *
    have e1 : ((n : Nat) : Int).tmod 2 = ((n % 2 : Nat) : Int) := rfl
    have e2 : ((n : Nat) : Int).tdiv 2 = ((n / 2 : Nat) : Int) := rfl
    by_cases h : n % 2 = 1
    · have b1 : (((n % 2 : Nat) : Int) == 1) = true := by rw [h]; rfl
      have w1 : IntKind.i64.wrap (((n : Nat) : Int) + 1) = ((n + 1 : Nat) : Int) := by rw [i64_id (by omega) (by omega)]; omega
      have w2 : IntKind.i64.wrap (0 - ((n + 1 : Nat) : Int)) = -((n + 1 : Nat) : Int) := by rw [i64_id (by omega) (by omega)]; omega
      have e3 : (-((n + 1 : Nat) : Int)).tdiv 2 = -(((n + 1) / 2 : Nat) : Int) := by rw [Int.neg_tdiv]; rfl
      have w3 : IntKind.i64.wrap (-(((n + 1) / 2 : Nat) : Int)) = -(((n + 1) / 2 : Nat) : Int) := i64_id (by omega) (by omega)
      rw [if_pos h]
      simp only [bodyOf, Tryz.f168, Option.getD_some, initT, dx, reduceIte, zLt, zLe, zEq, zAd, zMu, zSu, zBe, yEq, yLt, yLe, yTn, reduceCtorEq, sx, fx168, c1, e1, b1, w1, w2, e3, w3]
      exact ⟨_, rfl, by simp only [Tr.get_set, zEq, reduceIte]⟩
    · have b1 : (((n % 2 : Nat) : Int) == 1) = false := by
        have : n % 2 = 0 := by omega
        rw [this]; rfl
      have w1 : IntKind.i64.wrap ((n / 2 : Nat) : Int) = ((n / 2 : Nat) : Int) := i64_id (by omega) (by omega)
      rw [if_neg h]
      simp only [bodyOf, Tryz.f168, Option.getD_some, initT, dx, reduceIte, zLt, zLe, zEq, zAd, zMu, zSu, zBe, yEq, yLt, yLe, yTn, reduceCtorEq, sx, fx168, c1, e1, b1, e2, w1]
      exact ⟨_, rfl, by simp only [Tr.get_set, zEq, reduceIte]⟩
  obtain ⟨T1, h1, h2⟩ := run
  exact q_call (first := []) (caps := []) fn168 rfl (by simp [Tryz.f168]) h1 (by simp) (res_one h2)
end Go.Proofs.YtjckhhkhgjbpaaaGreatDoor

/- The unpacker's elements: what is read. -/
set_option maxRecDepth 100000
set_option linter.unusedSimpArgs false
set_option linter.unusedVariables false
namespace Go.Proofs.YtjckhhkhgjbpaaaGreatDoor
open Go Go.Proofs.YtjckhhkhgjbpaaaGreatDoor.Pale
variable {k : Nat} {σ : AMem}

/-- So many things, one after the other. -/
def uList {α : Type} (g : List Nat → α × List Nat) : Nat → List Nat → List α × List Nat
  | 0, bs => ([], bs)
  | n + 1, bs => ((g bs).1 :: (uList g n (g bs).2).1, (uList g n (g bs).2).2)
theorem uList_snoc {α : Type} (g : List Nat → α × List Nat) : ∀ (n : Nat) (bs : List Nat), uList g (n + 1) bs = ((uList g n bs).1 ++ [(g (uList g n bs).2).1], (g (uList g n bs).2).2) := by
  intro n
  induction n with
  | zero => intro bs; rfl
  | succ n ih =>
    intro bs
    have h := ih (g bs).2
    show ((g bs).1 :: (uList g (n + 1) (g bs).2).1, (uList g (n + 1) (g bs).2).2) = _
    rw [h]
    rfl
theorem uList_len {α : Type} (g : List Nat → α × List Nat) : ∀ (n : Nat) (bs : List Nat), (uList g n bs).1.length = n := by
  intro n
  induction n with
  | zero => intro bs; rfl
  | succ n ih => intro bs; show ((uList g n (g bs).2).1).length + 1 = _; rw [ih]
theorem uList_mem {α : Type} {g : List Nat → α × List Nat} (hg : ∀ bs b, b ∈ (g bs).2 → b ∈ bs) : ∀ (n : Nat) (bs : List Nat) (b : Nat), b ∈ (uList g n bs).2 → b ∈ bs := by
  intro n
  induction n with
  | zero => intro bs b h; exact h
  | succ n ih => intro bs b h; exact hg _ _ (ih _ _ h)
def uPair (g : List Nat → El × List Nat) (bs : List Nat) : (Int × El) × List Nat := (((uNum bs).1, (g (uNum bs).2).1), (g (uNum bs).2).2)
/-- An element, and what is left; so deep at most. -/
def uEl : Nat → List Nat → El × List Nat
  | 0, bs => (.mk (bs.headD 0 : Nat) 0 .nil [] .nil [], bs.drop 1)
  | f + 1, bs =>
    if bs.headD 0 = 2 then (.mk 2 (uNum (bs.drop 1)).1 .nil [] .nil [], (uNum (bs.drop 1)).2)
    else if bs.headD 0 = 4 then (.mk 4 ((uCnt 6 (bs.drop 1)).1 : Nat) .nil [] .nil [], (uCnt 6 (bs.drop 1)).2)
    else if bs.headD 0 = 5 then (.mk 5 0 (lkOf (min (uCnt 6 (bs.drop 1)).1 41)) (uList uNum (min (uCnt 6 (bs.drop 1)).1 41) (uCnt 6 (bs.drop 1)).2).1 .nil [], (uList uNum (min (uCnt 6 (bs.drop 1)).1 41) (uCnt 6 (bs.drop 1)).2).2)
    else if bs.headD 0 = 6 then (.mk 6 0 (lkOf (min (uCnt 6 (bs.drop 1)).1 41)) ((uList (uPair (uEl f)) (min (uCnt 6 (bs.drop 1)).1 41) (uCnt 6 (bs.drop 1)).2).1.map (·.1)) (lkOf (min (uCnt 6 (bs.drop 1)).1 41)) ((uList (uPair (uEl f)) (min (uCnt 6 (bs.drop 1)).1 41) (uCnt 6 (bs.drop 1)).2).1.map (·.2)), (uList (uPair (uEl f)) (min (uCnt 6 (bs.drop 1)).1 41) (uCnt 6 (bs.drop 1)).2).2)
    else if bs.headD 0 = 7 then (.mk 7 0 .nil [] .some [(uEl f (bs.drop 1)).1, (uEl f (uEl f (bs.drop 1)).2).1], (uEl f (uEl f (bs.drop 1)).2).2)
    else (.mk (bs.headD 0 : Nat) 0 .nil [] .nil [], bs.drop 1)
theorem uNum_mem (bs : List Nat) (b : Nat) (h : b ∈ (uNum bs).2) : b ∈ bs := uCnt_mem _ _ _ h
theorem uEl_mem : ∀ (f : Nat) (bs : List Nat) (b : Nat), b ∈ (uEl f bs).2 → b ∈ bs := by
  intro f
  induction f with
  | zero => intro bs b h; exact List.mem_of_mem_drop h
  | succ f ih =>
    intro bs b h
    have hd : ∀ {b}, b ∈ bs.drop 1 → b ∈ bs := fun h => List.mem_of_mem_drop h
    simp only [uEl] at h
    split at h
    · exact hd (uNum_mem _ _ h)
    split at h
    · exact hd (uCnt_mem _ _ _ h)
    split at h
    · exact hd (uCnt_mem _ _ _ (uList_mem uNum_mem _ _ _ h))
    split at h
    · exact hd (uCnt_mem _ _ _ (uList_mem (g := uPair (uEl f)) (fun bs b h => uNum_mem _ _ (ih _ _ h)) _ _ _ h))
    split at h
    · exact hd (ih _ _ (ih _ _ h))
    · exact hd h
theorem uEl_fit : ∀ (f : Nat) (bs : List Nat), Fit 41 (f + 1) (uEl f bs).1 := by
  intro f
  induction f with
  | zero => intro bs; exact ⟨by simp [uEl, El.keys], by simp [uEl, El.kids], by simp [uEl, El.kids]⟩
  | succ f ih =>
    intro bs
    have hm : min (uCnt 6 (bs.drop 1)).1 41 ≤ 41 := Nat.min_le_right _ _
    have hp : ∀ (c n : Int), Fit 41 (f + 1 + 1) (.mk c n .nil [] .nil []) := fun c n => ⟨by simp [El.keys], by simp [El.kids], by simp [El.kids]⟩
    simp only [uEl]
    split
    · exact hp _ _
    split
    · exact hp _ _
    split
    · exact ⟨by simp only [El.keys, uList_len]; exact hm, by simp [El.kids], by simp [El.kids]⟩
    split
    · refine ⟨by simp only [El.keys, List.length_map, uList_len]; exact hm, by simp only [El.kids, List.length_map, uList_len]; exact hm, fun x hx => ?_⟩
      simp only [El.kids, List.mem_map] at hx
      obtain ⟨⟨z, y⟩, hy, rfl⟩ := hx
      have key : ∀ (n : Nat) (cs : List Nat) (p : Int × El), p ∈ (uList (uPair (uEl f)) n cs).1 → Fit 41 (f + 1) p.2 := by
        intro n
        induction n with
        | zero => intro cs p hp; simp [uList] at hp
        | succ n ihn =>
          intro cs p hp
          rcases List.mem_cons.1 hp with rfl | hp
          · exact ih _
          · exact ihn _ _ hp
      exact key _ _ _ hy
    split
    · refine ⟨by simp [El.keys], by simp [El.kids], fun x hx => ?_⟩
      simp only [El.kids, List.mem_cons, List.not_mem_nil, or_false] at hx
      rcases hx with rfl | rfl
      · exact ih _
      · exact ih _
    · exact hp _ _
/-- What a list of records that grew reads as, with its rows. -/
theorem recs_reads {d low j : Nat} {sz : Nat} {σ : AMem} {out : AVal} {bad : List Nat} {ls ps : List (List AVal)} (hg : Grew low σ sz true out j ls.flatten) (hr : ReadsL (d + 1) low σ bad ls.flatten ps.flatten) (h0 : j = 0 → out = .vs .nil []) (hj : j = ls.length) (hsz : 0 < sz) (hps : ps.length = ls.length) (hl : ∀ l, l ∈ ls → l.length = sz) (hp : ∀ l, l ∈ ps → l.length = sz) : ReadsL (d + 2) low σ [] [out] [.vs (lkOf j) (ps.map AVal.agg)] := by
  by_cases hz : j = 0
  · rw [h0 hz]
    have : ps = [] := List.eq_nil_of_length_eq_zero (by omega)
    subst this
    subst hz
    exact ⟨[], rfl, by simp⟩
  · rcases hg.2 with ⟨hj0, rfl⟩ | ⟨r, h1, h2, rfl, h3⟩
    · exact absurd hj0 hz
    · obtain ⟨S, hs1, hs2⟩ := hr
      refine ⟨(r :: S) ++ [], ?_, fun s hs => ?_⟩
      · have := snap_structs (fr := false) (d := d) (cap := none) (ls := ls) (ps := ps) (S := S) hsz hj hps hl hp h3 hs1
        simp only [snapL, this, show lkOf j = .some by simp [lkOf, hz]]
      · rw [List.append_nil] at hs
        rcases List.mem_cons.1 hs with rfl | hs
        · exact ⟨h1, h2, by simp⟩
        · exact ⟨(hs2 s hs).1, (hs2 s hs).2.1, by simp⟩
theorem ints_reads {d low j : Nat} {σ : AMem} {out : AVal} {l : List Int} (hg : Grew low σ 1 false out j (intsV l)) (h0 : j = 0 → out = .vs .nil []) : ReadsL (d + 2) low σ [] [out] [.vs (lkOf j) (intsV l)] := by
  have hl : l.length = j := by have := hg.1; rw [intsV_length] at this; omega
  have hp : (intsV l).all pureB = true := by
    rw [List.all_eq_true]
    intro v hv
    obtain ⟨z, _, rfl⟩ := List.mem_map.1 hv
    rfl
  rcases hg.2 with ⟨hj0, rfl⟩ | ⟨r, h1, h2, rfl, h3⟩
  · have : l = [] := List.eq_nil_of_length_eq_zero (by omega)
    subst this
    subst hj0
    exact ⟨[], rfl, by simp⟩
  · by_cases hz : j = 0
    · cases h0 hz
    · refine ⟨[r] ++ [], ?_, fun s hs => ?_⟩
      · have := snap_ones (σ := σ) (d := d) (r := r) (n := j) (cs := intsV l) (more := []) (cap := none) (by rw [intsV_length]; exact hl.symm) hp (by rw [List.append_nil]; exact h3)
        simp only [snapL, this, show lkOf j = .some by simp [lkOf, hz]]
      · simp only [List.append_nil, List.mem_singleton] at hs
        subst hs
        exact ⟨h1, h2, by simp⟩
theorem snapF_up' {fr : Bool} {σ : AMem} : ∀ (d : Nat) (v u : AVal) (S : List Nat), snapF fr σ d v = some (u, S) → snapF fr σ (d + 1) v = some (u, S) := by
  intro d
  induction d with
  | zero => intro v u S h; simp [snapF] at h
  | succ d ih =>
    intro v u S h
    cases v
    case agg cs =>
      rw [snapF] at h ⊢
      obtain ⟨⟨l, a⟩, h1, h2⟩ := map_some h
      cases h2
      rw [snapL_weaken ih _ _ _ h1]; rfl
    case tuple cs =>
      rw [snapF] at h ⊢
      obtain ⟨⟨l, a⟩, h1, h2⟩ := map_some h
      cases h2
      rw [snapL_weaken ih _ _ _ h1]; rfl
    case ptr r off =>
      rw [snapF] at h ⊢
      split at h
      · rename_i sz b cells hget
        split at h
        · rename_i h0
          obtain ⟨⟨l, a⟩, h1, h2⟩ := map_some h
          cases h2
          simp only [if_pos h0]
          rw [snapL_weaken ih _ _ _ h1]; rfl
        · cases h
      · cases h
    case slice r off len cap z =>
      rw [snapF] at h ⊢
      split at h
      · rename_i sz b cells hget
        split at h
        · rename_i hc
          split at h
          · rename_i l a h1
            simp only [if_pos hc]
            rw [snapL_weaken ih _ _ _ h1]
            exact h
          · cases h
        · cases h
      · cases h
    all_goals first | exact h | (simp only [snapF] at h ⊢; exact h)
theorem ReadsL.up {d low : Nat} {σ : AMem} {bad cs ys : _} (h : ReadsL d low σ bad cs ys) : ReadsL (d + 1) low σ bad cs ys := by
  obtain ⟨S, h1, h2⟩ := h
  exact ⟨S, snapL_weaken (fun v u S h => snapF_up' d v u S h) _ _ _ h1, h2⟩
/-- A call of the unpacker's elem: what it gives, and what it keeps. -/
def UElRuns (f k : Nat) : Prop := ∀ {q : Nat} {K : VK} {bs : List Nat} {σ : AMem} (dp : Int), dp = 5 - (f : Int) → σ.get q = some (.row 1 true [.vs K (bytesV bs)]) → q < σ.next → (∀ b, b ∈ bs → b < 256) →
  ∃ x2 x3 σ', callN lawProg k (.func 122 [] []) [.ptr q 0, .int .i64 dp] σ = some (.agg [.int .u8 (uEl f bs).1.kind, .int .i64 (uEl f bs).1.n, x2, x3], σ') ∧ x2.oneCell = true ∧ x3.oneCell = true ∧ ReadsL (f + 4) σ.next σ' [] [x2, x3] [.vs (uEl f bs).1.kk (intsV (uEl f bs).1.keys), .vs (uEl f bs).1.dk ((uEl f bs).1.kids.map elV)] ∧
    (∃ K', σ'.get q = some (.row 1 true [.vs K' (bytesV (uEl f bs).2)])) ∧ σ.next ≤ σ'.next ∧ ∀ s, s < σ.next → s ≠ q → σ'.get s = σ.get s
end Go.Proofs.YtjckhhkhgjbpaaaGreatDoor

/- The unpacker's elements: those without lists. -/
set_option maxRecDepth 100000
set_option linter.unusedSimpArgs false
set_option linter.unusedVariables false
namespace Go.Proofs.YtjckhhkhgjbpaaaGreatDoor
open Go Go.Proofs.YtjckhhkhgjbpaaaGreatDoor.Pale
variable {k : Nat} {σ : AMem}

def zEl : List AVal := [.int .u8 0, .int .i64 0, .vs .nil [], .vs .nil []]
/-- What elem does first: two rows of its own, a byte. -/
theorem uel_start {q : Nat} {K : VK} {bs : List Nat} (hq : σ.get q = some (.row 1 true [.vs K (bytesV bs)])) (hqn : q < σ.next) (hk : 1 ≤ k) :
    ∃ σ1, callN lawProg k (.func 167 [] []) [.ptr q 0] (σ.push (.row 4 true zEl)) = some (.int .u8 (bs.headD 0 : Nat), σ1) ∧ (∃ K', σ1.get q = some (.row 1 true [.vs K' (bytesV (bs.drop 1))])) ∧ σ1.next = σ.next + 1 ∧ σ1.get σ.next = some (.row 4 true zEl) ∧ ∀ s, s < σ.next → s ≠ q → σ1.get s = σ.get s := by
  obtain ⟨σ1, c1, c2, c3, c4⟩ := ubyte_call (k := k) (σ := σ.push (.row 4 true zEl)) (q := q) (K := K) (bs := bs) (by rw [AMem.get_push, if_neg (by omega)]; exact hq) hk
  exact ⟨σ1, c1, c2, by rw [c4]; simp, by rw [c3 _ (by omega), AMem.get_push, if_pos rfl], fun s hs hne => by rw [c3 s hne, AMem.get_push, if_neg (by omega)]⟩
theorem kinds_ne {c : Nat} {v : Int} (h : (c : Int) ≠ v) : (((c : Nat) : Int) == v) = false := by rw [Bool.eq_false_iff]; simpa using h
/-- An element without anything. -/
theorem uel_plain {f : Nat} {q : Nat} {K : VK} {bs : List Nat} {dp : Int} (hdp : dp = 5 - (f : Int)) (hq : σ.get q = some (.row 1 true [.vs K (bytesV bs)])) (hqn : q < σ.next) (hb : ∀ b, b ∈ bs → b < 256) (hc : f = 0 ∨ (bs.headD 0 ≠ 2 ∧ bs.headD 0 ≠ 4 ∧ bs.headD 0 ≠ 5 ∧ bs.headD 0 ≠ 6 ∧ bs.headD 0 ≠ 7)) (hk : 3 ≤ k) :
    ∃ σ', callN lawProg k (.func 122 [] []) [.ptr q 0, .int .i64 dp] σ = some (.agg [.int .u8 (bs.headD 0 : Nat), .int .i64 0, .vs .nil [], .vs .nil []], σ') ∧ (∃ K', σ'.get q = some (.row 1 true [.vs K' (bytesV (bs.drop 1))])) ∧ σ.next ≤ σ'.next ∧ ∀ s, s < σ.next → s ≠ q → σ'.get s = σ.get s := by
  obtain ⟨k, rfl⟩ : ∃ m, k = m + 1 := ⟨k - 1, by omega⟩
  obtain ⟨σ1, c1, ⟨K', c2⟩, c3, c4, c5⟩ := uel_start (k := k) hq hqn (by omega)
  simp only [zEl] at c1 c4
  have hl := headD_lt hb
  generalize bs.headD 0 = c at *
  have run : ∃ T1 σ', execC lawProg (callN lawProg k) k 122 70 (bodyOf Tryz.f122) (initT 0 [.ptr q 0, .int .i64 dp] .nil) σ = some (.ret, T1, σ') ∧ resultsA lawProg T1 σ' Tryz.f122.results.toList = some [.agg [.int .u8 (c : Nat), .int .i64 0, .vs .nil [], .vs .nil []]] ∧ (∃ K', σ'.get q = some (.row 1 true [.vs K' (bytesV (bs.drop 1))])) ∧ σ.next ≤ σ'.next ∧ ∀ s, s < σ.next → s ≠ q → σ'.get s = σ.get s := by
    have x1 : ¬ σ1.next = σ.next := by omega
    have x2 : ¬ σ.next = σ1.next := by omega
    have x3 : ¬ σ.next + 1 = σ.next := by omega
    have fin : ∀ {σ2 : AMem}, σ2 = (((σ1.push (.row 4 true [.int .u8 0, .int .i64 0, .vs .nil [], .vs .nil []])).put (σ.next + 1) (.row 4 true [.int .u8 (c : Nat), .int .i64 0, .vs .nil [], .vs .nil []])).put σ.next (.row 4 true [.int .u8 (c : Nat), .int .i64 0, .vs .nil [], .vs .nil []])) → (∃ K', σ2.get q = some (.row 1 true [.vs K' (bytesV (bs.drop 1))])) ∧ σ.next ≤ σ2.next ∧ ∀ s, s < σ.next → s ≠ q → σ2.get s = σ.get s := fun {σ2} e => by
      subst e
      refine ⟨⟨K', by rw [AMem.get_put, if_neg (by omega), AMem.get_put, if_neg (by omega), AMem.get_push, if_neg (by omega)]; exact c2⟩, by simp; omega, fun s hs hne => by rw [AMem.get_put, if_neg (by omega), AMem.get_put, if_neg (by omega), AMem.get_push, if_neg (by omega)]; exact c5 s hs hne⟩
    by_cases hf : f = 0
    · have hgt : dp > 4 := by omega
      simp only [bodyOf, Tryz.f122, Option.getD_some, initT, dx, reduceIte, zLt, zLe, zEq, zAd, zMu, zSu, zBe, yEq, yLt, yLe, yTn, reduceCtorEq, sx, fx122, c1, hgt, c4, c3, x3]
      refine ⟨_, _, rfl, ?_, fin rfl⟩
      simp only [Tryz.f122, resultsA, resultA, dx, reduceIte, zLt, zLe, zEq, zAd, zMu, zSu, zBe, yEq, yLt, yLe, yTn, reduceCtorEq, sx, fx122]
    · have hgt : ¬ dp > 4 := by omega
      rcases hc with h | ⟨h2, h4, h5, h6, h7⟩
      · exact absurd h hf
      · have b2 := kinds_ne (c := c) (v := 2) (by omega)
        have b4 := kinds_ne (c := c) (v := 4) (by omega)
        have b5 := kinds_ne (c := c) (v := 5) (by omega)
        have b6 := kinds_ne (c := c) (v := 6) (by omega)
        have b7 := kinds_ne (c := c) (v := 7) (by omega)
        simp only [bodyOf, Tryz.f122, Option.getD_some, initT, dx, reduceIte, zLt, zLe, zEq, zAd, zMu, zSu, zBe, yEq, yLt, yLe, yTn, reduceCtorEq, sx, fx122, c1, hgt, c4, c3, x3, b2, b4, b5, b6, b7]
        refine ⟨_, _, rfl, ?_, fin rfl⟩
        simp only [Tryz.f122, resultsA, resultA, dx, reduceIte, zLt, zLe, zEq, zAd, zMu, zSu, zBe, yEq, yLt, yLe, yTn, reduceCtorEq, sx, fx122]
  obtain ⟨T1, σ', h1, h2, h3⟩ := run
  exact ⟨σ', q_call (first := []) (caps := []) fn122 rfl (by simp [Tryz.f122]) h1 (by simp) h2, h3⟩
/-- An element with a number (kind 2). -/
theorem uel_num {f : Nat} {q : Nat} {K : VK} {bs : List Nat} {dp : Int} (hdp : dp = 5 - (f : Int)) (hf : f ≠ 0) (hq : σ.get q = some (.row 1 true [.vs K (bytesV bs)])) (hqn : q < σ.next) (hb : ∀ b, b ∈ bs → b < 256) (hc : bs.headD 0 = 2) (hk : 30 ≤ k) :
    ∃ σ', callN lawProg k (.func 122 [] []) [.ptr q 0, .int .i64 dp] σ = some (.agg [.int .u8 2, .int .i64 (uNum (bs.drop 1)).1, .vs .nil [], .vs .nil []], σ') ∧ (∃ K', σ'.get q = some (.row 1 true [.vs K' (bytesV (uNum (bs.drop 1)).2)])) ∧ σ.next ≤ σ'.next ∧ ∀ s, s < σ.next → s ≠ q → σ'.get s = σ.get s := by
  obtain ⟨k, rfl⟩ : ∃ m, k = m + 1 := ⟨k - 1, by omega⟩
  obtain ⟨σ1, c1, ⟨K', c2⟩, c3, c4, c5⟩ := uel_start (k := k) hq hqn (by omega)
  simp only [zEl] at c1 c4
  rw [hc] at c1
  have hkc : ((2 : Nat) : Int) = 2 := rfl
  rw [hkc] at c1
  let σ2 : AMem := (σ1.push (.row 4 true [.int .u8 0, .int .i64 0, .vs .nil [], .vs .nil []])).put (σ.next + 1) (.row 4 true [.int .u8 2, .int .i64 0, .vs .nil [], .vs .nil []])
  have y1 : σ2.get (σ.next + 1) = some (.row 4 true [.int .u8 2, .int .i64 0, .vs .nil [], .vs .nil []]) := by rw [AMem.get_put, if_pos rfl]
  have y2 : ∀ s, s < σ.next + 1 → σ2.get s = σ1.get s := fun s hs => by rw [AMem.get_put, if_neg (by omega), AMem.get_push, if_neg (by omega)]
  have y3 : σ2.next = σ.next + 2 := by simp [σ2, c3]
  obtain ⟨σ3, d1, d2, d3, d4⟩ := unumber_call (k := k) (σ := σ2) (q := q) (K := K') (bs := bs.drop 1) ((y2 q (by omega)).trans c2) (fun b hb' => hb b (List.mem_of_mem_drop hb')) (by omega)
  obtain ⟨K3, d2⟩ := d2
  have z1 : σ3.get (σ.next + 1) = some (.row 4 true [.int .u8 2, .int .i64 0, .vs .nil [], .vs .nil []]) := (d3 _ (by omega)).trans y1
  have z0 : σ3.get σ.next = some (.row 4 true [.int .u8 0, .int .i64 0, .vs .nil [], .vs .nil []]) := (d3 _ (by omega)).trans ((y2 _ (by omega)).trans c4)
  have hgt : ¬ dp > 4 := by omega
  have b2 : ((2 : Int) == 2) = true := rfl
  have x3 : ¬ σ.next + 1 = σ.next := by omega
  have x4 : ¬ σ.next = σ.next + 1 := by omega
  simp only [σ2] at d1
  have run : ∃ T1, execC lawProg (callN lawProg k) k 122 70 (bodyOf Tryz.f122) (initT 0 [.ptr q 0, .int .i64 dp] .nil) σ = some (.ret, T1, (σ3.put (σ.next + 1) (.row 4 true [.int .u8 2, .int .i64 (uNum (bs.drop 1)).1, .vs .nil [], .vs .nil []])).put σ.next (.row 4 true [.int .u8 2, .int .i64 (uNum (bs.drop 1)).1, .vs .nil [], .vs .nil []])) ∧ T1.get 4 = some (.ptr σ.next 0) := by
    simp only [bodyOf, Tryz.f122, Option.getD_some, initT, dx, reduceIte, zLt, zLe, zEq, zAd, zMu, zSu, zBe, yEq, yLt, yLe, yTn, reduceCtorEq, sx, fx122, c1, hgt, c4, c3, x3, x4, b2, d1, z1, z0]
    exact ⟨_, rfl, by simp only [Tr.get_set, zEq, reduceIte]⟩
  obtain ⟨T1, h1, h2⟩ := run
  refine ⟨_, q_call (first := []) (caps := []) (vs := [.agg [.int .u8 2, .int .i64 (uNum (bs.drop 1)).1, .vs .nil [], .vs .nil []]]) fn122 rfl (by simp [Tryz.f122]) h1 (by simp) (by simp only [Tryz.f122, resultsA, resultA, dx, reduceIte, zLt, zLe, zEq, zAd, zMu, zSu, zBe, yEq, yLt, yLe, yTn, reduceCtorEq, sx, fx122, h2]), ⟨K3, by rw [AMem.get_put, if_neg (by omega), AMem.get_put, if_neg (by omega)]; exact d2⟩, by simp only [AMem.next_put]; omega, fun s hs hne => by rw [AMem.get_put, if_neg (by omega), AMem.get_put, if_neg (by omega), d3 s hne, y2 s (by omega)]; exact c5 s hs hne⟩
/-- An element with a number (kind 4). -/
theorem uel_name {f : Nat} {q : Nat} {K : VK} {bs : List Nat} {dp : Int} (hdp : dp = 5 - (f : Int)) (hf : f ≠ 0) (hq : σ.get q = some (.row 1 true [.vs K (bytesV bs)])) (hqn : q < σ.next) (hb : ∀ b, b ∈ bs → b < 256) (hc : bs.headD 0 = 4) (hk : 30 ≤ k) :
    ∃ σ', callN lawProg k (.func 122 [] []) [.ptr q 0, .int .i64 dp] σ = some (.agg [.int .u8 4, .int .i64 ((uCnt 6 (bs.drop 1)).1 : Nat), .vs .nil [], .vs .nil []], σ') ∧ (∃ K', σ'.get q = some (.row 1 true [.vs K' (bytesV (uCnt 6 (bs.drop 1)).2)])) ∧ σ.next ≤ σ'.next ∧ ∀ s, s < σ.next → s ≠ q → σ'.get s = σ.get s := by
  obtain ⟨k, rfl⟩ : ∃ m, k = m + 1 := ⟨k - 1, by omega⟩
  obtain ⟨σ1, c1, ⟨K', c2⟩, c3, c4, c5⟩ := uel_start (k := k) hq hqn (by omega)
  simp only [zEl] at c1 c4
  rw [hc] at c1
  have hkc : ((4 : Nat) : Int) = 4 := rfl
  rw [hkc] at c1
  let σ2 : AMem := (σ1.push (.row 4 true [.int .u8 0, .int .i64 0, .vs .nil [], .vs .nil []])).put (σ.next + 1) (.row 4 true [.int .u8 4, .int .i64 0, .vs .nil [], .vs .nil []])
  have y1 : σ2.get (σ.next + 1) = some (.row 4 true [.int .u8 4, .int .i64 0, .vs .nil [], .vs .nil []]) := by rw [AMem.get_put, if_pos rfl]
  have y2 : ∀ s, s < σ.next + 1 → σ2.get s = σ1.get s := fun s hs => by rw [AMem.get_put, if_neg (by omega), AMem.get_push, if_neg (by omega)]
  have y3 : σ2.next = σ.next + 2 := by simp [σ2, c3]
  obtain ⟨σ3, d1, d2, d3, d4⟩ := ucount_call (k := k) (σ := σ2) (q := q) (K := K') (bs := bs.drop 1) ((y2 q (by omega)).trans c2) (fun b hb' => hb b (List.mem_of_mem_drop hb')) (by omega)
  obtain ⟨K3, d2⟩ := d2
  have z1 : σ3.get (σ.next + 1) = some (.row 4 true [.int .u8 4, .int .i64 0, .vs .nil [], .vs .nil []]) := (d3 _ (by omega)).trans y1
  have z0 : σ3.get σ.next = some (.row 4 true [.int .u8 0, .int .i64 0, .vs .nil [], .vs .nil []]) := (d3 _ (by omega)).trans ((y2 _ (by omega)).trans c4)
  have hgt : ¬ dp > 4 := by omega
  have b2 : ((4 : Int) == 2) = false := rfl
  have b4 : ((4 : Int) == 4) = true := rfl
  have x3 : ¬ σ.next + 1 = σ.next := by omega
  have x4 : ¬ σ.next = σ.next + 1 := by omega
  simp only [σ2] at d1
  have run : ∃ T1, execC lawProg (callN lawProg k) k 122 70 (bodyOf Tryz.f122) (initT 0 [.ptr q 0, .int .i64 dp] .nil) σ = some (.ret, T1, (σ3.put (σ.next + 1) (.row 4 true [.int .u8 4, .int .i64 ((uCnt 6 (bs.drop 1)).1 : Nat), .vs .nil [], .vs .nil []])).put σ.next (.row 4 true [.int .u8 4, .int .i64 ((uCnt 6 (bs.drop 1)).1 : Nat), .vs .nil [], .vs .nil []])) ∧ T1.get 4 = some (.ptr σ.next 0) := by
    simp only [bodyOf, Tryz.f122, Option.getD_some, initT, dx, reduceIte, zLt, zLe, zEq, zAd, zMu, zSu, zBe, yEq, yLt, yLe, yTn, reduceCtorEq, sx, fx122, c1, hgt, c4, c3, x3, x4, b2, b4, d1, z1, z0]
    exact ⟨_, rfl, by simp only [Tr.get_set, zEq, reduceIte]⟩
  obtain ⟨T1, h1, h2⟩ := run
  refine ⟨_, q_call (first := []) (caps := []) (vs := [.agg [.int .u8 4, .int .i64 ((uCnt 6 (bs.drop 1)).1 : Nat), .vs .nil [], .vs .nil []]]) fn122 rfl (by simp [Tryz.f122]) h1 (by simp) (by simp only [Tryz.f122, resultsA, resultA, dx, reduceIte, zLt, zLe, zEq, zAd, zMu, zSu, zBe, yEq, yLt, yLe, yTn, reduceCtorEq, sx, fx122, h2]), ⟨K3, by rw [AMem.get_put, if_neg (by omega), AMem.get_put, if_neg (by omega)]; exact d2⟩, by simp only [AMem.next_put]; omega, fun s hs hne => by rw [AMem.get_put, if_neg (by omega), AMem.get_put, if_neg (by omega), d3 s hne, y2 s (by omega)]; exact c5 s hs hne⟩
end Go.Proofs.YtjckhhkhgjbpaaaGreatDoor

/- The unpacker's elements: keys and kids that grow. -/
set_option maxRecDepth 100000
set_option linter.unusedSimpArgs false
set_option linter.unusedVariables false
namespace Go.Proofs.YtjckhhkhgjbpaaaGreatDoor
open Go Go.Proofs.YtjckhhkhgjbpaaaGreatDoor.Pale
variable {k : Nat} {σ : AMem}

def tyInt : TyI := ⟨.int .i64, 1, 8, [.int .i64 0]⟩
def tyEl : TyI := (⟨.struct [(0, 5), (1, 3), (2, 28), (3, 29)], 4, 64, [.int .u8 0, .int .i64 0, .vs .nil [], .vs .nil []]⟩ : TyI)
/-- Keys and kids in memory, apart. -/
def KD (D low : Nat) (σ : AMem) (kx dx : AVal) (keys : List Int) (kids : List El) : Prop :=
  Grew low σ 1 false kx keys.length (intsV keys) ∧ (keys.length = 0 → kx = .vs .nil []) ∧
  (∃ ls : List (List AVal), ls.length = kids.length ∧ (∀ l, l ∈ ls → l.length = 4) ∧ Grew low σ 4 true dx kids.length ls.flatten ∧ ReadsL (D + 1) low σ (rowOf kx ++ rowOf dx) ls.flatten (kids.map elC).flatten) ∧ (kids.length = 0 → dx = .vs .nil []) ∧ ∀ r, r ∈ rowOf kx → r ∉ rowOf dx
theorem KD.start (D low : Nat) (σ : AMem) : KD D low σ (.vs .nil []) (.vs .nil []) [] [] := ⟨⟨rfl, .inl ⟨rfl, rfl⟩⟩, fun _ => rfl, ⟨[], rfl, by simp, ⟨rfl, .inl ⟨rfl, rfl⟩⟩, ReadsL.nil _ _ _ _⟩, fun _ => rfl, by simp [rowOf]⟩
theorem grew_same {low sz j : Nat} {σ σ' : AMem} {g : Bool} {out : AVal} {cells : List AVal} (h : Grew low σ sz g out j cells) (hn : σ.next ≤ σ'.next) (hs : ∀ s, s ∈ rowOf out → σ'.get s = σ.get s) : Grew low σ' sz g out j cells := by
  refine ⟨h.1, ?_⟩
  rcases h.2 with h | ⟨r, h1, h2, h3, h4⟩
  · exact .inl h
  · exact .inr ⟨r, h1, by omega, h3, by rw [hs r (by rw [h3]; simp [rowOf])]; exact h4⟩
theorem KD.rows {D low : Nat} {kx dx : AVal} {keys : List Int} {kids : List El} (h : KD D low σ kx dx keys kids) : ∀ r, r ∈ rowOf kx ++ rowOf dx → low ≤ r ∧ r < σ.next := by
  intro r hr
  obtain ⟨h1, _, ⟨ls, _, _, h3, _⟩, _, _⟩ := h
  rcases List.mem_append.1 hr with hr | hr
  · exact ⟨(h1.rows r hr).1, (h1.rows r hr).2.1⟩
  · exact ⟨(h3.rows r hr).1, (h3.rows r hr).2.1⟩
theorem KD.one {D low : Nat} {kx dx : AVal} {keys : List Int} {kids : List El} (h : KD D low σ kx dx keys kids) : kx.oneCell = true ∧ dx.oneCell = true := ⟨h.1.oneC, h.2.2.1.choose_spec.2.2.1.oneC⟩
theorem KD.same {D low : Nat} {σ' : AMem} {kx dx : AVal} {keys : List Int} {kids : List El} (h : KD D low σ kx dx keys kids) (hn : σ.next ≤ σ'.next) (hs : ∀ s, low ≤ s → s < σ.next → σ'.get s = σ.get s) : KD D low σ' kx dx keys kids := by
  have hr := h.rows
  obtain ⟨h1, h2, ⟨ls, h3, h4, h5, h6⟩, h7, h8⟩ := h
  refine ⟨grew_same h1 hn fun s hm => hs s (hr s (by simp [hm])).1 (hr s (by simp [hm])).2, h2, ⟨ls, h3, h4, grew_same h5 hn fun s hm => hs s (hr s (by simp [hm])).1 (hr s (by simp [hm])).2, h6.same (Nat.le_refl _) hn (fun s a b _ => hs s a b) fun _ _ _ h => h⟩, h7, h8⟩
theorem KD.key {D low : Nat} {kx dx : AVal} {keys : List Int} {kids : List El} (z : Int) (h : KD D low σ kx dx keys kids) (hlow : low ≤ σ.next) (hl : keys.length ≤ 1000) :
    ∃ σ', appendA tyInt (σ.push (.row 1 false [.int .i64 z])) kx (.slice σ.next 0 1 (some 1) 1) = some (.slice (σ.next + 1) 0 (keys.length + 1) none 1, σ') ∧ KD D low σ' (.slice (σ.next + 1) 0 (keys.length + 1) none 1) dx (keys ++ [z]) kids ∧ σ'.next = σ.next + 2 ∧ ∀ s, s < low → σ'.get s = σ.get s := by
  have hr := h.rows
  obtain ⟨h1, h2, ⟨ls, h3, h4, h5, h6⟩, h7, h8⟩ := h
  obtain ⟨σ', a1, a2, a3, a4, a5⟩ := Grew.one (e := tyInt) (xs := [.int .i64 z]) h1 hlow rfl (by decide) (by decide) (by decide) (by simp only [tyInt, mostBytes]; omega) rfl
  have keep : ∀ s, s < σ.next → s ∉ rowOf kx → σ'.get s = σ.get s := fun s hs hn => a5 s hs fun e => hn (by rw [e]; simp [rowOf])
  have hz : intsV keys ++ [.int .i64 z] = intsV (keys ++ [z]) := by simp [intsV]
  rw [hz] at a2
  refine ⟨σ', a1, ⟨by rw [List.length_append]; exact a2, fun h => by simp at h, ⟨ls, h3, h4, grew_same h5 (by omega) fun s hm => keep s (hr s (by simp [hm])).2 (fun hk => h8 s hk hm), h6.same (Nat.le_refl _) (by omega) (fun s a b c => keep s b (fun hm => c (by simp [hm]))) fun s a b c hm => ?_⟩, h7, fun r hr1 hr2 => ?_⟩, a3, a4⟩
  · rcases List.mem_append.1 hm with hm | hm
    · simp only [rowOf, List.mem_singleton] at hm; omega
    · exact c (by simp [hm])
  · simp only [rowOf, List.mem_singleton] at hr1
    have := (hr r (by simp [hr2])).2; omega
theorem KD.kid {D low lo2 : Nat} {kx dx x2 x3 : AVal} {keys : List Int} {kids : List El} {e : El} (h : KD D low σ kx dx keys kids) (hlow : low ≤ σ.next) (hl : kids.length ≤ 1000) (h2 : x2.oneCell = true) (h3 : x3.oneCell = true) (hlo : low ≤ lo2) (hrd : ReadsL (D + 1) lo2 σ [] [x2, x3] [.vs e.kk (intsV e.keys), .vs e.dk (e.kids.map elV)]) (hrows : ∀ r, r ∈ rowOf kx ++ rowOf dx → r < lo2) :
    ∃ σ', appendA tyEl (σ.push (.row 4 true [.int .u8 e.kind, .int .i64 e.n, x2, x3])) dx (.slice σ.next 0 1 (some 1) 4) = some (.slice (σ.next + 1) 0 (kids.length + 1) none 4, σ') ∧ KD D low σ' kx (.slice (σ.next + 1) 0 (kids.length + 1) none 4) keys (kids ++ [e]) ∧ σ'.next = σ.next + 2 ∧ ∀ s, s < low → σ'.get s = σ.get s := by
  have hr := h.rows
  obtain ⟨h1, h12, ⟨ls, g3, g4, g5, g6⟩, g7, g8⟩ := h
  obtain ⟨σ', a1, a2, a3, a4, a5⟩ := Grew.one (e := tyEl) (xs := [.int .u8 e.kind, .int .i64 e.n, x2, x3]) g5 hlow rfl (by decide) (by decide) (by decide) (by simp only [tyEl, mostBytes]; omega) (by simp only [List.all_cons, List.all_nil, h2, h3]; rfl)
  have keep : ∀ s, s < σ.next → s ∉ rowOf dx → σ'.get s = σ.get s := fun s hs hn => a5 s hs fun e => hn (by rw [e]; simp [rowOf])
  have hcell : ReadsL (D + 1) low σ (rowOf kx ++ rowOf dx) [.int .u8 e.kind, .int .i64 e.n, x2, x3] (elC e) := by
    have p1 : ReadsL (D + 1) low σ (rowOf kx ++ rowOf dx) [.int .u8 e.kind, .int .i64 e.n] [.int .u8 e.kind, .int .i64 e.n] := ReadsL.pure rfl
    exact p1.append (hrd.same hlo (Nat.le_refl _) (fun _ _ _ _ => rfl) fun s hs1 _ _ hm => by have := hrows s hm; omega)
  have tr : ∀ {cs ys : List AVal}, ReadsL (D + 1) low σ (rowOf kx ++ rowOf dx) cs ys → ReadsL (D + 1) low σ' (rowOf kx ++ rowOf (.slice (σ.next + 1) 0 (kids.length + 1) none 4)) cs ys := fun hh => hh.same (Nat.le_refl _) (by omega) (fun s _ b c => keep s b fun hm => c (by simp [hm])) fun s _ b c hm => by
    rcases List.mem_append.1 hm with hm | hm
    · exact c (by simp [hm])
    · simp only [rowOf, List.mem_singleton] at hm; omega
  refine ⟨σ', a1, ⟨grew_same h1 (by omega) fun s hm => keep s (hr s (by simp [hm])).2 (g8 s hm), h12, ⟨ls ++ [[.int .u8 e.kind, .int .i64 e.n, x2, x3]], by simp [g3], fun l hl => ?_, ?_, ?_⟩, fun h => by simp at h, fun r hr1 hr2 => ?_⟩, a3, a4⟩
  · rcases List.mem_append.1 hl with hl | hl
    · exact g4 l hl
    · rw [List.mem_singleton.1 hl]; rfl
  · rw [List.length_append, List.flatten_append]
    have a2' : Grew low σ' 4 true (.slice (σ.next + 1) 0 (kids.length + 1) none 4) (kids.length + 1) (ls.flatten ++ [.int .u8 e.kind, .int .i64 e.n, x2, x3]) := a2
    simpa using a2'
  · rw [List.flatten_append, List.map_append, List.flatten_append]
    simpa using (tr g6).append (tr hcell)
  · simp only [rowOf, List.mem_singleton] at hr2
    have := (hr r (by simp [hr1])).2; omega
/-- How they read. -/
theorem KD.reads {D low : Nat} {kx dx : AVal} {keys : List Int} {kids : List El} (h : KD D low σ kx dx keys kids) (hD : 1 ≤ D) : ReadsL (D + 2) low σ [] [kx, dx] [.vs (lkOf keys.length) (intsV keys), .vs (lkOf kids.length) (kids.map elV)] := by
  obtain ⟨h1, h2, ⟨ls, h3, h4, h5, h6⟩, h7, h8⟩ := h
  have r1 : ReadsL (D + 2) low σ [] [kx] [.vs (lkOf keys.length) (intsV keys)] := ints_reads h1 h2
  have r2 := recs_reads (d := D) (ps := kids.map elC) h5 h6 h7 h3.symm (by decide) (by simp [h3]) h4 (fun l hl => by
    obtain ⟨x, _, rfl⟩ := List.mem_map.1 hl
    rfl)
  rw [List.map_map, show (AVal.agg ∘ elC) = elV from funext fun e => (elV_eq e).symm] at r2
  exact r1.append r2
end Go.Proofs.YtjckhhkhgjbpaaaGreatDoor

/- The unpacker's elements: sets. -/
set_option maxRecDepth 100000
set_option linter.unusedSimpArgs false
set_option linter.unusedVariables false
namespace Go.Proofs.YtjckhhkhgjbpaaaGreatDoor
open Go Go.Proofs.YtjckhhkhgjbpaaaGreatDoor.Pale
variable {k : Nat} {σ : AMem}

/-- LOOP of kind 5. -/
theorem uel_set {f : Nat} {q : Nat} {K : VK} {bs : List Nat} {dp : Int} (hdp : dp = 5 - ((f + 1 : Nat) : Int)) (hf4 : f ≤ 3) (hq : σ.get q = some (.row 1 true [.vs K (bytesV bs)])) (hqn : q < σ.next) (hb : ∀ b, b ∈ bs → b < 256) (hc : bs.headD 0 = 5) (hk : 100 ≤ k) :
    ∃ x2 x3 σ', callN lawProg (k + 1) (.func 122 [] []) [.ptr q 0, .int .i64 dp] σ = some (.agg [.int .u8 5, .int .i64 0, x2, x3], σ') ∧ x2.oneCell = true ∧ x3.oneCell = true ∧ ReadsL (f + 5) σ.next σ' [] [x2, x3] [.vs (lkOf (min (uCnt 6 (bs.drop 1)).1 41)) (intsV (uList uNum (min (uCnt 6 (bs.drop 1)).1 41) (uCnt 6 (bs.drop 1)).2).1), .vs .nil (([] : List El).map elV)] ∧ (∃ K', σ'.get q = some (.row 1 true [.vs K' (bytesV (uList uNum (min (uCnt 6 (bs.drop 1)).1 41) (uCnt 6 (bs.drop 1)).2).2)])) ∧ σ.next ≤ σ'.next ∧ ∀ s, s < σ.next → s ≠ q → σ'.get s = σ.get s := by
  obtain ⟨σ1, c1, ⟨K', c2⟩, c3, c4, c5⟩ := uel_start (k := k) hq hqn (by omega)
  simp only [zEl] at c1 c4
  rw [hc] at c1
  have hkc : ((5 : Nat) : Int) = 5 := rfl
  rw [hkc] at c1
  let σ2 : AMem := (σ1.push (.row 4 true [.int .u8 0, .int .i64 0, .vs .nil [], .vs .nil []])).put (σ.next + 1) (.row 4 true [.int .u8 5, .int .i64 0, .vs .nil [], .vs .nil []])
  have y1 : σ2.get (σ.next + 1) = some (.row 4 true [.int .u8 5, .int .i64 0, .vs .nil [], .vs .nil []]) := by rw [AMem.get_put, if_pos rfl]
  have y2 : ∀ s, s < σ.next + 1 → σ2.get s = σ1.get s := fun s hs => by rw [AMem.get_put, if_neg (by omega), AMem.get_push, if_neg (by omega)]
  have y3 : σ2.next = σ.next + 2 := by simp [σ2, c3]
  have hbd : ∀ b, b ∈ bs.drop 1 → b < 256 := fun b hb' => hb b (List.mem_of_mem_drop hb')
  obtain ⟨σ3, d1, d2, d3, d4⟩ := ucount_call (k := k) (σ := σ2) (q := q) (K := K') (bs := bs.drop 1) ((y2 q (by omega)).trans c2) hbd (by omega)
  obtain ⟨K3, d2⟩ := d2
  have z1 : σ3.get (σ.next + 1) = some (.row 4 true [.int .u8 5, .int .i64 0, .vs .nil [], .vs .nil []]) := (d3 _ (by omega)).trans y1
  have z0 : σ3.get σ.next = some (.row 4 true [.int .u8 0, .int .i64 0, .vs .nil [], .vs .nil []]) := (d3 _ (by omega)).trans ((y2 _ (by omega)).trans c4)
  have hgt : ¬ dp > 4 := by omega
  have b2 : ((5 : Int) == 2) = false := rfl
  have b4 : ((5 : Int) == 4) = false := rfl
  have b5 : ((5 : Int) == 5) = true := rfl
  have b6 : ((5 : Int) == 6) = false := rfl
  have x3 : ¬ σ.next + 1 = σ.next := by omega
  have x4 : ¬ σ.next = σ.next + 1 := by omega
  have emin : (if (41 : Int) < (((uCnt 6 (bs.drop 1)).1 : Nat) : Int) then 41 else (((uCnt 6 (bs.drop 1)).1 : Nat) : Int)) = (((min (uCnt 6 (bs.drop 1)).1 41) : Nat) : Int) := by split <;> omega
  have hM : (min (uCnt 6 (bs.drop 1)).1 41) ≤ 41 := Nat.min_le_right _ _
  have hrest : ∀ n b, b ∈ (uList uNum n (uCnt 6 (bs.drop 1)).2).2 → b < 256 := fun n b h => hbd b (uCnt_mem _ _ _ (uList_mem (g := uNum) uNum_mem n _ b h))
  simp only [σ2] at d1
  have run : ∃ T1 σ' x2 x3, execC lawProg (callN lawProg k) k 122 70 (bodyOf Tryz.f122) (initT 0 [.ptr q 0, .int .i64 dp] .nil) σ = some (.ret, T1, σ') ∧ resultsA lawProg T1 σ' Tryz.f122.results.toList = some [.agg [.int .u8 5, .int .i64 0, x2, x3]] ∧ x2.oneCell = true ∧ x3.oneCell = true ∧ ReadsL (f + 5) σ.next σ' [] [x2, x3] [.vs (lkOf (min (uCnt 6 (bs.drop 1)).1 41)) (intsV (uList uNum (min (uCnt 6 (bs.drop 1)).1 41) (uCnt 6 (bs.drop 1)).2).1), .vs .nil (([] : List El).map elV)] ∧ (∃ K', σ'.get q = some (.row 1 true [.vs K' (bytesV (uList uNum (min (uCnt 6 (bs.drop 1)).1 41) (uCnt 6 (bs.drop 1)).2).2)])) ∧ σ.next ≤ σ'.next ∧ ∀ s, s < σ.next → s ≠ q → σ'.get s = σ.get s := by
    simp only [bodyOf, Tryz.f122, Option.getD_some, initT, dx, reduceIte, zLt, zLe, zEq, zAd, zMu, zSu, zBe, yEq, yLt, yLe, yTn, reduceCtorEq, sx, fx122, c1, hgt, c4, c3, x3, x4, b2, b4, b5, b6, d1, emin]
    generalize hL : execC _ _ _ _ _ (Code.loop _) _ _ = x
    obtain ⟨e, T', σ', rfl, _, rfl, kx, dz, t4, t5, g1, g0, gq, kd, hnx, hfr⟩ : ∃ e T' σ', x = some (e, T', σ') ∧ e ≠ .normal ∧ (e = .exit 1 ∧ ∃ kx dz, T'.get 4 = some (.ptr σ.next 0) ∧ T'.get 5 = some (.ptr (σ.next + 1) 0) ∧ σ'.get (σ.next + 1) = some (.row 4 true [.int .u8 5, .int .i64 0, kx, dz]) ∧ σ'.get σ.next = some (.row 4 true [.int .u8 0, .int .i64 0, .vs .nil [], .vs .nil []]) ∧ (∃ K', σ'.get q = some (.row 1 true [.vs K' (bytesV (uList uNum (min (uCnt 6 (bs.drop 1)).1 41) (uCnt 6 (bs.drop 1)).2).2)])) ∧ KD (f + 3) (σ.next + 2) σ' kx dz (uList uNum (min (uCnt 6 (bs.drop 1)).1 41) (uCnt 6 (bs.drop 1)).2).1 ([] : List El) ∧ σ.next + 2 ≤ σ'.next ∧ (∀ s, s < σ.next → s ≠ q → σ'.get s = σ.get s)) := by
      rw [← hL]
      refine exec_loop (fun i T σ' => i ≤ (min (uCnt 6 (bs.drop 1)).1 41) ∧ ∃ kx dz, T.get 0 = some (.ptr q 0) ∧ T.get 1 = some (.int .i64 dp) ∧ T.get 4 = some (.ptr σ.next 0) ∧ T.get 5 = some (.ptr (σ.next + 1) 0) ∧ T.get 29 = some (.int .i64 ((min (uCnt 6 (bs.drop 1)).1 41) : Nat)) ∧ T.get 30 = some (.int .i64 i) ∧ σ'.get (σ.next + 1) = some (.row 4 true [.int .u8 5, .int .i64 0, kx, dz]) ∧ σ'.get σ.next = some (.row 4 true [.int .u8 0, .int .i64 0, .vs .nil [], .vs .nil []]) ∧ (∃ K', σ'.get q = some (.row 1 true [.vs K' (bytesV (uList uNum i (uCnt 6 (bs.drop 1)).2).2)])) ∧ KD (f + 3) (σ.next + 2) σ' kx dz (uList uNum i (uCnt 6 (bs.drop 1)).2).1 [] ∧ σ.next + 2 ≤ σ'.next ∧ (∀ s, s < σ.next → s ≠ q → σ'.get s = σ.get s)) (min (uCnt 6 (bs.drop 1)).1 41) (by omega) ?_ ?_ ?_
      · rintro i hi T σ' ⟨_, kx, dz, t0, t1, t4, t5, t29, t30, g1, g0, ⟨K4, gq⟩, kd, hnx, hfr⟩
        have hlt : ((i : Nat) : Int) < (((min (uCnt 6 (bs.drop 1)).1 41) : Nat) : Int) := by omega
        have hw := i64_succ (i := i) (by omega)
        obtain ⟨σ4, n1, ⟨K5, n2⟩, n3, n4⟩ := unumber_call (k := k) gq (hrest i) (by omega)
        have kd4 : KD (f + 3) (σ.next + 2) σ4 kx dz (uList uNum i (uCnt 6 (bs.drop 1)).2).1 ([] : List El) := kd.same (by omega) fun s h1 _ => n3 s (by omega)
        have g14 := (n3 (σ.next + 1) (by omega)).trans g1
        have g04 := (n3 σ.next (by omega)).trans g0
        have hkl : ((uList uNum i (uCnt 6 (bs.drop 1)).2).1).length = i := by simp only [List.length_map, uList_len]
        obtain ⟨σ5, a1, a2, a3, a4⟩ := kd4.key (uNum (uList uNum i (uCnt 6 (bs.drop 1)).2).2).1 (by omega) (by rw [hkl]; omega)
        have g15 := (a4 (σ.next + 1) (by omega)).trans g14
        have g05 := (a4 σ.next (by omega)).trans g04
        have hq5 := (a4 q (by omega)).trans n2
        simp only [tyInt] at a1
        have x6 : ¬ σ4.next = σ.next + 1 := by omega
        have o1 := kd.one.1
        have o2 := kd.one.2
        rw [hkl] at a1 a2
        refine ⟨_, _, by
          simp only [dx, reduceIte, zLt, zLe, zEq, zAd, zMu, zSu, zBe, yEq, yLt, yLe, yTn, reduceCtorEq, sx, fx122, t0, t1, t4, t5, t29, t30, hlt, g1, n1, g14, x6, a1, g15, o1, o2, b6, hw]
          rfl, hi, .slice (σ4.next + 1) 0 (i + 1) none 1, dz, ?_, ?_, ?_, ?_, ?_, ?_, ?_, ?_, ?_, ?_, ?_, ?_⟩
        · simp only [Tr.get_set, zEq, reduceIte, t0]
        · simp only [Tr.get_set, zEq, reduceIte, t1]
        · simp only [Tr.get_set, zEq, reduceIte, t4]
        · simp only [Tr.get_set, zEq, reduceIte, t5]
        · simp only [Tr.get_set, zEq, reduceIte, t29]
        · simp only [Tr.get_set, zEq, reduceIte]
        · rw [AMem.get_put, if_pos rfl]
        · rw [AMem.get_put, if_neg (by omega)]; exact g05
        · exact ⟨K5, by rw [AMem.get_put, if_neg (by omega), hq5, uList_snoc]⟩
        · rw [uList_snoc]
          exact a2.same (by simp) fun s h1 _ => by rw [AMem.get_put, if_neg (by omega)]
        · simp only [AMem.next_put]; omega
        · intro s hs hne
          rw [AMem.get_put, if_neg (by omega), a4 s (by omega), n3 s hne]; exact hfr s hs hne
      · rintro T σ' ⟨_, kx, dz, t0, t1, t4, t5, t29, t30, g1, g0, gq, kd, hnx, hfr⟩
        refine ⟨_, _, _, by
          simp only [dx, reduceIte, zLt, zLe, zEq, zAd, zMu, zSu, zBe, yEq, yLt, yLe, yTn, reduceCtorEq, sx, fx122, t29, t30, Int.lt_irrefl]
          rfl, by simp, rfl, kx, dz, ?_, ?_, g1, g0, gq, kd, hnx, hfr⟩
        all_goals simp only [Tr.get_set, zEq, reduceIte, t4, t5]
      · refine ⟨Nat.zero_le _, .vs .nil [], .vs .nil [], ?_, ?_, ?_, ?_, ?_, ?_, z1, z0, ⟨K3, d2⟩, KD.start _ _ _, by omega, fun s hs hne => by rw [d3 s hne, y2 s (by omega)]; exact c5 s hs hne⟩
        · simp only [Tr.get_set, zEq, reduceIte]
        · simp only [Tr.get_set, zEq, reduceIte]
        · simp only [Tr.get_set, zEq, reduceIte]
        · simp only [Tr.get_set, zEq, reduceIte]
        · simp only [Tr.get_set, zEq, reduceIte]
        · simp only [Tr.get_set, zEq, reduceIte]; rfl
    obtain ⟨o1, o2⟩ := kd.one
    have hrd := kd.reads (by omega)
    simp only [dx, reduceIte, zLt, zLe, zEq, zAd, zMu, zSu, zBe, yEq, yLt, yLe, yTn, reduceCtorEq, sx, fx122, t4, t5, g1, g0, o1, o2]
    refine ⟨_, _, kx, dz, rfl, ?_, o1, o2, ?_, ?_, ?_, ?_⟩
    · simp only [Tryz.f122, resultsA, resultA, dx, reduceIte, zLt, zLe, zEq, zAd, zMu, zSu, zBe, yEq, yLt, yLe, yTn, reduceCtorEq, sx, fx122, t4]
    · have hlen : ((uList uNum (min (uCnt 6 (bs.drop 1)).1 41) (uCnt 6 (bs.drop 1)).2).1).length = (min (uCnt 6 (bs.drop 1)).1 41) := by simp only [List.length_map, uList_len]
      rw [hlen] at hrd
      have hrd2 := hrd.same (low' := σ.next) (bad' := []) (σ' := σ'.put σ.next (.row 4 true [.int .u8 5, .int .i64 0, kx, dz])) (by omega) (by simp) (fun s h1 _ _ => by rw [AMem.get_put, if_neg (by omega)]) (fun _ _ _ h => h)
      have hl0 : lkOf ([] : List El).length = .nil := rfl
      rw [hl0] at hrd2
      exact hrd2
    · obtain ⟨K5, gq⟩ := gq
      exact ⟨K5, by rw [AMem.get_put, if_neg (by omega)]; exact gq⟩
    · simp only [AMem.next_put]; omega
    · intro s hs hne
      rw [AMem.get_put, if_neg (by omega)]; exact hfr s hs hne
  obtain ⟨T1, σ', x2, x3, h1, h2, h3, h4, h5, h6, h7, h8⟩ := run
  exact ⟨x2, x3, σ', q_call (first := []) (caps := []) fn122 rfl (by simp [Tryz.f122]) h1 (by simp) h2, h3, h4, h5, h6, h7, h8⟩
end Go.Proofs.YtjckhhkhgjbpaaaGreatDoor

/- The unpacker's elements: maps. -/
set_option maxRecDepth 100000
set_option linter.unusedSimpArgs false
set_option linter.unusedVariables false
namespace Go.Proofs.YtjckhhkhgjbpaaaGreatDoor
open Go Go.Proofs.YtjckhhkhgjbpaaaGreatDoor.Pale
variable {k : Nat} {σ : AMem}

set_option maxHeartbeats 1000000 in
/-- LOOP of kind 6. -/
theorem uel_map {f : Nat} {q : Nat} {K : VK} {bs : List Nat} {dp : Int} (ih : UElRuns f k) (hdp : dp = 5 - ((f + 1 : Nat) : Int)) (hf4 : f ≤ 3) (hq : σ.get q = some (.row 1 true [.vs K (bytesV bs)])) (hqn : q < σ.next) (hb : ∀ b, b ∈ bs → b < 256) (hc : bs.headD 0 = 6) (hk : 100 ≤ k) :
    ∃ x2 x3 σ', callN lawProg (k + 1) (.func 122 [] []) [.ptr q 0, .int .i64 dp] σ = some (.agg [.int .u8 6, .int .i64 0, x2, x3], σ') ∧ x2.oneCell = true ∧ x3.oneCell = true ∧ ReadsL (f + 5) σ.next σ' [] [x2, x3] [.vs (lkOf (min (uCnt 6 (bs.drop 1)).1 41)) (intsV ((uList (uPair (uEl f)) (min (uCnt 6 (bs.drop 1)).1 41) (uCnt 6 (bs.drop 1)).2).1.map (·.1))), .vs (lkOf (min (uCnt 6 (bs.drop 1)).1 41)) (((uList (uPair (uEl f)) (min (uCnt 6 (bs.drop 1)).1 41) (uCnt 6 (bs.drop 1)).2).1.map (·.2)).map elV)] ∧ (∃ K', σ'.get q = some (.row 1 true [.vs K' (bytesV (uList (uPair (uEl f)) (min (uCnt 6 (bs.drop 1)).1 41) (uCnt 6 (bs.drop 1)).2).2)])) ∧ σ.next ≤ σ'.next ∧ ∀ s, s < σ.next → s ≠ q → σ'.get s = σ.get s := by
  obtain ⟨σ1, c1, ⟨K', c2⟩, c3, c4, c5⟩ := uel_start (k := k) hq hqn (by omega)
  simp only [zEl] at c1 c4
  rw [hc] at c1
  have hkc : ((6 : Nat) : Int) = 6 := rfl
  rw [hkc] at c1
  let σ2 : AMem := (σ1.push (.row 4 true [.int .u8 0, .int .i64 0, .vs .nil [], .vs .nil []])).put (σ.next + 1) (.row 4 true [.int .u8 6, .int .i64 0, .vs .nil [], .vs .nil []])
  have y1 : σ2.get (σ.next + 1) = some (.row 4 true [.int .u8 6, .int .i64 0, .vs .nil [], .vs .nil []]) := by rw [AMem.get_put, if_pos rfl]
  have y2 : ∀ s, s < σ.next + 1 → σ2.get s = σ1.get s := fun s hs => by rw [AMem.get_put, if_neg (by omega), AMem.get_push, if_neg (by omega)]
  have y3 : σ2.next = σ.next + 2 := by simp [σ2, c3]
  have hbd : ∀ b, b ∈ bs.drop 1 → b < 256 := fun b hb' => hb b (List.mem_of_mem_drop hb')
  obtain ⟨σ3, d1, d2, d3, d4⟩ := ucount_call (k := k) (σ := σ2) (q := q) (K := K') (bs := bs.drop 1) ((y2 q (by omega)).trans c2) hbd (by omega)
  obtain ⟨K3, d2⟩ := d2
  have z1 : σ3.get (σ.next + 1) = some (.row 4 true [.int .u8 6, .int .i64 0, .vs .nil [], .vs .nil []]) := (d3 _ (by omega)).trans y1
  have z0 : σ3.get σ.next = some (.row 4 true [.int .u8 0, .int .i64 0, .vs .nil [], .vs .nil []]) := (d3 _ (by omega)).trans ((y2 _ (by omega)).trans c4)
  have hgt : ¬ dp > 4 := by omega
  have b2 : ((6 : Int) == 2) = false := rfl
  have b4 : ((6 : Int) == 4) = false := rfl
  have b5 : ((6 : Int) == 5) = false := rfl
  have b6 : ((6 : Int) == 6) = true := rfl
  have x3 : ¬ σ.next + 1 = σ.next := by omega
  have x4 : ¬ σ.next = σ.next + 1 := by omega
  have emin : (if (41 : Int) < (((uCnt 6 (bs.drop 1)).1 : Nat) : Int) then 41 else (((uCnt 6 (bs.drop 1)).1 : Nat) : Int)) = (((min (uCnt 6 (bs.drop 1)).1 41) : Nat) : Int) := by split <;> omega
  have hM : (min (uCnt 6 (bs.drop 1)).1 41) ≤ 41 := Nat.min_le_right _ _
  have hrest : ∀ n b, b ∈ (uList (uPair (uEl f)) n (uCnt 6 (bs.drop 1)).2).2 → b < 256 := fun n b h => hbd b (uCnt_mem _ _ _ (uList_mem (g := (uPair (uEl f))) (fun bs b h => uNum_mem _ _ (uEl_mem _ _ _ h)) n _ b h))
  simp only [σ2] at d1
  have run : ∃ T1 σ' x2 x3, execC lawProg (callN lawProg k) k 122 70 (bodyOf Tryz.f122) (initT 0 [.ptr q 0, .int .i64 dp] .nil) σ = some (.ret, T1, σ') ∧ resultsA lawProg T1 σ' Tryz.f122.results.toList = some [.agg [.int .u8 6, .int .i64 0, x2, x3]] ∧ x2.oneCell = true ∧ x3.oneCell = true ∧ ReadsL (f + 5) σ.next σ' [] [x2, x3] [.vs (lkOf (min (uCnt 6 (bs.drop 1)).1 41)) (intsV ((uList (uPair (uEl f)) (min (uCnt 6 (bs.drop 1)).1 41) (uCnt 6 (bs.drop 1)).2).1.map (·.1))), .vs (lkOf (min (uCnt 6 (bs.drop 1)).1 41)) (((uList (uPair (uEl f)) (min (uCnt 6 (bs.drop 1)).1 41) (uCnt 6 (bs.drop 1)).2).1.map (·.2)).map elV)] ∧ (∃ K', σ'.get q = some (.row 1 true [.vs K' (bytesV (uList (uPair (uEl f)) (min (uCnt 6 (bs.drop 1)).1 41) (uCnt 6 (bs.drop 1)).2).2)])) ∧ σ.next ≤ σ'.next ∧ ∀ s, s < σ.next → s ≠ q → σ'.get s = σ.get s := by
    simp only [bodyOf, Tryz.f122, Option.getD_some, initT, dx, reduceIte, zLt, zLe, zEq, zAd, zMu, zSu, zBe, yEq, yLt, yLe, yTn, reduceCtorEq, sx, fx122, c1, hgt, c4, c3, x3, x4, b2, b4, b5, b6, d1, emin]
    generalize hL : execC _ _ _ _ _ (Code.loop _) _ _ = x
    obtain ⟨e, T', σ', rfl, _, rfl, kx, dz, t4, t5, g1, g0, gq, kd, hnx, hfr⟩ : ∃ e T' σ', x = some (e, T', σ') ∧ e ≠ .normal ∧ (e = .exit 1 ∧ ∃ kx dz, T'.get 4 = some (.ptr σ.next 0) ∧ T'.get 5 = some (.ptr (σ.next + 1) 0) ∧ σ'.get (σ.next + 1) = some (.row 4 true [.int .u8 6, .int .i64 0, kx, dz]) ∧ σ'.get σ.next = some (.row 4 true [.int .u8 0, .int .i64 0, .vs .nil [], .vs .nil []]) ∧ (∃ K', σ'.get q = some (.row 1 true [.vs K' (bytesV (uList (uPair (uEl f)) (min (uCnt 6 (bs.drop 1)).1 41) (uCnt 6 (bs.drop 1)).2).2)])) ∧ KD (f + 3) (σ.next + 2) σ' kx dz ((uList (uPair (uEl f)) (min (uCnt 6 (bs.drop 1)).1 41) (uCnt 6 (bs.drop 1)).2).1.map (·.1)) ((uList (uPair (uEl f)) (min (uCnt 6 (bs.drop 1)).1 41) (uCnt 6 (bs.drop 1)).2).1.map (·.2)) ∧ σ.next + 2 ≤ σ'.next ∧ (∀ s, s < σ.next → s ≠ q → σ'.get s = σ.get s)) := by
      rw [← hL]
      refine exec_loop (fun i T σ' => i ≤ (min (uCnt 6 (bs.drop 1)).1 41) ∧ ∃ kx dz, T.get 0 = some (.ptr q 0) ∧ T.get 1 = some (.int .i64 dp) ∧ T.get 4 = some (.ptr σ.next 0) ∧ T.get 5 = some (.ptr (σ.next + 1) 0) ∧ T.get 29 = some (.int .i64 ((min (uCnt 6 (bs.drop 1)).1 41) : Nat)) ∧ T.get 30 = some (.int .i64 i) ∧ σ'.get (σ.next + 1) = some (.row 4 true [.int .u8 6, .int .i64 0, kx, dz]) ∧ σ'.get σ.next = some (.row 4 true [.int .u8 0, .int .i64 0, .vs .nil [], .vs .nil []]) ∧ (∃ K', σ'.get q = some (.row 1 true [.vs K' (bytesV (uList (uPair (uEl f)) i (uCnt 6 (bs.drop 1)).2).2)])) ∧ KD (f + 3) (σ.next + 2) σ' kx dz ((uList (uPair (uEl f)) i (uCnt 6 (bs.drop 1)).2).1.map (·.1)) ((uList (uPair (uEl f)) i (uCnt 6 (bs.drop 1)).2).1.map (·.2)) ∧ σ.next + 2 ≤ σ'.next ∧ (∀ s, s < σ.next → s ≠ q → σ'.get s = σ.get s)) (min (uCnt 6 (bs.drop 1)).1 41) (by omega) ?_ ?_ ?_
      · rintro i hi T σ' ⟨_, kx, dz, t0, t1, t4, t5, t29, t30, g1, g0, ⟨K4, gq⟩, kd, hnx, hfr⟩
        have hlt : ((i : Nat) : Int) < (((min (uCnt 6 (bs.drop 1)).1 41) : Nat) : Int) := by omega
        have hw := i64_succ (i := i) (by omega)
        obtain ⟨σ4, n1, ⟨K5, n2⟩, n3, n4⟩ := unumber_call (k := k) gq (hrest i) (by omega)
        have kd4 : KD (f + 3) (σ.next + 2) σ4 kx dz ((uList (uPair (uEl f)) i (uCnt 6 (bs.drop 1)).2).1.map (·.1)) ((uList (uPair (uEl f)) i (uCnt 6 (bs.drop 1)).2).1.map (·.2)) := kd.same (by omega) fun s h1 _ => n3 s (by omega)
        have g14 := (n3 (σ.next + 1) (by omega)).trans g1
        have g04 := (n3 σ.next (by omega)).trans g0
        have hkl : (((uList (uPair (uEl f)) i (uCnt 6 (bs.drop 1)).2).1.map (·.1))).length = i := by simp only [List.length_map, uList_len]
        obtain ⟨σ5, a1, a2, a3, a4⟩ := kd4.key (uNum (uList (uPair (uEl f)) i (uCnt 6 (bs.drop 1)).2).2).1 (by omega) (by rw [hkl]; omega)
        have g15 := (a4 (σ.next + 1) (by omega)).trans g14
        have g05 := (a4 σ.next (by omega)).trans g04
        have hq5 := (a4 q (by omega)).trans n2
        simp only [tyInt] at a1
        have x6 : ¬ σ4.next = σ.next + 1 := by omega
        have o1 := kd.one.1
        have o2 := kd.one.2
        have hkd : (((uList (uPair (uEl f)) i (uCnt 6 (bs.drop 1)).2).1.map (·.2))).length = i := by simp only [List.length_map, uList_len]
        rw [hkl] at a1 a2
        obtain ⟨σ6, hσ6⟩ : ∃ s, s = σ5.put (σ.next + 1) (.row 4 true [.int .u8 6, .int .i64 0, .slice (σ4.next + 1) 0 (i + 1) none 1, dz]) := ⟨_, rfl⟩
        have g16 : σ6.get (σ.next + 1) = some (.row 4 true [.int .u8 6, .int .i64 0, .slice (σ4.next + 1) 0 (i + 1) none 1, dz]) := by rw [hσ6, AMem.get_put, if_pos rfl]
        have k6' : ∀ s, s ≠ σ.next + 1 → σ6.get s = σ5.get s := fun s hs => by rw [hσ6, AMem.get_put, if_neg (Ne.symm hs)]
        have n6 : σ6.next = σ5.next := by rw [hσ6]; simp
        have kd6 : KD (f + 3) (σ.next + 2) σ6 (.slice (σ4.next + 1) 0 (i + 1) none 1) dz (((uList (uPair (uEl f)) i (uCnt 6 (bs.drop 1)).2).1.map (·.1)) ++ [(uNum (uList (uPair (uEl f)) i (uCnt 6 (bs.drop 1)).2).2).1]) ((uList (uPair (uEl f)) i (uCnt 6 (bs.drop 1)).2).1.map (·.2)) := a2.same (by omega) fun s h1 _ => k6' s (by omega)
        obtain ⟨v2, v3, σ7, e1, e2, e3, e4, ⟨K7, e5⟩, e6, e7⟩ := ih (q := q) (K := K5) (bs := (uNum (uList (uPair (uEl f)) i (uCnt 6 (bs.drop 1)).2).2).2) (σ := σ6) (dp + 1) (by omega) ((k6' q (by omega)).trans hq5) (by omega) (fun b h => hrest i b (uNum_mem _ _ h))
        have hdw : IntKind.i64.wrap (dp + 1) = dp + 1 := i64_id (by omega) (by omega)
        have g17 := (e7 (σ.next + 1) (by omega) (by omega)).trans g16
        have g07 := (e7 σ.next (by omega) (by omega)).trans ((k6' σ.next (by omega)).trans g05)
        have kd7 : KD (f + 3) (σ.next + 2) σ7 (.slice (σ4.next + 1) 0 (i + 1) none 1) dz (((uList (uPair (uEl f)) i (uCnt 6 (bs.drop 1)).2).1.map (·.1)) ++ [(uNum (uList (uPair (uEl f)) i (uCnt 6 (bs.drop 1)).2).2).1]) ((uList (uPair (uEl f)) i (uCnt 6 (bs.drop 1)).2).1.map (·.2)) := kd6.same e6 fun s h1 h2 => e7 s h2 (by omega)
        have hr6 := kd6.rows
        obtain ⟨σ8, f1, f2, f3, f4⟩ := kd7.kid (e := (uEl f (uNum (uList (uPair (uEl f)) i (uCnt 6 (bs.drop 1)).2).2).2).1) (lo2 := σ6.next) (by omega) (by rw [hkd]; omega) e2 e3 (by omega) e4 (fun r hr => (hr6 r hr).2)
        rw [hkd] at f1 f2
        have g18 := (f4 (σ.next + 1) (by omega)).trans g17
        have g08 := (f4 σ.next (by omega)).trans g07
        simp only [tyEl] at f1
        have x7 : ¬ σ7.next = σ.next + 1 := by omega
        have ve2 := cells_one e2
        have ve3 := cells_one e3
        rw [hσ6] at e1
        have hsn : (uList (uPair (uEl f)) (i + 1) (uCnt 6 (bs.drop 1)).2) = ((uList (uPair (uEl f)) i (uCnt 6 (bs.drop 1)).2).1 ++ [((uNum (uList (uPair (uEl f)) i (uCnt 6 (bs.drop 1)).2).2).1, (uEl f (uNum (uList (uPair (uEl f)) i (uCnt 6 (bs.drop 1)).2).2).2).1)], (uEl f (uNum (uList (uPair (uEl f)) i (uCnt 6 (bs.drop 1)).2).2).2).2) := uList_snoc _ _ _
        refine ⟨_, _, by
          simp only [dx, reduceIte, zLt, zLe, zEq, zAd, zMu, zSu, zBe, yEq, yLt, yLe, yTn, reduceCtorEq, sx, fx122, t0, t1, t4, t5, t29, t30, hlt, g1, n1, g14, x6, a1, g15, o1, o2, b6, hdw, e1, g17, x7, f1, g18, e2, e3, hw]
          rfl, hi, .slice (σ4.next + 1) 0 (i + 1) none 1, .slice (σ7.next + 1) 0 (i + 1) none 4, ?_, ?_, ?_, ?_, ?_, ?_, ?_, ?_, ?_, ?_, ?_, ?_⟩
        · simp only [Tr.get_set, zEq, reduceIte, t0]
        · simp only [Tr.get_set, zEq, reduceIte, t1]
        · simp only [Tr.get_set, zEq, reduceIte, t4]
        · simp only [Tr.get_set, zEq, reduceIte, t5]
        · simp only [Tr.get_set, zEq, reduceIte, t29]
        · simp only [Tr.get_set, zEq, reduceIte]
        · rw [AMem.get_put, if_pos rfl]
        · rw [AMem.get_put, if_neg (by omega)]; exact g08
        · exact ⟨K7, by rw [AMem.get_put, if_neg (by omega), f4 q (by omega), e5, hsn]⟩
        · rw [hsn, List.map_append, List.map_append]
          exact f2.same (by simp) fun s h1 _ => by rw [AMem.get_put, if_neg (by omega)]
        · simp only [AMem.next_put]; omega
        · intro s hs hne
          rw [AMem.get_put, if_neg (by omega), f4 s (by omega), e7 s (by omega) hne, k6' s (by omega), a4 s (by omega), n3 s hne]; exact hfr s hs hne
      · rintro T σ' ⟨_, kx, dz, t0, t1, t4, t5, t29, t30, g1, g0, gq, kd, hnx, hfr⟩
        refine ⟨_, _, _, by
          simp only [dx, reduceIte, zLt, zLe, zEq, zAd, zMu, zSu, zBe, yEq, yLt, yLe, yTn, reduceCtorEq, sx, fx122, t29, t30, Int.lt_irrefl]
          rfl, by simp, rfl, kx, dz, ?_, ?_, g1, g0, gq, kd, hnx, hfr⟩
        all_goals simp only [Tr.get_set, zEq, reduceIte, t4, t5]
      · refine ⟨Nat.zero_le _, .vs .nil [], .vs .nil [], ?_, ?_, ?_, ?_, ?_, ?_, z1, z0, ⟨K3, d2⟩, KD.start _ _ _, by omega, fun s hs hne => by rw [d3 s hne, y2 s (by omega)]; exact c5 s hs hne⟩
        · simp only [Tr.get_set, zEq, reduceIte]
        · simp only [Tr.get_set, zEq, reduceIte]
        · simp only [Tr.get_set, zEq, reduceIte]
        · simp only [Tr.get_set, zEq, reduceIte]
        · simp only [Tr.get_set, zEq, reduceIte]
        · simp only [Tr.get_set, zEq, reduceIte]; rfl
    obtain ⟨o1, o2⟩ := kd.one
    have hrd := kd.reads (by omega)
    simp only [dx, reduceIte, zLt, zLe, zEq, zAd, zMu, zSu, zBe, yEq, yLt, yLe, yTn, reduceCtorEq, sx, fx122, t4, t5, g1, g0, o1, o2]
    refine ⟨_, _, kx, dz, rfl, ?_, o1, o2, ?_, ?_, ?_, ?_⟩
    · simp only [Tryz.f122, resultsA, resultA, dx, reduceIte, zLt, zLe, zEq, zAd, zMu, zSu, zBe, yEq, yLt, yLe, yTn, reduceCtorEq, sx, fx122, t4]
    · have hlen : (((uList (uPair (uEl f)) (min (uCnt 6 (bs.drop 1)).1 41) (uCnt 6 (bs.drop 1)).2).1.map (·.1))).length = (min (uCnt 6 (bs.drop 1)).1 41) := by simp only [List.length_map, uList_len]
      rw [hlen] at hrd
      have hrd2 := hrd.same (low' := σ.next) (bad' := []) (σ' := σ'.put σ.next (.row 4 true [.int .u8 6, .int .i64 0, kx, dz])) (by omega) (by simp) (fun s h1 _ _ => by rw [AMem.get_put, if_neg (by omega)]) (fun _ _ _ h => h)
      have hlen2 : (((uList (uPair (uEl f)) (min (uCnt 6 (bs.drop 1)).1 41) (uCnt 6 (bs.drop 1)).2).1.map (·.2))).length = (min (uCnt 6 (bs.drop 1)).1 41) := by simp only [List.length_map, uList_len]
      rw [hlen2] at hrd2
      exact hrd2
    · obtain ⟨K5, gq⟩ := gq
      exact ⟨K5, by rw [AMem.get_put, if_neg (by omega)]; exact gq⟩
    · simp only [AMem.next_put]; omega
    · intro s hs hne
      rw [AMem.get_put, if_neg (by omega)]; exact hfr s hs hne
  obtain ⟨T1, σ', x2, x3, h1, h2, h3, h4, h5, h6, h7, h8⟩ := run
  exact ⟨x2, x3, σ', q_call (first := []) (caps := []) fn122 rfl (by simp [Tryz.f122]) h1 (by simp) h2, h3, h4, h5, h6, h7, h8⟩
end Go.Proofs.YtjckhhkhgjbpaaaGreatDoor

/- The unpacker's elements: pairs; all of them. -/
set_option maxRecDepth 100000
set_option linter.unusedSimpArgs false
set_option linter.unusedVariables false
namespace Go.Proofs.YtjckhhkhgjbpaaaGreatDoor
open Go Go.Proofs.YtjckhhkhgjbpaaaGreatDoor.Pale
variable {k : Nat} {σ : AMem}

theorem append_two {σ : AMem} {r1 r2 : Nat} {c1 c2 : List AVal} (h1 : σ.get r1 = some (.row 4 true c1)) (h2 : σ.get r2 = some (.row 4 true c2)) (l1 : c1.length = 4) (l2 : c2.length = 4) : appendA tyEl σ (.slice r1 0 1 (some 1) 4) (.slice r2 0 1 (some 1) 4) = some (.slice σ.next 0 2 none 4, σ.push (.row 4 true (c1 ++ c2))) := by
  have hsz : tyEl.size = 4 := rfl
  have hag : tyEl.isAgg = true := rfl
  have hsrc : sourceA 4 σ (.slice r2 0 1 (some 1) 4) = some (c2, 1) := by
    simp only [sourceA, h2, l2]
    rw [if_pos (by omega), List.drop_zero, List.take_of_length_le (by omega)]
  have ht : (c1.drop 0).take (1 * 4) = c1 := by rw [List.drop_zero, List.take_of_length_le (by omega)]
  simp only [appendA, hsz, hag, hsrc, h1]
  rw [if_neg (by decide), if_neg (by decide), if_pos (by decide), if_pos trivial, if_neg (by decide), if_pos (by rw [l1]; decide), ht]
set_option maxHeartbeats 1000000 in
theorem uel_pair {f : Nat} {q : Nat} {K : VK} {bs : List Nat} {dp : Int} (ih : UElRuns f k) (hdp : dp = 5 - ((f + 1 : Nat) : Int)) (hf4 : f ≤ 3) (hq : σ.get q = some (.row 1 true [.vs K (bytesV bs)])) (hqn : q < σ.next) (hb : ∀ b, b ∈ bs → b < 256) (hc : bs.headD 0 = 7) (hk : 100 ≤ k) :
    ∃ x3 σ', callN lawProg (k + 1) (.func 122 [] []) [.ptr q 0, .int .i64 dp] σ = some (.agg [.int .u8 7, .int .i64 0, .vs .nil [], x3], σ') ∧ x3.oneCell = true ∧ ReadsL (f + 5) σ.next σ' [] [x3] [.vs .some ([(uEl f (bs.drop 1)).1, (uEl f (uEl f (bs.drop 1)).2).1].map elV)] ∧ (∃ K', σ'.get q = some (.row 1 true [.vs K' (bytesV (uEl f (uEl f (bs.drop 1)).2).2)])) ∧ σ.next ≤ σ'.next ∧ ∀ s, s < σ.next → s ≠ q → σ'.get s = σ.get s := by
  obtain ⟨σ1, c1, ⟨K', c2⟩, c3, c4, c5⟩ := uel_start (k := k) hq hqn (by omega)
  simp only [zEl] at c1 c4
  rw [hc] at c1
  have hkc : ((7 : Nat) : Int) = 7 := rfl
  rw [hkc] at c1
  obtain ⟨σ2, hσ2⟩ : ∃ s, s = (σ1.push (.row 4 true [.int .u8 0, .int .i64 0, .vs .nil [], .vs .nil []])).put (σ.next + 1) (.row 4 true [.int .u8 7, .int .i64 0, .vs .nil [], .vs .nil []]) := ⟨_, rfl⟩
  have y1 : σ2.get (σ.next + 1) = some (.row 4 true [.int .u8 7, .int .i64 0, .vs .nil [], .vs .nil []]) := by rw [hσ2, AMem.get_put, if_pos rfl]
  have y2 : ∀ s, s < σ.next + 1 → σ2.get s = σ1.get s := fun s hs => by rw [hσ2, AMem.get_put, if_neg (by omega), AMem.get_push, if_neg (by omega)]
  have y3 : σ2.next = σ.next + 2 := by simp [hσ2, c3]
  have hbd : ∀ b, b ∈ bs.drop 1 → b < 256 := fun b hb' => hb b (List.mem_of_mem_drop hb')
  have hgt : ¬ dp > 4 := by omega
  have hdw : IntKind.i64.wrap (dp + 1) = dp + 1 := i64_id (by omega) (by omega)
  -- the first one
  obtain ⟨v2, v3, σ3, e1, e2, e3, e4, ⟨K3, e5⟩, e6, e7⟩ := ih (q := q) (K := K') (bs := bs.drop 1) (σ := σ2) (dp + 1) (by omega) ((y2 q (by omega)).trans c2) (by omega) hbd
  generalize hA : uEl f (bs.drop 1) = A at *
  have hAm : ∀ b, b ∈ A.2 → b < 256 := fun b h => hbd b (uEl_mem f _ _ (by rw [hA]; exact h))
  have g13 := (e7 (σ.next + 1) (by omega) (by omega)).trans y1
  have g03 := (e7 σ.next (by omega) (by omega)).trans ((y2 σ.next (by omega)).trans c4)
  obtain ⟨σ4, hσ4⟩ : ∃ s, s = (σ3.push (.row 4 true [.int .u8 A.1.kind, .int .i64 A.1.n, v2, v3])).put (σ.next + 1) (.row 4 true [.int .u8 7, .int .i64 0, .vs .nil [], .slice σ3.next 0 1 (some 1) 4]) := ⟨_, rfl⟩
  have n4 : σ4.next = σ3.next + 1 := by simp [hσ4]
  have g14 : σ4.get (σ.next + 1) = some (.row 4 true [.int .u8 7, .int .i64 0, .vs .nil [], .slice σ3.next 0 1 (some 1) 4]) := by rw [hσ4, AMem.get_put, if_pos rfl]
  have gr4 : σ4.get σ3.next = some (.row 4 true [.int .u8 A.1.kind, .int .i64 A.1.n, v2, v3]) := by rw [hσ4, AMem.get_put, if_neg (by omega), AMem.get_push, if_pos rfl]
  have k4 : ∀ s, s < σ3.next → s ≠ σ.next + 1 → σ4.get s = σ3.get s := fun s h1 h2 => by rw [hσ4, AMem.get_put, if_neg (Ne.symm h2), AMem.get_push, if_neg (by omega)]
  -- the second one
  obtain ⟨w2, w3, σ5, h1, h2, h3, h4, ⟨K5, h5⟩, h6, h7⟩ := ih (q := q) (K := K3) (bs := A.2) (σ := σ4) (dp + 1) (by omega) ((k4 q (by omega) (by omega)).trans e5) (by omega) hAm
  generalize hB : uEl f A.2 = B at *
  have g15 := (h7 (σ.next + 1) (by omega) (by omega)).trans g14
  have g05 := (h7 σ.next (by omega) (by omega)).trans ((k4 σ.next (by omega) (by omega)).trans g03)
  have gr5 := (h7 σ3.next (by omega) (by omega)).trans gr4
  obtain ⟨σ6, hσ6⟩ : ∃ s, s = σ5.push (.row 4 true [.int .u8 B.1.kind, .int .i64 B.1.n, w2, w3]) := ⟨_, rfl⟩
  have hap := append_two (σ := σ6) (r1 := σ3.next) (r2 := σ5.next) (c1 := [.int .u8 A.1.kind, .int .i64 A.1.n, v2, v3]) (c2 := [.int .u8 B.1.kind, .int .i64 B.1.n, w2, w3]) (by rw [hσ6, AMem.get_push, if_neg (by omega)]; exact gr5) (by rw [hσ6, AMem.get_push, if_pos rfl]) rfl rfl
  have n6 : σ6.next = σ5.next + 1 := by simp [hσ6]
  have g16 : (σ6.push (.row 4 true ([.int .u8 A.1.kind, .int .i64 A.1.n, v2, v3] ++ [.int .u8 B.1.kind, .int .i64 B.1.n, w2, w3]))).get (σ.next + 1) = some (.row 4 true [.int .u8 7, .int .i64 0, .vs .nil [], .slice σ3.next 0 1 (some 1) 4]) := by rw [AMem.get_push, if_neg (by omega), hσ6, AMem.get_push, if_neg (by omega)]; exact g15
  have g06 : (σ6.push (.row 4 true ([.int .u8 A.1.kind, .int .i64 A.1.n, v2, v3] ++ [.int .u8 B.1.kind, .int .i64 B.1.n, w2, w3]))).get σ.next = some (.row 4 true [.int .u8 0, .int .i64 0, .vs .nil [], .vs .nil []]) := by rw [AMem.get_push, if_neg (by omega), hσ6, AMem.get_push, if_neg (by omega)]; exact g05
  obtain ⟨σ7, hσ7⟩ : ∃ s, s = σ6.push (.row 4 true ([.int .u8 A.1.kind, .int .i64 A.1.n, v2, v3] ++ [.int .u8 B.1.kind, .int .i64 B.1.n, w2, w3])) := ⟨_, rfl⟩
  have gr7 : σ7.get (σ5.next + 1) = some (.row 4 true ([.int .u8 A.1.kind, .int .i64 A.1.n, v2, v3] ++ [.int .u8 B.1.kind, .int .i64 B.1.n, w2, w3])) := by rw [hσ7, AMem.get_push, if_pos n6]
  have k7 : ∀ s, s < σ5.next → σ7.get s = σ5.get s := fun s hs => by rw [hσ7, AMem.get_push, if_neg (by omega), hσ6, AMem.get_push, if_neg (by omega)]
  have n7 : σ7.next = σ5.next + 2 := by rw [hσ7, AMem.next_push]; omega
  rw [n6, ← hσ7] at hap
  rw [← hσ7] at g16 g06
  rw [hσ6] at hap
  rw [hσ2] at e1
  rw [hσ4] at h1
  simp only [tyEl] at hap
  have x3 : ¬ σ.next + 1 = σ.next := by omega
  have x4 : ¬ σ.next = σ.next + 1 := by omega
  have x5 : ¬ σ3.next = σ.next + 1 := by omega
  have x6 : ¬ σ5.next = σ.next + 1 := by omega
  have b2 : ((7 : Int) == 2) = false := rfl
  have b4 : ((7 : Int) == 4) = false := rfl
  have b5 : ((7 : Int) == 5) = false := rfl
  have b6 : ((7 : Int) == 6) = false := rfl
  have b7 : ((7 : Int) == 7) = true := rfl
  have ve2 := cells_one e2
  have run : ∃ T1, execC lawProg (callN lawProg k) k 122 70 (bodyOf Tryz.f122) (initT 0 [.ptr q 0, .int .i64 dp] .nil) σ = some (.ret, T1, (σ7.put (σ.next + 1) (.row 4 true [.int .u8 7, .int .i64 0, .vs .nil [], .slice (σ5.next + 1) 0 2 none 4])).put σ.next (.row 4 true [.int .u8 7, .int .i64 0, .vs .nil [], .slice (σ5.next + 1) 0 2 none 4])) ∧ T1.get 4 = some (.ptr σ.next 0) := by
    simp only [bodyOf, Tryz.f122, Option.getD_some, initT, dx, reduceIte, zLt, zLe, zEq, zAd, zMu, zSu, zBe, yEq, yLt, yLe, yTn, reduceCtorEq, sx, fx122, c1, hgt, c4, c3, x3, x4, x5, x6, b2, b4, b5, b6, b7, hdw, e1, e2, e3, g13, h1, h2, h3, g15, hap, g16, g06]
    exact ⟨_, rfl, by simp only [Tr.get_set, zEq, reduceIte]⟩
  obtain ⟨T1, r1, r2⟩ := run
  refine ⟨.slice (σ5.next + 1) 0 2 none 4, _, q_call (first := []) (caps := []) (vs := [.agg [.int .u8 7, .int .i64 0, .vs .nil [], .slice (σ5.next + 1) 0 2 none 4]]) fn122 rfl (by simp [Tryz.f122]) r1 (by simp) (by simp only [Tryz.f122, resultsA, resultA, dx, reduceIte, zLt, zLe, zEq, zAd, zMu, zSu, zBe, yEq, yLt, yLe, yTn, reduceCtorEq, sx, fx122, r2]), rfl, ?_, ⟨K5, by rw [AMem.get_put, if_neg (by omega), AMem.get_put, if_neg (by omega), k7 q (by omega)]; exact h5⟩, by simp only [AMem.next_put]; omega, fun s hs hne => ?_⟩
  · -- how it reads
    have pA : ReadsL (f + 4) (σ.next + 2) σ7 [] [.int .u8 A.1.kind, .int .i64 A.1.n, v2, v3] (elC A.1) := by
      have p1 : ReadsL (f + 3 + 1) (σ.next + 2) σ7 [] [.int .u8 A.1.kind, .int .i64 A.1.n] [.int .u8 A.1.kind, .int .i64 A.1.n] := ReadsL.pure rfl
      refine p1.append (e4.same (by omega) (by omega) (fun s s1 s2 _ => ?_) fun _ _ _ h => h)
      rw [k7 s (by omega), h7 s (by omega) (by omega), k4 s s2 (by omega)]
    have pB : ReadsL (f + 4) (σ.next + 2) σ7 [] [.int .u8 B.1.kind, .int .i64 B.1.n, w2, w3] (elC B.1) := by
      have p1 : ReadsL (f + 3 + 1) (σ.next + 2) σ7 [] [.int .u8 B.1.kind, .int .i64 B.1.n] [.int .u8 B.1.kind, .int .i64 B.1.n] := ReadsL.pure rfl
      exact p1.append (h4.same (by omega) (by omega) (fun s s1 s2 _ => k7 s s2) fun _ _ _ h => h)
    have hg : Grew (σ.next + 2) σ7 4 true (.slice (σ5.next + 1) 0 2 none 4) 2 [[.int .u8 A.1.kind, .int .i64 A.1.n, v2, v3], [.int .u8 B.1.kind, .int .i64 B.1.n, w2, w3]].flatten := ⟨rfl, .inr ⟨σ5.next + 1, by omega, by omega, rfl, by simpa using gr7⟩⟩
    have hr := recs_reads (d := f + 3) (bad := []) (ps := [elC A.1, elC B.1]) hg (by simpa using pA.append pB) (fun h => by omega) rfl (by decide) rfl (by simp) (by simp [elC])
    have hlk : lkOf 2 = .some := rfl
    rw [hlk] at hr
    have hm : [elC A.1, elC B.1].map AVal.agg = [A.1, B.1].map elV := by simp [elV_eq]
    rw [hm] at hr
    exact hr.same (by omega) (by simp) (fun s h1 _ _ => by rw [AMem.get_put, if_neg (by omega), AMem.get_put, if_neg (by omega)]) fun _ _ _ h => h
  · rw [AMem.get_put, if_neg (by omega), AMem.get_put, if_neg (by omega), k7 s (by omega), h7 s (by omega) hne, k4 s (by omega) (by omega), e7 s (by omega) hne, y2 s (by omega)]
    exact c5 s hs hne
theorem uel_callN : ∀ (f k : Nat), f ≤ 4 → f + 200 ≤ k → UElRuns f k := by
  intro f
  induction f with
  | zero =>
    intro k _ hk q K bs σ dp hdp hq hqn hb
    obtain ⟨σ', h1, h2, h3, h4⟩ := uel_plain (k := k) (f := 0) hdp hq hqn hb (.inl rfl) (by omega)
    exact ⟨.vs .nil [], .vs .nil [], σ', h1, rfl, rfl, ReadsL.pure rfl, h2, h3, h4⟩
  | succ f ih =>
    intro k hf hk q K bs σ dp hdp hq hqn hb
    obtain ⟨k, rfl⟩ : ∃ m, k = m + 1 := ⟨k - 1, by omega⟩
    have ihk : UElRuns f k := ih k (by omega) (by omega)
    by_cases h2 : bs.headD 0 = 2
    · obtain ⟨σ', e1, e2, e3, e4⟩ := uel_num (k := k + 1) (f := f + 1) hdp (by omega) hq hqn hb h2 (by omega)
      have hu : uEl (f + 1) bs = (.mk 2 (uNum (bs.drop 1)).1 .nil [] .nil [], (uNum (bs.drop 1)).2) := by rw [uEl, if_pos h2]
      rw [hu]
      exact ⟨.vs .nil [], .vs .nil [], σ', e1, rfl, rfl, ReadsL.pure rfl, e2, e3, e4⟩
    by_cases h4 : bs.headD 0 = 4
    · obtain ⟨σ', e1, e2, e3, e4⟩ := uel_name (k := k + 1) (f := f + 1) hdp (by omega) hq hqn hb h4 (by omega)
      have hu : uEl (f + 1) bs = (.mk 4 ((uCnt 6 (bs.drop 1)).1 : Nat) .nil [] .nil [], (uCnt 6 (bs.drop 1)).2) := by rw [uEl, if_neg h2, if_pos h4]
      rw [hu]
      exact ⟨.vs .nil [], .vs .nil [], σ', e1, rfl, rfl, ReadsL.pure rfl, e2, e3, e4⟩
    by_cases h5 : bs.headD 0 = 5
    · obtain ⟨x2, x3, σ', e1, e2, e3, e4, e5, e6, e7⟩ := uel_set (k := k) (f := f) hdp (by omega) hq hqn hb h5 (by omega)
      rw [uEl, if_neg h2, if_neg h4, if_pos h5]
      exact ⟨x2, x3, σ', e1, e2, e3, e4, e5, e6, e7⟩
    by_cases h6 : bs.headD 0 = 6
    · obtain ⟨x2, x3, σ', e1, e2, e3, e4, e5, e6, e7⟩ := uel_map (k := k) (f := f) ihk hdp (by omega) hq hqn hb h6 (by omega)
      rw [uEl, if_neg h2, if_neg h4, if_neg h5, if_pos h6]
      exact ⟨x2, x3, σ', e1, e2, e3, e4, e5, e6, e7⟩
    by_cases h7 : bs.headD 0 = 7
    · obtain ⟨x3, σ', e1, e3, e4, e5, e6, e7⟩ := uel_pair (k := k) (f := f) ihk hdp (by omega) hq hqn hb h7 (by omega)
      rw [uEl, if_neg h2, if_neg h4, if_neg h5, if_neg h6, if_pos h7]
      have p1 : ReadsL (f + 4 + 1) σ.next σ' [] [.vs .nil []] [.vs .nil []] := ReadsL.pure rfl
      exact ⟨.vs .nil [], x3, σ', e1, rfl, e3, p1.append e4, e5, e6, e7⟩
    · obtain ⟨σ', e1, e2, e3, e4⟩ := uel_plain (k := k + 1) (f := f + 1) hdp hq hqn hb (.inr ⟨h2, h4, h5, h6, h7⟩) (by omega)
      have hu : uEl (f + 1) bs = (.mk (bs.headD 0 : Nat) 0 .nil [] .nil [], bs.drop 1) := by rw [uEl, if_neg h2, if_neg h4, if_neg h5, if_neg h6, if_neg h7]
      rw [hu]
      exact ⟨.vs .nil [], .vs .nil [], σ', e1, rfl, rfl, ReadsL.pure rfl, e2, e3, e4⟩
end Go.Proofs.YtjckhhkhgjbpaaaGreatDoor

/- elem.Read. -/
set_option maxRecDepth 100000
set_option linter.unusedSimpArgs false
set_option linter.unusedVariables false
namespace Go.Proofs.YtjckhhkhgjbpaaaGreatDoor
open Go Go.Proofs.YtjckhhkhgjbpaaaGreatDoor.Pale
variable {k : Nat} {σ : AMem}

theorem Fit.up {m m' d d' : Nat} {e : El} (h : Fit m d e) (hm : m ≤ m') (hd : d ≤ d') : Fit m' d' e := Fit.mono hm h hd
def elZ : List AVal := [.int .u8 0, .int .i64 0, .vs .nil [], .vs .nil []]
/-- The element with some bytes, or the error. -/
noncomputable def erV (tabs : List Tab) (d : Nat) (s : Shp) (E : Int) (bs : List Nat) : List AVal × Int :=
  if E = 0 then (if bs.length ≤ 20000 then (if isElB (tlOf tabs) d s (uEl 4 bs).1 = true ∧ encE d (uEl 4 bs).1 = bs then (elC (uEl 4 bs).1, 0) else (elZ, 4)) else (elZ, 5)) else (elZ, E)
theorem snapF_bool_inv {σ : AMem} {d : Nat} {v : AVal} {x : Bool} {S : List Nat} (h : snapF false σ (d + 1) v = some (.bool x, S)) : v = .bool x := by
  by_cases hv : ∃ y, v = .bool y
  · obtain ⟨y, rfl⟩ := hv
    have h2 : some (AVal.bool y, ([] : List Nat)) = some (.bool x, S) := h
    cases h2
    rfl
  cases v <;> simp only [snapF] at h
  case bool y => exact absurd ⟨_, rfl⟩ hv
  case agg cs => obtain ⟨⟨l, a⟩, _, h2⟩ := map_some h; cases h2
  case tuple cs => obtain ⟨⟨l, a⟩, _, h2⟩ := map_some h; cases h2
  case ptr r off =>
    split at h
    · split at h
      · obtain ⟨⟨l, a⟩, _, h2⟩ := map_some h; cases h2
      · cases h
    · cases h
  case slice r off len cap z =>
    split at h
    · split at h
      · split at h
        · split at h
          · cases h
          · cases h
        · cases h
      · cases h
    · cases h
  all_goals first | (cases h; done) | (simp at h; done)
theorem pureRun_bool {call : CallA} {f : AVal} {args : List AVal} {x b : Bool} (h : pureRun call f args = some (.bool x, b)) : b = true := by
  unfold pureRun at h
  split at h
  · cases h
  · rename_i v σ1 hc
    split at h
    · cases h; rfl
    · rename_i hn
      split at h
      · rename_i w S hw
        cases h
        have hv := snapF_bool_inv (d := 11) hw
        subst hv
        cases hn
      · cases h
/-- What a call gives on values, it gives on what reads as them. -/
theorem pureCall_lift {call : CallA} {g : Nat} {args args' : List AVal} {seen : List Nat} {x : Bool} {σ0 : AMem} (hp : snapL (snapF false σ0 snapDepth) args' = some (args', [])) (hm : lawProg.memo g args' = none) (h : pureCall lawProg call (.func g [] []) args' σ0 = some (.bool x, σ0)) (hs : snapL (snapF false σ snapDepth) args = some (args', seen)) : pureCall lawProg call (.func g [] []) args σ = some (.bool x, σ) := by
  simp only [pureCall, hp, memoRun, isFn, hm] at h
  split at h
  · cases h
  · rename_i v b hr
    simp only [Option.some.injEq, Prod.mk.injEq] at h
    obtain ⟨rfl, _⟩ := h
    have hb := pureRun_bool hr
    subst hb
    exact pureCall_of hs hm hr
theorem reads_el {d low : Nat} {σ : AMem} {x2 x3 : AVal} {e : El} (h : ReadsL (d + 1) low σ [] [x2, x3] [.vs e.kk (intsV e.keys), .vs e.dk (e.kids.map elV)]) : ∃ S, snapF false σ (d + 2) (.agg [.int .u8 e.kind, .int .i64 e.n, x2, x3]) = some (.agg (elC e), S) := by
  have p1 : ReadsL (d + 1) low σ [] [.int .u8 e.kind, .int .i64 e.n] [.int .u8 e.kind, .int .i64 e.n] := ReadsL.pure rfl
  obtain ⟨S, h1, _⟩ := p1.append h
  exact ⟨S, by
    show (snapL (snapF false σ (d + 1)) [.int .u8 e.kind, .int .i64 e.n, x2, x3]).map (fun (l, a) => (AVal.agg l, a)) = _
    have h2 : snapL (snapF false σ (d + 1)) [.int .u8 e.kind, .int .i64 e.n, x2, x3] = some (elC e, S) := h1
    rw [h2]; rfl⟩
/-- slices.Equal, where only lists of one length need be short. -/
theorem equal_call' (v1 v2 : VK) (a b : List Nat) (ha : a.length = b.length → a.length ≤ 50000) (hk : 60001 ≤ k) : pureCall lawProg (callN lawProg k) (.func 59 [] []) [.vs v1 (bytesV a), .vs v2 (bytesV b)] σ = some (.bool (decide (a = b)), σ) := by
  by_cases hl : a.length = b.length
  · exact equal_call v1 v2 a b (ha hl) hk
  obtain ⟨k, rfl⟩ : ∃ m, k = m + 1 := ⟨k - 1, by omega⟩
  have hdec : decide (a = b) = false := decide_eq_false (fun e => hl (by rw [e]))
  rw [hdec]
  have run : ∃ T1 σ1, execC lawProg (callN lawProg k) k 59 26 (bodyOf Tryz.f59) (initT 0 [.vs v1 (bytesV a), .vs v2 (bytesV b)] .nil) AMem.empty = some (.ret, T1, σ1) ∧ T1.get 4 = some (.bool false) := by
    have hbne : ((a.length : Int) != (b.length : Int)) = true := by simp; omega
    simp only [bodyOf, Tryz.f59, Option.getD_some, initT, dx, reduceIte, zLt, zLe, zEq, zAd, zMu, zSu, zBe, yEq, yLt, yLe, yTn, reduceCtorEq, sx, fx59, bytesV_length, hbne]
    exact ⟨_, _, rfl, by simp only [Tr.get_set, zEq, reduceIte]⟩
  obtain ⟨T1, σ1, h1, h2⟩ := run
  exact pureCall_of rfl (memo59 _) (pureRun_of fn59 rfl (by simp [Tryz.f59]) h1 (by simp) (res_one h2) rfl)
theorem eread_call {lk : VK} {tabs : List Tab} {d dS k0 : Nat} {s : Shp} {E : Int} (hl : tabs.length ≤ 1000) (htl : ∀ n, tlOf tabs n ≤ 1000) (hcs : CS k0 lk tabs s E) (hs : E = 0 → ShOk tabs dS s) (hd5 : 5 ≤ d) (hd : encL d ≤ 100000000000) (vk : VK) (bs : List Nat) (hb : ∀ b, b ∈ bs → b < 256) (hk : 4 * d + 70000 ≤ k) (hk0 : k0 + 10 ≤ k) :
    ∀ σ, pureCall lawProg (callN lawProg k) (.func 55 [] []) [.agg (latC lk tabs s), .vs vk (bytesV bs)] σ = some (.tuple [.agg (erV tabs d s E bs).1, .int .i64 (erV tabs d s E bs).2], σ) := by
  intro σ
  obtain ⟨k, rfl⟩ : ∃ m, k = m + 2 := ⟨k - 2, by omega⟩
  have heq : ∀ (a b : Int), (a != b) = !decide (a = b) := fun a b => by rw [Bool.eq_iff_iff]; simp
  obtain ⟨b0, hop⟩ := open_run (k := k) (d := d) (vk := .nil) hl hcs hs [] (by simp) (by simp) (by omega) (by omega)
  have hoE : openE tabs d s E [] = E := by unfold openE; split <;> simp_all
  rw [hoE] at hop
  have hopc := fun (σ : AMem) => pureCall_of0 (σ := σ) (args := [.agg (latC lk tabs s), .vs .nil []]) (args' := [.agg (latC lk tabs s), .vs .nil []]) rfl (memo117 _) hop
  have fin : ∀ {T1 : Tr AVal} {σ1 : AMem}, execC lawProg (callN lawProg (k + 1)) (k + 1) 55 43 (bodyOf Tryz.f55) (initT 0 [.agg (latC lk tabs s), .vs vk (bytesV bs)] .nil) AMem.empty = some (.ret, T1, σ1) → ∀ {c : List AVal} {n : Int} {cs : List AVal} {S : List Nat}, resultsA lawProg T1 σ1 Tryz.f55.results.toList = some [.agg cs, .int .i64 n] → snapF false σ1 11 (.agg cs) = some (.agg c, S) → erV tabs d s E bs = (c, n) → pureCall lawProg (callN lawProg (k + 2)) (.func 55 [] []) [.agg (latC lk tabs s), .vs vk (bytesV bs)] σ = some (.tuple [.agg (erV tabs d s E bs).1, .int .i64 (erV tabs d s E bs).2], σ) := by
    intro T1 σ1 h1 c n cs S h2 h3 h4
    rw [h4]
    have hsn : snapF false σ1 snapDepth (packA [.agg cs, .int .i64 n]) = some (.tuple [.agg c, .int .i64 n], S ++ ([] ++ [])) := by
      have hi : snapF false σ1 11 (.int .i64 n) = some (.int .i64 n, []) := rfl
      show (snapL (snapF false σ1 11) [.agg cs, .int .i64 n]).map (fun (l, a) => (AVal.tuple l, a)) = _
      simp only [snapL, h3, hi, Option.map_some]
    obtain ⟨b, h⟩ := pureRun_any fn55 rfl (by simp [Tryz.f55]) h1 (by simp) h2 hsn
    exact pureCall_of0 (args' := [.agg (latC lk tabs s), .vs vk (bytesV bs)]) rfl (memo55 _) h
  by_cases hE : E = 0
  · subst hE
    have e00 : ((0 : Int) != 0) = false := rfl
    by_cases hlen : bs.length ≤ 20000
    · have hg : ¬ ((bs.length : Nat) : Int) > 20000 := by omega
      let σ0 : AMem := ((((AMem.empty.push (.row 4 true (latC lk tabs s))).push (.row 4 true elZ)).push (.row 4 true [.vs .nil [], .int .u8 0, .str [], .vs .nil []])).put 2 (.row 4 true (latC lk tabs s))).push (.row 1 true [.vs vk (bytesV bs)])
      have n0 : σ0.next = 4 := rfl
      have hU : UElRuns 4 (k + 1) := uel_callN 4 (k + 1) (by omega) (by omega)
      obtain ⟨x2, x3, σ', c1, c2, c3, c4, _, c6, c7⟩ := hU (q := 3) (K := vk) (bs := bs) (σ := σ0) 1 (by omega) (by simp only [σ0, AMem.get_push, AMem.get_put, AMem.next_push, AMem.next_put, next_empty, zAd, zEq, reduceIte]) (by omega) hb
      have hfit : Fit 1000 d (uEl 4 bs).1 := (uEl_fit 4 bs).up (by omega) hd5
      generalize hu : (uEl 4 bs).1 = e at *
      have g0 := (c7 0 (by omega) (by omega)).trans (by simp only [σ0, AMem.get_push, AMem.get_put, AMem.next_push, AMem.next_put, next_empty, zAd, zEq, reduceIte] : σ0.get 0 = some (.row 4 true (latC lk tabs s)))
      have g1 := (c7 1 (by omega) (by omega)).trans (by simp only [σ0, AMem.get_push, AMem.get_put, AMem.next_push, AMem.next_put, next_empty, zAd, zEq, reduceIte] : σ0.get 1 = some (.row 4 true elZ))
      have g2 := (c7 2 (by omega) (by omega)).trans (by simp only [σ0, AMem.get_push, AMem.get_put, AMem.next_push, AMem.next_put, next_empty, zAd, zEq, reduceIte] : σ0.get 2 = some (.row 4 true (latC lk tabs s)))
      obtain ⟨σ2, hσ2⟩ : ∃ t, t = (σ'.push (.row 4 true elZ)).put σ'.next (.row 4 true [.int .u8 e.kind, .int .i64 e.n, x2, x3]) := ⟨_, rfl⟩
      have n2 : σ2.next = σ'.next + 1 := by simp [hσ2]
      have k2 : ∀ s, s < σ'.next → σ2.get s = σ'.get s := fun s hs => by rw [hσ2, AMem.get_put, if_neg (by omega), AMem.get_push, if_neg (by omega)]
      have rd2 : ReadsL 8 4 σ2 [] [x2, x3] [.vs e.kk (intsV e.keys), .vs e.dk (e.kids.map elV)] := c4.same (by omega) (by omega) (fun s _ h2 _ => k2 s h2) fun _ _ _ h => h
      obtain ⟨S9, hs9⟩ := reads_el (d := 7) rd2
      have hs10 := snapF_up' _ _ _ _ hs9
      have hs11 := snapF_up' _ _ _ _ hs10
      have hs12 := snapF_up' _ _ _ _ hs11
      have hx1 : ¬ σ'.next = 0 := by omega
      have hx2 : ¬ σ'.next = 2 := by omega
      have hx3 : ¬ σ'.next = 1 := by omega
      -- is it right
      have hie : pureCall lawProg (callN lawProg (k + 1)) (.func 123 [] []) [.agg (latC lk tabs s), .agg (shpC s), .agg [.int .u8 e.kind, .int .i64 e.n, x2, x3]] σ2 = some (.bool (isElB (tlOf tabs) d s e), σ2) := by
        have hsl : snapL (snapF false σ2 snapDepth) [.agg (latC lk tabs s), .agg (shpC s), .agg [.int .u8 e.kind, .int .i64 e.n, x2, x3]] = some ([.agg (latC lk tabs s), .agg (shpC s), .agg (elC e)], [] ++ ([] ++ (S9 ++ []))) := by
          have h1 : snapF false σ2 snapDepth (.agg (latC lk tabs s)) = some (.agg (latC lk tabs s), []) := rfl
          have h2 : snapF false σ2 snapDepth (.agg (shpC s)) = some (.agg (shpC s), []) := rfl
          have h3 : snapF false σ2 snapDepth (.agg [.int .u8 e.kind, .int .i64 e.n, x2, x3]) = some (.agg (elC e), S9) := hs12
          simp only [snapL, h1, h2, h3]
        exact pureCall_lift (σ0 := σ2) rfl (memo123 _) (isElem_call hl d (k + 1) (by omega) e dS s s σ2 hfit (hs rfl)) hsl
      have v2 := cells_one c2
      have v3 := cells_one c3
      have g0' := (k2 0 (by omega)).trans g0
      have g1' := (k2 1 (by omega)).trans g1
      have g2' := (k2 2 (by omega)).trans g2
      have hs11' : snapF false σ2 11 (.agg [.int .u8 e.kind, .int .i64 e.n, x2, x3]) = some (.agg (elC e), S9) := hs11
      have gd : ∃ S, snapF false (σ2.put 1 (.row 4 true [.int .u8 e.kind, .int .i64 e.n, x2, x3])) 11 (.agg [.int .u8 e.kind, .int .i64 e.n, x2, x3]) = some (.agg (elC e), S) := by
        have rd3 : ReadsL 8 4 (σ2.put 1 (.row 4 true [.int .u8 e.kind, .int .i64 e.n, x2, x3])) [] [x2, x3] [.vs e.kk (intsV e.keys), .vs e.dk (e.kids.map elV)] := rd2.same (by omega) (by simp) (fun s h1 _ _ => by rw [AMem.get_put, if_neg (by omega)]) fun _ _ _ h => h
        obtain ⟨S, hs⟩ := reads_el (d := 7) rd3
        have hs' := snapF_up' _ _ _ _ (snapF_up' _ _ _ _ hs)
        exact ⟨S, hs'⟩
      simp only [σ0] at c1
      have e40 : ((4 : Int) != 0) = true := rfl
      cases hB : isElB (tlOf tabs) d s e with
      | false =>
        rw [hB] at hie
        have hr : erV tabs d s 0 bs = (elZ, 4) := by
          unfold erV
          rw [if_pos rfl, if_pos hlen, hu, if_neg (by rw [hB]; simp)]
        have run : ∃ T1 σ1, execC lawProg (callN lawProg (k + 1)) (k + 1) 55 43 (bodyOf Tryz.f55) (initT 0 [.agg (latC lk tabs s), .vs vk (bytesV bs)] .nil) AMem.empty = some (.ret, T1, σ1) ∧ resultsA lawProg T1 σ1 Tryz.f55.results.toList = some [.agg elZ, .int .i64 4] := by
          rw [hσ2] at hie
          simp only [latC, shpC, elZ] at hopc c1 g0 g1 g2 g1' hie ⊢
          simp only [bodyOf, Tryz.f55, Option.getD_some, initT, dx, reduceIte, zLt, zLe, zEq, zAd, zMu, zSu, zBe, yEq, yLt, yLe, yTn, reduceCtorEq, sx, fx55, hopc, e00, bytesV_length, hg, c1, c2, c3, hx1, hx2, hx3, g0, g2, hie, g1', g1]
          refine ⟨_, _, rfl, ?_⟩
          simp only [Tryz.f55, resultsA, resultA, dx, reduceIte, zLt, zLe, zEq, zAd, zMu, zSu, zBe, yEq, yLt, yLe, yTn, reduceCtorEq, sx, fx55]
        obtain ⟨T1, σ1, h1, h2⟩ := run
        exact fin h1 h2 (S := []) rfl hr
      | true =>
        rw [hB] at hie
        obtain ⟨K, hp⟩ := epack_call (k := k + 1) (isElB_VE htl hB) hd (by omega)
        have hp' := hp (x := .agg [.int .u8 e.kind, .int .i64 e.n, x2, x3]) (S := S9) (σ := σ2) (by rw [elV_eq]; exact hs12)
        have hq := equal_call' (k := k + 1) (σ := σ2) K vk (encE d e) bs (fun h => by omega) (by omega)
        by_cases hne : encE d e = bs
        · rw [decide_eq_true hne] at hq
          have hr : erV tabs d s 0 bs = (elC e, 0) := by
            unfold erV
            rw [if_pos rfl, if_pos hlen, hu, if_pos ⟨hB, hne⟩]
          have run : ∃ T1, execC lawProg (callN lawProg (k + 1)) (k + 1) 55 43 (bodyOf Tryz.f55) (initT 0 [.agg (latC lk tabs s), .vs vk (bytesV bs)] .nil) AMem.empty = some (.ret, T1, σ2.put 1 (.row 4 true [.int .u8 e.kind, .int .i64 e.n, x2, x3])) ∧ resultsA lawProg T1 (σ2.put 1 (.row 4 true [.int .u8 e.kind, .int .i64 e.n, x2, x3])) Tryz.f55.results.toList = some [.agg [.int .u8 e.kind, .int .i64 e.n, x2, x3], .int .i64 0] := by
            rw [hσ2] at hie hp' hq g1' ⊢
            simp only [latC, shpC, elZ] at hopc c1 g0 g1 g2 g1' hie hp' hq ⊢
            simp only [bodyOf, Tryz.f55, Option.getD_some, initT, dx, reduceIte, zLt, zLe, zEq, zAd, zMu, zSu, zBe, yEq, yLt, yLe, yTn, reduceCtorEq, sx, fx55, hopc, e00, bytesV_length, hg, c1, c2, c3, hx1, hx2, hx3, g0, g2, hie, hp', hq, g1', g1]
            refine ⟨_, rfl, ?_⟩
            simp only [Tryz.f55, resultsA, resultA, dx, reduceIte, zLt, zLe, zEq, zAd, zMu, zSu, zBe, yEq, yLt, yLe, yTn, reduceCtorEq, sx, fx55]
          obtain ⟨T1, h1, h2⟩ := run
          obtain ⟨S, gd⟩ := gd
          exact fin h1 h2 (S := S) gd hr
        · rw [decide_eq_false hne] at hq
          have hr : erV tabs d s 0 bs = (elZ, 4) := by
            unfold erV
            rw [if_pos rfl, if_pos hlen, hu, if_neg (by rintro ⟨_, h⟩; exact hne h)]
          have run : ∃ T1 σ1, execC lawProg (callN lawProg (k + 1)) (k + 1) 55 43 (bodyOf Tryz.f55) (initT 0 [.agg (latC lk tabs s), .vs vk (bytesV bs)] .nil) AMem.empty = some (.ret, T1, σ1) ∧ resultsA lawProg T1 σ1 Tryz.f55.results.toList = some [.agg elZ, .int .i64 4] := by
            rw [hσ2] at hie hp' hq g1'
            simp only [latC, shpC, elZ] at hopc c1 g0 g1 g2 g1' hie hp' hq ⊢
            simp only [bodyOf, Tryz.f55, Option.getD_some, initT, dx, reduceIte, zLt, zLe, zEq, zAd, zMu, zSu, zBe, yEq, yLt, yLe, yTn, reduceCtorEq, sx, fx55, hopc, e00, bytesV_length, hg, c1, c2, c3, hx1, hx2, hx3, g0, g2, hie, hp', hq, g1', g1]
            refine ⟨_, _, rfl, ?_⟩
            simp only [Tryz.f55, resultsA, resultA, dx, reduceIte, zLt, zLe, zEq, zAd, zMu, zSu, zBe, yEq, yLt, yLe, yTn, reduceCtorEq, sx, fx55]
          obtain ⟨T1, σ1, h1, h2⟩ := run
          exact fin h1 h2 (S := []) rfl hr
    · have hg : ((bs.length : Nat) : Int) > 20000 := by omega
      have hr : erV tabs d s 0 bs = (elZ, 5) := by unfold erV; rw [if_pos rfl, if_neg hlen]
      have run : ∃ T1 σ1, execC lawProg (callN lawProg (k + 1)) (k + 1) 55 43 (bodyOf Tryz.f55) (initT 0 [.agg (latC lk tabs s), .vs vk (bytesV bs)] .nil) AMem.empty = some (.ret, T1, σ1) ∧ resultsA lawProg T1 σ1 Tryz.f55.results.toList = some [.agg elZ, .int .i64 5] := by
        simp only [latC, shpC, elZ] at hopc ⊢
        simp only [bodyOf, Tryz.f55, Option.getD_some, initT, dx, reduceIte, zLt, zLe, zEq, zAd, zMu, zSu, zBe, yEq, yLt, yLe, yTn, reduceCtorEq, sx, fx55, hopc, e00, bytesV_length, hg]
        refine ⟨_, _, rfl, ?_⟩
        simp only [Tryz.f55, resultsA, resultA, dx, reduceIte, zLt, zLe, zEq, zAd, zMu, zSu, zBe, yEq, yLt, yLe, yTn, reduceCtorEq, sx, fx55]
      obtain ⟨T1, σ1, h1, h2⟩ := run
      exact fin h1 h2 (S := []) rfl hr
  · have e0 : (E != 0) = true := by rw [heq, decide_eq_false hE]; rfl
    have hr : erV tabs d s E bs = (elZ, E) := by unfold erV; rw [if_neg hE]
    have run : ∃ T1 σ1, execC lawProg (callN lawProg (k + 1)) (k + 1) 55 43 (bodyOf Tryz.f55) (initT 0 [.agg (latC lk tabs s), .vs vk (bytesV bs)] .nil) AMem.empty = some (.ret, T1, σ1) ∧ resultsA lawProg T1 σ1 Tryz.f55.results.toList = some [.agg elZ, .int .i64 E] := by
      simp only [latC, shpC, elZ] at hopc ⊢
      simp only [bodyOf, Tryz.f55, Option.getD_some, initT, dx, reduceIte, zLt, zLe, zEq, zAd, zMu, zSu, zBe, yEq, yLt, yLe, yTn, reduceCtorEq, sx, fx55, hopc, e0]
      refine ⟨_, _, rfl, ?_⟩
      simp only [Tryz.f55, resultsA, resultA, dx, reduceIte, zLt, zLe, zEq, zAd, zMu, zSu, zBe, yEq, yLt, yLe, yTn, reduceCtorEq, sx, fx55]
    obtain ⟨T1, σ1, h1, h2⟩ := run
    exact fin h1 h2 (S := []) rfl hr
end Go.Proofs.YtjckhhkhgjbpaaaGreatDoor

/- The reader's counts and spans. -/
set_option maxRecDepth 100000
set_option linter.unusedSimpArgs false
set_option linter.unusedVariables false
namespace Go.Proofs.YtjckhhkhgjbpaaaGreatDoor
open Go Go.Proofs.YtjckhhkhgjbpaaaGreatDoor.Pale
variable {k : Nat} {σ : AMem}

/-- A count is read; so many bytes at most (the program's two readers differ only there). -/
theorem rcount_call {q : Nat} {bs : List Nat} (hq : σ.get q = some (.row 1 true [.vs .some (bytesV bs)])) (hb : ∀ b, b ∈ bs → b < 256) (hk : 20 ≤ k) : ∃ σ', callN lawProg k (.func 57 [] []) [.ptr q 0] σ = some (.int .i64 ((uCnt 4 bs).1 : Nat), σ') ∧ Reads q (uCnt 4 bs).2 σ σ' := by
  obtain ⟨k, rfl⟩ : ∃ m, k = m + 1 := ⟨k - 1, by omega⟩
  have run : ∃ T1 σ1, execC lawProg (callN lawProg k) k 57 23 (bodyOf Tryz.f57) (initT 0 [.ptr q 0] .nil) σ = some (.ret, T1, σ1) ∧ T1.get 2 = some (.int .i64 ((uCnt 4 bs).1 : Nat)) ∧ Reads q (uCnt 4 bs).2 σ σ1 := by
    simp only [bodyOf, Tryz.f57, Option.getD_some, initT, dx, reduceIte, zLt, zLe, zEq, zAd, zMu, zSu, zBe, yEq, yLt, yLe, yTn, reduceCtorEq, sx, fx57]
    generalize hL : execC _ _ _ _ _ (Code.loop _) _ _ = x
    obtain ⟨e, T', σ', rfl, _, rfl, t2, hg⟩ : ∃ e T' σ', x = some (e, T', σ') ∧ e ≠ .normal ∧ (e = .exit 0 ∧ T'.get 2 = some (.int .i64 ((uCnt 4 bs).1 : Nat)) ∧ Reads q (uCnt 4 bs).2 σ σ') := by
      rw [← hL]
      refine exec_loop2 (fun i T σ' => i ≤ 4 ∧ ∃ (n : Nat) (r : List Nat), T.get 0 = some (.ptr q 0) ∧ T.get 2 = some (.int .i64 (n : Nat)) ∧ T.get 3 = some (.int .i64 i) ∧ T.get 4 = some (.int .i64 ((128 ^ i : Nat) : Int)) ∧ n < 128 ^ i ∧ (uCnt 4 bs).1 = n + 128 ^ i * (uCnt (4 - i) r).1 ∧ (uCnt 4 bs).2 = (uCnt (4 - i) r).2 ∧ (∀ b, b ∈ r → b < 256) ∧ Reads q r σ σ') 4 (by omega) ?_ ?_ ?_
      · rintro i hi T σ' ⟨_, n, r, t0, t2, t3, t4, hn, h1, h2, hr, hg⟩
        have hgq := hg.1
        obtain ⟨σ2, c1, c2⟩ := one_call (k := k) hgq hr (by omega)
        have hc := headD_lt hr
        obtain ⟨p1, p2⟩ := pow_small (i := i + 1) (by omega)
        rw [Nat.pow_succ] at p2
        obtain ⟨p3, _⟩ := pow_small (i := i) (by omega)
        rw [show 4 - i = (4 - (i + 1)) + 1 by omega] at h1 h2
        generalize hB : 128 ^ i = B at *
        generalize hcc : r.headD 0 = c at *
        have hlt : (i : Int) < 4 := by omega
        have w0 : IntKind.i64.wrap ((c : Nat) : Int) = ((c : Nat) : Int) := i64_id (by omega) (by omega)
        have e1 : ((c : Nat) : Int).tmod 128 = ((c % 128 : Nat) : Int) := rfl
        have hmB : c % 128 * B ≤ 127 * B := Nat.mul_le_mul_right _ (by omega)
        have w1 : IntKind.i64.wrap (((c % 128 : Nat) : Int) * ((B : Nat) : Int)) = ((c % 128 * B : Nat) : Int) := by rw [← Int.natCast_mul]; exact i64_id (by omega) (by omega)
        have w2 : IntKind.i64.wrap (((n : Nat) : Int) + ((c % 128 * B : Nat) : Int)) = ((n + c % 128 * B : Nat) : Int) := by rw [← Int.natCast_add]; exact i64_id (by omega) (by omega)
        have w3 : IntKind.i64.wrap (((B : Nat) : Int) * 128) = ((B * 128 : Nat) : Int) := by rw [show ((B : Nat) : Int) * 128 = ((B * 128 : Nat) : Int) by omega]; exact i64_id (by omega) (by omega)
        have hw := i64_succ (i := i) (by omega)
        have hst : uCnt (4 - (i + 1) + 1) r = if r.headD 0 < 128 then (r.headD 0, r.drop 1) else (r.headD 0 % 128 + 128 * (uCnt (4 - (i + 1)) (r.drop 1)).1, (uCnt (4 - (i + 1)) (r.drop 1)).2) := rfl
        rw [hst, hcc] at h1 h2
        by_cases h128 : c < 128
        · right
          rw [if_pos h128] at h1 h2
          have hlt2 : ((c : Nat) : Int) < 128 := by omega
          refine ⟨_, _, _, by
            simp only [dx, reduceIte, zLt, zLe, zEq, zAd, zMu, zSu, zBe, yEq, yLt, yLe, yTn, reduceCtorEq, sx, fx57, t0, t2, t3, t4, hlt, c1, w0, e1, w1, w2, hlt2]
            rfl, by simp, rfl, ?_, ?_⟩
          · simp only [Tr.get_set, zEq, reduceIte]
            rw [h1, Nat.mod_eq_of_lt h128, Nat.mul_comm]
          · rw [h2]; exact hg.trans c2
        · left
          rw [if_neg h128] at h1 h2
          have hlt2 : ¬ ((c : Nat) : Int) < 128 := by omega
          refine ⟨_, _, by
            simp only [dx, reduceIte, zLt, zLe, zEq, zAd, zMu, zSu, zBe, yEq, yLt, yLe, yTn, reduceCtorEq, sx, fx57, t0, t2, t3, t4, hlt, c1, w0, e1, w1, w2, w3, hlt2, hw]
            rfl, by omega, n + c % 128 * B, r.drop 1, ?_, ?_, ?_, ?_, ?_, ?_, h2, fun b hb => hr b (List.mem_of_mem_drop hb), hg.trans c2⟩
          · simp only [Tr.get_set, zEq, reduceIte, t0]
          · simp only [Tr.get_set, zEq, reduceIte]
          · simp only [Tr.get_set, zEq, reduceIte]
          · simp only [Tr.get_set, zEq, reduceIte]; rw [Nat.pow_succ, hB]
          · rw [Nat.pow_succ, hB]; omega
          · rw [h1, Nat.pow_succ, hB, Nat.mul_add, Nat.add_assoc, Nat.mul_comm B (c % 128), Nat.mul_assoc]
      · rintro T σ' ⟨_, n, r, t0, t2, t3, t4, hn, h1, h2, hr, hg⟩
        have hlt : ¬ ((4 : Nat) : Int) < 4 := by decide
        refine ⟨_, _, _, by
          simp only [dx, reduceIte, zLt, zLe, zEq, zAd, zMu, zSu, zBe, yEq, yLt, yLe, yTn, reduceCtorEq, sx, fx57, t3, hlt]
          rfl, by simp, rfl, ?_, ?_⟩
        · simp only [Tr.get_set, zEq, reduceIte, t2]
          rw [h1]
          have h0 : (uCnt (4 - 4) r).1 = 0 := rfl
          rw [h0, Nat.mul_zero, Nat.add_zero]
        · rw [h2]; exact hg
      · refine ⟨Nat.zero_le _, 0, bs, ?_, ?_, ?_, ?_, by decide, by simp, rfl, hb, hq, fun _ _ => rfl, rfl⟩
        · simp only [Tr.get_set, zEq, reduceIte]
        · simp only [Tr.get_set, zEq, reduceIte]; rfl
        · simp only [Tr.get_set, zEq, reduceIte]; rfl
        · simp only [Tr.get_set, zEq, reduceIte]; rfl
    simp only [dx, reduceIte, zLt, zLe, zEq, zAd, zMu, zSu, zBe, yEq, yLt, yLe, yTn, reduceCtorEq, sx, fx57, t2]
    exact ⟨_, _, rfl, by simp only [Tr.get_set, zEq, reduceIte], hg⟩
  obtain ⟨T1, σ1, h1, h2, h3⟩ := run
  exact ⟨σ1, q_call (first := []) (caps := []) fn57 rfl (by simp [Tryz.f57]) h1 (by simp) (res_one h2), h3⟩
/-- A span, and what is left. -/
def uSp (bs : List Nat) : Sp × List Nat := ((((uCnt 4 bs).1 : Nat), ((uCnt 4 (uCnt 4 bs).2).1 : Nat)), (uCnt 4 (uCnt 4 bs).2).2)
def rSpans (bs : List Nat) : List Sp × List Nat := uList uSp (min (uCnt 4 bs).1 60) (uCnt 4 bs).2
theorem uSp_mem (bs : List Nat) (b : Nat) (h : b ∈ (uSp bs).2) : b ∈ bs := uCnt_mem _ _ _ (uCnt_mem _ _ _ h)
theorem rSpans_mem (bs : List Nat) (b : Nat) (h : b ∈ (rSpans bs).2) : b ∈ bs := uCnt_mem _ _ _ (uList_mem uSp_mem _ _ _ h)
def tySpan : TyI := (⟨.struct [(0, 3), (1, 3)], 2, 16, [.int .i64 0, .int .i64 0]⟩ : TyI)
theorem spans_reads {d low j : Nat} {out : AVal} {l : List Sp} (hg : Grew low σ 2 true out j (l.map spanC).flatten) (h0 : j = 0 → out = .vs .nil []) (hj : j = l.length) : ReadsL (d + 2) low σ [] [out] [.vs (lkOf j) (spansV l)] := by
  have h := recs_reads (d := d) (bad := []) (ps := l.map spanC) hg (ReadsL.pure (by
    rw [List.all_eq_true]
    intro v hv
    obtain ⟨c, hc, hv⟩ := List.mem_flatten.1 hv
    obtain ⟨s, _, rfl⟩ := List.mem_map.1 hc
    simp only [spanC, List.mem_cons, List.not_mem_nil, or_false] at hv
    rcases hv with rfl | rfl <;> rfl)) h0 (by simp [hj]) (by decide) rfl (fun l hl => by obtain ⟨x, _, rfl⟩ := List.mem_map.1 hl; rfl) (fun l hl => by obtain ⟨x, _, rfl⟩ := List.mem_map.1 hl; rfl)
  rw [List.map_map] at h
  exact h
theorem rspans_call {q : Nat} {bs : List Nat} (hq : σ.get q = some (.row 1 true [.vs .some (bytesV bs)])) (hqn : q < σ.next) (hb : ∀ b, b ∈ bs → b < 256) (hk : 100 ≤ k) : ∃ out σ', callN lawProg k (.func 58 [] []) [.ptr q 0] σ = some (out, σ') ∧ out.oneCell = true ∧ Grew σ.next σ' 2 true out (rSpans bs).1.length ((rSpans bs).1.map spanC).flatten ∧ ((rSpans bs).1.length = 0 → out = .vs .nil []) ∧ σ'.get q = some (.row 1 true [.vs .some (bytesV (rSpans bs).2)]) ∧ σ.next ≤ σ'.next ∧ ∀ s, s < σ.next → s ≠ q → σ'.get s = σ.get s := by
  obtain ⟨k, rfl⟩ : ∃ m, k = m + 1 := ⟨k - 1, by omega⟩
  obtain ⟨σ1, d1, d2, d3, d4⟩ := rcount_call (k := k) hq hb (by omega)
  obtain ⟨M, hM⟩ : ∃ m, m = min (uCnt 4 bs).1 60 := ⟨_, rfl⟩
  obtain ⟨B, hB⟩ : ∃ m, m = (uCnt 4 bs).2 := ⟨_, rfl⟩
  have hM60 : M ≤ 60 := by omega
  have hrs : rSpans bs = uList uSp M B := by rw [hM, hB]; rfl
  have hl : (rSpans bs).1.length = M := by rw [hrs, uList_len]
  rw [hl, hrs]
  rw [← hB] at d2
  have hBb : ∀ b, b ∈ B → b < 256 := fun b h => hb b (uCnt_mem _ _ _ (by rw [← hB]; exact h))
  have emin : (if (60 : Int) < (((uCnt 4 bs).1 : Nat) : Int) then 60 else (((uCnt 4 bs).1 : Nat) : Int)) = ((M : Nat) : Int) := by split <;> omega
  have run : ∃ T1 σ' out, execC lawProg (callN lawProg k) k 58 18 (bodyOf Tryz.f58) (initT 0 [.ptr q 0] .nil) σ = some (.ret, T1, σ') ∧ T1.get 2 = some out ∧ Grew σ.next σ' 2 true out M ((uList uSp M B).1.map spanC).flatten ∧ (M = 0 → out = .vs .nil []) ∧ σ'.get q = some (.row 1 true [.vs .some (bytesV (uList uSp M B).2)]) ∧ σ.next ≤ σ'.next ∧ ∀ s, s < σ.next → s ≠ q → σ'.get s = σ.get s := by
    simp only [bodyOf, Tryz.f58, Option.getD_some, initT, dx, reduceIte, zLt, zLe, zEq, zAd, zMu, zSu, zBe, yEq, yLt, yLe, yTn, reduceCtorEq, sx, fx58, d1, emin]
    generalize hL : execC _ _ _ _ _ (Code.loop _) _ _ = x
    obtain ⟨e, T', σ', rfl, _, rfl, out, t2, g1, g2, g3, g4, g5⟩ : ∃ e T' σ', x = some (e, T', σ') ∧ e ≠ .normal ∧ (e = .exit 0 ∧ ∃ out, T'.get 2 = some out ∧ Grew σ.next σ' 2 true out M ((uList uSp M B).1.map spanC).flatten ∧ (M = 0 → out = .vs .nil []) ∧ σ'.get q = some (.row 1 true [.vs .some (bytesV (uList uSp M B).2)]) ∧ σ.next ≤ σ'.next ∧ ∀ s, s < σ.next → s ≠ q → σ'.get s = σ.get s) := by
      rw [← hL]
      refine exec_loop (fun i T σ' => i ≤ M ∧ T.get 0 = some (.ptr q 0) ∧ T.get 5 = some (.int .i64 M) ∧ T.get 6 = some (.int .i64 i) ∧ ∃ out, T.get 2 = some out ∧ Grew σ.next σ' 2 true out i ((uList uSp i B).1.map spanC).flatten ∧ (i = 0 → out = .vs .nil []) ∧ σ'.get q = some (.row 1 true [.vs .some (bytesV (uList uSp i B).2)]) ∧ σ.next ≤ σ'.next ∧ ∀ s, s < σ.next → s ≠ q → σ'.get s = σ.get s) M (by omega) ?_ ?_ ?_
      · rintro i hi T σ' ⟨_, t0, t5, t6, out, t2, g1, g2, g3, g4, g5⟩
        have hlt : ((i : Nat) : Int) < ((M : Nat) : Int) := by omega
        have hw := i64_succ (i := i) (by omega)
        have hB1 : ∀ b, b ∈ (uList uSp i B).2 → b < 256 := fun b h => hBb b (uList_mem uSp_mem _ _ _ h)
        obtain ⟨σ2, a1, a2, a3, a4⟩ := rcount_call (k := k) g3 hB1 (by omega)
        obtain ⟨σ3, b1, b2, b3, b4⟩ := rcount_call (k := k) a2 (fun b h => hB1 b (uCnt_mem _ _ _ h)) (by omega)
        have gr3 : Grew σ.next σ3 2 true out i ((uList uSp i B).1.map spanC).flatten := grew_same g1 (by omega) fun s hs => by
          have := (g1.rows s hs).1
          rw [b3 s (by omega), a3 s (by omega)]
        have ho := gr3.oneC
        obtain ⟨σ4, e1, e2, e3, e4, e5⟩ := Grew.one (e := tySpan) (xs := spanC (uSp (uList uSp i B).2).1) gr3 (by omega) rfl (by decide) (by decide) (by decide) (by simp only [tySpan, mostBytes]; omega) rfl
        have e1' : appendA tySpan (σ3.push (.row 2 true [.int .i64 ((uCnt 4 (uList uSp i B).2).1 : Nat), .int .i64 ((uCnt 4 (uCnt 4 (uList uSp i B).2).2).1 : Nat)])) out (.slice σ3.next 0 1 (some 1) 2) = some (.slice (σ3.next + 1) 0 (i + 1) none 2, σ4) := e1
        simp only [tySpan] at e1'
        have hsn : uList uSp (i + 1) B = ((uList uSp i B).1 ++ [(uSp (uList uSp i B).2).1], (uSp (uList uSp i B).2).2) := uList_snoc _ _ _
        refine ⟨_, _, by
          simp only [dx, reduceIte, zLt, zLe, zEq, zAd, zMu, zSu, zBe, yEq, yLt, yLe, yTn, reduceCtorEq, sx, fx58, t0, t2, t5, t6, hlt, a1, b1, e1', hw]
          rfl, hi, ?_, ?_, ?_, .slice (σ3.next + 1) 0 (i + 1) none 2, ?_, ?_, ?_, ?_, ?_, ?_⟩
        · simp only [Tr.get_set, zEq, reduceIte, t0]
        · simp only [Tr.get_set, zEq, reduceIte, t5]
        · simp only [Tr.get_set, zEq, reduceIte]
        · simp only [Tr.get_set, zEq, reduceIte]
        · rw [hsn, List.map_append, List.flatten_append]
          have e2' : Grew σ.next σ4 2 true (.slice (σ3.next + 1) 0 (i + 1) none 2) (i + 1) (((uList uSp i B).1.map spanC).flatten ++ spanC (uSp (uList uSp i B).2).1) := e2
          simpa using e2'
        · intro h; omega
        · rw [hsn, e4 q (by omega)]; exact b2
        · omega
        · intro s hs hne
          rw [e4 s (by omega), b3 s hne, a3 s hne]; exact g5 s hs hne
      · rintro T σ' ⟨_, t0, t5, t6, out, t2, g1, g2, g3, g4, g5⟩
        refine ⟨_, _, _, by
          simp only [dx, reduceIte, zLt, zLe, zEq, zAd, zMu, zSu, zBe, yEq, yLt, yLe, yTn, reduceCtorEq, sx, fx58, t5, t6, Int.lt_irrefl]
          rfl, by simp, rfl, out, ?_, g1, g2, g3, g4, g5⟩
        simp only [Tr.get_set, zEq, reduceIte, t2]
      · refine ⟨Nat.zero_le _, ?_, ?_, ?_, .vs .nil [], ?_, ⟨rfl, .inl ⟨rfl, rfl⟩⟩, fun _ => rfl, d2, by omega, fun s _ hne => d3 s hne⟩
        · simp only [Tr.get_set, zEq, reduceIte]
        · simp only [Tr.get_set, zEq, reduceIte]
        · simp only [Tr.get_set, zEq, reduceIte]; rfl
        · simp only [Tr.get_set, zEq, reduceIte]
    simp only [dx, reduceIte, zLt, zLe, zEq, zAd, zMu, zSu, zBe, yEq, yLt, yLe, yTn, reduceCtorEq, sx, fx58, t2]
    exact ⟨_, _, out, rfl, by simp only [Tr.get_set, zEq, reduceIte], g1, g2, g3, g4, g5⟩
  obtain ⟨T1, σ', out, h1, h2, h3, h4, h5, h6, h7⟩ := run
  exact ⟨out, σ', q_call (first := []) (caps := []) fn58 rfl (by simp [Tryz.f58]) h1 (by simp) (res_one h2), h3.oneC, h3, h4, h5, h6, h7⟩
end Go.Proofs.YtjckhhkhgjbpaaaGreatDoor

/- pack.Read. -/
set_option maxRecDepth 100000
set_option linter.unusedSimpArgs false
set_option linter.unusedVariables false
namespace Go.Proofs.YtjckhhkhgjbpaaaGreatDoor
open Go Go.Proofs.YtjckhhkhgjbpaaaGreatDoor.Pale
variable {k : Nat} {σ : AMem}

def parZ : List AVal := [.int .i64 0, .int .i64 0, .bool false, .int .u8 0, .int .i64 0, .vs .nil [], .vs .nil [], .vs .nil [], .vs .nil []]
/-- A list of lists of spans. -/
def splOf (l : List Sp) : Spl := (lkOf l.length, l)
def rW (bs : List Nat) : Nat := min (uCnt 4 (bs.drop 4)).1 (uCnt 4 (bs.drop 4)).2.length
/-- The bytes of the element, and what comes behind. -/
def rEl (bs : List Nat) : List Nat := (uCnt 4 (bs.drop 4)).2.take (rW bs)
def rRest (bs : List Nat) : List Nat := (uCnt 4 (bs.drop 4)).2.drop (rW bs)
def rHas (bs : List Nat) : List (List Sp) × List Nat := uList rSpans (min (uCnt 4 (rRest bs)).1 8) (uCnt 4 (rRest bs)).2
def rTold (bs : List Nat) : List Sp := (rSpans (rHas bs).2).1
/-- The parcel that is read. -/
def rPcl (bs : List Nat) : Pcl := ⟨(bs.drop 1).headD 0, (bs.drop 2).headD 0, ((((bs.drop 3).headD 0 : Nat) : Int) == 1), (uEl 4 (rEl bs)).1, lkOf (rHas bs).1.length, (rHas bs).1.map splOf, lkOf (rTold bs).length, rTold bs⟩
noncomputable def prV (tabs : List Tab) (d : Nat) (s : Shp) (E : Int) (bs : List Nat) : List AVal × Int :=
  if E = 0 then (if (erV tabs d s 0 (rEl bs)).2 = 0 then (if (pbV tabs d s 0 (rPcl bs)).2 = 0 ∧ sealB (encP d (rPcl bs)) = bs then (parC (rPcl bs), 0) else (parZ, 4)) else (parZ, 4)) else (parZ, E)
theorem erV_two {tabs : List Tab} {d : Nat} {s : Shp} {bs : List Nat} : (∃ n, n ≠ 0 ∧ erV tabs d s 0 bs = (elZ, n)) ∨ erV tabs d s 0 bs = (elC (uEl 4 bs).1, 0) := by
  unfold erV
  rw [if_pos rfl]
  split
  · split
    · exact .inr rfl
    · exact .inl ⟨4, by decide, rfl⟩
  · exact .inl ⟨5, by decide, rfl⟩
theorem pbV_two {tabs : List Tab} {d : Nat} {s : Shp} {p : Pcl} : (∃ n, n ≠ 0 ∧ pbV tabs d s 0 p = (.vs .nil [], n)) ∨ (pbV tabs d s 0 p = (.vs .some (bytesV (sealB (encP d p))), 0) ∧ parB tabs d s p = true ∧ (encE d p.e).length ≤ 20000) := by
  unfold pbV
  rw [if_pos rfl]
  split
  · rename_i h
    split
    · rename_i h2; exact .inr ⟨rfl, h, h2⟩
    · exact .inl ⟨5, by decide, rfl⟩
  · exact .inl ⟨4, by decide, rfl⟩
theorem rSpans_len (bs : List Nat) : (rSpans bs).1.length ≤ 60 := by rw [rSpans, uList_len]; omega
theorem rHas_len (bs : List Nat) : (rHas bs).1.length ≤ 8 := by rw [rHas, uList_len]; omega
theorem uList_all {α : Type} {g : List Nat → α × List Nat} {P : α → Prop} (h : ∀ bs, P (g bs).1) : ∀ (n : Nat) (bs : List Nat) (x : α), x ∈ (uList g n bs).1 → P x := by
  intro n
  induction n with
  | zero => intro bs x h; simp [uList] at h
  | succ n ih =>
    intro bs x hx
    rcases List.mem_cons.1 hx with rfl | hx
    · exact h _
    · exact ih _ _ hx
theorem rPcl_fit (d : Nat) (hd : 5 ≤ d) (bs : List Nat) : ParFit d (rPcl bs) := by
  refine ⟨(uEl_fit 4 _).up (by omega) hd, ?_, ?_, ?_⟩
  · have := rHas_len bs
    simp only [rPcl, List.length_map]; omega
  · intro x hx
    simp only [rPcl] at hx
    obtain ⟨l, hl, rfl⟩ := List.mem_map.1 hx
    have := uList_all (P := fun l : List Sp => l.length ≤ 60) rSpans_len _ _ _ hl
    simp only [splOf]; omega
  · have := rSpans_len (rHas bs).2
    simp only [rPcl, rTold]; omega
/-- What is in memory while the lists are read. -/
def HD (σ : AMem) (hx : AVal) (l : List (List Sp)) : Prop := ∃ cells, Deep 8 5 σ 1 false hx l.length cells (l.map fun s => splV (splOf s))
theorem HD.start (σ : AMem) : HD σ (.vs .nil []) [] := ⟨[], Deep.start _ _ _ _ _⟩
theorem HD.same {σ σ' : AMem} {hx : AVal} {l : List (List Sp)} (h : HD σ hx l) (hn : σ.next ≤ σ'.next) (hs : ∀ s, 5 ≤ s → s < σ.next → σ'.get s = σ.get s) : HD σ' hx l := by
  obtain ⟨c, h⟩ := h
  exact ⟨c, h.same hn hs⟩
theorem HD.one {hx : AVal} {l : List (List Sp)} (h : HD σ hx l) : hx.oneCell = true := h.choose_spec.1.oneC
theorem HD.reads {hx : AVal} {l : List (List Sp)} (h : HD σ hx l) (h0 : l.length = 0 → hx = .vs .nil []) : ReadsL 9 5 σ [] [hx] [.vs (lkOf l.length) ((l.map splOf).map splV)] := by
  obtain ⟨c, h⟩ := h
  rw [List.map_map]
  exact Deep.ones (d := 7) h h0 (by
    rw [List.all_eq_true]
    intro v hv
    obtain ⟨z, _, rfl⟩ := List.mem_map.1 hv
    rfl) [] (by simp)
def tySL : TyI := (⟨.slice 146, 1, 24, [.vs .nil []]⟩ : TyI)
theorem HD.add {hx out : AVal} {l : List (List Sp)} {x : List Sp} {lo : Nat} (h : HD σ hx l) (h5 : 5 ≤ σ.next) (h5l : 5 ≤ lo) (hr : ∀ r, r ∈ rowOf hx → r < lo) (hl : l.length ≤ 100) (ho : out.oneCell = true) (hx2 : Grew lo σ 2 true out x.length (x.map spanC).flatten) (h0 : x.length = 0 → out = .vs .nil []) :
    ∃ σ', appendA tySL (σ.push (.row 1 false [out])) hx (.slice σ.next 0 1 (some 1) 1) = some (.slice (σ.next + 1) 0 (l.length + 1) none 1, σ') ∧ HD σ' (.slice (σ.next + 1) 0 (l.length + 1) none 1) (l ++ [x]) ∧ σ'.next = σ.next + 2 ∧ ∀ s, s < 5 → σ'.get s = σ.get s := by
  obtain ⟨c, h⟩ := h
  have hrd : ReadsL 8 5 σ (rowOf hx) [out] [splV (splOf x)] := by
    have := spans_reads (d := 6) hx2 h0 rfl
    exact this.same h5l (Nat.le_refl _) (fun _ _ _ _ => rfl) fun s a b _ hm => by have := hr s hm; omega
  obtain ⟨σ', a1, a2, a3, a4⟩ := Deep.one (e := tySL) h hrd h5 rfl (by decide) (by decide) (by decide) (by simp only [tySL, mostBytes]; omega) (by simp [ho])
  refine ⟨σ', a1, ⟨c ++ [out], ?_⟩, a3, a4⟩
  rw [List.length_append, List.map_append]
  exact a2
end Go.Proofs.YtjckhhkhgjbpaaaGreatDoor


