import Derived.Test.YtjckhhkhgjbpaaaGreatDoorMC
import Derived.Test.YtjckhhkhgjbpaaaGreatDoorMB
import Derived.Test.YtjckhhkhgjbpaaaGreatDoorPaleRuns
/- Sheaves in memory, each with its rows in a range of its own: ref.Copy. -/
set_option maxRecDepth 100000
set_option linter.unusedSimpArgs false
set_option linter.unusedVariables false
namespace Go.Proofs.YtjckhhkhgjbpaaaGreatDoor
open Go Go.Proofs.YtjckhhkhgjbpaaaGreatDoor.Pale
variable {k : Nat} {σ : AMem}

/-- A sheaf in memory: what it is, the row of its parts, and the rows of the bytes. -/
structure RI where
  sh : Sh
  r : Nat
  cap : Option Nat
  cs : List AVal
  fs : List Nat
def RI.rows (p : RI) : List Nat := p.r :: p.fs
def riC (p : RI) : List AVal := [.int .i64 p.sh.name, .slice p.r 0 p.sh.data.length p.cap 1]
def RI.ok (low : Nat) (σ : AMem) (p : RI) : Prop := (∀ s, s ∈ p.rows → low ≤ s ∧ s < σ.next) ∧ (p.r ∉ p.fs) ∧ σ.get p.r = some (.row 1 false p.cs) ∧ ∃ S, snapL (snapF false σ 8) p.cs = some (p.sh.data.map partV, S) ∧ ∀ s, s ∈ S → s ∈ p.fs
theorem RI.ok.same {low : Nat} {σ σ' : AMem} {p : RI} (h : p.ok low σ) (hn : σ.next ≤ σ'.next) (hs : ∀ s, s ∈ p.rows → σ'.get s = σ.get s) : p.ok low σ' := by
  obtain ⟨h1, h2, h4, S, h5, h6⟩ := h
  exact ⟨fun s hs => ⟨(h1 s hs).1, by have := (h1 s hs).2; omega⟩, h2, by rw [hs _ (by simp [RI.rows])]; exact h4, S, snapL_same (snapF_same 8) _ _ _ h5 fun s hS => hs s (by simp [RI.rows, h6 s hS]), h6⟩
theorem RI.ok.len {low : Nat} {p : RI} (h : p.ok low σ) : p.cs.length = p.sh.data.length := by
  obtain ⟨_, _, _, S, h5, _⟩ := h
  have := snapL_len h5
  rw [List.length_map] at this
  exact this.symm
/-- A list of sheaves in memory. -/
def RL (low : Nat) (σ : AMem) (out : AVal) (its : List RI) : Prop :=
  GrewE low σ 2 true out its.length (its.map riC).flatten ∧ (∀ p, p ∈ its → p.ok low σ) ∧ its.Pairwise (fun p q => ∀ s, s ∈ p.rows → s ∉ q.rows) ∧ ∀ r, r ∈ rowOf out → ∀ p, p ∈ its → r ∉ p.rows
theorem GrewE.rows {low : Nat} {σ : AMem} {sz : Nat} {g : Bool} {out : AVal} {j : Nat} {cells : List AVal} (h : GrewE low σ sz g out j cells) : ∀ r, r ∈ rowOf out → low ≤ r ∧ r < σ.next := by
  intro r hr
  rcases h with h | ⟨_, _, r', h1, h2, rfl, _⟩
  · exact ⟨(Grew.rows h r hr).1, (Grew.rows h r hr).2.1⟩
  · simp only [rowOf, List.mem_singleton] at hr
    subst hr
    exact ⟨h1, h2⟩
theorem RL.same {low : Nat} {σ' : AMem} {out : AVal} {its : List RI} (h : RL low σ out its) (hn : σ.next ≤ σ'.next) (hs : ∀ s, low ≤ s → s < σ.next → σ'.get s = σ.get s) : RL low σ' out its :=
  ⟨h.1.same hn hs, fun p hp => (h.2.1 p hp).same hn fun s h1 => hs s ((h.2.1 p hp).1 s h1).1 ((h.2.1 p hp).1 s h1).2, h.2.2⟩
theorem RL.start (low : Nat) (σ : AMem) : RL low σ (.vs .nil []) [] := ⟨.inl ⟨rfl, .inl ⟨rfl, rfl⟩⟩, by simp, List.Pairwise.nil, by simp [rowOf]⟩
theorem RL.one {low : Nat} {out : AVal} {its : List RI} (h : RL low σ out its) : out.oneCell = true := h.1.oneCell
/-- One more. -/
theorem RL.add {low : Nat} {out : AVal} {its : List RI} {p : RI} (h : RL low σ out its) (hlow : low ≤ σ.next) (hl : its.length ≤ 1000) (hp : p.ok low σ) (hpo : ∀ r, r ∈ rowOf out → r ∉ p.rows) (hpw : ∀ q, q ∈ its → ∀ s, s ∈ q.rows → s ∉ p.rows) :
    ∃ out' σ', appendA tySh (σ.push (.row 2 true (riC p))) out (.slice σ.next 0 1 (some 1) 2) = some (out', σ') ∧ RL low σ' out' (its ++ [p]) ∧ σ.next ≤ σ'.next ∧ (∀ s, s < σ.next → s ∉ rowOf out → σ'.get s = σ.get s) ∧ (∀ s, s ∈ rowOf out' → σ.next ≤ s) := by
  rcases h.1 with hg | ⟨h0, h0', r, h1, h2, rfl, h3⟩
  · obtain ⟨σ', a1, a2, a3, a4, a5⟩ := Grew.one (e := tySh) (xs := riC p) hg hlow rfl (by decide) (by decide) (by decide) (by simp only [tySh, mostBytes]; omega) rfl
    have keep : ∀ s, s < σ.next → s ∉ rowOf out → σ'.get s = σ.get s := fun s hs hn => a5 s hs fun e => hn (by rw [e]; simp [rowOf])
    refine ⟨_, σ', a1, ⟨?_, fun q hq => ?_, ?_, ?_⟩, by omega, keep, ?_⟩
    · rw [List.length_append, List.map_append, List.flatten_append]
      simp only [List.map_cons, List.map_nil, List.flatten_cons, List.flatten_nil, List.append_nil]
      exact .inl a2
    · rcases List.mem_append.1 hq with hq | hq
      · have b1 := h.2.1 q hq
        exact b1.same (by omega) fun s h1 => keep s (b1.1 s h1).2 fun hm => h.2.2.2 s hm q hq h1
      · simp only [List.mem_singleton] at hq
        subst hq
        exact hp.same (by omega) fun s h1 => keep s (hp.1 s h1).2 fun hm => hpo s hm h1
    · rw [List.pairwise_append]
      refine ⟨h.2.2.1, List.pairwise_singleton _ _, fun q hq r hr => ?_⟩
      simp only [List.mem_singleton] at hr
      subst hr
      exact hpw q hq
    · intro r hr q hq hm
      simp only [rowOf, List.mem_singleton] at hr
      rcases List.mem_append.1 hq with hq | hq
      · have := ((h.2.1 q hq).1 r hm).2; omega
      · simp only [List.mem_singleton] at hq
        subst hq
        have := (hp.1 r hm).2; omega
    · intro s hs
      simp only [rowOf, List.mem_singleton] at hs
      omega
  · have : its = [] := List.eq_nil_of_length_eq_zero h0
    subst this
    have hg : GrewE low σ tySh.size tySh.isAgg (.slice r 0 0 (some 0) 2) 0 [] := .inr ⟨rfl, rfl, r, h1, h2, rfl, h3⟩
    obtain ⟨σ2, hσ2⟩ : ∃ s, s = (σ.push (.row 2 true (riC p))).push (.row 2 true (riC p)) := ⟨_, rfl⟩
    have keep : ∀ s, s < σ.next → σ2.get s = σ.get s := fun s hs => by
      rw [hσ2, AMem.get_push, if_neg (by simp; omega), AMem.get_push, if_neg (by omega)]
    have nx : σ2.next = σ.next + 2 := by rw [hσ2]; simp
    refine ⟨.slice (σ.next + 1) 0 1 none 2, σ2, ?_, ⟨.inl ⟨by simp [riC], .inr ⟨σ.next + 1, by omega, by omega, rfl, by rw [hσ2, AMem.get_push, if_pos (by simp)]; rfl⟩⟩, fun q hq => ?_, List.pairwise_singleton _ _, ?_⟩, by omega, fun s hs _ => keep s hs, ?_⟩
    · have hsrc : sourceA 2 (σ.push (.row 2 true (riC p))) (.slice σ.next 0 1 (some 1) 2) = some (riC p, 1) := by
        have : (σ.push (.row 2 true (riC p))).get σ.next = some (.row 2 true (riC p)) := by rw [AMem.get_push, if_pos rfl]
        simp only [sourceA, this]
        rfl
      have hgr : (σ.push (.row 2 true (riC p))).get r = some (.row 2 true []) := by rw [AMem.get_push, if_neg (by omega)]; exact h3
      have hsz : tySh.size = 2 := rfl
      simp only [appendA, hsz, hsrc, hgr]
      rw [if_neg (by simp), if_neg (by decide), if_pos (by decide), if_pos trivial, if_neg (by simp), if_pos (by simp)]
      rw [hσ2]
      simp
      rfl
    · simp only [List.nil_append, List.mem_singleton] at hq
      subst hq
      exact hp.same (by omega) fun s h1 => keep s (hp.1 s h1).2
    · intro s hs q hq hm
      simp only [rowOf, List.mem_singleton] at hs
      simp only [List.nil_append, List.mem_singleton] at hq
      subst hq
      have := (hp.1 s hm).2; omega
    · intro s hs
      simp only [rowOf, List.mem_singleton] at hs
      omega
theorem riC_length (its : List RI) : ((its.map riC).flatten).length = its.length * 2 := by
  induction its with
  | nil => rfl
  | cons p its ih => rw [List.map_cons, List.flatten_cons, List.length_append, ih, List.length_cons]; simp only [riC, List.length_cons, List.length_nil]; omega
theorem riC_drop (i : Nat) : ∀ its : List RI, ((its.map riC).flatten).drop (i * 2) = ((its.drop i).map riC).flatten := by
  induction i with
  | zero => intro its; simp
  | succ i ih =>
    intro its
    cases its with
    | nil => simp
    | cons p its =>
      rw [List.map_cons, List.flatten_cons, List.drop_succ_cons, ← ih its, show (i + 1) * 2 = i * 2 + 2 by omega]
      simp [riC]
theorem riC_take (i : Nat) : ∀ its : List RI, ((its.map riC).flatten).take (i * 2) = ((its.take i).map riC).flatten := by
  induction i with
  | zero => intro its; simp
  | succ i ih =>
    intro its
    cases its with
    | nil => simp
    | cons p its =>
      rw [List.map_cons, List.flatten_cons, List.take_succ_cons, List.map_cons, List.flatten_cons, ← ih its, show (i + 1) * 2 = i * 2 + 2 by omega]
      simp [riC]
theorem riC_get {its : List RI} {i : Nat} (hi : i < its.length) (j : Nat) (hj : j < 2) : ((its.map riC).flatten)[i * 2 + j]? = (riC its[i])[j]? := by
  have h := riC_drop i its
  rw [List.drop_eq_getElem_cons hi, List.map_cons, List.flatten_cons] at h
  rw [← List.getElem?_drop, h, List.getElem?_append_left (by simp [riC]; omega)]
theorem riC_one (its : List RI) : ((its.map riC).flatten).all AVal.oneCell = true := by
  rw [List.all_eq_true]
  intro x hx
  obtain ⟨c, hc, hxc⟩ := List.mem_flatten.1 hx
  obtain ⟨p, hp, rfl⟩ := List.mem_map.1 hc
  simp only [riC, List.mem_cons, List.not_mem_nil, or_false] at hxc
  rcases hxc with rfl | rfl <;> rfl
/-- How such a list reads. -/
def shR (s : Sh) : List AVal := [.int .i64 s.name, .vs .some (s.data.map partV)]
theorem parts_one (l : List Part) : (l.map partV).all AVal.oneCell = true := by
  rw [List.all_eq_true]
  intro v hv
  obtain ⟨p, _, rfl⟩ := List.mem_map.1 hv
  rfl
theorem RI.snap {low : Nat} {p : RI} (h : p.ok low σ) : ∃ S, snapF false σ 9 (.slice p.r 0 p.sh.data.length p.cap 1) = some (.vs .some (p.sh.data.map partV), S) := by
  have hl := RI.ok.len h
  obtain ⟨_, _, h4, S, h5, _⟩ := h
  exact ⟨_, snap_ones_deep (d := 7) hl.symm h5 (parts_one _) h4⟩
theorem ri_snap {low : Nat} : ∀ {its : List RI}, (∀ p, p ∈ its → p.ok low σ) → ∃ S, snapL (snapF false σ 9) (its.map riC).flatten = some ((its.map fun p => shR p.sh).flatten, S) := by
  intro its
  induction its with
  | nil => intro _; exact ⟨[], rfl⟩
  | cons p its ih =>
    intro h
    obtain ⟨S, hS⟩ := ih fun q hq => h q (by simp [hq])
    obtain ⟨S1, h1⟩ := RI.snap (h p (by simp))
    refine ⟨([] ++ (S1 ++ [])) ++ S, ?_⟩
    rw [List.map_cons, List.flatten_cons, List.map_cons, List.flatten_cons]
    refine snapL_append ?_ hS
    have c1 : snapF false σ 9 (.int .i64 p.sh.name) = some (.int .i64 p.sh.name, []) := rfl
    simp only [riC, shR, snapL, c1, h1]
def dkS' (s : Sh) : Sh := { s with dk := .some }
theorem RL.snap {low : Nat} {out : AVal} {its : List RI} (h : RL low σ out its) : ∃ K S, snapF false σ 10 out = some (.vs K ((its.map fun p => dkS' p.sh).map shV), S) := by
  obtain ⟨S, hS⟩ := ri_snap fun p hp => h.2.1 p hp
  have key : ∀ (r : Nat) (cap : Option Nat), σ.get r = some (.row 2 true (its.map riC).flatten) → ∃ K S, snapF false σ 10 (.slice r 0 its.length cap 2) = some (.vs K ((its.map fun p => dkS' p.sh).map shV), S) := fun r cap hg => by
    have := snap_structs (fr := false) (σ := σ) (d := 8) (r := r) (n := its.length) (sz := 2) (cap := cap) (ls := its.map riC) (ps := its.map fun p => shR p.sh) (S := S) (by omega) (by simp) (by simp) (fun c hc => by obtain ⟨x, _, rfl⟩ := List.mem_map.1 hc; rfl) (fun c hc => by obtain ⟨x, _, rfl⟩ := List.mem_map.1 hc; rfl) hg hS
    refine ⟨.some, r :: S, ?_⟩
    rw [this, List.map_map, List.map_map]
    rfl
  rcases h.1 with ⟨_, ⟨h0, rfl⟩ | ⟨r, h1, h2, rfl, h4⟩⟩ | ⟨h0, h0', r, h1, h2, rfl, h3⟩
  · obtain rfl := List.eq_nil_of_length_eq_zero h0
    exact ⟨.nil, [], rfl⟩
  · exact key r none h4
  · obtain rfl := List.eq_nil_of_length_eq_zero h0
    exact key r (some 0) h3
theorem snapF_up {fr : Bool} {σ : AMem} : ∀ (d : Nat) (v u : AVal) (S : List Nat), snapF fr σ d v = some (u, S) → snapF fr σ (d + 1) v = some (u, S) := by
  intro d
  induction d with
  | zero => intro v u S h; simp [snapF] at h
  | succ d ih =>
    intro v u S h
    cases v
    case agg cs =>
      rw [snapF] at h ⊢
      obtain ⟨⟨l, a⟩, h1, h2⟩ := map_some h
      cases h2
      rw [snapL_weaken ih _ _ _ h1]; rfl
    case tuple cs =>
      rw [snapF] at h ⊢
      obtain ⟨⟨l, a⟩, h1, h2⟩ := map_some h
      cases h2
      rw [snapL_weaken ih _ _ _ h1]; rfl
    case ptr r off =>
      rw [snapF] at h ⊢
      split at h
      · rename_i sz b cells hget
        split at h
        · rename_i h0
          obtain ⟨⟨l, a⟩, h1, h2⟩ := map_some h
          cases h2
          simp only [if_pos h0]
          rw [snapL_weaken ih _ _ _ h1]; rfl
        · cases h
      · cases h
    case slice r off len cap z =>
      rw [snapF] at h ⊢
      split at h
      · rename_i sz b cells hget
        split at h
        · rename_i hc
          split at h
          · rename_i l a h1
            simp only [if_pos hc]
            rw [snapL_weaken ih _ _ _ h1]
            exact h
          · cases h
        · cases h
      · cases h
    all_goals first | exact h | (simp only [snapF] at h ⊢; exact h)
theorem RL.snapA {low : Nat} {out : AVal} {its : List RI} (h : RL low σ out its) : ∃ K S, snapF false σ 11 (.agg [out]) = some (.agg [.vs K ((its.map fun p => dkS' p.sh).map shV)], S) := by
  obtain ⟨K, S, hs⟩ := h.snap
  refine ⟨K, S ++ [], ?_⟩
  show (snapL (snapF false σ 10) [out]).map (fun (l, a) => (AVal.agg l, a)) = _
  simp only [snapL, hs, Option.map_some]
/-- Such a list that is not empty is in a row. -/
theorem RL.row {low : Nat} {out : AVal} {its : List RI} (h : RL low σ out its) (hi : 1 ≤ its.length) : ∃ r, out = .slice r 0 its.length none 2 ∧ low ≤ r ∧ r < σ.next ∧ σ.get r = some (.row 2 true (its.map riC).flatten) := by
  rcases h.1 with ⟨_, ⟨h0, rfl⟩ | ⟨r, h1, h2, rfl, h4⟩⟩ | ⟨h0, h0', r, h1, h2, rfl, h3⟩
  · omega
  · exact ⟨r, rfl, h1, h2, h4⟩
  · omega
end Go.Proofs.YtjckhhkhgjbpaaaGreatDoor

/- ref.Copy in memory; ref.without. -/
set_option maxRecDepth 100000
set_option linter.unusedSimpArgs false
set_option linter.unusedVariables false
namespace Go.Proofs.YtjckhhkhgjbpaaaGreatDoor
open Go Go.Proofs.YtjckhhkhgjbpaaaGreatDoor.Pale
variable {k : Nat} {σ : AMem}

def normP (s : Sh) : Sh := { name := s.name, dk := .some, data := s.data.map fun p => (.some, p.2) }
theorem normP_parts (s : Sh) : (normP s).data.map partV = s.data.map prtN := by
  simp only [normP, List.map_map]
  rfl
theorem rcopyM_exec (lk : VK) (shs : List Sh) (hn : shs.length ≤ 1000) (hd : ∀ s, s ∈ shs → 0 < s.data.length ∧ s.data.length ≤ 1000 ∧ ∀ p, p ∈ s.data → p.2.length ≤ 1000) (hk : 3000 ≤ k) :
    ∃ T1 σ1 out its, execC lawProg (callN lawProg k) k 20 56 (bodyOf Tryz.f20) (initT 0 [.agg [.vs lk (shs.map shV)]] .nil) σ = some (.ret, T1, σ1) ∧ resultsA lawProg T1 σ1 Tryz.f20.results.toList = some [.agg [out]] ∧ Ext σ σ1 ∧ RL (σ.next + 3) σ1 out its ∧ its.map RI.sh = shs.map normP ∧ σ.next + 3 ≤ σ1.next := by
  obtain ⟨b, hbn⟩ : ∃ b, b = σ.next := ⟨_, rfl⟩
  simp only [bodyOf, Tryz.f20, Option.getD_some, initT, dx, reduceIte, Nat.reduceLT, Nat.reduceLeDiff, Nat.reduceEqDiff, Nat.reduceAdd, Nat.reduceMul, Nat.reduceSub, Nat.reduceBEq, Int.reduceEq, Int.reduceLT, Int.reduceLE, Int.reduceToNat, reduceCtorEq, sx, fx20, Nat.add_assoc, Nat.add_eq_left, Nat.left_eq_add, Nat.add_left_cancel_iff, ← hbn]
  generalize hL : execC _ _ _ _ _ (Code.loop _) _ _ = r
  obtain ⟨e, T', σ', rfl, _, rfl, f2, f3, out, its, m1, m2, m3, m4, m5, m6⟩ : ∃ e T' σ', r = some (e, T', σ') ∧ e ≠ .normal ∧ (e = .exit 0 ∧ T'.get 2 = some (.ptr (b + 1) 0) ∧ T'.get 3 = some (.ptr (b + 2) 0) ∧ ∃ out its, σ'.get (b + 1) = some (.row 1 true [.vs .nil []]) ∧ σ'.get (b + 2) = some (.row 1 true [out]) ∧ Ext σ σ' ∧ b + 3 ≤ σ'.next ∧ RL (b + 3) σ' out its ∧ its.map RI.sh = shs.map normP) := by
    rw [← hL]
    refine exec_loop (fun i T σ' => i ≤ shs.length ∧ T.get 1 = some (.ptr b 0) ∧ T.get 2 = some (.ptr (b + 1) 0) ∧ T.get 3 = some (.ptr (b + 2) 0) ∧ T.get 4 = some (.int .i64 i) ∧ ∃ out its, σ'.get b = some (.row 1 true [.vs lk (shs.map shV)]) ∧ σ'.get (b + 1) = some (.row 1 true [.vs .nil []]) ∧ σ'.get (b + 2) = some (.row 1 true [out]) ∧ Ext σ σ' ∧ b + 3 ≤ σ'.next ∧ RL (b + 3) σ' out its ∧ its.map RI.sh = (shs.take i).map normP) shs.length (by omega) ?_ ?_ ?_
    · rintro i hi T σ' ⟨_, t1, t2, t3, t4, out, its, m0, m1, m2, m3, m4, m5, m6⟩
      have hli : (i : Int) < shs.length := by omega
      obtain ⟨d0, d1, d2⟩ := hd _ (List.getElem_mem hi)
      have hw := i64_succ (i := i) (by omega)
      obtain ⟨y, hy⟩ : ∃ y, y = σ'.next := ⟨_, rfl⟩
      have qb : ¬ y = b := by omega
      have qb1 : ¬ y = b + 1 := by omega
      have qb2 : ¬ y = b + 2 := by omega
      simp only [dx, reduceIte, Nat.reduceLT, Nat.reduceLeDiff, Nat.reduceEqDiff, Nat.reduceAdd, Nat.reduceMul, Nat.reduceSub, Nat.reduceBEq, Int.reduceEq, Int.reduceLT, Int.reduceLE, Int.reduceToNat, reduceCtorEq, sx, fx20, Nat.add_assoc, Nat.add_eq_left, Nat.left_eq_add, Nat.add_left_cancel_iff, t1, t2, t3, t4, m0, m1, m2, hli, Int.natCast_nonneg, Int.toNat_natCast, sh_get hi, List.length_map, ← hy, qb, qb1, qb2]
      generalize hL2 : execC _ _ _ _ _ (Code.loop _) _ _ = r2
      obtain ⟨e, T2, σ2, rfl, _, rfl, u1, u2, u3, u4, u5, oi, cs, n1, n2, n3, n4, n5⟩ : ∃ e T' σ2, r2 = some (e, T', σ2) ∧ e ≠ .normal ∧ (e = .exit 2 ∧ T'.get 1 = some (.ptr b 0) ∧ T'.get 2 = some (.ptr (b + 1) 0) ∧ T'.get 3 = some (.ptr (b + 2) 0) ∧ T'.get 4 = some (.int .i64 i) ∧ T'.get 5 = some (.ptr y 0) ∧ ∃ oi cs, σ2.get y = some (.row 2 true [.int .i64 shs[i].name, oi]) ∧ y + 1 ≤ σ2.next ∧ (∀ s, s < y → σ2.get s = σ'.get s) ∧ Deep (6 + 2) (y + 1) σ2 1 false oi shs[i].data.length cs (shs[i].data.map prtN) ∧ (shs[i].data.length = 0 → oi = .vs .nil [])) := by
        rw [← hL2]
        refine exec_loop (fun j T σ2 => j ≤ shs[i].data.length ∧ T.get 1 = some (.ptr b 0) ∧ T.get 2 = some (.ptr (b + 1) 0) ∧ T.get 3 = some (.ptr (b + 2) 0) ∧ T.get 4 = some (.int .i64 i) ∧ T.get 5 = some (.ptr y 0) ∧ T.get 6 = some (.int .i64 j) ∧ ∃ oi cs, σ2.get y = some (.row 2 true [.int .i64 shs[i].name, oi]) ∧ y + 1 ≤ σ2.next ∧ (∀ s, s < y → σ2.get s = σ'.get s) ∧ Deep (6 + 2) (y + 1) σ2 1 false oi j cs ((shs[i].data.take j).map prtN) ∧ (j = 0 → oi = .vs .nil [])) shs[i].data.length (by omega) ?_ ?_ ?_
        · rintro j hj T σ2 ⟨_, t1, t2, t3, t4, t5, t6, oi, cs, n1, n2, n3, n4, n5⟩
          have hlt : (j : Int) < shs[i].data.length := by omega
          have hw := i64_succ (i := j) (by omega)
          have g0 : σ2.get b = some (.row 1 true [.vs lk (shs.map shV)]) := by rw [n3 b (by omega)]; exact m0
          have hg := part_get hj
          obtain ⟨rp, σ3, c1, c2, c3, c4, c5⟩ := copy_at (σ := σ2) (.vs shs[i].data[j].1 (bytesV shs[i].data[j].2)) (bs := shs[i].data[j].2) (fun σ => source_bytes σ _ _) (by have := d2 _ (List.getElem_mem hj); omega)
          have n4' : Deep (6 + 2) (y + 1) σ3 1 false oi j cs ((shs[i].data.take j).map prtN) := n4.same c2.1 fun s _ h => c2.2 s h
          have hx : ReadsL (6 + 2) (y + 1) σ3 (rowOf oi) [.slice rp 0 shs[i].data[j].2.length (capOf shs[i].data[j].2) 1] [prtN shs[i].data[j]] := by
            refine ⟨[rp] ++ [], ?_, fun s hs => ?_⟩
            · have := snap_bytes (fr := false) (σ := σ3) (d := 6) (r := rp) (bs := shs[i].data[j].2) (more := []) (cap := capOf shs[i].data[j].2) rfl (by rw [List.append_nil]; exact c5)
              simp only [snapL, this, prtN]
            · simp only [List.append_nil, List.mem_singleton] at hs
              subst hs
              exact ⟨by omega, c4, fun h => by have := (n4.1.rows _ h).2.1; omega⟩
          obtain ⟨σ4, a1, a2, a3, a4⟩ := Deep.one (e := tyPart) n4' hx (by have := c2.1; omega) rfl (by decide) (by decide) (by decide) (by simp only [tyPart, mostBytes]; omega) rfl
          simp only [tyPart, TyI.isAgg] at a1 a2
          have k1 : σ4.get y = some (.row 2 true [.int .i64 shs[i].name, oi]) := by rw [a4 y (by omega), c2.2 y (by omega)]; exact n1
          have k0 : σ3.get y = some (.row 2 true [.int .i64 shs[i].name, oi]) := by rw [c2.2 y (by omega)]; exact n1
          have qy : ¬ σ2.next = y := by omega
          have qy0 : ¬ σ2.next = b := by omega
          refine ⟨_, _, by
            simp only [dx, reduceIte, Nat.reduceLT, Nat.reduceLeDiff, Nat.reduceEqDiff, Nat.reduceAdd, Nat.reduceMul, Nat.reduceSub, Nat.reduceBEq, Int.reduceEq, Int.reduceLT, Int.reduceLE, Int.reduceToNat, reduceCtorEq, sx, fx20, Nat.add_assoc, Nat.add_eq_left, Nat.left_eq_add, Nat.add_left_cancel_iff, t1, t2, t3, t4, t5, t6, hli, hlt, Int.natCast_nonneg, Int.toNat_natCast, g0, sh_get hi, List.length_map, hg, n1, qy, qy0, c1, a1, k0, k1, hw]
            rfl, hj, ?_, ?_, ?_, ?_, ?_, ?_, .slice (σ3.next + 1) 0 (j + 1) none 1, cs ++ [.slice rp 0 shs[i].data[j].2.length (capOf shs[i].data[j].2) 1], ?_, ?_, ?_, ?_, fun h => by simp at h⟩
          · simp only [Tr.get_set, Nat.reduceEqDiff, reduceIte, t1]
          · simp only [Tr.get_set, Nat.reduceEqDiff, reduceIte, t2]
          · simp only [Tr.get_set, Nat.reduceEqDiff, reduceIte, t3]
          · simp only [Tr.get_set, Nat.reduceEqDiff, reduceIte, t4]
          · simp only [Tr.get_set, Nat.reduceEqDiff, reduceIte, t5]
          · simp only [Tr.get_set, Nat.reduceEqDiff, reduceIte]
          · rw [AMem.get_put, if_pos rfl]
          · simp only [AMem.next_put]; have := c2.1; omega
          · intro s h1
            rw [AMem.get_put, if_neg (by omega), a4 s (by omega), c2.2 s (by omega), n3 s h1]
          · rw [List.take_succ_eq_append_getElem hj, List.map_append]
            exact a2.same (by simp) fun s h1 h2 => by rw [AMem.get_put, if_neg (by omega)]
        · rintro T σ2 ⟨_, t1, t2, t3, t4, t5, t6, oi, cs, n1, n2, n3, n4, n5⟩
          rw [List.take_length] at n4
          have g0 : σ2.get b = some (.row 1 true [.vs lk (shs.map shV)]) := by rw [n3 b (by omega)]; exact m0
          exact ⟨_, _, _, by
            simp only [dx, reduceIte, Nat.reduceLT, Nat.reduceLeDiff, Nat.reduceEqDiff, Nat.reduceAdd, Nat.reduceMul, Nat.reduceSub, Nat.reduceBEq, Int.reduceEq, Int.reduceLT, Int.reduceLE, Int.reduceToNat, reduceCtorEq, sx, fx20, Nat.add_assoc, Nat.add_eq_left, Nat.left_eq_add, Nat.add_left_cancel_iff, t1, t2, t3, t4, t5, t6, hli, Int.natCast_nonneg, Int.toNat_natCast, g0, sh_get hi, List.length_map, Int.lt_irrefl]
            rfl, by simp, rfl, by simp only [Tr.get_set, Nat.reduceEqDiff, reduceIte, t1], by simp only [Tr.get_set, Nat.reduceEqDiff, reduceIte, t2], by simp only [Tr.get_set, Nat.reduceEqDiff, reduceIte, t3], by simp only [Tr.get_set, Nat.reduceEqDiff, reduceIte, t4], by simp only [Tr.get_set, Nat.reduceEqDiff, reduceIte, t5], oi, cs, n1, n2, n3, n4, n5⟩
        · refine ⟨Nat.zero_le _, ?_, ?_, ?_, ?_, ?_, ?_, .vs .nil [], [], ?_, ?_, ?_, Deep.start _ _ _ _ _, fun _ => rfl⟩
          · simp only [Tr.get_set, Nat.reduceEqDiff, reduceIte, t1]
          · simp only [Tr.get_set, Nat.reduceEqDiff, reduceIte, t2]
          · simp only [Tr.get_set, Nat.reduceEqDiff, reduceIte, t3]
          · simp only [Tr.get_set, Nat.reduceEqDiff, reduceIte, t4]
          · simp only [Tr.get_set, Nat.reduceEqDiff, reduceIte]
          · simp only [Tr.get_set, Nat.reduceEqDiff, reduceIte]; rfl
          · simp only [AMem.get_put, AMem.get_push, AMem.next_put, AMem.next_push, ← hy, reduceIte]
          · simp only [AMem.next_put, AMem.next_push]; omega
          · intro s h1
            simp only [AMem.get_put, AMem.get_push, AMem.next_put, AMem.next_push, ← hy, show ¬ y = s by omega, if_false]
      obtain ⟨r, hrl, hrh, rfl, hrr⟩ : ∃ r, y + 1 ≤ r ∧ r < σ2.next ∧ oi = .slice r 0 shs[i].data.length none 1 ∧ σ2.get r = some (.row 1 false cs) := by
        rcases n4.1.2 with ⟨h0, _⟩ | ⟨r, h1, h2, h3, h4⟩
        · omega
        · exact ⟨r, h1, h2, h3, h4⟩
      have hlen : its.length = i := by have := congrArg List.length m6; simpa [Nat.min_eq_left (Nat.le_of_lt hi)] using this
      have hln : (normP shs[i]).data.length = shs[i].data.length := by simp [normP]
      obtain ⟨S, hS1, hS2⟩ := n4.2
      let p : RI := ⟨normP shs[i], r, none, cs, S⟩
      have hpr : ∀ s, s ∈ p.rows → y + 1 ≤ s ∧ s < σ2.next := fun s hs => by
        rcases List.mem_cons.1 hs with rfl | hs
        · exact ⟨hrl, hrh⟩
        · exact ⟨(hS2 s hs).1, (hS2 s hs).2.1⟩
      have hok : p.ok (b + 3) σ2 := by
        refine ⟨fun s hs => ⟨by have := (hpr s hs).1; omega, (hpr s hs).2⟩, fun (hm : r ∈ S) => (hS2 _ hm).2.2 (by simp [rowOf]), hrr, S, ?_, fun s hs => hs⟩
        show snapL (snapF false σ2 8) cs = some ((normP shs[i]).data.map partV, S)
        rw [normP_parts]; exact hS1
      have m5' : RL (b + 3) σ2 out its := m5.same (by omega) fun s _ h => n3 s (by omega)
      have hrows := GrewE.rows m5.1
      obtain ⟨out', σ3, a1, a2, a3, a4, a5⟩ := m5'.add (p := p) (by omega) (by omega) hok (fun s hs hm => by have := (hrows s hs).2; have := (hpr s hm).1; omega) (fun q hq s hs hm => by have := ((m5.2.1 q hq).1 s hs).2; have := (hpr s hm).1; omega)
      have hro : ∀ s, s ∈ rowOf out → b + 3 ≤ s := fun s hs => (hrows s hs).1
      have ho' := a2.one
      simp only [tySh, riC, p, hln] at a1
      have hnm : (normP shs[i]).name = shs[i].name := rfl
      rw [hnm] at a1
      have nb : ∀ s, s < b + 3 → s ∉ rowOf out := fun s hs hm => by have := hro s hm; omega
      have k2 : σ2.get (b + 2) = some (.row 1 true [out]) := by rw [n3 _ (by omega)]; exact m2
      have k3 : σ3.get (b + 2) = some (.row 1 true [out]) := by rw [a4 _ (by omega) (nb _ (by omega))]; exact k2
      have k1 : σ3.get (b + 1) = some (.row 1 true [.vs .nil []]) := by rw [a4 _ (by omega) (nb _ (by omega)), n3 _ (by omega)]; exact m1
      have k0 : σ3.get b = some (.row 1 true [.vs lk (shs.map shV)]) := by rw [a4 _ (by omega) (nb _ (by omega)), n3 _ (by omega)]; exact m0
      have ho := m5.one
      have hc1 := cells_one ho'
      simp only [dx, reduceIte, Nat.reduceLT, Nat.reduceLeDiff, Nat.reduceEqDiff, Nat.reduceAdd, Nat.reduceMul, Nat.reduceSub, Nat.reduceBEq, Int.reduceEq, Int.reduceLT, Int.reduceLE, Int.reduceToNat, reduceCtorEq, sx, fx20, Nat.add_assoc, Nat.add_eq_left, Nat.left_eq_add, Nat.add_left_cancel_iff, u1, u2, u3, u4, u5, n1, k2, k3, a1, ho, ho', hc1, hw]
      refine ⟨_, _, rfl, hi, ?_, ?_, ?_, ?_, out', its ++ [p], ?_, ?_, ?_, ?_, ?_, ?_, ?_⟩
      · simp only [Tr.get_set, Nat.reduceEqDiff, reduceIte, u1]
      · simp only [Tr.get_set, Nat.reduceEqDiff, reduceIte, u2]
      · simp only [Tr.get_set, Nat.reduceEqDiff, reduceIte, u3]
      · simp only [Tr.get_set, Nat.reduceEqDiff, reduceIte]
      · rw [AMem.get_put, if_neg (by omega)]; exact k0
      · rw [AMem.get_put, if_neg (by omega)]; exact k1
      · rw [AMem.get_put, if_pos rfl]
      · refine Ext.put ⟨by have := m3.1; omega, fun s hs => ?_⟩ _ _ (by omega)
        rw [a4 s (by omega) (nb _ (by omega)), n3 s (by omega)]
        exact m3.2 s hs
      · simp only [AMem.next_put]; omega
      · exact a2.same (by simp) fun s h1 h2 => by rw [AMem.get_put, if_neg (by omega)]
      · rw [List.map_append, m6, List.take_succ_eq_append_getElem hi, List.map_append]
        rfl
    · rintro T σ' ⟨_, t1, t2, t3, t4, out, its, m0, m1, m2, m3, m4, m5, m6⟩
      rw [List.take_length] at m6
      refine ⟨_, _, _, by
        simp only [dx, reduceIte, Nat.reduceLT, Nat.reduceLeDiff, Nat.reduceEqDiff, Nat.reduceAdd, Nat.reduceMul, Nat.reduceSub, Nat.reduceBEq, Int.reduceEq, Int.reduceLT, Int.reduceLE, Int.reduceToNat, reduceCtorEq, sx, fx20, Nat.add_assoc, Nat.add_eq_left, Nat.left_eq_add, Nat.add_left_cancel_iff, t1, t2, t3, t4, m0, m1, m2, List.length_map, Int.lt_irrefl]
        rfl, by simp, rfl, ?_, ?_, out, its, m1, m2, m3, m4, m5, m6⟩
      · simp only [Tr.get_set, Nat.reduceEqDiff, reduceIte, t2]
      · simp only [Tr.get_set, Nat.reduceEqDiff, reduceIte, t3]
    · refine ⟨Nat.zero_le _, ?_, ?_, ?_, ?_, .vs .nil [], [], ?_, ?_, ?_, ?_, ?_, RL.start _ _, rfl⟩
      · simp only [Tr.get_set, Nat.reduceEqDiff, reduceIte]
      · simp only [Tr.get_set, Nat.reduceEqDiff, reduceIte]
      · simp only [Tr.get_set, Nat.reduceEqDiff, reduceIte]
      · simp only [Tr.get_set, Nat.reduceEqDiff, reduceIte]; rfl
      · simp only [AMem.get_put, AMem.get_push, AMem.next_push, AMem.next_put, ← hbn, Nat.add_assoc, Nat.reduceAdd, Nat.add_eq_left, Nat.left_eq_add, Nat.add_left_cancel_iff, Nat.reduceEqDiff, reduceIte]
      · simp only [AMem.get_put, AMem.get_push, AMem.next_push, AMem.next_put, ← hbn, Nat.add_assoc, Nat.reduceAdd, Nat.add_eq_left, Nat.left_eq_add, Nat.add_left_cancel_iff, Nat.reduceEqDiff, reduceIte]
      · simp only [AMem.get_put, AMem.get_push, AMem.next_push, AMem.next_put, ← hbn, Nat.add_assoc, Nat.reduceAdd, Nat.add_eq_left, Nat.left_eq_add, Nat.add_left_cancel_iff, Nat.reduceEqDiff, reduceIte]
      · exact (((Ext.push _ _).trans (Ext.push _ _)).trans (Ext.push _ _)).put _ _ (by omega)
      · simp [← hbn]
  have ho := m5.one
  simp only [dx, reduceIte, Nat.reduceLT, Nat.reduceLeDiff, Nat.reduceEqDiff, Nat.reduceAdd, Nat.reduceMul, Nat.reduceSub, Nat.reduceBEq, Int.reduceEq, Int.reduceLT, Int.reduceLE, Int.reduceToNat, reduceCtorEq, sx, fx20, Nat.add_assoc, Nat.add_eq_left, Nat.left_eq_add, Nat.add_left_cancel_iff, f2, f3, m1, m2, ho]
  refine ⟨_, _, out, its, rfl, ?_, m3.put (b + 1) _ (by omega), m5.same (by simp) fun s h1 h2 => by rw [AMem.get_put, if_neg (by omega)], m6, by simp only [AMem.next_put]; omega⟩
  simp only [Tryz.f20, resultsA, resultA, dx, reduceIte, Nat.reduceLT, Nat.reduceLeDiff, Nat.reduceEqDiff, Nat.reduceAdd, Nat.reduceMul, Nat.reduceSub, Nat.reduceBEq, Int.reduceEq, Int.reduceLT, Int.reduceLE, Int.reduceToNat, reduceCtorEq, sx, fx20, Nat.add_assoc, Nat.add_eq_left, Nat.left_eq_add, Nat.add_left_cancel_iff, f2]
theorem rcopyM_callN (lk : VK) (shs : List Sh) (hn : shs.length ≤ 1000) (hd : ∀ s, s ∈ shs → 0 < s.data.length ∧ s.data.length ≤ 1000 ∧ ∀ p, p ∈ s.data → p.2.length ≤ 1000) (hk : 3001 ≤ k) :
    ∃ σ1 out its, callN lawProg k (.func 20 [] []) [.agg [.vs lk (shs.map shV)]] σ = some (.agg [out], σ1) ∧ Ext σ σ1 ∧ RL (σ.next + 3) σ1 out its ∧ its.map RI.sh = shs.map normP ∧ σ.next + 3 ≤ σ1.next := by
  obtain ⟨k, rfl⟩ : ∃ m, k = m + 1 := ⟨k - 1, by omega⟩
  obtain ⟨T1, σ1, out, its, h1, h2, h3, h4, h5, h6⟩ := rcopyM_exec (k := k) (σ := σ) lk shs hn hd (by omega)
  exact ⟨σ1, out, its, q_call (first := []) (caps := []) fn20 rfl (by simp [Tryz.f20]) h1 (by simp) h2, h3, h4, h5, h6⟩
end Go.Proofs.YtjckhhkhgjbpaaaGreatDoor

/- ref.without. -/
set_option maxRecDepth 100000
set_option linter.unusedSimpArgs false
set_option linter.unusedVariables false
namespace Go.Proofs.YtjckhhkhgjbpaaaGreatDoor
open Go Go.Proofs.YtjckhhkhgjbpaaaGreatDoor.Pale
variable {k : Nat} {σ : AMem}

theorem grewE_append {low : Nat} {e : TyI} {out x : AVal} {j n : Nat} {cells xs : List AVal} (h : GrewE low σ e.size e.isAgg out j cells) (hlow : low ≤ σ.next) (hsrc : sourceA e.size σ x = some (xs, n)) (hlen : xs.length = n * e.size) (hs0 : e.size ≠ 0) (hb0 : e.bytes ≠ 0) (hb1 : e.bytes ≤ 1048576) (hby : (j + n) * e.bytes ≤ mostBytes) (hone : xs.all AVal.oneCell = true) :
    ∃ out' σ', appendA e σ out x = some (out', σ') ∧ GrewE low σ' e.size e.isAgg out' (j + n) (cells ++ xs) ∧ σ.next ≤ σ'.next ∧ (∀ s, s < σ.next → s ∉ rowOf out → σ'.get s = σ.get s) ∧ (∀ s, s ∈ rowOf out' → s ∈ rowOf out ∨ σ.next ≤ s) := by
  by_cases hn : n = 0
  · subst hn
    have : xs = [] := List.eq_nil_of_length_eq_zero (by omega)
    subst this
    refine ⟨out, σ, ?_, by simpa using h, Nat.le_refl _, fun _ _ _ => rfl, fun s hs => .inl hs⟩
    simp only [appendA, hsrc, if_pos]
    rcases h with ⟨_, ⟨_, rfl⟩ | ⟨_, _, _, rfl, _⟩⟩ | ⟨_, _, _, _, _, rfl, _⟩ <;> rfl
  · rcases h with h | ⟨rfl, rfl, r, h1, h2, rfl, h3⟩
    · obtain ⟨σ', a1, a2, a3, a4⟩ := Grew.append2 h hlow hsrc hlen hn hs0 hb0 hb1 hby hone
      refine ⟨_, σ', a1, .inl a2, by omega, fun s hs hb => a4 s hs fun e => hb (by rw [e]; simp [rowOf]), fun s hs => ?_⟩
      simp only [rowOf, List.mem_singleton] at hs
      exact .inr (by omega)
    · refine ⟨.slice σ.next 0 (0 + n) none e.size, σ.push (.row e.size e.isAgg xs), ?_, .inl ⟨by simpa using hlen, .inr ⟨σ.next, hlow, by simp, rfl, by rw [AMem.get_push, if_pos rfl]; simp⟩⟩, by simp, fun s hs _ => by rw [AMem.get_push, if_neg (by omega)], fun s hs => ?_⟩
      · simp only [appendA, hsrc, h3]
        rw [if_neg hn, if_neg (by simp [hs0, hb0]; omega), if_pos hby, if_pos trivial, if_neg (by omega), if_pos (by simp)]
        simp
      · simp only [rowOf, List.mem_singleton] at hs
        exact .inr (by omega)
theorem RL.erase {low : Nat} {out : AVal} {its : List RI} {i : Nat} (h : RL low σ out its) (hlow : low ≤ σ.next) (hl : its.length ≤ 1000) (hi : i < its.length) :
    ∃ r o1 σ2 o2 σ3, out = .slice r 0 its.length none 2 ∧ (σ.push (.row 2 true [])).get r = some (.row 2 true (its.map riC).flatten) ∧ appendA tySh (σ.push (.row 2 true [])) (.slice σ.next 0 0 (some 0) 2) (.slice r 0 i none 2) = some (o1, σ2) ∧ σ2.get r = some (.row 2 true (its.map riC).flatten) ∧ appendA tySh σ2 o1 (.slice r ((i + 1) * 2) (its.length - (i + 1)) none 2) = some (o2, σ3) ∧ RL low σ3 o2 (its.take i ++ its.drop (i + 1)) ∧ σ.next ≤ σ3.next ∧ (∀ s, s < σ.next → σ3.get s = σ.get s) ∧ (∀ s, s < σ.next → σ2.get s = σ.get s) ∧ (∀ s, s ∈ rowOf o2 → σ.next ≤ s) := by
  obtain ⟨r, rfl, hr1, hr2, hr3⟩ := h.row (by omega)
  obtain ⟨σp, hσp⟩ : ∃ s, s = σ.push (.row 2 true []) := ⟨_, rfl⟩
  have exp : Ext σ σp := by rw [hσp]; exact Ext.push _ _
  have np : σp.next = σ.next + 1 := by rw [hσp]; simp
  have gp : σp.get σ.next = some (.row 2 true []) := by rw [hσp, AMem.get_push, if_pos rfl]
  rw [← hσp]
  have gr : σp.get r = some (.row 2 true (its.map riC).flatten) := by rw [exp.2 r hr2]; exact hr3
  have hfl := riC_length its
  have hone := riC_one its
  have hs1 : sourceA 2 σp (.slice r 0 i none 2) = some (((its.take i).map riC).flatten, i) := by
    simp only [sourceA, gr, hfl]
    rw [if_pos (by omega), List.drop_zero, riC_take]
  have hone1 : (((its.take i).map riC).flatten).all AVal.oneCell = true := riC_one _
  have hone2 : (((its.drop (i + 1)).map riC).flatten).all AVal.oneCell = true := riC_one _
  have hg0 : GrewE low σp 2 true (.slice σ.next 0 0 (some 0) 2) 0 [] := .inr ⟨rfl, rfl, σ.next, hlow, by omega, rfl, gp⟩
  obtain ⟨o1, σ2, a1, a2, a3, a4, a5⟩ := grewE_append (e := tySh) hg0 (by omega) hs1 (by rw [riC_length, List.length_take, Nat.min_eq_left (by omega)]; rfl) (by decide) (by decide) (by decide) (by simp only [tySh, mostBytes]; omega) hone1
  have new1 : ∀ s, s ∈ rowOf o1 → σ.next ≤ s := fun s hs => by
    rcases a5 s hs with h6 | h6
    · simp only [rowOf, List.mem_singleton] at h6; omega
    · omega
  have f2 : ∀ s, s < σ.next → σ2.get s = σ.get s := fun s hs => by
    rw [a4 s (by omega) (by simp only [rowOf, List.mem_singleton]; omega), exp.2 s hs]
  have gr2 : σ2.get r = some (.row 2 true (its.map riC).flatten) := by rw [f2 r hr2]; exact hr3
  have hs2 : sourceA 2 σ2 (.slice r ((i + 1) * 2) (its.length - (i + 1)) none 2) = some (((its.drop (i + 1)).map riC).flatten, its.length - (i + 1)) := by
    simp only [sourceA, gr2, hfl]
    rw [if_pos (by omega), riC_drop, List.take_of_length_le (by rw [riC_length, List.length_drop]; omega)]
  obtain ⟨o2, σ3, b1, b2, b3, b4, b5⟩ := grewE_append (e := tySh) a2 (by omega) hs2 (by rw [riC_length, List.length_drop]; rfl) (by decide) (by decide) (by decide) (by simp only [tySh, mostBytes]; omega) hone2
  have f3 : ∀ s, s < σ.next → σ3.get s = σ.get s := fun s hs => by
    rw [b4 s (by omega) (fun hm => by have := new1 s hm; omega), f2 s hs]
  have hsub : (its.take i ++ its.drop (i + 1)).Sublist its := by
    rw [← List.eraseIdx_eq_take_drop_succ]; exact List.eraseIdx_sublist _ _
  refine ⟨r, o1, σ2, o2, σ3, rfl, gr, a1, gr2, b1, ⟨?_, fun p hp => ?_, h.2.2.1.sublist hsub, fun s hs p hp => ?_⟩, by omega, f3, f2, fun s hs => by
    rcases b5 s hs with h6 | h6
    · exact new1 s h6
    · omega⟩
  · rw [List.length_append, List.length_take, List.length_drop, List.map_append, List.flatten_append, Nat.min_eq_left (by omega)]
    have e0 : (([] : List AVal) ++ ((its.take i).map riC).flatten) ++ ((its.drop (i + 1)).map riC).flatten = ((its.take i).map riC).flatten ++ ((its.drop (i + 1)).map riC).flatten := by simp
    rw [← e0, show i + (its.length - (i + 1)) = 0 + i + (its.length - (i + 1)) by omega]
    exact b2
  · have c1 := h.2.1 p (hsub.subset hp)
    exact c1.same (by omega) fun s hs => f3 s (c1.1 s hs).2
  · intro hm
    have := ((h.2.1 p (hsub.subset hp)).1 s hm).2
    rcases b5 s hs with h6 | h6
    · have := new1 s h6; omega
    · omega
theorem RL.put {low q : Nat} {out : AVal} {its : List RI} (h : RL low σ out its) (o : AObj) (hq : q ∉ rowOf out) (hq2 : ∀ p, p ∈ its → q ∉ p.rows) : RL low (σ.put q o) out its := by
  refine ⟨?_, fun p hp => (h.2.1 p hp).same (by simp) fun s h1 => ?_, h.2.2⟩
  · rcases h.1 with ⟨h0, h1 | ⟨r, h1, h2, rfl, h4⟩⟩ | ⟨a, b, r, h1, h2, rfl, h4⟩
    · exact .inl ⟨h0, .inl h1⟩
    · exact .inl ⟨h0, .inr ⟨r, h1, by simpa using h2, rfl, by rw [AMem.get_put, if_neg (fun e => hq (by simp [rowOf, e]))]; exact h4⟩⟩
    · exact .inr ⟨a, b, r, h1, by simpa using h2, rfl, by rw [AMem.get_put, if_neg (fun e => hq (by simp [rowOf, e]))]; exact h4⟩
  · rw [AMem.get_put, if_neg (fun e : q = s => hq2 p hp (by rw [e]; exact h1))]
theorem wslice_to {sz r n i z : Nat} (h : i ≤ n) (σ : AMem) : sliceM σ sz r 0 n none z none (some (.int .i64 (i : Nat))) none = some (.slice r 0 i none z) := slice_to h
theorem wslice_from {sz r n i z : Nat} (h : i ≤ n) (σ : AMem) : sliceM σ sz r 0 n none z (some (.int .i64 (i : Nat))) none none = some (.slice r (i * sz) (n - i) none z) := by
  have := slice_from (σ := σ) (sz := sz) (r := r) (off := 0) (n := n) (i := i) (z := z) (k := .i64) h
  rw [Nat.zero_add] at this; exact this
theorem without_callN {low : Nat} {out : AVal} {its : List RI} {i : Nat} (h : RL low σ out its) (hlow : low ≤ σ.next) (hl : its.length ≤ 1000) (hi : i < its.length) (hk : 1 ≤ k) :
    ∃ o2 σ', callN lawProg k (.func 79 [] []) [.agg [out], .int .i64 (i : Nat)] σ = some (.agg [o2], σ') ∧ RL low σ' o2 (its.take i ++ its.drop (i + 1)) ∧ σ.next ≤ σ'.next ∧ (∀ s, s < σ.next → σ'.get s = σ.get s) ∧ ∀ s, s ∈ rowOf o2 → σ.next ≤ s := by
  obtain ⟨k, rfl⟩ : ∃ m, k = m + 1 := ⟨k - 1, by omega⟩
  obtain ⟨b, hbn⟩ : ∃ b, b = σ.next := ⟨_, rfl⟩
  obtain ⟨σb, hσb⟩ : ∃ s, s = (σ.push (.row 1 true [out])).push (.row 1 true [.vs .nil []]) := ⟨_, rfl⟩
  have nb : σb.next = b + 2 := by rw [hσb]; simp [hbn]
  have kb : ∀ s, s < b → σb.get s = σ.get s := fun s hs => by rw [hσb, AMem.get_push, if_neg (by simp; omega), AMem.get_push, if_neg (by omega)]
  have g0 : σb.get b = some (.row 1 true [out]) := by rw [hσb, AMem.get_push, if_neg (by simp; omega), AMem.get_push, if_pos (by omega)]
  have g1 : σb.get (b + 1) = some (.row 1 true [.vs .nil []]) := by rw [hσb, AMem.get_push, if_pos (by simp; omega)]
  have hb : RL low σb out its := h.same (by omega) fun s _ hs => kb s (by omega)
  obtain ⟨r, o1, σ2, o2, σ3, rfl, gr, a1, gr2, a2, a3, a4, a5, a6, a7⟩ := hb.erase (i := i) (by omega) hl hi
  have hw : IntKind.i64.wrap (((i : Nat) : Int) + 1) = ((i + 1 : Nat) : Int) := i64_succ (by omega)
  have s1 := wslice_to (sz := 2) (r := r) (n := its.length) (i := i) (z := 2) (by omega)
  have s2 := wslice_from (sz := 2) (r := r) (n := its.length) (i := i + 1) (z := 2) (by omega)
  rw [nb] at a1
  have c0 : σ2.get b = some (.row 1 true [.slice r 0 its.length none 2]) := by rw [a6 b (by omega)]; exact g0
  have c1 : σ3.get (b + 1) = some (.row 1 true [.vs .nil []]) := by rw [a5 (b + 1) (by omega)]; exact g1
  have ho := a3.one
  have hc := cells_one ho
  simp only [tySh] at a1 a2
  rw [hσb] at a1
  have e : ∃ T1, execC lawProg (callN lawProg k) k 79 18 (bodyOf Tryz.f79) (initT 0 [.agg [.slice r 0 its.length none 2], .int .i64 (i : Nat)] .nil) σ = some (.ret, T1, σ3.put (b + 1) (.row 1 true [o2])) ∧ resultsA lawProg T1 (σ3.put (b + 1) (.row 1 true [o2])) Tryz.f79.results.toList = some [.agg [o2]] := by
    simp only [bodyOf, Tryz.f79, Option.getD_some, initT, dx, reduceIte, Nat.reduceLT, Nat.reduceLeDiff, Nat.reduceEqDiff, Nat.reduceAdd, Nat.reduceMul, Nat.reduceSub, Nat.reduceBEq, Int.reduceEq, Int.reduceLT, Int.reduceLE, Int.reduceToNat, reduceCtorEq, sx, fx79, Nat.add_assoc, Nat.add_eq_left, Nat.left_eq_add, Nat.add_left_cancel_iff, ← hbn, s1, s2, hw, a1, a2, c0, c1, ho, hc]
    refine ⟨_, rfl, ?_⟩
    simp only [Tryz.f79, resultsA, resultA, dx, reduceIte, Nat.reduceLT, Nat.reduceLeDiff, Nat.reduceEqDiff, Nat.reduceAdd, Nat.reduceMul, Nat.reduceSub, Nat.reduceBEq, Int.reduceEq, Int.reduceLT, Int.reduceLE, Int.reduceToNat, reduceCtorEq, sx, fx79, Nat.add_assoc, Nat.add_eq_left, Nat.left_eq_add, Nat.add_left_cancel_iff]
  obtain ⟨T1, e1, e2⟩ := e
  refine ⟨o2, _, q_call (first := []) (caps := []) fn79 rfl (by simp [Tryz.f79]) e1 (by simp) e2, ?_, by simp only [AMem.next_put]; omega, fun s hs => ?_, fun s hs => by have := a7 s hs; omega⟩
  · refine a3.put _ (fun hm => by have := a7 _ hm; omega) fun p hp hb => ?_
    have hm : p ∈ its := by
      rcases List.mem_append.1 hp with h' | h'
      · exact List.mem_of_mem_take h'
      · exact List.mem_of_mem_drop h'
    have := ((h.2.1 p hm).1 _ hb).2
    omega
  · rw [AMem.get_put, if_neg (by omega), a5 s (by omega), kb s (by omega)]
end Go.Proofs.YtjckhhkhgjbpaaaGreatDoor

/- ref.Add: its pieces. -/
set_option maxRecDepth 100000
set_option linter.unusedSimpArgs false
set_option linter.unusedVariables false
namespace Go.Proofs.YtjckhhkhgjbpaaaGreatDoor
open Go Go.Proofs.YtjckhhkhgjbpaaaGreatDoor.Pale
variable {k : Nat} {σ : AMem}

/-! ### cells that read as bytes -/
theorem snapF_int_inv {σ : AMem} {d : Nat} {v : AVal} {kk : IntKind} {n : Int} {S : List Nat} (h : snapF false σ (d + 1) v = some (.int kk n, S)) : v = .int kk n := by
  cases v <;> simp only [snapF] at h
  case int => simp only [Option.some.injEq, Prod.mk.injEq] at h; exact h.1
  case agg cs => obtain ⟨⟨l, a⟩, _, h2⟩ := map_some h; cases h2
  case tuple cs => obtain ⟨⟨l, a⟩, _, h2⟩ := map_some h; cases h2
  case ptr r off =>
    split at h
    · split at h
      · obtain ⟨⟨l, a⟩, _, h2⟩ := map_some h; cases h2
      · cases h
    · cases h
  case slice r off len cap z =>
    split at h
    · split at h
      · split at h
        · split at h
          · cases h
          · cases h
        · cases h
      · cases h
    · cases h
  all_goals first | (cases h; done) | (simp at h; done)
theorem snapL_bytes_inv {σ : AMem} {d : Nat} : ∀ {xs : List AVal} {bs S : List Nat}, snapL (snapF false σ (d + 1)) xs = some (bytesV bs, S) → xs = bytesV bs := by
  intro xs
  induction xs with
  | nil =>
    intro bs S h
    simp only [snapL, Option.some.injEq, Prod.mk.injEq] at h
    exact h.1
  | cons x xs ih =>
    intro bs S h
    simp only [snapL] at h
    split at h
    · rename_i y s ys t hy hys
      cases bs with
      | nil => simp [bytesV] at h
      | cons b bs =>
        simp only [bytesV, List.map_cons, Option.some.injEq, Prod.mk.injEq, List.cons.injEq] at h
        obtain ⟨⟨h1, h2⟩, _⟩ := h
        rw [h1] at hy
        rw [snapF_int_inv hy, ih (bs := bs) (by rw [hys, h2]; rfl)]
        rfl
    · cases h
theorem mkElems_inv {b : Bool} {sz : Nat} : ∀ {n : Nat} {l : List AVal} {bs : List Nat}, 0 < sz → l.length = n * sz → mkElems b (chunk sz n l) = some (bytesV bs) → n = bs.length ∧ (0 < n → sz = 1) ∧ l = bytesV bs := by
  intro n
  induction n with
  | zero =>
    intro l bs hs hl h
    simp only [chunk, mkElems, Option.some.injEq] at h
    have : l = [] := List.eq_nil_of_length_eq_zero (by omega)
    subst this
    refine ⟨?_, by omega, h⟩
    have := congrArg List.length h
    simpa [bytesV] using this
  | succ n ih =>
    intro l bs hs hl h
    simp only [chunk, mkElems] at h
    split at h
    · rename_i v vs hv hvs
      cases bs with
      | nil => simp [bytesV] at h
      | cons c bs =>
        simp only [bytesV, List.map_cons, Option.some.injEq, List.cons.injEq] at h
        obtain ⟨h1, h2⟩ := h
        have hls : sz ≤ l.length := by rw [hl, Nat.succ_mul]; omega
        obtain ⟨e1, e2, e3⟩ := ih (l := l.drop sz) (bs := bs) hs (by rw [List.length_drop, hl, Nat.succ_mul]; omega) (by rw [hvs, h2]; rfl)
        have hv2 : l.take sz = [v] := by
          unfold mkElem at hv
          cases b with
          | true => simp only [if_true, Option.some.injEq] at hv; rw [← hv] at h1; cases h1
          | false =>
            simp only [Bool.false_eq_true, if_false] at hv
            split at hv
            · rename_i w hw
              split at hv
              · simp only [Option.some.injEq] at hv; rw [hw, hv]
              · cases hv
            · cases hv
        have h1s : sz = 1 := by
          have := congrArg List.length hv2
          rw [List.length_take, Nat.min_eq_left hls] at this
          simpa using this
        refine ⟨by simp [e1], fun _ => h1s, ?_⟩
        rw [← List.take_append_drop sz l, hv2, e3, h1]
        rfl
    · cases h
/-- A cell that reads as bytes. -/
theorem cell_bytes {σ : AMem} {d : Nat} {c : AVal} {K : VK} {bs S : List Nat} (h : snapF false σ (d + 2) c = some (.vs K (bytesV bs), S)) : (c = .vs K (bytesV bs) ∨ ∃ r off cap z, c = .slice r off bs.length cap z) ∧ sourceA 1 σ c = some (bytesV bs, bs.length) := by
  by_cases hvs : ∃ k es, c = .vs k es
  · obtain ⟨k, es, rfl⟩ := hvs
    have h2 : some (AVal.vs k es, ([] : List Nat)) = some (.vs K (bytesV bs), S) := h
    cases h2
    exact ⟨.inl rfl, source_bytes _ _ _⟩
  cases c <;> simp only [snapF] at h
  case vs k es => exact absurd ⟨_, _, rfl⟩ hvs
  case agg cs => obtain ⟨⟨l, a⟩, _, h2⟩ := map_some h; cases h2
  case tuple cs => obtain ⟨⟨l, a⟩, _, h2⟩ := map_some h; cases h2
  case ptr r off =>
    split at h
    · split at h
      · obtain ⟨⟨l, a⟩, _, h2⟩ := map_some h; cases h2
      · cases h
    · cases h
  case slice r off len cap z =>
    split at h
    · rename_i sz b cells hget
      split at h
      · rename_i hc
        simp only [Bool.and_eq_true, decide_eq_true_eq] at hc
        split at h
        · rename_i l a h1
          split at h
          · rename_i es h2
            simp only [Option.some.injEq, Prod.mk.injEq, AVal.vs.injEq] at h
            obtain ⟨⟨_, h3⟩, _⟩ := h
            have hll := snapL_len h1
            rw [List.length_take, List.length_drop] at hll
            obtain ⟨e1, e2, e3⟩ := mkElems_inv (n := len) (bs := bs) hc.1 (by rw [hll, Nat.min_eq_left]; omega) (by rw [h2, h3])
            rw [e3] at h1
            have e4 := snapL_bytes_inv h1
            subst e1
            refine ⟨.inr ⟨r, off, cap, z, rfl⟩, ?_⟩
            simp only [sourceA, hget]
            by_cases h0 : 0 < bs.length
            · rw [e2 h0] at hc e4
              rw [if_pos (by omega)]
              rw [e4]
            · have h00 : bs.length = 0 := by omega
              have : bs = [] := List.eq_nil_of_length_eq_zero h00
              subst this
              rw [if_pos (by simp; simp at hc; omega)]
              rfl
          · cases h
        · cases h
      · cases h
    · cases h
  all_goals first | (cases h; done) | (simp at h; done)
theorem len_bytes {σ : AMem} {d e sz b : Nat} {z : List AVal} {c : AVal} {K : VK} {bs S : List Nat} (h : snapF false σ (d + 2) c = some (.vs K (bytesV bs), S)) : lenB ⟨.slice e, sz, b, z⟩ c = some (.int .i64 bs.length) := by
  rcases (cell_bytes h).1 with rfl | ⟨_, _, _, _, rfl⟩
  · rw [lenB_vs, bytesV_length]
  · rw [lenB_sl]
theorem snapL_get {f : AVal → Option (AVal × List Nat)} : ∀ {l u : List AVal} {S : List Nat} {i : Nat} (h : snapL f l = some (u, S)) (hi : i < l.length) (hj : i < u.length), ∃ T, f l[i] = some (u[i], T) ∧ ∀ s, s ∈ T → s ∈ S := by
  intro l
  induction l with
  | nil => intro u S i h hi; simp at hi
  | cons x l ih =>
    intro u S i h hi hj
    simp only [snapL] at h
    split at h
    · rename_i y s ys t hy hys
      cases h
      cases i with
      | zero => exact ⟨s, hy, fun z hz => List.mem_append_left _ hz⟩
      | succ i =>
        obtain ⟨T, h1, h2⟩ := ih hys (by simpa using hi) (by simpa using hj)
        exact ⟨T, h1, fun z hz => List.mem_append_right _ (h2 z hz)⟩
    · cases h
theorem snapL_set {f : AVal → Option (AVal × List Nat)} {v y : AVal} {T : List Nat} (hv : f v = some (y, T)) : ∀ {l u : List AVal} {S : List Nat} {i : Nat}, snapL f l = some (u, S) → i < l.length → ∃ S', snapL f (l.set i v) = some (u.set i y, S') ∧ ∀ s, s ∈ S' → s ∈ S ∨ s ∈ T := by
  intro l
  induction l with
  | nil => intro u S i h hi; simp at hi
  | cons x l ih =>
    intro u S i h hi
    simp only [snapL] at h
    split at h
    · rename_i y' s ys t hy hys
      cases h
      cases i with
      | zero =>
        refine ⟨T ++ t, by simp only [List.set_cons_zero, snapL, hv, hys], fun z hz => ?_⟩
        rcases List.mem_append.1 hz with hz | hz
        · exact .inr hz
        · exact .inl (List.mem_append_right _ hz)
      | succ i =>
        obtain ⟨S', h1, h2⟩ := ih hys (by simpa using hi)
        refine ⟨s ++ S', by simp only [List.set_cons_succ, snapL, hy, h1], fun z hz => ?_⟩
        rcases List.mem_append.1 hz with hz | hz
        · exact .inl (List.mem_append_left _ hz)
        · rcases h2 z hz with h | h
          · exact .inl (List.mem_append_right _ h)
          · exact .inr h
    · cases h
/-- One part is another one, whose bytes are new. -/
def pokeI (p : RI) (a rp : Nat) (cap : Option Nat) (d : List Nat) : RI := { p with sh := { p.sh with data := p.sh.data.set a (.some, d) }, cs := p.cs.set a (.slice rp 0 d.length cap 1), fs := rp :: p.fs }
theorem riC_poke (p : RI) (a rp : Nat) (cap : Option Nat) (d : List Nat) : riC (pokeI p a rp cap d) = riC p := by
  simp only [riC, pokeI, List.length_set]
theorem RL.poke {low a rp i : Nat} {cap : Option Nat} {d : List Nat} {out : AVal} {its : List RI} (h : RL low σ out its) (hi : i < its.length) (ha : a < its[i].sh.data.length) (hg : σ.get rp = some (.row 1 false (bytesV d))) (hrl : low ≤ rp) (hrn : rp < σ.next) (hro : rp ∉ rowOf out) (hrp : ∀ p, p ∈ its → rp ∉ p.rows) :
    RL low (σ.put its[i].r (.row 1 false (its[i].cs.set a (.slice rp 0 d.length cap 1)))) out (its.set i (pokeI its[i] a rp cap d)) := by
  have hm := List.getElem_mem hi
  have hok := h.2.1 _ hm
  have hout : its[i].r ∉ rowOf out := fun e => h.2.2.2 _ e _ hm (by simp [RI.rows])
  have hmap : (its.set i (pokeI its[i] a rp cap d)).map riC = its.map riC := by
    apply List.ext_getElem (by simp)
    intro n h1 h2
    simp only [List.getElem_map, List.getElem_set]
    split
    · rename_i e; subst e; exact riC_poke _ _ _ _ _
    · rfl
  have hrows : ∀ s, s ∈ (pokeI its[i] a rp cap d).rows → s = rp ∨ s ∈ its[i].rows := fun s hs => by
    simp only [RI.rows, pokeI, List.mem_cons] at hs ⊢
    rcases hs with hs | hs | hs
    · exact .inr (.inl hs)
    · exact .inl hs
    · exact .inr (.inr hs)
  have hpw := List.pairwise_iff_getElem.1 h.2.2.1
  refine ⟨?_, fun p hp => ?_, ?_, fun r hr p hp hmem => ?_⟩
  · rw [hmap, List.length_set]
    rcases h.1 with ⟨h0, h1 | ⟨r, h1, h2, rfl, h4⟩⟩ | ⟨a, b, r, h1, h2, rfl, h4⟩
    · exact .inl ⟨h0, .inl h1⟩
    · exact .inl ⟨h0, .inr ⟨r, h1, by simpa using h2, rfl, by rw [AMem.get_put, if_neg (fun e => hout (by simp [rowOf, e]))]; exact h4⟩⟩
    · exact .inr ⟨a, b, r, h1, by simpa using h2, rfl, by rw [AMem.get_put, if_neg (fun e => hout (by simp [rowOf, e]))]; exact h4⟩
  · rcases List.mem_iff_getElem.1 hp with ⟨n, hn, rfl⟩
    rw [List.length_set] at hn
    rw [List.getElem_set]
    by_cases e : i = n
    · rw [if_pos e]
      obtain ⟨b1, b2, b3, S, b4, b5⟩ := hok
      have hrr : rp ≠ its[i].r := fun e => hrp _ hm (by simp [RI.rows, e])
      have hv : snapF false (σ.put its[i].r (.row 1 false (its[i].cs.set a (.slice rp 0 d.length cap 1)))) 8 (.slice rp 0 d.length cap 1) = some (.vs .some (bytesV d), [rp]) := snap_bytes (d := 6) (bs := d) (more := []) rfl (by rw [AMem.get_put, if_neg (Ne.symm hrr), List.append_nil]; exact hg)
      have hl : its[i].cs.length = its[i].sh.data.length := RI.ok.len ⟨b1, b2, b3, S, b4, b5⟩
      obtain ⟨S', c1, c2⟩ := snapL_set hv (snapL_same (snapF_same 8) _ _ _ b4 fun s hs => by rw [AMem.get_put, if_neg (fun e => b2 (by rw [e]; exact b5 s hs))]) (i := a) (by omega)
      refine ⟨fun s hs => ?_, ?_, ?_, S', ?_, fun s hs => ?_⟩
      · rcases hrows s hs with rfl | hs
        · exact ⟨hrl, by simpa using hrn⟩
        · exact ⟨(b1 s hs).1, by simpa using (b1 s hs).2⟩
      · simp only [pokeI, List.mem_cons, not_or]
        exact ⟨Ne.symm hrr, b2⟩
      · show (σ.put its[i].r _).get its[i].r = _
        rw [AMem.get_put, if_pos rfl]
        rfl
      · show snapL _ (its[i].cs.set a _) = some ((its[i].sh.data.set a (.some, d)).map partV, S')
        rw [List.map_set]
        exact c1
      · simp only [pokeI, List.mem_cons]
        rcases c2 s hs with h | h
        · exact .inr (b5 s h)
        · exact .inl (by simpa using h)
    · rw [if_neg e]
      refine (h.2.1 _ (List.getElem_mem hn)).same (by simp) fun s hs => ?_
      rw [AMem.get_put, if_neg]
      intro e2
      subst e2
      rcases Nat.lt_or_gt_of_ne e with hl | hl
      · exact hpw i n hi hn hl _ (by simp [RI.rows]) hs
      · exact hpw n i hn hi hl _ hs (by simp [RI.rows])
  · rw [List.pairwise_iff_getElem]
    intro m n hm' hn' hmn s hs1 hs2
    have hm2 : m < its.length := by simpa using hm'
    have hn2 : n < its.length := by simpa using hn'
    rw [List.getElem_set] at hs1 hs2
    by_cases e1 : i = m
    · rw [if_pos e1] at hs1
      rw [if_neg (by omega)] at hs2
      rcases hrows s hs1 with rfl | h1
      · exact hrp _ (List.getElem_mem (l := its) hn2) hs2
      · exact hpw i n hi hn2 (by omega) s h1 hs2
    · rw [if_neg e1] at hs1
      by_cases e2 : i = n
      · rw [if_pos e2] at hs2
        rcases hrows s hs2 with rfl | h1
        · exact hrp _ (List.getElem_mem (l := its) hm2) hs1
        · exact hpw m i hm2 hi (by omega) s hs1 h1
      · rw [if_neg e2] at hs2
        exact hpw m n hm2 hn2 hmn s hs1 hs2
  · rcases List.mem_or_eq_of_mem_set hp with hp | rfl
    · exact h.2.2.2 r hr p hp hmem
    · rcases hrows r hmem with rfl | h1
      · exact hro hr
      · exact h.2.2.2 r hr _ hm h1
end Go.Proofs.YtjckhhkhgjbpaaaGreatDoor

/- ref.Add: its run. -/
set_option maxRecDepth 100000
set_option linter.unusedSimpArgs false
set_option linter.unusedVariables false
namespace Go.Proofs.YtjckhhkhgjbpaaaGreatDoor
open Go Go.Proofs.YtjckhhkhgjbpaaaGreatDoor.Pale
variable {k : Nat} {σ : AMem}

noncomputable def aB : Code := bodyOf Tryz.f24
noncomputable def aS (n : Nat) : Code := stmtC aB n
theorem add_form : bodyOf Tryz.f24 = .seq (aS 0) (.seq (aS 1) (.seq (aS 2) (.seq (.seq (aS 3) (aS 4)) (.seq (.seq (aS 5) (aS 6)) (.seq (.seq (aS 7) (aS 8)) (.seq (aS 9) (.seq (.seq (aS 10) (aS 11)) (.seq (aS 12) .ret)))))))) := rfl

structure ASt (n : Int) (a of : Nat) (vk : VK) (d : List Nat) (low q : Nat) (T : Tr AVal) (σ : AMem) (out : AVal) (its : List RI) (at_ : Int) : Prop where
  t3 : T.get 3 = some (.ptr 1 0)
  t4 : T.get 4 = some (.ptr 2 0)
  t6 : T.get 6 = some (.ptr q 0)
  t7 : T.get 7 = some (.int .i64 at_)
  g1 : σ.get 1 = some (.row 4 true [.int .i64 n, .int .i64 (a : Nat), .int .i64 (of : Nat), .vs vk (bytesV d)])
  g2 : σ.get 2 = some (.row 1 true [.vs .nil []])
  gq : σ.get q = some (.row 1 true [out])
  rl : RL low σ out its
  l3 : 3 ≤ low
  ln : low ≤ σ.next
  q3 : 3 ≤ q
  qn : q < σ.next
  qo : q ∉ rowOf out
  qr : ∀ p, p ∈ its → q ∉ p.rows
theorem placeI_names {xs zs : List Sh} (n : Int) (h : xs.map Sh.name = zs.map Sh.name) : placeI n xs = placeI n zs := by
  unfold placeI
  induction xs generalizing zs with
  | nil =>
    cases zs with
    | nil => rfl
    | cons z zs => simp at h
  | cons x xs ih =>
    cases zs with
    | nil => simp at h
    | cons z zs =>
      simp only [List.map_cons, List.cons.injEq] at h
      have hi := ih h.2
      simp only [List.map_cons, idxI, sameName_sh, h.1, hi]
      rfl

theorem add_a (lk vk : VK) (shs : List Sh) (n : Int) (a of : Nat) (d : List Nat) (hn : shs.length ≤ 1000) (hd : ∀ s, s ∈ shs → 0 < s.data.length ∧ s.data.length ≤ 1000 ∧ ∀ p, p ∈ s.data → p.2.length ≤ 1000) (hk : 4000 ≤ k) :
    ∃ T1 σ1 q out its, execC lawProg (callN lawProg k) k 24 116 (.seq (aS 0) (.seq (aS 1) (aS 2))) (initT 0 [.agg [.vs lk (shs.map shV)], .agg [.int .i64 n, .int .i64 (a : Nat), .int .i64 (of : Nat), .vs vk (bytesV d)]] .nil) AMem.empty = some (.normal, T1, σ1) ∧ ASt n a of vk d 6 q T1 σ1 out its (placeI n shs) ∧ its.map RI.sh = shs.map normP := by
  let σ0 : AMem := ((AMem.empty.push (.row 1 true [.vs lk (shs.map shV)])).push (.row 4 true [.int .i64 n, .int .i64 (a : Nat), .int .i64 (of : Nat), .vs vk (bytesV d)])).push (.row 1 true [.vs .nil []])
  have hn0 : σ0.next = 3 := rfl
  obtain ⟨σ1, out, its, c1, c2, c3, c4, c5⟩ := rcopyM_callN (k := k) (σ := σ0) lk shs hn hd (by omega)
  rw [hn0] at c3
  have hnx : 3 ≤ σ1.next := by have := c2.1; omega
  have g0 : σ1.get 0 = some (.row 1 true [.vs lk (shs.map shV)]) := by rw [c2.2 0 (by omega)]; rfl
  have g1 : σ1.get 1 = some (.row 4 true [.int .i64 n, .int .i64 (a : Nat), .int .i64 (of : Nat), .vs vk (bytesV d)]) := by rw [c2.2 1 (by omega)]; simp only [σ0, AMem.get_push, AMem.next_push, next_empty, Nat.reduceAdd, Nat.reduceEqDiff, reduceIte]
  have g2 : σ1.get 2 = some (.row 1 true [.vs .nil []]) := by rw [c2.2 2 (by omega)]; simp only [σ0, AMem.get_push, AMem.next_push, next_empty, Nat.reduceAdd, Nat.reduceEqDiff, reduceIte]
  have hrows := GrewE.rows c3.1
  have hb := c3.2.1
  have c3' : RL 6 ((σ1.push (.row 1 true [.vs .nil []])).put σ1.next (.row 1 true [out])) out its := c3.same (by simp) fun s _ hs => by rw [AMem.get_put, if_neg (by omega), AMem.get_push, if_neg (by omega)]
  obtain ⟨K, S, hs⟩ := c3'.snapA
  have hpl := place_call' (k := k) (snapF_up _ _ _ _ hs) n (by rw [List.length_map]; have := congrArg List.length c4; simp at this; omega) (by omega)
  have hpn : placeI n (its.map fun p => dkS' p.sh) = placeI n shs := placeI_names n (by
    have h1 : (its.map fun p => dkS' p.sh).map Sh.name = (its.map RI.sh).map Sh.name := by simp only [List.map_map]; rfl
    rw [h1, c4, List.map_map]
    rfl)
  rw [hpn] at hpl
  have ho := c3.one
  have hc := cells_one ho
  have q1 : ¬ σ1.next = 0 := by omega
  have q2 : ¬ σ1.next = 1 := by omega
  simp only [σ0] at c1
  refine ⟨_, _, σ1.next, out, its, by
    simp only [aS, aB, stmtC, flatC, bodyOf, Tryz.f24, Option.getD_some, List.append_assoc, initT, dx, reduceIte, Nat.reduceLT, Nat.reduceLeDiff, Nat.reduceEqDiff, Nat.reduceAdd, Nat.reduceMul, Nat.reduceSub, Nat.reduceBEq, Int.reduceEq, Int.reduceLT, Int.reduceLE, Int.reduceToNat, reduceCtorEq, sx, fx24, Nat.add_assoc, Nat.add_eq_left, Nat.left_eq_add, Nat.add_left_cancel_iff, c1, g0, g1, ho, hc, q1, q2, hpl]
    rfl, ⟨?_, ?_, ?_, ?_, ?_, ?_, ?_, c3', by omega, ?_, by omega, by simp, fun hm => ?_, fun p hp hm => ?_⟩, c4⟩
  · simp only [Tr.get_set, Nat.reduceEqDiff, reduceIte]
  · simp only [Tr.get_set, Nat.reduceEqDiff, reduceIte]
  · simp only [Tr.get_set, Nat.reduceEqDiff, reduceIte]
  · simp only [Tr.get_set, Nat.reduceEqDiff, reduceIte]
  · rw [AMem.get_put, if_neg (by omega), AMem.get_push, if_neg (by omega)]; exact g1
  · rw [AMem.get_put, if_neg (by omega), AMem.get_push, if_neg (by omega)]; exact g2
  · rw [AMem.get_put, if_pos rfl]
  · rw [hn0] at c5
    simp only [AMem.next_put, AMem.next_push]; omega
  · have := (hrows _ hm).2; omega
  · have := ((hb p hp).1 _ hm).2; omega

/-- The sheaf of a chunk is of another size: it goes. -/
def rB (l : List Sh) (at_ : Int) (of : Nat) : List Sh × Int := if 0 ≤ at_ then (match l[at_.toNat]? with
  | some s => if s.data.length = of then (l, at_) else (l.take at_.toNat ++ l.drop (at_.toNat + 1), -1)
  | none => (l, at_)) else (l, at_)
theorem add_b {n : Int} {a of : Nat} {vk : VK} {d : List Nat} {low q : Nat} {T : Tr AVal} {out : AVal} {its : List RI} {at_ : Int} (h : ASt n a of vk d low q T σ out its at_) (hl : its.length ≤ 1000) (hat : at_ = -1 ∨ ∃ i : Nat, i < its.length ∧ at_ = (i : Int)) (hk : 1 ≤ k) :
    Runs lawProg (callN lawProg k) k 24 116 (.seq (aS 3) (aS 4)) T σ fun e T' σ' => e = .normal ∧ ∃ out' its', ASt n a of vk d low q T' σ' out' its' (rB (its.map RI.sh) at_ of).2 ∧ its'.map RI.sh = (rB (its.map RI.sh) at_ of).1 := by
  obtain ⟨t3, t4, t6, t7, g1, g2, gq, rl, l3, ln, q3, qn, qo, qr⟩ := id h
  rcases hat with rfl | ⟨i, hi, rfl⟩
  · have hr : rB (its.map RI.sh) (-1) of = (its.map RI.sh, -1) := rfl
    rw [hr]
    refine ⟨_, _, _, by
      simp only [aS, aB, stmtC, flatC, bodyOf, Tryz.f24, Option.getD_some, List.append_assoc, dx, reduceIte, Nat.reduceLT, Nat.reduceLeDiff, Nat.reduceEqDiff, Nat.reduceAdd, Nat.reduceMul, Nat.reduceSub, Nat.reduceBEq, Int.reduceEq, Int.reduceLT, Int.reduceLE, Int.reduceToNat, reduceCtorEq, sx, fx24, Nat.add_assoc, Nat.add_eq_left, Nat.left_eq_add, Nat.add_left_cancel_iff, t3, t4, t6, t7, show ¬ (-1 : Int) ≥ 0 by decide]
      rfl, rfl, out, its, ⟨?_, ?_, ?_, ?_, g1, g2, gq, rl, l3, ln, q3, qn, qo, qr⟩, rfl⟩
    all_goals simp only [Tr.get_set, Nat.reduceEqDiff, reduceIte, t3, t4, t6, t7]
  · obtain ⟨r, rfl, r1, r2, gr⟩ := rl.row (by omega)
    have hlt : (i : Int) < its.length := by omega
    have hge : (i : Int) ≥ 0 := by omega
    have hcell : ((its.map riC).flatten)[i * 2 + 1]? = some (.slice its[i].r 0 its[i].sh.data.length its[i].cap 1) := riC_get hi 1 (by omega)
    have hmi : (its.map RI.sh)[((i : Nat) : Int).toNat]? = some its[i].sh := by rw [Int.toNat_natCast, List.getElem?_map, List.getElem?_eq_getElem hi]; rfl
    by_cases hlen : its[i].sh.data.length = of
    · have hr : rB (its.map RI.sh) (i : Int) of = (its.map RI.sh, (i : Int)) := by
        unfold rB
        rw [if_pos (by omega), hmi]
        simp only [hlen, if_true]
      rw [hr]
      have hne : (((its[i].sh.data.length : Nat) : Int) != ((of : Nat) : Int)) = false := by rw [hlen]; simp
      refine ⟨_, _, _, by
        simp only [aS, aB, stmtC, flatC, bodyOf, Tryz.f24, Option.getD_some, List.append_assoc, dx, reduceIte, Nat.reduceLT, Nat.reduceLeDiff, Nat.reduceEqDiff, Nat.reduceAdd, Nat.reduceMul, Nat.reduceSub, Nat.reduceBEq, Int.reduceEq, Int.reduceLT, Int.reduceLE, Int.reduceToNat, reduceCtorEq, sx, fx24, Nat.add_assoc, Nat.add_eq_left, Nat.left_eq_add, Nat.add_left_cancel_iff, t3, t4, t6, t7, g1, gq, gr, hlt, hge, Int.natCast_nonneg, Int.toNat_natCast, hcell, hne]
        rfl, rfl, _, its, ⟨?_, ?_, ?_, ?_, g1, g2, gq, rl, l3, ln, q3, qn, qo, qr⟩, rfl⟩
      all_goals simp only [Tr.get_set, Nat.reduceEqDiff, reduceIte, t3, t4, t6, t7]
    · have hr : rB (its.map RI.sh) (i : Int) of = ((its.take i ++ its.drop (i + 1)).map RI.sh, -1) := by
        unfold rB
        rw [if_pos (by omega), hmi]
        simp only [hlen, if_false, Int.toNat_natCast, List.map_append, List.map_take, List.map_drop]
      rw [hr]
      have hne : (((its[i].sh.data.length : Nat) : Int) != ((of : Nat) : Int)) = true := by rw [bne_iff_ne]; omega
      obtain ⟨o2, σ', c1, c2, c3, c4, c5⟩ := without_callN (k := k) rl ln hl hi hk
      have hrows := GrewE.rows c2.1
      have ho := c2.one
      have hc := cells_one ho
      have g1' := (c4 1 (by omega)).trans g1
      have g2' := (c4 2 (by omega)).trans g2
      have gq' := (c4 q qn).trans gq
      have qo' : q ∉ rowOf o2 := fun hm => by have := c5 q hm; omega
      have qr' : ∀ p, p ∈ its.take i ++ its.drop (i + 1) → q ∉ p.rows := fun p hp => by
        rcases List.mem_append.1 hp with h' | h'
        · exact qr p (List.mem_of_mem_take h')
        · exact qr p (List.mem_of_mem_drop h')
      refine ⟨_, _, _, by
        simp only [aS, aB, stmtC, flatC, bodyOf, Tryz.f24, Option.getD_some, List.append_assoc, dx, reduceIte, Nat.reduceLT, Nat.reduceLeDiff, Nat.reduceEqDiff, Nat.reduceAdd, Nat.reduceMul, Nat.reduceSub, Nat.reduceBEq, Int.reduceEq, Int.reduceLT, Int.reduceLE, Int.reduceToNat, reduceCtorEq, sx, fx24, Nat.add_assoc, Nat.add_eq_left, Nat.left_eq_add, Nat.add_left_cancel_iff, t3, t4, t6, t7, g1, gq, gr, hlt, hge, Int.natCast_nonneg, Int.toNat_natCast, hcell, hne, c1, gq', ho, hc]
        rfl, rfl, o2, its.take i ++ its.drop (i + 1), ⟨?_, ?_, ?_, ?_, ?_, ?_, ?_, c2.put _ qo' qr', l3, ?_, q3, ?_, qo', qr'⟩, rfl⟩
      · simp only [Tr.get_set, Nat.reduceEqDiff, reduceIte, t3]
      · simp only [Tr.get_set, Nat.reduceEqDiff, reduceIte, t4]
      · simp only [Tr.get_set, Nat.reduceEqDiff, reduceIte, t6]
      · simp only [Tr.get_set, Nat.reduceEqDiff, reduceIte]
      · rw [AMem.get_put, if_neg (by omega)]; exact g1'
      · rw [AMem.get_put, if_neg (by omega)]; exact g2'
      · rw [AMem.get_put, if_pos rfl]
      · simp only [AMem.next_put]; omega
      · simp only [AMem.next_put]; omega
/-- A sheaf of its own for the chunk. -/
def rC (l : List Sh) (at_ n : Int) (of : Nat) : List Sh × Int := if at_ < 0 then (if (l ++ [newSh n of]).length > 4 then ((l ++ [newSh n of]).drop 1, (l.length : Int) - 1) else (l ++ [newSh n of], (l.length : Int))) else (l, at_)
theorem rep_snap (of : Nat) {σ : AMem} : snapL (snapF false σ 8) (repZ [.vs .nil []] of) = some ((newSh 0 of).data.map partV, []) := by
  have h : (repZ [.vs .nil []] of) = ((newSh 0 of).data.map partV) := rep_new of
  rw [h]
  exact snapL_pure 7 _ (parts_pure _)
theorem add_c {n : Int} {a of : Nat} {vk : VK} {d : List Nat} {low q : Nat} {T : Tr AVal} {out : AVal} {its : List RI} {at_ : Int} (h : ASt n a of vk d low q T σ out its at_) (hl : its.length ≤ 900) (hof : 1 ≤ of ∧ of ≤ 200) (hk : 1 ≤ k) :
    Runs lawProg (callN lawProg k) k 24 116 (.seq (aS 5) (aS 6)) T σ fun e T' σ' => e = .normal ∧ ∃ out' its', ASt n a of vk d low q T' σ' out' its' (rC (its.map RI.sh) at_ n of).2 ∧ its'.map RI.sh = (rC (its.map RI.sh) at_ n of).1 := by
  obtain ⟨t3, t4, t6, t7, g1, g2, gq, rl, l3, ln, q3, qn, qo, qr⟩ := id h
  by_cases h0 : at_ < 0
  · have h24 : (of : Int) * ((24 : Nat) : Int) ≤ ((mostBytes : Nat) : Int) := by unfold mostBytes; omega
    have hmax : (of : Int) ≤ 9223372036854775807 := by omega
    obtain ⟨b, hb⟩ : ∃ b, b = σ.next := ⟨_, rfl⟩
    obtain ⟨σm, hσm⟩ : ∃ s, s = σ.push (.row 1 false (repZ [.vs .nil []] of)) := ⟨_, rfl⟩
    have nm : σm.next = b + 1 := by rw [hσm]; simp [hb]
    have km : ∀ s, s < b → σm.get s = σ.get s := fun s hs => by rw [hσm, AMem.get_push, if_neg (by omega)]
    have gm : σm.get b = some (.row 1 false (repZ [.vs .nil []] of)) := by rw [hσm, AMem.get_push, if_pos hb.symm]
    have rlm : RL low σm out its := rl.same (by omega) fun s _ hs => km s (by omega)
    have hrl := GrewE.rows rl.1
    let p : RI := ⟨newSh n of, b, some of, repZ [.vs .nil []] of, []⟩
    have hnl : (newSh n of).data.length = of := newSh_len n of
    have hpr : p.rows = [b] := rfl
    obtain ⟨out', σ', a1, a2, a3, a4, a5⟩ := rlm.add (p := p) (by omega) (by omega) ⟨fun s hs => by rw [hpr, List.mem_singleton] at hs; omega, by simp [p], gm, [], rep_snap of, by simp⟩ (fun s hs hm => by rw [hpr, List.mem_singleton] at hm; have := (hrl s hs).2; omega) (fun x hx s hs hm => by rw [hpr, List.mem_singleton] at hm; have := ((rl.2.1 x hx).1 s hs).2; omega)
    have ho := a2.one
    have hc := cells_one ho
    have hoo := rl.one
    rw [nm] at a1
    simp only [tySh, riC, p, hnl] at a1
    rw [show (newSh n of).name = n from rfl, hσm] at a1
    have kq : σ'.get q = some (.row 1 true [out]) := by rw [a4 q (by omega) qo, km q (by omega)]; exact gq
    have k1 : σ'.get 1 = some (.row 4 true [.int .i64 n, .int .i64 (a : Nat), .int .i64 (of : Nat), .vs vk (bytesV d)]) := by rw [a4 1 (by omega) (fun hm => by have := (hrl 1 hm).1; omega), km 1 (by omega)]; exact g1
    have k2 : σ'.get 2 = some (.row 1 true [.vs .nil []]) := by rw [a4 2 (by omega) (fun hm => by have := (hrl 2 hm).1; omega), km 2 (by omega)]; exact g2
    have qo' : q ∉ rowOf out' := fun hm => by have := a5 q hm; omega
    have qr' : ∀ x, x ∈ its ++ [p] → q ∉ x.rows := fun x hx hm => by
      rcases List.mem_append.1 hx with h' | h'
      · exact qr x h' hm
      · simp only [List.mem_singleton] at h'
        subst h'
        rw [hpr, List.mem_singleton] at hm
        omega
    have rl2 := a2.put (.row 1 true [out']) qo' qr'
    obtain ⟨r', rfl, e2, e3, e4⟩ := a2.row (by simp)
    have hll : (its ++ [p]).length = its.length + 1 := by simp
    rw [hll] at a1 rl2
    have q5 : ¬ σ.next = q := by omega
    have q6 : ¬ σ.next = 1 := by omega
    have q7 : ¬ σ.next + 1 = q := by omega
    have q8 : ¬ σ.next + 1 = 1 := by omega
    have q9 : ¬ q = 1 := by omega
    have q10 : ¬ q = 2 := by omega
    rw [hb] at a1
    by_cases h5 : its.length + 1 > 4
    · have h5' : ((its.length + 1 : Nat) : Int) > 4 := by omega
      obtain ⟨o2, σ2, c1, c2, c3, c4, c5⟩ := without_callN (k := k) (i := 0) rl2 (by simp only [AMem.next_put]; omega) (by simp; omega) (by simp) hk
      change callN lawProg k _ [_, .int .i64 0] _ = _ at c1
      rw [AMem.next_put] at c3 c4 c5
      have ho2 := c2.one
      have hc2 := cells_one ho2
      have kq2 : σ2.get q = some (.row 1 true [.slice r' 0 (its.length + 1) none 2]) := by rw [c4 q (by omega), AMem.get_put, if_pos rfl]
      have k12 := (c4 1 (by omega)).trans ((by rw [AMem.get_put, if_neg (by omega)] : (σ'.put q (.row 1 true [.slice r' 0 (its.length + 1) none 2])).get 1 = σ'.get 1).trans k1)
      have k22 := (c4 2 (by omega)).trans ((by rw [AMem.get_put, if_neg (by omega)] : (σ'.put q (.row 1 true [.slice r' 0 (its.length + 1) none 2])).get 2 = σ'.get 2).trans k2)
      have qo2 : q ∉ rowOf o2 := fun hm => by have := c5 q hm; omega
      have hset : (its ++ [p]).take 0 ++ (its ++ [p]).drop (0 + 1) = (its ++ [p]).drop 1 := by simp
      rw [hset] at c2
      have qr2 : ∀ x, x ∈ (its ++ [p]).drop 1 → q ∉ x.rows := fun x hx => qr' x (List.mem_of_mem_drop hx)
      have rl3 := c2.put (.row 1 true [o2]) qo2 qr2
      obtain ⟨r2, ho2e, f2, f3, f4⟩ := c2.row (by simp; omega)
      have hl2 : ((its ++ [p]).drop 1).length = its.length := by simp
      rw [hl2] at ho2e
      subst ho2e
      have hw : IntKind.i64.wrap (((its.length : Nat) : Int) - 1) = ((its.length : Nat) : Int) - 1 := i64_id (by omega) (by omega)
      have hr : rC (its.map RI.sh) at_ n of = (((its ++ [p]).drop 1).map RI.sh, (its.length : Int) - 1) := by
        unfold rC
        rw [if_pos h0, if_pos (by simp; omega), List.map_drop, List.map_append, List.length_map]
        rfl
      rw [hr]
      refine ⟨_, _, _, by
        simp only [aS, aB, stmtC, flatC, bodyOf, Tryz.f24, Option.getD_some, List.append_assoc, dx, reduceIte, Nat.reduceLT, Nat.reduceLeDiff, Nat.reduceEqDiff, Nat.reduceAdd, Nat.reduceMul, Nat.reduceSub, Nat.reduceBEq, Int.reduceEq, Int.reduceLT, Int.reduceLE, Int.reduceToNat, reduceCtorEq, sx, fx24, Nat.add_assoc, Nat.add_eq_left, Nat.left_eq_add, Nat.add_left_cancel_iff, t3, t4, t6, t7, h0, g1, gq, h24, hmax, Int.natCast_nonneg, Int.le_refl, Int.toNat_natCast, q5, q6, q7, q8, a1, hoo, kq, h5', c1, kq2, hw]
        rfl, rfl, _, (its ++ [p]).drop 1, ⟨?_, ?_, ?_, ?_, ?_, ?_, ?_, rl3, l3, ?_, q3, ?_, qo2, qr2⟩, rfl⟩
      · simp only [Tr.get_set, Nat.reduceEqDiff, reduceIte, t3]
      · simp only [Tr.get_set, Nat.reduceEqDiff, reduceIte, t4]
      · simp only [Tr.get_set, Nat.reduceEqDiff, reduceIte, t6]
      · simp only [Tr.get_set, Nat.reduceEqDiff, reduceIte]
      · rw [AMem.get_put, if_neg (by omega)]; exact k12
      · rw [AMem.get_put, if_neg (by omega)]; exact k22
      · rw [AMem.get_put, if_pos rfl]
      · simp only [AMem.next_put]; omega
      · simp only [AMem.next_put]; omega
    · have h5' : ¬ ((its.length + 1 : Nat) : Int) > 4 := by omega
      have hw : IntKind.i64.wrap (((its.length + 1 : Nat) : Int) - 1) = ((its.length : Nat) : Int) := by rw [i64_id (by omega) (by omega)]; omega
      have hr : rC (its.map RI.sh) at_ n of = ((its ++ [p]).map RI.sh, (its.length : Int)) := by
        unfold rC
        rw [if_pos h0, if_neg (by simp; omega), List.map_append, List.length_map]
        rfl
      rw [hr]
      refine ⟨_, _, _, by
        simp only [aS, aB, stmtC, flatC, bodyOf, Tryz.f24, Option.getD_some, List.append_assoc, dx, reduceIte, Nat.reduceLT, Nat.reduceLeDiff, Nat.reduceEqDiff, Nat.reduceAdd, Nat.reduceMul, Nat.reduceSub, Nat.reduceBEq, Int.reduceEq, Int.reduceLT, Int.reduceLE, Int.reduceToNat, reduceCtorEq, sx, fx24, Nat.add_assoc, Nat.add_eq_left, Nat.left_eq_add, Nat.add_left_cancel_iff, t3, t4, t6, t7, h0, g1, gq, h24, hmax, Int.natCast_nonneg, Int.le_refl, Int.toNat_natCast, q5, q6, q7, q8, a1, hoo, kq, h5', hw]
        rfl, rfl, _, its ++ [p], ⟨?_, ?_, ?_, ?_, ?_, ?_, ?_, by rw [hll] at *; exact rl2, l3, ?_, q3, ?_, by rw [hll] at *; exact qo', qr'⟩, rfl⟩
      · simp only [Tr.get_set, Nat.reduceEqDiff, reduceIte, t3]
      · simp only [Tr.get_set, Nat.reduceEqDiff, reduceIte, t4]
      · simp only [Tr.get_set, Nat.reduceEqDiff, reduceIte, t6]
      · simp only [Tr.get_set, Nat.reduceEqDiff, reduceIte]
      · rw [AMem.get_put, if_neg (by omega)]; exact k1
      · rw [AMem.get_put, if_neg (by omega)]; exact k2
      · rw [AMem.get_put, if_pos rfl]
      · simp only [AMem.next_put]; omega
      · simp only [AMem.next_put]; omega
  · have hr : rC (its.map RI.sh) at_ n of = (its.map RI.sh, at_) := by unfold rC; rw [if_neg h0]
    rw [hr]
    refine ⟨_, _, _, by
      simp only [aS, aB, stmtC, flatC, bodyOf, Tryz.f24, Option.getD_some, List.append_assoc, dx, reduceIte, Nat.reduceLT, Nat.reduceLeDiff, Nat.reduceEqDiff, Nat.reduceAdd, Nat.reduceMul, Nat.reduceSub, Nat.reduceBEq, Int.reduceEq, Int.reduceLT, Int.reduceLE, Int.reduceToNat, reduceCtorEq, sx, fx24, Nat.add_assoc, Nat.add_eq_left, Nat.left_eq_add, Nat.add_left_cancel_iff, t3, t4, t6, t7, h0]
      rfl, rfl, out, its, ⟨?_, ?_, ?_, ?_, g1, g2, gq, rl, l3, ln, q3, qn, qo, qr⟩, rfl⟩
    all_goals simp only [Tr.get_set, Nat.reduceEqDiff, reduceIte, t3, t4, t6, t7]
end Go.Proofs.YtjckhhkhgjbpaaaGreatDoor

/- ref.Add: its last pieces. -/
set_option maxRecDepth 100000
set_option linter.unusedSimpArgs false
set_option linter.unusedVariables false
namespace Go.Proofs.YtjckhhkhgjbpaaaGreatDoor
open Go Go.Proofs.YtjckhhkhgjbpaaaGreatDoor.Pale
variable {k : Nat} {σ : AMem}

theorem beq_nat_zero (n : Nat) : (((n : Nat) : Int) == 0) = decide (n = 0) := by
  rw [Bool.eq_iff_iff]; simp
def rD (l : List Sh) (i a : Nat) (d : List Nat) : List Sh := match l[i]? with
  | some s => l.set i { s with data := partsOf s.data a d }
  | none => l
theorem add_d {n : Int} {a of i : Nat} {vk : VK} {d : List Nat} {low q : Nat} {T : Tr AVal} {out : AVal} {its : List RI} (h : ASt n a of vk d low q T σ out its (i : Int)) (hl : its.length ≤ 900) (hi : i < its.length) (ha : a < its[i].sh.data.length) (hdl : d.length ≤ 1000) (hk : 1 ≤ k) :
    Runs lawProg (callN lawProg k) k 24 116 (.seq (aS 7) (aS 8)) T σ fun e T' σ' => e = .normal ∧ ∃ out' its', ASt n a of vk d low q T' σ' out' its' (i : Int) ∧ its'.map RI.sh = rD (its.map RI.sh) i a d := by
  obtain ⟨t3, t4, t6, t7, g1, g2, gq, rl, l3, ln, q3, qn, qo, qr⟩ := id h
  obtain ⟨r, rfl, r1, r2, gr⟩ := rl.row (by omega)
  have hlt : (i : Int) < its.length := by omega
  have hcell : ((its.map riC).flatten)[i * 2 + 1]? = some (.slice its[i].r 0 its[i].sh.data.length its[i].cap 1) := riC_get hi 1 (by omega)
  have hok := rl.2.1 _ (List.getElem_mem hi)
  have hlen := RI.ok.len hok
  obtain ⟨b1, b2, b3, S, b4, b5⟩ := id hok
  have halt : (a : Int) < ((its[i].sh.data.length : Nat) : Int) := by omega
  have hac : a < its[i].cs.length := by omega
  have hcs : its[i].cs[a]? = some its[i].cs[a] := List.getElem?_eq_getElem hac
  obtain ⟨S1, hs1, _⟩ := snapL_get b4 (i := a) hac (by rw [List.length_map]; exact ha)
  rw [List.getElem_map] at hs1
  have hlb := fun (e sz b : Nat) (z : List AVal) => len_bytes (σ := σ) (d := 6) (e := e) (sz := sz) (b := b) (z := z) hs1
  have hmi : (its.map RI.sh)[i]? = some its[i].sh := by rw [List.getElem?_map, List.getElem?_eq_getElem hi]; rfl
  have hda : its[i].sh.data[a]? = some its[i].sh.data[a] := List.getElem?_eq_getElem ha
  cases he : emptyQ its[i].sh.data[a] with
  | false =>
    have hz : ((((its[i].sh.data[a]).2.length : Nat) : Int) == 0) = false := by rw [beq_nat_zero]; exact he
    have hz2 : ¬ (its[i].sh.data[a]).2.length = 0 := by simpa [emptyQ] using he
    have hr : rD (its.map RI.sh) i a d = its.map RI.sh := by
      unfold rD partsOf
      rw [hmi]
      simp only [hda, hz2, if_false]
      apply List.ext_getElem (by simp)
      intro m h1 h2
      rw [List.getElem_set]
      split
      · rename_i e; subst e; rw [List.getElem_map]
      · rfl
    rw [hr]
    refine ⟨_, _, _, by
      simp only [aS, aB, stmtC, flatC, bodyOf, Tryz.f24, Option.getD_some, List.append_assoc, dx, reduceIte, Nat.reduceLT, Nat.reduceLeDiff, Nat.reduceEqDiff, Nat.reduceAdd, Nat.reduceMul, Nat.reduceSub, Nat.reduceBEq, Int.reduceEq, Int.reduceLT, Int.reduceLE, Int.reduceToNat, reduceCtorEq, sx, fx24, Nat.add_assoc, Nat.add_eq_left, Nat.left_eq_add, Nat.add_left_cancel_iff, t3, t4, t6, t7, g1, gq, gr, hlt, Int.natCast_nonneg, Int.toNat_natCast, hcell, b3, halt, hcs, hlb, hz]
      rfl, rfl, _, its, ⟨?_, ?_, ?_, ?_, g1, g2, gq, rl, l3, ln, q3, qn, qo, qr⟩, rfl⟩
    all_goals simp only [Tr.get_set, Nat.reduceEqDiff, reduceIte, t3, t4, t6, t7]
  | true =>
    have hz : ((((its[i].sh.data[a]).2.length : Nat) : Int) == 0) = true := by rw [beq_nat_zero]; exact he
    have hz2 : (its[i].sh.data[a]).2.length = 0 := by simpa [emptyQ] using he
    obtain ⟨rp, σc, c1, c2, c3, c4, c5⟩ := copy_at (σ := σ) (.vs vk (bytesV d)) (bs := d) (fun σ => source_bytes σ _ _) (by omega)
    have rlc : RL low σc (.slice r 0 its.length none 2) its := rl.same c2.1 fun s _ hs => c2.2 s hs
    have g1' := (c2.2 1 (by omega)).trans g1
    have g2' := (c2.2 2 (by omega)).trans g2
    have gq' := (c2.2 q qn).trans gq
    have gr' := (c2.2 r r2).trans gr
    have b3' := (c2.2 _ (b1 its[i].r (by simp [RI.rows])).2).trans b3
    have hrl := GrewE.rows rl.1
    have hrp : ∀ p, p ∈ its → rp ∉ p.rows := fun p hp hm => by have := ((rl.2.1 p hp).1 rp hm).2; omega
    have rlp := rlc.poke (i := i) (a := a) (rp := rp) (cap := capOf d) (d := d) hi ha c5 (by omega) c4 (fun hm => by have := (hrl rp hm).2; omega) hrp
    have hal : a + 1 ≤ its[i].cs.length := by omega
    have hr : rD (its.map RI.sh) i a d = (its.set i (pokeI its[i] a rp (capOf d) d)).map RI.sh := by
      unfold rD partsOf
      rw [hmi]
      simp only [hda, hz2, if_true, List.map_set]
      rfl
    rw [hr]
    have hir : its[i].r ≠ q := fun e => qr _ (List.getElem_mem hi) (by simp [RI.rows, e])
    have hi1 : low ≤ its[i].r := (b1 its[i].r (by simp [RI.rows])).1
    have x1 : ¬ σ.next = q := by omega
    have x2 : ¬ σ.next = 1 := by omega
    have x3 : ¬ σ.next = r := by omega
    have x4 : ¬ σ.next = its[i].r := by have := (b1 its[i].r (by simp [RI.rows])).2; omega
    refine ⟨_, _, _, by
      simp only [aS, aB, stmtC, flatC, bodyOf, Tryz.f24, Option.getD_some, List.append_assoc, dx, reduceIte, Nat.reduceLT, Nat.reduceLeDiff, Nat.reduceEqDiff, Nat.reduceAdd, Nat.reduceMul, Nat.reduceSub, Nat.reduceBEq, Int.reduceEq, Int.reduceLT, Int.reduceLE, Int.reduceToNat, reduceCtorEq, sx, fx24, Nat.add_assoc, Nat.add_eq_left, Nat.left_eq_add, Nat.add_left_cancel_iff, t3, t4, t6, t7, g1, gq, gr, hlt, Int.natCast_nonneg, Int.toNat_natCast, hcell, b3, halt, hcs, hlb, hz, c1, g1', gq', gr', b3', hal, x1, x2, x3, x4]
      rfl, rfl, _, _, ⟨?_, ?_, ?_, ?_, ?_, ?_, ?_, by simpa only [List.length_set] using rlp, l3, ?_, q3, ?_, ?_, ?_⟩, rfl⟩
    · simp only [Tr.get_set, Nat.reduceEqDiff, reduceIte, t3]
    · simp only [Tr.get_set, Nat.reduceEqDiff, reduceIte, t4]
    · simp only [Tr.get_set, Nat.reduceEqDiff, reduceIte, t6]
    · simp only [Tr.get_set, Nat.reduceEqDiff, reduceIte, t7]
    · rw [AMem.get_put, if_neg (by omega)]; exact g1'
    · rw [AMem.get_put, if_neg (by omega)]; exact g2'
    · rw [AMem.get_put, if_neg hir]; exact gq'
    · simp only [AMem.next_put]; have := c2.1; omega
    · simp only [AMem.next_put]; have := c2.1; omega
    · exact qo
    · intro p hp hm
      rcases List.mem_or_eq_of_mem_set hp with hp | rfl
      · exact qr p hp hm
      · simp only [RI.rows, pokeI, List.mem_cons] at hm
        rcases hm with hm | hm | hm
        · exact hir hm.symm
        · omega
        · exact qr _ (List.getElem_mem hi) (by simp [RI.rows, hm])
end Go.Proofs.YtjckhhkhgjbpaaaGreatDoor

/- ref.Add: what comes whole; the whole of it. -/
set_option maxRecDepth 100000
set_option linter.unusedSimpArgs false
set_option linter.unusedVariables false
namespace Go.Proofs.YtjckhhkhgjbpaaaGreatDoor
open Go Go.Proofs.YtjckhhkhgjbpaaaGreatDoor.Pale
variable {k : Nat} {σ : AMem}

def rE (l : List Sh) (i : Nat) : List Sh × List Nat := match l[i]? with
  | some s => if s.data.any emptyQ then (l, []) else (l.take i ++ l.drop (i + 1), catL s.data)
  | none => (l, [])
theorem catL_snoc (ps : List Part) (p : Part) : catL (ps ++ [p]) = catL ps ++ p.2 := by simp [catL]
theorem snap_whole {low j : Nat} {w : AVal} {bs : List Nat} (h : GrewE low σ 1 false w j (bytesV bs)) (d : Nat) : ∃ K S, snapF false σ (d + 2) w = some (.vs K (bytesV bs), S) := by
  rcases h with ⟨h0, ⟨h1, rfl⟩ | ⟨r, h1, h2, rfl, h4⟩⟩ | ⟨rfl, h00, r, h1, h2, rfl, h4⟩
  · have : bytesV bs = [] := List.eq_nil_of_length_eq_zero (by omega)
    rw [this]
    exact ⟨.nil, [], rfl⟩
  · exact ⟨.some, _, snap_bytes (d := d) (bs := bs) (more := []) (by rw [bytesV_length] at h0; omega) (by rw [List.append_nil]; exact h4)⟩
  · have hb : bs = [] := by cases bs with
      | nil => rfl
      | cons b bs => simp [bytesV] at h00
    subst hb
    exact ⟨.some, _, snap_bytes (d := d) (bs := []) (more := []) rfl h4⟩
theorem add_e {n : Int} {a of i : Nat} {vk : VK} {d : List Nat} {low q : Nat} {T : Tr AVal} {out : AVal} {its : List RI} (h : ASt n a of vk d low q T σ out its (i : Int)) (hl : its.length ≤ 900) (hi : i < its.length) (hof : its[i].sh.data.length = of) (hof2 : of ≤ 200) (hdl : ∀ p, p ∈ its[i].sh.data → p.2.length ≤ 1000) (hk : 1000 ≤ k) :
    ∃ T' σ' o w its', execC lawProg (callN lawProg k) k 24 116 (.seq (aS 9) (.seq (.seq (aS 10) (aS 11)) (.seq (aS 12) .ret))) T σ = some (.ret, T', σ') ∧ resultsA lawProg T' σ' Tryz.f24.results.toList = some [.agg [o], w] ∧ RL low σ' o its' ∧ (∃ K S, snapF false σ' 11 w = some (.vs K (bytesV (rE (its.map RI.sh) i).2), S)) ∧ its'.map RI.sh = (rE (its.map RI.sh) i).1 := by
  obtain ⟨t3, t4, t6, t7, g1, g2, gq, rl, l3, ln, q3, qn, qo, qr⟩ := id h
  obtain ⟨r, rfl, r1, r2, gr⟩ := rl.row (by omega)
  have hlt : (i : Int) < its.length := by omega
  have hcell : ((its.map riC).flatten)[i * 2 + 1]? = some (.slice its[i].r 0 its[i].sh.data.length its[i].cap 1) := riC_get hi 1 (by omega)
  have hok := rl.2.1 _ (List.getElem_mem hi)
  have hlen := RI.ok.len hok
  obtain ⟨b1, b2, b3, S, b4, b5⟩ := id hok
  have hmi : (its.map RI.sh)[i]? = some its[i].sh := by rw [List.getElem?_map, List.getElem?_eq_getElem hi]; rfl
  have hm2 : 2 ∉ its[i].rows := fun hm => by have := (b1 2 hm).1; omega
  have hrw := GrewE.rows rl.1
  obtain ⟨b, hb⟩ : ∃ b, b = σ.next := ⟨_, rfl⟩
  have q9 : ¬ b = q := by omega
  have q10 : ¬ b = 1 := by omega
  simp only [aS, aB, stmtC, flatC, bodyOf, Tryz.f24, Option.getD_some, List.append_assoc, dx, reduceIte, Nat.reduceLT, Nat.reduceLeDiff, Nat.reduceEqDiff, Nat.reduceAdd, Nat.reduceMul, Nat.reduceSub, Nat.reduceBEq, Int.reduceEq, Int.reduceLT, Int.reduceLE, Int.reduceToNat, reduceCtorEq, sx, fx24, Nat.add_assoc, Nat.add_eq_left, Nat.left_eq_add, Nat.add_left_cancel_iff, t3, t4, t6, t7, ← hb]
  generalize hL : execC _ _ _ _ _ (Code.loop _) _ _ = x
  obtain ⟨e, T', σ', rfl, _, hcase⟩ : ∃ e T' σ', x = some (e, T', σ') ∧ e ≠ .normal ∧ ((e = .exit 0 ∧ its[i].sh.data.any emptyQ = false ∧ T'.get 4 = some (.ptr 2 0) ∧ T'.get 6 = some (.ptr q 0) ∧ T'.get 7 = some (.int .i64 i) ∧ σ.next ≤ σ'.next ∧ (∀ s, s < σ.next → σ'.get s = σ.get s) ∧ ∃ w, T'.get 8 = some w ∧ GrewE b σ' 1 false w (catL its[i].sh.data).length (bytesV (catL its[i].sh.data))) ∨ (e = .ret ∧ its[i].sh.data.any emptyQ = true ∧ σ.next ≤ σ'.next ∧ (∀ s, s < σ.next → s ≠ 2 → σ'.get s = σ.get s) ∧ σ'.get 2 = some (.row 1 true [.slice r 0 its.length none 2]) ∧ T'.get 4 = some (.ptr 2 0) ∧ ∃ w, T'.get 5 = some (.slice w 0 0 (some 0) 1) ∧ σ'.get w = some (.row 1 false []))) := by
    rw [← hL]
    refine exec_loop2 (fun j T σ' => j ≤ of ∧ T.get 3 = some (.ptr 1 0) ∧ T.get 4 = some (.ptr 2 0) ∧ T.get 6 = some (.ptr q 0) ∧ T.get 7 = some (.int .i64 i) ∧ T.get 9 = some (.int .i64 j) ∧ σ.next ≤ σ'.next ∧ (∀ s, s < σ.next → σ'.get s = σ.get s) ∧ (∃ w, T.get 8 = some w ∧ GrewE b σ' 1 false w (catL (its[i].sh.data.take j)).length (bytesV (catL (its[i].sh.data.take j)))) ∧ ∀ p, p ∈ its[i].sh.data.take j → emptyQ p = false) of (by omega) ?_ ?_ ?_
    · rintro j hj T σ' ⟨_, t3, t4, t6, t7, t9, hnx, hfr, ⟨w, t8, hw8⟩, hall⟩
      have hjl : j < its[i].sh.data.length := by omega
      have hjlt : (j : Int) < ((of : Nat) : Int) := by omega
      have hjlt2 : (j : Int) < ((its[i].sh.data.length : Nat) : Int) := by omega
      have g1' := (hfr 1 (by omega)).trans g1
      have g2' := (hfr 2 (by omega)).trans g2
      have gq' := (hfr q qn).trans gq
      have gr' := (hfr r r2).trans gr
      have b3' := (hfr _ (b1 its[i].r (by simp [RI.rows])).2).trans b3
      have hjc : j < its[i].cs.length := by omega
      have hcs : its[i].cs[j]? = some its[i].cs[j] := List.getElem?_eq_getElem hjc
      obtain ⟨S1, hs0, hs1'⟩ := snapL_get b4 (i := j) hjc (by rw [List.length_map]; exact hjl)
      rw [List.getElem_map] at hs0
      have hs1 : snapF false σ' 8 its[i].cs[j] = some (partV its[i].sh.data[j], S1) := snapF_same 8 _ _ _ hs0 fun s hs => hfr s (b1 s (by simp [RI.rows, b5 s (hs1' s hs)])).2
      have hlb := fun (e sz b : Nat) (z : List AVal) => len_bytes (σ := σ') (d := 6) (e := e) (sz := sz) (b := b) (z := z) hs1
      have hwj := i64_succ (i := j) (by omega)
      cases he : emptyQ its[i].sh.data[j] with
      | true =>
        right
        have hz : ((((its[i].sh.data[j]).2.length : Nat) : Int) == 0) = true := by rw [beq_nat_zero]; exact he
        have x2 : ¬ σ'.next = q := by omega
        have x3 : ¬ σ'.next = 2 := by omega
        refine ⟨_, _, _, by
          simp only [dx, reduceIte, Nat.reduceLT, Nat.reduceLeDiff, Nat.reduceEqDiff, Nat.reduceAdd, Nat.reduceMul, Nat.reduceSub, Nat.reduceBEq, Int.reduceEq, Int.reduceLT, Int.reduceLE, Int.reduceToNat, reduceCtorEq, sx, fx24, Nat.add_assoc, Nat.add_eq_left, Nat.left_eq_add, Nat.add_left_cancel_iff, t3, t4, t6, t7, t8, t9, g1', gq', gr', hlt, hjlt, hjlt2, Int.natCast_nonneg, Int.toNat_natCast, hcell, b3', hcs, hlb, hz, g2', x2, x3]
          rfl, by simp, .inr ⟨rfl, ?_, ?_, ?_, ?_, ?_, σ'.next, ?_, ?_⟩⟩
        · rw [List.any_eq_true]; exact ⟨_, List.getElem_mem hjl, he⟩
        · simp only [AMem.next_put, AMem.next_push]; omega
        · intro s h1 h2
          rw [AMem.get_put, if_neg (by omega), AMem.get_push, if_neg (by omega)]; exact hfr s h1
        · rw [AMem.get_put, if_pos rfl]
        · simp only [Tr.get_set, Nat.reduceEqDiff, reduceIte, t4]
        · simp only [Tr.get_set, Nat.reduceEqDiff, reduceIte]
        · rw [AMem.get_put, if_neg (by omega), AMem.get_push, if_pos rfl]
      | false =>
        left
        have hz : ((((its[i].sh.data[j]).2.length : Nat) : Int) == 0) = false := by rw [beq_nat_zero]; exact he
        have hsrc := (cell_bytes (d := 6) hs1).2
        have hcb := catL_bound (its[i].sh.data.take j) 1000 (fun p hp => hdl p (List.mem_of_mem_take hp))
        rw [List.length_take] at hcb
        have hpb := hdl _ (List.getElem_mem hjl)
        have hmin : min j its[i].sh.data.length ≤ 200 := by omega
        obtain ⟨w2, σ2, a1, a2, a3, a4, a5⟩ := grewE_append (e := ⟨.int .u8, 1, 1, [.int .u8 0]⟩) (σ := σ') hw8 (by omega) hsrc (by rw [bytesV_length, Nat.mul_one]) (by decide) (by decide) (by decide) (by unfold mostBytes; simp only; omega) (bytesV_all _)
        have hrw8 := GrewE.rows hw8
        have ho2 : w2.oneCell = true := a2.oneCell
        rw [bytesV_append, ← catL_snoc, ← List.take_succ_eq_append_getElem hjl] at a2
        have hle : (catL (its[i].sh.data.take j)).length + (its[i].sh.data[j]).2.length = (catL (its[i].sh.data.take (j + 1))).length := by
          rw [List.take_succ_eq_append_getElem hjl, catL_snoc, List.length_append]
        rw [hle] at a2
        refine ⟨_, _, by
          simp only [dx, reduceIte, Nat.reduceLT, Nat.reduceLeDiff, Nat.reduceEqDiff, Nat.reduceAdd, Nat.reduceMul, Nat.reduceSub, Nat.reduceBEq, Int.reduceEq, Int.reduceLT, Int.reduceLE, Int.reduceToNat, reduceCtorEq, sx, fx24, Nat.add_assoc, Nat.add_eq_left, Nat.left_eq_add, Nat.add_left_cancel_iff, t3, t4, t6, t7, t8, t9, g1', gq', gr', hlt, hjlt, hjlt2, Int.natCast_nonneg, Int.toNat_natCast, hcell, b3', hcs, hlb, hz, a1, hwj]
          rfl, hj, ?_, ?_, ?_, ?_, ?_, by omega, fun s hs => ?_, ⟨w2, ?_, a2⟩, take_all hjl hall he⟩
        · simp only [Tr.get_set, Nat.reduceEqDiff, reduceIte, t3]
        · simp only [Tr.get_set, Nat.reduceEqDiff, reduceIte, t4]
        · simp only [Tr.get_set, Nat.reduceEqDiff, reduceIte, t6]
        · simp only [Tr.get_set, Nat.reduceEqDiff, reduceIte, t7]
        · simp only [Tr.get_set, Nat.reduceEqDiff, reduceIte]
        · rw [a4 s (by omega) (fun hm => by have := (hrw8 s hm).1; omega)]; exact hfr s hs
        · simp only [Tr.get_set, Nat.reduceEqDiff, reduceIte]
    · rintro T σ' ⟨_, t3, t4, t6, t7, t9, hnx, hfr, ⟨w, t8, hw8⟩, hall⟩
      have g1' := (hfr 1 (by omega)).trans g1
      rw [← hof, List.take_length] at hw8 hall
      refine ⟨_, _, _, by
        simp only [dx, reduceIte, Nat.reduceLT, Nat.reduceLeDiff, Nat.reduceEqDiff, Nat.reduceAdd, Nat.reduceMul, Nat.reduceSub, Nat.reduceBEq, Int.reduceEq, Int.reduceLT, Int.reduceLE, Int.reduceToNat, reduceCtorEq, sx, fx24, Nat.add_assoc, Nat.add_eq_left, Nat.left_eq_add, Nat.add_left_cancel_iff, t3, t4, t6, t7, t8, t9, g1', Int.lt_irrefl]
        rfl, by simp, .inl ⟨rfl, ?_, ?_, ?_, ?_, hnx, hfr, w, ?_, hw8⟩⟩
      · rw [List.any_eq_false]
        intro p hp
        rw [hall p hp]; simp
      · simp only [Tr.get_set, Nat.reduceEqDiff, reduceIte, t4]
      · simp only [Tr.get_set, Nat.reduceEqDiff, reduceIte, t6]
      · simp only [Tr.get_set, Nat.reduceEqDiff, reduceIte, t7]
      · simp only [Tr.get_set, Nat.reduceEqDiff, reduceIte, t8]
    · refine ⟨Nat.zero_le _, ?_, ?_, ?_, ?_, ?_, by simp, fun s hs => by rw [AMem.get_push, if_neg (by omega)], ⟨.slice b 0 0 (some 0) 1, ?_, .inr ⟨rfl, rfl, b, Nat.le_refl _, by simp [← hb], rfl, by rw [AMem.get_push, if_pos hb.symm]⟩⟩, by simp⟩
      · simp only [Tr.get_set, Nat.reduceEqDiff, reduceIte, t3]
      · simp only [Tr.get_set, Nat.reduceEqDiff, reduceIte, t4]
      · simp only [Tr.get_set, Nat.reduceEqDiff, reduceIte, t6]
      · simp only [Tr.get_set, Nat.reduceEqDiff, reduceIte, t7]
      · simp only [Tr.get_set, Nat.reduceEqDiff, reduceIte]; rfl
      · simp only [Tr.get_set, Nat.reduceEqDiff, reduceIte]
  rcases hcase with ⟨rfl, hany, u4, u6, u7, hnx, hfr, w, u8, hw8⟩ | ⟨rfl, hany, hnx, hfr, hg2, u4, w, u5, hw⟩
  · have rl' : RL low σ' (.slice r 0 its.length none 2) its := rl.same hnx fun s _ hs => hfr s hs
    have gq' := (hfr q qn).trans gq
    have g2' := (hfr 2 (by omega)).trans g2
    obtain ⟨o2, σ2, c1, c2, c3, c4, c5⟩ := without_callN (k := k) rl' (by omega) (by omega) hi (by omega)
    have ho := c2.one
    have hc := cells_one ho
    have g2'' := (c4 2 (by omega)).trans g2'
    have hr : rE (its.map RI.sh) i = ((its.take i ++ its.drop (i + 1)).map RI.sh, catL its[i].sh.data) := by
      unfold rE
      rw [hmi]
      simp only [hany, Bool.false_eq_true, if_false, List.map_append, List.map_take, List.map_drop]
    rw [hr]
    have n2 : 2 ∉ rowOf o2 := fun hm => by have := c5 2 hm; omega
    have w2 : GrewE b (σ2.put 2 (.row 1 true [o2])) 1 false w (catL its[i].sh.data).length (bytesV (catL its[i].sh.data)) := hw8.same (by simpa using c3) fun s h1 h2 => by rw [AMem.get_put, if_neg (by omega)]; exact c4 s h2
    refine ⟨_, _, o2, w, its.take i ++ its.drop (i + 1), by
      simp only [dx, reduceIte, Nat.reduceLT, Nat.reduceLeDiff, Nat.reduceEqDiff, Nat.reduceAdd, Nat.reduceMul, Nat.reduceSub, Nat.reduceBEq, Int.reduceEq, Int.reduceLT, Int.reduceLE, Int.reduceToNat, reduceCtorEq, sx, fx24, Nat.add_assoc, Nat.add_eq_left, Nat.left_eq_add, Nat.add_left_cancel_iff, u4, u6, u7, u8, gq', c1, g2'', ho, hc]
      rfl, ?_, c2.put _ n2 fun p hp hm => ?_, snap_whole w2 9, rfl⟩
    · simp only [Tryz.f24, resultsA, resultA, dx, reduceIte, Nat.reduceLT, Nat.reduceLeDiff, Nat.reduceEqDiff, Nat.reduceAdd, Nat.reduceMul, Nat.reduceSub, Nat.reduceBEq, Int.reduceEq, Int.reduceLT, Int.reduceLE, Int.reduceToNat, reduceCtorEq, sx, fx24, Nat.add_assoc, Nat.add_eq_left, Nat.left_eq_add, Nat.add_left_cancel_iff, u4]
    · have hpm : p ∈ its := by
        rcases List.mem_append.1 hp with h' | h'
        · exact List.mem_of_mem_take h'
        · exact List.mem_of_mem_drop h'
      have := ((rl.2.1 p hpm).1 2 hm).1; omega
  · have hr : rE (its.map RI.sh) i = (its.map RI.sh, []) := by
      unfold rE
      rw [hmi]
      simp only [hany, if_true]
    rw [hr]
    refine ⟨_, _, .slice r 0 its.length none 2, .slice w 0 0 (some 0) 1, its, by
      simp only [dx, reduceIte, Nat.reduceLT, Nat.reduceLeDiff, Nat.reduceEqDiff, Nat.reduceAdd, Nat.reduceMul, Nat.reduceSub, Nat.reduceBEq, Int.reduceEq, Int.reduceLT, Int.reduceLE, Int.reduceToNat, reduceCtorEq, sx, fx24, Nat.add_assoc, Nat.add_eq_left, Nat.left_eq_add, Nat.add_left_cancel_iff]
      rfl, ?_, rl.same hnx fun s h1 h2 => hfr s h2 (by omega), ⟨.some, [w], snap_bytes (d := 9) (bs := []) (more := []) rfl hw⟩, rfl⟩
    simp only [Tryz.f24, resultsA, resultA, dx, reduceIte, Nat.reduceLT, Nat.reduceLeDiff, Nat.reduceEqDiff, Nat.reduceAdd, Nat.reduceMul, Nat.reduceSub, Nat.reduceBEq, Int.reduceEq, Int.reduceLT, Int.reduceLE, Int.reduceToNat, reduceCtorEq, sx, fx24, Nat.add_assoc, Nat.add_eq_left, Nat.left_eq_add, Nat.add_left_cancel_iff, u4, u5, hg2]
end Go.Proofs.YtjckhhkhgjbpaaaGreatDoor

/- ref.Add and pack.Add do the same to a sorter: no program in sight; ref.Add as a call. -/
set_option maxRecDepth 100000
set_option linter.unusedSimpArgs false
set_option linter.unusedVariables false
namespace Go.Proofs.YtjckhhkhgjbpaaaGreatDoor
open Go Go.Proofs.YtjckhhkhgjbpaaaGreatDoor.Pale
variable {k : Nat} {σ : AMem}

theorem placeI_none {shs : List Sh} {n : Int} (h : ∀ s, s ∈ shs → s.name ≠ n) : placeI n shs = -1 := idxI_none fun x hx => by
  obtain ⟨s, hs, rfl⟩ := List.mem_map.1 hx
  rw [sameName_sh]
  simpa using h s hs
theorem placeI_cases (shs : List Sh) (n : Int) : (placeI n shs = -1 ∧ ∀ s, s ∈ shs → s.name ≠ n) ∨ ∃ i, ∃ hi : i < shs.length, placeI n shs = (i : Int) ∧ shs[i].name = n := by
  by_cases h : placeI n shs ≥ 0
  · obtain ⟨i, hi, h1, h2⟩ := idxI_ge h
    rw [List.length_map] at hi
    rw [List.getElem_map, sameName_sh] at h2
    exact .inr ⟨i, hi, h1, by simpa using h2⟩
  · left
    have h2 : ∀ s, s ∈ shs → s.name ≠ n := by
      intro s hs e
      have ha : (shs.map shV).any (sameName n) = true := by
        rw [List.any_eq_true]
        exact ⟨shV s, List.mem_map.2 ⟨s, hs, rfl⟩, by rw [sameName_sh, e]; simp⟩
      rw [← idxI_any] at ha
      exact h (by simpa [placeI] using ha)
    exact ⟨placeI_none h2, h2⟩
def Uniq (shs : List Sh) : Prop := ∀ i (hi : i < shs.length), ((shs.take i).any fun o => o.name == shs[i].name) = false
theorem Uniq.ne {shs : List Sh} (h : Uniq shs) {i j : Nat} (hi : i < shs.length) (hj : j < shs.length) (e : i ≠ j) : shs[i].name ≠ shs[j].name := by
  have key : ∀ i j (hi : i < shs.length) (hj : j < shs.length), i < j → shs[i].name ≠ shs[j].name := fun i j hi hj hl he => by
    have := h j hj
    rw [List.any_eq_false] at this
    have hm : shs[i] ∈ shs.take j := by
      rw [List.mem_take_iff_getElem]
      exact ⟨i, by omega, rfl⟩
    exact this _ hm (by simpa using he)
  rcases Nat.lt_or_gt_of_ne e with hl | hl
  · exact key i j hi hj hl
  · exact (key j i hj hi hl).symm
theorem filter_all {α : Type} {p : α → Bool} {l : List α} (h : ∀ x, x ∈ l → p x = true) : l.filter p = l := List.filter_eq_self.2 h
theorem keepS_ne {n : Int} {of : Nat} {s : Sh} (h : s.name ≠ n) : keepS n of s = true := by simp [keepS, h]
theorem filter_at {shs : List Sh} {n : Int} {of i : Nat} (hu : Uniq shs) (hi : i < shs.length) (hn : shs[i].name = n) (hl : shs[i].data.length ≠ of) : shs.filter (keepS n of) = shs.take i ++ shs.drop (i + 1) := by
  have hs : shs = shs.take i ++ shs[i] :: shs.drop (i + 1) := by rw [← List.drop_eq_getElem_cons hi, List.take_append_drop]
  have h1 : (shs.take i).filter (keepS n of) = shs.take i := filter_all fun s hs => by
    obtain ⟨j, hj, rfl⟩ := List.mem_iff_getElem.1 hs
    rw [List.length_take] at hj
    rw [List.getElem_take]
    exact keepS_ne (by rw [← hn]; exact hu.ne (by omega) hi (by omega))
  have h2 : (shs.drop (i + 1)).filter (keepS n of) = shs.drop (i + 1) := filter_all fun s hs => by
    obtain ⟨j, hj, rfl⟩ := List.mem_iff_getElem.1 hs
    rw [List.length_drop] at hj
    rw [List.getElem_drop]
    exact keepS_ne (by rw [← hn]; exact hu.ne (by omega) hi (by omega))
  have h3 : keepS n of shs[i] = false := by simp [keepS, hn, hl]
  conv => lhs; rw [hs]
  rw [List.filter_append, List.filter_cons, h1, h2, h3]
  rfl
/-- What ref.Add finds. -/
def rF (shs : List Sh) (n : Int) (of : Nat) : List Sh × Int := rC (rB (shs.map normP) (placeI n shs) of).1 (rB (shs.map normP) (placeI n shs) of).2 n of
theorem core_norm (l : List Sh) : (l.map normP).map coreS = l.map coreS := by
  rw [List.map_map]
  apply List.map_congr_left
  intro s _
  simp [coreS, normP, Function.comp_def]
theorem rF_eq {shs : List Sh} {n : Int} {of : Nat} (hu : Uniq shs) : (rF shs n of).1.map coreS = (findL shs n of).1.map coreS ∧ (rF shs n of).2 = (findL shs n of).2 := by
  have grow : ∀ (l : List Sh), (rC (l.map normP) (-1) n of).1.map coreS = (if l.length + 1 > 4 then ((l ++ [newSh n of]).drop 1, (l.length : Int) - 1) else (l ++ [newSh n of], (l.length : Int))).1.map coreS ∧ (rC (l.map normP) (-1) n of).2 = (if l.length + 1 > 4 then ((l ++ [newSh n of]).drop 1, (l.length : Int) - 1) else (l ++ [newSh n of], (l.length : Int))).2 := by
    intro l
    unfold rC
    rw [if_pos (by decide)]
    have hl : ((l.map normP) ++ [newSh n of]).length = l.length + 1 := by simp
    by_cases h4 : l.length + 1 > 4
    · rw [if_pos (by omega), if_pos h4]
      simp only [List.map_drop, List.map_append, core_norm, List.length_map, and_self]
    · rw [if_neg (by omega), if_neg h4]
      simp only [List.map_append, core_norm, List.length_map, and_self]
  rcases placeI_cases shs n with ⟨hp, hne⟩ | ⟨i, hi, hp, hn⟩
  · have hf : shs.filter (keepS n of) = shs := filter_all fun s hs => keepS_ne (hne s hs)
    have hrb : rB (shs.map normP) (placeI n shs) of = (shs.map normP, -1) := by rw [hp]; rfl
    unfold rF findL
    rw [hrb, hf, if_neg (by rw [hp]; decide)]
    exact grow shs
  · have hm : (shs.map normP)[((i : Nat) : Int).toNat]? = some (normP shs[i]) := by rw [Int.toNat_natCast, List.getElem?_map, List.getElem?_eq_getElem hi]; rfl
    by_cases hl : shs[i].data.length = of
    · have hf : shs.filter (keepS n of) = shs := filter_all fun s hs => by
        obtain ⟨j, hj, rfl⟩ := List.mem_iff_getElem.1 hs
        by_cases e : i = j
        · subst e; simp [keepS, hl]
        · exact keepS_ne (by rw [← hn]; exact hu.ne hj hi (Ne.symm e))
      have hrb : rB (shs.map normP) (placeI n shs) of = (shs.map normP, (i : Int)) := by
        rw [hp]
        unfold rB
        rw [if_pos (by omega), hm]
        simp only [normP, List.length_map, hl, if_true]
      unfold rF findL
      rw [hrb, hf, if_pos (by rw [hp]; omega), hp]
      unfold rC
      rw [if_neg (by omega)]
      exact ⟨core_norm shs, rfl⟩
    · have hf := filter_at hu hi hn hl
      have hrb : rB (shs.map normP) (placeI n shs) of = ((shs.take i ++ shs.drop (i + 1)).map normP, -1) := by
        rw [hp]
        unfold rB
        rw [if_pos (by omega), hm]
        simp only [normP, List.length_map, hl, if_false, Int.toNat_natCast, List.map_append, List.map_take, List.map_drop]
      have hne : ∀ s, s ∈ shs.take i ++ shs.drop (i + 1) → s.name ≠ n := fun s hs => by
        rw [← hn]
        rcases List.mem_append.1 hs with h | h
        · obtain ⟨j, hj, rfl⟩ := List.mem_iff_getElem.1 h
          rw [List.length_take] at hj
          rw [List.getElem_take]
          exact hu.ne (by omega) hi (by omega)
        · obtain ⟨j, hj, rfl⟩ := List.mem_iff_getElem.1 h
          rw [List.length_drop] at hj
          rw [List.getElem_drop]
          exact hu.ne (by omega) hi (by omega)
      unfold rF findL
      rw [hrb, hf, if_neg (by rw [placeI_none hne]; decide)]
      exact grow _
def rAdd (shs : List Sh) (n : Int) (of a : Nat) (d : List Nat) : List Sh × List Nat := rE (rD (rF shs n of).1 (rF shs n of).2.toNat a d) (rF shs n of).2.toNat
theorem any_core (xs : List Part) : xs.any emptyQ = (xs.map (·.2)).any fun b => decide (b.length = 0) := by rw [List.any_map]; rfl
theorem catL_core (xs : List Part) : catL xs = (xs.map (·.2)).flatten := by rw [catL, List.flatMap_def]
def partsB (l : List (List Nat)) (a : Nat) (d : List Nat) : List (List Nat) := match l[a]? with
  | some p => if p.length = 0 then l.set a d else l
  | none => l
theorem partsOf_core (xs : List Part) (a : Nat) (d : List Nat) : (partsOf xs a d).map (·.2) = partsB (xs.map (·.2)) a d := by
  unfold partsOf partsB
  rw [List.getElem?_map]
  cases xs[a]? with
  | none => rfl
  | some p =>
    simp only [Option.map_some]
    by_cases h : p.2.length = 0
    · rw [if_pos h, if_pos h, List.map_set]
    · rw [if_neg h, if_neg h]
theorem addL_core {shs : List Sh} {n : Int} {of a : Nat} {d : List Nat} (hu : Uniq shs) : (rAdd shs n of a d).1.map coreS = (addL shs n of a d).1.map coreS ∧ (rAdd shs n of a d).2 = (addL shs n of a d).2 := by
  obtain ⟨h1, h2⟩ := rF_eq (n := n) (of := of) hu
  obtain ⟨i, hi, hi2, _, _⟩ := find_spec shs n of
  have hl : (rF shs n of).1.length = (findL shs n of).1.length := by have := congrArg List.length h1; simpa using this
  obtain ⟨e1, e2⟩ := core_at h1 (i := i) (by omega) hi
  have hi' : i < (rF shs n of).1.length := by omega
  generalize hx : (rF shs n of).1[i] = x at *
  generalize hz : (findL shs n of).1[i] = z at *
  have hpc : (partsOf x.data a d).map (·.2) = (partsOf z.data a d).map (·.2) := by rw [partsOf_core, partsOf_core, e2]
  have hany : (partsOf x.data a d).any emptyQ = (partsOf z.data a d).any emptyQ := by rw [any_core, any_core, hpc]
  unfold rAdd addL rE
  rw [h2, hi2, Int.toNat_natCast, List.getElem?_eq_getElem hi, hz]
  have hd : rD (rF shs n of).1 i a d = (rF shs n of).1.set i { x with data := partsOf x.data a d } := by
    unfold rD
    rw [List.getElem?_eq_getElem hi', hx]
  rw [hd]
  rw [List.getElem?_set, if_pos rfl, if_pos hi']
  simp only [hany]
  cases (partsOf z.data a d).any emptyQ with
  | true =>
    simp only [if_true, and_true]
    rw [List.map_set, List.map_set, h1]
    simp only [coreS, e1, hpc]
  | false =>
    simp only [Bool.false_eq_true, if_false]
    refine ⟨?_, by rw [catL_core, catL_core, hpc]⟩
    rw [← List.eraseIdx_eq_take_drop_succ, erase_set, List.eraseIdx_eq_take_drop_succ, List.eraseIdx_eq_take_drop_succ]
    rw [List.map_append, List.map_append, List.map_take, List.map_take, List.map_drop, List.map_drop, h1]
/-! ### bounds -/
theorem rB_mem {l : List Sh} {i : Int} {of : Nat} {s : Sh} (h : s ∈ (rB l i of).1) : s ∈ l := by
  unfold rB at h
  split at h
  · split at h
    · split at h
      · exact h
      · rcases List.mem_append.1 h with h | h
        · exact List.mem_of_mem_take h
        · exact List.mem_of_mem_drop h
    · exact h
  · exact h
theorem rC_mem {l : List Sh} {i n : Int} {of : Nat} {s : Sh} (h : s ∈ (rC l i n of).1) : s ∈ l ∨ s = newSh n of := by
  unfold rC at h
  split at h
  · split at h
    · simpa using List.mem_of_mem_drop h
    · simpa using h
  · exact .inl h
theorem rB_len (l : List Sh) (i : Int) (of : Nat) : (rB l i of).1.length ≤ l.length := by
  unfold rB
  split
  · split
    · split
      · exact Nat.le_refl _
      · simp only [List.length_append, List.length_take, List.length_drop]; omega
    · exact Nat.le_refl _
  · exact Nat.le_refl _
/-- ref.Add as a call. -/
theorem radd_calls (lk vk : VK) (shs : List Sh) (n : Int) (a of : Nat) (d : List Nat) (hs : SorterOk shs) (hc : OkC n a of d) (hk : 5000 ≤ k) :
    ∃ K K', ∀ σ : AMem, pureCall lawProg (callN lawProg k) (.func 24 [] []) [.agg [.vs lk (shs.map shV)], .agg [.int .i64 n, .int .i64 (a : Nat), .int .i64 (of : Nat), .vs vk (bytesV d)]] σ = some (.tuple [.agg [.vs K (((rAdd shs n of a d).1.map dkS').map shV)], .vs K' (bytesV (rAdd shs n of a d).2)], σ) := by
  obtain ⟨k, rfl⟩ : ∃ m, k = m + 1 := ⟨k - 1, by omega⟩
  obtain ⟨⟨c1, c2⟩, ⟨c3, c4⟩, c5, ⟨c6, c7⟩⟩ := id hc
  obtain ⟨s1, s2, s3⟩ := id hs
  have hsh : ∀ s, s ∈ shs → 0 < s.data.length ∧ s.data.length ≤ 200 ∧ ∀ p, p ∈ s.data → p.2.length ≤ 100 := fun s h => by
    have := (sheafB_eq s).1 (s3 s h)
    exact ⟨by omega, this.2.1, this.2.2.2.2⟩
  obtain ⟨T1, σ1, q, out, its, e1, st1, h1⟩ := add_a (k := k) lk vk shs n a of d (by omega) (fun s h => ⟨(hsh s h).1, by have := (hsh s h).2.1; omega, fun p hp => by have := (hsh s h).2.2 p hp; omega⟩) (by omega)
  have hl1 : its.length = shs.length := by have := congrArg List.length h1; simpa using this
  have hat : placeI n shs = -1 ∨ ∃ i : Nat, i < its.length ∧ placeI n shs = (i : Int) := by
    rcases placeI_cases shs n with ⟨h, _⟩ | ⟨i, hi, h, _⟩
    · exact .inl h
    · exact .inr ⟨i, by omega, h⟩
  obtain ⟨_, T2, σ2, e2, rfl, out2, its2, st2, h2⟩ := add_b (k := k) st1 (by omega) hat (by omega)
  rw [h1] at st2 h2
  have hl2 : its2.length ≤ shs.length := by
    have := congrArg List.length h2
    have h3 := rB_len (shs.map normP) (placeI n shs) of
    simp only [List.length_map] at this h3
    omega
  obtain ⟨_, T3, σ3, e3, rfl, out3, its3, st3, h3⟩ := add_c (k := k) st2 (by omega) (by omega) (by omega)
  rw [h2] at st3 h3
  have hrF : rC (rB (shs.map normP) (placeI n shs) of).1 (rB (shs.map normP) (placeI n shs) of).2 n of = rF shs n of := rfl
  rw [hrF] at st3 h3
  obtain ⟨f1, f2⟩ := rF_eq (n := n) (of := of) s2
  obtain ⟨i, hi, hi2, hnm, hlen⟩ := find_spec shs n of
  have hlf : its3.length = (findL shs n of).1.length := by
    have a1 := congrArg List.length f1
    have a2 := congrArg List.length h3
    simp only [List.length_map] at a1 a2
    omega
  have hii : (rF shs n of).2 = (i : Int) := f2.trans hi2
  rw [hii] at st3
  have hi3 : i < its3.length := by omega
  have hrl : (rF shs n of).1.length = its3.length := by have := congrArg List.length h3; simpa using this.symm
  have hsi : its3[i].sh = (rF shs n of).1[i]'(by omega) := by
    have : (its3.map RI.sh)[i]'(by simpa using hi3) = (rF shs n of).1[i]'(by omega) := by simp only [h3]
    rw [List.getElem_map] at this
    exact this
  have hsl : its3[i].sh.data.length = of := by
    rw [hsi]
    have := (core_at f1 (i := i) (by omega) hi).2
    have := congrArg List.length this
    simp only [List.length_map] at this
    omega
  have hl3 : its3.length ≤ 900 := by rw [hlf]; have := find_len shs n of; omega
  obtain ⟨_, T4, σ4, e4, rfl, out4, its4, st4, h4⟩ := add_d (k := k) st3 hl3 hi3 (by omega) (by omega) (by omega)
  rw [h3] at h4
  have hmem : ∀ s, s ∈ (rF shs n of).1 → ∀ p, p ∈ s.data → p.2.length ≤ 100 := fun s hs p hp => by
    rcases rC_mem hs with h | rfl
    · obtain ⟨s0, hs0, rfl⟩ := List.mem_map.1 (rB_mem h)
      simp only [normP, List.mem_map] at hp
      obtain ⟨p0, hp0, rfl⟩ := hp
      exact (hsh s0 hs0).2.2 p0 hp0
    · simp only [newSh] at hp
      rw [List.eq_of_mem_replicate hp]
      simp
  have hi' : i < (rF shs n of).1.length := by omega
  have hd4 : rD (rF shs n of).1 i a d = (rF shs n of).1.set i { (rF shs n of).1[i] with data := partsOf (rF shs n of).1[i].data a d } := by
    unfold rD
    rw [List.getElem?_eq_getElem hi']
  have hl4 : its4.length = its3.length := by
    have := congrArg List.length h4
    rw [hd4] at this
    simpa [hrl] using this
  have hs4 : its4[i].sh = { (rF shs n of).1[i] with data := partsOf (rF shs n of).1[i].data a d } := by
    have : (its4.map RI.sh)[i]'(by simp; omega) = (rD (rF shs n of).1 i a d)[i]'(by rw [hd4]; simpa using hi') := by simp only [h4]
    rw [List.getElem_map] at this
    rw [this]
    simp only [hd4, List.getElem_set_self]
  have hpl : (partsOf (rF shs n of).1[i].data a d).length = of := by
    rw [hsi] at hsl
    unfold partsOf
    split
    · split
      · rw [List.length_set]; exact hsl
      · exact hsl
    · exact hsl
  obtain ⟨T5, σ5, o, w, its5, e5, r5, rl5, ⟨K', S', hw5⟩, h5⟩ := add_e (k := k) st4 (by omega) (by omega) (by rw [hs4]; exact hpl) (by omega) (fun p hp => by
    rw [hs4] at hp
    simp only [partsOf] at hp
    split at hp
    · split at hp
      · rcases List.mem_or_eq_of_mem_set hp with hp | rfl
        · have := hmem _ (List.getElem_mem hi') p hp; omega
        · simp only; omega
      · have := hmem _ (List.getElem_mem hi') p hp; omega
    · have := hmem _ (List.getElem_mem hi') p hp; omega) (by omega)
  have hra : rE (its4.map RI.sh) i = rAdd shs n of a d := by
    unfold rAdd
    rw [h4, hii, Int.toNat_natCast]
  rw [hra] at hw5 h5
  -- the whole run
  have e : execC lawProg (callN lawProg k) k 24 116 (bodyOf Tryz.f24) (initT 0 [.agg [.vs lk (shs.map shV)], .agg [.int .i64 n, .int .i64 (a : Nat), .int .i64 (of : Nat), .vs vk (bytesV d)]] .nil) AMem.empty = some (.ret, T5, σ5) := by
    rw [add_form]
    have a0 : ∀ (x y z w : Code) (T T' : Tr AVal) (σ σ' : AMem), execC lawProg (callN lawProg k) k 24 116 (.seq x (.seq y z)) T σ = some (.normal, T', σ') → execC lawProg (callN lawProg k) k 24 116 (.seq x (.seq y (.seq z w))) T σ = execC lawProg (callN lawProg k) k 24 116 w T' σ' := by
      intro x y z w T T' σ σ' hh
      rw [q_seq] at hh ⊢
      cases hx : execC lawProg (callN lawProg k) k 24 116 x T σ with
      | none => rw [hx] at hh; cases hh
      | some p =>
        obtain ⟨e, T2, s2⟩ := p
        rw [hx] at hh
        cases e with
        | normal =>
          simp only at hh ⊢
          rw [q_seq] at hh ⊢
          cases hy : execC lawProg (callN lawProg k) k 24 116 y T2 s2 with
          | none => rw [hy] at hh; cases hh
          | some p =>
            obtain ⟨e, T3, s3⟩ := p
            rw [hy] at hh
            cases e with
            | normal =>
              simp only at hh ⊢
              rw [exec_seq hh]
            | _ => cases hh
        | _ => cases hh
    rw [a0 _ _ _ _ _ _ _ _ e1, exec_seq e2, exec_seq e3, exec_seq e4]
    exact e5
  obtain ⟨K, S, hs5⟩ := rl5.snapA
  have hs6 := hs5
  have hmm : (its5.map fun p => dkS' p.sh) = (rAdd shs n of a d).1.map dkS' := by rw [← h5, List.map_map]; rfl
  rw [hmm] at hs6
  have hsn : snapF false σ5 snapDepth (packA [.agg [o], w]) = some (.tuple [.agg [.vs K (((rAdd shs n of a d).1.map dkS').map shV)], .vs K' (bytesV (rAdd shs n of a d).2)], S ++ (S' ++ [])) := by
    show (snapL (snapF false σ5 11) [.agg [o], w]).map (fun (l, a) => (AVal.tuple l, a)) = _
    simp only [snapL, hs6, hw5, Option.map_some]
  obtain ⟨b, hr⟩ := pureRun_any fn24 rfl (by simp [Tryz.f24]) e (by simp) r5 hsn
  exact ⟨K, K', fun σ => pureCall_of0 (args' := [.agg [.vs lk (shs.map shV)], .agg [.int .i64 n, .int .i64 (a : Nat), .int .i64 (of : Nat), .vs vk (bytesV d)]]) rfl (memo24 _) hr⟩
end Go.Proofs.YtjckhhkhgjbpaaaGreatDoor

/- PackAdds: its run. -/
set_option maxRecDepth 100000
set_option linter.unusedSimpArgs false
set_option linter.unusedVariables false
namespace Go.Proofs.YtjckhhkhgjbpaaaGreatDoor
open Go Go.Proofs.YtjckhhkhgjbpaaaGreatDoor.Pale
variable {k : Nat} {σ : AMem}

theorem sorterOk_norm (shs : List Sh) : SorterOk (shs.map normS) ↔ SorterOk shs := by
  unfold SorterOk
  have h1 : (∀ i (hi : i < (shs.map normS).length), (((shs.map normS).take i).any fun o => o.name == (shs.map normS)[i].name) = false) ↔ ∀ i (hi : i < shs.length), ((shs.take i).any fun o => o.name == shs[i].name) = false := by
    constructor
    · intro h i hi
      have := h i (by simpa using hi)
      rw [← List.map_take, List.any_map, List.getElem_map] at this
      exact this
    · intro h i hi
      rw [List.length_map] at hi
      rw [← List.map_take, List.any_map, List.getElem_map]
      exact h i hi
  have h2 : (∀ s, s ∈ shs.map normS → sheafB s = true) ↔ ∀ s, s ∈ shs → sheafB s = true := by
    constructor
    · intro h s hs
      rw [← sheafB_norm]
      exact h _ (List.mem_map.2 ⟨s, hs, rfl⟩)
    · intro h s hs
      obtain ⟨t, ht, rfl⟩ := List.mem_map.1 hs
      rw [sheafB_norm]
      exact h t ht
  exact ⟨fun ⟨a, b, c⟩ => ⟨by simpa using a, h1.1 b, h2.1 c⟩, fun ⟨a, b, c⟩ => ⟨by simpa using a, h1.2 b, h2.2 c⟩⟩
theorem add_bad1 (lk : VK) (shs : List Sh) (c : AVal) (hc : c.cells.length = 4) (hc1 : c.cells.all AVal.oneCell = true) (n a of : Int) (vk : VK) (d : List Nat) (he : c = .agg [.int .i64 n, .int .i64 a, .int .i64 of, .vs vk (bytesV d)]) (hs : ¬ SorterOk shs) (hn : shs.length ≤ 1000) (hd : ∀ s, s ∈ shs → s.data.length ≤ 1000) (hk : 5000 ≤ k) :
    pureCall lawProg (callN lawProg k) (.func 19 [] []) [.agg [.vs lk (shs.map shV)], c] σ = some (.tuple [.agg [.vs .nil []], .vs .nil [], .int .i64 4], σ) := by
  obtain ⟨k, rfl⟩ : ∃ m, k = m + 1 := ⟨k - 1, by omega⟩
  obtain ⟨E, hck, _, hck1⟩ := checkSorter_call (k := k) lk shs hn hd (by omega)
  rw [hck1 hs] at hck
  subst he
  have run : ∃ T1 σ1, execC lawProg (callN lawProg k) k 19 73 (bodyOf Tryz.f19) (initT 0 [.agg [.vs lk (shs.map shV)], .agg [.int .i64 n, .int .i64 a, .int .i64 of, .vs vk (bytesV d)]] .nil) AMem.empty = some (.ret, T1, σ1) ∧ resultsA lawProg T1 σ1 Tryz.f19.results.toList = some [.agg [.vs .nil []], .vs .nil [], .int .i64 4] := by
    have hne : ((4 : Int) != 0) = true := rfl
    simp only [bodyOf, Tryz.f19, Option.getD_some, initT, dx, reduceIte, Nat.reduceLT, Nat.reduceLeDiff, Nat.reduceEqDiff, Nat.reduceAdd, Nat.reduceMul, Nat.reduceSub, Nat.reduceBEq, Int.reduceEq, Int.reduceLT, Int.reduceLE, Int.reduceToNat, reduceCtorEq, sx, fx19, hck, hne]
    refine ⟨_, _, rfl, ?_⟩
    simp only [Tryz.f19, resultsA, resultA, dx, reduceIte, Nat.reduceLT, Nat.reduceLeDiff, Nat.reduceEqDiff, Nat.reduceAdd, Nat.reduceMul, Nat.reduceSub, Nat.reduceBEq, Int.reduceEq, Int.reduceLT, Int.reduceLE, Int.reduceToNat, reduceCtorEq, sx, fx19]
  obtain ⟨T1, σ1, h1, h2⟩ := run
  exact pureCall_of rfl (memo19 _) (pureRun_of fn19 rfl (by simp [Tryz.f19]) h1 (by simp) h2 rfl)
theorem add_bad2 (lk : VK) (shs : List Sh) (n a of : Int) (vk : VK) (d : List Nat) (hs : SorterOk shs) (hc : ¬ OkC n a of d) (hk : 5000 ≤ k) :
    pureCall lawProg (callN lawProg k) (.func 19 [] []) [.agg [.vs lk (shs.map shV)], .agg [.int .i64 n, .int .i64 a, .int .i64 of, .vs vk (bytesV d)]] σ = some (.tuple [.agg [.vs .nil []], .vs .nil [], .int .i64 2], σ) := by
  obtain ⟨k, rfl⟩ : ∃ m, k = m + 1 := ⟨k - 1, by omega⟩
  have hsl := hs.1
  obtain ⟨E, hck, hck0, _⟩ := checkSorter_call (k := k) lk shs (by omega) (fun s h => by have := (sheafB_eq s).1 (hs.2.2 s h); omega) (by omega)
  rw [hck0 hs] at hck
  have hic := fun (σ : AMem) => isChunk_call (k := k) (σ := σ) (x := .agg [.int .i64 n, .int .i64 a, .int .i64 of, .vs vk (bytesV d)]) (seen := []) (name := n) (i := a) (of := of) (vk := vk) (d := d) rfl (by omega)
  simp only [decide_eq_false hc] at hic
  have run : ∃ T1 σ1, execC lawProg (callN lawProg k) k 19 73 (bodyOf Tryz.f19) (initT 0 [.agg [.vs lk (shs.map shV)], .agg [.int .i64 n, .int .i64 a, .int .i64 of, .vs vk (bytesV d)]] .nil) AMem.empty = some (.ret, T1, σ1) ∧ resultsA lawProg T1 σ1 Tryz.f19.results.toList = some [.agg [.vs .nil []], .vs .nil [], .int .i64 2] := by
    have hne : ((0 : Int) != 0) = false := rfl
    simp only [bodyOf, Tryz.f19, Option.getD_some, initT, dx, reduceIte, Nat.reduceLT, Nat.reduceLeDiff, Nat.reduceEqDiff, Nat.reduceAdd, Nat.reduceMul, Nat.reduceSub, Nat.reduceBEq, Int.reduceEq, Int.reduceLT, Int.reduceLE, Int.reduceToNat, reduceCtorEq, sx, fx19, hck, hne, hic]
    refine ⟨_, _, rfl, ?_⟩
    simp only [Tryz.f19, resultsA, resultA, dx, reduceIte, Nat.reduceLT, Nat.reduceLeDiff, Nat.reduceEqDiff, Nat.reduceAdd, Nat.reduceMul, Nat.reduceSub, Nat.reduceBEq, Int.reduceEq, Int.reduceLT, Int.reduceLE, Int.reduceToNat, reduceCtorEq, sx, fx19]
  obtain ⟨T1, σ1, h1, h2⟩ := run
  exact pureCall_of rfl (memo19 _) (pureRun_of fn19 rfl (by simp [Tryz.f19]) h1 (by simp) h2 rfl)
theorem core_dk (l : List Sh) : (l.map dkS).map coreS = l.map coreS := by rw [List.map_map]; rfl
theorem core_dk' (l : List Sh) : (l.map dkS').map coreS = l.map coreS := by rw [List.map_map]; rfl
theorem rAdd_norm (shs : List Sh) (n : Int) (of a : Nat) (d : List Nat) : rAdd (shs.map normS) n of a d = rAdd shs n of a d := by
  have h1 : (shs.map normS).map normP = shs.map normP := by
    rw [List.map_map]
    apply List.map_congr_left
    intro s _
    simp [normP, normS, Function.comp_def]
  have h2 : placeI n (shs.map normS) = placeI n shs := placeI_names n (by rw [List.map_map]; rfl)
  unfold rAdd rF
  rw [h1, h2]
theorem adds_run (lk vk : VK) (shs : List Sh) (n a of : Int) (d : List Nat) (hk : 10000 ≤ k) : ∃ σ', callN lawProg (k + 1) (.func 5 [] []) [.agg [.vs lk (shs.map shV)], .agg [.int .i64 n, .int .i64 a, .int .i64 of, .vs vk (bytesV d)]] AMem.empty = some (.bool true, σ') := by
  obtain ⟨b, hth, hthin⟩ := thinSorter_call (k := k) lk shs (by omega)
  have run : ∃ T1 σ1, execC lawProg (callN lawProg k) k 5 72 (bodyOf Tryz.f5) (initT 0 [.agg [.vs lk (shs.map shV)], .agg [.int .i64 n, .int .i64 a, .int .i64 of, .vs vk (bytesV d)]] .nil) AMem.empty = some (.ret, T1, σ1) ∧ T1.get 4 = some (.bool true) := by
    cases b with
    | false =>
      simp only [bodyOf, Tryz.f5, Option.getD_some, initT, dx, reduceIte, Nat.reduceLT, Nat.reduceLeDiff, Nat.reduceEqDiff, Nat.reduceAdd, Nat.reduceMul, Nat.reduceSub, Nat.reduceBEq, Int.reduceEq, Int.reduceLT, Int.reduceLE, Int.reduceToNat, reduceCtorEq, sx, fx5, hth, awake_call]
      exact ⟨_, _, rfl, by simp only [Tr.get_set, Nat.reduceEqDiff, reduceIte]⟩
    | true =>
      obtain ⟨t1, t2⟩ := hthin rfl
      by_cases hd : ((d.length : Nat) : Int) > 120
      · simp only [bodyOf, Tryz.f5, Option.getD_some, initT, dx, reduceIte, Nat.reduceLT, Nat.reduceLeDiff, Nat.reduceEqDiff, Nat.reduceAdd, Nat.reduceMul, Nat.reduceSub, Nat.reduceBEq, Int.reduceEq, Int.reduceLT, Int.reduceLE, Int.reduceToNat, reduceCtorEq, sx, fx5, hth, awake_call, bytesV_length, hd]
        exact ⟨_, _, rfl, by simp only [Tr.get_set, Nat.reduceEqDiff, reduceIte]⟩
      · have hcp := fun (σ : AMem) => rcopy_call (k := k) (σ := σ) lk shs (by omega) (fun s h => ⟨by have := (t2 s h).1; omega, fun p hp => by have := (t2 s h).2 p hp; omega⟩) (by omega)
        have hcc := fun (σ : AMem) => copyChunk_call (k := k) (σ := σ) n a of vk d (by omega) (by omega)
        have hnl : (shs.map normS).length ≤ 1000 := by rw [List.length_map]; omega
        have hnd : ∀ s, s ∈ shs.map normS → s.data.length ≤ 1000 := fun s hs => by
          obtain ⟨t, ht, rfl⟩ := List.mem_map.1 hs
          have := (t2 t ht).1
          simp only [normS, List.length_map]; omega
        obtain ⟨E, hck, hck0, hck1⟩ := checkSorter_call (k := k) (lkOf shs.length) (shs.map normS) hnl hnd (by omega)
        obtain ⟨bs, his, hisb⟩ := isSorter_call (k := k) lk shs (by omega) (fun s h => by have := (t2 s h).1; omega) (by omega)
        have hic := fun (σ : AMem) => rIsChunk_call (k := k) (σ := σ) (x := .agg [.int .i64 n, .int .i64 a, .int .i64 of, .vs vk (bytesV d)]) (seen := []) (name := n) (i := a) (of := of) (vk := vk) (d := d) rfl (by omega)
        have e44 : ((4 : Int) == 4) = true := rfl
        have e00 : ((0 : Int) == 0) = true := rfl
        have e22 : ((2 : Int) == 2) = true := rfl
        have hse := fun (σ : AMem) => rsame_call (k := k) (σ := σ) .nil .nil [] [] rfl (by simp) (by simp) (by omega)
        simp only [List.map_nil] at hse
        have hb0 : bytesOfA ([] : List AVal) = some [] := rfl
        have hfm : List.flatMap AVal.cells ([] : List AVal) = [] := rfl
        have hxx : abinStr .eql ([] : List UInt8) [] = some (.bool true) := rfl
        by_cases hs : SorterOk shs
        · obtain rfl : bs = true := hisb.2 hs
          rw [hck0 ((sorterOk_norm shs).2 hs)] at hck
          by_cases hc : OkC n a of d
          · obtain ⟨ao, hao⟩ : ∃ m : Nat, a = (m : Int) := ⟨a.toNat, by have := hc.2.1; omega⟩
            obtain ⟨oo, hoo⟩ : ∃ m : Nat, of = (m : Int) := ⟨of.toNat, by have := hc.1; omega⟩
            subst hao; subst hoo
            simp only [decide_eq_true hc] at hic
            have hadd := fun (σ : AMem) => add_call (k := k) (σ := σ) (lkOf shs.length) (shs.map normS) n ao oo d ((sorterOk_norm shs).2 hs) (fun s hs p hp => by
              obtain ⟨t, ht, rfl⟩ := List.mem_map.1 hs
              simp only [normS, List.mem_map] at hp
              obtain ⟨q, _, rfl⟩ := hp
              rfl) hc (by omega)
            obtain ⟨K, K', hr⟩ : ∃ K K', ∀ σ : AMem, pureCall lawProg (callN lawProg k) (.func 24 [] []) [.agg [.vs lk (shs.map shV)], .agg [.int .i64 n, .int .i64 (ao : Nat), .int .i64 (oo : Nat), .vs vk (bytesV d)]] σ = some (.tuple [.agg [.vs K (((rAdd shs n oo ao d).1.map dkS').map shV)], .vs K' (bytesV (rAdd shs n oo ao d).2)], σ) := radd_calls lk vk shs n ao oo d hs hc (by omega)
            obtain ⟨q1, q2⟩ := addL_core (n := n) (of := oo) (a := ao) (d := d) ((sorterOk_norm shs).2 hs).2.1
            rw [rAdd_norm] at q1 q2
            have hok := (addL_ok (n := n) (a := ao) (of := oo) (d := d) ((sorterOk_norm shs).2 hs) hc).1
            rw [q2] at hr
            generalize hX : (addL (shs.map normS) n oo ao d).1 = X at *
            generalize hB : (addL (shs.map normS) n oo ao d).2 = B at *
            have hxl := hok.1
            have hsm := fun (σ : AMem) => rsame_call (k := k) (σ := σ) .some K (X.map dkS) ((rAdd shs n oo ao d).1.map dkS') (by rw [core_dk, core_dk', q1]) (by rw [List.length_map]; omega) (fun s h => by
              obtain ⟨t, ht, rfl⟩ := List.mem_map.1 h
              have := (sheafB_eq t).1 (hok.2.2 t ht)
              simp only [dkS]; omega) (by omega)
            have hXX : (X.map fun s => shV (dkS s)) = (X.map dkS).map shV := by rw [List.map_map]; rfl
            rw [hXX] at hadd
            have heq : ∀ (x : List UInt8), (x == x) = true := fun x => by simp
            by_cases hBn : B = []
            · subst hBn
              have hbv : bytesV [] = [] := rfl
              simp only [if_true, hbv] at hadd hr
              simp only [bodyOf, Tryz.f5, Option.getD_some, initT, dx, reduceIte, Nat.reduceLT, Nat.reduceLeDiff, Nat.reduceEqDiff, Nat.reduceAdd, Nat.reduceMul, Nat.reduceSub, Nat.reduceBEq, Int.reduceEq, Int.reduceLT, Int.reduceLE, Int.reduceToNat, reduceCtorEq, sx, fx5, hth, awake_call, bytesV_length, hd, hcp, hcc, hadd, his, hic, hr, hck, e00, hsm, sourceA, hfm, hb0, hxx]
              exact ⟨_, _, rfl, by simp only [Tr.get_set, Nat.reduceEqDiff, reduceIte]⟩
            · simp only [hBn, if_false] at hadd
              simp only [bodyOf, Tryz.f5, Option.getD_some, initT, dx, reduceIte, Nat.reduceLT, Nat.reduceLeDiff, Nat.reduceEqDiff, Nat.reduceAdd, Nat.reduceMul, Nat.reduceSub, Nat.reduceBEq, Int.reduceEq, Int.reduceLT, Int.reduceLE, Int.reduceToNat, reduceCtorEq, sx, fx5, hth, awake_call, bytesV_length, hd, hcp, hcc, hadd, his, hic, hr, hck, e00, hsm, source_bytes, bytesOf_bytes, abinStr, heq]
              exact ⟨_, _, rfl, by simp only [Tr.get_set, Nat.reduceEqDiff, reduceIte]⟩
          · simp only [decide_eq_false hc] at hic
            have hadd := fun (σ : AMem) => add_bad2 (k := k) (σ := σ) (lkOf shs.length) (shs.map normS) n a of .some d ((sorterOk_norm shs).2 hs) hc (by omega)
            simp only [bodyOf, Tryz.f5, Option.getD_some, initT, dx, reduceIte, Nat.reduceLT, Nat.reduceLeDiff, Nat.reduceEqDiff, Nat.reduceAdd, Nat.reduceMul, Nat.reduceSub, Nat.reduceBEq, Int.reduceEq, Int.reduceLT, Int.reduceLE, Int.reduceToNat, reduceCtorEq, sx, fx5, hth, awake_call, bytesV_length, hd, hcp, hcc, hadd, his, hic, hck, e00, e22, hse, sourceA, hfm, hb0, hxx]
            exact ⟨_, _, rfl, by simp only [Tr.get_set, Nat.reduceEqDiff, reduceIte]⟩
        · have hbf : bs = false := by
            cases bs with
            | false => rfl
            | true => exact absurd (hisb.1 rfl) hs
          subst hbf
          have hsn : ¬ SorterOk (shs.map normS) := fun h => hs ((sorterOk_norm shs).1 h)
          rw [hck1 hsn] at hck
          have hadd := fun (σ : AMem) => add_bad1 (k := k) (σ := σ) (lkOf shs.length) (shs.map normS) _ rfl rfl n a of .some d rfl hsn hnl hnd (by omega)
          simp only [bodyOf, Tryz.f5, Option.getD_some, initT, dx, reduceIte, Nat.reduceLT, Nat.reduceLeDiff, Nat.reduceEqDiff, Nat.reduceAdd, Nat.reduceMul, Nat.reduceSub, Nat.reduceBEq, Int.reduceEq, Int.reduceLT, Int.reduceLE, Int.reduceToNat, reduceCtorEq, sx, fx5, hth, awake_call, bytesV_length, hd, hcp, hcc, hadd, his, hck, e44, hse, sourceA, hfm, hb0, hxx]
          exact ⟨_, _, rfl, by simp only [Tr.get_set, Nat.reduceEqDiff, reduceIte]⟩
  obtain ⟨T1, σ1, h1, h2⟩ := run
  exact ⟨σ1, q_call (first := []) (caps := []) fn5 rfl (by simp [Tryz.f5]) h1 (by simp) (res_one h2)⟩
end Go.Proofs.YtjckhhkhgjbpaaaGreatDoor

/- A sorter as an argument. -/
set_option linter.unusedVariables false
namespace Go.Proofs.YtjckhhkhgjbpaaaGreatDoor
open Go Go.Proofs.YtjckhhkhgjbpaaaGreatDoor.Pale
variable {P : Program} {tx tl ts ti td tb tu n : Nat}

theorem elem_sorter {x : AVal} (hx : rkOf P tx = .agg [(tl, 0)]) (cx : P.cellsOf tx = 1) (hl : rkOf P tl = .slice ts) (cl : P.cellsOf tl = 1) (hs : rkOf P ts = .agg [(ti, 0), (td, 1)]) (cs : P.cellsOf ts = 2) (ci : P.cellsOf ti = 1) (cd : P.cellsOf td = 1) (hi : rkOf P ti = .int .i64) (hd : rkOf P td = .slice tb) (hb : rkOf P tb = .slice tu) (hu : rkOf P tu = .int .u8) (h : ElemFit P n tx x) : ∃ (vk : VK) (shs : List Sh), x = .agg [.vs vk (shs.map shV)] := by
  obtain ⟨c, m, rfl, hlen, hall⟩ := elem_agg hx h
  rw [cx] at hlen
  obtain ⟨a, rfl⟩ : ∃ a, c = [a] := by
    match c, hlen with
    | [a], _ => exact ⟨a, rfl⟩
  have h0 := hall (tl, 0) (by simp)
  simp only [cl, List.drop_zero, List.take_succ_cons, List.take_zero] at h0
  obtain ⟨m2, vk, es, e0, _, _, _, g⟩ := fit_slice hl h0
  simp only [List.cons.injEq, and_true] at e0
  subst e0
  obtain ⟨shs, rfl, _⟩ := list_form (f := shV) (Q := fun _ => True) es (fun y hy => by
    obtain ⟨c, m, rfl, hlen, hall⟩ := elem_agg hs (g y hy)
    rw [cs] at hlen
    obtain ⟨a, b, rfl⟩ : ∃ a b, c = [a, b] := by
      match c, hlen with
      | [a, b], _ => exact ⟨a, b, rfl⟩
    have h0 := hall (ti, 0) (by simp)
    have h1 := hall (td, 1) (by simp)
    simp only [ci, cd, List.drop_zero, List.drop_succ_cons, List.take_succ_cons, List.take_zero] at h0 h1
    obtain ⟨z, e0, _⟩ := fit_int hi h0
    obtain ⟨m3, vd, ps, e1, _, _, _, g1⟩ := fit_slice hd h1
    simp only [List.cons.injEq, and_true] at e0 e1
    subst e0; subst e1
    obtain ⟨data, rfl, _⟩ := list_form (f := partV) (Q := fun _ => True) ps (fun w hw => by
      obtain ⟨m4, vb, us, rfl, _, _, _, g2⟩ := elem_slice hb (g1 w hw)
      obtain ⟨bs, rfl, _⟩ := list_form (f := fun (b : Nat) => AVal.int .u8 b) (Q := fun _ => True) us (fun u hu' => by
        obtain ⟨z, rfl, hz⟩ := elem_int hu (g2 u hu')
        have := u8_range hz
        exact ⟨z.toNat, by simp only [AVal.int.injEq, true_and]; omega, trivial⟩)
      exact ⟨(vb, bs), rfl, trivial⟩)
    exact ⟨⟨z, vd, data⟩, rfl, trivial⟩)
  exact ⟨vk, shs, rfl⟩
end Go.Proofs.YtjckhhkhgjbpaaaGreatDoor


