/- The abstract machine against the model: operations that write memory. -/
import Derived.Test.YtjckhhkhgjbpaaaGreatDoorPaleAlloc
set_option linter.unusedVariables false
set_option linter.unusedSimpArgs false
namespace Go.Proofs.YtjckhhkhgjbpaaaGreatDoor.Pale
open Go

variable {A : AProg} {P : Program}

def Yields (P : Program) (o : Oper) (a : Act) (w : World) (x : Value) (w' : World) : Prop :=
  (execOp a.eval o).run P w = .ok (.value x) w' ∨ ((execOp a.eval o).run P w = .ok .skip w' ∧ x = undef)

/-- What an effect gives. -/
def EffOk (A : AProg) (P : Program) (o : Oper) (a : Act) (g : Ghost) (σ : AMem) (w : World) (v : AVal) (σ' : AMem) : Prop :=
  ∃ x w' g', Yields P o a w x w' ∧ Sim A g' σ' w' ∧ Trans g σ w g' σ' w' ∧ Rel g' w' v x

theorem undef_rel (g : Ghost) (w : World) : Rel g w (.tuple []) undef := by
  simp only [Rel, RelL]
  exact ⟨[], rfl, rfl⟩

/-! ### sources of cells -/
theorem PRelE.flat {g : Ghost} {w : World} {sz b : Nat} : ∀ (es : List AVal) (o : Nat), PRelE w g.ro sz b o es → ∃ l, RelL g w (es.flatMap AVal.cells) l ∧ l.length = es.length * sz ∧ ∀ (j : Nat) (x : Value), l[j]? = some x → w.cell? ⟨b, o + j, none⟩ = some x := by
  intro es
  induction es with
  | nil => intro o h; exact ⟨[], by simp [RelL], by simp, fun j x hj => by simp at hj⟩
  | cons e es ih =>
    intro o h
    have step : ∀ (cs : List AVal) (m : List Value), e.cells = cs → RelL g w cs m → m.length = sz → (∀ (j : Nat) (x : Value), m[j]? = some x → w.cell? ⟨b, o + j, none⟩ = some x) → PRelE w g.ro sz b (o + sz) es →
        ∃ l, RelL g w ((e :: es).flatMap AVal.cells) l ∧ l.length = (e :: es).length * sz ∧ ∀ (j : Nat) (x : Value), l[j]? = some x → w.cell? ⟨b, o + j, none⟩ = some x := by
      intro cs m hc hm hlen hcell hE
      obtain ⟨l, h1, h2, h3⟩ := ih (o + sz) hE
      refine ⟨m ++ l, by rw [List.flatMap_cons, hc]; exact hm.append h1, by simp [h2, hlen, Nat.add_mul]; omega, fun j x hj => ?_⟩
      by_cases hlt : j < m.length
      · rw [List.getElem?_append_left hlt] at hj
        exact hcell j x hj
      · rw [List.getElem?_append_right (by omega)] at hj
        have := h3 _ x hj
        rwa [show o + sz + (j - m.length) = o + j from by omega] at this
    by_cases he : ∃ cs, e = .agg cs
    · obtain ⟨cs, rfl⟩ := he
      simp only [PRelE] at h
      obtain ⟨l, hl, hc⟩ := PAtL.view cs o h.1.2
      exact step cs l rfl (PRelL.rel cs l hl) (by rw [← PRelL.length cs l hl]; exact h.1.1) hc h.2
    · have hna : ∀ cs, e ≠ .agg cs := fun cs e' => he ⟨cs, e'⟩
      rw [PRelE] at h
      · obtain ⟨⟨h1, hb, x, hx, hp⟩, h2⟩ := h
        refine step [e] [x] ?_ ?_ (by simp [h1]) ?_ h2
        · cases e <;> first | rfl | exact absurd rfl (hna _)
        · simp only [RelL]; exact ⟨x, [], rfl, PRel.rel _ _ hp, rfl⟩
        · intro j y hj
          cases j with
          | zero => simp at hj; subst hj; exact hx
          | succ j => simp at hj
      · exact hna

theorem sourceA_sound {g : Ghost} {σ : AMem} {w : World} {size n : Nat} {x : AVal} {xs : List AVal} {y : Value} (hs : Sim A g σ w) (h : sourceA size σ x = some (xs, n)) (hx : Rel g w x y) :
    (Builtin.lenOf y).run P w = .ok n w ∧ xs.length = n * size ∧ ∀ k, k ≤ n → ∃ m, (Builtin.firstCells size k y).run P w = .ok m.toArray w ∧ RelL g w (xs.take (k * size)) m ∧ m.length = k * size := by
  unfold sourceA at h
  split at h
  · rename_i k es
    split at h
    · rename_i hall
      simp only [List.all_eq_true, beq_iff_eq] at hall
      cases h
      simp only [Rel, PRel] at hx
      rcases hx with ⟨_, rfl, rfl⟩ | ⟨_, rfl, a, rfl⟩ | ⟨_, a, c, sz, rfl, hle, hsp, hE⟩
      · refine ⟨by simp [Builtin.lenOf], by simp, fun k hk => ⟨[], by simp [Builtin.firstCells], by simp [RelL], ?_⟩⟩
        have : k = 0 := by simpa using hk
        simp [this]
      · refine ⟨by simp [Builtin.lenOf], by simp, fun k hk => ⟨[], ?_, by simp [RelL], ?_⟩⟩
        · have : k = 0 := by simpa using hk
          subst this
          simp [Builtin.firstCells, loadCells, loadCellsFrom]
        · have : k = 0 := by simpa using hk
          simp [this]
      · obtain ⟨l, h1, h2, h3⟩ := hE.flat
        by_cases hes : es = []
        · subst hes
          refine ⟨by simp [Builtin.lenOf], by simp, fun k hk => ⟨[], ?_, by simp [RelL], ?_⟩⟩
          · have : k = 0 := by simpa using hk
            subst this
            simp [Builtin.firstCells, loadCells, loadCellsFrom]
          · have : k = 0 := by simpa using hk
            simp [this]
        · have hszz : sz = size := by
            obtain ⟨c, hc⟩ := List.exists_mem_of_ne_nil es hes
            rw [← hE.size hc, hall c hc]
          subst hszz
          have hadp : a = ⟨a.block, a.off, none⟩ := by have := hsp hes; cases a; simp at this ⊢; exact this
          refine ⟨by simp [Builtin.lenOf], by rw [h1.length, h2], fun k hk => ⟨l.take (k * sz), ?_, h1.take _, ?_⟩⟩
          · have hlk : (l.take (k * sz)).length = k * sz := by
              have : k * sz ≤ es.length * sz := Nat.mul_le_mul_right _ hk
              simp; omega
            have := run_loadCells_view (P := P) (w := w) (b := a.block) (o := a.off) (l := l.take (k * sz)) (fun j z hj => by
              rw [List.getElem?_take] at hj
              split at hj
              · exact h3 j z hj
              · cases hj)
            rw [hlk, ← hadp] at this
            simpa [Builtin.firstCells] using this
          · have : k * sz ≤ es.length * sz := Nat.mul_le_mul_right _ hk
            simp; omega
    · cases h
  · rename_i r off len cp z
    split at h
    · rename_i sz b cells hget
      split at h
      · rename_i hle
        cases h
        simp only [Rel] at hx
        obtain ⟨a, c, rfl, hlc, _, hd⟩ := hx
        obtain ⟨p, hp, hpz, _, ha, _⟩ := live_of_get hs hget hd
        refine ⟨by simp [Builtin.lenOf], by simp; omega, fun k hk => ?_⟩
        have hks : k * size ≤ n * size := Nat.mul_le_mul_right _ hk
        by_cases hc0 : c = 0
        · have : k = 0 := by omega
          subst this
          exact ⟨[], by simp [Builtin.firstCells, loadCells, loadCellsFrom], by simp [RelL], by simp⟩
        · obtain ⟨l, hl, hn, hrun⟩ := row_load (P := P) hs hp hget off (k * size) (by omega)
          refine ⟨l, ?_, ?_, hn⟩
          · rw [ha hc0]
            simpa [Builtin.firstCells] using hrun
          · rw [List.take_take, Nat.min_eq_left hks]
            exact hl
      · cases h
    · cases h
  · rename_i s
    split at h
    · rename_i hsz
      cases h
      simp only [Rel] at hx
      subst hx
      subst hsz
      refine ⟨by simp [Builtin.lenOf, ByteArray.size], by simp, fun k hk => ⟨(s.take k).map (fun b => .int .u8 b.toNat), ?_, ?_, by simp; omega⟩⟩
      · simp only [Builtin.firstCells, ByteArray.data_extract, Sem.run_pure]
        congr 1
        apply Array.ext'
        simp [List.extract_eq_take_drop]
      · rw [Nat.mul_one, ← List.map_take]
        generalize s.take k = u
        induction u with
        | nil => simp [RelL]
        | cons b u ih => simp only [List.map_cons, RelL]; exact ⟨_, _, rfl, by simp [Rel], ih⟩
    · cases h
  · cases h

/-! ### append, in the model -/
theorem growBy_le (newLen : Nat) : ∀ (r c : Nat), Builtin.growBy newLen r c ≤ max c (newLen + (newLen + 768) / 4) := by
  intro r
  induction r with
  | zero => intro c; simp [Builtin.growBy]; omega
  | succ r ih =>
    intro c
    simp only [Builtin.growBy]
    split
    · omega
    · have := ih (c + (c + 768) / 4)
      omega

theorem nextcap_le (need cap : Nat) (h : cap < need) : Builtin.nextslicecap need cap ≤ 2 * need + 768 := by
  unfold Builtin.nextslicecap
  split
  · omega
  · split
    · omega
    · have := growBy_le need 4 cap
      omega

structure AppendHyp (P : Program) (ts : Array TypeId) (e : Nat) (ei : TyI) (w : World) (sv xv : Value) (sLen sCap n : Nat) (base : Option Addr) : Prop where
  t0 : ∃ t, ts[0]? = some t ∧ P.underlying t = some (.slice e)
  t1 : ∃ u d, ts[1]? = some u ∧ P.underlying u = some d ∧ (d = .string ∨ ∃ e', d = .slice e')
  e : tyOf P e = some ei
  s : sv = .slice base sLen sCap
  len : (Builtin.lenOf xv).run P w = .ok n w

theorem append_fits {ts : Array TypeId} {e : Nat} {ei : TyI} {w w' : World} {sv xv : Value} {sLen sCap n : Nat} {m : List Value} {base : Option Addr} {ty : TypeId} (H : AppendHyp P ts e ei w sv xv sLen sCap n base) (hc : (Builtin.firstCells ei.size n xv).run P w = .ok m.toArray w) (hfit : sLen + n ≤ sCap)
    (hst : (match base with | some a => storeCells (a.add (sLen * ei.size)) m | none => pure ()).run P w = .ok () w') :
    (Builtin.append_ ts ty #[sv, xv]).run P w = .ok (.slice base (sLen + n) sCap) w' := by
  obtain ⟨⟨t, h0, hd⟩, ⟨u, d, h1, hd1, hni⟩, he, rfl, hlen⟩ := H
  unfold Builtin.append_
  simp only [h0, h1]
  cases base with
  | none =>
    simp at hst
    subst hst
    rcases hni with rfl | ⟨e', rfl⟩
    · simp [run_under hd, run_under hd1, run_size he, hlen, hfit, hc, Result.andThen]
    · simp [run_under hd, run_under hd1, run_size he, hlen, hfit, hc, Result.andThen]
  | some a =>
    simp only at hst
    rcases hni with rfl | ⟨e', rfl⟩
    · simp [run_under hd, run_under hd1, run_size he, hlen, hfit, hc, hst, Result.andThen]
    · simp [run_under hd, run_under hd1, run_size he, hlen, hfit, hc, hst, Result.andThen]

theorem append_grows {ts : Array TypeId} {e : Nat} {ei : TyI} {w : World} {sv xv : Value} {sLen sCap n : Nat} {m old : List Value} {base : Option Addr} {ty : TypeId} (H : AppendHyp P ts e ei w sv xv sLen sCap n base) (hc' : (Builtin.firstCells ei.size n xv).run P w.drew = .ok m.toArray w.drew) (hgrow : sCap < sLen + n) (hb : (sLen + n) * ei.bytes ≤ mostBytes) (hb0 : ei.bytes ≠ 0) (hb1 : ei.bytes ≤ 1048576)
    (hzl : ei.zero.length = ei.size)
    (hold : (Builtin.firstCells ei.size sLen sv).run P w.drew = .ok old.toArray w.drew) (hol : old.length = sLen * ei.size) (hml : m.length = n * ei.size) :
    ∃ (newCap : Nat) (rest : List Value), sLen + n ≤ newCap ∧ (Builtin.append_ ts ty #[sv, xv]).run P w = .ok (Value.slice (some ⟨w.heap.size, 0, none⟩) (sLen + n) newCap) (w.drew.alloc (.cells ((old ++ m) ++ rest).toArray e)) ∧ ((old ++ m) ++ rest).length = newCap * ei.size := by
  obtain ⟨⟨t, h0, hd⟩, ⟨u, d, h1, hd1, hni⟩, he, rfl, hlen⟩ := H
  obtain ⟨info, z', hinfo, hisz, hib, hiz, hizs⟩ := ty_info he
  have hzz := (ofScalars_rel hizs ⟨fun _ => .none, fun _ => False⟩ w).length
  have hzsz : z'.cells.size = ei.size := by simp at hzz; omega
  let q : Question := .appendCap (sLen + n) sCap e
  let newCap := q.cut (w.tape w.drawn q)
  have hnc : sLen + n ≤ newCap := by show sLen + n ≤ sLen + n + _; omega
  refine ⟨newCap, (Builtin.zeroCells z'.cells (newCap - (sLen + n))).toList, hnc, ?_, ?_⟩
  · have g1 : ¬ (sLen + n ≤ sCap) := by omega
    have g2 : ¬ (info.bytes = 0) := by omega
    have g3 : ¬ (Builtin.nextslicecap (sLen + n) sCap * info.bytes > 2 ^ 48) := by
      have h3 := nextcap_le (sLen + n) sCap hgrow
      have h4 : Builtin.nextslicecap (sLen + n) sCap * info.bytes ≤ (2 * (sLen + n) + 768) * info.bytes := Nat.mul_le_mul_right _ h3
      rw [hib] at h4 ⊢
      have h5 : (2 * (sLen + n) + 768) * ei.bytes = 2 * ((sLen + n) * ei.bytes) + 768 * ei.bytes := by rw [Nat.add_mul, Nat.mul_assoc]
      simp only [mostBytes] at hb
      omega
    have hroom : ∀ (k : Nat) (w' : World), (askRoom k).run P w' = .ok () w' := by
      intro k w'
      unfold askRoom
      split
      · simp [mark, Sem.run]
      · simp
    have hz : ∀ w' : World, (zeroValue e).run P w' = .ok z' w' := fun w' => by simp [zeroValue, run_info hinfo, hiz, Result.andThen]
    have ho' : (Builtin.firstCells ei.size sLen (.slice base sLen sCap)).run P w.drew = .ok old.toArray w.drew := hold
    have hfor : (Question.appendCap (sLen + n) sCap e).forced = false := rfl
    have hcut : (Question.appendCap (sLen + n) sCap e).cut (w.tape w.drawn (.appendCap (sLen + n) sCap e)) = newCap := rfl
    have hnr : ∀ C, (newRow e C).run P w.drew = .ok ⟨w.heap.size, 0, none⟩ (w.drew.alloc (.cells C e)) := fun C => run_newRow
    have hfin : (old.toArray ++ (m.toArray ++ Builtin.zeroCells z'.cells (newCap - (sLen + n)))) = (old ++ (m ++ (Builtin.zeroCells z'.cells (newCap - (sLen + n))).toList)).toArray := by
      apply Array.ext'
      simp
    unfold Builtin.append_
    simp only [h0, h1]
    rcases hni with rfl | ⟨e', rfl⟩
    · simp [run_under hd, run_under hd1, run_size he, hlen, Result.andThen, g1, run_info hinfo, g2, g3, hfor, hcut, ho', hc', hz, hnr, hfin]
    · simp [run_under hd, run_under hd1, run_size he, hlen, Result.andThen, g1, run_info hinfo, g2, g3, hfor, hcut, ho', hc', hz, hnr, hfin]
  · simp only [List.length_append, Builtin.zeroCells]
    simp
    rw [hol, hml, hzsz, ← Nat.add_mul, ← Nat.add_mul]
    congr 1
    omega

/-! ### append, in both -/
theorem kill_step {g : Ghost} {σ : AMem} {w : World} {r : Nat} {p : Place} (hs : Sim A g σ w) (hr : g.st r = .live p) : Sim A (g.kill r) (σ.del r) w ∧ Trans g σ w (g.kill r) (σ.del r) w := by
  have hrn : r < σ.next := by
    rcases Nat.lt_or_ge r σ.next with h | h
    · exact h
    · rw [(hs.fresh r h).1] at hr; cases hr
  have hst : Stays w w g.ro g.ro := ⟨fun b hb => hb, fun b hb => rfl⟩
  refine ⟨⟨?_, ?_, ?_, hs.rolt, ?_, ?_, hs.glob⟩, ?_⟩
  · intro s t ht
    by_cases e : s = r
    · subst e; rw [Ghost.kill_same] at ht; cases ht
    · rw [Ghost.kill_other _ e] at ht
      obtain ⟨o, h1, h2⟩ := hs.obj s t ht
      exact ⟨o, by rw [AMem.get_del, if_neg (Ne.symm e)]; exact h1, h2.mono rfl (Ghost.kill_le g r) hst⟩
  · intro s t a b ha hb hab
    by_cases e : s = r
    · subst e; rw [Ghost.kill_same] at ha; cases ha
    · by_cases e' : t = r
      · subst e'; rw [Ghost.kill_same] at hb; cases hb
      · rw [Ghost.kill_other _ e] at ha
        rw [Ghost.kill_other _ e'] at hb
        exact hs.inj s t a b ha hb hab
  · intro s t ht hro
    by_cases e : s = r
    · subst e; rw [Ghost.kill_same] at ht; cases ht
    · rw [Ghost.kill_other _ e] at ht
      exact hs.ro s t ht hro
  · intro s hsn
    simp at hsn
    rw [Ghost.kill_other _ (by omega), AMem.get_del, if_neg (by omega)]
    exact hs.fresh s hsn
  · intro s hd
    rw [AMem.get_del]
    by_cases e : r = s
    · simp [e]
    · rw [if_neg e]
      rw [Ghost.kill_other _ (Ne.symm e)] at hd
      exact hs.dead s hd
  · refine ⟨rfl, rfl, rfl, Nat.le_refl _, fun b hb hn => rfl, Ghost.kill_le g r, ?_, ?_, fun _ h => h, fun _ h => .inl h, by simp, fun _ l h => ⟨l, h⟩⟩
    · intro s hsn hn
      have : s ≠ r := fun e => by subst e; rw [hr] at hn; cases hn
      rw [Ghost.kill_other _ this, AMem.get_del, if_neg (Ne.symm this)]
      exact ⟨hn, rfl⟩
    · intro s t ht
      by_cases e : s = r
      · subst e; rw [Ghost.kill_same] at ht; cases ht
      · rw [Ghost.kill_other _ e] at ht
        exact .inl ht

theorem take_full {xs : List AVal} {n size : Nat} (h : xs.length = n * size) : xs.take (n * size) = xs := by rw [← h]; simp

theorem drewN_self (w : World) : ({ w with drawn := w.drawn } : World) = w := rfl

set_option maxHeartbeats 1000000 in
theorem appendA_sound {g : Ghost} {σ σ' : AMem} {w : World} {e : Nat} {ei : TyI} {s x v : AVal} {sv xv : Value} {ts : Array TypeId} {ty : TypeId} (hs : Sim A g σ w) (he : tyOf P e = some ei) (hzl : ei.zero.length = ei.size)
    (t0 : ∃ t, ts[0]? = some t ∧ P.underlying t = some (.slice e)) (t1 : ∃ u d, ts[1]? = some u ∧ P.underlying u = some d ∧ (d = .string ∨ ∃ e', d = .slice e'))
    (h : appendA ei σ s x = some (v, σ')) (hsv : Rel g w s sv) (hxv : Rel g w x xv) :
    ∃ y w' g', (Builtin.append_ ts ty #[sv, xv]).run P w = .ok y w' ∧ Sim A g' σ' w' ∧ Trans g σ w g' σ' w' ∧ Rel g' w' v y := by
  unfold appendA at h
  split at h
  · cases h
  · rename_i xs n hsrc
    have hsD : Sim A g σ w.drew := hs.drewN (w.drawn + 1)
    have stD : Stays w w.drew g.ro g.ro := ⟨fun b hb => hb, fun b hb => rfl⟩
    have trD : Trans g σ w g σ w.drew := Trans.drewN g σ w (w.drawn + 1)
    have toD : ∀ {v : AVal} {y : Value}, Rel g w v y → Rel g w.drew v y := fun hr => Rel.mono (GLe.refl g) stD _ _ hr
    obtain ⟨hlen, hxl, hcw⟩ := sourceA_sound (P := P) hs hsrc hxv
    obtain ⟨_, _, hcd⟩ := sourceA_sound (P := P) hsD hsrc (toD hxv)
    obtain ⟨m, hm, hmr, hml⟩ := hcw n (Nat.le_refl _)
    obtain ⟨m2, hm2, hmr2, hml2⟩ := hcd n (Nat.le_refl _)
    rw [take_full hxl] at hmr hmr2
    split at h
    · -- nothing is appended
      rename_i hn0
      subst hn0
      have hm0 : m = [] := by
        apply List.eq_nil_of_length_eq_zero
        omega
      subst hm0
      have shape : ∃ base sLen sCap, sv = .slice base sLen sCap ∧ sLen ≤ sCap ∧ v = s ∧ σ' = σ := by
        split at h
        · cases h
          simp only [Rel, PRel] at hsv
          rcases hsv with ⟨_, rfl, rfl⟩ | ⟨_, rfl, a, rfl⟩ | ⟨_, a, c, z, rfl, hle, _⟩
          · exact ⟨_, _, _, rfl, Nat.le_refl _, rfl, rfl⟩
          · exact ⟨_, _, _, rfl, Nat.le_refl _, rfl, rfl⟩
          · exact ⟨_, _, _, rfl, hle, rfl, rfl⟩
        · cases h
          simp only [Rel] at hsv
          obtain ⟨a, c, rfl, hle, _⟩ := hsv
          exact ⟨_, _, _, rfl, hle, rfl, rfl⟩
        · cases h
      obtain ⟨base, sLen, sCap, rfl, hle, rfl, rfl⟩ := shape
      have := append_fits (ty := ty) (w' := w) (base := base) (m := []) ⟨t0, t1, he, rfl, hlen⟩ hm (by omega) (by cases base <;> simp [storeCells])
      exact ⟨_, w, g, this, hs, Trans.refl g _ w, by simpa using hsv⟩
    · rename_i hn0
      split at h
      · cases h
      · rename_i hz
        simp only [Bool.or_eq_true, decide_eq_true_eq, not_or] at hz
        obtain ⟨⟨hz1, hz2⟩, hz3⟩ := hz
        -- a new row
        have grow : ∀ (sLen sCap : Nat) (base : Option Addr) (oldA : List AVal) (old : List Value) (gz : Bool) (g1 : Ghost) (σ1 : AMem), sv = .slice base sLen sCap → sCap < sLen + n → (sLen + n) * ei.bytes ≤ mostBytes →
            (Builtin.firstCells ei.size sLen sv).run P w.drew = .ok old.toArray w.drew → RelL g w.drew oldA old → old.length = sLen * ei.size → Sim A g1 σ1 w → Trans g σ w g1 σ1 w → GLe g g1 → g1.ro = g.ro →
            ∃ y w' g', (Builtin.append_ ts ty #[sv, xv]).run P w = .ok y w' ∧ Sim A g' (σ1.push (.row ei.size gz (oldA ++ xs))) w' ∧ Trans g σ w g' (σ1.push (.row ei.size gz (oldA ++ xs))) w' ∧ Rel g' w' (.slice σ1.next 0 (sLen + n) none ei.size) y := by
          intro sLen sCap base oldA old gz g1 σ1 hsv1 hgr hby hold hor hol hs1 ht1 hle1 hro1
          obtain ⟨newCap, rest, hnc, hrun, hrl⟩ := append_grows (ty := ty) ⟨t0, t1, he, hsv1, hlen⟩ hm2 hgr hby hz2 (by omega) hzl hold hol hml2
          have hs1D : Sim A g1 σ1 w.drew := hs1.drewN (w.drawn + 1)
          have hrel : RelL g1 w.drew (oldA ++ xs) (old ++ m2) := by
            refine RelL.mono hle1 ⟨fun b hb => by rw [hro1]; exact hb, fun b hb => rfl⟩ _ _ (hor.append hmr2)
          have hll := hrel.length
          have hst := row_step (A := A) (sz := ei.size) (b := gz) (e := e) (newCap * ei.size) hs1D ((old ++ m2 ++ rest).toArray) rest rfl hrel (by simp at hrl ⊢; omega) (by
            rw [hll]
            have : (sLen + n) * ei.size ≤ newCap * ei.size := Nat.mul_le_mul_right _ hnc
            rw [Nat.add_mul] at this
            simp [hol, hml2]; omega)
          refine ⟨_, _, _, hrun, hst.1, (ht1.trans (Trans.drewN g1 σ1 w (w.drawn + 1))).trans hst.2, ?_⟩
          simp only [Rel]
          refine ⟨_, _, rfl, hnc, (fun k hk => by cases hk), .inr ⟨_, Ghost.add_same _ _ _, rfl, ?_, fun _ => rfl, fun _ => ?_⟩⟩
          · simp
          · simp
        split at h
        · cases h
        · -- nil, or a slice that cannot hold more
          rename_i k es hk
          split at h
          · rename_i hby
            cases h
            have hnil : sv = .slice none 0 0 ∨ ∃ a, sv = .slice (some a) 0 0 := by
              simp only [Rel, PRel] at hsv
              rcases hsv with ⟨_, _, rfl⟩ | ⟨_, _, a, rfl⟩ | ⟨h, _⟩
              · exact .inl rfl
              · exact .inr ⟨a, rfl⟩
              · exact absurd h hk
            have hfc : ∀ base, (Builtin.firstCells ei.size 0 (.slice base 0 0)).run P w.drew = .ok ([] : List Value).toArray w.drew := by
              intro base
              cases base <;> simp [Builtin.firstCells, loadCells, loadCellsFrom]
            have := grow 0 0 (match sv with | .slice b _ _ => b | _ => none) [] [] ei.isAgg g σ (by rcases hnil with rfl | ⟨a, rfl⟩ <;> rfl) (by omega) (by simpa using hby) (by rcases hnil with rfl | ⟨a, rfl⟩ <;> exact hfc _) (by simp [RelL]) (by simp) hs (Trans.refl g σ w) (GLe.refl g) rfl
            simpa using this
          · cases h
        · rename_i r off len cap z
          split at h
          · rename_i hby
            split at h
            · rename_i sz gz cells hget
              split at h
              · rename_i hszz
                subst hszz
                have hsv0 := hsv
                simp only [Rel] at hsv
                obtain ⟨a, c, rfl, hlc, hcap, hd⟩ := hsv
                obtain ⟨p, hp, hpz, hroom, ha, hnone⟩ := live_of_get hs hget hd
                obtain ⟨hpsz, hcr, _⟩ := row_view hs hp hget
                have hzz : z = ei.size := by rw [← hpz, hpsz]
                subst hzz
                -- what stood there, loaded where the count of draws has turned
                have hold : off + len * ei.size ≤ cells.length → ∃ old : List Value, (Builtin.firstCells ei.size len (.slice (some a) len c)).run P w.drew = .ok old.toArray w.drew ∧ RelL g w.drew ((cells.drop off).take (len * ei.size)) old ∧ old.length = len * ei.size := by
                  intro hle
                  obtain ⟨_, _, h3⟩ := sourceA_sound (P := P) (size := ei.size) (n := len) (x := .slice r off len cap ei.size) (xs := (cells.drop off).take (len * ei.size)) hsD (by simp only [sourceA, hget]; rw [if_pos hle]) (toD hsv0)
                  obtain ⟨old, h4, h5, h6⟩ := h3 len (Nat.le_refl _)
                  refine ⟨old, h4, ?_, h6⟩
                  rw [List.take_take, Nat.min_self] at h5
                  exact h5
                -- the store in place
                have hadd : len + n ≤ c → a.add (len * ei.size) = ⟨p.block, p.off + (off + len * ei.size), none⟩ := by
                  intro hfit
                  rw [ha (by omega), add_plain, Nat.add_assoc]
                split at h
                · rename_i c'
                  have hcc : c = c' := hcap c' rfl
                  subst hcc
                  split at h
                  · rename_i hfit
                    obtain ⟨σ2, h1, h2⟩ := map_some h
                    cases h2
                    obtain ⟨w', hrun, h3, h4, _⟩ := storeCellsA_sound (P := P) hs hp h1 hmr
                    have := append_fits (ty := ty) (w' := w') (base := some a) ⟨t0, t1, he, rfl, hlen⟩ hm hfit (by show (storeCells (a.add (len * ei.size)) m).run P w = _; rw [hadd hfit]; exact hrun)
                    refine ⟨_, w', g, this, h3, h4, ?_⟩
                    simp only [Rel]
                    exact ⟨_, _, rfl, hfit, (fun k hk => by cases hk; rfl), .inr ⟨p, hp, hpz, hroom, ha, (fun h => by cases h)⟩⟩
                  · rename_i hfit
                    split at h
                    · rename_i hle
                      cases h
                      obtain ⟨old, h1, h2, h3⟩ := hold hle
                      exact grow len c (some a) _ old ei.isAgg g σ rfl (by omega) hby h1 h2 h3 hs (Trans.refl g σ w) (GLe.refl g) rfl
                    · cases h
                · split at h
                  · rename_i hsure
                    obtain ⟨σ2, h1, h2⟩ := map_some h
                    cases h2
                    have hfit : len + n ≤ c := by
                      have hr := hnone rfl
                      have : (len + n) * ei.size ≤ c * ei.size := by omega
                      exact Nat.le_of_mul_le_mul_right this (Nat.pos_of_ne_zero hz1)
                    obtain ⟨w', hrun, h3, h4, _⟩ := storeCellsA_sound (P := P) hs hp h1 hmr
                    have := append_fits (ty := ty) (w' := w') (base := some a) ⟨t0, t1, he, rfl, hlen⟩ hm hfit (by show (storeCells (a.add (len * ei.size)) m).run P w = _; rw [hadd hfit]; exact hrun)
                    refine ⟨_, w', g, this, h3, h4, ?_⟩
                    simp only [Rel]
                    exact ⟨_, _, rfl, hfit, (fun k hk => by cases hk), .inr ⟨p, hp, hpz, hroom, ha, fun _ => hnone rfl⟩⟩
                  · split at h
                    · rename_i hle
                      simp only [Bool.and_eq_true, decide_eq_true_eq] at hle
                      cases h
                      by_cases hfit : len + n ≤ c
                      · -- the model has room: the row moves in its block
                        obtain ⟨o, ho1, ho2⟩ := hs.obj r p hp
                        rw [hget] at ho1
                        cases ho1
                        obtain ⟨_, _, C, ⟨et, fz, hh, hfz, hrm⟩, hcells⟩ := ho2
                        have hr := hnone rfl
                        have hle2 : (len + n) * ei.size ≤ c * ei.size := Nat.mul_le_mul_right _ hfit
                        rw [Nat.add_mul] at hle2
                        obtain ⟨C', hrun, hsz', hC'⟩ := run_storeCells_pale (P := P) (o := p.off + (off + len * ei.size)) m 0 C w hh hfz (by omega) (relL_oneCell hmr hle.2)
                        have hap := append_fits (ty := ty) (w' := w.putObj p.block (.cells C' et fz)) (base := some a) ⟨t0, t1, he, rfl, hlen⟩ hm hfit (by show (storeCells (a.add (len * ei.size)) m).run P w = _; rw [hadd hfit]; exact hrun)
                        have hmv := move_step (A := A) (o' := .row ei.size gz ((cells.drop off).take (len * ei.size) ++ xs)) (O' := .cells C' et fz) (q := ⟨p.block, p.off + off, p.room - off, p.sz⟩) hs hp rfl (fun l h => by rw [hh] at h; cases h) (fun hst hgl => by
                          refine ⟨hpsz, ?_, C', ⟨et, fz, World.putObj_heap_same (Array.getElem?_eq_some_iff.1 hh).1, by rw [hsz']; exact hfz, by simp only [hsz']; omega⟩, fun i cc hi => ?_⟩
                          · simp [hxl]; omega
                          · have hl1 : ((cells.drop off).take (len * ei.size)).length = len * ei.size := by simp; omega
                            rw [hC']
                            by_cases hlt : i < len * ei.size
                            · rw [List.getElem?_append_left (by omega), List.getElem?_take, if_pos hlt, List.getElem?_drop] at hi
                              obtain ⟨y, hy, hyr⟩ := hcells _ _ hi
                              refine ⟨y, ?_, Rel.mono hgl hst _ _ hyr⟩
                              simp only
                              rw [if_neg (by omega), ← hy]
                              congr 1
                              omega
                            · rw [List.getElem?_append_right (by omega), hl1] at hi
                              obtain ⟨y, hy, hyr⟩ := hmr.get hi
                              have hlt2 : i - len * ei.size < xs.length := (List.getElem?_eq_some_iff.1 hi).1
                              refine ⟨y, ?_, Rel.mono hgl hst _ _ hyr⟩
                              simp only
                              rw [if_pos (by omega), ← hy]
                              congr 1
                              omega)
                        refine ⟨_, _, _, hap, hmv.1, hmv.2, ?_⟩
                        simp only [Rel]
                        refine ⟨_, _, rfl, hfit, (fun k hk => by cases hk), .inr ⟨_, Ghost.add_same _ _ _, hpsz, ?_, fun hne => ?_, fun _ => ?_⟩⟩
                        · simp only; omega
                        · simp only; rw [ha hne]; simp
                        · simp only; omega
                      · -- a new row; the old one is not known any more
                        obtain ⟨old, h1, h2, h3⟩ := hold hle.1
                        obtain ⟨hk1, hk2⟩ := kill_step hs hp
                        have := grow len c (some a) _ old gz (g.kill r) (σ.del r) rfl (by omega) hby h1 h2 h3 hk1 hk2 (Ghost.kill_le g r) rfl
                        simpa using this
                    · cases h
              · cases h
            · cases h
          · cases h
        · cases h

set_option maxHeartbeats 1000000 in
theorem appendZ_sound {g : Ghost} {σ σ' : AMem} {w : World} {e : Nat} {ei : TyI} {s x v : AVal} {sv xv : Value} {ts : Array TypeId} {ty : TypeId} (hs : Sim A g σ w) (he : tyOf P e = some ei) (hzl : ei.zero.length = ei.size)
    (t0 : ∃ t, ts[0]? = some t ∧ P.underlying t = some (.slice e)) (t1 : ∃ u k, ts[1]? = some u ∧ P.underlying u = some (.int k))
    (h : appendZ ei σ s x = some (v, σ')) (hsv : Rel g w s sv) (hxv : Rel g w x xv) :
    ∃ y w' g', (Builtin.append_ ts ty #[sv, xv]).run P w = .ok y w' ∧ Sim A g' σ' w' ∧ Trans g σ w g' σ' w' ∧ Rel g' w' v y := by
  unfold appendZ at h
  split at h
  · cases h
  · rename_i k es kk n hk
    split at h
    · rename_i hc
      obtain ⟨hn, hsz, hb0, hb1, hby⟩ := hc
      cases h
      have hnil : ∃ base sLen sCap, sv = .slice base sLen sCap ∧ sLen = 0 ∧ sCap = 0 := by
        simp only [Rel, PRel] at hsv
        rcases hsv with ⟨_, _, rfl⟩ | ⟨_, _, a, rfl⟩ | ⟨h, _⟩
        · exact ⟨_, _, _, rfl, rfl, rfl⟩
        · exact ⟨_, _, _, rfl, rfl, rfl⟩
        · exact absurd h hk
      obtain ⟨base, sLen, sCap, rfl, hl0, hc0⟩ := hnil
      simp only [Rel] at hxv
      subst hxv
      obtain ⟨m, rfl⟩ : ∃ m : Nat, n = (m : Int) := ⟨n.toNat, by omega⟩
      simp only [Int.toNat_natCast] at *
      have hm : 0 < m := by omega
      obtain ⟨t, h0, hd⟩ := t0
      obtain ⟨u, ik, h1, hd1⟩ := t1
      obtain ⟨info, z', hinfo, hisz, hib, hiz, hizs⟩ := ty_info he
      have hzr : ∀ g w, RelL g w ei.zero z'.cells.toList := fun g w => ofScalars_rel hizs g w
      have hzsz : z'.cells.size = ei.size := by have := (hzr g w).length; simp at this; omega
      have hmb : m ≤ mostBytes := Nat.le_trans (Nat.le_mul_of_pos_right m hb0) hby
      let q : Question := .appendCap (sLen + m) sCap e
      let newCap := q.cut (w.tape w.drawn q)
      have hnc : sLen + m ≤ newCap := by show sLen + m ≤ sLen + m + _; omega
      have hw : IntKind.i64.wrap (m : Int) = m := by
        simp only [mostBytes] at hmb
        simp only [IntKind.wrap, IntKind.bits, IntKind.signed, Bool.true_and, decide_eq_true_eq, Int.reducePow, Nat.reduceSub, ge_iff_le]
        split <;> omega
      have g0 : ¬ ((m : Int) < 0) := by omega
      have g4 : ¬ ((m : Int) * (info.bytes : Int) > 2 ^ 48) := by
        rw [hib]
        have : ((m : Int) * (ei.bytes : Int)) = ((m * ei.bytes : Nat) : Int) := by simp
        rw [this]
        simp only [mostBytes] at hby
        omega
      have g4' : ¬ (281474976710656 < (m : Int) * (info.bytes : Int)) := by simpa using g4
      have g1 : ¬ (sLen + m ≤ sCap) := by omega
      have g5 : ¬ (((sLen + m : Nat) : Int) > IntKind.i64.max) := by
        simp only [mostBytes] at hmb
        have e1 : IntKind.i64.max = 9223372036854775807 := by rfl
        rw [e1]
        omega
      have g5' : ¬ (9223372036854775807 < (sLen : Int) + (m : Int)) := by simp only [mostBytes] at hmb; omega
      have g3 : ¬ (Builtin.nextslicecap (sLen + m) sCap * info.bytes > 2 ^ 48) := by
        have h3 := nextcap_le (sLen + m) sCap (by omega)
        have h4 : Builtin.nextslicecap (sLen + m) sCap * info.bytes ≤ (2 * (sLen + m) + 768) * info.bytes := Nat.mul_le_mul_right _ h3
        rw [hib] at h4 ⊢
        have h5 : (2 * (sLen + m) + 768) * ei.bytes = 2 * (m * ei.bytes) + 768 * ei.bytes := by rw [hl0, Nat.zero_add, Nat.add_mul, Nat.mul_assoc]
        simp only [mostBytes] at hby
        omega
      have g6 : ¬ (m * ei.size = 0) := by
        have := Nat.mul_pos hm hsz
        omega
      have hroom : ∀ (k : Nat) (w' : World), (askRoom k).run P w' = .ok () w' := by
        intro k w'
        unfold askRoom
        split
        · simp [mark, Sem.run]
        · simp
      have hz : ∀ w' : World, (zeroValue e).run P w' = .ok z' w' := fun w' => by simp [zeroValue, run_info hinfo, hiz, Result.andThen]
      have ho' : (Builtin.firstCells ei.size sLen (.slice base sLen sCap)).run P w.drew = .ok (#[] : Array Value) w.drew := by
        subst hl0; cases base <;> simp [Builtin.firstCells, loadCells, loadCellsFrom]
      have hfor : (Question.appendCap (sLen + m) sCap e).forced = false := rfl
      have hcut : (Question.appendCap (sLen + m) sCap e).cut (w.tape w.drawn (.appendCap (sLen + m) sCap e)) = newCap := rfl
      have hai : ∀ w' : World, (asInt (Value.int kk (m : Int))).run P w' = .ok (m : Int) w' := fun w' => rfl
      have hnr : ∀ C, (newRow e C).run P w.drew = .ok ⟨w.heap.size, 0, none⟩ (w.drew.alloc (.cells C e)) := fun C => run_newRow
      have hzc : (Builtin.zeroCells z'.cells m).toList = repV z'.cells.toList m := by
        unfold Builtin.zeroCells
        rw [zeros_eq z'.cells m _ rfl (.inl (by omega))]
      have hC : ((#[] : Array Value) ++ Builtin.zeroCells z'.cells m ++ Builtin.zeroCells z'.cells (newCap - (sLen + m))) = (repV z'.cells.toList m ++ (Builtin.zeroCells z'.cells (newCap - (sLen + m))).toList).toArray := by
        apply Array.ext'
        simp [hzc]
      have hrun : (Builtin.append_ ts ty #[.slice base sLen sCap, .int kk (m : Int)]).run P w = .ok (.slice (some ⟨w.heap.size, 0, none⟩) (sLen + m) newCap) (w.drew.alloc (.cells (repV z'.cells.toList m ++ (Builtin.zeroCells z'.cells (newCap - (sLen + m))).toList).toArray e)) := by
        rw [← hC]
        unfold Builtin.append_
        simp only [h0, h1]
        simp [run_under hd, run_under hd1, run_size he, Result.andThen, hai, hw, g0, g4', g1, g5', g6, run_info hinfo, g3, hfor, hcut, ho', hz, hnr, hroom]
      have hsD : Sim A g σ w.drew := hs.drewN (w.drawn + 1)
      have hrel : RelL g w.drew (repZ ei.zero m) (repV z'.cells.toList m) := repZ_rel (hzr g w.drew) m
      have hlC : newCap * ei.size ≤ (repV z'.cells.toList m ++ (Builtin.zeroCells z'.cells (newCap - (sLen + m))).toList).toArray.size := by
        have e1 : (repV z'.cells.toList m ++ (Builtin.zeroCells z'.cells (newCap - (sLen + m))).toList).toArray.size = m * ei.size + (newCap - (sLen + m)) * ei.size := by
          simp [repV_length, Builtin.zeroCells, hzsz]
        rw [e1, ← Nat.add_mul]
        exact Nat.mul_le_mul_right _ (by omega)
      have hst := row_step (A := A) (sz := ei.size) (b := ei.isAgg) (e := e) (newCap * ei.size) hsD ((repV z'.cells.toList m ++ (Builtin.zeroCells z'.cells (newCap - (sLen + m))).toList).toArray) (Builtin.zeroCells z'.cells (newCap - (sLen + m))).toList rfl hrel hlC (by rw [repZ_length, hzl]; exact Nat.mul_le_mul_right _ (by omega))
      refine ⟨_, _, _, hrun, hst.1, (Trans.drewN g σ w (w.drawn + 1)).trans hst.2, ?_⟩
      simp only [Rel]
      refine ⟨⟨w.heap.size, 0, none⟩, newCap, by rw [hl0, Nat.zero_add], by omega, (fun k hk => by cases hk), .inr ⟨_, Ghost.add_same _ _ _, rfl, ?_, fun _ => rfl, fun _ => ?_⟩⟩
      · simp
      · simp
    · cases h
  · cases h

/-! ### copy and clear -/
theorem slice_view {g : Ghost} {σ σ2 : AMem} {w : World} {r off len o2 : Nat} {cap : Option Nat} {z : Nat} {y : Value} {l : List AVal} (hs : Sim A g σ w) (hx : Rel g w (.slice r off len cap z) y) (h : storeCellsA σ r o2 l = some σ2) :
    ∃ a c p, y = .slice (some a) len c ∧ len ≤ c ∧ g.st r = .live p ∧ (c ≠ 0 → a = ⟨p.block, p.off + off, none⟩) := by
  simp only [Rel] at hx
  obtain ⟨a, c, rfl, hlc, _, hd⟩ := hx
  have hget : ∃ o, σ.get r = some o := by
    unfold storeCellsA at h
    split at h
    · rename_i hg; exact ⟨_, hg⟩
    · cases h
  obtain ⟨o, hget⟩ := hget
  obtain ⟨p, hp, _, _, ha, _⟩ := live_of_get hs hget hd
  exact ⟨a, c, p, rfl, hlc, hp, ha⟩

theorem copyA_sound {g : Ghost} {σ σ' : AMem} {w : World} {e : Nat} {ei : TyI} {d x v : AVal} {dv xv : Value} {ts : Array TypeId} {ty : TypeId} (hs : Sim A g σ w) (he : tyOf P e = some ei)
    (t0 : ∃ t, ts[0]? = some t ∧ P.underlying t = some (.slice e)) (h : copyA ei σ d x = some (v, σ')) (hdv : Rel g w d dv) (hxv : Rel g w x xv) :
    ∃ y w', (Builtin.copy_ ts ty #[dv, xv]).run P w = .ok y w' ∧ Sim A g σ' w' ∧ Trans g σ w g σ' w' ∧ Rel g w' v y := by
  obtain ⟨t, h0, hd⟩ := t0
  unfold copyA at h
  split at h
  · rename_i xs n k es hsrc
    split at h
    · rename_i hmin
      cases h
      obtain ⟨hlen, hxl, hc⟩ := sourceA_sound (P := P) hs hsrc hxv
      obtain ⟨m, hm, _, hml⟩ := hc 0 (Nat.zero_le _)
      have hm0 : m = [] := by apply List.eq_nil_of_length_eq_zero; omega
      subst hm0
      have : ∃ b c, dv = .slice b es.length c := by
        rcases vs_cases hdv with ⟨_, rfl, rfl⟩ | ⟨_, a, c, rfl⟩
        · exact ⟨_, _, rfl⟩
        · exact ⟨_, _, rfl⟩
      obtain ⟨b, c, rfl⟩ := this
      refine ⟨.int .i64 0, w, ?_, hs, Trans.refl g _ w, by simp [Rel]⟩
      unfold Builtin.copy_
      simp only [h0]
      cases b <;> simp [run_under hd, hlen, run_size he, hmin, hm, Result.andThen, storeCells, goInt]
    · cases h
  · rename_i xs n r off len cap z hsrc
    obtain ⟨hlen, hxl, hc⟩ := sourceA_sound (P := P) hs hsrc hxv
    split at h
    · rename_i hmin
      cases h
      obtain ⟨m, hm, _, hml⟩ := hc 0 (Nat.zero_le _)
      have hm0 : m = [] := by apply List.eq_nil_of_length_eq_zero; omega
      subst hm0
      simp only [Rel] at hdv
      obtain ⟨a, c, rfl, _⟩ := hdv
      refine ⟨.int .i64 0, w, ?_, hs, Trans.refl g _ w, by simp [Rel]⟩
      unfold Builtin.copy_
      simp only [h0]
      simp [run_under hd, hlen, run_size he, hmin, hm, Result.andThen, storeCells, goInt]
    · rename_i hmin
      obtain ⟨σ2, h1, h2⟩ := map_some h
      cases h2
      obtain ⟨a, c, p, rfl, hlc, hp, ha⟩ := slice_view hs hdv h1
      obtain ⟨m, hm, hmr, hml⟩ := hc (Nat.min n len) (Nat.min_le_left _ _)
      obtain ⟨w', hrun, h3, h4, _⟩ := storeCellsA_sound (P := P) hs hp h1 hmr
      have hc0 : c ≠ 0 := by
        intro e0
        have hl0 : len = 0 := by omega
        apply hmin
        rw [hl0]
        exact Nat.min_zero n
      refine ⟨.int .i64 (Nat.min n len), w', ?_, h3, h4, by simp [Rel]⟩
      rw [ha hc0]
      unfold Builtin.copy_
      simp only [h0]
      simp [run_under hd, hlen, run_size he, hm, Result.andThen, goInt, hrun]
  · cases h

theorem clearA_sound {g : Ghost} {σ σ' : AMem} {w : World} {e : Nat} {ei : TyI} {x v : AVal} {xv : Value} {ts : Array TypeId} {ty : TypeId} (hs : Sim A g σ w) (he : tyOf P e = some ei) (hzl : ei.zero.length = ei.size)
    (t0 : ∃ t, ts[0]? = some t ∧ P.underlying t = some (.slice e)) (h : clearA ei σ x = some (v, σ')) (hxv : Rel g w x xv) :
    ∃ y w', (Builtin.clear_ ts ty #[xv]).run P w = .ok y w' ∧ Sim A g σ' w' ∧ Trans g σ w g σ' w' ∧ Rel g w' v y := by
  obtain ⟨t, h0, hd⟩ := t0
  unfold clearA at h
  split at h
  · rename_i k
    cases h
    refine ⟨.tuple #[], w, ?_, hs, Trans.refl g _ w, undef_rel g w⟩
    unfold Builtin.clear_
    simp only [h0]
    rcases vs_cases hxv with ⟨_, _, rfl⟩ | ⟨_, a, c, rfl⟩
    · simp [run_under hd, Result.andThen]
    · simp [run_under hd, Result.andThen]
  · rename_i r off len cap z
    split at h
    · rename_i hl0
      cases h
      simp only [Rel] at hxv
      obtain ⟨a, c, rfl, _⟩ := hxv
      subst hl0
      refine ⟨.tuple #[], w, ?_, hs, Trans.refl g _ w, undef_rel g w⟩
      unfold Builtin.clear_
      simp only [h0]
      simp [run_under hd, Result.andThen]
    · rename_i hl0
      obtain ⟨σ2, h1, h2⟩ := map_some h
      cases h2
      obtain ⟨a, c, p, rfl, hlc, hp, ha⟩ := slice_view hs hxv h1
      obtain ⟨zv, hz, hzr⟩ := zero_rel he g w
      have hzz : zv.cells.size = ei.size := by have := hzr.length; simp at this; omega
      obtain ⟨w', hrun, h3, h4, _⟩ := storeCellsA_sound (P := P) hs hp h1 (repZ_rel hzr len)
      refine ⟨.tuple #[], w', ?_, h3, h4, undef_rel g w'⟩
      rw [ha (by omega)]
      have hzc : (Builtin.zeroCells zv.cells len).toList = repV zv.cells.toList len := by
        by_cases h00 : zv.cells.size = 0
        · have : zv.cells.toList = [] := by apply List.eq_nil_of_length_eq_zero; simpa using h00
          have hr : repV zv.cells.toList len = [] := by apply List.eq_nil_of_length_eq_zero; rw [repV_length, this]; simp
          rw [hr]
          simp [Builtin.zeroCells, h00]
        · unfold Builtin.zeroCells
          rw [zeros_eq zv.cells len _ rfl (.inl (Nat.pos_of_ne_zero h00))]
      have hln : len ≠ 0 := hl0
      unfold Builtin.clear_
      simp only [h0]
      obtain ⟨len', rfl⟩ : ∃ k, len = k + 1 := ⟨len - 1, by omega⟩
      simp [run_under hd, hz, Result.andThen, hzc, hrun]
  · cases h

end Go.Proofs.YtjckhhkhgjbpaaaGreatDoor.Pale
