/- The abstract machine against the model: operations that touch no memory. -/
import Derived.Test.YtjckhhkhgjbpaaaGreatDoorPaleMem
set_option linter.unusedVariables false
set_option linter.unusedSimpArgs false
namespace Go.Proofs.YtjckhhkhgjbpaaaGreatDoor.Pale
open Go

variable {A : AProg} {P : Program}

/-! ### parts -/
theorem partA_sound {g : Ghost} {w : World} {t : Nat} {i : TyI} {cs : List AVal} {l : List Value} {off : Nat} {v : AVal} (ht : tyOf P t = some i) (hl : RelL g w cs l) (h : partA i cs off = some v) :
    ∃ y, (part t l.toArray off).run P w = .ok y w ∧ Rel g w v y := by
  unfold partA at h
  split at h
  · rename_i hagg
    split at h
    · rename_i hle
      cases h
      refine ⟨.agg (l.toArray.extract off (off + i.size)), ?_, ?_⟩
      · simp [part, run_isAgg ht, hagg, run_size ht, Result.andThen]
      · simp only [Rel]
        refine ⟨(l.drop off).take i.size, ?_, (hl.drop off).take _⟩
        congr 1
        apply Array.ext'
        simp [List.extract_eq_take_drop]
    · cases h
  · rename_i hagg
    split at h
    · rename_i u hu
      split at h
      · cases h
        obtain ⟨y, hy, hr⟩ := hl.get hu
        refine ⟨y, ?_, hr⟩
        simp [part, run_isAgg ht, hagg, hy, Result.andThen]
      · cases h
    · cases h

theorem PAtL.drop {w : World} {ro : Nat → Prop} {b : Nat} : ∀ (cs : List AVal) (o n : Nat), PAtL w ro b o cs → PAtL w ro b (o + n) (cs.drop n) := by
  intro cs
  induction cs with
  | nil => intro o n h; simp [PAtL]
  | cons c cs ih =>
    intro o n h
    cases n with
    | zero => simpa using h
    | succ n =>
      simp only [PAtL] at h
      have := ih (o + 1) n h.2
      rwa [show o + 1 + n = o + (n + 1) from by omega] at this
theorem PAtL.take {w : World} {ro : Nat → Prop} {b : Nat} : ∀ (cs : List AVal) (o n : Nat), PAtL w ro b o cs → PAtL w ro b o (cs.take n) := by
  intro cs
  induction cs with
  | nil => intro o n h; simp [PAtL]
  | cons c cs ih =>
    intro o n h
    cases n with
    | zero => simp [PAtL]
    | succ n =>
      simp only [PAtL, List.take_succ_cons] at h ⊢
      exact ⟨h.1, ih (o + 1) n h.2⟩
theorem PAtL.get {w : World} {ro : Nat → Prop} {b : Nat} : ∀ (cs : List AVal) (o n : Nat) (c : AVal), PAtL w ro b o cs → cs[n]? = some c → ro b ∧ ∃ x, w.cell? ⟨b, o + n, none⟩ = some x ∧ PRel w ro c x := by
  intro cs
  induction cs with
  | nil => intro o n c h hc; simp at hc
  | cons d cs ih =>
    intro o n c h hc
    simp only [PAtL] at h
    cases n with
    | zero => simp at hc; subst hc; exact h.1
    | succ n =>
      have := ih (o + 1) n c h.2 (by simpa using hc)
      rwa [show o + 1 + n = o + (n + 1) from by omega] at this

/-- A pointer to a scalar that stands in memory that nobody writes. -/
theorem vptr_of {w : World} {ro : Nat → Prop} {v : AVal} {b o : Nat} {y : Value} (ho : v.oneCell = true) (hb : ro b) (hc : w.cell? ⟨b, o, none⟩ = some y) (hp : PRel w ro v y) : PRel w ro (.vptr v) (.pointer (some ⟨b, o, none⟩)) := by
  rw [PRel]
  · exact ⟨b, o, y, rfl, hb, hc, hp⟩
  · intro cs e; subst e; simp [AVal.oneCell] at ho

theorem vptr_part {w : World} {ro : Nat → Prop} {i : TyI} {cs : List AVal} {off b o : Nat} {v : AVal} (hat : PAtL w ro b o cs) (h : partA i cs off = some v) : PRel w ro (.vptr v) (.pointer (some ⟨b, o + off, none⟩)) := by
  unfold partA at h
  split at h
  · split at h
    · cases h
      simp only [PRel]
      exact ⟨b, o + off, rfl, (hat.drop _ _ _).take _ _ _⟩
    · cases h
  · split at h
    · rename_i u hu
      split at h
      · rename_i ho
        cases h
        obtain ⟨hb, x, hx, hp⟩ := hat.get _ _ _ _ hu
        exact vptr_of ho hb hx hp
      · cases h
    · cases h

theorem PRelE.get {w : World} {ro : Nat → Prop} {sz b : Nat} : ∀ (es : List AVal) (o n : Nat) (e : AVal), PRelE w ro sz b o es → es[n]? = some e →
    (∃ cs, e = .agg cs ∧ cs.length = sz ∧ PAtL w ro b (o + n * sz) cs) ∨ ((∀ cs, e ≠ .agg cs) ∧ sz = 1 ∧ ro b ∧ ∃ x, w.cell? ⟨b, o + n * sz, none⟩ = some x ∧ PRel w ro e x) := by
  intro es
  induction es with
  | nil => intro o n e h he; simp at he
  | cons d es ih =>
    intro o n e h he
    cases n with
    | zero =>
      simp at he; subst he
      by_cases hd : ∃ cs, d = .agg cs
      · obtain ⟨cs, rfl⟩ := hd
        simp only [PRelE] at h
        exact .inl ⟨cs, rfl, h.1.1, by simpa using h.1.2⟩
      · have hna : ∀ cs, d ≠ .agg cs := fun cs e => hd ⟨cs, e⟩
        rw [PRelE] at h
        · exact .inr ⟨hna, h.1.1, h.1.2.1, by simpa using h.1.2.2⟩
        · exact hna
    | succ n =>
      have h2 : PRelE w ro sz b (o + sz) es := by
        by_cases hd : ∃ cs, d = .agg cs
        · obtain ⟨cs, rfl⟩ := hd
          simp only [PRelE] at h
          exact h.2
        · have hna : ∀ cs, d ≠ .agg cs := fun cs e => hd ⟨cs, e⟩
          rw [PRelE] at h
          · exact h.2
          · exact hna
      have := ih (o + sz) n e h2 (by simpa using he)
      rwa [show o + sz + n * sz = o + (n + 1) * sz from by rw [Nat.add_mul]; omega] at this

/-! ### a struct's fields -/
theorem field_get {fields : Array Field} {fs : List (Nat × Nat)} (h : fields.toList.map (fun f => (f.offset, f.type)) = fs) {j off t : Nat} (hj : fs[j]? = some (off, t)) : ∃ f, fields[j]? = some f ∧ f.offset = off ∧ f.type = t := by
  subst h
  rw [List.getElem?_map] at hj
  cases hf : fields.toList[j]? with
  | none => simp [hf] at hj
  | some f =>
    simp [hf] at hj
    exact ⟨f, by simpa using hf, hj.1, hj.2⟩

theorem run_asIntOf {w : World} {k : IntKind} {n : Int} : (asIntOf (.int k n)).run P w = .ok (k, n) w := rfl

/-! ### slices -/
theorem run_sliceBound {w : World} {k : IntKind} {i : Int} {y : Nat} {code : BoundsCode} (h : 0 ≤ i ∧ i ≤ (y : Int)) : (Instr.sliceBound (.int k i) y code).run P w = .ok i.toNat w := by
  simp [Instr.sliceBound, asIntOf, Result.andThen, h]

/-- A bound, as the model has it. -/
def BoundRel (g : Ghost) (w : World) : Option AVal → Option Value → Prop
  | none, none => True
  | some v, some x => Rel g w v x
  | _, _ => False

theorem run_sliceBounds {g : Ghost} {w : World} {isSlice : Bool} {len cap m h l : Nat} {lo hi mx : Option AVal} {lo' hi' mx' : Option Value}
    (h1 : BoundRel g w lo lo') (h2 : BoundRel g w hi hi') (h3 : BoundRel g w mx mx') (hm : boundA mx cap cap = some m) (hh : boundA hi len m = some h) (hl : boundA lo 0 h = some l) (hmx : mx.isSome = true → hi.isSome = true) :
    (Instr.sliceBounds isSlice len cap lo' hi' mx').run P w = .ok (l, h, m) w := by
  have key : ∀ (v : Option AVal) (v' : Option Value) (d y n : Nat), BoundRel g w v v' → boundA v d y = some n →
      (v = none ∧ v' = none ∧ n = d) ∨ ∃ k i, v' = some (.int k i) ∧ v.isSome = true ∧ (0 ≤ i ∧ i ≤ (y : Int)) ∧ n = i.toNat := by
    intro v v' d y n hr hb
    unfold boundA at hb
    split at hb
    · cases hb
      cases v' with
      | none => exact .inl ⟨rfl, rfl, rfl⟩
      | some x => simp [BoundRel] at hr
    · rename_i k i
      split at hb
      · rename_i hc
        cases hb
        cases v' with
        | none => simp [BoundRel] at hr
        | some x =>
          simp only [BoundRel, Rel] at hr
          exact .inr ⟨k, i, by rw [hr], rfl, hc, rfl⟩
      · cases hb
    · cases hb
  have kx := key mx mx' cap cap m h3 hm
  have kh := key hi hi' _ _ h h2 hh
  have kl := key lo lo' _ _ l h1 hl
  clear key h1 h2 h3 hm hh hl
  unfold Instr.sliceBounds
  rcases kx with ⟨e1, rfl, rfl⟩ | ⟨k, i, rfl, hsm, hi1, rfl⟩
  · rcases kh with ⟨e2, rfl, rfl⟩ | ⟨k2, i2, rfl, e2, hi2, rfl⟩
    · rcases kl with ⟨e3, rfl, rfl⟩ | ⟨k3, i3, rfl, e3, hi3, rfl⟩
      · simp [Result.andThen]
      · simp [Result.andThen, run_sliceBound hi3]
    · rcases kl with ⟨e3, rfl, rfl⟩ | ⟨k3, i3, rfl, e3, hi3, rfl⟩
      · simp [Result.andThen, run_sliceBound hi2]
      · simp [Result.andThen, run_sliceBound hi2, run_sliceBound hi3]
  · rcases kh with ⟨e2, rfl, rfl⟩ | ⟨k2, i2, rfl, e2, hi2, rfl⟩
    · have := hmx hsm
      rw [e2] at this
      cases this
    · rcases kl with ⟨e3, rfl, rfl⟩ | ⟨k3, i3, rfl, e3, hi3, rfl⟩
      · simp [Result.andThen, run_sliceBound hi1, run_sliceBound hi2]
      · simp [Result.andThen, run_sliceBound hi1, run_sliceBound hi2, run_sliceBound hi3]

theorem boundA_le {v : Option AVal} {d y n : Nat} (h : boundA v d y = some n) (hd : d ≤ y) : n ≤ y := by
  unfold boundA at h
  split at h
  · cases h; exact hd
  · split at h
    · cases h; omega
    · cases h
  · cases h

theorem PRelE.drop {w : World} {ro : Nat → Prop} {sz b : Nat} : ∀ (es : List AVal) (o n : Nat), PRelE w ro sz b o es → PRelE w ro sz b (o + n * sz) (es.drop n) := by
  intro es
  induction es with
  | nil => intro o n h; simp [PRelE]
  | cons e es ih =>
    intro o n h
    cases n with
    | zero => simpa using h
    | succ n =>
      have h2 : PRelE w ro sz b (o + sz) es := by
        by_cases hd : ∃ cs, e = .agg cs
        · obtain ⟨cs, rfl⟩ := hd
          simp only [PRelE] at h
          exact h.2
        · have hna : ∀ cs, e ≠ .agg cs := fun cs e' => hd ⟨cs, e'⟩
          rw [PRelE] at h
          · exact h.2
          · exact hna
      have := ih (o + sz) n h2
      rwa [show o + sz + n * sz = o + (n + 1) * sz from by rw [Nat.add_mul]; omega] at this
theorem PRelE.take {w : World} {ro : Nat → Prop} {sz b : Nat} : ∀ (es : List AVal) (o n : Nat), PRelE w ro sz b o es → PRelE w ro sz b o (es.take n) := by
  intro es
  induction es with
  | nil => intro o n h; simp [PRelE]
  | cons e es ih =>
    intro o n h
    cases n with
    | zero => simp [PRelE]
    | succ n =>
      rw [List.take_succ_cons]
      by_cases hd : ∃ cs, e = .agg cs
      · obtain ⟨cs, rfl⟩ := hd
        simp only [PRelE] at h ⊢
        exact ⟨h.1, ih _ n h.2⟩
      · have hna : ∀ cs, e ≠ .agg cs := fun cs e' => hd ⟨cs, e'⟩
        rw [PRelE] at h ⊢
        · exact ⟨h.1, ih _ n h.2⟩
        all_goals exact hna

/-- The elements of a slice that nobody writes are all of one size. -/
theorem PRelE.size {w : World} {ro : Nat → Prop} {sz b : Nat} {es : List AVal} {o : Nat} (h : PRelE w ro sz b o es) {e : AVal} (he : e ∈ es) : e.cells.length = sz := by
  obtain ⟨n, hn⟩ := List.getElem?_of_mem he
  rcases PRelE.get es o n e h hn with ⟨cs, rfl, h1, _⟩ | ⟨h1, h2, _⟩
  · exact h1
  · cases e <;> first | exact h2.symm | exact absurd rfl (h1 _)

/-- A cut of a slice that is known by its elements; its elements have the size that the type tells, if there are any. -/
theorem sliceA_vs_sound {g : Ghost} {w : World} {t e : Nat} {ti ei : TyI} {k : VK} {es : List AVal} {x : Value} {lo hi mx : Option AVal} {lo' hi' mx' : Option Value} {v : AVal} (ht : P.underlying t = some (.slice e)) (he : tyOf P e = some ei) (hes : ∀ c ∈ es, c.cells.length = ei.size)
    (hx : Rel g w (.vs k es) x) (h1 : BoundRel g w lo lo') (h2 : BoundRel g w hi hi') (h3 : BoundRel g w mx mx') (hmx : mx.isSome = true → hi.isSome = true) (h : sliceA ei.size (.vs k es) lo hi mx = some v) :
    ∃ y, (Instr.sliceAt t x lo' hi' mx').run P w = .ok y w ∧ Rel g w v y := by
  simp only [sliceA] at h
  split at h
  · cases h
  · rename_i m hm
    split at h
    · cases h
    · rename_i hh hhe
      split at h
      · cases h
      · rename_i l hl
        cases h
        have hm' : m ≤ es.length := boundA_le hm (Nat.le_refl _)
        have hl' : l ≤ hh := boundA_le hl (Nat.zero_le _)
        simp only [Rel, PRel] at hx
        rcases hx with ⟨rfl, rfl, rfl⟩ | ⟨rfl, rfl, a, rfl⟩ | ⟨rfl, a, cap, sz, rfl, hle, hsp, hE⟩
        · have hb := run_sliceBounds (P := P) (isSlice := true) (len := 0) (cap := 0) h1 h2 h3 hm hhe hl hmx
          have hm0 : m = 0 := by simpa using hm'
          subst hm0
          have hh0 : hh ≤ 0 := boundA_le hhe (Nat.zero_le _)
          have : hh = 0 := by omega
          subst this
          have : l = 0 := by omega
          subst this
          refine ⟨.slice none 0 0, ?_, by simp [Rel, PRel]⟩
          simp [Instr.sliceAt, Instr.slice, run_under ht, hb, run_size he, Result.andThen]
        · have hb := run_sliceBounds (P := P) (isSlice := true) (len := 0) (cap := 0) h1 h2 h3 hm hhe hl hmx
          have hm0 : m = 0 := by simpa using hm'
          subst hm0
          have hh0 : hh ≤ 0 := boundA_le hhe (Nat.zero_le _)
          have : hh = 0 := by omega
          subst this
          have : l = 0 := by omega
          subst this
          refine ⟨.slice (some a) 0 0, ?_, ?_⟩
          · simp [Instr.sliceAt, Instr.slice, run_under ht, hb, run_size he, Result.andThen]
          · simp [Rel, PRel]
        · -- the model's own bound on the right is the capacity
          have hcap : ∃ m', (mx = none ∧ m' = cap ∧ m = es.length ∨ m' = m ∧ mx.isSome = true) ∧ boundA mx cap cap = some m' ∧ boundA hi es.length m' = some hh := by
            cases mx with
            | none =>
              simp [boundA] at hm
              refine ⟨cap, .inl ⟨rfl, rfl, hm.symm⟩, by simp [boundA], ?_⟩
              subst hm
              unfold boundA at hhe ⊢
              split at hhe
              · exact hhe
              · split at hhe
                · rename_i k i hc
                  cases hhe
                  rw [if_pos (by omega)]
                · cases hhe
              · cases hhe
            | some u =>
              refine ⟨m, .inr ⟨rfl, rfl⟩, ?_, hhe⟩
              unfold boundA at hm ⊢
              split at hm
              · rename_i e; cases e
              · rename_i k i e
                cases e
                split at hm
                · rename_i hc
                  cases hm
                  rw [if_pos (by omega)]
                · cases hm
              · cases hm
          obtain ⟨m', hm1, hm2, hm3⟩ := hcap
          have hhle : hh ≤ es.length := by
            have := boundA_le (y := m) hhe
            cases hi with
            | none => simp only [boundA, Option.some.injEq] at hhe; omega
            | some u =>
              have : hh ≤ m := by
                unfold boundA at hhe
                split at hhe
                · rename_i e; cases e
                · split at hhe
                  · cases hhe; omega
                  · cases hhe
                · cases hhe
              omega
          have hb := run_sliceBounds (P := P) (isSlice := true) (len := es.length) (cap := cap) h1 h2 h3 hm2 hm3 hl hmx
          have hlm : hh ≤ m' := by
            rcases hm1 with ⟨_, rfl, _⟩ | ⟨rfl, hs⟩
            · omega
            · cases hi with
              | none => cases hmx hs
              | some u =>
                unfold boundA at hm3
                split at hm3
                · rename_i e; cases e
                · split at hm3
                  · cases hm3; omega
                  · cases hm3
                · cases hm3
          refine ⟨.slice (if m' = l then some a else (some a).map (·.add (l * ei.size))) (hh - l) (m' - l), ?_, ?_⟩
          · simp [Instr.sliceAt, Instr.slice, run_under ht, hb, run_size he, Result.andThen]
          · simp only [Rel, PRel]
            have hlen : ((es.take hh).drop l).length = hh - l := by simp; omega
            by_cases hz : (mx.isSome && m == l) = true
            · right; left
              simp at hz
              have hm1' : m' = m := by
                rcases hm1 with ⟨hn, _⟩ | ⟨h, _⟩
                · simp [hn] at hz
                · exact h
              have : hh = l := by omega
              refine ⟨by simp [hz], by rw [List.drop_eq_nil_iff]; simp; omega, ?_⟩
              simp [hm1', hz.2, this]
            · right; right
              have hk : (if VK.some = VK.nil then VK.nil else if (mx.isSome && m == l) = true then VK.zero else VK.some) = VK.some := by simp [hz]
              refine ⟨hk, ?_⟩
              by_cases he' : m' = l
              · -- nothing is left of it
                have : hh = l := by omega
                subst this
                have hnil : (es.take hh).drop hh = [] := by rw [List.drop_eq_nil_iff, List.length_take]; omega
                exact ⟨a, m' - hh, sz, by simp [he', hnil], by simp [hnil], by simp [hnil], by simp [hnil, PRelE]⟩
              · refine ⟨a.add (l * ei.size), m' - l, sz, by simp [he', hlen], by rw [hlen]; omega, ?_, ?_⟩
                · intro hne
                  have : es ≠ [] := by rintro rfl; simp at hne
                  unfold Addr.add
                  split
                  · exact hsp this
                  · rfl
                · by_cases hes0 : es = []
                  · subst hes0; simp [PRelE]
                  · have hszz : sz = ei.size := by
                      obtain ⟨c, hc⟩ := List.exists_mem_of_ne_nil es hes0
                      rw [← hE.size hc, hes c hc]
                    have hadd : (a.add (l * ei.size)).block = a.block ∧ (a.add (l * ei.size)).off = a.off + l * ei.size := by
                      unfold Addr.add
                      split
                      · rename_i h0; simp [h0]
                      · simp
                    rw [hadd.1, hadd.2, ← hszz]
                    exact (hE.take _ _ _).drop _ _ _

theorem boundA_mono {v : Option AVal} {d y y' n : Nat} (h : boundA v d y = some n) (hy : y ≤ y') : boundA v d y' = some n := by
  unfold boundA at h ⊢
  split at h
  · exact h
  · split at h
    · cases h; rw [if_pos (by omega)]
    · cases h
  · cases h

theorem boundA_le' {v : Option AVal} {d y n : Nat} (h : boundA v d y = some n) (hs : v.isSome = true) : n ≤ y := by
  unfold boundA at h
  split at h
  · cases hs
  · split at h
    · cases h; omega
    · cases h
  · cases h

/-- Whatever the bounds come to: the model's slice. -/
theorem cut_key {g : Ghost} {w : World} {t e : Nat} {ei : TyI} {r off len c : Nat} {cap : Option Nat} {a : Addr} {lo hi mx : Option AVal} {lo' hi' mx' : Option Value} (ht : P.underlying t = some (.slice e)) (he : tyOf P e = some ei)
    (hle : len ≤ c) (hd : g.st r = .dead ∨ ∃ p, g.st r = .live p ∧ p.sz = ei.size ∧ off + c * ei.size ≤ p.room ∧ (c ≠ 0 → a = ⟨p.block, p.off + off, none⟩) ∧ (cap = none → off + c * ei.size = p.room))
    (h1 : BoundRel g w lo lo') (h2 : BoundRel g w hi hi') (h3 : BoundRel g w mx mx') (hmx : mx.isSome = true → hi.isSome = true) : ∀ (l hh m : Nat) (cap' : Option Nat), boundA mx c c = some m → boundA hi len m = some hh → boundA lo 0 hh = some l → l ≤ hh → hh ≤ m → m ≤ c → (∀ k, cap' = some k → m - l = k) → (cap' = none → m = c ∧ cap = none) →
      ∃ y, (Instr.sliceAt t (.slice (some a) len c) lo' hi' mx').run P w = .ok y w ∧ Rel g w (.slice r (off + l * ei.size) (hh - l) cap' ei.size) y := by
  intro l hh m cap' hm hhe hl hlh hhm hmc hk hn
  have hb := run_sliceBounds (P := P) (isSlice := true) (len := len) (cap := c) h1 h2 h3 hm hhe hl hmx
  refine ⟨.slice (some (if m = l then a else a.add (l * ei.size))) (hh - l) (m - l), ?_, ?_⟩
  · simp [Instr.sliceAt, Instr.slice, run_under ht, hb, run_size he, Result.andThen]
    split <;> rfl
  · simp only [Rel]
    refine ⟨_, _, rfl, by omega, hk, ?_⟩
    rcases hd with hd | ⟨p, hp, hpz, hroom, ha, hnone⟩
    · exact .inl hd
    · refine .inr ⟨p, hp, hpz, ?_, ?_, ?_⟩
      · have : l * ei.size + (m - l) * ei.size = m * ei.size := by rw [← Nat.add_mul]; congr 1; omega
        have h2 : m * ei.size ≤ c * ei.size := Nat.mul_le_mul_right _ hmc
        omega
      · intro hne
        rw [if_neg (by omega), ha (by omega)]
        unfold Addr.add
        split
        · rename_i h0; simp [h0]
        · simp [Nat.add_assoc]
      · intro hn'
        obtain ⟨rfl, hcn⟩ := hn hn'
        have := hnone hcn
        have h3 : l * ei.size + (m - l) * ei.size = m * ei.size := by rw [← Nat.add_mul]; congr 1; omega
        omega

/-- A cut of a slice of memory. -/
theorem sliceA_slice_sound {g : Ghost} {w : World} {t e : Nat} {ei : TyI} {r off len : Nat} {cap : Option Nat} {x : Value} {lo hi mx : Option AVal} {lo' hi' mx' : Option Value} {v : AVal} (ht : P.underlying t = some (.slice e)) (he : tyOf P e = some ei) 
    (hx : Rel g w (.slice r off len cap ei.size) x) (h1 : BoundRel g w lo lo') (h2 : BoundRel g w hi hi') (h3 : BoundRel g w mx mx') (hmx : mx.isSome = true → hi.isSome = true) (h : sliceA ei.size (.slice r off len cap ei.size) lo hi mx = some v) :
    ∃ y, (Instr.sliceAt t x lo' hi' mx').run P w = .ok y w ∧ Rel g w v y := by
  simp only [Rel] at hx
  obtain ⟨a, c, rfl, hle, hcap, hd⟩ := hx
  -- whatever the bounds come to: the model's slice
  have key := cut_key (P := P) (cap := cap) ht he hle hd h1 h2 h3 hmx
  cases cap with
  | some c' =>
    have : c = c' := hcap c' rfl
    subst this
    simp only [sliceA] at h
    split at h
    · cases h
    · rename_i m hm
      split at h
      · cases h
      · rename_i hh hhe
        split at h
        · cases h
        · rename_i l hl
          cases h
          have e1 := boundA_le hm (Nat.le_refl _)
          have e3 := boundA_le hl (Nat.zero_le _)
          have e2 : hh ≤ m := by
            cases hi with
            | some u => exact boundA_le' hhe rfl
            | none =>
              simp [boundA] at hhe
              cases mx with
              | none => simp [boundA] at hm; omega
              | some u => exact absurd (hmx rfl) (by simp)
          exact key l hh m _ hm hhe hl e3 e2 e1 (fun k hk => by simpa using hk) (fun hk => by cases hk)
  | none =>
    simp only [sliceA] at h
    cases mx with
    | some u =>
      simp only at h
      split at h
      · cases h
      · rename_i m hm
        split at h
        · cases h
        · rename_i hh hhe
          split at h
          · cases h
          · rename_i l hl
            cases h
            have e1 := boundA_le hm (Nat.le_refl _)
            have e3 := boundA_le hl (Nat.zero_le _)
            have e2 : hh ≤ m := by
              cases hi with
              | some u => exact boundA_le' hhe rfl
              | none => exact absurd (hmx rfl) (by simp)
            have hm' : boundA (some u) c c = some m := by
              have := boundA_mono hm hle
              cases u <;> first | exact this | (simp [boundA] at this)
            exact key l hh m _ hm' hhe hl e3 e2 (by omega) (fun k hk => by simpa using hk) (fun hk => by cases hk)
    | none =>
      simp only at h
      split at h
      · cases h
      · rename_i hh hhe
        split at h
        · cases h
        · rename_i l hl
          cases h
          have e3 := boundA_le hl (Nat.zero_le _)
          have e2 := boundA_le hhe (Nat.le_refl _)
          exact key l hh c _ (by simp [boundA]) (boundA_mono hhe hle) hl e3 (by omega) (Nat.le_refl _) (fun k hk => by cases hk) (fun _ => ⟨rfl, rfl⟩)

/-- A cut of a string. -/
theorem sliceA_str_sound {g : Ghost} {w : World} {t : Nat} {s : List UInt8} {x : Value} {lo hi mx : Option AVal} {lo' hi' mx' : Option Value} {v : AVal} (ht : P.underlying t = some .string)
    (hx : Rel g w (.str s) x) (h1 : BoundRel g w lo lo') (h2 : BoundRel g w hi hi') (h3 : BoundRel g w mx mx') (h : sliceA 1 (.str s) lo hi mx = some v) :
    ∃ y, (Instr.sliceAt t x lo' hi' mx').run P w = .ok y w ∧ Rel g w v y := by
  simp only [Rel] at hx
  subst hx
  simp only [sliceA] at h
  split at h
  · rename_i hh hhe
    split at h
    · rename_i l hl
      cases h
      cases mx' with
      | some u => simp [BoundRel] at h3
      | none =>
        have hsz : (⟨s.toArray⟩ : ByteArray).size = s.length := by simp [ByteArray.size]
        have hb := run_sliceBounds (P := P) (isSlice := false) (len := s.length) (cap := s.length) (mx := none) (mx' := none) (m := s.length) h1 h2 h3 (by simp [boundA]) hhe hl (by simp)
        refine ⟨.string ((⟨s.toArray⟩ : ByteArray).extract l hh), ?_, ?_⟩
        · simp [Instr.sliceAt, Instr.slice, run_under ht, hsz, hb, Result.andThen]
        · simp only [Rel]
          congr 1
          apply ByteArray.ext
          rw [ByteArray.data_extract]
          apply Array.ext'
          simp [List.extract_eq_take_drop]
          rw [List.drop_take]
    · cases h
  · cases h

end Go.Proofs.YtjckhhkhgjbpaaaGreatDoor.Pale
