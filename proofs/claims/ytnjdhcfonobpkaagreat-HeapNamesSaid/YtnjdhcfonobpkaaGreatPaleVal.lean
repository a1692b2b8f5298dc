/- The abstract machine against the model: values without references, taken out of memory. -/
import Derived.Test.YtnjdhcfonobpkaaGreatPaleEffAll
set_option linter.unusedVariables false
set_option linter.unusedSimpArgs false
namespace Go.Proofs.YtnjdhcfonobpkaaGreat.Pale
open Go

variable {A : AProg} {P : Program}

/-- The blocks that nobody writes, and those of some rows. -/
def roSeen (g : Ghost) (S : List Nat) (b : Nat) : Prop := g.ro b ∨ ∃ r p, r ∈ S ∧ g.st r = .live p ∧ p.block = b

theorem PRel.more {w : World} {ro ro' : Nat → Prop} (h : ∀ b, ro b → ro' b) {v : AVal} {x : Value} (hp : PRel w ro v x) : PRel w ro' v x := PRel.mono ⟨h, fun _ _ => rfl⟩ v x hp
theorem PRelL.more {w : World} {ro ro' : Nat → Prop} (h : ∀ b, ro b → ro' b) {v : List AVal} {x : List Value} (hp : PRelL w ro v x) : PRelL w ro' v x := PRelL.mono ⟨h, fun _ _ => rfl⟩ v x hp

theorem roSeen_more {g : Ghost} {S S' : List Nat} (h : ∀ r, r ∈ S → r ∈ S') : ∀ b, roSeen g S b → roSeen g S' b := by
  intro b hb
  rcases hb with h1 | ⟨r, p, h1, h2, h3⟩
  · exact .inl h1
  · exact .inr ⟨r, p, h r h1, h2, h3⟩

def SnapOk (g : Ghost) (w : World) (f : AVal → Option (AVal × List Nat)) : Prop :=
  ∀ v u S x, f v = some (u, S) → Rel g w v x → PRel w (roSeen g S) u x ∧ ∀ r, r ∈ S → ∃ p, g.st r = .live p

theorem snapL_ok {g : Ghost} {w : World} {f : AVal → Option (AVal × List Nat)} (hf : SnapOk g w f) : ∀ (vs us : List AVal) (S : List Nat) (l : List Value), snapL f vs = some (us, S) → RelL g w vs l → PRelL w (roSeen g S) us l ∧ ∀ r, r ∈ S → ∃ p, g.st r = .live p := by
  intro vs
  induction vs with
  | nil => intro us S l h hr; simp [snapL] at h; obtain ⟨rfl, rfl⟩ := h; simp [RelL] at hr; subst hr; exact ⟨by simp [PRelL], by simp⟩
  | cons v vs ih =>
    intro us S l h hr
    unfold snapL at h
    split at h
    · rename_i x a xs b h1 h2
      cases h
      simp only [RelL] at hr
      obtain ⟨y, ys, rfl, h3, h4⟩ := hr
      obtain ⟨p1, l1⟩ := hf v x a y h1 h3
      obtain ⟨p2, l2⟩ := ih xs b ys h2 h4
      simp only [PRelL]
      exact ⟨⟨y, ys, rfl, p1.more (roSeen_more fun r hr => List.mem_append_left _ hr), p2.more (roSeen_more fun r hr => List.mem_append_right _ hr)⟩, fun r hr => by
        rcases List.mem_append.1 hr with h | h
        · exact l1 r h
        · exact l2 r h⟩
    · cases h

theorem PAtL_of {w : World} {ro : Nat → Prop} {b : Nat} (hb : ro b) : ∀ (us : List AVal) (l : List Value) (o : Nat), PRelL w ro us l → (∀ (j : Nat) (x : Value), l[j]? = some x → w.cell? ⟨b, o + j, none⟩ = some x) → PAtL w ro b o us := by
  intro us
  induction us with
  | nil => intro l o h hc; simp [PAtL]
  | cons u us ih =>
    intro l o h hc
    simp only [PRelL] at h
    obtain ⟨x, xs, rfl, h1, h2⟩ := h
    simp only [PAtL]
    refine ⟨⟨hb, x, by simpa using hc 0 x rfl, h1⟩, ih xs (o + 1) h2 fun j y hj => ?_⟩
    have := hc (j + 1) y (by simpa using hj)
    rwa [show o + (j + 1) = o + 1 + j from by omega] at this

theorem PRelL.drop {w : World} {ro : Nat → Prop} : ∀ (us : List AVal) (l : List Value) (n : Nat), PRelL w ro us l → PRelL w ro (us.drop n) (l.drop n) := by
  intro us
  induction us with
  | nil => intro l n h; simp [PRelL] at h; subst h; simp [PRelL]
  | cons u us ih =>
    intro l n h
    simp only [PRelL] at h
    obtain ⟨x, xs, rfl, h1, h2⟩ := h
    cases n with
    | zero => simp only [List.drop_zero, PRelL]; exact ⟨x, xs, rfl, h1, h2⟩
    | succ n => simpa using ih xs n h2
theorem PRelL.take {w : World} {ro : Nat → Prop} : ∀ (us : List AVal) (l : List Value) (n : Nat), PRelL w ro us l → PRelL w ro (us.take n) (l.take n) := by
  intro us
  induction us with
  | nil => intro l n h; simp [PRelL] at h; subst h; simp [PRelL]
  | cons u us ih =>
    intro l n h
    simp only [PRelL] at h
    obtain ⟨x, xs, rfl, h1, h2⟩ := h
    cases n with
    | zero => simp [PRelL]
    | succ n => simp only [List.take_succ_cons, PRelL]; exact ⟨x, _, rfl, h1, ih xs n h2⟩

theorem mkElems_E {w : World} {ro : Nat → Prop} {b sz : Nat} {gz : Bool} (hb : ro b) : ∀ (n : Nat) (us : List AVal) (l : List Value) (es : List AVal) (o : Nat), PRelL w ro us l → us.length = n * sz → mkElems gz (chunk sz n us) = some es → (∀ (j : Nat) (x : Value), l[j]? = some x → w.cell? ⟨b, o + j, none⟩ = some x) → es.length = n ∧ PRelE w ro sz b o es := by
  intro n
  induction n with
  | zero => intro us l es o h hl hm hc; simp [chunk, mkElems] at hm; subst hm; exact ⟨rfl, by simp [PRelE]⟩
  | succ n ih =>
    intro us l es o h hl hm hc
    simp only [chunk, mkElems] at hm
    rw [Nat.add_mul, Nat.one_mul] at hl
    split at hm
    · rename_i v vs h1 h2
      cases hm
      have hll := PRelL.length _ _ h
      obtain ⟨h3, h4⟩ := ih (us.drop sz) (l.drop sz) vs (o + sz) (h.drop _ _ _) (by simp; omega) h2 (fun j x hj => by
        rw [List.getElem?_drop] at hj
        have := hc _ x hj
        rwa [← Nat.add_assoc] at this)
      refine ⟨by simp [h3], ?_⟩
      have hat : PAtL w ro b o (us.take sz) := PAtL_of hb _ (l.take sz) o (h.take _ _ _) (fun j x hj => by
        rw [List.getElem?_take] at hj
        split at hj
        · exact hc j x hj
        · cases hj)
      unfold mkElem at h1
      split at h1
      · cases h1
        simp only [PRelE]
        exact ⟨⟨by simp; omega, hat⟩, h4⟩
      · split at h1
        · rename_i v0 hv0
          split at h1
          case isFalse => cases h1
          rename_i hone
          cases h1
          rw [hv0] at hat
          simp only [PAtL] at hat
          have hsz1 : sz = 1 := by
            have := congrArg List.length hv0
            simp at this
            omega
          rw [PRelE]
          · exact ⟨⟨hsz1, hat.1⟩, h4⟩
          · intro cs e; subst e; simp [AVal.oneCell] at hone
        · cases h1
    · cases hm

theorem snapF_ok {g : Ghost} {σ : AMem} {w : World} (hs : Sim A g σ w) : ∀ (k : Nat), SnapOk g w (snapF σ k) := by
  intro k
  induction k with
  | zero => intro v u S x h; simp [snapF] at h
  | succ k ih =>
    intro v u S x h hr
    have pureCase : v = u → S = [] → PRel w g.ro u x → PRel w (roSeen g S) u x ∧ ∀ r, r ∈ S → ∃ p, g.st r = .live p := by
      rintro rfl rfl hp
      exact ⟨hp.more fun b hb => .inl hb, by simp⟩
    cases v <;> simp only [snapF] at h
    case bool => cases h; exact pureCase rfl rfl (by simpa only [Rel, PRel] using hr)
    case int => cases h; exact pureCase rfl rfl (by simpa only [Rel, PRel] using hr)
    case str => cases h; exact pureCase rfl rfl (by simpa only [Rel, PRel] using hr)
    case nilptr => cases h; exact pureCase rfl rfl (by simpa only [Rel, PRel] using hr)
    case nilfn => cases h; exact pureCase rfl rfl (by simpa only [Rel, PRel] using hr)
    case nilmap => cases h; exact pureCase rfl rfl (by simpa only [Rel, PRel] using hr)
    case vs => cases h; exact pureCase rfl rfl (by simpa only [Rel] using hr)
    case vptr => cases h; exact pureCase rfl rfl (by simpa only [Rel] using hr)
    case agg cs =>
      obtain ⟨⟨l, a⟩, h1, h2⟩ := map_some h
      cases h2
      simp only [Rel] at hr
      obtain ⟨m, rfl, hm⟩ := hr
      obtain ⟨p1, p2⟩ := snapL_ok ih cs l a m h1 hm
      exact ⟨by simp only [PRel]; exact ⟨m, rfl, p1⟩, p2⟩
    case tuple cs =>
      obtain ⟨⟨l, a⟩, h1, h2⟩ := map_some h
      cases h2
      simp only [Rel] at hr
      obtain ⟨m, rfl, hm⟩ := hr
      obtain ⟨p1, p2⟩ := snapL_ok ih cs l a m h1 hm
      exact ⟨by simp only [PRel]; exact ⟨m, rfl, p1⟩, p2⟩
    case ptr r off =>
      split at h
      · rename_i sz b cells hget
        split at h
        · rename_i h0
          obtain ⟨⟨l, a⟩, h1, h2⟩ := map_some h
          cases h2
          simp only [Rel] at hr
          obtain ⟨ad, rfl, hd⟩ := hr
          obtain ⟨p, hp, rfl⟩ := live_of_get hs hget hd
          obtain ⟨_, _, m, hm, hc⟩ := row_view hs hp hget
          obtain ⟨p1, p2⟩ := snapL_ok ih cells l a m h1 hm
          subst h0
          refine ⟨?_, fun s hs' => ?_⟩
          · simp only [PRel]
            exact ⟨_, _, rfl, PAtL_of (.inr ⟨r, p, by simp, hp, rfl⟩) l m _ (p1.more (roSeen_more fun s hs' => List.mem_cons_of_mem _ hs')) (by simpa using hc)⟩
          · rcases List.mem_cons.1 hs' with e | e
            · subst e; exact ⟨p, hp⟩
            · exact p2 s e
        · cases h
      · cases h
    case slice r off len cap z =>
      split at h
      · rename_i sz b cells hget
        split at h
        · rename_i hcond
          simp only [Bool.and_eq_true, decide_eq_true_eq] at hcond
          split at h
          · rename_i l a h1
            split at h
            · rename_i es h2
              cases h
              simp only [Rel] at hr
              obtain ⟨ad, c, rfl, hlc, _, hd⟩ := hr
              obtain ⟨p, hp, hpz, hroom, ha, _⟩ := live_of_get hs hget hd
              obtain ⟨_, _, m, hm, hc⟩ := row_view hs hp hget
              obtain ⟨p1, p2⟩ := snapL_ok ih _ l a _ h1 ((hm.drop off).take (len * sz))
              have hseen : ∀ s, s ∈ r :: a → ∃ p, g.st s = .live p := by
                intro s hs'
                rcases List.mem_cons.1 hs' with e | e
                · subst e; exact ⟨p, hp⟩
                · exact p2 s e
              have p1' := p1.more (roSeen_more (S' := r :: a) fun s hs' => List.mem_cons_of_mem _ hs')
              have hll := PRelL.length _ _ p1
              have hml := hm.length
              obtain ⟨e1, e2⟩ := mkElems_E (b := p.block) (.inr ⟨r, p, by simp, hp, rfl⟩) len l _ es (p.off + off) p1' (by rw [hll]; simp; omega) h2 (fun j x hj => by
                rw [List.getElem?_take] at hj
                split at hj
                · rw [List.getElem?_drop] at hj
                  have := hc _ x hj
                  rwa [← Nat.add_assoc] at this
                · cases hj)
              refine ⟨?_, hseen⟩
              simp only [PRel]
              refine .inr (.inr ⟨by first | rfl | trivial, ad, c, sz, by rw [e1], by omega, ?_, ?_⟩)
              · intro hne
                have : len ≠ 0 := by
                  intro e0
                  apply hne
                  apply List.eq_nil_of_length_eq_zero
                  omega
                rw [ha (by omega)]
              · by_cases hl0 : len = 0
                · have : es = [] := by apply List.eq_nil_of_length_eq_zero; omega
                  subst this
                  simp [PRelE]
                · rw [ha (by omega)]
                  exact e2
            · cases h
          · cases h
        · cases h
      · cases h
    case func => cases h
    case yield => cases h
    case map => cases h

/-! ### what hangs on no memory -/
theorem indep_rel {w w' : World} {ro ro' : Nat → Prop} {v : AVal} {x : Value} (hi : v.indep = true) (h : PRel w ro v x) : PRel w' ro' v x := by
  cases v <;> simp only [AVal.indep] at hi <;> try (cases hi; done)
  case bool => simpa only [PRel] using h
  case int => simpa only [PRel] using h
  case str => simpa only [PRel] using h
  case nilptr => simpa only [PRel] using h
  case nilfn => simpa only [PRel] using h
  case nilmap => simpa only [PRel] using h
  case vs k es =>
    cases es with
    | nil =>
      simp only [PRel] at h ⊢
      rcases h with h | h | ⟨hk, a, c, sz, h1, h2, h3, _⟩
      · exact .inl h
      · exact .inr (.inl h)
      · exact .inr (.inr ⟨hk, a, c, sz, h1, h2, h3, by simp [PRelE]⟩)
    | cons e es => simp [AVal.indep] at hi

theorem indepL_rel {w w' : World} {ro ro' : Nat → Prop} : ∀ (vs : List AVal) (l : List Value), vs.all AVal.indep = true → PRelL w ro vs l → PRelL w' ro' vs l := by
  intro vs
  induction vs with
  | nil => intro l _ h; simpa only [PRelL] using h
  | cons v vs ih =>
    intro l hi h
    simp only [List.all_cons, Bool.and_eq_true] at hi
    simp only [PRelL] at h ⊢
    obtain ⟨x, xs, rfl, h1, h2⟩ := h
    exact ⟨x, xs, rfl, indep_rel hi.1 h1, ih xs hi.2 h2⟩

theorem indep1_rel {w w' : World} {ro ro' : Nat → Prop} {v : AVal} {x : Value} (hi : v.indep1 = true) (h : PRel w ro v x) : PRel w' ro' v x := by
  cases v with
  | agg cs =>
    simp only [PRel] at h ⊢
    obtain ⟨l, e, hl⟩ := h
    exact ⟨l, e, indepL_rel cs l hi hl⟩
  | tuple cs =>
    simp only [PRel] at h ⊢
    obtain ⟨l, e, hl⟩ := h
    exact ⟨l, e, indepL_rel cs l hi hl⟩
  | _ => exact indep_rel hi h

/-! ### rows that are not known any more -/
def Ghost.killAll (g : Ghost) (S : List Nat) (ro : Nat → Prop) : Ghost := { st := fun r => if S.contains r then .dead else g.st r, ro := ro }

theorem delAll_get (S : List Nat) : ∀ (σ : AMem) (r : Nat), (delAll σ S).get r = (if S.contains r then none else σ.get r) ∧ (delAll σ S).next = σ.next := by
  induction S with
  | nil => intro σ r; simp [delAll]
  | cons s S ih =>
    intro σ r
    obtain ⟨h1, h2⟩ := ih (σ.del s) r
    refine ⟨?_, by rw [delAll, h2]; rfl⟩
    rw [delAll, h1, AMem.get_del]
    by_cases e : s = r
    · subst e; simp
    · have : (r == s) = false := by simp; exact Ne.symm e
      have hne : r ≠ s := Ne.symm e
      simp [hne, e]

/-! ### calls -/
/-- The fence of everything, in a round or in none. -/
def FW (ro : Option Nat) : Fence := { Fence.wide with round := ro }

theorem FW_calls {ro ro' : Option Nat} {n : Nat} {f : FuncId} {args : Array Value} {w : World} {R : Ending → World → Prop} (h : CallsIn (FW ro) n P f args w R) : CallsIn (FW ro') n P f args w R := h
theorem FW_round {ro ro' : Option Nat} {n l : Nat} {f : FuncId} {tmps : Array Value} {a b : Code} {w : World} {R : Ending → World → Prop} (h : RoundIn (FW ro) n P l f tmps a b w R) : RoundIn (FW ro') n P l f tmps a b w R := h

/-- The model's call of a function value comes back with a value. -/
def Invoked (n : Nat) (P : Program) (fx : Value) (argx : Array Value) (w : World) (R : Value → World → Prop) : Prop :=
  (∃ f first cap, fx = .func (.func f) first cap ∧ (∀ as w, (callFunc f as).run P w = .ok (.enter f as) w) ∧ CallsIn (FW none) n P f (first ++ argx ++ cap) w (fun e w' => ∃ x, e = .returned x ∧ R x w')) ∨
  (∃ l fn tmps assign body, fx = .func (.yield l) #[] #[] ∧ (Instr.yield l argx).run P w = .ok (.round l fn tmps assign body) w ∧ RoundIn (FW none) n P l fn tmps assign body w (fun e w' => ∃ x, e = .returned x ∧ R x w'))

theorem Invoked.mono {n : Nat} {fx : Value} {argx : Array Value} {w : World} {R R' : Value → World → Prop} (h : Invoked n P fx argx w R) (hr : ∀ x w', R x w' → R' x w') : Invoked n P fx argx w R' := by
  rcases h with ⟨f, first, cap, h1, h2, h3⟩ | ⟨l, fn, tmps, assign, body, h1, h2, h3⟩
  · exact .inl ⟨f, first, cap, h1, h2, h3.mono fun e w' ⟨x, he, hx⟩ => ⟨x, he, hr x w' hx⟩⟩
  · exact .inr ⟨l, fn, tmps, assign, body, h1, h2, h3.mono fun e w' ⟨x, he, hx⟩ => ⟨x, he, hr x w' hx⟩⟩

/-- What the abstract call says of the model's. -/
def CallOk (A : AProg) (P : Program) (call : CallA) : Prop :=
  ∀ (fv : AVal) (args : List AVal) (σ : AMem) (v : AVal) (σ' : AMem), call fv args σ = some (v, σ') →
    ∀ (n : Nat) (g : Ghost) (w : World) (fx : Value) (argx : Array Value), Sim A g σ w → Rel g w fv fx → RelL g w args argx.toList →
      Invoked n P fx argx w (fun x w' => ∃ g', Sim A g' σ' w' ∧ Trans g σ w g' σ' w' ∧ Rel g' w' v x)

/-- A call whose arguments and results are values without references. -/
theorem pureCall_ok {call : CallA} (hcall : CallOk A P call) {f : AVal} {args : List AVal} {σ σ' : AMem} {v : AVal} (h : pureCall call f args σ = some (v, σ')) (hf : ∃ k, isFn f = some k) :
    ∀ (n : Nat) (g : Ghost) (w : World) (fx : Value) (argx : Array Value), Sim A g σ w → Rel g w f fx → RelL g w args argx.toList →
      
      Invoked n P fx argx w (fun x w' => ∃ g', Sim A g' σ' w' ∧ Trans g σ w g' σ' w' ∧ Rel g' w' v x) := by
  intro n g w fx argx hs hfr har
  unfold pureCall at h
  split at h
  · cases h
  · rename_i args' seen hsnap
    split at h
    · cases h
    · rename_i u σ1 hc
      split at h
      · cases h
      · rename_i u' seen1 hsnap1
        cases h
        obtain ⟨hargs, hseen⟩ := snapL_ok (snapF_ok hs snapDepth) args args' seen argx.toList hsnap har
        -- the callee's own ghost
        let g0 : Ghost := { st := fun _ => .none, ro := roSeen g seen }
        have hs0 : Sim A g0 AMem.empty w := by
          refine ⟨fun r p hr => (by cases hr), fun r s p q hr => (by cases hr), fun r p hr => (by cases hr), fun b hb => ?_, fun r _ => ⟨rfl, rfl⟩, fun r hr => (by cases hr)⟩
          rcases hb with h1 | ⟨r, p, _, hp, rfl⟩
          · exact hs.rolt b h1
          · exact hs.block_lt hp
        have hf0 : Rel g0 w f fx := by
          obtain ⟨k, hk⟩ := hf
          unfold isFn at hk
          split at hk
          · simp only [Rel, RelL] at hfr ⊢
            exact hfr
          · cases hk
        have ha0 : RelL g0 w args' argx.toList := PRelL.rel (g := g0) args' _ hargs
        refine (hcall f args' AMem.empty u σ1 hc n g0 w fx argx hs0 hf0 ha0).mono ?_
        rintro x w' ⟨g1, hs1, ht1, hr1⟩
        obtain ⟨hp1, hseen1⟩ := snapF_ok hs1 snapDepth u v seen1 x hsnap1 hr1
        have hnew : ∀ r p, g1.st r = .live p → w.heap.size ≤ p.block := by
          intro r p hr
          rcases ht1.new r p hr with h1 | h1 | ⟨s, q, h1, _⟩
          · cases h1
          · exact h1
          · cases h1
        have hold : ∀ b, b < w.heap.size → w'.heap[b]? = w.heap[b]? := fun b hb => ht1.frame b hb (fun r p hr => by cases hr)
        have base : ∀ (ro' : Nat → Prop), (∀ b, g.ro b → ro' b) → Stays w w' g.ro ro' := fun ro' hro => ⟨hro, fun b hb => hold b (hs.rolt b hb)⟩
        by_cases hi : v.indep1 = true
        · rw [if_pos hi]
          refine ⟨g, ?_, ?_, PRel.rel _ _ (indep1_rel hi hp1)⟩
          · exact ⟨fun r p hr => let ⟨o, h1, h2⟩ := hs.obj r p hr; ⟨o, h1, h2.mono (hold _ h2.block_lt) (GLe.refl g) (base g.ro fun _ h => h)⟩, hs.inj, hs.ro, fun b hb => Nat.lt_of_lt_of_le (hs.rolt b hb) ht1.size, hs.fresh, hs.dead⟩
          · exact ⟨ht1.os, ht1.tape, ht1.output, ht1.size, fun b hb _ => hold b hb, GLe.refl g, fun r _ h => ⟨h, rfl⟩, fun r p h => .inl h, fun _ h => h, fun _ h => .inl h, Nat.le_refl _, fun b l hb => ⟨l, (hold b (Array.getElem?_eq_some_iff.1 hb).1).trans hb⟩⟩
        · rw [if_neg hi]
          let ro2 : Nat → Prop := fun b => roSeen g seen b ∨ roSeen g1 seen1 b
          let g2 : Ghost := g.killAll seen ro2
          have hle : GLe g g2 := by
            refine ⟨fun r p hr => ?_, fun r hr => ?_⟩
            · by_cases e : seen.contains r = true
              · exact .inr (by simp only [g2, Ghost.killAll, e, if_true])
              · refine .inl ?_
                simp only [g2, Ghost.killAll]
                rw [if_neg e]; exact hr
            · by_cases e : seen.contains r = true
              · simp only [g2, Ghost.killAll, e, if_true]
              · simp only [g2, Ghost.killAll]
                rw [if_neg e]; exact hr
          have hlive : ∀ r p, g2.st r = .live p → g.st r = .live p ∧ seen.contains r = false := by
            intro r p hr
            simp only [g2, Ghost.killAll] at hr
            by_cases e : seen.contains r = true
            · rw [if_pos e] at hr; cases hr
            · rw [if_neg e] at hr; exact ⟨hr, by simpa using e⟩
          have hst := base ro2 (fun b hb => .inl (.inl hb))
          have hro1 : ∀ b, g1.ro b → roSeen g seen b ∨ w.heap.size ≤ b := by
            intro b hb
            rcases ht1.ronew b hb with h1 | h1 | ⟨s, q, h1, _⟩
            · exact .inl h1
            · exact .inr h1
            · cases h1
          refine ⟨g2, ⟨?_, ?_, ?_, ?_, ?_, ?_⟩, ?_, ?_⟩
          · intro r p hr
            obtain ⟨h1, h2⟩ := hlive r p hr
            obtain ⟨o, h3, h4⟩ := hs.obj r p h1
            refine ⟨o, ?_, h4.mono (hold _ h4.block_lt) hle hst⟩
            rw [(delAll_get seen σ r).1, h2]
            exact h3
          · intro r s p q hr hs' hb
            exact hs.inj r s p q (hlive r p hr).1 (hlive s q hs').1 hb
          · intro r p hr hb
            obtain ⟨h1, h2⟩ := hlive r p hr
            have hlt := hs.block_lt h1
            have bad : ¬ roSeen g seen p.block := by
              intro hb
              rcases hb with hb | ⟨s, q, hs', hq, hqb⟩
              · exact hs.ro r p h1 hb
              · have := hs.inj r s p q h1 hq hqb.symm
                subst this
                have : seen.contains r = true := by simpa using hs'
                rw [h2] at this; cases this
            rcases hb with hb | (hb | ⟨s, q, _, hq, hqb⟩)
            · exact bad hb
            · rcases hro1 _ hb with hb | hb
              · exact bad hb
              · omega
            · have := hnew s q hq
              omega
          · intro b hb
            rcases hb with (hb | ⟨r, p, _, hp, rfl⟩) | (hb | ⟨r, p, _, hp, rfl⟩)
            · exact Nat.lt_of_lt_of_le (hs.rolt b hb) ht1.size
            · exact Nat.lt_of_lt_of_le (hs.block_lt hp) ht1.size
            · exact hs1.rolt b hb
            · exact hs1.block_lt hp
          · intro r hr
            rw [(delAll_get seen σ 0).2] at hr
            obtain ⟨h1, h2⟩ := hs.fresh r hr
            have hns : seen.contains r = false := by
              cases hc : seen.contains r with
              | false => rfl
              | true =>
                obtain ⟨p, hp⟩ := hseen r (by simpa using hc)
                rw [h1] at hp; cases hp
            refine ⟨?_, by rw [(delAll_get seen σ r).1, hns]; exact h2⟩
            simp only [g2, Ghost.killAll, hns, Bool.false_eq_true, if_false]
            exact h1
          · intro r hr
            rw [(delAll_get seen σ r).1]
            cases hc : seen.contains r with
            | true => simp
            | false =>
              simp only [Bool.false_eq_true, if_false]
              simp only [g2, Ghost.killAll, hc, Bool.false_eq_true, if_false] at hr
              exact hs.dead r hr
          · refine ⟨ht1.os, ht1.tape, ht1.output, ht1.size, fun b hb _ => hold b hb, hle, fun r hr hn => ?_, fun r p h => .inl (hlive r p h).1, fun b hb => .inl (.inl hb), ?_, (by rw [(delAll_get seen σ 0).2]; exact Nat.le_refl _), fun b l hb => ⟨l, (hold b (Array.getElem?_eq_some_iff.1 hb).1).trans hb⟩⟩
            have hns : seen.contains r = false := by
              cases hc : seen.contains r with
              | false => rfl
              | true =>
                obtain ⟨p, hp⟩ := hseen r (by simpa using hc)
                rw [hn] at hp; cases hp
            refine ⟨?_, by rw [(delAll_get seen σ r).1, hns]; rfl⟩
            · simp only [g2, Ghost.killAll, hns, Bool.false_eq_true, if_false]
              exact hn
            · intro b hb
              rcases hb with (hb | ⟨r, p, _, hp, rfl⟩) | (hb | ⟨r, p, _, hp, rfl⟩)
              · exact .inl hb
              · exact .inr (.inr ⟨r, p, hp, rfl⟩)
              · rcases hro1 b hb with (hb | ⟨r, p, _, hp, rfl⟩) | hb
                · exact .inl hb
                · exact .inr (.inr ⟨r, p, hp, rfl⟩)
                · exact .inr (.inl hb)
              · exact .inr (.inl (hnew r p hp))
          · exact PRel.rel (g := g2) _ _ (hp1.more fun b hb => .inr hb)

end Go.Proofs.YtnjdhcfonobpkaaGreat.Pale
