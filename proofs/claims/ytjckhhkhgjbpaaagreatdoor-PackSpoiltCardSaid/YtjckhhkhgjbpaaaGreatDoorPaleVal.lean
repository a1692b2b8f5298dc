/- The abstract machine against the model: values without references, taken out of memory. -/
import Derived.Test.YtjckhhkhgjbpaaaGreatDoorPaleEffAll
set_option linter.unusedVariables false
set_option linter.unusedSimpArgs false
namespace Go.Proofs.YtjckhhkhgjbpaaaGreatDoor.Pale
open Go

variable {A : AProg} {P : Program}

/-- The blocks that nobody writes, and those of some rows. -/
def roSeen (ro : Nat → Prop) (g : Ghost) (S : List Nat) (b : Nat) : Prop := ro b ∨ ∃ r p, r ∈ S ∧ g.st r = .live p ∧ p.block = b

theorem PRel.more {w : World} {ro ro' : Nat → Prop} (h : ∀ b, ro b → ro' b) {v : AVal} {x : Value} (hp : PRel w ro v x) : PRel w ro' v x := PRel.mono ⟨h, fun _ _ => rfl⟩ v x hp
theorem PRelL.more {w : World} {ro ro' : Nat → Prop} (h : ∀ b, ro b → ro' b) {v : List AVal} {x : List Value} (hp : PRelL w ro v x) : PRelL w ro' v x := PRelL.mono ⟨h, fun _ _ => rfl⟩ v x hp

theorem roSeen_more {ro : Nat → Prop} {g : Ghost} {S S' : List Nat} (h : ∀ r, r ∈ S → r ∈ S') : ∀ b, roSeen ro g S b → roSeen ro g S' b := by
  intro b hb
  rcases hb with h1 | ⟨r, p, h1, h2, h3⟩
  · exact .inl h1
  · exact .inr ⟨r, p, h r h1, h2, h3⟩

def SnapOk (ro : Nat → Prop) (g : Ghost) (w : World) (f : AVal → Option (AVal × List Nat)) : Prop :=
  ∀ v u S x, f v = some (u, S) → Rel g w v x → PRel w (roSeen ro g S) u x ∧ ∀ r, r ∈ S → ∃ p, g.st r = .live p

theorem snapL_ok {ro : Nat → Prop} {g : Ghost} {w : World} {f : AVal → Option (AVal × List Nat)} (hf : SnapOk ro g w f) : ∀ (vs us : List AVal) (S : List Nat) (l : List Value), snapL f vs = some (us, S) → RelL g w vs l → PRelL w (roSeen ro g S) us l ∧ ∀ r, r ∈ S → ∃ p, g.st r = .live p := by
  intro vs
  induction vs with
  | nil => intro us S l h hr; simp [snapL] at h; obtain ⟨rfl, rfl⟩ := h; simp [RelL] at hr; subst hr; exact ⟨by simp [PRelL], by simp⟩
  | cons v vs ih =>
    intro us S l h hr
    unfold snapL at h
    split at h
    · rename_i x a xs b h1 h2
      cases h
      simp only [RelL] at hr
      obtain ⟨y, ys, rfl, h3, h4⟩ := hr
      obtain ⟨p1, l1⟩ := hf v x a y h1 h3
      obtain ⟨p2, l2⟩ := ih xs b ys h2 h4
      simp only [PRelL]
      exact ⟨⟨y, ys, rfl, p1.more (roSeen_more fun r hr => List.mem_append_left _ hr), p2.more (roSeen_more fun r hr => List.mem_append_right _ hr)⟩, fun r hr => by
        rcases List.mem_append.1 hr with h | h
        · exact l1 r h
        · exact l2 r h⟩
    · cases h

theorem PAtL_of {w : World} {ro : Nat → Prop} {b : Nat} (hb : ro b) : ∀ (us : List AVal) (l : List Value) (o : Nat), PRelL w ro us l → (∀ (j : Nat) (x : Value), l[j]? = some x → w.cell? ⟨b, o + j, none⟩ = some x) → PAtL w ro b o us := by
  intro us
  induction us with
  | nil => intro l o h hc; simp [PAtL]
  | cons u us ih =>
    intro l o h hc
    simp only [PRelL] at h
    obtain ⟨x, xs, rfl, h1, h2⟩ := h
    simp only [PAtL]
    refine ⟨⟨hb, x, by simpa using hc 0 x rfl, h1⟩, ih xs (o + 1) h2 fun j y hj => ?_⟩
    have := hc (j + 1) y (by simpa using hj)
    rwa [show o + (j + 1) = o + 1 + j from by omega] at this

theorem PRelL.drop {w : World} {ro : Nat → Prop} : ∀ (us : List AVal) (l : List Value) (n : Nat), PRelL w ro us l → PRelL w ro (us.drop n) (l.drop n) := by
  intro us
  induction us with
  | nil => intro l n h; simp [PRelL] at h; subst h; simp [PRelL]
  | cons u us ih =>
    intro l n h
    simp only [PRelL] at h
    obtain ⟨x, xs, rfl, h1, h2⟩ := h
    cases n with
    | zero => simp only [List.drop_zero, PRelL]; exact ⟨x, xs, rfl, h1, h2⟩
    | succ n => simpa using ih xs n h2
theorem PRelL.take {w : World} {ro : Nat → Prop} : ∀ (us : List AVal) (l : List Value) (n : Nat), PRelL w ro us l → PRelL w ro (us.take n) (l.take n) := by
  intro us
  induction us with
  | nil => intro l n h; simp [PRelL] at h; subst h; simp [PRelL]
  | cons u us ih =>
    intro l n h
    simp only [PRelL] at h
    obtain ⟨x, xs, rfl, h1, h2⟩ := h
    cases n with
    | zero => simp [PRelL]
    | succ n => simp only [List.take_succ_cons, PRelL]; exact ⟨x, _, rfl, h1, ih xs n h2⟩

theorem mkElems_E {w : World} {ro : Nat → Prop} {b sz : Nat} {gz : Bool} (hb : ro b) : ∀ (n : Nat) (us : List AVal) (l : List Value) (es : List AVal) (o : Nat), PRelL w ro us l → us.length = n * sz → mkElems gz (chunk sz n us) = some es → (∀ (j : Nat) (x : Value), l[j]? = some x → w.cell? ⟨b, o + j, none⟩ = some x) → es.length = n ∧ PRelE w ro sz b o es := by
  intro n
  induction n with
  | zero => intro us l es o h hl hm hc; simp [chunk, mkElems] at hm; subst hm; exact ⟨rfl, by simp [PRelE]⟩
  | succ n ih =>
    intro us l es o h hl hm hc
    simp only [chunk, mkElems] at hm
    rw [Nat.add_mul, Nat.one_mul] at hl
    split at hm
    · rename_i v vs h1 h2
      cases hm
      have hll := PRelL.length _ _ h
      obtain ⟨h3, h4⟩ := ih (us.drop sz) (l.drop sz) vs (o + sz) (h.drop _ _ _) (by simp; omega) h2 (fun j x hj => by
        rw [List.getElem?_drop] at hj
        have := hc _ x hj
        rwa [← Nat.add_assoc] at this)
      refine ⟨by simp [h3], ?_⟩
      have hat : PAtL w ro b o (us.take sz) := PAtL_of hb _ (l.take sz) o (h.take _ _ _) (fun j x hj => by
        rw [List.getElem?_take] at hj
        split at hj
        · exact hc j x hj
        · cases hj)
      unfold mkElem at h1
      split at h1
      · cases h1
        simp only [PRelE]
        exact ⟨⟨by simp; omega, hat⟩, h4⟩
      · split at h1
        · rename_i v0 hv0
          split at h1
          case isFalse => cases h1
          rename_i hone
          cases h1
          rw [hv0] at hat
          simp only [PAtL] at hat
          have hsz1 : sz = 1 := by
            have := congrArg List.length hv0
            simp at this
            omega
          rw [PRelE]
          · exact ⟨⟨hsz1, hat.1⟩, h4⟩
          · intro cs e; subst e; simp [AVal.oneCell] at hone
        · cases h1
    · cases hm

theorem indep_rel {w w' : World} {ro ro' : Nat → Prop} {v : AVal} {x : Value} (hi : v.indep = true) (h : PRel w ro v x) : PRel w' ro' v x := by
  cases v <;> simp only [AVal.indep] at hi <;> try (cases hi; done)
  case bool => simpa only [PRel] using h
  case int => simpa only [PRel] using h
  case str => simpa only [PRel] using h
  case nilptr => simpa only [PRel] using h
  case nilfn => simpa only [PRel] using h
  case nilmap => simpa only [PRel] using h
  case vs k es =>
    cases es with
    | nil =>
      simp only [PRel] at h ⊢
      rcases h with h | h | ⟨hk, a, c, sz, h1, h2, h3, _⟩
      · exact .inl h
      · exact .inr (.inl h)
      · exact .inr (.inr ⟨hk, a, c, sz, h1, h2, h3, by simp [PRelE]⟩)
    | cons e es => simp [AVal.indep] at hi

theorem snapF_ok {fr : Bool} {ro : Nat → Prop} {g : Ghost} (hro : fr = false → ro = g.ro) {σ : AMem} {w : World} (hs : Sim A g σ w) : ∀ (k : Nat), SnapOk ro g w (snapF fr σ k) := by
  intro k
  induction k with
  | zero => intro v u S x h; simp [snapF] at h
  | succ k ih =>
    intro v u S x h hr
    have pureCase : v = u → S = [] → PRel w ro u x → PRel w (roSeen ro g S) u x ∧ ∀ r, r ∈ S → ∃ p, g.st r = .live p := by
      rintro rfl rfl hp
      exact ⟨hp.more fun b hb => .inl hb, by simp⟩
    cases v <;> simp only [snapF] at h
    case bool => cases h; exact pureCase rfl rfl (by simpa only [Rel, PRel] using hr)
    case int => cases h; exact pureCase rfl rfl (by simpa only [Rel, PRel] using hr)
    case str => cases h; exact pureCase rfl rfl (by simpa only [Rel, PRel] using hr)
    case nilptr => cases h; exact pureCase rfl rfl (by simpa only [Rel, PRel] using hr)
    case nilfn => cases h; exact pureCase rfl rfl (by simpa only [Rel, PRel] using hr)
    case nilmap => cases h; exact pureCase rfl rfl (by simpa only [Rel, PRel] using hr)
    case vs k es =>
      split at h
      · cases h
      · rename_i hc
        cases h
        simp only [Rel] at hr
        refine pureCase rfl rfl ?_
        cases fr with
        | false => rw [hro rfl]; exact hr
        | true => exact indep_rel (by simpa using hc) hr
    case vptr q =>
      split at h
      · cases h
      · rename_i hc
        cases h
        simp only [Rel] at hr
        refine pureCase rfl rfl ?_
        cases fr with
        | false => rw [hro rfl]; exact hr
        | true => exact indep_rel (by simpa using hc) hr
    case agg cs =>
      obtain ⟨⟨l, a⟩, h1, h2⟩ := map_some h
      cases h2
      simp only [Rel] at hr
      obtain ⟨m, rfl, hm⟩ := hr
      obtain ⟨p1, p2⟩ := snapL_ok ih cs l a m h1 hm
      exact ⟨by simp only [PRel]; exact ⟨m, rfl, p1⟩, p2⟩
    case tuple cs =>
      obtain ⟨⟨l, a⟩, h1, h2⟩ := map_some h
      cases h2
      simp only [Rel] at hr
      obtain ⟨m, rfl, hm⟩ := hr
      obtain ⟨p1, p2⟩ := snapL_ok ih cs l a m h1 hm
      exact ⟨by simp only [PRel]; exact ⟨m, rfl, p1⟩, p2⟩
    case ptr r off =>
      split at h
      · rename_i sz b cells hget
        split at h
        · rename_i h0
          obtain ⟨⟨l, a⟩, h1, h2⟩ := map_some h
          cases h2
          simp only [Rel] at hr
          obtain ⟨ad, rfl, hd⟩ := hr
          obtain ⟨p, hp, rfl⟩ := live_of_get hs hget hd
          obtain ⟨_, _, m, hm, hc⟩ := row_view hs hp hget
          obtain ⟨p1, p2⟩ := snapL_ok ih cells l a m h1 hm
          subst h0
          refine ⟨?_, fun s hs' => ?_⟩
          · simp only [PRel]
            exact ⟨_, _, rfl, PAtL_of (.inr ⟨r, p, by simp, hp, rfl⟩) l m _ (p1.more (roSeen_more fun s hs' => List.mem_cons_of_mem _ hs')) (by simpa using hc)⟩
          · rcases List.mem_cons.1 hs' with e | e
            · subst e; exact ⟨p, hp⟩
            · exact p2 s e
        · cases h
      · cases h
    case slice r off len cap z =>
      split at h
      · rename_i sz b cells hget
        split at h
        · rename_i hcond
          simp only [Bool.and_eq_true, decide_eq_true_eq] at hcond
          split at h
          · rename_i l a h1
            split at h
            · rename_i es h2
              cases h
              simp only [Rel] at hr
              obtain ⟨ad, c, rfl, hlc, _, hd⟩ := hr
              obtain ⟨p, hp, hpz, hroom, ha, _⟩ := live_of_get hs hget hd
              obtain ⟨_, _, m, hm, hc⟩ := row_view hs hp hget
              obtain ⟨p1, p2⟩ := snapL_ok ih _ l a _ h1 ((hm.drop off).take (len * sz))
              have hseen : ∀ s, s ∈ r :: a → ∃ p, g.st s = .live p := by
                intro s hs'
                rcases List.mem_cons.1 hs' with e | e
                · subst e; exact ⟨p, hp⟩
                · exact p2 s e
              have p1' := p1.more (roSeen_more (S' := r :: a) fun s hs' => List.mem_cons_of_mem _ hs')
              have hll := PRelL.length _ _ p1
              have hml := hm.length
              obtain ⟨e1, e2⟩ := mkElems_E (b := p.block) (.inr ⟨r, p, by simp, hp, rfl⟩) len l _ es (p.off + off) p1' (by rw [hll]; simp; omega) h2 (fun j x hj => by
                rw [List.getElem?_take] at hj
                split at hj
                · rw [List.getElem?_drop] at hj
                  have := hc _ x hj
                  rwa [← Nat.add_assoc] at this
                · cases hj)
              refine ⟨?_, hseen⟩
              simp only [PRel]
              refine .inr (.inr ⟨by first | rfl | trivial, ad, c, sz, by rw [e1], by omega, ?_, ?_⟩)
              · intro hne
                have : len ≠ 0 := by
                  intro e0
                  apply hne
                  apply List.eq_nil_of_length_eq_zero
                  omega
                rw [ha (by omega)]
              · by_cases hl0 : len = 0
                · have : es = [] := by apply List.eq_nil_of_length_eq_zero; omega
                  subst this
                  simp [PRelE]
                · rw [ha (by omega)]
                  exact e2
            · cases h
          · cases h
        · cases h
      · cases h
    case func => cases h
    case yield => cases h
    case map => cases h

/-! ### rows that are not known any more -/
def Ghost.killAll (g : Ghost) (S : List Nat) (ro : Nat → Prop) : Ghost := { st := fun r => if S.contains r then .dead else g.st r, ro := ro }

theorem delAll_get (S : List Nat) : ∀ (σ : AMem) (r : Nat), (delAll σ S).get r = (if S.contains r then none else σ.get r) ∧ (delAll σ S).next = σ.next := by
  induction S with
  | nil => intro σ r; simp [delAll]
  | cons s S ih =>
    intro σ r
    obtain ⟨h1, h2⟩ := ih (σ.del s) r
    refine ⟨?_, by rw [delAll, h2]; rfl⟩
    rw [delAll, h1, AMem.get_del]
    by_cases e : s = r
    · subst e; simp
    · have : (r == s) = false := by simp; exact Ne.symm e
      have hne : r ≠ s := Ne.symm e
      simp [hne, e]

/-! ### calls -/
/-- What the abstract call says of the model's. -/
def CallOk (A : AProg) (P : Program) (call : CallA) : Prop :=
  ∀ (fv : AVal) (args : List AVal) (σ : AMem) (v : AVal) (σ' : AMem), call fv args σ = some (v, σ') →
    ∀ (n : Nat) (g : Ghost) (w : World) (fx : Value) (argx : Array Value), Sim A g σ w → Rel g w fv fx → RelL g w args argx.toList →
      Invoked n P fx argx w (fun x w' => ∃ g', Sim A g' σ' w' ∧ Trans g σ w g' σ' w' ∧ Rel g' w' v x)

theorem Sim.ofEmpty {A : AProg} {w : World} {ro : Nat → Prop} (hro : ∀ b, ro b → b < w.heap.size) (hg : ∀ k cs, A.glob k = some cs → PAtL w ro k 0 cs) : Sim A { st := fun _ => .none, ro := ro } AMem.empty w :=
  ⟨fun r p hr => (by cases hr), fun r s p q hr => (by cases hr), fun r p hr => (by cases hr), fun b hb => hro b hb, fun r _ => ⟨rfl, rfl⟩, fun r hr => (by cases hr), hg⟩

/-- WHAT THE MACHINE SAYS OF A CALL FROM THE EMPTY MEMORY. -/
theorem pureRun_ok {call : CallA} (hcall : CallOk A P call) {f : Nat} {args : List AVal} {v : AVal} {fresh : Bool} (h : pureRun call (.func f [] []) args = some (v, fresh)) : MemoOk P A.glob f args v fresh := by
  intro n w ro argx hro hg har
  unfold pureRun at h
  split at h
  · cases h
  · rename_i u σ1 hc
    have hs0 := Sim.ofEmpty (A := A) hro hg
    have hf0 : Rel { st := fun _ => .none, ro := ro } w (.func f [] []) (.func (.func f) #[] #[]) := by simp only [Rel, RelL]; exact ⟨[], [], rfl, rfl, rfl⟩
    refine (hcall _ args AMem.empty u σ1 hc n _ w _ argx hs0 hf0 (PRelL.rel args _ har)).mono ?_
    rintro x w' ⟨g1, hs1, ht1, hr1⟩
    have hold : ∀ b, b < w.heap.size → w'.heap[b]? = w.heap[b]? := fun b hb => ht1.frame b hb (fun r p hr => by cases hr)
    have hnew : ∀ r p, g1.st r = .live p → w.heap.size ≤ p.block := by
      intro r p hr
      rcases ht1.new r p hr with h1 | h1 | ⟨s, q, h1, _⟩
      · cases h1
      · exact h1
      · cases h1
    refine ⟨ht1.os, ht1.tape, ht1.output, ht1.size, hold, ?_⟩
    split at h
    · rename_i v' seen1 hsnap
      cases h
      obtain ⟨hp1, _⟩ := snapF_ok (fr := true) (ro := fun _ => False) (fun h => by cases h) hs1 snapDepth u v seen1 x hsnap hr1
      refine ⟨_, fun b hb => ?_, fun b hb => ?_, hp1⟩
      · rcases hb with h1 | ⟨r, p, _, hp, rfl⟩
        · exact h1.elim
        · exact hs1.block_lt hp
      · rcases hb with h1 | ⟨r, p, _, hp, rfl⟩
        · exact h1.elim
        · exact .inr (hnew r p hp)
    · split at h
      · rename_i v' seen1 hsnap
        cases h
        obtain ⟨hp1, _⟩ := snapF_ok (fr := false) (ro := g1.ro) (fun _ => rfl) hs1 snapDepth u v seen1 x hsnap hr1
        refine ⟨_, fun b hb => ?_, fun b hb => ?_, hp1⟩
        · rcases hb with h1 | ⟨r, p, _, hp, rfl⟩
          · exact hs1.rolt b h1
          · exact hs1.block_lt hp
        · rcases hb with h1 | ⟨r, p, _, hp, rfl⟩
          · rcases ht1.ronew b h1 with h2 | h2 | ⟨s, q, h2, _⟩
            · exact .inl ⟨rfl, h2⟩
            · exact .inr h2
            · cases h2
          · exact .inr (hnew r p hp)
      · cases h

theorem memoRun_ok (hA : AOk P A) {call : CallA} (hcall : CallOk A P call) {f : Nat} {args : List AVal} {v : AVal} {fresh : Bool} (h : memoRun A call (.func f [] []) args = some (v, fresh)) : MemoOk P A.glob f args v fresh := by
  unfold memoRun at h
  simp only [isFn] at h
  split at h
  · rename_i r hr
    cases h
    exact hA.memo _ _ _ _ hr
  · exact pureRun_ok hcall h

/-- A call whose arguments and results are values without references. -/
theorem pureCall_ok (hA : AOk P A) {call : CallA} (hcall : CallOk A P call) {f : AVal} {args : List AVal} {σ σ' : AMem} {v : AVal} (h : pureCall A call f args σ = some (v, σ')) (hf : ∃ k, isFn f = some k) :
    ∀ (n : Nat) (g : Ghost) (w : World) (fx : Value) (argx : Array Value), Sim A g σ w → Rel g w f fx → RelL g w args argx.toList →
      Invoked n P fx argx w (fun x w' => ∃ g', Sim A g' σ' w' ∧ Trans g σ w g' σ' w' ∧ Rel g' w' v x) := by
  intro n g w fx argx hs hfr har
  have hff : ∃ k, f = .func k [] [] := by
    obtain ⟨k, hk⟩ := hf
    unfold isFn at hk
    split at hk
    · exact ⟨_, rfl⟩
    · cases hk
  obtain ⟨k, rfl⟩ := hff
  have hfx : fx = .func (.func k) #[] #[] := by
    simp only [Rel, RelL] at hfr
    obtain ⟨l, m, h1, h2, h3⟩ := hfr
    rw [h1, h2, h3]
  subst hfx
  unfold pureCall at h
  split at h
  · cases h
  · rename_i args' seen hsnap
    split at h
    · cases h
    · rename_i u fresh hc
      cases h
      obtain ⟨hargs, hseen⟩ := snapL_ok (snapF_ok (fr := false) (ro := g.ro) (fun _ => rfl) hs snapDepth) args args' seen argx.toList hsnap har
      have hrolt : ∀ b, roSeen g.ro g seen b → b < w.heap.size := by
        intro b hb
        rcases hb with h1 | ⟨r, p, _, hp, rfl⟩
        · exact hs.rolt b h1
        · exact hs.block_lt hp
      refine (memoRun_ok hA hcall hc n w (roSeen g.ro g seen) argx hrolt (fun k cs h => PAtL.mono ⟨fun b hb => .inl hb, fun _ _ => rfl⟩ _ _ _ (hs.glob k cs h)) hargs).mono ?_
      rintro x w' ⟨hos, htape, hout, hsize, hold, ro1, hro1lt, hro1, hp1⟩
      cases fresh with
      | true =>
        let g2 : Ghost := { st := g.st, ro := fun b => g.ro b ∨ ro1 b }
        have hst : Stays w w' g.ro g2.ro := ⟨fun b hb => .inl hb, fun b hb => hold b (hs.rolt b hb)⟩
        have hle : GLe g g2 := ⟨fun r p h => .inl h, fun r h => h⟩
        have hnew1 : ∀ b, ro1 b → w.heap.size ≤ b := fun b hb => by
          rcases hro1 b hb with ⟨h, _⟩ | h
          · cases h
          · exact h
        refine ⟨g2, ?_, ?_, PRel.rel (g := g2) _ _ (hp1.more fun b hb => .inr hb)⟩
        · refine ⟨fun r p hr => let ⟨o, h1, h2⟩ := hs.obj r p hr; ⟨o, h1, h2.mono (hold _ h2.block_lt) hle hst⟩, hs.inj, fun r p hr hb => ?_, fun b hb => ?_, hs.fresh, hs.dead, fun k cs h => PAtL.mono hst _ _ _ (hs.glob k cs h)⟩
          · rcases hb with hb | hb
            · exact hs.ro r p hr hb
            · have := hs.block_lt (A := A) (r := r) (p := p) hr
              have := hnew1 _ hb
              omega
          · rcases hb with hb | hb
            · exact Nat.lt_of_lt_of_le (hs.rolt b hb) hsize
            · exact hro1lt b hb
        · refine ⟨hos, htape, hout, hsize, fun b hb _ => hold b hb, hle, fun r _ h => ⟨h, rfl⟩, fun r p h => .inl h, fun _ h => .inl h, fun b hb => ?_, Nat.le_refl _, fun b l hb => ⟨l, (hold b (Array.getElem?_eq_some_iff.1 hb).1).trans hb⟩⟩
          rcases hb with hb | hb
          · exact .inl hb
          · exact .inr (.inl (hnew1 b hb))
      | false =>
        simp only [Bool.false_eq_true, if_false]
        let ro2 : Nat → Prop := fun b => roSeen g.ro g seen b ∨ ro1 b
        let g2 : Ghost := g.killAll seen ro2
        have hle : GLe g g2 := by
          refine ⟨fun r p hr => ?_, fun r hr => ?_⟩
          · by_cases e : seen.contains r = true
            · exact .inr (by simp only [g2, Ghost.killAll, e, if_true])
            · refine .inl ?_
              simp only [g2, Ghost.killAll]
              rw [if_neg e]; exact hr
          · by_cases e : seen.contains r = true
            · simp only [g2, Ghost.killAll, e, if_true]
            · simp only [g2, Ghost.killAll]
              rw [if_neg e]; exact hr
        have hlive : ∀ r p, g2.st r = .live p → g.st r = .live p ∧ seen.contains r = false := by
          intro r p hr
          simp only [g2, Ghost.killAll] at hr
          by_cases e : seen.contains r = true
          · rw [if_pos e] at hr; cases hr
          · rw [if_neg e] at hr; exact ⟨hr, by simpa using e⟩
        have hst : Stays w w' g.ro ro2 := ⟨fun b hb => .inl (.inl hb), fun b hb => hold b (hs.rolt b hb)⟩
        have hro2 : ∀ b, ro2 b → roSeen g.ro g seen b ∨ w.heap.size ≤ b := by
          intro b hb
          rcases hb with hb | hb
          · exact .inl hb
          · rcases hro1 b hb with ⟨_, h⟩ | h
            · exact .inl h
            · exact .inr h
        refine ⟨g2, ⟨?_, ?_, ?_, ?_, ?_, ?_, fun k cs h => PAtL.mono hst _ _ _ (hs.glob k cs h)⟩, ?_, ?_⟩
        · intro r p hr
          obtain ⟨h1, h2⟩ := hlive r p hr
          obtain ⟨o, h3, h4⟩ := hs.obj r p h1
          refine ⟨o, ?_, h4.mono (hold _ h4.block_lt) hle hst⟩
          rw [(delAll_get seen σ r).1, h2]
          exact h3
        · intro r s p q hr hs' hb
          exact hs.inj r s p q (hlive r p hr).1 (hlive s q hs').1 hb
        · intro r p hr hb
          obtain ⟨h1, h2⟩ := hlive r p hr
          have hlt := hs.block_lt h1
          rcases hro2 _ hb with hb | hb
          · rcases hb with hb | ⟨s, q, hs', hq, hqb⟩
            · exact hs.ro r p h1 hb
            · have := hs.inj r s p q h1 hq hqb.symm
              subst this
              have : seen.contains r = true := by simpa using hs'
              rw [h2] at this; cases this
          · omega
        · intro b hb
          rcases hb with hb | hb
          · exact Nat.lt_of_lt_of_le (hrolt b hb) hsize
          · exact hro1lt b hb
        · intro r hr
          rw [(delAll_get seen σ 0).2] at hr
          obtain ⟨h1, h2⟩ := hs.fresh r hr
          have hns : seen.contains r = false := by
            cases hc : seen.contains r with
            | false => rfl
            | true =>
              obtain ⟨p, hp⟩ := hseen r (by simpa using hc)
              rw [h1] at hp; cases hp
          refine ⟨?_, by rw [(delAll_get seen σ r).1, hns]; exact h2⟩
          simp only [g2, Ghost.killAll, hns, Bool.false_eq_true, if_false]
          exact h1
        · intro r hr
          rw [(delAll_get seen σ r).1]
          cases hc : seen.contains r with
          | true => simp
          | false =>
            simp only [Bool.false_eq_true, if_false]
            simp only [g2, Ghost.killAll, hc, Bool.false_eq_true, if_false] at hr
            exact hs.dead r hr
        · refine ⟨hos, htape, hout, hsize, fun b hb _ => hold b hb, hle, fun r hr hn => ?_, fun r p h => .inl (hlive r p h).1, fun b hb => .inl (.inl hb), ?_, (by rw [(delAll_get seen σ 0).2]; exact Nat.le_refl _), fun b l hb => ⟨l, (hold b (Array.getElem?_eq_some_iff.1 hb).1).trans hb⟩⟩
          have hns : seen.contains r = false := by
            cases hc : seen.contains r with
            | false => rfl
            | true =>
              obtain ⟨p, hp⟩ := hseen r (by simpa using hc)
              rw [hn] at hp; cases hp
          refine ⟨?_, by rw [(delAll_get seen σ r).1, hns]; rfl⟩
          · simp only [g2, Ghost.killAll, hns, Bool.false_eq_true, if_false]
            exact hn
          · intro b hb
            rcases hro2 b hb with (hb | ⟨r, p, _, hp, rfl⟩) | hb
            · exact .inl hb
            · exact .inr (.inr ⟨r, p, hp, rfl⟩)
            · exact .inr (.inl hb)
        · exact PRel.rel (g := g2) _ _ (hp1.more fun b hb => .inr hb)

end Go.Proofs.YtjckhhkhgjbpaaaGreatDoor.Pale
