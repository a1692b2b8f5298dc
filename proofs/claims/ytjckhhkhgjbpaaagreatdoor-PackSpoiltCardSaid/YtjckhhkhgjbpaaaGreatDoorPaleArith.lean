/- The abstract machine against the model: arithmetic, comparisons. -/
import Derived.Test.YtjckhhkhgjbpaaaGreatDoorPalePure
set_option linter.unusedVariables false
set_option linter.unusedSimpArgs false
namespace Go.Proofs.YtjckhhkhgjbpaaaGreatDoor.Pale
open Go

variable {A : AProg} {P : Program}

theorem eqGuard_none {op : BinOp} {t : Nat} {xo yo : Operand} {a b : Value} {w : World} (h1 : a ≠ .nilIface) (h2 : ∀ cs, a ≠ .agg cs) : (eqGuard op t xo yo a b).run P w = .ok () w := by
  cases a <;> first
    | exact absurd rfl h1
    | exact absurd rfl (h2 _)
    | (unfold eqGuard; split <;> simp)

/-- The value of a scalar. -/
def scV : AVal → Value
  | .bool b => .bool b
  | .int k n => .int k n
  | .str s => .string ⟨s.toArray⟩
  | _ => undef

theorem abinInt_sound {op : BinOp} {k : IntKind} {a b : Int} {t : Nat} {v : AVal} {g : Ghost} {w : World} (h : abinInt op k a b = some v) : (binOp op t (.int k a) (.int k b)).run P w = .ok (scV v) w ∧ Rel g w v (scV v) := by
  cases op <;> simp only [abinInt] at h
  case quo =>
    split at h
    · cases h
    · rename_i hb
      cases h
      exact ⟨by simp [binOp, Op.intDiv, hb, scV], by simp [Rel, scV]⟩
  case rem =>
    split at h
    · cases h
    · rename_i hb
      cases h
      exact ⟨by simp [binOp, Op.intDiv, hb, scV], by simp [Rel, scV]⟩
  all_goals first | (cases h; done) | (cases h; exact ⟨by simp [binOp, Op.intArith, Op.intBits, Op.intCmp, scV], by simp [Rel, scV]⟩)

theorem ba_toList (l : List UInt8) : (⟨l.toArray⟩ : ByteArray).toList = l := by
  rw [ByteArray.toList_eq]

theorem abinStr_sound {op : BinOp} {a b : List UInt8} {t : Nat} {v : AVal} {g : Ghost} {w : World} (h : abinStr op a b = some v) : (binOp op t (.string ⟨a.toArray⟩) (.string ⟨b.toArray⟩)).run P w = .ok (scV v) w ∧ Rel g w v (scV v) := by
  cases op <;> simp only [abinStr] at h
  all_goals first | (cases h; done) | (cases h; exact ⟨by simp [binOp, Op.stringOp, ba_toList, scV], by simp [Rel, scV]⟩)

theorem vs_cases {g : Ghost} {w : World} {k : VK} {es : List AVal} {x : Value} (h : Rel g w (.vs k es) x) : (k = .nil ∧ es = [] ∧ x = .slice none 0 0) ∨ (k ≠ .nil ∧ ∃ a c, x = .slice (some a) es.length c) := by
  simp only [Rel, PRel] at h
  rcases h with h | ⟨hk, he, a, h⟩ | ⟨hk, a, c, s, h, _⟩
  · exact .inl h
  · subst hk; subst he; exact .inr ⟨by simp, a, 0, by simpa using h⟩
  · subst hk; exact .inr ⟨by simp, a, c, h⟩
theorem vptr_cases {g : Ghost} {w : World} {u : AVal} {x : Value} (h : Rel g w (.vptr u) x) : ∃ a, x = .pointer (some a) := by
  simp only [Rel] at h
  by_cases hu : ∃ cs, u = .agg cs
  · obtain ⟨cs, rfl⟩ := hu
    simp only [PRel] at h
    obtain ⟨b, o, h, _⟩ := h
    exact ⟨_, h⟩
  · obtain ⟨b, o, y, h, _⟩ := vptr_scalar (fun cs e => hu ⟨cs, e⟩) h
    exact ⟨_, h⟩

theorem equal_step (t : Nat) (x y : Value) : Op.equal t x y = Op.equalIn (9999 + 1) t x y := rfl

theorem forIn_ret {α : Type} {P : Program} {w : World} (F : α → Option Bool × Unit → Sem (ForInStep (Option Bool × Unit))) (r : α → Bool) : ∀ (l : List α), (∀ i ∈ l, ∀ s, (F i s).run P w = .ok (if r i then ForInStep.yield (none, ()) else ForInStep.done (some false, ())) w) →
    (forIn (m := Sem) l ((none, ()) : Option Bool × Unit) F).run P w = .ok (if l.all r then (none, ()) else (some false, ())) w := by
  intro l
  induction l with
  | nil => intro h; simp
  | cons i l ih =>
    intro h
    have h1 := h i (by simp) (none, ())
    have h2 := ih (fun j hj => h j (by simp [hj]))
    by_cases hr : r i = true
    · rw [hr] at h1
      simp only [List.forIn_cons, Sem.run_bind, h1, Result.andThen, List.all_cons, hr, Bool.true_and, if_true]
      exact h2
    · have hr' : r i = false := by simpa using hr
      rw [hr'] at h1
      simp [List.forIn_cons, Sem.run_bind, h1, Result.andThen, List.all_cons, hr']

theorem eqInts_all {g : Ghost} {w : World} : ∀ (a b : List AVal) (l m : List Value) (r : Bool), eqInts a b = some r → RelL g w a l → RelL g w b m → ∃ (k : Nat → IntKind) (p q : Nat → Int), a.length = b.length ∧ (∀ i, i < a.length → l[i]? = some (.int (k i) (p i)) ∧ m[i]? = some (.int (k i) (q i))) ∧ (r = true ↔ ∀ i, i < a.length → p i = q i) := by
  intro a
  induction a with
  | nil =>
    intro b l m r h h1 h2
    cases b with
    | nil => simp [eqInts] at h; subst h; exact ⟨fun _ => .i64, fun _ => 0, fun _ => 0, rfl, by simp, by simp⟩
    | cons => simp [eqInts] at h
  | cons x a ih =>
    intro b l m r h h1 h2
    cases b with
    | nil => simp [eqInts] at h
    | cons y b =>
      cases x <;> cases y <;> simp only [eqInts] at h <;> try (cases h; done)
      rename_i j c k d
      split at h
      · rename_i hjk
        subst hjk
        cases hr : eqInts a b with
        | none => simp [hr] at h
        | some r' =>
          simp [hr] at h
          simp only [RelL] at h1 h2
          obtain ⟨x, xs, rfl, hx, hxs⟩ := h1
          obtain ⟨y, ys, rfl, hy, hys⟩ := h2
          simp only [Rel] at hx hy
          subst hx; subst hy
          obtain ⟨kk, p, q, hl, hi, hrr⟩ := ih b xs ys r' hr hxs hys
          refine ⟨fun i => if i = 0 then j else kk (i - 1), fun i => if i = 0 then c else p (i - 1), fun i => if i = 0 then d else q (i - 1), by simp [hl], ?_, ?_⟩
          · intro i hlt
            cases i with
            | zero => simp
            | succ i => simp at hlt; simpa using hi i hlt
          · subst h
            rw [Bool.and_eq_true, hrr, beq_iff_eq]
            constructor
            · rintro ⟨h0, hall⟩ i hlt
              cases i with
              | zero => simpa using h0
              | succ i => simp at hlt; simpa using hall i hlt
            · intro hall
              exact ⟨by simpa using hall 0 (by simp), fun i hlt => by simpa using hall (i + 1) (by simpa using hlt)⟩
      · cases h

theorem eqBools_all {g : Ghost} {w : World} : ∀ (a b : List AVal) (l m : List Value) (r : Bool), eqBools a b = some r → RelL g w a l → RelL g w b m → ∃ (p q : Nat → Bool), a.length = b.length ∧ (∀ i, i < a.length → l[i]? = some (.bool (p i)) ∧ m[i]? = some (.bool (q i))) ∧ (r = true ↔ ∀ i, i < a.length → p i = q i) := by
  intro a
  induction a with
  | nil =>
    intro b l m r h h1 h2
    cases b with
    | nil => simp [eqBools] at h; subst h; exact ⟨fun _ => true, fun _ => true, rfl, by simp, by simp⟩
    | cons => simp [eqBools] at h
  | cons x a ih =>
    intro b l m r h h1 h2
    cases b with
    | nil => simp [eqBools] at h
    | cons y b =>
      cases x <;> cases y <;> simp only [eqBools] at h <;> try (cases h; done)
      rename_i c d
      · cases hr : eqBools a b with
        | none => simp [hr] at h
        | some r' =>
          simp [hr] at h
          simp only [RelL] at h1 h2
          obtain ⟨x, xs, rfl, hx, hxs⟩ := h1
          obtain ⟨y, ys, rfl, hy, hys⟩ := h2
          simp only [Rel] at hx hy
          subst hx; subst hy
          obtain ⟨p, q, hl, hi, hrr⟩ := ih b xs ys r' hr hxs hys
          refine ⟨fun i => if i = 0 then c else p (i - 1), fun i => if i = 0 then d else q (i - 1), by simp [hl], ?_, ?_⟩
          · intro i hlt
            cases i with
            | zero => simp
            | succ i => simp at hlt; simpa using hi i hlt
          · subst h
            rw [Bool.and_eq_true, hrr, beq_iff_eq]
            constructor
            · rintro ⟨h0, hall⟩ i hlt
              cases i with
              | zero => simpa using h0
              | succ i => simp at hlt; simpa using hall i hlt
            · intro hall
              exact ⟨by simpa using hall 0 (by simp), fun i hlt => by simpa using hall (i + 1) (by simpa using hlt)⟩

theorem aeq_sound {t : Nat} {i : TyI} {e : Option TyI} {x y : AVal} {a b : Value} {r : Bool} {g : Ghost} {w : World} (ht : tyOf P t = some i) (h : aeq i e x y = some r) (hna : ∀ n e, i.k ≠ .array n e) (hns : ∀ fs, i.k ≠ .struct fs) (hx : Rel g w x a) (hy : Rel g w y b) : (Op.equal t a b).run P w = .ok r w := by
  obtain ⟨d, hd, hk⟩ := ty_under ht
  rw [equal_step, Op.equalIn]
  unfold aeq at h
  split at h
  · rename_i hkk
    rw [hkk] at hk
    have := kind_bool hk
    subst this
    unfold eqBool at h
    split at h
    · cases h
      simp only [Rel] at hx hy
      subst hx; subst hy
      simp [run_under hd, Result.andThen]
    · cases h
  · rename_i e' hkk
    rw [hkk] at hk
    have := kind_slice hk
    subst this
    unfold eqNilS at h
    split at h <;> try (cases h; done)
    all_goals cases h
    · rcases vs_cases hx with ⟨_, _, rfl⟩ | ⟨h, _⟩
      · rcases vs_cases hy with ⟨_, _, rfl⟩ | ⟨h, _⟩
        · simp [run_under hd, Result.andThen]
        · exact absurd rfl h
      · exact absurd rfl h
    · rename_i hne
      rcases vs_cases hx with ⟨_, _, rfl⟩ | ⟨h, _⟩
      · rcases vs_cases hy with ⟨h, _⟩ | ⟨_, a, c, rfl⟩
        · exact absurd h (by intro h; subst h; first | exact hne | exact hne _ rfl | exact hne rfl)
        · simp [run_under hd, Result.andThen]
      · exact absurd rfl h
    · rcases vs_cases hx with ⟨_, _, rfl⟩ | ⟨h, _⟩
      · simp only [Rel] at hy
        obtain ⟨a, c, rfl, _⟩ := hy
        simp [run_under hd, Result.andThen]
      · exact absurd rfl h
    · rename_i hne
      rcases vs_cases hy with ⟨_, _, rfl⟩ | ⟨h, _⟩
      · rcases vs_cases hx with ⟨h, _⟩ | ⟨_, a, c, rfl⟩
        · exact absurd h (by intro h; subst h; first | exact hne | exact hne _ rfl | exact hne rfl)
        · simp [run_under hd, Result.andThen]
      · exact absurd rfl h
    · rcases vs_cases hy with ⟨_, _, rfl⟩ | ⟨h, _⟩
      · simp only [Rel] at hx
        obtain ⟨a, c, rfl, _⟩ := hx
        simp [run_under hd, Result.andThen]
      · exact absurd rfl h
  · rename_i hkk
    rw [hkk] at hk
    obtain ⟨e', rfl⟩ := kind_pointer hk
    unfold eqNilP at h
    split at h <;> try (cases h; done)
    all_goals cases h
    · simp only [Rel] at hx hy; subst hx; subst hy; simp [run_under hd, Result.andThen]
    · simp only [Rel] at hx hy; subst hx; obtain ⟨a, rfl, _⟩ := hy; simp [run_under hd, Result.andThen]
    · obtain ⟨a, rfl⟩ := vptr_cases hy; simp only [Rel] at hx; subst hx; simp [run_under hd, Result.andThen]
    · simp only [Rel] at hx hy; subst hy; obtain ⟨a, rfl, _⟩ := hx; simp [run_under hd, Result.andThen]
    · obtain ⟨a, rfl⟩ := vptr_cases hx; simp only [Rel] at hy; subst hy; simp [run_under hd, Result.andThen]
  · rename_i hkk
    rw [hkk] at hk
    obtain ⟨a1, a2, a3, rfl⟩ : ∃ a b c, d = .func a b c := by cases d <;> simp [kindOf] at hk; exact ⟨_, _, _, rfl⟩
    unfold eqNilF at h
    split at h <;> try (cases h; done)
    all_goals cases h
    · simp only [Rel] at hx hy; subst hx; subst hy; simp [run_under hd, Result.andThen]
    · simp only [Rel] at hx hy; subst hx; obtain ⟨a, b, rfl, _⟩ := hy; simp [run_under hd, Result.andThen]
    · simp only [Rel] at hx hy; subst hy; obtain ⟨a, b, rfl, _⟩ := hx; simp [run_under hd, Result.andThen]
  · rename_i n e' hkk
    exact absurd hkk (hna n e')
  · rename_i fs hkk
    exact absurd hkk (hns fs)
  · cases h


theorem eqGuardType_arr {t n e : Nat} {i ei : TyI} {k : IntKind} (ht : tyOf P t = some i) (hk : i.k = .array n e) (he : tyOf P e = some ei) (hek : ei.k = .int k) : P.eqGuardType P.depth t = false := by
  obtain ⟨d, hd, hdk⟩ := ty_under ht
  rw [hk] at hdk
  have := kind_array hdk
  subst this
  obtain ⟨d', hd', hdk'⟩ := ty_under he
  rw [hek] at hdk'
  have := kind_int hdk'
  subst this
  have hdep : ∃ m, P.depth = m + 2 := ⟨2 * (P.types.size + Made.depth), rfl⟩
  obtain ⟨m, hm⟩ := hdep
  rw [hm]
  simp [Program.eqGuardType, hd, hd']

theorem part_int {e : Nat} {ei : TyI} {k : IntKind} (he : tyOf P e = some ei) (hek : ei.k = .int k) (w : World) (cs : Array Value) (j : Nat) (x : Value) (hx : cs[j]? = some x) : (part e cs j).run P w = .ok x w := by
  have hagg : ei.isAgg = false := by unfold TyI.isAgg; rw [hek]
  simp [part, run_isAgg he, hagg, hx, Result.andThen]

theorem equalIn_int {e : Nat} {ei : TyI} {k k' : IntKind} (he : tyOf P e = some ei) (hek : ei.k = .int k) (d : Nat) (a b : Int) (w : World) : (Op.equalIn (d + 1) e (.int k' a) (.int k' b)).run P w = .ok (a == b) w := by
  obtain ⟨d', hd', hdk'⟩ := ty_under he
  rw [hek] at hdk'
  have := kind_int hdk'
  subst this
  rw [Op.equalIn]
  simp [run_under hd', Result.andThen]

theorem eqGuardType_arrB {t n e : Nat} {i ei : TyI} (ht : tyOf P t = some i) (hk : i.k = .array n e) (he : tyOf P e = some ei) (hek : ei.k = .bool) : P.eqGuardType P.depth t = false := by
  obtain ⟨d, hd, hdk⟩ := ty_under ht
  rw [hk] at hdk
  have := kind_array hdk
  subst this
  obtain ⟨d', hd', hdk'⟩ := ty_under he
  rw [hek] at hdk'
  have := kind_bool hdk'
  subst this
  have hdep : ∃ m, P.depth = m + 2 := ⟨2 * (P.types.size + Made.depth), rfl⟩
  obtain ⟨m, hm⟩ := hdep
  rw [hm]
  simp [Program.eqGuardType, hd, hd']

theorem part_bool {e : Nat} {ei : TyI} (he : tyOf P e = some ei) (hek : ei.k = .bool) (w : World) (cs : Array Value) (j : Nat) (x : Value) (hx : cs[j]? = some x) : (part e cs j).run P w = .ok x w := by
  have hagg : ei.isAgg = false := by unfold TyI.isAgg; rw [hek]
  simp [part, run_isAgg he, hagg, hx, Result.andThen]

theorem equalIn_bool {e : Nat} {ei : TyI} (he : tyOf P e = some ei) (hek : ei.k = .bool) (d : Nat) (a b : Bool) (w : World) : (Op.equalIn (d + 1) e (.bool a) (.bool b)).run P w = .ok (a == b) w := by
  obtain ⟨d', hd', hdk'⟩ := ty_under he
  rw [hek] at hdk'
  have := kind_bool hdk'
  subst this
  rw [Op.equalIn]
  simp [run_under hd', Result.andThen]

theorem aeq_arr_sound {t n e : Nat} {i ei : TyI} {x y : AVal} {a b : Value} {r : Bool} {g : Ghost} {w : World} (ht : tyOf P t = some i) (hk : i.k = .array n e) (he : tyOf P e = some ei) (h : aeq i (some ei) x y = some r) (hx : Rel g w x a) (hy : Rel g w y b) :
    (Op.equal t a b).run P w = .ok r w ∧ ∀ op xo yo, (eqGuard op t xo yo a b).run P w = .ok () w := by
  unfold aeq at h
  rw [hk] at h
  simp only at h
  split at h
  · rename_i k hek
    split at h
    · rename_i hsz
      unfold eqAggI at h
      split at h
      · rename_i as bs
        split at h
        · rename_i hlen
          simp only [Rel] at hx hy
          obtain ⟨l, rfl, hl⟩ := hx
          obtain ⟨m, rfl, hm⟩ := hy
          obtain ⟨kk, p, q, hl2, hi, hr⟩ := eqInts_all as bs l m r h hl hm
          constructor
          · obtain ⟨d, hd, hdk⟩ := ty_under ht
            rw [hk] at hdk
            have := kind_array hdk
            subst this
            rw [equal_step, Op.equalIn]
            have hall : (List.range' 0 n 1).all (fun j => p j == q j) = r := by
              rw [Bool.eq_iff_iff, hr, List.all_eq_true]
              constructor
              · intro ha j hj
                simpa using ha j (by simp; omega)
              · intro ha j hj
                simp at hj
                simpa using ha j (by omega)
            simp only [Sem.run_bind, run_under hd, Result.andThen, run_size he, Std.Legacy.Range.forIn_eq_forIn_range', Std.Legacy.Range.size, Nat.sub_zero, Nat.add_sub_cancel, Nat.div_one]
            rw [forIn_ret _ (fun j => p j == q j) (List.range' 0 n 1) ?hstep, hall]
            · cases r <;> rfl
            case hstep =>
              intro j hj s
              have hlt : j < n := by simp at hj; omega
              obtain ⟨h1, h2⟩ := hi j (by omega)
              have e1 := part_int he hek w l.toArray (j * ei.size) (.int (kk j) (p j)) (by rw [hsz, Nat.mul_one]; simpa using h1)
              have e2 := part_int he hek w m.toArray (j * ei.size) (.int (kk j) (q j)) (by rw [hsz, Nat.mul_one]; simpa using h2)
              have e3 := equalIn_int (k' := kk j) he hek 9998 (p j) (q j) w
              simp only [Sem.run_bind, e1, e2, Result.andThen, e3]
              cases (p j == q j) <;> rfl
          · intro op xo yo
            have hg := eqGuardType_arr ht hk he hek
            unfold eqGuard
            split
            all_goals first
              | (simp; done)
              | (simp [program, Sem.run]; intro h; rw [hg] at h; cases h)
        · cases h
      · cases h
    · cases h
  · rename_i hek
    split at h
    · rename_i hsz
      unfold eqAggB at h
      split at h
      · rename_i as bs
        split at h
        · rename_i hlen
          simp only [Rel] at hx hy
          obtain ⟨l, rfl, hl⟩ := hx
          obtain ⟨m, rfl, hm⟩ := hy
          obtain ⟨p, q, hl2, hi, hr⟩ := eqBools_all as bs l m r h hl hm
          constructor
          · obtain ⟨d, hd, hdk⟩ := ty_under ht
            rw [hk] at hdk
            have := kind_array hdk
            subst this
            rw [equal_step, Op.equalIn]
            have hall : (List.range' 0 n 1).all (fun j => p j == q j) = r := by
              rw [Bool.eq_iff_iff, hr, List.all_eq_true]
              constructor
              · intro ha j hj
                simpa using ha j (by simp; omega)
              · intro ha j hj
                simp at hj
                simpa using ha j (by omega)
            simp only [Sem.run_bind, run_under hd, Result.andThen, run_size he, Std.Legacy.Range.forIn_eq_forIn_range', Std.Legacy.Range.size, Nat.sub_zero, Nat.add_sub_cancel, Nat.div_one]
            rw [forIn_ret _ (fun j => p j == q j) (List.range' 0 n 1) ?hstep, hall]
            · cases r <;> rfl
            case hstep =>
              intro j hj s
              have hlt : j < n := by simp at hj; omega
              obtain ⟨h1, h2⟩ := hi j (by omega)
              have e1 := part_bool he hek w l.toArray (j * ei.size) (.bool (p j)) (by rw [hsz, Nat.mul_one]; simpa using h1)
              have e2 := part_bool he hek w m.toArray (j * ei.size) (.bool (q j)) (by rw [hsz, Nat.mul_one]; simpa using h2)
              have e3 := equalIn_bool he hek 9998 (p j) (q j) w
              simp only [Sem.run_bind, e1, e2, Result.andThen, e3]
              cases (p j == q j) <;> rfl
          · intro op xo yo
            have hg := eqGuardType_arrB ht hk he hek
            unfold eqGuard
            split
            all_goals first
              | (simp; done)
              | (simp [program, Sem.run]; intro h; rw [hg] at h; cases h)
        · cases h
      · cases h
    · cases h
  · cases h

theorem aeq_struct_sound {t : Nat} {i : TyI} {fs : List (Nat × Nat)} {x y : AVal} {a b : Value} {r : Bool} {g : Ghost} {w : World} (ht : tyOf P t = some i) (hk : i.k = .struct fs) (hp : plainEq P t = true) (h : eqAggI fs.length x y = some r) (hx : Rel g w x a) (hy : Rel g w y b) :
    (Op.equal t a b).run P w = .ok r w ∧ ∀ op xo yo, (eqGuard op t xo yo a b).run P w = .ok () w := by
  unfold eqAggI at h
  split at h
  · rename_i as bs
    split at h
    · rename_i hlen
      simp only [Rel] at hx hy
      obtain ⟨l, rfl, hl⟩ := hx
      obtain ⟨m, rfl, hm⟩ := hy
      obtain ⟨kk, p, q, hl2, hi, hr⟩ := eqInts_all as bs l m r h hl hm
      obtain ⟨d, hd, hdk⟩ := ty_under ht
      rw [hk] at hdk
      unfold plainEq at hp
      rw [hd] at hp
      cases d <;> simp only [kindOf] at hdk <;> try (cases hdk; done)
      rename_i fields
      cases hdk
      simp only [Bool.and_eq_true, Bool.not_eq_true', List.all_eq_true, List.mem_range] at hp
      obtain ⟨⟨hst, hgd⟩, hall⟩ := hp
      have hf : ∀ f, f ∈ fields.toList → f.name ≠ "_" ∧ f.offset < as.length ∧ ∃ ei k, tyOf P f.type = some ei ∧ ei.k = .int k := by
        intro f hf
        obtain ⟨j, hj, rfl⟩ := List.getElem_of_mem hf
        have hj' : j < fields.size := by simpa using hj
        have := hall j hj'
        rw [Array.getElem?_eq_getElem hj'] at this
        simp only [Bool.and_eq_true, bne_iff_ne, ne_eq, beq_iff_eq] at this
        obtain ⟨⟨h1, h2⟩, h3⟩ := this
        simp only [Array.getElem_toList]
        refine ⟨h1, by rw [h2, hlen]; simpa using hj', ?_⟩
        split at h3
        · rename_i ei hei
          split at h3
          · rename_i k hkk
            exact ⟨ei, k, hei, hkk⟩
          · cases h3
        · cases h3
      have hoff : ∀ j, j < as.length → ∃ f, f ∈ fields.toList ∧ f.offset = j := by
        intro j hj
        have hj' : j < fields.size := by rw [hlen] at hj; simpa using hj
        have := hall j hj'
        rw [Array.getElem?_eq_getElem hj'] at this
        simp only [Bool.and_eq_true, bne_iff_ne, ne_eq, beq_iff_eq] at this
        exact ⟨fields[j], by simp, this.1.2⟩
      constructor
      · rw [equal_step, Op.equalIn]
        have hallr : fields.toList.all (fun f => p f.offset == q f.offset) = r := by
          rw [Bool.eq_iff_iff, hr, List.all_eq_true]
          constructor
          · intro ha j hj
            obtain ⟨f, hf1, rfl⟩ := hoff j hj
            simpa using ha f hf1
          · intro ha f hf1
            simpa using ha f.offset (hf f hf1).2.1
        simp only [Sem.run_bind, run_under hd, Result.andThen]
        have hprog : Sem.run P program w = .ok P w := rfl
        rw [hprog]
        simp only [hst, Bool.false_eq_true, if_false, Sem.run_bind, ← Array.forIn_toList]
        rw [forIn_ret _ (fun f => p f.offset == q f.offset) fields.toList ?hstep, hallr]
        · cases r <;> rfl
        case hstep =>
          intro f hf1 s
          obtain ⟨n1, n2, ei, k, n3, n4⟩ := hf f hf1
          obtain ⟨h1, h2⟩ := hi f.offset n2
          have e1 := part_int n3 n4 w l.toArray f.offset (.int (kk f.offset) (p f.offset)) (by simpa using h1)
          have e2 := part_int n3 n4 w m.toArray f.offset (.int (kk f.offset) (q f.offset)) (by simpa using h2)
          have e3 := equalIn_int (k' := kk f.offset) n3 n4 9998 (p f.offset) (q f.offset) w
          rw [if_pos n1]
          simp only [Sem.run_bind, e1, e2, Result.andThen, e3]
          cases (p f.offset == q f.offset) <;> rfl
      · intro op xo yo
        unfold eqGuard
        split
        all_goals first
          | (simp; done)
          | (simp [program, Sem.run]; intro h; rw [hgd] at h; cases h)
    · cases h
  · cases h

theorem aeq_shape {i : TyI} {e : Option TyI} {x y : AVal} {r : Bool} (hr : aeq i e x y = some r) : (∃ b, x = .bool b) ∨ (∃ k es, x = .vs k es) ∨ (∃ r o l c z, x = .slice r o l c z) ∨ x = .nilptr ∨ (∃ r o, x = .ptr r o) ∨ (∃ u, x = .vptr u) ∨ x = .nilfn ∨ (∃ f p q, x = .func f p q) ∨ (∃ cs, x = .agg cs) := by
  unfold aeq at hr
  split at hr
  · unfold eqBool at hr; split at hr <;> first | (cases hr; done) | simp
  · unfold eqNilS at hr; split at hr <;> first | (cases hr; done) | simp
  · unfold eqNilP at hr; split at hr <;> first | (cases hr; done) | simp
  · unfold eqNilF at hr; split at hr <;> first | (cases hr; done) | simp
  · split at hr
    · split at hr
      · split at hr
        · unfold eqAggI at hr; split at hr <;> first | (cases hr; done) | simp
        · cases hr
      · split at hr
        · unfold eqAggB at hr; split at hr <;> first | (cases hr; done) | simp
        · cases hr
      · cases hr
    · cases hr
  · split at hr
    · unfold eqAggI at hr; split at hr <;> first | (cases hr; done) | simp
    · cases hr
  · cases hr

theorem abin_sound {op : BinOp} {t : Nat} {x y v : AVal} {a b : Value} {xo yo : Operand} {g : Ghost} {w : World} (hA : AOk P A) (h : abin op (A.ty t) (eqTy A t) x y = some v) (hx : Rel g w x a) (hy : Rel g w y b) :
    ∃ z, (do eqGuard op t xo yo a b; binOp op t a b).run P w = .ok z w ∧ Rel g w v z := by
  unfold abin at h
  split at h
  · rename_i k n k' m
    simp only [Rel] at hx hy
    subst hx; subst hy
    have hg := eqGuard_none (P := P) (op := op) (t := t) (xo := xo) (yo := yo) (a := .int k n) (b := .int k' m) (w := w) (by simp) (by simp)
    simp only [Sem.run_bind, hg, Result.andThen]
    split at h
    · split at h
      · cases h
      · rename_i hneg
        cases h
        exact ⟨_, by simp only [binOp, Op.shift, if_neg hneg]; rfl, by simp [Rel]⟩
    · split at h
      · cases h
      · rename_i hneg
        cases h
        exact ⟨_, by simp only [binOp, Op.shift, if_neg hneg]; rfl, by simp [Rel]⟩
    · split at h
      · rename_i hk
        subst hk
        obtain ⟨h1, h2⟩ := abinInt_sound (P := P) (t := t) (g := g) (w := w) h
        exact ⟨_, h1, h2⟩
      · cases h
  · rename_i s1 s2
    simp only [Rel] at hx hy
    subst hx; subst hy
    have hg := eqGuard_none (P := P) (op := op) (t := t) (xo := xo) (yo := yo) (a := .string ⟨s1.toArray⟩) (b := .string ⟨s2.toArray⟩) (w := w) (by simp) (by simp)
    simp only [Sem.run_bind, hg, Result.andThen]
    obtain ⟨h1, h2⟩ := abinStr_sound (P := P) (t := t) (g := g) (w := w) h
    exact ⟨_, h1, h2⟩
  · rename_i hni hns
    have key : ∀ i r, A.ty t = some i → aeq i (eqTy A t) x y = some r →
        (Op.equal t a b).run P w = .ok r w ∧ (eqGuard op t xo yo a b).run P w = .ok () w ∧ (∀ k n k' m, ¬ (a = .int k n ∧ b = .int k' m)) ∧ (∀ p q, ¬ (a = .string p ∧ b = .string q)) ∧ (∀ k n, a ≠ .float k n) ∧ (∀ k n m, a ≠ .complex k n m) := by
      intro i r hi hr
      have ht := hA.ty t i hi
      have shape : (∀ k n, a ≠ .int k n) ∧ (∀ s, a ≠ .string s) ∧ (∀ k n, a ≠ .float k n) ∧ (∀ k n m, a ≠ .complex k n m) ∧ a ≠ .nilIface := by
        have := aeq_shape hr
        rcases this with ⟨b, rfl⟩ | ⟨k, es, rfl⟩ | ⟨r, o, l, c, z, rfl⟩ | rfl | ⟨r, o, rfl⟩ | ⟨u, rfl⟩ | rfl | ⟨f, p, q, rfl⟩ | ⟨cs, rfl⟩
        · simp only [Rel] at hx; subst hx; simp
        · rcases vs_cases hx with ⟨_, _, rfl⟩ | ⟨_, a, c, rfl⟩ <;> simp
        · simp only [Rel] at hx; obtain ⟨a, c, rfl, _⟩ := hx; simp
        · simp only [Rel] at hx; subst hx; simp
        · simp only [Rel] at hx; obtain ⟨a, rfl, _⟩ := hx; simp
        · obtain ⟨a, rfl⟩ := vptr_cases hx; simp
        · simp only [Rel] at hx; subst hx; simp
        · simp only [Rel] at hx; obtain ⟨a, c, rfl, _⟩ := hx; simp
        · simp only [Rel] at hx; obtain ⟨l, rfl, _⟩ := hx; simp
      obtain ⟨s1, s2, s3, s4, s5⟩ := shape
      have tail : (∀ k n k' m, ¬ (a = .int k n ∧ b = .int k' m)) ∧ (∀ p q, ¬ (a = .string p ∧ b = .string q)) ∧ (∀ k n, a ≠ .float k n) ∧ (∀ k n m, a ≠ .complex k n m) :=
        ⟨fun k n k' m h => s1 k n h.1, fun p q h => s2 p h.1, s3, s4⟩
      by_cases harr : ∃ n e, i.k = .array n e
      · obtain ⟨n, e, hk⟩ := harr
        simp only [eqTy, hi, hk] at hr
        cases he : A.ty e with
        | none => rw [he] at hr; simp [aeq, hk] at hr
        | some ei =>
          rw [he] at hr
          obtain ⟨h1, h2⟩ := aeq_arr_sound ht hk (hA.ty e ei he) hr hx hy
          exact ⟨h1, h2 op xo yo, tail⟩
      · have hna : ∀ n e, i.k ≠ .array n e := fun n e h => harr ⟨n, e, h⟩
        by_cases hstr : ∃ fs, i.k = .struct fs
        · obtain ⟨fs, hk⟩ := hstr
          simp only [eqTy, hi, hk] at hr
          by_cases he : A.eqs t = true
          · simp only [aeq, hk, if_pos he] at hr
            obtain ⟨h1, h2⟩ := aeq_struct_sound ht hk (hA.eqs t he) hr hx hy
            exact ⟨h1, h2 op xo yo, tail⟩
          · simp only [aeq, hk, if_neg he] at hr
            cases hr
        have hnst : ∀ fs, i.k ≠ .struct fs := fun fs h => hstr ⟨fs, h⟩
        refine ⟨aeq_sound ht hr hna hnst hx hy, eqGuard_none s5 ?_, tail⟩
        rintro cs rfl
        -- an aggregate is compared at an array's type alone
        cases x <;> simp only [Rel] at hx
        case agg => 
          cases hk : i.k <;> simp only [aeq, hk, eqBool, eqNilS, eqNilP, eqNilF] at hr <;> first | (cases hr; done) | exact absurd hk (hna _ _) | exact absurd hk (hnst _)
        case vs k es => rcases vs_cases (g := g) (w := w) (k := k) (es := es) (by simpa only [Rel] using hx) with ⟨_, _, h⟩ | ⟨_, _, _, h⟩ <;> cases h
        case vptr u => obtain ⟨_, h⟩ := vptr_cases (g := g) (w := w) (u := u) (by simpa only [Rel] using hx); cases h
        all_goals first | (cases hx; done) | (obtain ⟨_, h, _⟩ := hx; cases h; done) | (obtain ⟨_, _, h, _⟩ := hx; cases h; done)
    have final : ∀ r, (Op.equal t a b).run P w = .ok r w ∧ (eqGuard op t xo yo a b).run P w = .ok () w ∧ (∀ k n k' m, ¬ (a = .int k n ∧ b = .int k' m)) ∧ (∀ p q, ¬ (a = .string p ∧ b = .string q)) ∧ (∀ k n, a ≠ .float k n) ∧ (∀ k n m, a ≠ .complex k n m) →
        (op = .eql → (do eqGuard op t xo yo a b; binOp op t a b).run P w = .ok (.bool r) w) ∧ (op = .neq → (do eqGuard op t xo yo a b; binOp op t a b).run P w = .ok (.bool (!r)) w) := by
      rintro r ⟨h1, h2, h3, h4, h5, h6⟩
      constructor
      · rintro rfl
        simp only [Sem.run_bind, h2, Result.andThen]
        unfold binOp
        split <;> first
          | (simp [Sem.run_bind, h1, Result.andThen]; done)
          | (exfalso; simp_all; done)
          | skip
        all_goals (first | (exfalso; exact h3 _ _ _ _ ⟨rfl, rfl⟩) | (exfalso; exact h4 _ _ ⟨rfl, rfl⟩) | (exfalso; exact h5 _ _ rfl) | (exfalso; exact h6 _ _ _ rfl) | skip)
      · rintro rfl
        simp only [Sem.run_bind, h2, Result.andThen]
        unfold binOp
        split <;> first
          | (simp [Sem.run_bind, h1, Result.andThen]; done)
          | (exfalso; simp_all; done)
          | skip
        all_goals (first | (exfalso; exact h3 _ _ _ _ ⟨rfl, rfl⟩) | (exfalso; exact h4 _ _ ⟨rfl, rfl⟩) | (exfalso; exact h5 _ _ rfl) | (exfalso; exact h6 _ _ _ rfl) | skip)
    split at h
    · rename_i i hi
      cases hr : aeq i (eqTy A t) x y with
      | none => simp [hr] at h
      | some r =>
        simp [hr] at h
        subst h
        exact ⟨_, (final r (key i r hi hr)).1 rfl, by simp [Rel]⟩
    · rename_i i hi
      cases hr : aeq i (eqTy A t) x y with
      | none => simp [hr] at h
      | some r =>
        simp [hr] at h
        subst h
        exact ⟨_, (final r (key i r hi hr)).2 rfl, by simp [Rel]⟩
    · cases h

theorem aun_sound {op : UnOp} {x v : AVal} {a : Value} {g : Ghost} {w : World} (h : aun op x = some v) (hx : Rel g w x a) : ∃ z, (Op.unary op a).run P w = .ok z w ∧ Rel g w v z := by
  unfold aun at h
  split at h
  · cases h; simp only [Rel] at hx; subst hx; exact ⟨_, by simp [Op.unary, Op.intArith]; rfl, by simp [Rel]⟩
  · cases h; simp only [Rel] at hx; subst hx; exact ⟨_, by simp only [Op.unary, Op.intBits]; rfl, by simp [Rel]⟩
  · cases h; simp only [Rel] at hx; subst hx; exact ⟨_, by simp [Op.unary]; rfl, by simp [Rel]⟩
  · cases h

end Go.Proofs.YtjckhhkhgjbpaaaGreatDoor.Pale
