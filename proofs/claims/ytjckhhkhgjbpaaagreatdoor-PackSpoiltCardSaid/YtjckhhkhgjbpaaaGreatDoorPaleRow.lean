/- The abstract machine against the model: what a seat shows of its program, and what a row asks. -/
import Derived.Test.YtjckhhkhgjbpaaaGreatDoorPaleCall
import Derived.ProofKit
set_option linter.unusedVariables false
set_option linter.unusedSimpArgs false
namespace Go.Proofs.YtjckhhkhgjbpaaaGreatDoor.Pale
open Go Go.RowKit

/-! ### tables -/
noncomputable def Tr.ofList {α : Type} : List (Nat × α) → Tr α
  | [] => .nil
  | (n, x) :: l => (Tr.ofList l).set n x

theorem Tr.ofList_mem {α : Type} : ∀ (l : List (Nat × α)) (n : Nat) (x : α), (Tr.ofList l).get n = some x → (n, x) ∈ l := by
  intro l
  induction l with
  | nil => intro n x h; simp [Tr.ofList, Tr.get_nil] at h
  | cons a l ih =>
    obtain ⟨m, y⟩ := a
    intro n x h
    rw [Tr.ofList, Tr.get_set] at h
    split at h
    · rename_i e
      cases h
      subst e
      exact List.mem_cons_self
    · exact List.mem_cons_of_mem _ (ih n x h)

/-! ### types -/
def fsBeq : List (Nat × Nat) → List (Nat × Nat) → Bool
  | [], [] => true
  | (a, b) :: l, (c, d) :: m => Nat.beq a c && Nat.beq b d && fsBeq l m
  | _, _ => false

theorem fsBeq_eq : ∀ (l m : List (Nat × Nat)), fsBeq l m = true → l = m := by
  intro l
  induction l with
  | nil => intro m h; cases m with
    | nil => rfl
    | cons b m => simp [fsBeq] at h
  | cons a l ih => intro m h; cases m with
    | nil => simp [fsBeq] at h
    | cons b m =>
      obtain ⟨a1, a2⟩ := a
      obtain ⟨b1, b2⟩ := b
      simp only [fsBeq, Bool.and_eq_true, Nat.beq_eq] at h
      rw [h.1.1, h.1.2, ih m h.2]

def kBeq : TyK → TyK → Bool
  | .bool, .bool => true
  | .int a, .int b => decide (a = b)
  | .string, .string => true
  | .pointer, .pointer => true
  | .func, .func => true
  | .struct a, .struct b => fsBeq a b
  | .array a b, .array c d => Nat.beq a c && Nat.beq b d
  | .slice a, .slice b => Nat.beq a b
  | .map a b, .map c d => Nat.beq a c && Nat.beq b d
  | .other, .other => true
  | _, _ => false

theorem kBeq_eq (a b : TyK) (h : kBeq a b = true) : a = b := by
  cases a <;> cases b <;> simp only [kBeq, Bool.false_eq_true, Bool.and_eq_true, Nat.beq_eq, decide_eq_true_eq] at h <;> first | rfl | (obtain ⟨h1, h2⟩ := h; subst h1 h2; rfl) | (subst h; rfl) | (rw [fsBeq_eq _ _ h])

def tyB (P : Program) (x : Nat × TyI) : Bool :=
  match tyOf P x.1 with
  | some j => kBeq j.k x.2.k && Nat.beq j.size x.2.size && Nat.beq j.bytes x.2.bytes && AVal.beqL j.zero x.2.zero && Nat.beq x.2.zero.length x.2.size
  | none => false

theorem tyB_spec {P : Program} {t : Nat} {i : TyI} (h : tyB P (t, i) = true) : tyOf P t = some i ∧ i.zero.length = i.size := by
  unfold tyB at h
  split at h
  · rename_i j hj
    simp only [Bool.and_eq_true, Nat.beq_eq] at h
    obtain ⟨⟨⟨⟨h1, h2⟩, h3⟩, h4⟩, h5⟩ := h
    refine ⟨?_, h5⟩
    simp only at hj
    rw [hj]
    obtain ⟨k, s, b, z⟩ := j
    obtain ⟨k', s', b', z'⟩ := i
    simp only at h1 h2 h3 h4
    rw [kBeq_eq _ _ h1, h2, h3, AVal.beqL_eq _ _ h4]
  · cases h

/-! ### functions -/
def fnB (A : AProg) (x : Nat × Func) : Bool :=
  !(x.2.name == "runtime.NumGoroutine") && (match x.2.body with
    | some c => codeOkB A x.1 c
    | none => true)

theorem AOk.of_lists {P : Program} {A : AProg} (hm : P.follows .mixedOrders = true) (tys : List (Nat × TyI)) (fns : List (Nat × Func)) (ht : A.ty = (Tr.ofList tys).get) (hf : A.func = (Tr.ofList fns).get) (hmemo : A.memo = fun _ _ => none) (eqsL : List Nat) (heqs : A.eqs = fun t => eqsL.contains t) (h4 : eqsL.all (plainEq P) = true)
    (h1 : tys.all (tyB P) = true) (h2 : ∀ x ∈ fns, P.funcs[x.1]? = some x.2) (h3 : fns.all (fnB A) = true) : AOk P A := by
  have hT : ∀ t i, A.ty t = some i → tyOf P t = some i ∧ i.zero.length = i.size := fun t i h => by
    rw [ht] at h
    exact tyB_spec (List.all_eq_true.1 h1 _ (Tr.ofList_mem tys t i h))
  refine ⟨hm, fun t i h => (hT t i h).1, fun t i h => (hT t i h).2, fun t h => by rw [heqs] at h; exact List.all_eq_true.1 h4 t (by simpa using h), fun f fn h => ?_, fun f args v fresh h => by rw [hmemo] at h; cases h⟩
  rw [hf] at h
  have hmem := Tr.ofList_mem fns f fn h
  have hb := List.all_eq_true.1 h3 _ hmem
  simp only [fnB, Bool.and_eq_true, Bool.not_eq_true'] at hb
  refine ⟨h2 _ hmem, hb.1, fun c hc => ?_⟩
  have := hb.2
  rw [hc] at this
  exact this

/-! ### closed laws -/
def isTrue : Option (AVal × AMem) → Bool
  | some (.bool true, _) => true
  | _ => false

theorem closed_true {P : Program} {A : AProg} (hA : AOk P A) {k f : Nat} (h : isTrue (callN A k (.func f [] []) [] AMem.empty) = true) (w : World) (ro : Nat → Prop) (hro : ∀ b, ro b → b < w.heap.size) (hg : ∀ k cs, A.glob k = some cs → PAtL w ro k 0 cs) :
    Calls P f #[] w fun e w' => e = .returned (.bool true) ∧ Below w.heap.size w w' := by
  unfold isTrue at h
  split at h
  · rename_i σ hc
    refine (calls_of_callN hA hc (w := w) (ro := ro) hro hg (xs := #[]) (by simp [PRelL])).mono ?_
    rintro e w' ⟨x, rfl, h1, h2, h3, h4, h5, g', _, hr⟩
    simp only [Rel] at hr
    subst hr
    exact ⟨rfl, h1, h2, h3, h4, h5⟩
  · cases h

/-! ### what a row asks -/
open Go.ChangeShapes in
theorem post_of_below {H : Type} {enc : TypeId × Value → H} {P : Program} {f : Func} {s : ChangeSpec} {apart fresh handsOn again : Bool} {W W' : World} {args : Array Value} {v : Value} {ds gs : List (DataW H)} {before pa pv : List MemPlace}
    (hW : DataW.Whole enc P f.params.toList s.vars apart W args.toList ds gs before)
    (hres : ∀ (b : Nat) (sp : Nat → Bool) (hd : Bool), DataW.TrodAll enc P W' b sp hd f.resultTypes.toList (v.resultList f.resultTypes.size) (s.fn H (ds ++ gs)).results [])
    (hargs : ∀ sp : Nat → Bool, (∀ p ∈ before, sp p.block = true) → DataW.TrodAll enc P W' 0 sp true f.params.toList args.toList (s.fn H (ds ++ gs)).args pa)
    (hvars : ∀ sp : Nat → Bool, (∀ p ∈ before, sp p.block = true) → DataW.TrodVars enc P W' sp s.vars (s.fn H (ds ++ gs)).vars pv)
    (hps : before = pa ++ pv) (hb : Below W.heap.size W W')
    (hok : ∀ (j : Nat) (t : TypeId) (r : Value), f.resultTypes[j]? = some t → (v.resultList f.resultTypes.size)[j]? = some r → Value.okWide P W' .any 0 t r) :
    s.post enc P f apart fresh handsOn again W args v W' := by
  have hold : ∀ p ∈ before, (fun b => decide (b < W.heap.size)) p.block = true := fun p hp => by simpa using hW.lt p hp
  refine ⟨ds, gs, before, [], pa, pv, hW, hres _ _ _, hargs _ hold, hvars _ hold, World.keptBut_mono (fun p hp => ⟨hp, ?_⟩) (hb.frame (· ∈ before)), fun _ => ?_⟩
  · rw [hps, List.mem_append] at hp
    exact Or.inr hp
  · have hlt := hW.lt
    obtain ⟨_, _, _, _, _, hz, hn⟩ := hW
    refine ⟨hok, _, _, ([] ++ pa) ++ pv, ⟨[] ++ pa, pv, trodAll_append (hargs _ (fun _ _ => rfl)) (hres _ _ _), hvars _ (fun _ _ => rfl), rfl, ?_, ?_⟩, ?_⟩
    · intro b off hp
      have hp' : MemPlace.cell b off ∈ before := by rw [hps]; simpa using hp
      rw [hb.frozen (hlt _ hp')]
      exact hz b off hp'
    · intro ha
      have := hn ha
      rw [hps] at this
      simpa using this
    · intro p hp _
      rw [hps]
      simpa using hp

end Go.Proofs.YtjckhhkhgjbpaaaGreatDoor.Pale
