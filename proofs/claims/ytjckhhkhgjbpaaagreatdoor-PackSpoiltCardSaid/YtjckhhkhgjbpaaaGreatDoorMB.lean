import Derived.Test.YtjckhhkhgjbpaaaGreatDoorPaleList
import Derived.Test.YtjckhhkhgjbpaaaGreatDoorMA
import Derived.Test.YtjckhhkhgjbpaaaGreatDoorPaleGrow
open Nat renaming reduceLT → zLt, reduceLeDiff → zLe, reduceEqDiff → zEq, reduceAdd → zAd, reduceMul → zMu, reduceSub → zSu, reduceBEq → zBe
open Int renaming reduceEq → yEq, reduceLT → yLt, reduceLE → yLe, reduceToNat → yTn
/- Elements of lattices, shapes, as values: no program in sight. -/
set_option maxRecDepth 100000
set_option linter.unusedSimpArgs false
set_option linter.unusedVariables false
namespace Go.Proofs.YtjckhhkhgjbpaaaGreatDoor
open Go Go.Proofs.YtjckhhkhgjbpaaaGreatDoor.Pale

/-- An element: its kind, its number, its keys, its kids; and which of the lists are nil. -/
inductive El where
  | mk (kind n : Int) (kk : VK) (keys : List Int) (dk : VK) (kids : List El)
  deriving Inhabited
def El.kind : El → Int | .mk a _ _ _ _ _ => a
def El.n : El → Int | .mk _ a _ _ _ _ => a
def El.kk : El → VK | .mk _ _ a _ _ _ => a
def El.keys : El → List Int | .mk _ _ _ a _ _ => a
def El.dk : El → VK | .mk _ _ _ _ a _ => a
def El.kids : El → List El | .mk _ _ _ _ _ a => a
/-- A shape: its kind, its name, its kids. -/
inductive Shp where
  | mk (kind : Int) (name : List UInt8) (dk : VK) (kids : List Shp)
  deriving Inhabited
def Shp.kind : Shp → Int | .mk a _ _ _ => a
def Shp.name : Shp → List UInt8 | .mk _ a _ _ => a
def Shp.dk : Shp → VK | .mk _ _ a _ => a
def Shp.kids : Shp → List Shp | .mk _ _ _ a => a

def intsV (l : List Int) : List AVal := l.map fun n => .int .i64 n
theorem intsV_length (l : List Int) : (intsV l).length = l.length := by simp [intsV]
theorem intsV_get {l : List Int} {i : Nat} (h : i < l.length) : (intsV l)[i]? = some (.int .i64 l[i]) := by simp [intsV, List.getElem?_eq_getElem h]
mutual
def elV : El → AVal
  | .mk kind n kk keys dk kids => .agg [.int .u8 kind, .int .i64 n, .vs kk (intsV keys), .vs dk (elsV kids)]
def elsV : List El → List AVal
  | [] => []
  | e :: l => elV e :: elsV l
end
theorem elsV_eq (l : List El) : elsV l = l.map elV := by
  induction l with
  | nil => rfl
  | cons e l ih => simp only [elsV, ih, List.map_cons]
def elC (e : El) : List AVal := [.int .u8 e.kind, .int .i64 e.n, .vs e.kk (intsV e.keys), .vs e.dk (e.kids.map elV)]
theorem elV_eq (e : El) : elV e = .agg (elC e) := by
  cases e with
  | mk a b c d f g => simp only [elV, elC, elsV_eq, El.kind, El.n, El.kk, El.keys, El.dk, El.kids]
theorem el_get {l : List El} {i : Nat} (hi : i < l.length) : (l.map elV)[i]? = some (.agg (elC l[i])) := by rw [List.getElem?_map, List.getElem?_eq_getElem hi, Option.map_some, elV_eq]
mutual
def shpV : Shp → AVal
  | .mk kind name dk kids => .agg [.int .u8 kind, .str name, .vs dk (shpsV kids)]
def shpsV : List Shp → List AVal
  | [] => []
  | e :: l => shpV e :: shpsV l
end
theorem shpsV_eq (l : List Shp) : shpsV l = l.map shpV := by
  induction l with
  | nil => rfl
  | cons e l ih => simp only [shpsV, ih, List.map_cons]
def shpC (s : Shp) : List AVal := [.int .u8 s.kind, .str s.name, .vs s.dk (s.kids.map shpV)]
theorem shpV_eq (s : Shp) : shpV s = .agg (shpC s) := by
  cases s with
  | mk a b c d => simp only [shpV, shpC, shpsV_eq, Shp.kind, Shp.name, Shp.dk, Shp.kids]
theorem shp_get {l : List Shp} {i : Nat} (hi : i < l.length) : (l.map shpV)[i]? = some (.agg (shpC l[i])) := by rw [List.getElem?_map, List.getElem?_eq_getElem hi, Option.map_some, shpV_eq]

/-- How deep an element may be, and how many keys and kids it has at most. -/
def Fit (m : Nat) : Nat → El → Prop
  | 0, _ => False
  | d + 1, e => e.keys.length ≤ m ∧ e.kids.length ≤ m ∧ ∀ x, x ∈ e.kids → Fit m d x
theorem Fit.mono {m m' : Nat} (hm : m ≤ m') : ∀ {d d' : Nat} {e : El}, Fit m d e → d ≤ d' → Fit m' d' e := by
  intro d
  induction d with
  | zero => intro d' e h; exact h.elim
  | succ d ih =>
    intro d' e h hd
    obtain ⟨d', rfl⟩ : ∃ q, d' = q + 1 := ⟨d' - 1, by omega⟩
    exact ⟨Nat.le_trans h.1 hm, Nat.le_trans h.2.1 hm, fun x hx => ih (h.2.2 x hx) (by omega)⟩
/-! ### which elements are right -/
def El.isBot (e : El) : Bool := decide (e.kind = 0) && (decide (e.n = 0) && (decide (e.keys.length = 0) && decide (e.kids.length = 0)))
def isNum (n : Int) : Prop := -1000000000 ≤ n ∧ n ≤ 1000000000
instance (n : Int) : Decidable (isNum n) := by unfold isNum; infer_instance
def KeysOk (l : List Int) : Prop := (∀ n, n ∈ l → isNum n) ∧ l.Pairwise (· < ·) ∧ 1 ≤ l.length ∧ l.length ≤ 40
instance (l : List Int) : Decidable (KeysOk l) := by unfold KeysOk; infer_instance
def Shp.kid (s : Shp) (i : Nat) : Shp := (s.kids[i]?).getD default
end Go.Proofs.YtjckhhkhgjbpaaaGreatDoor

/- Elements: the bottom, numbers, keys; of the program and of the reference. -/
set_option maxRecDepth 100000
set_option linter.unusedSimpArgs false
set_option linter.unusedVariables false
namespace Go.Proofs.YtjckhhkhgjbpaaaGreatDoor
open Go Go.Proofs.YtjckhhkhgjbpaaaGreatDoor.Pale
variable {k : Nat} {σ : AMem}

theorem natz (n : Nat) : (((n : Nat) : Int) == 0) = decide (n = 0) := by rw [Bool.eq_iff_iff]; simp
def botB (kind n : Int) (ks ds : List AVal) : Bool := decide (kind = 0) && (decide (n = 0) && (decide (ks.length = 0) && decide (ds.length = 0)))
theorem El.isBot_eq (e : El) : e.isBot = botB e.kind e.n (intsV e.keys) (e.kids.map elV) := by
  simp only [El.isBot, botB, intsV_length, List.length_map]
theorem isBottom_run (kind n : Int) (kk dk : VK) (ks ds : List AVal) : pureRun (callN lawProg (k + 1)) (.func 170 [] []) [.agg [.int .u8 kind, .int .i64 n, .vs kk ks, .vs dk ds]] = some (.bool (botB kind n ks ds), true) := by
  have run : ∃ T1 σ1, execC lawProg (callN lawProg k) k 170 23 (bodyOf Tryz.f170) (initT 0 [.agg [.int .u8 kind, .int .i64 n, .vs kk ks, .vs dk ds]] .nil) AMem.empty = some (.ret, T1, σ1) ∧ T1.get 2 = some (.bool (botB kind n ks ds)) := by
    have e1 : (kind == 0) = decide (kind = 0) := by rw [Bool.eq_iff_iff]; simp
    have e2 : (n == 0) = decide (n = 0) := by rw [Bool.eq_iff_iff]; simp
    have e3 := natz ks.length
    have e4 := natz ds.length
    unfold botB
    cases h1 : decide (kind = 0) <;> rw [h1] at e1 <;> cases h2 : decide (n = 0) <;> rw [h2] at e2 <;> cases h3 : decide (ks.length = 0) <;> rw [h3] at e3 <;> cases h4 : decide (ds.length = 0) <;> rw [h4] at e4 <;>
    (simp only [bodyOf, Tryz.f170, Option.getD_some, initT, dx, reduceIte, zLt, zLe, zEq, zAd, zMu, zSu, zBe, yEq, yLt, yLe, yTn, reduceCtorEq, sx, fx170, e1, e2, e3, e4]
     exact ⟨_, _, rfl, by simp only [Tr.get_set, zEq, reduceIte]⟩)
  obtain ⟨T1, σ1, h1, h2⟩ := run
  exact pureRun_of fn170 rfl (by simp [Tryz.f170]) h1 (by simp) (res_one h2) rfl
theorem isBottom_call {x : AVal} {S : List Nat} {e : El} (hx : snapF false σ snapDepth x = some (elV e, S)) (hk : 1 ≤ k) : pureCall lawProg (callN lawProg k) (.func 170 [] []) [x] σ = some (.bool e.isBot, σ) := by
  obtain ⟨k, rfl⟩ : ∃ m, k = m + 1 := ⟨k - 1, by omega⟩
  have hs : snapL (snapF false σ snapDepth) [x] = some ([.agg (elC e)], S ++ []) := by simp only [snapL, hx, elV_eq]
  rw [El.isBot_eq]
  exact pureCall_of hs (memo170 _) (isBottom_run _ _ _ _ _ _)
/-! ### numbers -/
theorem isInt_call (n : Int) (hk : 1 ≤ k) : pureCall lawProg (callN lawProg k) (.func 172 [] []) [.int .i64 n] σ = some (.bool (decide (isNum n)), σ) := by
  obtain ⟨k, rfl⟩ : ∃ m, k = m + 1 := ⟨k - 1, by omega⟩
  have run : ∃ T1 σ1, execC lawProg (callN lawProg k) k 172 9 (bodyOf Tryz.f172) (initT 0 [.int .i64 n] .nil) AMem.empty = some (.ret, T1, σ1) ∧ T1.get 2 = some (.bool (decide (isNum n))) := by
    by_cases h1 : n ≥ -1000000000
    · by_cases h2 : n ≤ 1000000000
      · rw [decide_eq_true (show isNum n from ⟨h1, h2⟩)]
        simp only [bodyOf, Tryz.f172, Option.getD_some, initT, dx, reduceIte, zLt, zLe, zEq, zAd, zMu, zSu, zBe, yEq, yLt, yLe, yTn, reduceCtorEq, sx, fx172, h1, h2]
        exact ⟨_, _, rfl, by simp only [Tr.get_set, zEq, reduceIte]⟩
      · rw [decide_eq_false (fun h : isNum n => h2 h.2)]
        simp only [bodyOf, Tryz.f172, Option.getD_some, initT, dx, reduceIte, zLt, zLe, zEq, zAd, zMu, zSu, zBe, yEq, yLt, yLe, yTn, reduceCtorEq, sx, fx172, h1, h2]
        exact ⟨_, _, rfl, by simp only [Tr.get_set, zEq, reduceIte]⟩
    · rw [decide_eq_false (fun h : isNum n => h1 h.1)]
      simp only [bodyOf, Tryz.f172, Option.getD_some, initT, dx, reduceIte, zLt, zLe, zEq, zAd, zMu, zSu, zBe, yEq, yLt, yLe, yTn, reduceCtorEq, sx, fx172, h1]
      exact ⟨_, _, rfl, by simp only [Tr.get_set, zEq, reduceIte]⟩
  obtain ⟨T1, σ1, h1, h2⟩ := run
  exact pureCall_of rfl (memo172 _) (pureRun_of fn172 rfl (by simp [Tryz.f172]) h1 (by simp) (res_one h2) rfl)
end Go.Proofs.YtjckhhkhgjbpaaaGreatDoor

/- Keys; what an element has. -/
set_option maxRecDepth 100000
set_option linter.unusedSimpArgs false
set_option linter.unusedVariables false
namespace Go.Proofs.YtjckhhkhgjbpaaaGreatDoor
open Go Go.Proofs.YtjckhhkhgjbpaaaGreatDoor.Pale
variable {k : Nat} {σ : AMem}

def Adj (l : List Int) : Prop := ∀ i (h : i + 1 < l.length), l[i] < l[i + 1]
theorem adj_pairwise {l : List Int} (h : Adj l) : l.Pairwise (· < ·) := by
  rw [List.pairwise_iff_getElem]
  intro i j hi hj hij
  have key : ∀ m, ∀ hm : i + 1 + m < l.length, l[i] < l[i + 1 + m] := by
    intro m
    induction m with
    | zero => intro hm; exact h i hm
    | succ m ih => intro hm; exact Int.lt_trans (ih (by omega)) (h (i + 1 + m) (by omega))
  have := key (j - (i + 1)) (by omega)
  simpa only [show i + 1 + (j - (i + 1)) = j by omega] using this
theorem keysOk_of {l : List Int} (h1 : ∀ i (hi : i < l.length), isNum l[i] ∧ (∀ h0 : 0 < i, l[i - 1] < l[i])) (h2 : 1 ≤ l.length) (h3 : l.length ≤ 40) : KeysOk l := by
  refine ⟨fun n hn => ?_, adj_pairwise fun i hi => ?_, h2, h3⟩
  · obtain ⟨i, hi, rfl⟩ := List.mem_iff_getElem.1 hn
    exact (h1 i hi).1
  · have := (h1 (i + 1) hi).2 (by omega)
    simpa using this
theorem keysOk_at {l : List Int} (h : KeysOk l) {i : Nat} (hi : i < l.length) : isNum l[i] ∧ (∀ h0 : 0 < i, l[i - 1] < l[i]) := by
  refine ⟨h.1 _ (List.getElem_mem hi), fun h0 => ?_⟩
  exact List.pairwise_iff_getElem.1 h.2.1 (i - 1) i (by omega) hi (by omega)

theorem areKeys_run (kk : VK) (l : List Int) (hl : l.length ≤ 1000) (hk : 2000 ≤ k) : pureRun (callN lawProg (k + 1)) (.func 174 [] []) [.vs kk (intsV l)] = some (.bool (decide (KeysOk l)), true) := by
  have hnum := fun (σ : AMem) (n : Int) => isInt_call (k := k) (σ := σ) n (by omega)
  have run : ∃ T1 σ1, execC lawProg (callN lawProg k) k 174 37 (bodyOf Tryz.f174) (initT 0 [.vs kk (intsV l)] .nil) AMem.empty = some (.ret, T1, σ1) ∧ T1.get 2 = some (.bool (decide (KeysOk l))) := by
    simp only [bodyOf, Tryz.f174, Option.getD_some, initT, dx, reduceIte, zLt, zLe, zEq, zAd, zMu, zSu, zBe, yEq, yLt, yLe, yTn, reduceCtorEq, sx, fx174, intsV_length]
    generalize hL : execC _ _ _ _ _ (Code.loop _) _ _ = q
    obtain ⟨e, T', σ', rfl, _, hcase⟩ : ∃ e T' σ', q = some (e, T', σ') ∧ e ≠ .normal ∧ ((e = .exit 0 ∧ T'.get 0 = some (.vs kk (intsV l)) ∧ ∀ j (hj : j < l.length), (isNum l[j] ∧ (∀ h0 : 0 < j, l[j - 1] < l[j]))) ∨ (e = .ret ∧ T'.get 2 = some (.bool false) ∧ ¬ KeysOk l)) := by
      rw [← hL]
      refine exec_loop2 (fun i T σ' => i ≤ l.length ∧ T.get 0 = some (.vs kk (intsV l)) ∧ T.get 5 = some (.vs kk (intsV l)) ∧ T.get 6 = some (.int .i64 l.length) ∧ T.get 7 = some (.int .i64 i) ∧ ∀ j (hj : j < l.length), j < i → (isNum l[j] ∧ (∀ h0 : 0 < j, l[j - 1] < l[j]))) l.length (by omega) ?_ ?_ ?_
      · rintro i hi T σ' ⟨_, t0, t5, t6, ti, hall⟩
        have hlt : (i : Int) < l.length := by omega
        have hw := i64_succ (i := i) (by omega)
        have hgt0 : ((i : Nat) : Int) > 0 ↔ 0 < i := by omega
        by_cases hn : isNum l[i]
        · have hn' := decide_eq_true hn
          by_cases h0 : 0 < i
          · have hi1 : IntKind.i64.wrap (((i : Nat) : Int) - 1) = ((i - 1 : Nat) : Int) := by rw [i64_id (by omega) (by omega)]; omega
            have hg := hgt0.2 h0
            have hi1l : i - 1 < l.length := by omega
            by_cases hc : l[i - 1] ≥ l[i]
            · right
              refine ⟨.ret, _, _, by
                simp only [dx, reduceIte, zLt, zLe, zEq, zAd, zMu, zSu, zBe, yEq, yLt, yLe, yTn, reduceCtorEq, sx, fx174, t0, t5, t6, ti, intsV_length, hlt, Int.natCast_nonneg, Int.toNat_natCast, intsV_get hi, hnum, hn', hg, hi1, intsV_get hi1l, hc]
                rfl, by simp, .inr ⟨rfl, ?_, fun h => ?_⟩⟩
              · simp only [Tr.get_set, zEq, reduceIte]
              · have := (keysOk_at h hi).2 h0; omega
            · left
              refine ⟨_, _, by
                simp only [dx, reduceIte, zLt, zLe, zEq, zAd, zMu, zSu, zBe, yEq, yLt, yLe, yTn, reduceCtorEq, sx, fx174, t0, t5, t6, ti, intsV_length, hlt, Int.natCast_nonneg, Int.toNat_natCast, intsV_get hi, hnum, hn', hg, hi1, intsV_get hi1l, hc, hw]
                rfl, hi, ?_, ?_, ?_, ?_, fun j hj hji => ?_⟩
              rotate_left 4
              · rcases Nat.lt_succ_iff_lt_or_eq.1 hji with h | rfl
                · exact hall j hj h
                · exact ⟨hn, fun _ => by omega⟩
              all_goals simp only [Tr.get_set, zEq, reduceIte, t0, t5, t6]
          · have hg : ¬ ((i : Nat) : Int) > 0 := fun h => h0 (hgt0.1 h)
            left
            refine ⟨_, _, by
              simp only [dx, reduceIte, zLt, zLe, zEq, zAd, zMu, zSu, zBe, yEq, yLt, yLe, yTn, reduceCtorEq, sx, fx174, t0, t5, t6, ti, intsV_length, hlt, Int.natCast_nonneg, Int.toNat_natCast, intsV_get hi, hnum, hn', hg, hw]
              rfl, hi, ?_, ?_, ?_, ?_, fun j hj hji => ?_⟩
            rotate_left 4
            · rcases Nat.lt_succ_iff_lt_or_eq.1 hji with h | rfl
              · exact hall j hj h
              · exact ⟨hn, fun h => absurd h h0⟩
            all_goals simp only [Tr.get_set, zEq, reduceIte, t0, t5, t6]
        · have hn' := decide_eq_false hn
          right
          refine ⟨.ret, _, _, by
            simp only [dx, reduceIte, zLt, zLe, zEq, zAd, zMu, zSu, zBe, yEq, yLt, yLe, yTn, reduceCtorEq, sx, fx174, t0, t5, t6, ti, intsV_length, hlt, Int.natCast_nonneg, Int.toNat_natCast, intsV_get hi, hnum, hn']
            rfl, by simp, .inr ⟨rfl, ?_, fun h => ?_⟩⟩
          · simp only [Tr.get_set, zEq, reduceIte]
          · exact hn (keysOk_at h hi).1
      · rintro T σ' ⟨_, t0, t5, t6, ti, hall⟩
        refine ⟨_, _, _, by
          simp only [dx, reduceIte, zLt, zLe, zEq, zAd, zMu, zSu, zBe, yEq, yLt, yLe, yTn, reduceCtorEq, sx, fx174, t0, t5, t6, ti, intsV_length, Int.lt_irrefl]
          rfl, by simp, .inl ⟨rfl, ?_, fun j hj => hall j hj hj⟩⟩
        simp only [Tr.get_set, zEq, reduceIte, t0, t5, t6]
      · refine ⟨Nat.zero_le _, ?_, ?_, ?_, ?_, fun j _ h => by omega⟩
        all_goals simp only [Tr.get_set, zEq, reduceIte]
        all_goals rfl
    rcases hcase with ⟨rfl, t0, hall⟩ | ⟨rfl, hT, hbad⟩
    · by_cases h1 : ((l.length : Nat) : Int) > 0
      · by_cases h2 : ((l.length : Nat) : Int) ≤ 40
        · rw [decide_eq_true (keysOk_of hall (by omega) (by omega))]
          simp only [dx, reduceIte, zLt, zLe, zEq, zAd, zMu, zSu, zBe, yEq, yLt, yLe, yTn, reduceCtorEq, sx, fx174, t0, intsV_length, h1, h2]
          exact ⟨_, _, rfl, by simp only [Tr.get_set, zEq, reduceIte]⟩
        · rw [decide_eq_false (fun h : KeysOk l => by have := h.2.2.2; omega)]
          simp only [dx, reduceIte, zLt, zLe, zEq, zAd, zMu, zSu, zBe, yEq, yLt, yLe, yTn, reduceCtorEq, sx, fx174, t0, intsV_length, h1, h2]
          exact ⟨_, _, rfl, by simp only [Tr.get_set, zEq, reduceIte]⟩
      · rw [decide_eq_false (fun h : KeysOk l => by have := h.2.2.1; omega)]
        simp only [dx, reduceIte, zLt, zLe, zEq, zAd, zMu, zSu, zBe, yEq, yLt, yLe, yTn, reduceCtorEq, sx, fx174, t0, intsV_length, h1]
        exact ⟨_, _, rfl, by simp only [Tr.get_set, zEq, reduceIte]⟩
    · rw [decide_eq_false hbad]
      simp only [dx, reduceIte, zLt, zLe, zEq, zAd, zMu, zSu, zBe, yEq, yLt, yLe, yTn, reduceCtorEq, sx, fx174]
      exact ⟨_, _, rfl, hT⟩
  obtain ⟨T1, σ1, h1, h2⟩ := run
  exact pureRun_of fn174 rfl (by simp [Tryz.f174]) h1 (by simp) (res_one h2) rfl
theorem areKeys_call {x : AVal} {S : List Nat} {kk : VK} {l : List Int} (hx : snapF false σ snapDepth x = some (.vs kk (intsV l), S)) (hl : l.length ≤ 1000) (hk : 2001 ≤ k) : pureCall lawProg (callN lawProg k) (.func 174 [] []) [x] σ = some (.bool (decide (KeysOk l)), σ) := by
  obtain ⟨k, rfl⟩ : ∃ m, k = m + 1 := ⟨k - 1, by omega⟩
  have hs : snapL (snapF false σ snapDepth) [x] = some ([.vs kk (intsV l)], S ++ []) := by simp only [snapL, hx]
  exact pureCall_of hs (memo174 _) (areKeys_run kk l hl (by omega))

/-! ### what an element has -/
theorem has_run (kind n : Int) (kk dk : VK) (ks ds : List AVal) : pureRun (callN lawProg (k + 1)) (.func 171 [] []) [.agg [.int .u8 kind, .int .i64 n, .vs kk ks, .vs dk ds]] = some (.agg [.bool (n != 0), .bool (decide (((ks.length : Nat) : Int) > 0)), .bool (decide (((ds.length : Nat) : Int) > 0))], true) := by
  have run : ∃ T1 σ1, execC lawProg (callN lawProg k) k 171 15 (bodyOf Tryz.f171) (initT 0 [.agg [.int .u8 kind, .int .i64 n, .vs kk ks, .vs dk ds]] .nil) AMem.empty = some (.ret, T1, σ1) ∧ resultsA lawProg T1 σ1 Tryz.f171.results.toList = some [.agg [.bool (n != 0), .bool (decide (((ks.length : Nat) : Int) > 0)), .bool (decide (((ds.length : Nat) : Int) > 0))]] := by
    simp only [bodyOf, Tryz.f171, Option.getD_some, initT, dx, reduceIte, zLt, zLe, zEq, zAd, zMu, zSu, zBe, yEq, yLt, yLe, yTn, reduceCtorEq, sx, fx171]
    refine ⟨_, _, rfl, ?_⟩
    simp only [Tryz.f171, resultsA, resultA, dx, reduceIte, zLt, zLe, zEq, zAd, zMu, zSu, zBe, yEq, yLt, yLe, yTn, reduceCtorEq, sx, fx171]
  obtain ⟨T1, σ1, h1, h2⟩ := run
  exact pureRun_of fn171 rfl (by simp [Tryz.f171]) h1 (by simp) h2 rfl
theorem has_call (kind n : Int) (kk dk : VK) (ks ds : List AVal) (hk : 1 ≤ k) : pureCall lawProg (callN lawProg k) (.func 171 [] []) [.agg [.int .u8 kind, .int .i64 n, .vs kk ks, .vs dk ds]] σ = some (.agg [.bool (n != 0), .bool (decide (((ks.length : Nat) : Int) > 0)), .bool (decide (((ds.length : Nat) : Int) > 0))], σ) := by
  obtain ⟨k, rfl⟩ : ∃ m, k = m + 1 := ⟨k - 1, by omega⟩
  exact pureCall_of rfl (memo171 _) (has_run _ _ _ _ _ _)
end Go.Proofs.YtjckhhkhgjbpaaaGreatDoor

/- IndexFunc over elements and tables; the table that a shape names. -/
set_option maxRecDepth 100000
set_option linter.unusedSimpArgs false
set_option linter.unusedVariables false
namespace Go.Proofs.YtjckhhkhgjbpaaaGreatDoor
open Go Go.Proofs.YtjckhhkhgjbpaaaGreatDoor.Pale
variable {k : Nat} {σ : AMem}

theorem elems_v (vk : VK) (es : List AVal) (g : Nat) (caps : List AVal) (p : AVal → Bool) (hc : ∀ e, e ∈ es → ∃ cs, e = .agg cs ∧ cs.length = 4) (hlen : es.length ≤ 100000) (hfn : caps = [] → lawProg.isVal 193 g = false) (hf : ∀ e, e ∈ es → ∀ σ', Ext σ σ' → ∃ σ'', callN lawProg k (.func g [] caps) [e] σ' = some (.bool (p e), σ'') ∧ Ext σ' σ'') (hk : es.length + 1 ≤ k) :
    ∃ σ', callN lawProg (k + 1) (.func 193 [] []) [.vs vk es, .func g [] caps] σ = some (.int .i64 (idxI p es), σ') ∧ Ext σ σ' := by
  have run : ∃ T1 σ1, execC lawProg (callN lawProg k) k 193 19 (bodyOf Tryz.f193) (initT 0 [.vs vk es, .func g [] caps] .nil) σ = some (.ret, T1, σ1) ∧ T1.get 4 = some (.int .i64 (idxI p es)) ∧ Ext σ σ1 := by
    simp only [bodyOf, Tryz.f193, Option.getD_some, initT, dx, reduceIte, zLt, zLe, zEq, zAd, zMu, zSu, zBe, yEq, yLt, yLe, yTn, reduceCtorEq, sx, fx193]
    generalize hL : execC _ _ _ _ _ (Code.loop _) _ _ = q
    obtain ⟨e, T', σ', rfl, _, hx, hcase⟩ : ∃ e T' σ', q = some (e, T', σ') ∧ e ≠ .normal ∧ (Ext σ σ' ∧ ((e = .exit 0 ∧ ∀ x, x ∈ es → p x = false) ∨ (e = .ret ∧ T'.get 4 = some (.int .i64 (idxI p es))))) := by
      rw [← hL]
      refine exec_loop2 (fun i T σ' => i ≤ es.length ∧ T.get 0 = some (.vs vk es) ∧ T.get 1 = some (.func g [] caps) ∧ T.get 7 = some (.int .i64 es.length) ∧ T.get 8 = some (.int .i64 i) ∧ Ext σ σ' ∧ ∀ x, x ∈ es.take i → p x = false) es.length (by omega) ?_ ?_ ?_
      · rintro i hi T σ' ⟨_, t0, t1, t7, t8, hx, hall⟩
        have hlt : (i : Int) < es.length := by omega
        obtain ⟨cs, hci, hcl⟩ := hc _ (List.getElem_mem hi)
        have hgi : es[i]? = some (.agg cs) := by rw [List.getElem?_eq_getElem hi, hci]
        obtain ⟨σ'', hc1, hc2⟩ := hf _ (List.getElem_mem hi) σ' hx
        have hw := i64_succ (i := i) (by omega)
        cases hp : p es[i] with
        | false =>
          left
          rw [hp] at hc1
          rw [hci] at hc1
          cases caps with
          | cons c cs =>
            refine ⟨_, _, by
              simp only [dx, reduceIte, zLt, zLe, zEq, zAd, zMu, zSu, zBe, yEq, yLt, yLe, yTn, reduceCtorEq, sx, fx193, t0, t1, t7, t8, hlt, Int.natCast_nonneg, Int.toNat_natCast, hgi, hcl, hc1, hw]
              rfl, hi, ?_, ?_, ?_, ?_, hx.trans hc2, take_all hi hall hp⟩
            all_goals simp only [Tr.get_set, zEq, reduceIte, t0, t1, t7]
          | nil =>
            have hv := hfn rfl
            refine ⟨_, _, by
              simp only [dx, reduceIte, zLt, zLe, zEq, zAd, zMu, zSu, zBe, yEq, yLt, yLe, yTn, reduceCtorEq, sx, fx193, t0, t1, t7, t8, hlt, Int.natCast_nonneg, Int.toNat_natCast, hgi, hcl, hv, hc1, hw]
              rfl, hi, ?_, ?_, ?_, ?_, hx.trans hc2, take_all hi hall hp⟩
            all_goals simp only [Tr.get_set, zEq, reduceIte, t0, t1, t7]
        | true =>
          right
          rw [hp] at hc1
          rw [hci] at hc1
          have hidx := idxI_at hi hall hp
          cases caps with
          | cons c cs =>
            refine ⟨.ret, _, _, by
              simp only [dx, reduceIte, zLt, zLe, zEq, zAd, zMu, zSu, zBe, yEq, yLt, yLe, yTn, reduceCtorEq, sx, fx193, t0, t1, t7, t8, hlt, Int.natCast_nonneg, Int.toNat_natCast, hgi, hcl, hc1, hw]
              rfl, by simp, hx.trans hc2, .inr ⟨rfl, ?_⟩⟩
            simp only [Tr.get_set, zEq, reduceIte, hidx]
          | nil =>
            have hv := hfn rfl
            refine ⟨.ret, _, _, by
              simp only [dx, reduceIte, zLt, zLe, zEq, zAd, zMu, zSu, zBe, yEq, yLt, yLe, yTn, reduceCtorEq, sx, fx193, t0, t1, t7, t8, hlt, Int.natCast_nonneg, Int.toNat_natCast, hgi, hcl, hv, hc1, hw]
              rfl, by simp, hx.trans hc2, .inr ⟨rfl, ?_⟩⟩
            simp only [Tr.get_set, zEq, reduceIte, hidx]
      · rintro T σ' ⟨_, t0, t1, t7, t8, hx, hall⟩
        rw [List.take_length] at hall
        exact ⟨_, _, _, by
          simp only [dx, reduceIte, zLt, zLe, zEq, zAd, zMu, zSu, zBe, yEq, yLt, yLe, yTn, reduceCtorEq, sx, fx193, t0, t1, t7, t8, Int.lt_irrefl]
          rfl, by simp, hx, .inl ⟨rfl, hall⟩⟩
      · refine ⟨Nat.zero_le _, ?_, ?_, ?_, ?_, Ext.refl _, by simp⟩
        all_goals simp only [Tr.get_set, zEq, reduceIte]
        all_goals rfl
    rcases hcase with ⟨rfl, hall⟩ | ⟨rfl, hT⟩
    · simp only [dx, reduceIte, zLt, zLe, zEq, zAd, zMu, zSu, zBe, yEq, yLt, yLe, yTn, reduceCtorEq, sx, fx193]
      exact ⟨_, _, rfl, by simp only [Tr.get_set, zEq, reduceIte, idxI_none hall], hx⟩
    · simp only [dx, reduceIte, zLt, zLe, zEq, zAd, zMu, zSu, zBe, yEq, yLt, yLe, yTn, reduceCtorEq, sx, fx193]
      exact ⟨_, _, rfl, hT, hx⟩
  obtain ⟨T1, σ1, h1, h2, h3⟩ := run
  exact ⟨σ1, q_call (first := []) (caps := []) fn193 rfl (by simp [Tryz.f193]) h1 (by simp) (res_one h2), h3⟩

theorem elems_has_v (vk : VK) (es : List AVal) (g : Nat) (caps : List AVal) (p : AVal → Bool) (hc : ∀ e, e ∈ es → ∃ cs, e = .agg cs ∧ cs.length = 4) (hlen : es.length ≤ 100000) (hfn : caps = [] → lawProg.isVal 193 g = false) (hf : ∀ e, e ∈ es → ∀ σ', Ext σ σ' → ∃ σ'', callN lawProg k (.func g [] caps) [e] σ' = some (.bool (p e), σ'') ∧ Ext σ' σ'') (hk : es.length + 1 ≤ k) :
    ∃ σ', callN lawProg (k + 2) (.func 162 [] []) [.vs vk es, .func g [] caps] σ = some (.bool (es.any p), σ') ∧ Ext σ σ' := by
  obtain ⟨σ', hc, hx⟩ := elems_v vk es g caps p hc hlen hfn hf hk
  have e : ∃ T1, execC lawProg (callN lawProg (k + 1)) (k + 1) 162 9 (bodyOf Tryz.f162) (initT 0 [.vs vk es, .func g [] caps] .nil) σ = some (.ret, T1, σ') ∧ T1.get 4 = some (.bool (decide (idxI p es ≥ 0))) := by
    simp only [bodyOf, Tryz.f162, Option.getD_some, initT, dx, reduceIte, zLt, zLe, zEq, zAd, zMu, zSu, zBe, yEq, yLt, yLe, yTn, reduceCtorEq, sx, fx162, hc]
    exact ⟨_, rfl, by simp only [Tr.get_set, zEq, reduceIte]⟩
  obtain ⟨T1, e1, e2⟩ := e
  rw [idxI_any] at e2
  exact ⟨σ', q_call (first := []) (caps := []) fn162 rfl (by simp [Tryz.f162]) e1 (by simp) (res_one e2), hx⟩


theorem tabs_v (vk : VK) (es : List AVal) (g : Nat) (caps : List AVal) (p : AVal → Bool) (hc : ∀ e, e ∈ es → ∃ cs, e = .agg cs ∧ cs.length = 4) (hlen : es.length ≤ 100000) (hfn : caps = [] → lawProg.isVal 152 g = false) (hf : ∀ e, e ∈ es → ∀ σ', Ext σ σ' → ∃ σ'', callN lawProg k (.func g [] caps) [e] σ' = some (.bool (p e), σ'') ∧ Ext σ' σ'') (hk : es.length + 1 ≤ k) :
    ∃ σ', callN lawProg (k + 1) (.func 152 [] []) [.vs vk es, .func g [] caps] σ = some (.int .i64 (idxI p es), σ') ∧ Ext σ σ' := by
  have run : ∃ T1 σ1, execC lawProg (callN lawProg k) k 152 19 (bodyOf Tryz.f152) (initT 0 [.vs vk es, .func g [] caps] .nil) σ = some (.ret, T1, σ1) ∧ T1.get 4 = some (.int .i64 (idxI p es)) ∧ Ext σ σ1 := by
    simp only [bodyOf, Tryz.f152, Option.getD_some, initT, dx, reduceIte, zLt, zLe, zEq, zAd, zMu, zSu, zBe, yEq, yLt, yLe, yTn, reduceCtorEq, sx, fx152]
    generalize hL : execC _ _ _ _ _ (Code.loop _) _ _ = q
    obtain ⟨e, T', σ', rfl, _, hx, hcase⟩ : ∃ e T' σ', q = some (e, T', σ') ∧ e ≠ .normal ∧ (Ext σ σ' ∧ ((e = .exit 0 ∧ ∀ x, x ∈ es → p x = false) ∨ (e = .ret ∧ T'.get 4 = some (.int .i64 (idxI p es))))) := by
      rw [← hL]
      refine exec_loop2 (fun i T σ' => i ≤ es.length ∧ T.get 0 = some (.vs vk es) ∧ T.get 1 = some (.func g [] caps) ∧ T.get 7 = some (.int .i64 es.length) ∧ T.get 8 = some (.int .i64 i) ∧ Ext σ σ' ∧ ∀ x, x ∈ es.take i → p x = false) es.length (by omega) ?_ ?_ ?_
      · rintro i hi T σ' ⟨_, t0, t1, t7, t8, hx, hall⟩
        have hlt : (i : Int) < es.length := by omega
        obtain ⟨cs, hci, hcl⟩ := hc _ (List.getElem_mem hi)
        have hgi : es[i]? = some (.agg cs) := by rw [List.getElem?_eq_getElem hi, hci]
        obtain ⟨σ'', hc1, hc2⟩ := hf _ (List.getElem_mem hi) σ' hx
        have hw := i64_succ (i := i) (by omega)
        cases hp : p es[i] with
        | false =>
          left
          rw [hp] at hc1
          rw [hci] at hc1
          cases caps with
          | cons c cs =>
            refine ⟨_, _, by
              simp only [dx, reduceIte, zLt, zLe, zEq, zAd, zMu, zSu, zBe, yEq, yLt, yLe, yTn, reduceCtorEq, sx, fx152, t0, t1, t7, t8, hlt, Int.natCast_nonneg, Int.toNat_natCast, hgi, hcl, hc1, hw]
              rfl, hi, ?_, ?_, ?_, ?_, hx.trans hc2, take_all hi hall hp⟩
            all_goals simp only [Tr.get_set, zEq, reduceIte, t0, t1, t7]
          | nil =>
            have hv := hfn rfl
            refine ⟨_, _, by
              simp only [dx, reduceIte, zLt, zLe, zEq, zAd, zMu, zSu, zBe, yEq, yLt, yLe, yTn, reduceCtorEq, sx, fx152, t0, t1, t7, t8, hlt, Int.natCast_nonneg, Int.toNat_natCast, hgi, hcl, hv, hc1, hw]
              rfl, hi, ?_, ?_, ?_, ?_, hx.trans hc2, take_all hi hall hp⟩
            all_goals simp only [Tr.get_set, zEq, reduceIte, t0, t1, t7]
        | true =>
          right
          rw [hp] at hc1
          rw [hci] at hc1
          have hidx := idxI_at hi hall hp
          cases caps with
          | cons c cs =>
            refine ⟨.ret, _, _, by
              simp only [dx, reduceIte, zLt, zLe, zEq, zAd, zMu, zSu, zBe, yEq, yLt, yLe, yTn, reduceCtorEq, sx, fx152, t0, t1, t7, t8, hlt, Int.natCast_nonneg, Int.toNat_natCast, hgi, hcl, hc1, hw]
              rfl, by simp, hx.trans hc2, .inr ⟨rfl, ?_⟩⟩
            simp only [Tr.get_set, zEq, reduceIte, hidx]
          | nil =>
            have hv := hfn rfl
            refine ⟨.ret, _, _, by
              simp only [dx, reduceIte, zLt, zLe, zEq, zAd, zMu, zSu, zBe, yEq, yLt, yLe, yTn, reduceCtorEq, sx, fx152, t0, t1, t7, t8, hlt, Int.natCast_nonneg, Int.toNat_natCast, hgi, hcl, hv, hc1, hw]
              rfl, by simp, hx.trans hc2, .inr ⟨rfl, ?_⟩⟩
            simp only [Tr.get_set, zEq, reduceIte, hidx]
      · rintro T σ' ⟨_, t0, t1, t7, t8, hx, hall⟩
        rw [List.take_length] at hall
        exact ⟨_, _, _, by
          simp only [dx, reduceIte, zLt, zLe, zEq, zAd, zMu, zSu, zBe, yEq, yLt, yLe, yTn, reduceCtorEq, sx, fx152, t0, t1, t7, t8, Int.lt_irrefl]
          rfl, by simp, hx, .inl ⟨rfl, hall⟩⟩
      · refine ⟨Nat.zero_le _, ?_, ?_, ?_, ?_, Ext.refl _, by simp⟩
        all_goals simp only [Tr.get_set, zEq, reduceIte]
        all_goals rfl
    rcases hcase with ⟨rfl, hall⟩ | ⟨rfl, hT⟩
    · simp only [dx, reduceIte, zLt, zLe, zEq, zAd, zMu, zSu, zBe, yEq, yLt, yLe, yTn, reduceCtorEq, sx, fx152]
      exact ⟨_, _, rfl, by simp only [Tr.get_set, zEq, reduceIte, idxI_none hall], hx⟩
    · simp only [dx, reduceIte, zLt, zLe, zEq, zAd, zMu, zSu, zBe, yEq, yLt, yLe, yTn, reduceCtorEq, sx, fx152]
      exact ⟨_, _, rfl, hT, hx⟩
  obtain ⟨T1, σ1, h1, h2, h3⟩ := run
  exact ⟨σ1, q_call (first := []) (caps := []) fn152 rfl (by simp [Tryz.f152]) h1 (by simp) (res_one h2), h3⟩

/-! ### values tell what they are values of -/
theorem intsV_inj : ∀ {a b : List Int}, intsV a = intsV b → a = b := by
  intro a
  induction a with
  | nil => intro b h; cases b with
    | nil => rfl
    | cons => simp [intsV] at h
  | cons x a ih => intro b h; cases b with
    | nil => simp [intsV] at h
    | cons y b =>
      simp only [intsV, List.map_cons, List.cons.injEq, AVal.int.injEq, true_and] at h
      rw [h.1, ih (b := b) h.2]
mutual
theorem elV_inj : ∀ (a b : El), elV a = elV b → a = b
  | .mk k1 n1 kk1 keys1 dk1 kids1, .mk k2 n2 kk2 keys2 dk2 kids2, h => by
    simp only [elV, AVal.agg.injEq, List.cons.injEq, AVal.int.injEq, AVal.vs.injEq, true_and, and_true] at h
    obtain ⟨h1, h2, ⟨h3, h4⟩, h5, h6⟩ := h
    rw [h1, h2, h3, intsV_inj h4, h5, elsV_inj kids1 kids2 h6]
theorem elsV_inj : ∀ (a b : List El), elsV a = elsV b → a = b
  | [], [], _ => rfl
  | [], _ :: _, h => by simp [elsV] at h
  | _ :: _, [], h => by simp [elsV] at h
  | x :: a, y :: b, h => by
    simp only [elsV, List.cons.injEq] at h
    rw [elV_inj x y h.1, elsV_inj a b h.2]
end
noncomputable def viaP {α : Type} (f : α → AVal) (q : α → Bool) (v : AVal) : Bool := @decide (∃ x, f x = v ∧ q x = true) (Classical.propDecidable _)
theorem viaP_eq {α : Type} {f : α → AVal} {q : α → Bool} (hi : ∀ a b, f a = f b → a = b) (x : α) : viaP f q (f x) = q x := by
  unfold viaP
  cases h : q x with
  | true => exact @decide_eq_true _ (Classical.propDecidable _) ⟨x, rfl, h⟩
  | false =>
    refine @decide_eq_false _ (Classical.propDecidable _) ?_
    rintro ⟨y, hy, hq⟩
    rw [hi _ _ hy, h] at hq
    cases hq
theorem viaP_any {α : Type} {f : α → AVal} {q : α → Bool} (hi : ∀ a b, f a = f b → a = b) (l : List α) : (l.map f).any (viaP f q) = l.any q := by
  rw [List.any_map]
  congr 1
  funext x
  exact viaP_eq hi x

/-! ### tables -/
structure Tab where
  name : List UInt8
  ek : VK
  elems : List (List UInt8)
  ak : VK
  above : List (VK × List Int)
  wk : VK
  wrong : List Bool
def abvV (a : VK × List Int) : AVal := .vs a.1 (intsV a.2)
def tabC (t : Tab) : List AVal := [.str t.name, .vs t.ek (t.elems.map .str), .vs t.ak (t.above.map abvV), .vs t.wk (t.wrong.map .bool)]
def tabV (t : Tab) : AVal := .agg (tabC t)
theorem tab_get {l : List Tab} {i : Nat} (hi : i < l.length) : (l.map tabV)[i]? = some (.agg (tabC l[i])) := by rw [List.getElem?_map, List.getElem?_eq_getElem hi]; rfl
def nameT : AVal → List UInt8
  | .agg (.str s :: _) => s
  | _ => []
def isNamed (n : List UInt8) (v : AVal) : Bool := nameT v == n
/-- How many elements the table of a name has. -/
def tlOf (tabs : List Tab) (n : List UInt8) : Nat := match tabs.find? fun t => t.name == n with
  | some t => t.elems.length
  | none => 0
def latC (lk : VK) (tabs : List Tab) (s : Shp) : List AVal := .vs lk (tabs.map tabV) :: shpC s
theorem idx_find {tabs : List Tab} {n : List UInt8} {t : Tab} (h : tabs.find? (fun t => t.name == n) = some t) : ∃ i, ∃ hi : i < tabs.length, idxI (isNamed n) (tabs.map tabV) = (i : Int) ∧ tabs[i] = t := by
  induction tabs with
  | nil => simp at h
  | cons x l ih =>
    rw [List.find?_cons] at h
    cases hx : x.name == n with
    | true =>
      rw [hx] at h
      simp only [Option.some.injEq] at h
      refine ⟨0, by simp, ?_, by simpa using h⟩
      have hb : isNamed n (tabV x) = true := hx
      simp only [List.map_cons, idxI, hb, if_true]
      rfl
    | false =>
      rw [hx] at h
      obtain ⟨i, hi, h1, h2⟩ := ih h
      refine ⟨i + 1, by simpa using hi, ?_, by simpa using h2⟩
      have hb : isNamed n (tabV x) = false := hx
      simp only [List.map_cons, idxI, hb, Bool.false_eq_true, if_false]
      rw [h1, if_neg (by omega)]
      omega
theorem tableIs_callN {r : Nat} {sk : Int} {sn : List UInt8} {d : AVal} (t : Tab) (hg : σ.get r = some (.row 3 true [.int .u8 sk, .str sn, d])) (hr : r < σ.next) (hk : 1 ≤ k) : callN lawProg k (.func 194 [] [.ptr r 0]) [tabV t] σ = some (.bool (isNamed sn (tabV t)), σ.push (.row 4 true (tabC t))) := by
  obtain ⟨k, rfl⟩ : ∃ m, k = m + 1 := ⟨k - 1, by omega⟩
  have hq : ¬ σ.next = r := by omega
  have e : ∃ T1, execC lawProg (callN lawProg k) k 194 9 (bodyOf Tryz.f194) (initT 0 [.agg (tabC t), .ptr r 0] .nil) σ = some (.ret, T1, σ.push (.row 4 true (tabC t))) ∧ T1.get 3 = some (.bool (isNamed sn (tabV t))) := by
    simp only [bodyOf, Tryz.f194, Option.getD_some, initT, tabC, dx, reduceIte, zLt, zLe, zEq, zAd, zMu, zSu, zBe, yEq, yLt, yLe, yTn, reduceCtorEq, sx, fx194, hq, hg, abinStr]
    exact ⟨_, rfl, by simp only [Tr.get_set, zEq, reduceIte]; rfl⟩
  obtain ⟨T1, e1, e2⟩ := e
  exact q_call (first := []) (caps := [.ptr r 0]) fn194 rfl (by simp [Tryz.f194]) e1 (by simp) (res_one e2)
theorem table_call (lk dk : VK) (tabs : List Tab) (s0 : Shp) (sk : Int) (sn : List UInt8) (ds : List AVal) {t : Tab} (ht : tabs.find? (fun t => t.name == sn) = some t) (hl : tabs.length ≤ 1000) (hk : 3000 ≤ k) : pureCall lawProg (callN lawProg k) (.func 173 [] []) [.agg (latC lk tabs s0), .agg [.int .u8 sk, .str sn, .vs dk ds]] σ = some (.agg (tabC t), σ) := by
  obtain ⟨k, rfl⟩ : ∃ m, k = m + 2 := ⟨k - 2, by omega⟩
  obtain ⟨i, hi, h1, h2⟩ := idx_find ht
  let σ0 : AMem := ((AMem.empty.push (.row 4 true (latC lk tabs s0))).push (.row 3 true [.int .u8 sk, .str sn, .vs dk ds])).push (.row 4 true [.str [], .vs .nil [], .vs .nil [], .vs .nil []])
  have g1 : σ0.get 1 = some (.row 3 true [.int .u8 sk, .str sn, .vs dk ds]) := by simp only [σ0, AMem.get_push, AMem.next_push, next_empty, zAd, zEq, reduceIte]
  have g0 : σ0.get 0 = some (.row 4 true (latC lk tabs s0)) := by simp only [σ0, AMem.get_push, AMem.next_push, next_empty, zAd, zEq, reduceIte]
  have g2 : σ0.get 2 = some (.row 4 true [.str [], .vs .nil [], .vs .nil [], .vs .nil []]) := by simp only [σ0, AMem.get_push, AMem.next_push, next_empty, zAd, zEq, reduceIte]
  have n0 : σ0.next = 3 := rfl
  obtain ⟨σ1, c1, x1⟩ := tabs_v (k := k) (σ := σ0) lk (tabs.map tabV) 194 [.ptr 1 0] (isNamed sn) (fun e he => by
    obtain ⟨t, _, rfl⟩ := List.mem_map.1 he
    exact ⟨_, rfl, rfl⟩) (by simp; omega) (fun h => by cases h) (fun e he σ' hx => by
    obtain ⟨t, _, rfl⟩ := List.mem_map.1 he
    exact ⟨_, tableIs_callN t ((hx.2 1 (by omega)).trans g1) (by have := hx.1; omega) (by omega), Ext.push _ _⟩) (by simp; omega)
  rw [h1] at c1
  have g0' := (x1.2 0 (by omega)).trans g0
  have g2' := (x1.2 2 (by omega)).trans g2
  have hlt : (i : Int) < tabs.length := by omega
  have hget := tab_get hi
  rw [h2] at hget
  have run : ∃ T1 σ2, execC lawProg (callN lawProg (k + 1)) (k + 1) 173 17 (bodyOf Tryz.f173) (initT 0 [.agg (latC lk tabs s0), .agg [.int .u8 sk, .str sn, .vs dk ds]] .nil) AMem.empty = some (.ret, T1, σ2) ∧ resultsA lawProg T1 σ2 Tryz.f173.results.toList = some [.agg (tabC t)] := by
    simp only [σ0, latC, shpC, tabC] at c1 g0' g2' hget
    simp only [bodyOf, Tryz.f173, Option.getD_some, initT, latC, shpC, tabC, dx, reduceIte, zLt, zLe, zEq, zAd, zMu, zSu, zBe, yEq, yLt, yLe, yTn, reduceCtorEq, sx, fx173, c1, g0', g2', List.length_map, hlt, Int.natCast_nonneg, Int.toNat_natCast, hget]
    refine ⟨_, _, rfl, ?_⟩
    simp only [Tryz.f173, resultsA, resultA, dx, reduceIte, zLt, zLe, zEq, zAd, zMu, zSu, zBe, yEq, yLt, yLe, yTn, reduceCtorEq, sx, fx173]
  obtain ⟨T1, σ2, e1, e2⟩ := run
  obtain ⟨b, h⟩ := pureRun_any (v := .agg (tabC t)) (seen := []) fn173 rfl (by simp [Tryz.f173]) e1 (by simp) e2 rfl
  exact pureCall_of0 (args' := [.agg (latC lk tabs s0), .agg [.int .u8 sk, .str sn, .vs dk ds]]) rfl (memo173 _) h
end Go.Proofs.YtjckhhkhgjbpaaaGreatDoor

/- Which elements are right: the program's isElem. -/
set_option maxRecDepth 100000
set_option linter.unusedSimpArgs false
set_option linter.unusedVariables false
namespace Go.Proofs.YtjckhhkhgjbpaaaGreatDoor
open Go Go.Proofs.YtjckhhkhgjbpaaaGreatDoor.Pale
variable {k : Nat} {σ : AMem}

def plainB (n : Int) (a b : Nat) : Bool := decide (n = 0) && (decide (a = 0) && decide (b = 0))
theorem plain_eq (n : Int) (a b : Nat) : eqBools [.bool (n != 0), .bool (decide ((a : Int) > 0)), .bool (decide ((b : Int) > 0))] [.bool false, .bool false, .bool false] = some (plainB n a b) := by
  have e1 : ((n != 0) == false) = decide (n = 0) := by rw [Bool.eq_iff_iff]; simp
  have e2 : (decide ((a : Int) > 0) == false) = decide (a = 0) := by rw [Bool.eq_iff_iff]; simp
  have e3 : (decide ((b : Int) > 0) == false) = decide (b = 0) := by rw [Bool.eq_iff_iff]; simp
  simp only [eqBools, Option.map_some, e1, e2, e3, plainB, Bool.and_true]
/-- Which elements are right for a shape, as the program asks it; tl says how many elements the table of a name has. -/
def isElB (tl : List UInt8 → Nat) : Nat → Shp → El → Bool
  | 0, _, _ => false
  | d + 1, s, e => e.isBot ||
    (if e.kind = 1 then decide (s.kind = 1) && plainB e.n e.keys.length e.kids.length
    else if e.kind = 3 then decide (s.kind = 4) && plainB e.n e.keys.length e.kids.length
    else if e.kind = 2 then ((decide (s.kind = 2) || decide (s.kind = 4)) && decide (isNum e.n)) && plainB 0 e.keys.length e.kids.length
    else if e.kind = 4 then ((decide (s.kind = 5) && decide (e.n > 0)) && decide (e.n < ((tl s.name : Nat) : Int))) && plainB 0 e.keys.length e.kids.length
    else if e.kind = 5 then ((decide (s.kind = 3) && decide (e.n = 0)) && decide (e.kids.length = 0)) && decide (KeysOk e.keys)
    else if e.kind = 6 then (((decide (s.kind = 6) && decide (e.n = 0)) && decide (KeysOk e.keys)) && decide (e.kids.length = e.keys.length)) && !(e.kids.any fun x => x.isBot || !isElB tl d (s.kid 0) x)
    else if e.kind = 7 then (match e.kids with
      | [a, b] => ((decide (s.kind = 7) && decide (e.n = 0)) && decide (e.keys.length = 0)) && ((isElB tl d (s.kid 0) a && isElB tl d (s.kid 1) b) && !(a.isBot && b.isBot))
      | _ => false)
    else false)
/-- A shape whose kids and names are there. -/
def ShOk (tabs : List Tab) : Nat → Shp → Prop
  | 0, _ => False
  | d + 1, s => (s.kind = 5 → ∃ t, tabs.find? (fun t => t.name == s.name) = some t) ∧ (s.kind = 6 → 1 ≤ s.kids.length) ∧ (s.kind = 7 → 2 ≤ s.kids.length) ∧ ∀ x, x ∈ s.kids → ShOk tabs d x
theorem ShOk.kid {tabs : List Tab} {d : Nat} {s : Shp} (h : ShOk tabs (d + 1) s) {i : Nat} (hi : i < s.kids.length) : ShOk tabs d (s.kid i) := by
  unfold Shp.kid
  rw [List.getElem?_eq_getElem hi]
  exact h.2.2.2 _ (List.getElem_mem hi)
theorem kid_get {s : Shp} {i : Nat} (hi : i < s.kids.length) : (s.kids.map shpV)[i]? = some (.agg (shpC (s.kid i))) := by
  rw [shp_get hi]
  unfold Shp.kid
  rw [List.getElem?_eq_getElem hi]
  rfl

def ElemRuns (lk : VK) (tabs : List Tab) (d k : Nat) : Prop := ∀ (e : El) (dS : Nat) (s s0 : Shp) (σ : AMem), Fit 1000 d e → ShOk tabs dS s → pureCall lawProg (callN lawProg k) (.func 123 [] []) [.agg (latC lk tabs s0), .agg (shpC s), .agg (elC e)] σ = some (.bool (isElB (tlOf tabs) d s e), σ)
theorem isOdd_callN {lk : VK} {tabs : List Tab} {d : Nat} (ih : ElemRuns lk tabs d k) {r3 r4 dS : Nat} {s s0 : Shp} (x : El) (hx : Fit 1000 d x) (hs : ShOk tabs (dS + 1) s) (h1 : 1 ≤ s.kids.length) (g3 : σ.get r3 = some (.row 4 true (latC lk tabs s0))) (g4 : σ.get r4 = some (.row 3 true (shpC s))) (h3 : r3 < σ.next) (h4 : r4 < σ.next) (hk : 1 ≤ k) :
    callN lawProg (k + 1) (.func 175 [] [.ptr r3 0, .ptr r4 0]) [elV x] σ = some (.bool (x.isBot || !isElB (tlOf tabs) d (s.kid 0) x), σ.push (.row 4 true (elC x))) := by
  have hb := fun (σ : AMem) => isBottom_call (k := k) (σ := σ) (x := .agg (elC x)) (S := []) (e := x) (by
    have : snapF false σ snapDepth (.agg (elC x)) = some (.agg (elC x), []) := rfl
    rw [this, elV_eq]) (by omega)
  have hi := fun (σ : AMem) => ih x dS (s.kid 0) s0 σ hx (hs.kid (by omega))
  have q3 : ¬ σ.next = r3 := by omega
  have q4 : ¬ σ.next = r4 := by omega
  have hkid := kid_get (s := s) (i := 0) (by omega)
  have run : ∃ T1, execC lawProg (callN lawProg k) k 175 17 (bodyOf Tryz.f175) (initT 0 [.agg (elC x), .ptr r3 0, .ptr r4 0] .nil) σ = some (.ret, T1, σ.push (.row 4 true (elC x))) ∧ T1.get 4 = some (.bool (x.isBot || !isElB (tlOf tabs) d (s.kid 0) x)) := by
    have e30 : ((0 : Int)).toNat = 0 := rfl
    generalize hkk : s.kid 0 = kid at *
    cases hbb : x.isBot with
    | true =>
      rw [hbb] at hb
      simp only [elC, latC, shpC] at hb hi g3 g4 hkid ⊢
      simp only [bodyOf, Tryz.f175, Option.getD_some, initT, dx, reduceIte, zLt, zLe, zEq, zAd, zMu, zSu, zBe, yEq, yLt, yLe, yTn, reduceCtorEq, sx, fx175, hb, q3, q4, g3, g4]
      exact ⟨_, rfl, by simp only [Tr.get_set, zEq, reduceIte]⟩
    | false =>
      rw [hbb] at hb
      generalize isElB (tlOf tabs) d kid x = B at *
      simp only [elC, latC, shpC] at hb hi g3 g4 hkid ⊢
      simp only [bodyOf, Tryz.f175, Option.getD_some, initT, dx, reduceIte, zLt, zLe, zEq, zAd, zMu, zSu, zBe, yEq, yLt, yLe, yTn, reduceCtorEq, sx, fx175, hb, q3, q4, g3, g4, hkid, Int.le_refl, e30, hi]
      exact ⟨_, rfl, by simp only [Tr.get_set, zEq, reduceIte]⟩
  obtain ⟨T1, e1, e2⟩ := run
  rw [elV_eq]
  exact q_call (first := []) (caps := [.ptr r3 0, .ptr r4 0]) fn175 rfl (by simp [Tryz.f175]) e1 (by simp) (res_one e2)

def ElemRun (lk : VK) (tabs : List Tab) (d k : Nat) (e : El) (s s0 : Shp) : Prop := ∃ T1 σ1, execC lawProg (callN lawProg (k + 3)) (k + 3) 123 194 (bodyOf Tryz.f123) (initT 0 [.agg (latC lk tabs s0), .agg (shpC s), .agg (elC e)] .nil) AMem.empty = some (.ret, T1, σ1) ∧ T1.get 6 = some (.bool (isElB (tlOf tabs) (d + 1) s e))
theorem isElem_k1 {lk : VK} {tabs : List Tab} (hl : tabs.length ≤ 1000) {d dS : Nat} (ih : ElemRuns lk tabs d k) (ih3 : ElemRuns lk tabs d (k + 3)) (hk : 5000 ≤ k) {e : El} {s s0 : Shp} (hfit : Fit 1000 (d + 1) e) (hs : ShOk tabs (dS + 1) s) (hbb : e.isBot = false) (k1 : e.kind = 1) : ElemRun lk tabs d k e s s0 := by
  unfold ElemRun
  obtain ⟨f1, f2, f3⟩ := id hfit
  obtain ⟨z1, z2, z3, z4⟩ := id hs
  have hb := fun (σ : AMem) => isBottom_call (k := k + 3) (σ := σ) (x := .agg (elC e)) (S := []) (e := e) (by
    have : snapF false σ snapDepth (.agg (elC e)) = some (.agg (elC e), []) := rfl
    rw [this, elV_eq]) (by omega)
  have hhas := fun (σ : AMem) (n : Int) => has_call (k := k + 3) (σ := σ) e.kind n e.kk e.dk (intsV e.keys) (e.kids.map elV) (by omega)
  simp only [intsV_length, List.length_map] at hhas
  have hpl := fun (n : Int) => plain_eq n e.keys.length e.kids.length
  have hint := fun (σ : AMem) => isInt_call (k := k + 3) (σ := σ) e.n (by omega)
  have hkeys := fun (σ : AMem) => areKeys_call (k := k + 3) (σ := σ) (x := .vs e.kk (intsV e.keys)) (S := []) (kk := e.kk) (l := e.keys) rfl f1 (by omega)
  have heq : ∀ (a b : Int), (a == b) = decide (a = b) := fun a b => by rw [Bool.eq_iff_iff]; simp
  have hne : ∀ (a b : Int), (a != b) = !decide (a = b) := fun a b => by rw [Bool.eq_iff_iff]; simp
  rw [hbb] at hb
  have b1 : (e.kind == 1) = true := by rw [heq]; exact decide_eq_true k1
  have hr : isElB (tlOf tabs) (d + 1) s e = (decide (s.kind = 1) && plainB e.n e.keys.length e.kids.length) := by rw [isElB, hbb, Bool.false_or]; rw [if_pos k1]
  rw [hr]
  cases c1 : decide (s.kind = 1) with
  | false =>
    have d1 : (s.kind == 1) = false := by rw [heq, c1]
    simp only [elC, latC, shpC] at *
    simp only [bodyOf, Tryz.f123, Option.getD_some, initT, dx, reduceIte, zLt, zLe, zEq, zAd, zMu, zSu, zBe, yEq, yLt, yLe, yTn, reduceCtorEq, sx, fx123, hb, b1, d1]
    exact ⟨_, _, rfl, by simp only [Tr.get_set, zEq, reduceIte, Bool.true_and, Bool.false_and]⟩
  | true =>
    have d1 : (s.kind == 1) = true := by rw [heq, c1]
    simp only [elC, latC, shpC] at *
    simp only [bodyOf, Tryz.f123, Option.getD_some, initT, dx, reduceIte, zLt, zLe, zEq, zAd, zMu, zSu, zBe, yEq, yLt, yLe, yTn, reduceCtorEq, sx, fx123, hb, b1, d1, hhas, hpl, aeq, eqTy, eqAggB, List.length_cons, List.length_nil]
    exact ⟨_, _, rfl, by simp only [Tr.get_set, zEq, reduceIte, Bool.true_and, Bool.false_and]⟩
theorem isElem_k3 {lk : VK} {tabs : List Tab} (hl : tabs.length ≤ 1000) {d dS : Nat} (ih : ElemRuns lk tabs d k) (ih3 : ElemRuns lk tabs d (k + 3)) (hk : 5000 ≤ k) {e : El} {s s0 : Shp} (hfit : Fit 1000 (d + 1) e) (hs : ShOk tabs (dS + 1) s) (hbb : e.isBot = false) (k1 : ¬ e.kind = 1) (k3 : e.kind = 3) : ElemRun lk tabs d k e s s0 := by
  unfold ElemRun
  obtain ⟨f1, f2, f3⟩ := id hfit
  obtain ⟨z1, z2, z3, z4⟩ := id hs
  have hb := fun (σ : AMem) => isBottom_call (k := k + 3) (σ := σ) (x := .agg (elC e)) (S := []) (e := e) (by
    have : snapF false σ snapDepth (.agg (elC e)) = some (.agg (elC e), []) := rfl
    rw [this, elV_eq]) (by omega)
  have hhas := fun (σ : AMem) (n : Int) => has_call (k := k + 3) (σ := σ) e.kind n e.kk e.dk (intsV e.keys) (e.kids.map elV) (by omega)
  simp only [intsV_length, List.length_map] at hhas
  have hpl := fun (n : Int) => plain_eq n e.keys.length e.kids.length
  have hint := fun (σ : AMem) => isInt_call (k := k + 3) (σ := σ) e.n (by omega)
  have hkeys := fun (σ : AMem) => areKeys_call (k := k + 3) (σ := σ) (x := .vs e.kk (intsV e.keys)) (S := []) (kk := e.kk) (l := e.keys) rfl f1 (by omega)
  have heq : ∀ (a b : Int), (a == b) = decide (a = b) := fun a b => by rw [Bool.eq_iff_iff]; simp
  have hne : ∀ (a b : Int), (a != b) = !decide (a = b) := fun a b => by rw [Bool.eq_iff_iff]; simp
  rw [hbb] at hb
  have b3 : (e.kind == 3) = true := by rw [heq]; exact decide_eq_true k3
  have b1 : (e.kind == 1) = false := by rw [heq]; exact decide_eq_false k1
  have hr : isElB (tlOf tabs) (d + 1) s e = (decide (s.kind = 4) && plainB e.n e.keys.length e.kids.length) := by rw [isElB, hbb, Bool.false_or]; rw [if_neg k1]; rw [if_pos k3]
  rw [hr]
  cases c1 : decide (s.kind = 4) with
  | false =>
    have d1 : (s.kind == 4) = false := by rw [heq, c1]
    simp only [elC, latC, shpC] at *
    simp only [bodyOf, Tryz.f123, Option.getD_some, initT, dx, reduceIte, zLt, zLe, zEq, zAd, zMu, zSu, zBe, yEq, yLt, yLe, yTn, reduceCtorEq, sx, fx123, hb, b1, b3, d1]
    exact ⟨_, _, rfl, by simp only [Tr.get_set, zEq, reduceIte, Bool.true_and, Bool.false_and]⟩
  | true =>
    have d1 : (s.kind == 4) = true := by rw [heq, c1]
    simp only [elC, latC, shpC] at *
    simp only [bodyOf, Tryz.f123, Option.getD_some, initT, dx, reduceIte, zLt, zLe, zEq, zAd, zMu, zSu, zBe, yEq, yLt, yLe, yTn, reduceCtorEq, sx, fx123, hb, b1, b3, d1, hhas, hpl, aeq, eqTy, eqAggB, List.length_cons, List.length_nil]
    exact ⟨_, _, rfl, by simp only [Tr.get_set, zEq, reduceIte, Bool.true_and, Bool.false_and]⟩
theorem isElem_k2 {lk : VK} {tabs : List Tab} (hl : tabs.length ≤ 1000) {d dS : Nat} (ih : ElemRuns lk tabs d k) (ih3 : ElemRuns lk tabs d (k + 3)) (hk : 5000 ≤ k) {e : El} {s s0 : Shp} (hfit : Fit 1000 (d + 1) e) (hs : ShOk tabs (dS + 1) s) (hbb : e.isBot = false) (k1 : ¬ e.kind = 1) (k3 : ¬ e.kind = 3) (k2 : e.kind = 2) : ElemRun lk tabs d k e s s0 := by
  unfold ElemRun
  obtain ⟨f1, f2, f3⟩ := id hfit
  obtain ⟨z1, z2, z3, z4⟩ := id hs
  have hb := fun (σ : AMem) => isBottom_call (k := k + 3) (σ := σ) (x := .agg (elC e)) (S := []) (e := e) (by
    have : snapF false σ snapDepth (.agg (elC e)) = some (.agg (elC e), []) := rfl
    rw [this, elV_eq]) (by omega)
  have hhas := fun (σ : AMem) (n : Int) => has_call (k := k + 3) (σ := σ) e.kind n e.kk e.dk (intsV e.keys) (e.kids.map elV) (by omega)
  simp only [intsV_length, List.length_map] at hhas
  have hpl := fun (n : Int) => plain_eq n e.keys.length e.kids.length
  have hint := fun (σ : AMem) => isInt_call (k := k + 3) (σ := σ) e.n (by omega)
  have hkeys := fun (σ : AMem) => areKeys_call (k := k + 3) (σ := σ) (x := .vs e.kk (intsV e.keys)) (S := []) (kk := e.kk) (l := e.keys) rfl f1 (by omega)
  have heq : ∀ (a b : Int), (a == b) = decide (a = b) := fun a b => by rw [Bool.eq_iff_iff]; simp
  have hne : ∀ (a b : Int), (a != b) = !decide (a = b) := fun a b => by rw [Bool.eq_iff_iff]; simp
  rw [hbb] at hb
  have b2 : (e.kind == 2) = true := by rw [heq]; exact decide_eq_true k2
  have b1 : (e.kind == 1) = false := by rw [heq]; exact decide_eq_false k1
  have b3 : (e.kind == 3) = false := by rw [heq]; exact decide_eq_false k3
  have hr : isElB (tlOf tabs) (d + 1) s e = (((decide (s.kind = 2) || decide (s.kind = 4)) && decide (isNum e.n)) && plainB 0 e.keys.length e.kids.length) := by rw [isElB, hbb, Bool.false_or]; rw [if_neg k1]; rw [if_neg k3]; rw [if_pos k2]
  rw [hr]
  cases c1 : decide (s.kind = 2) <;> cases c2 : decide (s.kind = 4) <;> cases c3 : decide (isNum e.n) <;>
  (have d1 := heq s.kind 2
   have d2 := heq s.kind 4
   rw [c1] at d1
   rw [c2] at d2
   rw [c3] at hint
   simp only [elC, latC, shpC] at *
   simp only [bodyOf, Tryz.f123, Option.getD_some, initT, dx, reduceIte, zLt, zLe, zEq, zAd, zMu, zSu, zBe, yEq, yLt, yLe, yTn, reduceCtorEq, sx, fx123, hb, b1, b3, b2, d1, d2, hint, hhas, hpl, aeq, eqTy, eqAggB, List.length_cons, List.length_nil]
   exact ⟨_, _, rfl, by simp only [Tr.get_set, zEq, reduceIte, Bool.true_and, Bool.false_and, Bool.or_true, Bool.or_false]⟩)
theorem isElem_k4 {lk : VK} {tabs : List Tab} (hl : tabs.length ≤ 1000) {d dS : Nat} (ih : ElemRuns lk tabs d k) (ih3 : ElemRuns lk tabs d (k + 3)) (hk : 5000 ≤ k) {e : El} {s s0 : Shp} (hfit : Fit 1000 (d + 1) e) (hs : ShOk tabs (dS + 1) s) (hbb : e.isBot = false) (k1 : ¬ e.kind = 1) (k3 : ¬ e.kind = 3) (k2 : ¬ e.kind = 2) (k4 : e.kind = 4) : ElemRun lk tabs d k e s s0 := by
  unfold ElemRun
  obtain ⟨f1, f2, f3⟩ := id hfit
  obtain ⟨z1, z2, z3, z4⟩ := id hs
  have hb := fun (σ : AMem) => isBottom_call (k := k + 3) (σ := σ) (x := .agg (elC e)) (S := []) (e := e) (by
    have : snapF false σ snapDepth (.agg (elC e)) = some (.agg (elC e), []) := rfl
    rw [this, elV_eq]) (by omega)
  have hhas := fun (σ : AMem) (n : Int) => has_call (k := k + 3) (σ := σ) e.kind n e.kk e.dk (intsV e.keys) (e.kids.map elV) (by omega)
  simp only [intsV_length, List.length_map] at hhas
  have hpl := fun (n : Int) => plain_eq n e.keys.length e.kids.length
  have hint := fun (σ : AMem) => isInt_call (k := k + 3) (σ := σ) e.n (by omega)
  have hkeys := fun (σ : AMem) => areKeys_call (k := k + 3) (σ := σ) (x := .vs e.kk (intsV e.keys)) (S := []) (kk := e.kk) (l := e.keys) rfl f1 (by omega)
  have heq : ∀ (a b : Int), (a == b) = decide (a = b) := fun a b => by rw [Bool.eq_iff_iff]; simp
  have hne : ∀ (a b : Int), (a != b) = !decide (a = b) := fun a b => by rw [Bool.eq_iff_iff]; simp
  rw [hbb] at hb
  have b4 : (e.kind == 4) = true := by rw [heq]; exact decide_eq_true k4
  have b1 : (e.kind == 1) = false := by rw [heq]; exact decide_eq_false k1
  have b3 : (e.kind == 3) = false := by rw [heq]; exact decide_eq_false k3
  have b2 : (e.kind == 2) = false := by rw [heq]; exact decide_eq_false k2
  have hr : isElB (tlOf tabs) (d + 1) s e = (((decide (s.kind = 5) && decide (e.n > 0)) && decide (e.n < ((tlOf tabs s.name : Nat) : Int))) && plainB 0 e.keys.length e.kids.length) := by rw [isElB, hbb, Bool.false_or]; rw [if_neg k1]; rw [if_neg k3]; rw [if_neg k2]; rw [if_pos k4]
  rw [hr]
  by_cases c1 : s.kind = 5
  · obtain ⟨t, ht⟩ := z1 c1
    have htab := fun (σ : AMem) => table_call (k := k + 3) (σ := σ) lk s.dk tabs s0 s.kind s.name (s.kids.map shpV) ht hl (by omega)
    have htl : tlOf tabs s.name = t.elems.length := by unfold tlOf; rw [ht]
    rw [htl, decide_eq_true c1]
    have d1 : (s.kind == 5) = true := by rw [heq]; exact decide_eq_true c1
    cases c2 : decide (e.n > 0) <;> cases c3 : decide (e.n < ((t.elems.length : Nat) : Int)) <;>
    (simp only [decide_eq_true_eq, decide_eq_false_iff_not] at c2 c3
     simp only [elC, latC, shpC, tabC] at *
     simp only [bodyOf, Tryz.f123, Option.getD_some, initT, dx, reduceIte, zLt, zLe, zEq, zAd, zMu, zSu, zBe, yEq, yLt, yLe, yTn, reduceCtorEq, sx, fx123, hb, b1, b3, b2, b4, d1, c2, c3, htab, List.length_map, hhas, hpl, aeq, eqTy, eqAggB, List.length_cons, List.length_nil]
     exact ⟨_, _, rfl, by simp only [Tr.get_set, zEq, reduceIte, Bool.true_and, Bool.false_and]⟩)
  · have d1 : (s.kind == 5) = false := by rw [heq]; exact decide_eq_false c1
    rw [decide_eq_false c1]
    simp only [elC, latC, shpC] at *
    simp only [bodyOf, Tryz.f123, Option.getD_some, initT, dx, reduceIte, zLt, zLe, zEq, zAd, zMu, zSu, zBe, yEq, yLt, yLe, yTn, reduceCtorEq, sx, fx123, hb, b1, b3, b2, b4, d1]
    exact ⟨_, _, rfl, by simp only [Tr.get_set, zEq, reduceIte, Bool.false_and]⟩
theorem isElem_k5 {lk : VK} {tabs : List Tab} (hl : tabs.length ≤ 1000) {d dS : Nat} (ih : ElemRuns lk tabs d k) (ih3 : ElemRuns lk tabs d (k + 3)) (hk : 5000 ≤ k) {e : El} {s s0 : Shp} (hfit : Fit 1000 (d + 1) e) (hs : ShOk tabs (dS + 1) s) (hbb : e.isBot = false) (k1 : ¬ e.kind = 1) (k3 : ¬ e.kind = 3) (k2 : ¬ e.kind = 2) (k4 : ¬ e.kind = 4) (k5 : e.kind = 5) : ElemRun lk tabs d k e s s0 := by
  unfold ElemRun
  obtain ⟨f1, f2, f3⟩ := id hfit
  obtain ⟨z1, z2, z3, z4⟩ := id hs
  have hb := fun (σ : AMem) => isBottom_call (k := k + 3) (σ := σ) (x := .agg (elC e)) (S := []) (e := e) (by
    have : snapF false σ snapDepth (.agg (elC e)) = some (.agg (elC e), []) := rfl
    rw [this, elV_eq]) (by omega)
  have hhas := fun (σ : AMem) (n : Int) => has_call (k := k + 3) (σ := σ) e.kind n e.kk e.dk (intsV e.keys) (e.kids.map elV) (by omega)
  simp only [intsV_length, List.length_map] at hhas
  have hpl := fun (n : Int) => plain_eq n e.keys.length e.kids.length
  have hint := fun (σ : AMem) => isInt_call (k := k + 3) (σ := σ) e.n (by omega)
  have hkeys := fun (σ : AMem) => areKeys_call (k := k + 3) (σ := σ) (x := .vs e.kk (intsV e.keys)) (S := []) (kk := e.kk) (l := e.keys) rfl f1 (by omega)
  have heq : ∀ (a b : Int), (a == b) = decide (a = b) := fun a b => by rw [Bool.eq_iff_iff]; simp
  have hne : ∀ (a b : Int), (a != b) = !decide (a = b) := fun a b => by rw [Bool.eq_iff_iff]; simp
  rw [hbb] at hb
  have b5 : (e.kind == 5) = true := by rw [heq]; exact decide_eq_true k5
  have b1 : (e.kind == 1) = false := by rw [heq]; exact decide_eq_false k1
  have b3 : (e.kind == 3) = false := by rw [heq]; exact decide_eq_false k3
  have b2 : (e.kind == 2) = false := by rw [heq]; exact decide_eq_false k2
  have b4 : (e.kind == 4) = false := by rw [heq]; exact decide_eq_false k4
  have hr : isElB (tlOf tabs) (d + 1) s e = (((decide (s.kind = 3) && decide (e.n = 0)) && decide (e.kids.length = 0)) && decide (KeysOk e.keys)) := by rw [isElB, hbb, Bool.false_or]; rw [if_neg k1]; rw [if_neg k3]; rw [if_neg k2]; rw [if_neg k4]; rw [if_pos k5]
  rw [hr]
  cases c1 : decide (s.kind = 3) <;> cases c2 : decide (e.n = 0) <;> cases c3 : decide (e.kids.length = 0) <;>
  (have d1 := heq s.kind 3
   have d2 := heq e.n 0
   have d3 := natz e.kids.length
   rw [c1] at d1
   rw [c2] at d2
   rw [c3] at d3
   simp only [elC, latC, shpC] at *
   simp only [bodyOf, Tryz.f123, Option.getD_some, initT, dx, reduceIte, zLt, zLe, zEq, zAd, zMu, zSu, zBe, yEq, yLt, yLe, yTn, reduceCtorEq, sx, fx123, hb, b1, b3, b2, b4, b5, d1, d2, d3, hkeys, List.length_map]
   exact ⟨_, _, rfl, by simp only [Tr.get_set, zEq, reduceIte, Bool.true_and, Bool.false_and]⟩)
theorem isElem_k6 {lk : VK} {tabs : List Tab} (hl : tabs.length ≤ 1000) {d dS : Nat} (ih : ElemRuns lk tabs d k) (ih3 : ElemRuns lk tabs d (k + 3)) (hk : 5000 ≤ k) {e : El} {s s0 : Shp} (hfit : Fit 1000 (d + 1) e) (hs : ShOk tabs (dS + 1) s) (hbb : e.isBot = false) (k1 : ¬ e.kind = 1) (k3 : ¬ e.kind = 3) (k2 : ¬ e.kind = 2) (k4 : ¬ e.kind = 4) (k5 : ¬ e.kind = 5) (k6 : e.kind = 6) : ElemRun lk tabs d k e s s0 := by
  unfold ElemRun
  obtain ⟨f1, f2, f3⟩ := id hfit
  obtain ⟨z1, z2, z3, z4⟩ := id hs
  have hb := fun (σ : AMem) => isBottom_call (k := k + 3) (σ := σ) (x := .agg (elC e)) (S := []) (e := e) (by
    have : snapF false σ snapDepth (.agg (elC e)) = some (.agg (elC e), []) := rfl
    rw [this, elV_eq]) (by omega)
  have hhas := fun (σ : AMem) (n : Int) => has_call (k := k + 3) (σ := σ) e.kind n e.kk e.dk (intsV e.keys) (e.kids.map elV) (by omega)
  simp only [intsV_length, List.length_map] at hhas
  have hpl := fun (n : Int) => plain_eq n e.keys.length e.kids.length
  have hint := fun (σ : AMem) => isInt_call (k := k + 3) (σ := σ) e.n (by omega)
  have hkeys := fun (σ : AMem) => areKeys_call (k := k + 3) (σ := σ) (x := .vs e.kk (intsV e.keys)) (S := []) (kk := e.kk) (l := e.keys) rfl f1 (by omega)
  have heq : ∀ (a b : Int), (a == b) = decide (a = b) := fun a b => by rw [Bool.eq_iff_iff]; simp
  have hne : ∀ (a b : Int), (a != b) = !decide (a = b) := fun a b => by rw [Bool.eq_iff_iff]; simp
  rw [hbb] at hb
  have b6 : (e.kind == 6) = true := by rw [heq]; exact decide_eq_true k6
  have b1 : (e.kind == 1) = false := by rw [heq]; exact decide_eq_false k1
  have b3 : (e.kind == 3) = false := by rw [heq]; exact decide_eq_false k3
  have b2 : (e.kind == 2) = false := by rw [heq]; exact decide_eq_false k2
  have b4 : (e.kind == 4) = false := by rw [heq]; exact decide_eq_false k4
  have b5 : (e.kind == 5) = false := by rw [heq]; exact decide_eq_false k5
  have hr : isElB (tlOf tabs) (d + 1) s e = ((((decide (s.kind = 6) && decide (e.n = 0)) && decide (KeysOk e.keys)) && decide (e.kids.length = e.keys.length)) && !(e.kids.any fun x => x.isBot || !isElB (tlOf tabs) d (s.kid 0) x)) := by rw [isElB, hbb, Bool.false_or]; rw [if_neg k1]; rw [if_neg k3]; rw [if_neg k2]; rw [if_neg k4]; rw [if_neg k5]; rw [if_pos k6]
  rw [hr]
  have d4 : (((e.kids.length : Nat) : Int) == ((e.keys.length : Nat) : Int)) = decide (e.kids.length = e.keys.length) := by rw [heq, decide_eq_decide]; omega
  by_cases c1 : s.kind = 6
  · let σ0 : AMem := (((AMem.empty.push (.row 4 true (latC lk tabs s0))).push (.row 3 true (shpC s))).push (.row 4 true (elC e))).push (.row 3 true [.bool false, .bool false, .bool false])
    have n0 : σ0.next = 4 := rfl
    have g0 : σ0.get 0 = some (.row 4 true (latC lk tabs s0)) := by simp only [σ0, AMem.get_push, AMem.next_push, next_empty, zAd, zEq, reduceIte]
    have g1 : σ0.get 1 = some (.row 3 true (shpC s)) := by simp only [σ0, AMem.get_push, AMem.next_push, next_empty, zAd, zEq, reduceIte]
    have keep : ∀ (σ1 : AMem), σ1.next = 4 → σ1.get 0 = σ0.get 0 → σ1.get 1 = σ0.get 1 → ∃ σ', callN lawProg (k + 3) (.func 162 [] []) [.vs e.dk (e.kids.map elV), .func 175 [] [.ptr 0 0, .ptr 1 0]] σ1 = some (.bool (e.kids.any fun x => x.isBot || !isElB (tlOf tabs) d (s.kid 0) x), σ') := fun σ1 hn h0 h1 => by
      obtain ⟨σ', hc, _⟩ := elems_has_v (k := k + 1) (σ := σ1) e.dk (e.kids.map elV) 175 [.ptr 0 0, .ptr 1 0] (viaP elV fun x => x.isBot || !isElB (tlOf tabs) d (s.kid 0) x) (fun v hv => by
        obtain ⟨x, _, rfl⟩ := List.mem_map.1 hv
        exact ⟨elC x, elV_eq x, rfl⟩) (by rw [List.length_map]; omega) (fun h => by cases h) (fun v hv σ2 hx => by
        obtain ⟨x, hxm, rfl⟩ := List.mem_map.1 hv
        rw [viaP_eq (f := elV) elV_inj]
        exact ⟨_, isOdd_callN ih x (f3 x hxm) hs (z2 c1) ((hx.2 0 (by omega)).trans (h0.trans g0)) ((hx.2 1 (by omega)).trans (h1.trans g1)) (by have := hx.1; omega) (by have := hx.1; omega) (by omega), Ext.push _ _⟩) (by rw [List.length_map]; omega)
      rw [viaP_any elV_inj] at hc
      exact ⟨σ', hc⟩
    obtain ⟨σ', hc⟩ := keep (σ0.put 3 (.row 3 true [.bool false, .bool false, .bool false])) (by simp [n0]) (by rw [AMem.get_put, if_neg (by decide)]) (by rw [AMem.get_put, if_neg (by decide)])
    generalize (e.kids.any fun x => x.isBot || !isElB (tlOf tabs) d (s.kid 0) x) = B at *
    rw [decide_eq_true c1]
    have d1 : (s.kind == 6) = true := by rw [heq]; exact decide_eq_true c1
    simp only [σ0] at hc
    clear keep g0 g1 n0
    cases c2 : decide (e.n = 0) <;> cases c3 : decide (KeysOk e.keys) <;> cases c4 : decide (e.kids.length = e.keys.length) <;>
    (have d2 := heq e.n 0
     rw [c2] at d2
     rw [c3] at hkeys
     rw [c4] at d4
     simp only [elC, latC, shpC] at *
     simp only [bodyOf, Tryz.f123, Option.getD_some, initT, dx, reduceIte, zLt, zLe, zEq, zAd, zMu, zSu, zBe, yEq, yLt, yLe, yTn, reduceCtorEq, sx, fx123, hb, b1, b3, b2, b4, b5, b6, d1, d2, d4, hkeys, intsV_length, List.length_map, hc]
     exact ⟨_, _, rfl, by simp only [Tr.get_set, zEq, reduceIte, Bool.true_and, Bool.false_and]⟩)
  · have d1 : (s.kind == 6) = false := by rw [heq]; exact decide_eq_false c1
    rw [decide_eq_false c1]
    simp only [elC, latC, shpC] at *
    simp only [bodyOf, Tryz.f123, Option.getD_some, initT, dx, reduceIte, zLt, zLe, zEq, zAd, zMu, zSu, zBe, yEq, yLt, yLe, yTn, reduceCtorEq, sx, fx123, hb, b1, b3, b2, b4, b5, b6, d1]
    exact ⟨_, _, rfl, by simp only [Tr.get_set, zEq, reduceIte, Bool.false_and]⟩
set_option maxHeartbeats 2000000 in
theorem isElem_k7 {lk : VK} {tabs : List Tab} (hl : tabs.length ≤ 1000) {d dS : Nat} (ih : ElemRuns lk tabs d k) (ih3 : ElemRuns lk tabs d (k + 3)) (hk : 5000 ≤ k) {e : El} {s s0 : Shp} (hfit : Fit 1000 (d + 1) e) (hs : ShOk tabs (dS + 1) s) (hbb : e.isBot = false) (k1 : ¬ e.kind = 1) (k3 : ¬ e.kind = 3) (k2 : ¬ e.kind = 2) (k4 : ¬ e.kind = 4) (k5 : ¬ e.kind = 5) (k6 : ¬ e.kind = 6) (k7 : e.kind = 7) : ElemRun lk tabs d k e s s0 := by
  unfold ElemRun
  obtain ⟨f1, f2, f3⟩ := id hfit
  obtain ⟨z1, z2, z3, z4⟩ := id hs
  have hb := fun (σ : AMem) => isBottom_call (k := k + 3) (σ := σ) (x := .agg (elC e)) (S := []) (e := e) (by
    have : snapF false σ snapDepth (.agg (elC e)) = some (.agg (elC e), []) := rfl
    rw [this, elV_eq]) (by omega)
  have hhas := fun (σ : AMem) (n : Int) => has_call (k := k + 3) (σ := σ) e.kind n e.kk e.dk (intsV e.keys) (e.kids.map elV) (by omega)
  simp only [intsV_length, List.length_map] at hhas
  have hpl := fun (n : Int) => plain_eq n e.keys.length e.kids.length
  have hint := fun (σ : AMem) => isInt_call (k := k + 3) (σ := σ) e.n (by omega)
  have hkeys := fun (σ : AMem) => areKeys_call (k := k + 3) (σ := σ) (x := .vs e.kk (intsV e.keys)) (S := []) (kk := e.kk) (l := e.keys) rfl f1 (by omega)
  have heq : ∀ (a b : Int), (a == b) = decide (a = b) := fun a b => by rw [Bool.eq_iff_iff]; simp
  have hne : ∀ (a b : Int), (a != b) = !decide (a = b) := fun a b => by rw [Bool.eq_iff_iff]; simp
  rw [hbb] at hb
  have b7 : (e.kind == 7) = true := by rw [heq]; exact decide_eq_true k7
  have b1 : (e.kind == 1) = false := by rw [heq]; exact decide_eq_false k1
  have b3 : (e.kind == 3) = false := by rw [heq]; exact decide_eq_false k3
  have b2 : (e.kind == 2) = false := by rw [heq]; exact decide_eq_false k2
  have b4 : (e.kind == 4) = false := by rw [heq]; exact decide_eq_false k4
  have b5 : (e.kind == 5) = false := by rw [heq]; exact decide_eq_false k5
  have b6 : (e.kind == 6) = false := by rw [heq]; exact decide_eq_false k6
  have hr : isElB (tlOf tabs) (d + 1) s e = (match e.kids with
      | [a, b] => ((decide (s.kind = 7) && decide (e.n = 0)) && decide (e.keys.length = 0)) && ((isElB (tlOf tabs) d (s.kid 0) a && isElB (tlOf tabs) d (s.kid 1) b) && !(a.isBot && b.isBot))
      | _ => false) := by rw [isElB, hbb, Bool.false_or]; rw [if_neg k1]; rw [if_neg k3]; rw [if_neg k2]; rw [if_neg k4]; rw [if_neg k5]; rw [if_neg k6]; rw [if_pos k7]
  rw [hr]
  have d2 := hne e.n 0
  have d3 : (((e.keys.length : Nat) : Int) > 0) ↔ ¬ e.keys.length = 0 := by omega
  by_cases c1 : s.kind = 7
  · have d1 : (s.kind != 7) = false := by rw [hne, decide_eq_true c1]; rfl
    by_cases c4 : e.kids.length = 2
    · obtain ⟨a, b, hab⟩ : ∃ a b, e.kids = [a, b] := by
        match e.kids, c4 with
        | [a, b], _ => exact ⟨a, b, rfl⟩
      rw [hab]
      simp only
      have ha := fun (σ : AMem) => ih3 a dS (s.kid 0) s0 σ (f3 a (by rw [hab]; simp)) (hs.kid (by have := z3 c1; omega))
      have hb2 := fun (σ : AMem) => ih3 b dS (s.kid 1) s0 σ (f3 b (by rw [hab]; simp)) (hs.kid (by have := z3 c1; omega))
      have hba := fun (σ : AMem) => isBottom_call (k := k + 3) (σ := σ) (x := .agg (elC a)) (S := []) (e := a) (by
        have : snapF false σ snapDepth (.agg (elC a)) = some (.agg (elC a), []) := rfl
        rw [this, elV_eq]) (by omega)
      have hbb2 := fun (σ : AMem) => isBottom_call (k := k + 3) (σ := σ) (x := .agg (elC b)) (S := []) (e := b) (by
        have : snapF false σ snapDepth (.agg (elC b)) = some (.agg (elC b), []) := rfl
        rw [this, elV_eq]) (by omega)
      have kg0 := kid_get (s := s) (i := 0) (by have := z3 c1; omega)
      have kg1 := kid_get (s := s) (i := 1) (by have := z3 c1; omega)
      have e0 : (e.kids.map elV)[0]? = some (.agg (elC a)) := by rw [hab]; simp [elV_eq]
      have e1 : (e.kids.map elV)[1]? = some (.agg (elC b)) := by rw [hab]; simp [elV_eq]
      have d5 : (((e.kids.length : Nat) : Int) != 2) = false := by rw [c4]; rfl
      have t1 : ((1 : Int)).toNat = 1 := rfl
      have t0 : ((0 : Int)).toNat = 0 := rfl
      have l1 : (0 : Int) ≤ 1 := by decide
      rw [decide_eq_true c1]
      generalize isElB (tlOf tabs) d (s.kid 0) a = A at *
      generalize isElB (tlOf tabs) d (s.kid 1) b = B at *
      generalize a.isBot = U at *
      generalize b.isBot = V at *
      generalize s.kid 0 = S0 at *
      generalize s.kid 1 = S1 at *
      by_cases c2 : e.n = 0
      · by_cases c3 : e.keys.length = 0
        · have d3' : ¬ (((e.keys.length : Nat) : Int) > 0) := by omega
          rw [decide_eq_true c2] at d2 ⊢
          rw [decide_eq_true c3]
          clear hr hab hfit f3 d3 hhas hpl
          cases A with
          | false =>
            simp only [elC, latC, shpC] at *
            simp only [bodyOf, Tryz.f123, Option.getD_some, initT, dx, reduceIte, zLt, zLe, zEq, zAd, zMu, zSu, zBe, yEq, yLt, yLe, yTn, reduceCtorEq, sx, fx123, hb, b1, b3, b2, b4, b5, b6, b7, d1, d2, d3', d5, intsV_length, List.length_map, kg0, kg1, e0, e1, t0, t1, l1, Int.le_refl, ha, hb2, hba, hbb2]
            exact ⟨_, _, rfl, by simp only [Tr.get_set, zEq, reduceIte, Bool.and_true, Bool.true_and, Bool.and_false, Bool.false_and, Bool.not_false, Bool.not_true, Bool.and_self]⟩
          | true =>
            cases B with
            | false =>
              simp only [elC, latC, shpC] at *
              simp only [bodyOf, Tryz.f123, Option.getD_some, initT, dx, reduceIte, zLt, zLe, zEq, zAd, zMu, zSu, zBe, yEq, yLt, yLe, yTn, reduceCtorEq, sx, fx123, hb, b1, b3, b2, b4, b5, b6, b7, d1, d2, d3', d5, intsV_length, List.length_map, kg0, kg1, e0, e1, t0, t1, l1, Int.le_refl, ha, hb2, hba, hbb2]
              exact ⟨_, _, rfl, by simp only [Tr.get_set, zEq, reduceIte, Bool.and_true, Bool.true_and, Bool.and_false, Bool.false_and, Bool.not_false, Bool.not_true, Bool.and_self]⟩
            | true =>
              cases U with
              | false =>
                simp only [elC, latC, shpC] at *
                simp only [bodyOf, Tryz.f123, Option.getD_some, initT, dx, reduceIte, zLt, zLe, zEq, zAd, zMu, zSu, zBe, yEq, yLt, yLe, yTn, reduceCtorEq, sx, fx123, hb, b1, b3, b2, b4, b5, b6, b7, d1, d2, d3', d5, intsV_length, List.length_map, kg0, kg1, e0, e1, t0, t1, l1, Int.le_refl, ha, hb2, hba, hbb2]
                exact ⟨_, _, rfl, by simp only [Tr.get_set, zEq, reduceIte, Bool.and_true, Bool.true_and, Bool.and_false, Bool.false_and, Bool.not_false, Bool.not_true, Bool.and_self]⟩
              | true =>
                simp only [elC, latC, shpC] at *
                simp only [bodyOf, Tryz.f123, Option.getD_some, initT, dx, reduceIte, zLt, zLe, zEq, zAd, zMu, zSu, zBe, yEq, yLt, yLe, yTn, reduceCtorEq, sx, fx123, hb, b1, b3, b2, b4, b5, b6, b7, d1, d2, d3', d5, intsV_length, List.length_map, kg0, kg1, e0, e1, t0, t1, l1, Int.le_refl, ha, hb2, hba, hbb2]
                exact ⟨_, _, rfl, by simp only [Tr.get_set, zEq, reduceIte, Bool.and_true, Bool.true_and, Bool.and_false, Bool.false_and, Bool.not_false, Bool.not_true, Bool.and_self]⟩
        · have d3' := d3.2 c3
          rw [decide_eq_true c2] at d2 ⊢
          rw [decide_eq_false c3]
          clear hr hab hfit f3 d3 hhas hpl
          simp only [elC, latC, shpC] at *
          simp only [bodyOf, Tryz.f123, Option.getD_some, initT, dx, reduceIte, zLt, zLe, zEq, zAd, zMu, zSu, zBe, yEq, yLt, yLe, yTn, reduceCtorEq, sx, fx123, hb, b1, b3, b2, b4, b5, b6, b7, d1, d2, d3', intsV_length]
          exact ⟨_, _, rfl, by simp only [Tr.get_set, zEq, reduceIte, Bool.and_true, Bool.true_and, Bool.and_false, Bool.false_and]⟩
      · rw [decide_eq_false c2] at d2 ⊢
        clear hr hab hfit f3 d3 hhas hpl
        simp only [elC, latC, shpC] at *
        simp only [bodyOf, Tryz.f123, Option.getD_some, initT, dx, reduceIte, zLt, zLe, zEq, zAd, zMu, zSu, zBe, yEq, yLt, yLe, yTn, reduceCtorEq, sx, fx123, hb, b1, b3, b2, b4, b5, b6, b7, d1, d2]
        exact ⟨_, _, rfl, by simp only [Tr.get_set, zEq, reduceIte, Bool.and_true, Bool.true_and, Bool.and_false, Bool.false_and]⟩
    · have hm : (match e.kids with
        | [a, b] => ((decide (s.kind = 7) && decide (e.n = 0)) && decide (e.keys.length = 0)) && ((isElB (tlOf tabs) d (s.kid 0) a && isElB (tlOf tabs) d (s.kid 1) b) && !(a.isBot && b.isBot))
        | _ => false) = false := by
        split
        · rename_i a b hab; rw [hab] at c4; exact absurd rfl c4
        · rfl
      rw [hm]
      have d5 : (((e.kids.length : Nat) : Int) != 2) = true := by rw [hne, decide_eq_false (by omega)]; rfl
      clear hm hr
      by_cases c2 : e.n = 0
      · rw [decide_eq_true c2] at d2
        by_cases c3 : e.keys.length = 0
        · have d3' : ¬ (((e.keys.length : Nat) : Int) > 0) := by omega
          simp only [elC, latC, shpC] at *
          simp only [bodyOf, Tryz.f123, Option.getD_some, initT, dx, reduceIte, zLt, zLe, zEq, zAd, zMu, zSu, zBe, yEq, yLt, yLe, yTn, reduceCtorEq, sx, fx123, hb, b1, b3, b2, b4, b5, b6, b7, d1, d2, d3', d5, intsV_length, List.length_map]
          exact ⟨_, _, rfl, by simp only [Tr.get_set, zEq, reduceIte]⟩
        · have d3' := d3.2 c3
          simp only [elC, latC, shpC] at *
          simp only [bodyOf, Tryz.f123, Option.getD_some, initT, dx, reduceIte, zLt, zLe, zEq, zAd, zMu, zSu, zBe, yEq, yLt, yLe, yTn, reduceCtorEq, sx, fx123, hb, b1, b3, b2, b4, b5, b6, b7, d1, d2, d3', intsV_length, List.length_map]
          exact ⟨_, _, rfl, by simp only [Tr.get_set, zEq, reduceIte]⟩
      · rw [decide_eq_false c2] at d2
        simp only [elC, latC, shpC] at *
        simp only [bodyOf, Tryz.f123, Option.getD_some, initT, dx, reduceIte, zLt, zLe, zEq, zAd, zMu, zSu, zBe, yEq, yLt, yLe, yTn, reduceCtorEq, sx, fx123, hb, b1, b3, b2, b4, b5, b6, b7, d1, d2]
        exact ⟨_, _, rfl, by simp only [Tr.get_set, zEq, reduceIte]⟩
  · have d1 : (s.kind != 7) = true := by rw [hne, decide_eq_false c1]; rfl
    have hm : (match e.kids with
      | [a, b] => ((decide (s.kind = 7) && decide (e.n = 0)) && decide (e.keys.length = 0)) && ((isElB (tlOf tabs) d (s.kid 0) a && isElB (tlOf tabs) d (s.kid 1) b) && !(a.isBot && b.isBot))
      | _ => false) = false := by
      split
      · rw [decide_eq_false c1]; rfl
      · rfl
    rw [hm]
    clear hm hr
    simp only [elC, latC, shpC] at *
    simp only [bodyOf, Tryz.f123, Option.getD_some, initT, dx, reduceIte, zLt, zLe, zEq, zAd, zMu, zSu, zBe, yEq, yLt, yLe, yTn, reduceCtorEq, sx, fx123, hb, b1, b3, b2, b4, b5, b6, b7, d1]
    exact ⟨_, _, rfl, by simp only [Tr.get_set, zEq, reduceIte]⟩
theorem isElem_k0 {lk : VK} {tabs : List Tab} (hl : tabs.length ≤ 1000) {d dS : Nat} (ih : ElemRuns lk tabs d k) (ih3 : ElemRuns lk tabs d (k + 3)) (hk : 5000 ≤ k) {e : El} {s s0 : Shp} (hfit : Fit 1000 (d + 1) e) (hs : ShOk tabs (dS + 1) s) (hbb : e.isBot = false) (k1 : ¬ e.kind = 1) (k3 : ¬ e.kind = 3) (k2 : ¬ e.kind = 2) (k4 : ¬ e.kind = 4) (k5 : ¬ e.kind = 5) (k6 : ¬ e.kind = 6) (k7 : ¬ e.kind = 7) : ElemRun lk tabs d k e s s0 := by
  unfold ElemRun
  obtain ⟨f1, f2, f3⟩ := id hfit
  obtain ⟨z1, z2, z3, z4⟩ := id hs
  have hb := fun (σ : AMem) => isBottom_call (k := k + 3) (σ := σ) (x := .agg (elC e)) (S := []) (e := e) (by
    have : snapF false σ snapDepth (.agg (elC e)) = some (.agg (elC e), []) := rfl
    rw [this, elV_eq]) (by omega)
  have hhas := fun (σ : AMem) (n : Int) => has_call (k := k + 3) (σ := σ) e.kind n e.kk e.dk (intsV e.keys) (e.kids.map elV) (by omega)
  simp only [intsV_length, List.length_map] at hhas
  have hpl := fun (n : Int) => plain_eq n e.keys.length e.kids.length
  have hint := fun (σ : AMem) => isInt_call (k := k + 3) (σ := σ) e.n (by omega)
  have hkeys := fun (σ : AMem) => areKeys_call (k := k + 3) (σ := σ) (x := .vs e.kk (intsV e.keys)) (S := []) (kk := e.kk) (l := e.keys) rfl f1 (by omega)
  have heq : ∀ (a b : Int), (a == b) = decide (a = b) := fun a b => by rw [Bool.eq_iff_iff]; simp
  have hne : ∀ (a b : Int), (a != b) = !decide (a = b) := fun a b => by rw [Bool.eq_iff_iff]; simp
  rw [hbb] at hb
  have b1 : (e.kind == 1) = false := by rw [heq]; exact decide_eq_false k1
  have b3 : (e.kind == 3) = false := by rw [heq]; exact decide_eq_false k3
  have b2 : (e.kind == 2) = false := by rw [heq]; exact decide_eq_false k2
  have b4 : (e.kind == 4) = false := by rw [heq]; exact decide_eq_false k4
  have b5 : (e.kind == 5) = false := by rw [heq]; exact decide_eq_false k5
  have b6 : (e.kind == 6) = false := by rw [heq]; exact decide_eq_false k6
  have b7 : (e.kind == 7) = false := by rw [heq]; exact decide_eq_false k7
  have hr : isElB (tlOf tabs) (d + 1) s e = false := by rw [isElB, hbb, Bool.false_or]; rw [if_neg k1]; rw [if_neg k3]; rw [if_neg k2]; rw [if_neg k4]; rw [if_neg k5]; rw [if_neg k6]; rw [if_neg k7]
  rw [hr]
  simp only [elC, latC, shpC] at *
  simp only [bodyOf, Tryz.f123, Option.getD_some, initT, dx, reduceIte, zLt, zLe, zEq, zAd, zMu, zSu, zBe, yEq, yLt, yLe, yTn, reduceCtorEq, sx, fx123, hb, b1, b3, b2, b4, b5, b6, b7]
  exact ⟨_, _, rfl, by simp only [Tr.get_set, zEq, reduceIte]⟩
theorem isElem_step {lk : VK} {tabs : List Tab} (hl : tabs.length ≤ 1000) {d : Nat} (ih : ElemRuns lk tabs d k) (ih3 : ElemRuns lk tabs d (k + 3)) (hk : 5000 ≤ k) : ElemRuns lk tabs (d + 1) (k + 4) := by
  intro e dS0 s s0 σ hfit hs0
  obtain ⟨dS, rfl⟩ : ∃ q, dS0 = q + 1 := by
    cases dS0 with
    | zero => exact hs0.elim
    | succ q => exact ⟨q, rfl⟩
  have hs : ShOk tabs (dS + 1) s := hs0
  obtain ⟨f1, f2, f3⟩ := id hfit
  obtain ⟨z1, z2, z3, z4⟩ := id hs
  have hb := fun (σ : AMem) => isBottom_call (k := k + 3) (σ := σ) (x := .agg (elC e)) (S := []) (e := e) (by
    have : snapF false σ snapDepth (.agg (elC e)) = some (.agg (elC e), []) := rfl
    rw [this, elV_eq]) (by omega)
  have hhas := fun (σ : AMem) (n : Int) => has_call (k := k + 3) (σ := σ) e.kind n e.kk e.dk (intsV e.keys) (e.kids.map elV) (by omega)
  simp only [intsV_length, List.length_map] at hhas
  have hpl := fun (n : Int) => plain_eq n e.keys.length e.kids.length
  have hint := fun (σ : AMem) => isInt_call (k := k + 3) (σ := σ) e.n (by omega)
  have hkeys := fun (σ : AMem) => areKeys_call (k := k + 3) (σ := σ) (x := .vs e.kk (intsV e.keys)) (S := []) (kk := e.kk) (l := e.keys) rfl f1 (by omega)
  have heq : ∀ (a b : Int), (a == b) = decide (a = b) := fun a b => by rw [Bool.eq_iff_iff]; simp
  have hne : ∀ (a b : Int), (a != b) = !decide (a = b) := fun a b => by rw [Bool.eq_iff_iff]; simp
  have run : ElemRun lk tabs d k e s s0 := by
    cases hbb : e.isBot with
    | true =>
      unfold ElemRun
      rw [hbb] at hb
      have hr : isElB (tlOf tabs) (d + 1) s e = true := by rw [isElB, hbb]; rfl
      rw [hr]
      simp only [elC, latC, shpC] at hb ⊢
      simp only [bodyOf, Tryz.f123, Option.getD_some, initT, dx, reduceIte, zLt, zLe, zEq, zAd, zMu, zSu, zBe, yEq, yLt, yLe, yTn, reduceCtorEq, sx, fx123, hb]
      exact ⟨_, _, rfl, by simp only [Tr.get_set, zEq, reduceIte]⟩
    | false =>
      by_cases k1 : e.kind = 1
      · exact isElem_k1 hl ih ih3 hk hfit hs hbb k1
      by_cases k3 : e.kind = 3
      · exact isElem_k3 hl ih ih3 hk hfit hs hbb k1 k3
      by_cases k2 : e.kind = 2
      · exact isElem_k2 hl ih ih3 hk hfit hs hbb k1 k3 k2
      by_cases k4 : e.kind = 4
      · exact isElem_k4 hl ih ih3 hk hfit hs hbb k1 k3 k2 k4
      by_cases k5 : e.kind = 5
      · exact isElem_k5 hl ih ih3 hk hfit hs hbb k1 k3 k2 k4 k5
      by_cases k6 : e.kind = 6
      · exact isElem_k6 hl ih ih3 hk hfit hs hbb k1 k3 k2 k4 k5 k6
      by_cases k7 : e.kind = 7
      · exact isElem_k7 hl ih ih3 hk hfit hs hbb k1 k3 k2 k4 k5 k6 k7
      exact isElem_k0 hl ih ih3 hk hfit hs hbb k1 k3 k2 k4 k5 k6 k7
  obtain ⟨T1, σ1, h1, h2⟩ := run
  exact pureCall_of rfl (memo123 _) (pureRun_of fn123 rfl (by simp [Tryz.f123]) h1 (by simp) (res_one h2) rfl)
end Go.Proofs.YtjckhhkhgjbpaaaGreatDoor

/- elem.open, elem.Check. -/
set_option maxRecDepth 100000
set_option linter.unusedSimpArgs false
set_option linter.unusedVariables false
namespace Go.Proofs.YtjckhhkhgjbpaaaGreatDoor
open Go Go.Proofs.YtjckhhkhgjbpaaaGreatDoor.Pale
variable {k : Nat} {σ : AMem}

theorem isElem_call {lk : VK} {tabs : List Tab} (hl : tabs.length ≤ 1000) : ∀ (d k : Nat), 4 * d + 6000 ≤ k → ElemRuns lk tabs d k := by
  intro d
  induction d with
  | zero => intro k _ e dS s s0 σ hf _; exact hf.elim
  | succ d ih =>
    intro k hk
    obtain ⟨K, rfl⟩ : ∃ m, k = m + 4 := ⟨k - 4, by omega⟩
    exact isElem_step hl (ih K (by omega)) (ih (K + 3) (by omega)) (by omega)
/-- What the check of tables and a shape gives. -/
def CS (k : Nat) (lk : VK) (tabs : List Tab) (s : Shp) (E : Int) : Prop := ∀ j, k ≤ j → ∀ σ, pureCall lawProg (callN lawProg j) (.func 39 [] []) [.vs lk (tabs.map tabV), .agg (shpC s)] σ = some (.int .i64 E, σ)
theorem openOdd_callN {lk : VK} {tabs : List Tab} {d dS r3 r4 : Nat} (hl : tabs.length ≤ 1000) {s : Shp} (x : El) (hx : Fit 1000 d x) (hs : ShOk tabs dS s) (g3 : σ.get r3 = some (.row 4 true (latC lk tabs s))) (g4 : σ.get r4 = some (.row 4 true (latC lk tabs s))) (h3 : r3 < σ.next) (h4 : r4 < σ.next) (hk : 4 * d + 6001 ≤ k) :
    callN lawProg k (.func 161 [] [.ptr r3 0, .ptr r4 0]) [elV x] σ = some (.bool (!isElB (tlOf tabs) d s x), σ.push (.row 4 true (elC x))) := by
  obtain ⟨k, rfl⟩ : ∃ m, k = m + 1 := ⟨k - 1, by omega⟩
  have hi := fun (σ : AMem) => isElem_call (lk := lk) hl d k (by omega) x dS s s σ hx hs
  have q3 : ¬ σ.next = r3 := by omega
  have q4 : ¬ σ.next = r4 := by omega
  have run : ∃ T1, execC lawProg (callN lawProg k) k 161 11 (bodyOf Tryz.f161) (initT 0 [.agg (elC x), .ptr r3 0, .ptr r4 0] .nil) σ = some (.ret, T1, σ.push (.row 4 true (elC x))) ∧ T1.get 4 = some (.bool (!isElB (tlOf tabs) d s x)) := by
    generalize isElB (tlOf tabs) d s x = B at *
    simp only [elC, latC, shpC] at hi g3 g4 ⊢
    simp only [bodyOf, Tryz.f161, Option.getD_some, initT, dx, reduceIte, zLt, zLe, zEq, zAd, zMu, zSu, zBe, yEq, yLt, yLe, yTn, reduceCtorEq, sx, fx161, q3, q4, g3, g4, hi]
    exact ⟨_, rfl, by simp only [Tr.get_set, zEq, reduceIte]⟩
  obtain ⟨T1, e1, e2⟩ := run
  rw [elV_eq]
  exact q_call (first := []) (caps := [.ptr r3 0, .ptr r4 0]) fn161 rfl (by simp [Tryz.f161]) e1 (by simp) (res_one e2)
/-- The error of some elements of a lattice. -/
def openE (tabs : List Tab) (d : Nat) (s : Shp) (E : Int) (es : List El) : Int := if E = 0 then (if es.any fun x => !isElB (tlOf tabs) d s x then 2 else 0) else E
theorem open_run {lk vk : VK} {tabs : List Tab} {d dS k0 : Nat} {s : Shp} {E : Int} (hl : tabs.length ≤ 1000) (hcs : CS k0 lk tabs s E) (hs : E = 0 → ShOk tabs dS s) (es : List El) (hes : ∀ x, x ∈ es → Fit 1000 d x) (hn : es.length ≤ 1000) (hk : 4 * d + 7000 ≤ k) (hk0 : k0 ≤ k) :
    ∃ b, pureRun (callN lawProg (k + 1)) (.func 117 [] []) [.agg (latC lk tabs s), .vs vk (es.map elV)] = some (.tuple [.agg (latC lk tabs s), .int .i64 (openE tabs d s E es)], b) := by
  have hc := hcs k hk0
  have heq : ∀ (a b : Int), (a != b) = !decide (a = b) := fun a b => by rw [Bool.eq_iff_iff]; simp
  have run : ∃ T1 σ1, execC lawProg (callN lawProg k) k 117 26 (bodyOf Tryz.f117) (initT 0 [.agg (latC lk tabs s), .vs vk (es.map elV)] .nil) AMem.empty = some (.ret, T1, σ1) ∧ resultsA lawProg T1 σ1 Tryz.f117.results.toList = some [.agg (latC lk tabs s), .int .i64 (openE tabs d s E es)] := by
    by_cases hE : E = 0
    · subst hE
      let σ0 : AMem := ((AMem.empty.push (.row 4 true (latC lk tabs s))).push (.row 4 true [.vs .nil [], .int .u8 0, .str [], .vs .nil []])).push (.row 4 true [.vs .nil [], .int .u8 0, .str [], .vs .nil []])
      have n0 : σ0.next = 3 := rfl
      have hE0 : ((0 : Int) != 0) = false := rfl
      obtain ⟨σ', hcc, hx⟩ := elems_has_v (k := k - 2) (σ := σ0.put 2 (.row 4 true (latC lk tabs s))) vk (es.map elV) 161 [.ptr 2 0, .ptr 0 0] (viaP elV fun x => !isElB (tlOf tabs) d s x) (fun v hv => by
        obtain ⟨x, _, rfl⟩ := List.mem_map.1 hv
        exact ⟨elC x, elV_eq x, rfl⟩) (by rw [List.length_map]; omega) (fun h => by cases h) (fun v hv σ2 hx => by
        obtain ⟨x, hxm, rfl⟩ := List.mem_map.1 hv
        rw [viaP_eq (f := elV) elV_inj]
        have hnx : 3 ≤ σ2.next := by have := hx.1; simpa [n0] using this
        exact ⟨_, openOdd_callN hl x (hes x hxm) (hs rfl) ((hx.2 2 (by simp [n0])).trans (by rw [AMem.get_put, if_pos rfl])) ((hx.2 0 (by simp [n0])).trans (by rw [AMem.get_put, if_neg (by decide)]; simp only [σ0, AMem.get_push, AMem.next_push, next_empty, zAd, zEq, reduceIte])) (by omega) (by omega) (by omega), Ext.push _ _⟩) (by rw [List.length_map]; omega)
      rw [viaP_any elV_inj, show k - 2 + 2 = k by omega] at hcc
      have g1 : σ'.get 1 = some (.row 4 true [.vs .nil [], .int .u8 0, .str [], .vs .nil []]) := (hx.2 1 (by simp [n0])).trans (by rw [AMem.get_put, if_neg (by decide)]; simp only [σ0, AMem.get_push, AMem.next_push, next_empty, zAd, zEq, reduceIte])
      have g2 : σ'.get 2 = some (.row 4 true (latC lk tabs s)) := (hx.2 2 (by simp [n0])).trans (by rw [AMem.get_put, if_pos rfl])
      have hr : openE tabs d s 0 es = if es.any fun x => !isElB (tlOf tabs) d s x then 2 else 0 := by unfold openE; rw [if_pos rfl]
      rw [hr]
      simp only [σ0] at hcc
      generalize (es.any fun x => !isElB (tlOf tabs) d s x) = B at *
      simp only [latC, shpC] at *
      cases B with
      | false =>
        simp only [bodyOf, Tryz.f117, Option.getD_some, initT, dx, reduceIte, zLt, zLe, zEq, zAd, zMu, zSu, zBe, yEq, yLt, yLe, yTn, reduceCtorEq, sx, fx117, hc, hE0, hcc, g1, g2]
        refine ⟨_, _, rfl, ?_⟩
        simp only [Tryz.f117, resultsA, resultA, dx, reduceIte, zLt, zLe, zEq, zAd, zMu, zSu, zBe, yEq, yLt, yLe, yTn, reduceCtorEq, sx, fx117]
      | true =>
        simp only [bodyOf, Tryz.f117, Option.getD_some, initT, dx, reduceIte, zLt, zLe, zEq, zAd, zMu, zSu, zBe, yEq, yLt, yLe, yTn, reduceCtorEq, sx, fx117, hc, hE0, hcc, g1, g2]
        refine ⟨_, _, rfl, ?_⟩
        simp only [Tryz.f117, resultsA, resultA, dx, reduceIte, zLt, zLe, zEq, zAd, zMu, zSu, zBe, yEq, yLt, yLe, yTn, reduceCtorEq, sx, fx117]
    · have hr : openE tabs d s E es = E := by unfold openE; rw [if_neg hE]
      rw [hr]
      have hE0 : (E != 0) = true := by rw [heq, decide_eq_false hE]; rfl
      simp only [latC, shpC] at *
      simp only [bodyOf, Tryz.f117, Option.getD_some, initT, dx, reduceIte, zLt, zLe, zEq, zAd, zMu, zSu, zBe, yEq, yLt, yLe, yTn, reduceCtorEq, sx, fx117, hc, hE0]
      refine ⟨_, _, rfl, ?_⟩
      simp only [Tryz.f117, resultsA, resultA, dx, reduceIte, zLt, zLe, zEq, zAd, zMu, zSu, zBe, yEq, yLt, yLe, yTn, reduceCtorEq, sx, fx117]
  obtain ⟨T1, σ1, h1, h2⟩ := run
  exact pureRun_any (seen := []) fn117 rfl (by simp [Tryz.f117]) h1 (by simp) h2 rfl
theorem delAll_keep : ∀ (l : List Nat) (σ : AMem) (s : Nat), s ∉ l → (delAll σ l).get s = σ.get s := by
  intro l
  induction l with
  | nil => intro σ s _; rfl
  | cons r l ih =>
    intro σ s h
    simp only [List.mem_cons, not_or] at h
    show (delAll (σ.del r) l).get s = _
    rw [ih _ _ h.2, AMem.get_del, if_neg (Ne.symm h.1)]
theorem delAll_next : ∀ (l : List Nat) (σ : AMem), (delAll σ l).next = σ.next := by
  intro l
  induction l with
  | nil => intro σ; rfl
  | cons r l ih => intro σ; show (delAll (σ.del r) l).next = _; rw [ih]; rfl
/-- A call of a value that is handed a row: what it gives may not be new, and then the row is gone. -/
theorem pureCall_any {g : Nat} {args args' : List AVal} {seen : List Nat} {v : AVal} {b : Bool} {call : CallA} (hs : snapL (snapF false σ snapDepth) args = some (args', seen)) (hm : lawProg.memo g args' = none) (h : pureRun call (.func g [] []) args' = some (v, b)) :
    ∃ σ', pureCall lawProg call (.func g [] []) args σ = some (v, σ') ∧ σ'.next = σ.next ∧ ∀ s, s ∉ seen → σ'.get s = σ.get s := by
  refine ⟨if b then σ else delAll σ seen, by simp only [pureCall, hs, memoRun, isFn, hm, h], ?_, fun s hs => ?_⟩
  · cases b
    · exact delAll_next _ _
    · rfl
  · cases b
    · exact delAll_keep _ _ _ hs
    · rfl
theorem snap_el (d : Nat) (σ : AMem) (e : El) : snapL (snapF false σ (d + 1)) (elC e) = some (elC e, []) := rfl
/-- The variadic list of one element. -/
theorem snap_one_el {r d : Nat} {cap : Option Nat} {e : El} (h : σ.get r = some (.row 4 true (elC e))) : snapF false σ (d + 2) (.slice r 0 1 cap 4) = some (.vs .some [elV e], [r]) := by
  have := snap_structs (fr := false) (σ := σ) (d := d) (r := r) (n := 1) (sz := 4) (cap := cap) (ls := [elC e]) (ps := [elC e]) (S := []) (by omega) rfl rfl (by simp [elC]) (by simp [elC]) (by simpa using h) (by simpa using snap_el d σ e)
  rw [this, elV_eq]
  rfl
theorem check_call {lk : VK} {tabs : List Tab} {d dS k0 : Nat} {s : Shp} {E : Int} (hl : tabs.length ≤ 1000) (hcs : CS k0 lk tabs s E) (hs : E = 0 → ShOk tabs dS s) (e : El) (he : Fit 1000 d e) (hk : 4 * d + 8000 ≤ k) (hk0 : k0 + 10 ≤ k) :
    pureCall lawProg (callN lawProg k) (.func 115 [] []) [.agg (latC lk tabs s), .agg (elC e)] σ = some (.int .i64 (openE tabs d s E [e]), σ) := by
  obtain ⟨k, rfl⟩ : ∃ m, k = m + 2 := ⟨k - 2, by omega⟩
  obtain ⟨b, hop⟩ := open_run (k := k) (vk := .some) hl hcs hs [e] (by simpa using he) (by simp) (by omega) (by omega)
  let σ0 : AMem := ((AMem.empty.push (.row 4 true (latC lk tabs s))).push (.row 4 true (elC e))).push (.row 4 true (elC e))
  have g2 : σ0.get 2 = some (.row 4 true (elC e)) := by simp only [σ0, AMem.get_push, AMem.next_push, next_empty, zAd, zEq, reduceIte]
  have hsl : snapL (snapF false σ0 snapDepth) [.agg (latC lk tabs s), .slice 2 0 1 (some 1) 4] = some ([.agg (latC lk tabs s), .vs .some [elV e]], [] ++ ([2] ++ [])) := by
    have h1 : snapF false σ0 snapDepth (.agg (latC lk tabs s)) = some (.agg (latC lk tabs s), []) := rfl
    have h2 : snapF false σ0 snapDepth (.slice 2 0 1 (some 1) 4) = some (.vs .some [elV e], [2]) := snap_one_el (d := 10) g2
    simp only [snapL, h1, h2]
  obtain ⟨σ', hc, hn, hk'⟩ := pureCall_any hsl (memo117 _) hop
  have run : ∃ T1 σ1, execC lawProg (callN lawProg (k + 1)) (k + 1) 115 15 (bodyOf Tryz.f115) (initT 0 [.agg (latC lk tabs s), .agg (elC e)] .nil) AMem.empty = some (.ret, T1, σ1) ∧ T1.get 4 = some (.int .i64 (openE tabs d s E [e])) := by
    generalize openE tabs d s E [e] = X at *
    simp only [σ0] at hc
    simp only [latC, shpC, elC] at hc ⊢
    simp only [bodyOf, Tryz.f115, Option.getD_some, initT, dx, reduceIte, zLt, zLe, zEq, zAd, zMu, zSu, zBe, yEq, yLt, yLe, yTn, reduceCtorEq, sx, fx115, hc]
    exact ⟨_, _, rfl, by simp only [Tr.get_set, zEq, reduceIte]⟩
  obtain ⟨T1, σ1, h1, h2⟩ := run
  exact pureCall_of rfl (memo115 _) (pureRun_of fn115 rfl (by simp [Tryz.f115]) h1 (by simp) (res_one h2) rfl)
end Go.Proofs.YtjckhhkhgjbpaaaGreatDoor

/- Elements as bytes: no program in sight. -/
set_option maxRecDepth 100000
set_option linter.unusedSimpArgs false
set_option linter.unusedVariables false
namespace Go.Proofs.YtjckhhkhgjbpaaaGreatDoor
open Go Go.Proofs.YtjckhhkhgjbpaaaGreatDoor.Pale

/-- A count as bytes. -/
def cntF : Nat → Nat → List Nat
  | 0, n => [n % 128]
  | f + 1, n => if n < 128 then [n] else (n % 128 + 128) :: cntF f (n / 128)
def cntB (n : Nat) : List Nat := cntF 10 n
theorem cntF_small {f n : Nat} (h : n < 128) : cntF f n = [n] := by
  cases f with
  | zero => simp only [cntF, Nat.mod_eq_of_lt h]
  | succ f => simp only [cntF, if_pos h]
theorem cntF_step {f n : Nat} (h : 128 ≤ n) : cntF (f + 1) n = (n % 128 + 128) :: cntF f (n / 128) := by
  simp only [cntF, if_neg (by omega : ¬ n < 128)]
theorem cntF_lt : ∀ (f n b : Nat), b ∈ cntF f n → b < 256 := by
  intro f
  induction f with
  | zero => intro n b h; simp only [cntF, List.mem_singleton] at h; omega
  | succ f ih =>
    intro n b h
    simp only [cntF] at h
    split at h
    · simp only [List.mem_singleton] at h; omega
    · rcases List.mem_cons.1 h with h | h
      · omega
      · exact ih _ _ h
theorem cntF_len : ∀ (f n : Nat), 1 ≤ (cntF f n).length ∧ (n < 128 ^ f * 128 → ∀ m, n < 128 ^ m → 1 ≤ m → (cntF f n).length ≤ m) := by
  intro f
  induction f with
  | zero => intro n; simp only [cntF, List.length_singleton]; exact ⟨Nat.le_refl _, fun _ m _ h => h⟩
  | succ f ih =>
    intro n
    simp only [cntF]
    split
    · simp only [List.length_singleton]; exact ⟨Nat.le_refl _, fun _ m _ h => h⟩
    · rename_i h
      obtain ⟨h1, h2⟩ := ih (n / 128)
      refine ⟨by simp, fun hn m hm h1m => ?_⟩
      obtain ⟨m, rfl⟩ : ∃ q, m = q + 1 := ⟨m - 1, by omega⟩
      have hm2 : n / 128 < 128 ^ m := by
        rw [Nat.div_lt_iff_lt_mul (by decide), ← Nat.pow_succ]; exact hm
      have h1m' : 1 ≤ m := by
        cases m with
        | zero => simp at hm; omega
        | succ m => omega
      have := h2 (by rw [Nat.div_lt_iff_lt_mul (by decide)]; rw [Nat.pow_succ] at hn; exact hn) m hm2 h1m'
      simp only [List.length_cons]; omega
/-- A number as a count. -/
def numN (z : Int) : Nat := if z < 0 then (-2 * z - 1).toNat else (2 * z).toNat
theorem numN_lt {z : Int} (h : isNum z) : numN z < 2000000001 := by
  unfold numN
  obtain ⟨h1, h2⟩ := h
  split <;> omega
theorem cntB_len {n : Nat} (h : n < 34359738368) : (cntB n).length ≤ 5 := (cntF_len 10 n).2 (by omega) 5 (by omega) (by omega)

/-- Elements that have a form, whatever their shape. -/
def VE : Nat → El → Prop
  | 0, _ => False
  | d + 1, e => ((e.kind = 0 ∨ e.kind = 1 ∨ e.kind = 3) ∧ e.n = 0 ∧ e.keys = [] ∧ e.kids = []) ∨
      (e.kind = 2 ∧ isNum e.n ∧ e.keys = [] ∧ e.kids = []) ∨
      (e.kind = 4 ∧ 0 < e.n ∧ e.n < 1000 ∧ e.keys = [] ∧ e.kids = []) ∨
      (e.kind = 5 ∧ e.n = 0 ∧ KeysOk e.keys ∧ e.kids = []) ∨
      (e.kind = 6 ∧ e.n = 0 ∧ KeysOk e.keys ∧ e.kids.length = e.keys.length ∧ ∀ x, x ∈ e.kids → VE d x) ∨
      (e.kind = 7 ∧ e.n = 0 ∧ e.keys = [] ∧ ∃ a b, e.kids = [a, b] ∧ VE d a ∧ VE d b)
theorem isElB_VE {tl : List UInt8 → Nat} (htl : ∀ n, tl n ≤ 1000) : ∀ {d : Nat} {s : Shp} {e : El}, isElB tl d s e = true → VE d e := by
  intro d
  induction d with
  | zero => intro s e h; simp [isElB] at h
  | succ d ih =>
    intro s e h
    rw [isElB] at h
    cases hb : e.isBot with
    | true =>
      simp only [El.isBot, Bool.and_eq_true, decide_eq_true_eq] at hb
      exact .inl ⟨.inl hb.1, hb.2.1, List.eq_nil_of_length_eq_zero hb.2.2.1, List.eq_nil_of_length_eq_zero hb.2.2.2⟩
    | false =>
      rw [hb, Bool.false_or] at h
      by_cases k1 : e.kind = 1
      · rw [if_pos k1] at h
        simp only [plainB, Bool.and_eq_true, decide_eq_true_eq] at h
        exact .inl ⟨.inr (.inl k1), h.2.1, List.eq_nil_of_length_eq_zero h.2.2.1, List.eq_nil_of_length_eq_zero h.2.2.2⟩
      rw [if_neg k1] at h
      by_cases k3 : e.kind = 3
      · rw [if_pos k3] at h
        simp only [plainB, Bool.and_eq_true, decide_eq_true_eq] at h
        exact .inl ⟨.inr (.inr k3), h.2.1, List.eq_nil_of_length_eq_zero h.2.2.1, List.eq_nil_of_length_eq_zero h.2.2.2⟩
      rw [if_neg k3] at h
      by_cases k2 : e.kind = 2
      · rw [if_pos k2] at h
        simp only [plainB, Bool.and_eq_true, decide_eq_true_eq] at h
        exact .inr (.inl ⟨k2, h.1.2, List.eq_nil_of_length_eq_zero h.2.2.1, List.eq_nil_of_length_eq_zero h.2.2.2⟩)
      rw [if_neg k2] at h
      by_cases k4 : e.kind = 4
      · rw [if_pos k4] at h
        simp only [plainB, Bool.and_eq_true, decide_eq_true_eq] at h
        have := htl s.name
        exact .inr (.inr (.inl ⟨k4, by omega, by omega, List.eq_nil_of_length_eq_zero h.2.2.1, List.eq_nil_of_length_eq_zero h.2.2.2⟩))
      rw [if_neg k4] at h
      by_cases k5 : e.kind = 5
      · rw [if_pos k5] at h
        simp only [Bool.and_eq_true, decide_eq_true_eq] at h
        exact .inr (.inr (.inr (.inl ⟨k5, h.1.1.2, h.2, List.eq_nil_of_length_eq_zero h.1.2⟩)))
      rw [if_neg k5] at h
      by_cases k6 : e.kind = 6
      · rw [if_pos k6] at h
        simp only [Bool.and_eq_true, decide_eq_true_eq, Bool.not_eq_true', List.any_eq_false] at h
        refine .inr (.inr (.inr (.inr (.inl ⟨k6, h.1.1.1.2, h.1.1.2, h.1.2, fun x hx => ?_⟩))))
        have := h.2 x hx
        simp only [Bool.or_eq_true, Bool.not_eq_true', not_or, Bool.not_eq_true, Bool.not_eq_false] at this
        exact ih this.2
      rw [if_neg k6] at h
      by_cases k7 : e.kind = 7
      · rw [if_pos k7] at h
        split at h
        · rename_i a b hab
          simp only [Bool.and_eq_true, decide_eq_true_eq] at h
          exact .inr (.inr (.inr (.inr (.inr ⟨k7, h.1.1.2, List.eq_nil_of_length_eq_zero h.1.2, a, b, hab, ih h.2.1.1, ih h.2.1.2⟩))))
        · cases h
      rw [if_neg k7] at h
      cases h

/-- An element as bytes. -/
def encE : Nat → El → List Nat
  | 0, _ => []
  | d + 1, e => if e.kind = 2 then 2 :: cntB (numN e.n)
    else if e.kind = 4 then 4 :: cntB e.n.toNat
    else if e.kind = 5 then 5 :: (cntB e.keys.length ++ e.keys.flatMap fun z => cntB (numN z))
    else if e.kind = 6 then 6 :: (cntB e.keys.length ++ (e.keys.zip e.kids).flatMap fun p => cntB (numN p.1) ++ encE d p.2)
    else if e.kind = 7 then 7 :: (match e.kids with
      | [a, b] => encE d a ++ encE d b
      | _ => [])
    else [e.kind.toNat]
def encL : Nat → Nat
  | 0 => 0
  | d + 1 => 10 + 40 * (6 + encL d)
theorem flat_len {α : Type} {f : α → List Nat} {m : Nat} : ∀ {l : List α}, (∀ x, x ∈ l → (f x).length ≤ m) → (l.flatMap f).length ≤ l.length * m := by
  intro l
  induction l with
  | nil => intro _; simp
  | cons x l ih =>
    intro h
    have h1 := h x (by simp)
    have h2 := ih fun y hy => h y (by simp [hy])
    simp only [List.flatMap_cons, List.length_append, List.length_cons, Nat.succ_mul]
    omega
theorem encE_len : ∀ {d : Nat} {e : El}, VE d e → (encE d e).length ≤ encL d ∧ 1 ≤ (encE d e).length := by
  intro d
  induction d with
  | zero => intro e h; exact h.elim
  | succ d ih =>
    intro e h
    have hnum : ∀ z, isNum z → (cntB (numN z)).length ≤ 5 := fun z hz => cntB_len (by have := numN_lt hz; omega)
    rcases h with ⟨hk, _⟩ | ⟨hk, hn, _⟩ | ⟨hk, h0, h1, _⟩ | ⟨hk, _, hko, _⟩ | ⟨hk, _, hko, hl, hv⟩ | ⟨hk, _, _, a, b, hab, ha, hb⟩
    · have : encE (d + 1) e = [e.kind.toNat] := by
        rw [encE, if_neg (by omega), if_neg (by omega), if_neg (by omega), if_neg (by omega), if_neg (by omega)]
      rw [this]
      simp only [encL, List.length_singleton]; omega
    · rw [encE, if_pos hk]
      have := hnum _ hn
      simp only [encL, List.length_cons]; omega
    · rw [encE, if_neg (by omega), if_pos hk]
      have : (cntB e.n.toNat).length ≤ 5 := cntB_len (by omega)
      simp only [encL, List.length_cons]; omega
    · rw [encE, if_neg (by omega), if_neg (by omega), if_pos hk]
      have h1 : (cntB e.keys.length).length ≤ 5 := cntB_len (by have := hko.2.2.2; omega)
      have h2 := flat_len (f := fun z => cntB (numN z)) (m := 5) (l := e.keys) fun z hz => hnum z (hko.1 z hz)
      have h3 := hko.2.2.2
      simp only [encL, List.length_cons, List.length_append]; omega
    · rw [encE, if_neg (by omega), if_neg (by omega), if_neg (by omega), if_pos hk]
      have h1 : (cntB e.keys.length).length ≤ 5 := cntB_len (by have := hko.2.2.2; omega)
      have h2 := flat_len (f := fun p : Int × El => cntB (numN p.1) ++ encE d p.2) (m := 5 + encL d) (l := e.keys.zip e.kids) fun p hp => by
        have a1 := hnum p.1 (hko.1 p.1 (List.of_mem_zip hp).1)
        have a2 := (ih (hv p.2 (List.of_mem_zip hp).2)).1
        rw [List.length_append]; omega
      have h3 := hko.2.2.2
      have h4 : (e.keys.zip e.kids).length = e.keys.length := by rw [List.length_zip, hl, Nat.min_self]
      rw [h4] at h2
      have h5 : e.keys.length * (5 + encL d) ≤ 40 * (5 + encL d) := Nat.mul_le_mul_right _ h3
      simp only [encL, List.length_cons, List.length_append]; omega
    · rw [encE, if_neg (by omega), if_neg (by omega), if_neg (by omega), if_neg (by omega), if_pos hk, hab]
      have a1 := (ih ha).1
      have a2 := (ih hb).1
      simp only [encL, List.length_cons, List.length_append]; omega
theorem encE_lt : ∀ {d : Nat} {e : El}, VE d e → ∀ b, b ∈ encE d e → b < 256 := by
  intro d
  induction d with
  | zero => intro e h; exact h.elim
  | succ d ih =>
    intro e h b hb
    have hc : ∀ n, b ∈ cntB n → b < 256 := fun n h => cntF_lt _ _ _ h
    rcases h with ⟨hk, _⟩ | ⟨hk, hn, _⟩ | ⟨hk, h0, h1, _⟩ | ⟨hk, _, hko, _⟩ | ⟨hk, _, hko, hl, hv⟩ | ⟨hk, _, _, x, y, hab, hx, hy⟩
    · rw [encE, if_neg (by omega), if_neg (by omega), if_neg (by omega), if_neg (by omega), if_neg (by omega)] at hb
      simp only [List.mem_singleton] at hb
      omega
    · rw [encE, if_pos hk] at hb
      rcases List.mem_cons.1 hb with h | h
      · omega
      · exact hc _ h
    · rw [encE, if_neg (by omega), if_pos hk] at hb
      rcases List.mem_cons.1 hb with h | h
      · omega
      · exact hc _ h
    · rw [encE, if_neg (by omega), if_neg (by omega), if_pos hk] at hb
      rcases List.mem_cons.1 hb with h | h
      · omega
      · rcases List.mem_append.1 h with h | h
        · exact hc _ h
        · obtain ⟨z, _, hz⟩ := List.mem_flatMap.1 h
          exact hc _ hz
    · rw [encE, if_neg (by omega), if_neg (by omega), if_neg (by omega), if_pos hk] at hb
      rcases List.mem_cons.1 hb with h | h
      · omega
      · rcases List.mem_append.1 h with h | h
        · exact hc _ h
        · obtain ⟨p, hp, hz⟩ := List.mem_flatMap.1 h
          rcases List.mem_append.1 hz with h | h
          · exact hc _ h
          · exact ih (hv p.2 (List.of_mem_zip hp).2) _ h
    · rw [encE, if_neg (by omega), if_neg (by omega), if_neg (by omega), if_neg (by omega), if_pos hk, hab] at hb
      rcases List.mem_cons.1 hb with h | h
      · omega
      · rcases List.mem_append.1 h with h | h
        · exact ih hx _ h
        · exact ih hy _ h
end Go.Proofs.YtjckhhkhgjbpaaaGreatDoor

/- Elements as bytes: the program's count, number and pack. -/
set_option maxRecDepth 100000
set_option linter.unusedSimpArgs false
set_option linter.unusedVariables false
namespace Go.Proofs.YtjckhhkhgjbpaaaGreatDoor
open Go Go.Proofs.YtjckhhkhgjbpaaaGreatDoor.Pale
variable {k : Nat} {σ : AMem}

theorem u8_idB {n : Nat} (h : n < 256) : IntKind.u8.wrap (n : Int) = (n : Int) := by rw [u8_nat, Nat.mod_eq_of_lt h]
theorem ecount_callN {low : Nat} {b : AVal} {bs : List Nat} (n : Nat) (h : GB low σ b bs) (hlow : low ≤ σ.next) (hn : n < 1099511627776) (hb : bs.length + 20 ≤ 1000000000000) (hk : 20 ≤ k) :
    ∃ b' σ', callN lawProg k (.func 164 [] []) [b, .int .i64 (n : Nat)] σ = some (b', σ') ∧ Adv low σ b bs σ' b' (cntB n) := by
  obtain ⟨k, rfl⟩ : ∃ m, k = m + 1 := ⟨k - 1, by omega⟩
  have run : ∃ T1 σ1 b', execC lawProg (callN lawProg k) k 164 21 (bodyOf Tryz.f164) (initT 0 [b, .int .i64 (n : Nat)] .nil) σ = some (.ret, T1, σ1) ∧ T1.get 4 = some b' ∧ Adv low σ b bs σ1 b' (cntB n) := by
    simp only [bodyOf, Tryz.f164, Option.getD_some, initT, dx, reduceIte, zLt, zLe, zEq, zAd, zMu, zSu, zBe, yEq, yLt, yLe, yTn, reduceCtorEq, sx, fx164]
    generalize hL : execC _ _ _ _ _ (Code.loop _) _ _ = q
    obtain ⟨e, T', σ', rfl, _, rfl, m, pre, b', t0, t1, hm, hp, hpl, ha⟩ : ∃ e T' σ', q = some (e, T', σ') ∧ e ≠ .normal ∧ (e = .exit 0 ∧ ∃ (m : Nat) (pre : List Nat) (b' : AVal), T'.get 0 = some b' ∧ T'.get 1 = some (.int .i64 (m : Nat)) ∧ m < 128 ∧ cntB n = pre ++ [m] ∧ pre.length ≤ 10 ∧ Adv low σ b bs σ' b' pre) := by
      rw [← hL]
      refine exec_loop2 (fun i T σ' => i ≤ 10 ∧ ∃ (m : Nat) (pre : List Nat) (b' : AVal), T.get 0 = some b' ∧ T.get 1 = some (.int .i64 (m : Nat)) ∧ m * 128 ^ i ≤ n ∧ cntB n = pre ++ cntF (10 - i) m ∧ pre.length = i ∧ Adv low σ b bs σ' b' pre) 10 (by omega) ?_ ?_ ?_
      · rintro i hi T σ' ⟨_, m, pre, b', t0, t1, hm, hp, hpl, ha⟩
        have hmn : m ≤ n := Nat.le_trans (Nat.le_mul_of_pos_right m (Nat.pow_pos (by decide))) hm
        by_cases h128 : m < 128
        · right
          have hge : ¬ ((m : Nat) : Int) ≥ 128 := by omega
          refine ⟨_, _, _, by
            simp only [dx, reduceIte, zLt, zLe, zEq, zAd, zMu, zSu, zBe, yEq, yLt, yLe, yTn, reduceCtorEq, sx, fx164, t0, t1, hge]
            rfl, by simp, rfl, m, pre, b', ?_, ?_, h128, by rw [hp, cntF_small h128], by omega, ha⟩
          all_goals simp only [Tr.get_set, zEq, reduceIte, t0, t1]
        · left
          have hge : ((m : Nat) : Int) ≥ 128 := by omega
          have e1 : ((m : Nat) : Int).tmod 128 = ((m % 128 : Nat) : Int) := rfl
          have e2 : ((m : Nat) : Int).tdiv 128 = ((m / 128 : Nat) : Int) := rfl
          have w1 : IntKind.i64.wrap (((m % 128 : Nat) : Int) + 128) = ((m % 128 + 128 : Nat) : Int) := by rw [i64_id (by omega) (by omega)]; omega
          have w2 : IntKind.u8.wrap ((m % 128 + 128 : Nat) : Int) = ((m % 128 + 128 : Nat) : Int) := u8_idB (by omega)
          have w3 : IntKind.i64.wrap ((m / 128 : Nat) : Int) = ((m / 128 : Nat) : Int) := i64_id (by omega) (by omega)
          obtain ⟨b2, σ2, a1, a2⟩ := GB.byte (σ := σ') ha.1 (by have := ha.2.1; omega) (m % 128 + 128) (by rw [List.length_append]; omega)
          simp only [tyByte] at a1
          refine ⟨_, _, by
            simp only [dx, reduceIte, zLt, zLe, zEq, zAd, zMu, zSu, zBe, yEq, yLt, yLe, yTn, reduceCtorEq, sx, fx164, t0, t1, hge, e1, e2, w1, w2, w3, a1]
            rfl, by omega, m / 128, pre ++ [m % 128 + 128], b2, ?_, ?_, ?_, ?_, by simp [hpl], ha.trans a2⟩
          · simp only [Tr.get_set, zEq, reduceIte]
          · simp only [Tr.get_set, zEq, reduceIte]
          · rw [Nat.pow_succ]
            have := Nat.div_mul_le_self m 128
            calc m / 128 * (128 ^ i * 128) = (m / 128 * 128) * 128 ^ i := by rw [Nat.mul_assoc, Nat.mul_comm 128 (128 ^ i)]
              _ ≤ m * 128 ^ i := Nat.mul_le_mul_right _ this
              _ ≤ n := hm
          · rw [hp, show 10 - i = (10 - (i + 1)) + 1 by omega, cntF_step (by omega), List.append_assoc]
            rfl
      · rintro T σ' ⟨_, m, pre, b', t0, t1, hm, hp, hpl, ha⟩
        have h0 : m = 0 := by
          by_cases h : m = 0
          · exact h
          · have hp10 : (128 : Nat) ^ 10 = 1180591620717411303424 := by rfl
            rw [hp10] at hm
            omega
        subst h0
        refine ⟨_, _, _, by
          simp only [dx, reduceIte, zLt, zLe, zEq, zAd, zMu, zSu, zBe, yEq, yLt, yLe, yTn, reduceCtorEq, sx, fx164, t0, t1]
          rfl, by simp, rfl, 0, pre, b', ?_, ?_, by decide, by rw [hp]; rfl, Nat.le_of_eq hpl, ha⟩
        all_goals simp only [Tr.get_set, zEq, reduceIte, t0, t1]
      · exact ⟨Nat.zero_le _, n, [], b, by simp only [Tr.get_set, zEq, reduceIte], by simp only [Tr.get_set, zEq, reduceIte], by simp, rfl, rfl, Adv.refl h⟩
    have w2 : IntKind.u8.wrap ((m : Nat) : Int) = ((m : Nat) : Int) := u8_idB (by omega)
    obtain ⟨b2, σ2, a1, a2⟩ := GB.byte (σ := σ') ha.1 (by have := ha.2.1; omega) m (by rw [List.length_append]; omega)
    simp only [tyByte] at a1
    simp only [dx, reduceIte, zLt, zLe, zEq, zAd, zMu, zSu, zBe, yEq, yLt, yLe, yTn, reduceCtorEq, sx, fx164, t0, t1, w2, a1]
    refine ⟨_, _, b2, rfl, by simp only [Tr.get_set, zEq, reduceIte], ?_⟩
    rw [hp]
    exact ha.trans a2
  obtain ⟨T1, σ1, b', h1, h2, h3⟩ := run
  exact ⟨b', σ1, q_call (first := []) (caps := []) fn164 rfl (by simp [Tryz.f164]) h1 (by simp) (res_one h2), h3⟩
theorem enumber_callN {low : Nat} {b : AVal} {bs : List Nat} (z : Int) (hz : isNum z) (h : GB low σ b bs) (hlow : low ≤ σ.next) (hb : bs.length + 20 ≤ 1000000000000) (hk : 21 ≤ k) :
    ∃ b' σ', callN lawProg k (.func 163 [] []) [b, .int .i64 z] σ = some (b', σ') ∧ Adv low σ b bs σ' b' (cntB (numN z)) := by
  obtain ⟨k, rfl⟩ : ∃ m, k = m + 1 := ⟨k - 1, by omega⟩
  obtain ⟨z1, z2⟩ := id hz
  obtain ⟨b', σ', c1, c2⟩ := ecount_callN (k := k) (numN z) h hlow (by have := numN_lt hz; omega) hb (by omega)
  refine ⟨b', σ', ?_, c2⟩
  have run : ∃ T1, execC lawProg (callN lawProg k) k 163 16 (bodyOf Tryz.f163) (initT 0 [b, .int .i64 z] .nil) σ = some (.ret, T1, σ') ∧ T1.get 4 = some b' := by
    by_cases h0 : z < 0
    · have hn : ((numN z : Nat) : Int) = -2 * z - 1 := by unfold numN; rw [if_pos h0]; omega
      have w1 : IntKind.i64.wrap (-2 * z) = -2 * z := i64_id (by omega) (by omega)
      have w2 : IntKind.i64.wrap (-2 * z - 1) = -2 * z - 1 := i64_id (by omega) (by omega)
      rw [hn] at c1
      simp only [bodyOf, Tryz.f163, Option.getD_some, initT, dx, reduceIte, zLt, zLe, zEq, zAd, zMu, zSu, zBe, yEq, yLt, yLe, yTn, reduceCtorEq, sx, fx163, h0, w1, w2, c1]
      exact ⟨_, rfl, by simp only [Tr.get_set, zEq, reduceIte]⟩
    · have hn : ((numN z : Nat) : Int) = 2 * z := by unfold numN; rw [if_neg h0]; omega
      have w1 : IntKind.i64.wrap (2 * z) = 2 * z := i64_id (by omega) (by omega)
      rw [hn] at c1
      simp only [bodyOf, Tryz.f163, Option.getD_some, initT, dx, reduceIte, zLt, zLe, zEq, zAd, zMu, zSu, zBe, yEq, yLt, yLe, yTn, reduceCtorEq, sx, fx163, h0, w1, c1]
      exact ⟨_, rfl, by simp only [Tr.get_set, zEq, reduceIte]⟩
  obtain ⟨T1, h1, h2⟩ := run
  exact q_call (first := []) (caps := []) fn163 rfl (by simp [Tryz.f163]) h1 (by simp) (res_one h2)
end Go.Proofs.YtjckhhkhgjbpaaaGreatDoor

/- Elements as bytes: the program's pack. -/
set_option maxRecDepth 100000
set_option linter.unusedSimpArgs false
set_option linter.unusedVariables false
namespace Go.Proofs.YtjckhhkhgjbpaaaGreatDoor
open Go Go.Proofs.YtjckhhkhgjbpaaaGreatDoor.Pale
variable {k : Nat} {σ : AMem}

def PackRuns (d k : Nat) : Prop := ∀ {low : Nat} {e : El} {b : AVal} {bs : List Nat} {σ : AMem}, VE d e → GB low σ b bs → low ≤ σ.next → bs.length + encL d ≤ 100000000000 → ∃ b' σ', callN lawProg k (.func 118 [] []) [b, .agg (elC e)] σ = some (b', σ') ∧ Adv low σ b bs σ' b' (encE d e)
theorem pack_plain {low : Nat} {e : El} {b : AVal} {bs : List Nat} {c : Nat} (hk : e.kind = (c : Int)) (hc : c = 0 ∨ c = 1 ∨ c = 3) (hks : e.keys = []) (h : GB low σ b bs) (hlow : low ≤ σ.next) (hb : bs.length ≤ 200000000000) (hK : 3 ≤ k) :
    ∃ b' σ', callN lawProg k (.func 118 [] []) [b, .agg (elC e)] σ = some (b', σ') ∧ Adv low σ b bs σ' b' [c] := by
  obtain ⟨k, rfl⟩ : ∃ m, k = m + 1 := ⟨k - 1, by omega⟩
  obtain ⟨j, rfl⟩ : ∃ j, k = j + 1 := ⟨k - 1, by omega⟩
  have hr := h.rows
  have hx : Ext σ (σ.push (.row 4 true (elC e))) := Ext.push _ _
  obtain ⟨b1, σ1, a1, a2⟩ := GB.byte (σ := σ.push (.row 4 true (elC e))) (h.keep hx.1 fun s hs => hx.2 s (hr s hs).2) (Nat.le_trans hlow hx.1) c (by omega)
  have gq : σ1.get σ.next = some (.row 4 true (elC e)) := by rw [a2.2.2.1 _ (by simp) (fun hm => by have := (hr _ hm).2; omega), AMem.get_push, if_pos rfl]
  have heq : ∀ (a b : Int), (a == b) = decide (a = b) := fun a b => by rw [Bool.eq_iff_iff]; simp
  have k2 : ((c : Int) == 2) = false := by rw [heq, decide_eq_false (by omega)]
  have k4 : ((c : Int) == 4) = false := by rw [heq, decide_eq_false (by omega)]
  have k5 : ((c : Int) == 5) = false := by rw [heq, decide_eq_false (by omega)]
  have k6 : ((c : Int) == 6) = false := by rw [heq, decide_eq_false (by omega)]
  have k7 : ((c : Int) == 7) = false := by rw [heq, decide_eq_false (by omega)]
  have hq : ¬ σ.next + 1 = σ.next := by omega
  refine ⟨b1, σ1, ?_, a2.push hx fun s hs => (hr s hs).2⟩
  have e0 : intsV ([] : List Int) = [] := rfl
  have run : ∃ T1, execC lawProg (callN lawProg (j + 1)) (j + 1) 118 71 (bodyOf Tryz.f118) (initT 0 [b, .agg (elC e)] .nil) σ = some (.ret, T1, σ1) ∧ T1.get 4 = some b1 := by
    simp only [elC, hk, hks, e0, tyByte, AMem.next_push] at a1 gq ⊢
    simp only [bodyOf, Tryz.f118, Option.getD_some, initT, dx, reduceIte, zLt, zLe, zEq, zAd, zMu, zSu, zBe, yEq, yLt, yLe, yTn, reduceCtorEq, sx, fx118, hq, a1, gq, k2, k4, k5, k6, k7]
    generalize hL : execC _ _ _ _ _ (Code.loop _) _ _ = q
    obtain ⟨e, T', σ', rfl, _, rfl, t0, t3, rfl⟩ : ∃ e T' σ', q = some (e, T', σ') ∧ e ≠ .normal ∧ (e = .exit 1 ∧ T'.get 0 = some b1 ∧ T'.get 3 = some (.ptr σ.next 0) ∧ σ' = σ1) := by
      rw [← hL]
      refine exec_loop (fun i T σ' => i = 0 ∧ T.get 0 = some b1 ∧ T.get 3 = some (.ptr σ.next 0) ∧ T.get 36 = some (.int .i64 0) ∧ T.get 37 = some (.int .i64 0) ∧ σ' = σ1) 0 (by omega) (fun i hi => by omega) ?_ ?_
      · rintro T σ' ⟨_, t0, t3, t36, t37, rfl⟩
        refine ⟨_, _, _, by
          simp only [dx, reduceIte, zLt, zLe, zEq, zAd, zMu, zSu, zBe, yEq, yLt, yLe, yTn, reduceCtorEq, sx, fx118, t36, t37, Int.lt_irrefl]
          rfl, by simp, rfl, ?_, ?_, rfl⟩
        all_goals simp only [Tr.get_set, zEq, reduceIte, t0, t3]
      · refine ⟨rfl, ?_, ?_, ?_, ?_, rfl⟩
        all_goals simp only [Tr.get_set, zEq, reduceIte]
        rfl
    simp only [dx, reduceIte, zLt, zLe, zEq, zAd, zMu, zSu, zBe, yEq, yLt, yLe, yTn, reduceCtorEq, sx, fx118, t0, t3, gq, k7]
    exact ⟨_, rfl, by simp only [Tr.get_set, zEq, reduceIte]⟩
  obtain ⟨T1, h1, h2⟩ := run
  exact q_call (first := []) (caps := []) fn118 rfl (by simp [Tryz.f118]) h1 (by simp) (res_one h2)
theorem pack_num {low : Nat} {e : El} {b : AVal} {bs : List Nat} (hk : e.kind = 2) (hn : isNum e.n) (h : GB low σ b bs) (hlow : low ≤ σ.next) (hb : bs.length ≤ 200000000000) (hK : 30 ≤ k) :
    ∃ b' σ', callN lawProg k (.func 118 [] []) [b, .agg (elC e)] σ = some (b', σ') ∧ Adv low σ b bs σ' b' (2 :: cntB (numN e.n)) := by
  obtain ⟨k, rfl⟩ : ∃ m, k = m + 1 := ⟨k - 1, by omega⟩
  have hr := h.rows
  have hx : Ext σ (σ.push (.row 4 true (elC e))) := Ext.push _ _
  obtain ⟨b1, σ1, a1, a2⟩ := GB.byte (σ := σ.push (.row 4 true (elC e))) (h.keep hx.1 fun s hs => hx.2 s (hr s hs).2) (Nat.le_trans hlow hx.1) 2 (by omega)
  have gq : σ1.get σ.next = some (.row 4 true (elC e)) := by rw [a2.2.2.1 _ (by simp) (fun hm => by have := (hr _ hm).2; omega), AMem.get_push, if_pos rfl]
  obtain ⟨b2, σ2, c1, c2⟩ := enumber_callN (k := k) (σ := σ1) e.n hn a2.1 (by have := a2.2.1; simp at this; omega) (by simp; omega) (by omega)
  have hq : ¬ σ.next + 1 = σ.next := by omega
  have k2 : ((2 : Int) == 2) = true := rfl
  have kc : ((2 : Nat) : Int) = 2 := rfl
  rw [kc] at a1
  refine ⟨b2, σ2, ?_, (a2.trans c2).push hx fun s hs => (hr s hs).2⟩
  have run : ∃ T1, execC lawProg (callN lawProg k) k 118 71 (bodyOf Tryz.f118) (initT 0 [b, .agg (elC e)] .nil) σ = some (.ret, T1, σ2) ∧ T1.get 4 = some b2 := by
    simp only [elC, hk, tyByte, AMem.next_push] at a1 gq ⊢
    simp only [bodyOf, Tryz.f118, Option.getD_some, initT, dx, reduceIte, zLt, zLe, zEq, zAd, zMu, zSu, zBe, yEq, yLt, yLe, yTn, reduceCtorEq, sx, fx118, hq, a1, gq, k2, c1]
    exact ⟨_, rfl, by simp only [Tr.get_set, zEq, reduceIte]⟩
  obtain ⟨T1, h1, h2⟩ := run
  exact q_call (first := []) (caps := []) fn118 rfl (by simp [Tryz.f118]) h1 (by simp) (res_one h2)
theorem pack_name {low : Nat} {e : El} {b : AVal} {bs : List Nat} (hk : e.kind = 4) (h0 : 0 < e.n) (hn : e.n < 1000) (h : GB low σ b bs) (hlow : low ≤ σ.next) (hb : bs.length ≤ 200000000000) (hK : 30 ≤ k) :
    ∃ b' σ', callN lawProg k (.func 118 [] []) [b, .agg (elC e)] σ = some (b', σ') ∧ Adv low σ b bs σ' b' (4 :: cntB e.n.toNat) := by
  obtain ⟨k, rfl⟩ : ∃ m, k = m + 1 := ⟨k - 1, by omega⟩
  have hr := h.rows
  have hx : Ext σ (σ.push (.row 4 true (elC e))) := Ext.push _ _
  obtain ⟨b1, σ1, a1, a2⟩ := GB.byte (σ := σ.push (.row 4 true (elC e))) (h.keep hx.1 fun s hs => hx.2 s (hr s hs).2) (Nat.le_trans hlow hx.1) 4 (by omega)
  have gq : σ1.get σ.next = some (.row 4 true (elC e)) := by rw [a2.2.2.1 _ (by simp) (fun hm => by have := (hr _ hm).2; omega), AMem.get_push, if_pos rfl]
  obtain ⟨b2, σ2, c1, c2⟩ := ecount_callN (k := k) (σ := σ1) e.n.toNat a2.1 (by have := a2.2.1; simp at this; omega) (by omega) (by simp; omega) (by omega)
  rw [show ((e.n.toNat : Nat) : Int) = e.n by omega] at c1
  have hq : ¬ σ.next + 1 = σ.next := by omega
  have k2 : ((4 : Int) == 2) = false := rfl
  have k4 : ((4 : Int) == 4) = true := rfl
  have kc : ((4 : Nat) : Int) = 4 := rfl
  rw [kc] at a1
  refine ⟨b2, σ2, ?_, (a2.trans c2).push hx fun s hs => (hr s hs).2⟩
  have run : ∃ T1, execC lawProg (callN lawProg k) k 118 71 (bodyOf Tryz.f118) (initT 0 [b, .agg (elC e)] .nil) σ = some (.ret, T1, σ2) ∧ T1.get 4 = some b2 := by
    simp only [elC, hk, tyByte, AMem.next_push] at a1 gq ⊢
    simp only [bodyOf, Tryz.f118, Option.getD_some, initT, dx, reduceIte, zLt, zLe, zEq, zAd, zMu, zSu, zBe, yEq, yLt, yLe, yTn, reduceCtorEq, sx, fx118, hq, a1, gq, k2, k4, c1]
    exact ⟨_, rfl, by simp only [Tr.get_set, zEq, reduceIte]⟩
  obtain ⟨T1, h1, h2⟩ := run
  exact q_call (first := []) (caps := []) fn118 rfl (by simp [Tryz.f118]) h1 (by simp) (res_one h2)
theorem flat_le {α : Type} {f : α → List Nat} {m : Nat} {l : List α} (h : ∀ x, x ∈ l → (f x).length ≤ m) (i : Nat) : ((l.take i).flatMap f).length ≤ l.length * m := by
  have h1 := flat_len (f := f) (m := m) (l := l.take i) fun x hx => h x (List.mem_of_mem_take hx)
  have h2 : (l.take i).length * m ≤ l.length * m := Nat.mul_le_mul_right _ (by rw [List.length_take]; omega)
  omega
theorem flat_snoc {α : Type} {f : α → List Nat} {l : List α} {i : Nat} (hi : i < l.length) : (l.take (i + 1)).flatMap f = (l.take i).flatMap f ++ f l[i] := by
  rw [List.take_succ_eq_append_getElem hi, List.flatMap_append]; simp
theorem pack_set {low : Nat} {e : El} {b : AVal} {bs : List Nat} (hk : e.kind = 5) (hko : KeysOk e.keys) (h : GB low σ b bs) (hlow : low ≤ σ.next) (hb : bs.length ≤ 200000000000) (hK : 100 ≤ k) :
    ∃ b' σ', callN lawProg k (.func 118 [] []) [b, .agg (elC e)] σ = some (b', σ') ∧ Adv low σ b bs σ' b' (5 :: (cntB e.keys.length ++ e.keys.flatMap fun z => cntB (numN z))) := by
  obtain ⟨k, rfl⟩ : ∃ m, k = m + 1 := ⟨k - 1, by omega⟩
  obtain ⟨o1, o2, o3, o4⟩ := id hko
  have hr := h.rows
  have hx : Ext σ (σ.push (.row 4 true (elC e))) := Ext.push _ _
  obtain ⟨b1, σ1, a1, a2⟩ := GB.byte (σ := σ.push (.row 4 true (elC e))) (h.keep hx.1 fun s hs => hx.2 s (hr s hs).2) (Nat.le_trans hlow hx.1) 5 (by omega)
  have gq : σ1.get σ.next = some (.row 4 true (elC e)) := by rw [a2.2.2.1 _ (by simp) (fun hm => by have := (hr _ hm).2; omega), AMem.get_push, if_pos rfl]
  obtain ⟨b2, σ2, c1, c2⟩ := ecount_callN (k := k) (σ := σ1) e.keys.length a2.1 (by have := a2.2.1; simp at this; omega) (by omega) (by simp; omega) (by omega)
  have hA := a2.trans c2
  have gq2 : σ2.get σ.next = some (.row 4 true (elC e)) := by rw [hA.2.2.1 _ (by simp) (fun hm => by have := (hr _ hm).2; omega), AMem.get_push, if_pos rfl]
  have hcl : (cntB e.keys.length).length ≤ 5 := cntB_len (by omega)
  have hnl : ∀ z, z ∈ e.keys → (cntB (numN z)).length ≤ 5 := fun z hz => cntB_len (by have := numN_lt (o1 z hz); omega)
  have hq : ¬ σ.next + 1 = σ.next := by omega
  have k2 : ((5 : Int) == 2) = false := rfl
  have k4 : ((5 : Int) == 4) = false := rfl
  have k5 : ((5 : Int) == 5) = true := rfl
  have k6 : ((5 : Int) == 6) = false := rfl
  have k7 : ((5 : Int) == 7) = false := rfl
  have kc : ((5 : Nat) : Int) = 5 := rfl
  rw [kc] at a1
  have run : ∃ T1 σ3 b3, execC lawProg (callN lawProg k) k 118 71 (bodyOf Tryz.f118) (initT 0 [b, .agg (elC e)] .nil) σ = some (.ret, T1, σ3) ∧ T1.get 4 = some b3 ∧ Adv low (σ.push (.row 4 true (elC e))) b bs σ3 b3 ((5 :: cntB e.keys.length) ++ e.keys.flatMap fun z => cntB (numN z)) := by
    have a1' := a1
    have gq' := gq
    have gq2' := gq2
    simp only [elC, hk, tyByte, AMem.next_push] at a1' gq' gq2' ⊢
    simp only [bodyOf, Tryz.f118, Option.getD_some, initT, dx, reduceIte, zLt, zLe, zEq, zAd, zMu, zSu, zBe, yEq, yLt, yLe, yTn, reduceCtorEq, sx, fx118, hq, a1', gq', k2, k4, k5, k6, intsV_length, c1, gq2']
    generalize hL : execC _ _ _ _ _ (Code.loop _) _ _ = q
    obtain ⟨ex, T', σ', rfl, _, rfl, b3, t0, t3, hb3⟩ : ∃ ex T' σ', q = some (ex, T', σ') ∧ ex ≠ .normal ∧ (ex = .exit 1 ∧ ∃ b3, T'.get 0 = some b3 ∧ T'.get 3 = some (.ptr σ.next 0) ∧ Adv low (σ.push (.row 4 true (elC e))) b bs σ' b3 ((5 :: cntB e.keys.length) ++ e.keys.flatMap fun z => cntB (numN z))) := by
      rw [← hL]
      refine exec_loop (fun i T σ' => i ≤ e.keys.length ∧ ∃ b3, T.get 0 = some b3 ∧ T.get 3 = some (.ptr σ.next 0) ∧ T.get 35 = some (.vs e.kk (intsV e.keys)) ∧ T.get 36 = some (.int .i64 e.keys.length) ∧ T.get 37 = some (.int .i64 i) ∧ Adv low (σ.push (.row 4 true (elC e))) b bs σ' b3 ((5 :: cntB e.keys.length) ++ (e.keys.take i).flatMap fun z => cntB (numN z))) e.keys.length (by omega) ?_ ?_ ?_
      · rintro i hi T σ' ⟨_, b3, t0, t3, t35, t36, t37, ha⟩
        have hlt : (i : Int) < e.keys.length := by omega
        have hw := i64_succ (i := i) (by omega)
        have hfl := flat_le hnl i
        obtain ⟨b4, σ4, d1, d2⟩ := enumber_callN (k := k) (σ := σ') e.keys[i] (o1 _ (List.getElem_mem hi)) ha.1 (by have := ha.2.1; simp at this; omega) (by simp only [List.length_append, List.length_cons]; omega) (by omega)
        have gs : σ'.get σ.next = some (.row 4 true (elC e)) := by rw [ha.2.2.1 _ (by simp) (fun hm => by have := (hr _ hm).2; omega), AMem.get_push, if_pos rfl]
        have hA4 := ha.trans d2
        have gs4 : σ4.get σ.next = some (.row 4 true (elC e)) := by rw [hA4.2.2.1 _ (by simp) (fun hm => by have := (hr _ hm).2; omega), AMem.get_push, if_pos rfl]
        simp only [elC, hk] at gs gs4
        refine ⟨_, _, by
          simp only [dx, reduceIte, zLt, zLe, zEq, zAd, zMu, zSu, zBe, yEq, yLt, yLe, yTn, reduceCtorEq, sx, fx118, t0, t3, t35, t36, t37, hlt, Int.natCast_nonneg, Int.toNat_natCast, intsV_get hi, d1, gs, gs4, k6, hw]
          rfl, hi, b4, ?_, ?_, ?_, ?_, ?_, ?_⟩
        · simp only [Tr.get_set, zEq, reduceIte]
        · simp only [Tr.get_set, zEq, reduceIte, t3]
        · simp only [Tr.get_set, zEq, reduceIte, t35]
        · simp only [Tr.get_set, zEq, reduceIte, t36]
        · simp only [Tr.get_set, zEq, reduceIte]
        · rw [flat_snoc hi, ← List.append_assoc]; exact hA4
      · rintro T σ' ⟨_, b3, t0, t3, t35, t36, t37, ha⟩
        rw [List.take_length] at ha
        refine ⟨_, _, _, by
          simp only [dx, reduceIte, zLt, zLe, zEq, zAd, zMu, zSu, zBe, yEq, yLt, yLe, yTn, reduceCtorEq, sx, fx118, t36, t37, Int.lt_irrefl]
          rfl, by simp, rfl, b3, ?_, ?_, ha⟩
        all_goals simp only [Tr.get_set, zEq, reduceIte, t0, t3]
      · refine ⟨Nat.zero_le _, b2, ?_, ?_, ?_, ?_, ?_, ?_⟩
        · simp only [Tr.get_set, zEq, reduceIte]
        · simp only [Tr.get_set, zEq, reduceIte]
        · simp only [Tr.get_set, zEq, reduceIte]
        · simp only [Tr.get_set, zEq, reduceIte]
        · simp only [Tr.get_set, zEq, reduceIte]; rfl
        · simp only [List.take_zero, List.flatMap_nil, List.append_nil]
          exact hA
    have gs : σ'.get σ.next = some (.row 4 true (elC e)) := by rw [hb3.2.2.1 _ (by simp) (fun hm => by have := (hr _ hm).2; omega), AMem.get_push, if_pos rfl]
    simp only [elC, hk] at gs
    simp only [dx, reduceIte, zLt, zLe, zEq, zAd, zMu, zSu, zBe, yEq, yLt, yLe, yTn, reduceCtorEq, sx, fx118, t0, t3, gs, k7]
    refine ⟨_, _, b3, rfl, by simp only [Tr.get_set, zEq, reduceIte], ?_⟩
    have hb3' := hb3
    simp only [elC, hk, List.cons_append] at hb3' ⊢
    exact hb3'
  obtain ⟨T1, σ3, b3, h1, h2, h3⟩ := run
  exact ⟨b3, σ3, q_call (first := []) (caps := []) fn118 rfl (by simp [Tryz.f118]) h1 (by simp) (res_one h2), h3.push hx fun s hs => (hr s hs).2⟩
theorem pack_map {d low : Nat} {e : El} {b : AVal} {bs : List Nat} (hk : e.kind = 6) (hko : KeysOk e.keys) (hlen : e.kids.length = e.keys.length) (hv : ∀ x, x ∈ e.kids → VE d x) (ih : PackRuns d k) (h : GB low σ b bs) (hlow : low ≤ σ.next) (hb : bs.length + encL (d + 1) ≤ 100000000000) (hK : 100 ≤ k) :
    ∃ b' σ', callN lawProg (k + 1) (.func 118 [] []) [b, .agg (elC e)] σ = some (b', σ') ∧ Adv low σ b bs σ' b' (6 :: (cntB e.keys.length ++ (e.keys.zip e.kids).flatMap fun p => cntB (numN p.1) ++ encE d p.2)) := by
  obtain ⟨o1, o2, o3, o4⟩ := id hko
  have hr := h.rows
  have hx : Ext σ (σ.push (.row 4 true (elC e))) := Ext.push _ _
  simp only [encL] at hb
  obtain ⟨b1, σ1, a1, a2⟩ := GB.byte (σ := σ.push (.row 4 true (elC e))) (h.keep hx.1 fun s hs => hx.2 s (hr s hs).2) (Nat.le_trans hlow hx.1) 6 (by omega)
  have gq : σ1.get σ.next = some (.row 4 true (elC e)) := by rw [a2.2.2.1 _ (by simp) (fun hm => by have := (hr _ hm).2; omega), AMem.get_push, if_pos rfl]
  obtain ⟨b2, σ2, c1, c2⟩ := ecount_callN (k := k) (σ := σ1) e.keys.length a2.1 (by have := a2.2.1; simp at this; omega) (by omega) (by simp; omega) (by omega)
  have hA := a2.trans c2
  have gq2 : σ2.get σ.next = some (.row 4 true (elC e)) := by rw [hA.2.2.1 _ (by simp) (fun hm => by have := (hr _ hm).2; omega), AMem.get_push, if_pos rfl]
  have hcl : (cntB e.keys.length).length ≤ 5 := cntB_len (by omega)
  have hnl : ∀ z, z ∈ e.keys → (cntB (numN z)).length ≤ 5 := fun z hz => cntB_len (by have := numN_lt (o1 z hz); omega)
  have hzl : (e.keys.zip e.kids).length = e.keys.length := by rw [List.length_zip, hlen, Nat.min_self]
  have hpl : ∀ p, p ∈ e.keys.zip e.kids → (cntB (numN p.1) ++ encE d p.2).length ≤ 5 + encL d := fun p hp => by
    have a1 := hnl p.1 (List.of_mem_zip hp).1
    have a2 := (encE_len (hv p.2 (List.of_mem_zip hp).2)).1
    rw [List.length_append]; omega
  have hq : ¬ σ.next + 1 = σ.next := by omega
  have k2 : ((6 : Int) == 2) = false := rfl
  have k4 : ((6 : Int) == 4) = false := rfl
  have k5 : ((6 : Int) == 5) = false := rfl
  have k6 : ((6 : Int) == 6) = true := rfl
  have k7 : ((6 : Int) == 7) = false := rfl
  have kc : ((6 : Nat) : Int) = 6 := rfl
  rw [kc] at a1
  have run : ∃ T1 σ3 b3, execC lawProg (callN lawProg k) k 118 71 (bodyOf Tryz.f118) (initT 0 [b, .agg (elC e)] .nil) σ = some (.ret, T1, σ3) ∧ T1.get 4 = some b3 ∧ Adv low (σ.push (.row 4 true (elC e))) b bs σ3 b3 ((6 :: cntB e.keys.length) ++ (e.keys.zip e.kids).flatMap fun p => cntB (numN p.1) ++ encE d p.2) := by
    have a1' := a1
    have gq' := gq
    have gq2' := gq2
    simp only [elC, hk, tyByte, AMem.next_push] at a1' gq' gq2' ⊢
    simp only [bodyOf, Tryz.f118, Option.getD_some, initT, dx, reduceIte, zLt, zLe, zEq, zAd, zMu, zSu, zBe, yEq, yLt, yLe, yTn, reduceCtorEq, sx, fx118, hq, a1', gq', k2, k4, k5, k6, intsV_length, c1, gq2']
    generalize hL : execC _ _ _ _ _ (Code.loop _) _ _ = q
    obtain ⟨ex, T', σ', rfl, _, rfl, b3, t0, t3, hb3⟩ : ∃ ex T' σ', q = some (ex, T', σ') ∧ ex ≠ .normal ∧ (ex = .exit 1 ∧ ∃ b3, T'.get 0 = some b3 ∧ T'.get 3 = some (.ptr σ.next 0) ∧ Adv low (σ.push (.row 4 true (elC e))) b bs σ' b3 ((6 :: cntB e.keys.length) ++ (e.keys.zip e.kids).flatMap fun p => cntB (numN p.1) ++ encE d p.2)) := by
      rw [← hL]
      refine exec_loop (fun i T σ' => i ≤ e.keys.length ∧ ∃ b3, T.get 0 = some b3 ∧ T.get 3 = some (.ptr σ.next 0) ∧ T.get 35 = some (.vs e.kk (intsV e.keys)) ∧ T.get 36 = some (.int .i64 e.keys.length) ∧ T.get 37 = some (.int .i64 i) ∧ Adv low (σ.push (.row 4 true (elC e))) b bs σ' b3 ((6 :: cntB e.keys.length) ++ ((e.keys.zip e.kids).take i).flatMap fun p => cntB (numN p.1) ++ encE d p.2)) e.keys.length (by omega) ?_ ?_ ?_
      · rintro i hi T σ' ⟨_, b3, t0, t3, t35, t36, t37, ha⟩
        have hlt : (i : Int) < e.keys.length := by omega
        have hik : i < e.kids.length := by omega
        have hiz : i < (e.keys.zip e.kids).length := by omega
        have hw := i64_succ (i := i) (by omega)
        have hfl := flat_len (f := fun p : Int × El => cntB (numN p.1) ++ encE d p.2) (m := 5 + encL d) (l := (e.keys.zip e.kids).take i) fun p hp => hpl p (List.mem_of_mem_take hp)
        rw [List.length_take, Nat.min_eq_left (by omega)] at hfl
        have hml : i * (5 + encL d) ≤ 39 * (5 + encL d) := Nat.mul_le_mul_right _ (by omega)
        have hnl1 := hnl _ (List.getElem_mem hi)
        obtain ⟨b4, σ4, d1, d2⟩ := enumber_callN (k := k) (σ := σ') e.keys[i] (o1 _ (List.getElem_mem hi)) ha.1 (by have := ha.2.1; simp at this; omega) (by simp only [List.length_append, List.length_cons]; omega) (by omega)
        have hA4 := ha.trans d2
        obtain ⟨b5, σ5, e1, e2⟩ := ih (hv _ (List.getElem_mem hik)) hA4.1 (by have := hA4.2.1; simp at this; omega) (by simp only [List.length_append, List.length_cons]; omega)
        have hA5 := hA4.trans e2
        have gs4 : σ4.get σ.next = some (.row 4 true (elC e)) := by rw [hA4.2.2.1 _ (by simp) (fun hm => by have := (hr _ hm).2; omega), AMem.get_push, if_pos rfl]
        simp only [elC, hk] at gs4
        have hg := el_get hik
        simp only [elC] at hg e1
        refine ⟨_, _, by
          simp only [dx, reduceIte, zLt, zLe, zEq, zAd, zMu, zSu, zBe, yEq, yLt, yLe, yTn, reduceCtorEq, sx, fx118, t0, t3, t35, t36, t37, hlt, Int.natCast_nonneg, Int.toNat_natCast, intsV_get hi, d1, gs4, k6, hg, e1, hw]
          rfl, hi, b5, ?_, ?_, ?_, ?_, ?_, ?_⟩
        · simp only [Tr.get_set, zEq, reduceIte]
        · simp only [Tr.get_set, zEq, reduceIte, t3]
        · simp only [Tr.get_set, zEq, reduceIte, t35]
        · simp only [Tr.get_set, zEq, reduceIte, t36]
        · simp only [Tr.get_set, zEq, reduceIte]
        · rw [flat_snoc hiz, ← List.append_assoc, List.getElem_zip, ← List.append_assoc]; exact hA5
      · rintro T σ' ⟨_, b3, t0, t3, t35, t36, t37, ha⟩
        rw [← hzl, List.take_length] at ha
        refine ⟨_, _, _, by
          simp only [dx, reduceIte, zLt, zLe, zEq, zAd, zMu, zSu, zBe, yEq, yLt, yLe, yTn, reduceCtorEq, sx, fx118, t36, t37, Int.lt_irrefl]
          rfl, by simp, rfl, b3, ?_, ?_, by simpa only [hzl] using ha⟩
        all_goals simp only [Tr.get_set, zEq, reduceIte, t0, t3]
      · refine ⟨Nat.zero_le _, b2, ?_, ?_, ?_, ?_, ?_, ?_⟩
        · simp only [Tr.get_set, zEq, reduceIte]
        · simp only [Tr.get_set, zEq, reduceIte]
        · simp only [Tr.get_set, zEq, reduceIte]
        · simp only [Tr.get_set, zEq, reduceIte]
        · simp only [Tr.get_set, zEq, reduceIte]; rfl
        · simp only [List.take_zero, List.flatMap_nil, List.append_nil]
          exact hA
    have gs : σ'.get σ.next = some (.row 4 true (elC e)) := by rw [hb3.2.2.1 _ (by simp) (fun hm => by have := (hr _ hm).2; omega), AMem.get_push, if_pos rfl]
    simp only [elC, hk] at gs
    simp only [dx, reduceIte, zLt, zLe, zEq, zAd, zMu, zSu, zBe, yEq, yLt, yLe, yTn, reduceCtorEq, sx, fx118, t0, t3, gs, k7]
    refine ⟨_, _, b3, rfl, by simp only [Tr.get_set, zEq, reduceIte], ?_⟩
    have hb3' := hb3
    simp only [elC, hk, List.cons_append] at hb3' ⊢
    exact hb3'
  obtain ⟨T1, σ3, b3, h1, h2, h3⟩ := run
  exact ⟨b3, σ3, q_call (first := []) (caps := []) fn118 rfl (by simp [Tryz.f118]) h1 (by simp) (res_one h2), h3.push hx fun s hs => (hr s hs).2⟩
theorem pack_pair {d low : Nat} {e x y : El} {b : AVal} {bs : List Nat} (hk : e.kind = 7) (hks : e.keys = []) (hab : e.kids = [x, y]) (hxv : VE d x) (hyv : VE d y) (ih : PackRuns d k) (h : GB low σ b bs) (hlow : low ≤ σ.next) (hb : bs.length + encL (d + 1) ≤ 100000000000) (hK : 100 ≤ k) :
    ∃ b' σ', callN lawProg (k + 1) (.func 118 [] []) [b, .agg (elC e)] σ = some (b', σ') ∧ Adv low σ b bs σ' b' (7 :: (encE d x ++ encE d y)) := by
  have hr := h.rows
  have hx : Ext σ (σ.push (.row 4 true (elC e))) := Ext.push _ _
  simp only [encL] at hb
  obtain ⟨b1, σ1, a1, a2⟩ := GB.byte (σ := σ.push (.row 4 true (elC e))) (h.keep hx.1 fun s hs => hx.2 s (hr s hs).2) (Nat.le_trans hlow hx.1) 7 (by omega)
  have gq : σ1.get σ.next = some (.row 4 true (elC e)) := by rw [a2.2.2.1 _ (by simp) (fun hm => by have := (hr _ hm).2; omega), AMem.get_push, if_pos rfl]
  have l1 := (encE_len hxv).1
  have l2 := (encE_len hyv).1
  obtain ⟨b2, σ2, c1, c2⟩ := ih hxv a2.1 (by have := a2.2.1; simp at this; omega) (by simp; omega)
  have hA2 := a2.trans c2
  have gq2 : σ2.get σ.next = some (.row 4 true (elC e)) := by rw [hA2.2.2.1 _ (by simp) (fun hm => by have := (hr _ hm).2; omega), AMem.get_push, if_pos rfl]
  obtain ⟨b3, σ3, d1, d2⟩ := ih hyv hA2.1 (by have := hA2.2.1; simp at this; omega) (by simp; omega)
  have hA3 := hA2.trans d2
  have hq : ¬ σ.next + 1 = σ.next := by omega
  have k2 : ((7 : Int) == 2) = false := rfl
  have k4 : ((7 : Int) == 4) = false := rfl
  have k5 : ((7 : Int) == 5) = false := rfl
  have k6 : ((7 : Int) == 6) = false := rfl
  have k7 : ((7 : Int) == 7) = true := rfl
  have kc : ((7 : Nat) : Int) = 7 := rfl
  rw [kc] at a1
  have e0 : intsV ([] : List Int) = [] := rfl
  have m0 : ([x, y].map elV)[0]? = some (.agg (elC x)) := by simp [elV_eq]
  have m1 : ([x, y].map elV)[1]? = some (.agg (elC y)) := by simp [elV_eq]
  have t0' : ((0 : Int)).toNat = 0 := rfl
  have t1' : ((1 : Int)).toNat = 1 := rfl
  have p1 : (0 : Int) ≤ 1 := by decide
  refine ⟨b3, σ3, ?_, by
    have := hA3.push hx fun s hs => (hr s hs).2
    simpa using this⟩
  have run : ∃ T1, execC lawProg (callN lawProg k) k 118 71 (bodyOf Tryz.f118) (initT 0 [b, .agg (elC e)] .nil) σ = some (.ret, T1, σ3) ∧ T1.get 4 = some b3 := by
    simp only [elC, hk, hks, hab, e0, tyByte, AMem.next_push] at a1 gq gq2 m0 m1 c1 d1 ⊢
    simp only [bodyOf, Tryz.f118, Option.getD_some, initT, dx, reduceIte, zLt, zLe, zEq, zAd, zMu, zSu, zBe, yEq, yLt, yLe, yTn, reduceCtorEq, sx, fx118, hq, a1, gq, k2, k4, k5, k6]
    generalize hL : execC _ _ _ _ _ (Code.loop _) _ _ = q
    obtain ⟨ex, T', σ', rfl, _, rfl, t0, t3, rfl⟩ : ∃ ex T' σ', q = some (ex, T', σ') ∧ ex ≠ .normal ∧ (ex = .exit 1 ∧ T'.get 0 = some b1 ∧ T'.get 3 = some (.ptr σ.next 0) ∧ σ' = σ1) := by
      rw [← hL]
      refine exec_loop (fun i T σ' => i = 0 ∧ T.get 0 = some b1 ∧ T.get 3 = some (.ptr σ.next 0) ∧ T.get 36 = some (.int .i64 0) ∧ T.get 37 = some (.int .i64 0) ∧ σ' = σ1) 0 (by omega) (fun i hi => by omega) ?_ ?_
      · rintro T σ' ⟨_, t0, t3, t36, t37, rfl⟩
        refine ⟨_, _, _, by
          simp only [dx, reduceIte, zLt, zLe, zEq, zAd, zMu, zSu, zBe, yEq, yLt, yLe, yTn, reduceCtorEq, sx, fx118, t36, t37, Int.lt_irrefl]
          rfl, by simp, rfl, ?_, ?_, rfl⟩
        all_goals simp only [Tr.get_set, zEq, reduceIte, t0, t3]
      · refine ⟨rfl, ?_, ?_, ?_, ?_, rfl⟩
        all_goals simp only [Tr.get_set, zEq, reduceIte]
        rfl
    simp only [dx, reduceIte, zLt, zLe, zEq, zAd, zMu, zSu, zBe, yEq, yLt, yLe, yTn, reduceCtorEq, sx, fx118, t0, t3, gq, gq2, k7, m0, m1, t0', t1', p1, Int.le_refl, c1, d1]
    exact ⟨_, rfl, by simp only [Tr.get_set, zEq, reduceIte]⟩
  obtain ⟨T1, h1, h2⟩ := run
  exact q_call (first := []) (caps := []) fn118 rfl (by simp [Tryz.f118]) h1 (by simp) (res_one h2)
theorem pack_callN : ∀ (d k : Nat), d + 200 ≤ k → PackRuns d k := by
  intro d
  induction d with
  | zero => intro k _ low e b bs σ h; exact h.elim
  | succ d ih =>
    intro k hk low e b bs σ hv h hlow hb
    have hb' := hb
    simp only [encL] at hb'
    obtain ⟨K, rfl⟩ : ∃ m, k = m + 1 := ⟨k - 1, by omega⟩
    rcases hv with ⟨hkd, h0, h1, h2⟩ | ⟨hkd, hn, _⟩ | ⟨hkd, h0, h1, _⟩ | ⟨hkd, _, hko, _⟩ | ⟨hkd, _, hko, hl, hv⟩ | ⟨hkd, _, hks, x, y, hab, hx, hy⟩
    · obtain ⟨c, hc⟩ : ∃ c : Nat, e.kind = (c : Int) := ⟨e.kind.toNat, by omega⟩
      have he : encE (d + 1) e = [c] := by
        rw [encE, if_neg (by omega), if_neg (by omega), if_neg (by omega), if_neg (by omega), if_neg (by omega), hc, Int.toNat_natCast]
      rw [he]
      exact pack_plain hc (by omega) h1 h hlow (by omega) (by omega)
    · rw [encE, if_pos hkd]
      exact pack_num hkd hn h hlow (by omega) (by omega)
    · rw [encE, if_neg (by omega), if_pos hkd]
      exact pack_name hkd h0 h1 h hlow (by omega) (by omega)
    · rw [encE, if_neg (by omega), if_neg (by omega), if_pos hkd]
      exact pack_set hkd hko h hlow (by omega) (by omega)
    · rw [encE, if_neg (by omega), if_neg (by omega), if_neg (by omega), if_pos hkd]
      exact pack_map hkd hko hl hv (ih K (by omega)) h hlow hb (by omega)
    · rw [encE, if_neg (by omega), if_neg (by omega), if_neg (by omega), if_neg (by omega), if_pos hkd, hab]
      exact pack_pair hkd hks hab hx hy (ih K (by omega)) h hlow hb (by omega)
end Go.Proofs.YtjckhhkhgjbpaaaGreatDoor


