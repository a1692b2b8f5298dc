/- The abstract machine against the model: loads and stores. -/
import Derived.Test.YtjckhhkhgjbpaaaGreatDoorPaleSteps
import Derived.Laws.Sem
set_option linter.unusedVariables false
set_option linter.unusedSimpArgs false
namespace Go.Proofs.YtjckhhkhgjbpaaaGreatDoor.Pale
open Go

variable {A : AProg} {P : Program}

/-! ### types -/
theorem ty_all {t : Nat} {i : TyI} (h : tyOf P t = some i) : ∃ info d z, P.info? t = some info ∧ P.underlying t = some d ∧ info.zero = some z ∧ ofScalars z.cells.toList = some i.zero ∧ i = ⟨kindOf d, info.size, info.bytes, i.zero⟩ ∧ isAggV z = i.isAgg := by
  unfold tyOf at h
  split at h
  · rename_i info d h1 h2
    split at h
    · rename_i z hz
      split at h
      · rename_i l hl
        split at h
        · rename_i ha
          cases h
          exact ⟨info, d, z, h1, h2, hz, hl, rfl, ha⟩
        · cases h
      · cases h
    · cases h
  · cases h
theorem ty_info {t : Nat} {i : TyI} (h : tyOf P t = some i) : ∃ info z, P.info? t = some info ∧ info.size = i.size ∧ info.bytes = i.bytes ∧ info.zero = some z ∧ ofScalars z.cells.toList = some i.zero := by
  obtain ⟨info, d, z, h1, h2, h3, h4, h5, h6⟩ := ty_all h
  exact ⟨info, z, h1, by rw [h5], by rw [h5], h3, h4⟩
theorem ty_under {t : Nat} {i : TyI} (h : tyOf P t = some i) : ∃ d, P.underlying t = some d ∧ kindOf d = i.k := by
  obtain ⟨info, d, z, h1, h2, h3, h4, h5, h6⟩ := ty_all h
  exact ⟨d, h2, by rw [h5]⟩

theorem kind_struct {d : TypeDesc} {fs : List (Nat × Nat)} (h : kindOf d = .struct fs) : ∃ fields, d = .struct fields ∧ fields.toList.map (fun f => (f.offset, f.type)) = fs := by
  cases d <;> simp [kindOf] at h
  exact ⟨_, rfl, h⟩
theorem kind_array {d : TypeDesc} {n e : Nat} (h : kindOf d = .array n e) : d = .array n e := by
  cases d <;> simp [kindOf] at h
  obtain ⟨rfl, rfl⟩ := h; rfl
theorem kind_slice {d : TypeDesc} {e : Nat} (h : kindOf d = .slice e) : d = .slice e := by
  cases d <;> simp [kindOf] at h
  subst h; rfl
theorem kind_map {d : TypeDesc} {k e : Nat} (h : kindOf d = .map k e) : d = .map k e := by
  cases d <;> simp [kindOf] at h
  obtain ⟨rfl, rfl⟩ := h; rfl
theorem kind_int {d : TypeDesc} {k : IntKind} (h : kindOf d = .int k) : d = .int k := by
  cases d <;> simp [kindOf] at h
  subst h; rfl
theorem kind_bool {d : TypeDesc} (h : kindOf d = .bool) : d = .bool := by cases d <;> simp [kindOf] at h; rfl
theorem kind_string {d : TypeDesc} (h : kindOf d = .string) : d = .string := by cases d <;> simp [kindOf] at h; rfl
theorem kind_pointer {d : TypeDesc} (h : kindOf d = .pointer) : ∃ e, d = .pointer e := by cases d <;> simp [kindOf] at h; exact ⟨_, rfl⟩

theorem run_info {t : Nat} {info : TypeInfo} (h : P.info? t = some info) (w : World) : (typeInfo t).run P w = .ok info w := by
  simp [typeInfo, program, Sem.run, h]
theorem run_under {t : Nat} {d : TypeDesc} (h : P.underlying t = some d) (w : World) : (underlying t).run P w = .ok d w := by
  simp [underlying, program, Sem.run, h]
theorem run_size {t : Nat} {i : TyI} (h : tyOf P t = some i) (w : World) : (sizeOf t).run P w = .ok i.size w := by
  obtain ⟨info, z, h1, h2, _⟩ := ty_info h
  simp [sizeOf, run_info h1, h2, Result.andThen]
theorem run_zero {t : Nat} {i : TyI} (h : tyOf P t = some i) (w : World) : ∃ z, (zeroValue t).run P w = .ok z w ∧ ofScalars z.cells.toList = some i.zero := by
  obtain ⟨info, z, h1, h2, h3, h4, h5⟩ := ty_info h
  exact ⟨z, by simp [zeroValue, run_info h1, h4, Result.andThen], h5⟩
theorem run_isAgg {t : Nat} {i : TyI} (h : tyOf P t = some i) (w : World) : (isAgg t).run P w = .ok i.isAgg w := by
  obtain ⟨d, h1, h2⟩ := ty_under h
  unfold isAgg TyI.isAgg
  simp only [Sem.run_bind, run_under h1, Result.andThen]
  rw [← h2]
  cases d <;> rfl

/-! ### constants -/
theorem ofScalar_rel {v : Value} {a : AVal} (h : ofScalar v = some a) (g : Ghost) (w : World) : Rel g w a v := by
  unfold ofScalar at h
  split at h <;> first | (cases h; simp [Rel, PRel]; done) | (cases h)
theorem ofScalars_rel : ∀ {vs : List Value} {l : List AVal}, ofScalars vs = some l → ∀ (g : Ghost) (w : World), RelL g w l vs := by
  intro vs
  induction vs with
  | nil => intro l h g w; simp [ofScalars] at h; subst h; simp [RelL]
  | cons v vs ih =>
    intro l h g w
    unfold ofScalars at h
    split at h
    · rename_i x xs h1 h2
      cases h
      simp only [RelL]
      exact ⟨v, vs, rfl, ofScalar_rel h1 g w, ih h2 g w⟩
    · cases h
theorem ofConst_rel {v : Value} {a : AVal} (h : ofConst v = some a) (g : Ghost) (w : World) : Rel g w a v := by
  unfold ofConst at h
  split at h
  · rename_i cs
    cases hs : ofScalars cs.toList with
    | none => simp [hs] at h
    | some l =>
      simp [hs] at h
      subst h
      simp only [Rel]
      exact ⟨cs.toList, by simp, ofScalars_rel hs g w⟩
  · rename_i cs
    split at h
    · rename_i he
      cases h
      simp only [Rel, RelL]
      have : cs = #[] := by apply Array.ext'; simpa using he
      exact ⟨[], by rw [this], rfl⟩
    · cases h
  · exact ofScalar_rel h g w

/-! ### what is pure is a value -/
mutual
theorem PRel.rel {g : Ghost} {w : World} : ∀ (v : AVal) (x : Value), PRel w g.ro v x → Rel g w v x
  | .bool _, _, h => by simpa only [Rel, PRel] using h
  | .int _ _, _, h => by simpa only [Rel, PRel] using h
  | .str _, _, h => by simpa only [Rel, PRel] using h
  | .nilptr, _, h => by simpa only [Rel, PRel] using h
  | .nilfn, _, h => by simpa only [Rel, PRel] using h
  | .nilmap, _, h => by simpa only [Rel, PRel] using h
  | .vs _ _, _, h => by simpa only [Rel] using h
  | .vptr _, _, h => by simpa only [Rel] using h
  | .agg cs, _, h => by
    simp only [Rel, PRel] at h ⊢
    obtain ⟨l, e, hl⟩ := h
    exact ⟨l, e, PRelL.rel cs l hl⟩
  | .tuple cs, _, h => by
    simp only [Rel, PRel] at h ⊢
    obtain ⟨l, e, hl⟩ := h
    exact ⟨l, e, PRelL.rel cs l hl⟩
  | .ptr _ _, _, h => by simp [PRel] at h
  | .slice _ _ _ _ _, _, h => by simp [PRel] at h
  | .func _ _ _, _, h => by simp [PRel] at h
  | .yield _, _, h => by simp [PRel] at h
  | .map _, _, h => by simp [PRel] at h
theorem PRelL.rel {g : Ghost} {w : World} : ∀ (cs : List AVal) (l : List Value), PRelL w g.ro cs l → RelL g w cs l
  | [], _, h => by simpa only [RelL, PRelL] using h
  | c :: cs, _, h => by
    simp only [RelL, PRelL] at h ⊢
    obtain ⟨x, xs, e, h1, h2⟩ := h
    exact ⟨x, xs, e, PRel.rel c x h1, PRelL.rel cs xs h2⟩
end

/-! ### loads -/
theorem add_plain (b o j : Nat) : (⟨b, o, none⟩ : Addr).add j = ⟨b, o + j, none⟩ := by
  unfold Addr.add
  split
  · rename_i h; simp [h]
  · rfl

theorem rowIs_cell {w : World} {p : Place} {C : Array Value} (h : RowIs w p C) (i : Nat) : w.cell? ⟨p.block, i, none⟩ = C[i]? := by
  obtain ⟨e, fz, hh, _⟩ := h
  simp [World.cell?, hh]

theorem row_view {g : Ghost} {σ : AMem} {w : World} {r : Nat} {p : Place} {sz : Nat} {b : Bool} {cells : List AVal} (hs : Sim A g σ w) (hr : g.st r = .live p) (hget : σ.get r = some (.row sz b cells)) :
    p.sz = sz ∧ cells.length ≤ p.room ∧ ∃ l, RelL g w cells l ∧ ∀ (j : Nat) (x : Value), l[j]? = some x → w.cell? ⟨p.block, p.off + j, none⟩ = some x := by
  obtain ⟨o, h1, h2⟩ := hs.obj r p hr
  rw [hget] at h1
  cases h1
  obtain ⟨hsz, hle, C, hC, hcells⟩ := h2
  refine ⟨hsz, hle, (C.toList.drop p.off).take cells.length, ?_, ?_⟩
  · rw [RelL.iff]
    obtain ⟨e, fz, hh, hfz, hroom⟩ := hC
    refine ⟨by simp; omega, fun i c hc => ?_⟩
    obtain ⟨x, hx, hrel⟩ := hcells i c hc
    refine ⟨x, ?_, hrel⟩
    have : i < cells.length := (List.getElem?_eq_some_iff.1 hc).1
    rw [List.getElem?_take, if_pos this, List.getElem?_drop]
    simpa using hx
  · intro j x hx
    rw [rowIs_cell hC]
    rw [List.getElem?_take] at hx
    split at hx
    · rw [List.getElem?_drop] at hx; simpa using hx
    · cases hx

theorem run_loadCells_view {w : World} {b o : Nat} {l : List Value} (h : ∀ (j : Nat) (x : Value), l[j]? = some x → w.cell? ⟨b, o + j, none⟩ = some x) : (loadCells ⟨b, o, none⟩ l.length).run P w = .ok l.toArray w :=
  run_loadCells_list w _ l (fun j v hv => by rw [add_plain]; exact h j v hv)

theorem run_load_view {w : World} {a : Addr} {x : Value} (h : w.cell? a = some x) : (load a).run P w = .ok x w := by
  simp [load, Sem.run, h]

/-- A stretch of a row, loaded. -/
theorem row_load {g : Ghost} {σ : AMem} {w : World} {r : Nat} {p : Place} {sz : Nat} {b : Bool} {cells : List AVal} (hs : Sim A g σ w) (hr : g.st r = .live p) (hget : σ.get r = some (.row sz b cells)) (off n : Nat) (h : off + n ≤ cells.length) :
    ∃ l, RelL g w ((cells.drop off).take n) l ∧ l.length = n ∧ (loadCells ⟨p.block, p.off + off, none⟩ n).run P w = .ok l.toArray w := by
  obtain ⟨_, _, l, hl, hc⟩ := row_view hs hr hget
  have hlen := hl.length
  refine ⟨(l.drop off).take n, (hl.drop off).take n, by simp; omega, ?_⟩
  have hn : ((l.drop off).take n).length = n := by simp; omega
  have := run_loadCells_view (P := P) (w := w) (b := p.block) (o := p.off + off) (l := (l.drop off).take n) (fun j x hx => by
    rw [List.getElem?_take] at hx
    split at hx
    · rw [List.getElem?_drop] at hx
      have := hc (off + j) x hx
      rwa [← Nat.add_assoc] at this
    · cases hx)
  rwa [hn] at this

theorem PAtL.view {w : World} {ro : Nat → Prop} {b : Nat} : ∀ (cs : List AVal) (o : Nat), PAtL w ro b o cs → ∃ l, PRelL w ro cs l ∧ ∀ (j : Nat) (x : Value), l[j]? = some x → w.cell? ⟨b, o + j, none⟩ = some x := by
  intro cs
  induction cs with
  | nil => intro o h; exact ⟨[], by simp [PRelL], fun j x hx => by simp at hx⟩
  | cons c cs ih =>
    intro o h
    simp only [PAtL] at h
    obtain ⟨⟨hr, x, hx, hp⟩, h2⟩ := h
    obtain ⟨l, hl, hc⟩ := ih (o + 1) h2
    refine ⟨x :: l, by simp only [PRelL]; exact ⟨x, l, rfl, hp, hl⟩, fun j y hy => ?_⟩
    cases j with
    | zero => simp at hy; subst hy; exact hx
    | succ j =>
      have := hc j y (by simpa using hy)
      rwa [show o + 1 + j = o + (j + 1) from by omega] at this

theorem PRelL.length {w : World} {ro : Nat → Prop} : ∀ (cs : List AVal) (l : List Value), PRelL w ro cs l → cs.length = l.length := by
  intro cs
  induction cs with
  | nil => intro l h; simp [PRelL] at h; subst h; rfl
  | cons c cs ih =>
    intro l h
    simp only [PRelL] at h
    obtain ⟨x, xs, rfl, _, h2⟩ := h
    simp [ih xs h2]

theorem vptr_scalar {w : World} {ro : Nat → Prop} {v : AVal} {x : Value} (hv : ∀ cs, v ≠ .agg cs) (h : PRel w ro (.vptr v) x) : ∃ b o y, x = .pointer (some ⟨b, o, none⟩) ∧ ro b ∧ w.cell? ⟨b, o, none⟩ = some y ∧ PRel w ro v y := by
  rw [PRel] at h
  · exact h
  · exact hv

theorem live_of_get {g : Ghost} {σ : AMem} {w : World} (hs : Sim A g σ w) {r : Nat} {o : AObj} (hget : σ.get r = some o) {φ : Place → Prop} (h : g.st r = .dead ∨ ∃ p, g.st r = .live p ∧ φ p) : ∃ p, g.st r = .live p ∧ φ p := by
  rcases h with h | h
  · rw [hs.dead r h] at hget; cases hget
  · exact h

theorem loadA_sound {g : Ghost} {σ : AMem} {w : World} {t : Nat} {i : TyI} {p v : AVal} {x : Value} (hs : Sim A g σ w) (ht : tyOf P t = some i) (h : loadA i σ p = some v) (hx : Rel g w p x) :
    ∃ y, (Instr.loadAt t x).run P w = .ok y w ∧ Rel g w v y := by
  unfold loadA at h
  split at h
  · rename_i r off
    split at h
    · rename_i sz b cells hget
      simp only [Rel] at hx
      obtain ⟨a, rfl, hd⟩ := hx
      obtain ⟨q, hq, rfl⟩ := live_of_get hs hget hd
      split at h
      · rename_i hagg
        split at h
        · rename_i hle
          cases h
          obtain ⟨l, hl, hn, hrun⟩ := row_load (P := P) hs hq hget off i.size hle
          refine ⟨.agg l.toArray, ?_, by simp only [Rel]; exact ⟨l, rfl, hl⟩⟩
          simp [Instr.loadAt, Instr.sureAddr, loadVar, run_isAgg ht, hagg, run_size ht, hrun, Result.andThen]
        · cases h
      · rename_i hagg
        obtain ⟨_, _, l, hl, hc⟩ := row_view hs hq hget
        obtain ⟨y, hy, hr⟩ := hl.get h
        refine ⟨y, ?_, hr⟩
        simp [Instr.loadAt, Instr.sureAddr, loadVar, run_isAgg ht, hagg, run_load_view (hc off y hy), Result.andThen]
    · cases h
  · rename_i u
    split at h
    · rename_i cs
      split at h
      · rename_i hc
        cases h
        simp at hc
        simp only [Rel, PRel] at hx
        obtain ⟨b, o, rfl, hat⟩ := hx
        obtain ⟨l, hl, hcell⟩ := PAtL.view cs o hat
        have hlen := PRelL.length cs l hl
        refine ⟨.agg l.toArray, ?_, by simp only [Rel]; exact ⟨l, rfl, PRelL.rel cs l hl⟩⟩
        have hrun := run_loadCells_view (P := P) hcell
        rw [← hlen, hc.2] at hrun
        simp [Instr.loadAt, Instr.sureAddr, loadVar, run_isAgg ht, hc.1, run_size ht, hrun, Result.andThen]
      · cases h
    · rename_i hna
      split at h
      · cases h
      · rename_i hagg
        cases h
        simp only [Rel] at hx
        obtain ⟨b, o, y, rfl, hr, hc, hp⟩ := vptr_scalar (fun cs e => hna cs e) hx
        refine ⟨y, ?_, PRel.rel _ _ hp⟩
        simp [Instr.loadAt, Instr.sureAddr, loadVar, run_isAgg ht, hagg, run_load_view hc, Result.andThen]
  · cases h

/-! ### stores -/
theorem setAt_length : ∀ (vs l : List AVal) (off : Nat), (setAt l off vs).length = l.length := by
  intro vs
  induction vs with
  | nil => intro l off; rfl
  | cons v vs ih => intro l off; simp [setAt, ih]

theorem setAt_get : ∀ (vs l : List AVal) (off j : Nat), off + vs.length ≤ l.length → (setAt l off vs)[j]? = if off ≤ j ∧ j < off + vs.length then vs[j - off]? else l[j]? := by
  intro vs
  induction vs with
  | nil => intro l off j h; simp only [setAt, List.length_nil, Nat.add_zero]; rw [if_neg (by omega)]
  | cons v vs ih =>
    intro l off j h
    simp only [List.length_cons] at h
    rw [setAt, ih _ _ _ (by simp; omega)]
    by_cases h1 : off + 1 ≤ j ∧ j < off + 1 + vs.length
    · rw [if_pos h1, if_pos (by simp; omega)]
      have : j - off = (j - (off + 1)) + 1 := by omega
      rw [this, List.getElem?_cons_succ]
    · rw [if_neg h1]
      by_cases h2 : j = off
      · subst h2
        rw [if_pos (by simp), List.getElem?_set_self (by omega)]
        simp
      · rw [if_neg (by simp; omega), List.getElem?_set_ne (by omega)]

theorem oneCell_rel {g : Ghost} {w : World} {v : AVal} {x : Value} (h : Rel g w v x) (ho : v.oneCell = true) : x.oneCell' = true := by
  cases v <;> simp [AVal.oneCell] at ho <;> simp only [Rel] at h
  case bool => subst h; rfl
  case int => subst h; rfl
  case str => subst h; rfl
  case ptr => obtain ⟨a, rfl, _⟩ := h; rfl
  case nilptr => subst h; rfl
  case slice => obtain ⟨a, c, rfl, _⟩ := h; rfl
  case vs k es =>
    simp only [PRel] at h
    rcases h with ⟨_, _, rfl⟩ | ⟨_, _, a, rfl⟩ | ⟨_, a, c, s, rfl, _⟩ <;> rfl
  case vptr u =>
    cases u with
    | agg cs => simp only [PRel] at h; obtain ⟨b, o, rfl, _⟩ := h; rfl
    | _ => obtain ⟨b, o, y, rfl, _⟩ := vptr_scalar (fun cs e => by cases e) h; rfl
  case func => obtain ⟨l, m, rfl, _⟩ := h; rfl
  case yield => obtain ⟨b, rfl, _⟩ := h; rfl
  case nilfn => subst h; rfl
  case nilmap => subst h; rfl
  case map => obtain ⟨b, rfl, _⟩ := h; rfl

theorem World.ext_heap {w w' : World} (h : w'.heap = w.heap) (h1 : w'.tape = w.tape) (h2 : w'.drawn = w.drawn) (h3 : w'.os = w.os) (h4 : w'.output = w.output) : w' = w := by
  cases w; cases w'; simp at *; exact ⟨h, h1, h2, h3, h4⟩
theorem putObj_self {w : World} {b : Nat} {O : Obj} (h : w.heap[b]? = some O) : w.putObj b O = w := by
  refine World.ext_heap ?_ rfl rfl rfl rfl
  show w.heap.setIfInBounds b O = w.heap
  apply Array.ext_getElem?
  intro i
  rw [Array.getElem?_setIfInBounds]
  split
  · rename_i e; subst e
    have hlt := (Array.getElem?_eq_some_iff.1 h).1
    rw [if_pos hlt, h]
  · rfl
theorem putObj_put {w : World} {b : Nat} {O O' : Obj} : (w.putObj b O).putObj b O' = w.putObj b O' := by
  refine World.ext_heap ?_ rfl rfl rfl rfl
  show (w.heap.setIfInBounds b O).setIfInBounds b O' = w.heap.setIfInBounds b O'
  apply Array.ext_getElem?
  intro i
  simp only [Array.getElem?_setIfInBounds, Array.size_setIfInBounds]
  split <;> simp [*]

theorem run_store1 {w : World} {b o : Nat} {C : Array Value} {e : TypeId} {fz : Nat × Nat} {x : Value} (hh : w.heap[b]? = some (.cells C e fz)) (hfz : ∀ i, i < C.size → ¬ (fz.1 ≤ i ∧ i < fz.2)) (ho : o < C.size) (hx : x.oneCell' = true) :
    (store ⟨b, o, none⟩ x).run P w = .ok () (w.putObj b (.cells (C.setIfInBounds o x) e fz)) := by
  have hc : w.cell? ⟨b, o, none⟩ = some C[o] := by simp [World.cell?, hh, ho]
  have hf : w.frozen? ⟨b, o, none⟩ = false := by
    simp only [World.frozen?, hh]
    have := hfz o ho
    simp; omega
  have hset : w.setCell ⟨b, o, none⟩ x = w.putObj b (.cells (C.setIfInBounds o x) e fz) := by
    unfold World.setCell World.putObj
    obtain ⟨hlt, he⟩ := Array.getElem?_eq_some_iff.1 hh
    congr 1
    apply Array.ext_getElem?
    intro i
    rw [Array.getElem?_modify, Array.getElem?_setIfInBounds]
    simp only
    split
    · rename_i e'; subst e'
      simp [hlt, he]
    · rfl
  rw [run_store P w _ x _ hx]
  simp [hc, hf, hset]

theorem run_storeCells_pale {b o : Nat} {e : TypeId} {fz : Nat × Nat} : ∀ (vs : List Value) (i : Nat) (C : Array Value) (w : World), w.heap[b]? = some (.cells C e fz) → (∀ i, i < C.size → ¬ (fz.1 ≤ i ∧ i < fz.2)) → o + i + vs.length ≤ C.size → (∀ v ∈ vs, v.oneCell' = true) →
    ∃ C' : Array Value, (storeCells ⟨b, o, none⟩ vs i).run P w = .ok () (w.putObj b (.cells C' e fz)) ∧ C'.size = C.size ∧ ∀ j, C'[j]? = if o + i ≤ j ∧ j < o + i + vs.length then vs[j - (o + i)]? else C[j]? := by
  intro vs
  induction vs with
  | nil =>
    intro i C w hh hfz hle hv
    refine ⟨C, ?_, rfl, fun j => by rw [if_neg (by simp only [List.length_nil]; omega)]⟩
    rw [putObj_self hh]; rfl
  | cons v vs ih =>
    intro i C w hh hfz hle hv
    simp only [List.length_cons] at hle
    have hlt := (Array.getElem?_eq_some_iff.1 hh).1
    have h1 := run_store1 (P := P) (x := v) hh hfz (o := o + i) (by omega) (hv v (by simp))
    obtain ⟨C', hrun, hsz, hget⟩ := ih (i + 1) (C.setIfInBounds (o + i) v) (w.putObj b (.cells (C.setIfInBounds (o + i) v) e fz)) (World.putObj_heap_same hlt) (by simpa using hfz) (by rw [Array.size_setIfInBounds]; omega) (fun u hu => hv u (by simp [hu]))
    refine ⟨C', ?_, by simpa using hsz, fun j => ?_⟩
    · simp only [storeCells, Sem.run_bind, add_plain, h1, Result.andThen, hrun, putObj_put]
    · rw [hget j]
      by_cases h2 : o + (i + 1) ≤ j ∧ j < o + (i + 1) + vs.length
      · rw [if_pos h2, if_pos (by simp; omega)]
        have : j - (o + i) = (j - (o + (i + 1))) + 1 := by omega
        rw [this, List.getElem?_cons_succ]
      · rw [if_neg h2]
        by_cases h3 : j = o + i
        · subst h3
          rw [if_pos (by simp)]
          rw [Array.getElem?_setIfInBounds_self_of_lt (by omega)]
          simp
        · rw [if_neg (by simp; omega), Array.getElem?_setIfInBounds_ne (by omega)]

theorem relL_oneCell {g : Ghost} {w : World} {vs : List AVal} {l : List Value} (h : RelL g w vs l) (ho : vs.all AVal.oneCell = true) : ∀ v ∈ l, v.oneCell' = true := by
  intro v hv
  obtain ⟨i, hi⟩ := List.getElem?_of_mem hv
  have hlen := h.length
  have hlt := (List.getElem?_eq_some_iff.1 hi).1
  obtain ⟨c, hc⟩ : ∃ c, vs[i]? = some c := ⟨vs[i]'(by omega), List.getElem?_eq_getElem (by omega)⟩
  obtain ⟨x, hx, hr⟩ := h.get hc
  rw [hi] at hx; cases hx
  exact oneCell_rel hr (List.all_eq_true.1 ho c (List.mem_of_getElem? hc))

theorem storeCellsA_sound {g : Ghost} {σ σ' : AMem} {w : World} {r off : Nat} {p : Place} {vs : List AVal} {l : List Value} (hs : Sim A g σ w) (hr : g.st r = .live p) (h : storeCellsA σ r off vs = some σ') (hl : RelL g w vs l) :
    ∃ w', (storeCells ⟨p.block, p.off + off, none⟩ l).run P w = .ok () w' ∧ Sim A g σ' w' ∧ Trans g σ w g σ' w' ∧ σ'.next = σ.next := by
  unfold storeCellsA at h
  split at h
  · rename_i sz b cells hget
    split at h
    · rename_i hc
      simp only [Bool.and_eq_true, decide_eq_true_eq] at hc
      cases h
      obtain ⟨o, h1, h2⟩ := hs.obj r p hr
      rw [hget] at h1
      cases h1
      obtain ⟨hsz, hle, C, ⟨e, fz, hh, hfz, hroom⟩, hcells⟩ := h2
      have hlen := hl.length
      obtain ⟨C', hrun, hsz', hC'⟩ := run_storeCells_pale (P := P) (o := p.off + off) l 0 C w hh hfz (by omega) (relL_oneCell hl hc.2)
      refine ⟨_, hrun, ?_⟩
      have := update_step (o' := .row sz b (setAt cells off vs)) (O' := .cells C' e fz) hs hr (fun l h => by rw [hh] at h; cases h) (fun hst => ?_)
      · exact ⟨this.1, this.2, rfl⟩
      · refine ⟨hsz, by rw [setAt_length]; exact hle, C', ⟨e, fz, World.putObj_heap_same (Array.getElem?_eq_some_iff.1 hh).1, by rw [hsz']; exact hfz, by rw [hsz']; exact hroom⟩, fun i c hi => ?_⟩
        rw [setAt_get _ _ _ _ hc.1] at hi
        rw [hC']
        split at hi
        · rename_i hin
          obtain ⟨x, hx, hrel⟩ := hl.get hi
          refine ⟨x, ?_, Rel.mono (GLe.refl g) hst _ _ hrel⟩
          rw [if_pos (by omega)]
          rw [show p.off + i - (p.off + off + 0) = i - off from by omega]
          exact hx
        · rename_i hin
          obtain ⟨x, hx, hrel⟩ := hcells i c hi
          refine ⟨x, ?_, Rel.mono (GLe.refl g) hst _ _ hrel⟩
          rw [if_neg (by omega)]
          exact hx
    · cases h
  · cases h

theorem cells_rel {g : Ghost} {w : World} {v : AVal} {x : Value} (h : Rel g w v x) : RelL g w v.cells x.cells.toList ∨ (∃ cs, v = .tuple cs) := by
  cases v with
  | agg cs =>
    simp only [Rel] at h
    obtain ⟨l, rfl, hl⟩ := h
    exact .inl (by simpa [AVal.cells, Value.cells] using hl)
  | tuple cs => exact .inr ⟨cs, rfl⟩
  | _ =>
    refine .inl ?_
    have ho := oneCell_rel h rfl
    have : x.cells = #[x] := by cases x <;> first | rfl | (simp [Value.oneCell'] at ho)
    rw [this]
    simp only [AVal.cells, RelL]
    exact ⟨x, [], rfl, h, rfl⟩

theorem cells_rel' {g : Ghost} {w : World} {v : AVal} {x : Value} (h : Rel g w v x) : RelL g w v.cells x.cells.toList := by
  rcases cells_rel h with h1 | ⟨cs, rfl⟩
  · exact h1
  · have h0 := h
    simp only [Rel] at h0
    obtain ⟨l, rfl, hl⟩ := h0
    simp only [AVal.cells, Value.cells, RelL]
    exact ⟨_, [], rfl, h, rfl⟩

theorem storeA_sound {g : Ghost} {σ σ' : AMem} {w : World} {t : Nat} {i : TyI} {p v : AVal} {x y : Value} (hs : Sim A g σ w) (ht : tyOf P t = some i) (h : storeA i σ p v = some σ') (hx : Rel g w p x) (hy : Rel g w v y) :
    ∃ w', (Instr.storeAt t x y).run P w = .ok () w' ∧ Sim A g σ' w' ∧ Trans g σ w g σ' w' := by
  unfold storeA at h
  split at h
  · rename_i r off
    split at h
    · rename_i hsz
      simp only [Rel] at hx
      obtain ⟨a, rfl, hd⟩ := hx
      have hget : ∃ o, σ.get r = some o := by
        unfold storeCellsA at h
        split at h
        · rename_i hg; exact ⟨_, hg⟩
        · cases h
      obtain ⟨o, hget⟩ := hget
      obtain ⟨q, hq, rfl⟩ := live_of_get hs hget hd
      have hcl := cells_rel' hy
      obtain ⟨w', hrun, h1, h2, _⟩ := storeCellsA_sound (P := P) hs hq h hcl
      refine ⟨w', ?_, h1, h2⟩
      have hl := hcl.length
      have hsz' : ¬ (y.cells.size ≠ i.size) := by rw [← Array.length_toList, ← hl, hsz]; simp
      simp only [Instr.storeAt, Instr.sureAddr, storeVar, run_size ht, Result.andThen, Sem.run_bind, Sem.run_pure, if_neg hsz', hrun]
    · cases h
  · cases h

end Go.Proofs.YtjckhhkhgjbpaaaGreatDoor.Pale
