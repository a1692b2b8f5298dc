/- The abstract machine against the model: the operations that touch no memory, all of them. -/
import Derived.Test.YtjckhhkhgjbpaaaGreatDoorPaleArith
set_option linter.unusedVariables false
set_option linter.unusedSimpArgs false
namespace Go.Proofs.YtjckhhkhgjbpaaaGreatDoor.Pale
open Go

variable {A : AProg} {P : Program}

def setV (l : List Value) (off : Nat) : List Value → List Value
  | [] => l
  | v :: vs => setV (l.set off v) (off + 1) vs

theorem setAt_rel {g : Ghost} {w : World} : ∀ (vs : List AVal) (xs : List Value) (l : List AVal) (m : List Value) (off : Nat), RelL g w vs xs → RelL g w l m → off + vs.length ≤ l.length → RelL g w (setAt l off vs) (setV m off xs) := by
  intro vs
  induction vs with
  | nil => intro xs l m off h1 h2 _; simp [RelL] at h1; subst h1; exact h2
  | cons v vs ih =>
    intro xs l m off h1 h2 hle
    simp only [RelL] at h1
    obtain ⟨x, xs', rfl, hx, hxs⟩ := h1
    simp only [List.length_cons] at hle
    simp only [setAt, setV]
    refine ih xs' _ _ _ hxs ?_ (by simp; omega)
    rw [RelL.iff] at h2 ⊢
    refine ⟨by simp [h2.1], fun i c hc => ?_⟩
    by_cases e : off = i
    · subst e
      rw [List.getElem?_set_self (by omega)] at hc
      cases hc
      exact ⟨x, by rw [List.getElem?_set_self (by omega)], hx⟩
    · rw [List.getElem?_set_ne e] at hc ⊢
      exact h2.2 i c hc

theorem foldl_setV (m : Array Value) (off : Nat) : ∀ (xs : List Value) (j : Nat) (cs : Array Value), (xs.zipIdx j).foldl (fun cs (c, j) => cs.setIfInBounds (off + j) c) cs = (setV cs.toList (off + j) xs).toArray := by
  intro xs
  induction xs with
  | nil => intro j cs; simp [setV]
  | cons x xs ih =>
    intro j cs
    simp only [List.zipIdx_cons, List.foldl_cons, setV, ih]
    rw [show off + j + 1 = off + (j + 1) from by omega]
    congr 2
    simp

/-- Parts of what is built: the numbers of the places and the values. -/
def PartsRel (g : Ghost) (w : World) : List (Nat × AVal) → List (Nat × Value) → Prop
  | [], l => l = []
  | (i, v) :: ps, l => ∃ x xs, l = (i, x) :: xs ∧ Rel g w v x ∧ PartsRel g w ps xs

theorem fillA_sound {g : Ghost} {w : World} (place : Nat → Option (Nat × Nat)) : ∀ (ps : List (Nat × AVal)) (xs : List (Nat × Value)) (cells : List AVal) (l : List Value) (cs : List AVal), PartsRel g w ps xs → RelL g w cells l → fillA place cells ps = some cs →
    ∃ m, Instr.fill place l.toArray xs = some m.toArray ∧ RelL g w cs m := by
  intro ps
  induction ps with
  | nil => intro xs cells l cs h1 h2 h; simp [PartsRel] at h1; subst h1; simp [fillA] at h; subst h; exact ⟨l, by simp [Instr.fill], h2⟩
  | cons p ps ih =>
    obtain ⟨i, v⟩ := p
    intro xs cells l cs h1 h2 h
    simp only [PartsRel] at h1
    obtain ⟨x, xs', rfl, hx, hxs⟩ := h1
    simp only [fillA] at h
    split at h
    · cases h
    · rename_i off size hp
      split at h
      · rename_i hc
        simp only [Bool.and_eq_true, decide_eq_true_eq] at hc
        have hcl := cells_rel' hx
        have hl1 := hcl.length
        have hl2 := h2.length
        obtain ⟨m, hm, hr⟩ := ih xs' _ _ cs hxs (setAt_rel _ _ _ _ off hcl h2 (by omega)) h
        refine ⟨m, ?_, hr⟩
        simp only [Instr.fill, hp]
        rw [if_neg (by simp at hl1 ⊢; omega)]
        rw [← hm]
        congr 1
        have := foldl_setV l.toArray off x.cells.toList 0 l.toArray
        simp only [Nat.add_zero] at this
        rw [← this, ← Array.toList_zipIdx, Array.foldl_toList]
      · cases h

theorem run_places {fields : Array Field} (hA : AOk P A) {w : World} : ∀ {fs : List (Nat × Nat)} {pl : List (Nat × Nat)}, fields.toList.map (fun f => (f.offset, f.type)) = fs → placesA A fs = some pl →
    (fields.mapM fun f => do pure (f.offset, ← sizeOf f.type) : Sem (Array (Nat × Nat))).run P w = .ok pl.toArray w := by
  intro fs pl h1 h2
  rw [Array.mapM_eq_mapM_toList]
  have key : ∀ (l : List Field) (pl : List (Nat × Nat)), placesA A (l.map fun f => (f.offset, f.type)) = some pl → (l.mapM fun f => do pure (f.offset, ← sizeOf f.type) : Sem (List (Nat × Nat))).run P w = .ok pl w := by
    intro l
    induction l with
    | nil => intro pl h; simp [placesA] at h; subst h; simp
    | cons f l ih =>
      intro pl h
      simp only [List.map_cons, placesA] at h
      split at h
      · rename_i i l' hi hl
        cases h
        rw [List.mapM_cons]
        have h1 := run_size (hA.ty _ _ hi) w
        have h2 := ih l' hl
        simp only [Sem.run_bind, h1, h2, Result.andThen, Sem.run_pure]
      · cases h
  subst h1
  have := key _ pl h2
  rw [map_eq_pure_bind]
  simp only [Sem.run_bind, this, Result.andThen, Sem.run_pure]

theorem zero_rel {t : Nat} {i : TyI} (ht : tyOf P t = some i) (g : Ghost) (w : World) : ∃ z, (zeroValue t).run P w = .ok z w ∧ RelL g w i.zero z.cells.toList := by
  obtain ⟨z, h1, h2⟩ := run_zero ht w
  exact ⟨z, h1, ofScalars_rel h2 g w⟩

theorem build_sound {g : Ghost} {w : World} {t : Nat} {i : TyI} {ps : List (Nat × AVal)} {xs : Array (Nat × Value)} {cs : List AVal} (hA : AOk P A) (ht : A.ty t = some i) (hp : PartsRel g w ps xs.toList)
    (h : (match i.k with
      | .struct fs => match placesA A fs with
        | some pl => (fillA (fun j => pl[j]?) i.zero ps)
        | none => none
      | .array _ e => match A.ty e with
        | some ei => (fillA (fun j => some (j * ei.size, ei.size)) i.zero ps)
        | none => none
      | _ => none) = some cs) : ∃ y, (Instr.build t xs).run P w = .ok y w ∧ Rel g w (.agg cs) y := by
  have ht' := hA.ty t i ht
  obtain ⟨z, hz, hzr⟩ := zero_rel ht' g w
  obtain ⟨d, hd, hdk⟩ := ty_under ht'
  split at h
  · rename_i fs hk
    rw [hk] at hdk
    obtain ⟨fields, rfl, hfs⟩ := kind_struct hdk
    split at h
    · rename_i pl hpl
      have hrun := run_places (w := w) hA hfs hpl
      obtain ⟨m, hm, hr⟩ := fillA_sound _ ps xs.toList _ _ cs hp hzr h
      refine ⟨.agg m.toArray, ?_, by simp only [Rel]; exact ⟨m, rfl, hr⟩⟩
      have hm' : Instr.fill (fun x => pl.toArray[x]?) z.cells xs.toList = some m.toArray := by simpa using hm
      simp only [Instr.build, Sem.run_bind, hz, Result.andThen, run_under hd, hrun, hm', Sem.run_pure]
    · cases h
  · rename_i n e hk
    rw [hk] at hdk
    have := kind_array hdk
    subst this
    split at h
    · rename_i ei he
      obtain ⟨m, hm, hr⟩ := fillA_sound _ ps xs.toList _ _ cs hp hzr h
      refine ⟨.agg m.toArray, ?_, by simp only [Rel]; exact ⟨m, rfl, hr⟩⟩
      have hm' : Instr.fill (fun i => some (i * ei.size, ei.size)) z.cells xs.toList = some m.toArray := by simpa using hm
      simp only [Instr.build, Sem.run_bind, hz, Result.andThen, run_under hd, run_size (hA.ty e ei he), hm', Sem.run_pure]
    · cases h
  · cases h

/-! ### operands -/
/-- What an operation looks at stands for what the model's looks at. -/
def OpndRel (A : AProg) (g : Ghost) (w : World) (T : Tr AVal) (a : Act) (o : Oper) : Prop := ∀ x, x ∈ o.op.operands → ∀ v, evalO A T x = some v → Rel g w v (a.eval x)

theorem evalL_rel {A : AProg} {g : Ghost} {w : World} {T : Tr AVal} {a : Act} : ∀ (xs : List Operand) (vs : List AVal), (∀ x, x ∈ xs → ∀ v, evalO A T x = some v → Rel g w v (a.eval x)) → evalL A T xs = some vs → RelL g w vs (xs.map a.eval) := by
  intro xs
  induction xs with
  | nil => intro vs h h1; simp [evalL] at h1; subst h1; simp [RelL]
  | cons x xs ih =>
    intro vs h h1
    unfold evalL at h1
    split at h1
    · rename_i v vs' e1 e2
      cases h1
      simp only [List.map_cons, RelL]
      exact ⟨_, _, rfl, h x (by simp) v e1, ih vs' (fun y hy => h y (by simp [hy])) e2⟩
    · cases h1

theorem evalParts_rel {A : AProg} {g : Ghost} {w : World} {T : Tr AVal} {a : Act} : ∀ (xs : List (Nat × Operand)) (vs : List (Nat × AVal)), (∀ x, x ∈ xs → ∀ v, evalO A T x.2 = some v → Rel g w v (a.eval x.2)) → evalParts A T xs = some vs → PartsRel g w vs (xs.map fun (i, x) => (i, a.eval x)) := by
  intro xs
  induction xs with
  | nil => intro vs h h1; simp [evalParts] at h1; subst h1; simp [PartsRel]
  | cons x xs ih =>
    obtain ⟨i, x⟩ := x
    intro vs h h1
    unfold evalParts at h1
    split at h1
    · rename_i v vs' e1 e2
      cases h1
      simp only [List.map_cons, PartsRel]
      exact ⟨_, _, rfl, h (i, x) (by simp) v e1, ih vs' (fun y hy => h y (by simp [hy])) e2⟩
    · cases h1

theorem evalOpt_rel {A : AProg} {g : Ghost} {w : World} {T : Tr AVal} {a : Act} {x : Option Operand} {v : Option AVal} (h : ∀ y, x = some y → ∀ v, evalO A T y = some v → Rel g w v (a.eval y)) (h1 : evalOpt A T x = some v) : BoundRel g w v (x.map a.eval) := by
  cases x with
  | none => simp [evalOpt] at h1; subst h1; trivial
  | some y =>
    simp only [evalOpt] at h1
    cases hy : evalO A T y with
    | none => simp [hy] at h1
    | some u => simp [hy] at h1; subst h1; exact h y rfl u hy

theorem maxF_sound {g : Ghost} {w : World} : ∀ (rest : List AVal) (l : List Value) (k : IntKind) (x : Int) (v : AVal), maxF (.int k x) rest = some v → RelL g w rest l → ∃ y, (l.foldlM Builtin.max2 (.int k x) : Sem Value).run P w = .ok y w ∧ Rel g w v y := by
  intro rest
  induction rest with
  | nil => intro l k x v h hl; simp [RelL] at hl; subst hl; simp [maxF] at h; subst h; exact ⟨.int k x, by simp, by simp [Rel]⟩
  | cons r rest ih =>
    intro l k x v h hl
    cases r <;> simp only [maxF] at h <;> try (cases h; done)
    rename_i j y
    split at h
    · rename_i hk
      subst hk
      simp only [RelL] at hl
      obtain ⟨z, zs, rfl, hz, hzs⟩ := hl
      simp only [Rel] at hz
      subst hz
      obtain ⟨u, h1, h2⟩ := ih zs k _ v h hzs
      exact ⟨u, by simpa [Builtin.max2, Result.andThen] using h1, h2⟩
    · cases h
theorem minF_sound {g : Ghost} {w : World} : ∀ (rest : List AVal) (l : List Value) (k : IntKind) (x : Int) (v : AVal), minF (.int k x) rest = some v → RelL g w rest l → ∃ y, (l.foldlM Builtin.min2 (.int k x) : Sem Value).run P w = .ok y w ∧ Rel g w v y := by
  intro rest
  induction rest with
  | nil => intro l k x v h hl; simp [RelL] at hl; subst hl; simp [minF] at h; subst h; exact ⟨.int k x, by simp, by simp [Rel]⟩
  | cons r rest ih =>
    intro l k x v h hl
    cases r <;> simp only [minF] at h <;> try (cases h; done)
    rename_i j y
    split at h
    · rename_i hk
      subst hk
      simp only [RelL] at hl
      obtain ⟨z, zs, rfl, hz, hzs⟩ := hl
      simp only [Rel] at hz
      subst hz
      obtain ⟨u, h1, h2⟩ := ih zs k _ v h hzs
      exact ⟨u, by simpa [Builtin.min2, Result.andThen] using h1, h2⟩
    · cases h


theorem evalO_mem {g : Ghost} {w : World} {T : Tr AVal} {a : Act} {o : Oper} (h : OpndRel A g w T a o) {x : Operand} {v : AVal} (hx : x ∈ o.op.operands) (hv : evalO A T x = some v) : Rel g w v (a.eval x) := h x hx v hv

theorem map_some {α β : Type} {o : Option α} {f : α → β} {b : β} (h : o.map f = some b) : ∃ x, o = some x ∧ f x = b := by
  cases o with
  | none => cases h
  | some x => exact ⟨x, rfl, by simpa using h⟩

theorem exec_v {ρ : Operand → Value} {o : Oper} {s : Sem Value} {w : World} {y : Value} (he : execOp ρ o = (do pure (.value (← s)))) (hs : s.run P w = .ok y w) : (execOp ρ o).run P w = .ok (.value y) w := by
  rw [he]; simp [hs, Result.andThen]

theorem exec_vw {ρ : Operand → Value} {o : Oper} {s : Sem Value} {w w' : World} {y : Value} (he : execOp ρ o = (do pure (.value (← s)))) (hs : s.run P w = .ok y w') : (execOp ρ o).run P w = .ok (.value y) w' := by
  rw [he]; simp [hs, Result.andThen]

/-- What a pure operation gives. -/
def PureOk (A : AProg) (P : Program) (o : Oper) (v : AVal) (T : Tr AVal) : Prop :=
  ∀ (g : Ghost) (w : World) (a : Act), OpndRel A g w T a o → ∃ y, (execOp a.eval o).run P w = .ok (.value y) w ∧ Rel g w v y

theorem pure_move {o : Oper} {x : Operand} {T : Tr AVal} {v : AVal} (ho : o.op = .move x ∨ o.op = .assign x) (h : evalO A T x = some v) : PureOk A P o v T := by
  intro g w a hop
  rcases ho with ho | ho <;>
    exact ⟨a.eval x, by simp [execOp, ho], hop x (by simp [ho, Op.operands]) v h⟩

theorem pure_field {o : Oper} {s f : Nat} {x : Operand} {i : TyI} {fs : List (Nat × Nat)} {off t : Nat} {ti : TyI} {p v : AVal} {T : Tr AVal} (hA : AOk P A) (ho : o.op = .fieldAddr s x f) (h1 : A.ty s = some i) (h2 : evalO A T x = some p) (hk : i.k = .struct fs) (hf : fs[f]? = some (off, t)) (ht : A.ty t = some ti) (hsz : ti.size ≠ 0)
    (h : (∃ r q, p = .ptr r q ∧ v = .ptr r (q + off)) ∨ (∃ cs u, p = .vptr (.agg cs) ∧ partA ti cs off = some u ∧ v = .vptr u)) : PureOk A P o v T := by
  intro g w a hop
  have hx := hop x (by simp [ho, Op.operands]) p h2
  obtain ⟨d, hd, hdk⟩ := ty_under (hA.ty s i h1)
  rw [hk] at hdk
  obtain ⟨fields, rfl, hfs⟩ := kind_struct hdk
  obtain ⟨fl, hfl, rfl, rfl⟩ := field_get hfs hf
  have hfp : ∀ ad : Addr, (fieldPlace ad fl).run P w = .ok (ad.add fl.offset) w := by
    intro ad
    simp [fieldPlace, run_size (hA.ty _ _ ht), Result.andThen, hsz]
  have he : execOp a.eval o = (do pure (.value (← Instr.fieldAt s (a.eval x) f))) := by simp [execOp, ho]
  rcases h with ⟨r, q, rfl, rfl⟩ | ⟨cs, u, rfl, hu, rfl⟩
  · simp only [Rel] at hx
    obtain ⟨ad, hax, hd'⟩ := hx
    refine ⟨_, exec_v (y := .pointer (some (ad.add fl.offset))) he ?_, ?_⟩
    · rw [hax]
      simp [Instr.fieldAt, run_under hd, hfl, Instr.sureAddr, hfp, Result.andThen]
    · simp only [Rel]
      refine ⟨_, rfl, ?_⟩
      rcases hd' with hd' | ⟨pl, hpl, rfl⟩
      · exact .inl hd'
      · exact .inr ⟨pl, hpl, by rw [add_plain, Nat.add_assoc]⟩
  · simp only [Rel, PRel] at hx
    obtain ⟨b, q, hax, hat⟩ := hx
    refine ⟨_, exec_v (y := .pointer (some ⟨b, q + fl.offset, none⟩)) he ?_, ?_⟩
    · rw [hax]
      simp [Instr.fieldAt, run_under hd, hfl, Instr.sureAddr, hfp, Result.andThen, add_plain]
    · simp only [Rel]
      exact vptr_part hat hu

theorem pure_index {o : Oper} {t : Nat} {x ix : Operand} {i ei : TyI} {e : Nat} {k : IntKind} {n : Int} {p v : AVal} {T : Tr AVal} (hA : AOk P A) (ho : o.op = .indexAddr t x ix) (h1 : A.ty t = some i) (h2 : evalO A T x = some p) (h3 : evalO A T ix = some (.int k n)) (he : A.ty e = some ei)
    (h : (i.k = .slice e ∧ ((∃ r off len cap z, p = .slice r off len cap z ∧ (0 ≤ n ∧ n < (len : Int) ∧ ei.size ≠ 0) ∧ v = .ptr r (off + n.toNat * ei.size)) ∨ (∃ kk es u, p = .vs kk es ∧ 0 ≤ n ∧ es[n.toNat]? = some u ∧ u.cells.length = ei.size ∧ v = .vptr u))) ∨
      (∃ len, i.k = .array len e ∧ (0 ≤ n ∧ n < (len : Int) ∧ ei.size ≠ 0) ∧ ((∃ r off, p = .ptr r off ∧ v = .ptr r (off + n.toNat * ei.size)) ∨ (∃ cs u, p = .vptr (.agg cs) ∧ partA ei cs (n.toNat * ei.size) = some u ∧ v = .vptr u)))) : PureOk A P o v T := by
  intro g w a hop
  have hx := hop x (by simp [ho, Op.operands]) p h2
  have hix := hop ix (by simp [ho, Op.operands]) _ h3
  simp only [Rel] at hix
  obtain ⟨d, hd, hdk⟩ := ty_under (hA.ty t i h1)
  have hexec : execOp a.eval o = (do pure (.value (← Instr.indexAt t (a.eval x) (a.eval ix)))) := by simp [execOp, ho]
  rw [hix] at hexec
  have hsz := run_size (hA.ty e ei he) w
  rcases h with ⟨hk, h⟩ | ⟨len, hk, hn, h⟩
  · rw [hk] at hdk
    have := kind_slice hdk
    subst this
    rcases h with ⟨r, off, len, cap, z, rfl, hn, rfl⟩ | ⟨kk, es, u, rfl, hn, hu, hlen, rfl⟩
    · simp only [Rel] at hx
      obtain ⟨ad, c, hax, hle, hcap, hd'⟩ := hx
      rw [hax] at hexec
      refine ⟨_, exec_v (y := .pointer (some (ad.add (n.toNat * ei.size)))) hexec ?_, ?_⟩
      · simp [Instr.indexAt, asIntOf, run_under hd, hsz, Result.andThen, hn.1, hn.2.1]
      · simp only [Rel]
        refine ⟨_, rfl, ?_⟩
        rcases hd' with hd' | ⟨pl, hpl, _, _, hadd, _⟩
        · exact .inl hd'
        · exact .inr ⟨pl, hpl, by rw [hadd (by omega), add_plain, Nat.add_assoc]⟩
    · have hlt : n.toNat < es.length := (List.getElem?_eq_some_iff.1 hu).1
      simp only [Rel, PRel] at hx
      rcases hx with ⟨_, rfl, _⟩ | ⟨_, rfl, _⟩ | ⟨_, ad, c, sz, hax, hle, hsp, hE⟩
      · simp at hu
      · simp at hu
      · have hne : es ≠ [] := by rintro rfl; simp at hu
        have hadp : ad = ⟨ad.block, ad.off, none⟩ := by have := hsp hne; cases ad; simp at this ⊢; exact this
        rw [hax] at hexec
        have hszz : sz = ei.size := by rw [← hE.size (List.mem_of_getElem? hu), hlen]
        subst hszz
        refine ⟨_, exec_v (y := .pointer (some ⟨ad.block, ad.off + n.toNat * ei.size, none⟩)) hexec ?_, ?_⟩
        · have hn2 : n < (es.length : Int) := by omega
          simp [Instr.indexAt, asIntOf, run_under hd, hsz, Result.andThen, hn, hn2]
          rw [hadp, add_plain]
        · simp only [Rel]
          rcases PRelE.get es ad.off n.toNat u hE hu with ⟨cs, rfl, _, hat⟩ | ⟨hna, h1, hb, y, hy, hp⟩
          · simp only [PRel]
            exact ⟨_, _, rfl, hat⟩
          · rw [PRel]
            · exact ⟨_, _, y, rfl, hb, hy, hp⟩
            · exact hna
  · rw [hk] at hdk
    have := kind_array hdk
    subst this
    rcases h with ⟨r, off, rfl, rfl⟩ | ⟨cs, u, rfl, hu, rfl⟩
    · simp only [Rel] at hx
      obtain ⟨ad, hax, hd'⟩ := hx
      rw [hax] at hexec
      refine ⟨_, exec_v (y := .pointer (some (ad.add (n.toNat * ei.size)))) hexec ?_, ?_⟩
      · simp [Instr.indexAt, Instr.sureAddr, asIntOf, run_under hd, hsz, Result.andThen, hn.1, hn.2.1]
      · simp only [Rel]
        refine ⟨_, rfl, ?_⟩
        rcases hd' with hd' | ⟨pl, hpl, rfl⟩
        · exact .inl hd'
        · exact .inr ⟨pl, hpl, by rw [add_plain, Nat.add_assoc]⟩
    · simp only [Rel, PRel] at hx
      obtain ⟨b, q, hax, hat⟩ := hx
      rw [hax] at hexec
      refine ⟨_, exec_v (y := .pointer (some ⟨b, q + n.toNat * ei.size, none⟩)) hexec ?_, ?_⟩
      · simp [Instr.indexAt, Instr.sureAddr, asIntOf, run_under hd, hsz, Result.andThen, hn.1, hn.2.1, add_plain]
      · simp only [Rel]
        exact vptr_part hat hu

end Go.Proofs.YtjckhhkhgjbpaaaGreatDoor.Pale
