/- The abstract machine against the model: every effect but the calls. -/
import Derived.Test.YtjckhhkhgjbpaaaGreatDoorPaleEff
import Derived.Laws.BytesString
set_option linter.unusedVariables false
set_option linter.unusedSimpArgs false
namespace Go.Proofs.YtjckhhkhgjbpaaaGreatDoor.Pale
open Go

variable {A : AProg} {P : Program}

theorem bytesOfA_rel {g : Ghost} {w : World} : ∀ (xs : List AVal) (m : List Value) (l : List UInt8), bytesOfA xs = some l → RelL g w xs m → ∃ ns : List Int, m = ns.map (Value.int .u8) ∧ l = ns.map (fun n => UInt8.ofNat n.toNat) := by
  intro xs
  induction xs with
  | nil => intro m l h hr; simp [bytesOfA] at h; simp [RelL] at hr; subst h; subst hr; exact ⟨[], rfl, rfl⟩
  | cons x xs ih =>
    intro m l h hr
    unfold bytesOfA at h
    split at h
    · rename_i h0; cases h0
    · rename_i n l' h0
      cases h0
      obtain ⟨u, h1, h2⟩ := map_some h
      subst h2
      simp only [RelL] at hr
      obtain ⟨y, ys, rfl, hy, hys⟩ := hr
      simp only [Rel] at hy
      subst hy
      obtain ⟨ns, rfl, rfl⟩ := ih ys u h1 hys
      exact ⟨n :: ns, rfl, rfl⟩
    · cases h

theorem foldl_push : ∀ (ns : List Int) (s : ByteArray), ns.foldl (fun r n => r.push (UInt8.ofNat n.toNat)) s = ⟨(s.data.toList ++ ns.map (fun n => UInt8.ofNat n.toNat)).toArray⟩ := by
  intro ns
  induction ns with
  | nil => intro s; simp
  | cons n ns ih => intro s; simp only [List.foldl_cons, ih]; simp [ByteArray.push]

theorem conv_sound {g : Ghost} {σ : AMem} {w : World} {s d e : Nat} {x : AVal} {xv : Value} {xs : List AVal} {n : Nat} {l : List UInt8} (hs : Sim A g σ w) (hsd : P.underlying s = some (.slice e)) (hed : P.underlying e = some (.int .u8)) (hdd : P.underlying d = some .string)
    (hx : Rel g w x xv) (hns : ∀ t, x ≠ .str t) (h : sourceA 1 σ x = some (xs, n)) (hb : bytesOfA xs = some l) : (convert s d xv).run P w = .ok (.string ⟨l.toArray⟩) w := by
  obtain ⟨hlen, hxl, hc⟩ := sourceA_sound (P := P) hs h hx
  obtain ⟨m, hm, hmr, hml⟩ := hc n (Nat.le_refl _)
  rw [take_full hxl] at hmr
  obtain ⟨ns, rfl, rfl⟩ := bytesOfA_rel xs m l hb hmr
  have shape : ∃ a c, xv = .slice a n c := by
    unfold sourceA at h
    split at h
    · split at h
      · cases h
        rcases vs_cases hx with ⟨_, rfl, rfl⟩ | ⟨_, a, c, rfl⟩
        · exact ⟨_, _, rfl⟩
        · exact ⟨_, _, rfl⟩
      · cases h
    · split at h
      · split at h
        · cases h
          simp only [Rel] at hx
          obtain ⟨a, c, rfl, _⟩ := hx
          exact ⟨_, _, rfl⟩
        · cases h
      · cases h
    · exact absurd rfl (hns _)
    · cases h
  obtain ⟨a, c, rfl⟩ := shape
  rw [run_convert_bytes_string w s d e a n c hsd hed hdd]
  cases a with
  | none =>
    have : ns = [] := by
      simp [Builtin.firstCells] at hm
      first | exact hm | exact hm.symm | exact List.map_eq_nil_iff.1 hm.symm
    subst this
    simp [Conv.bytesToString]
    rfl
  | some a =>
    have hm' : (loadCells a n).run P w = .ok (ns.map (Value.int .u8)).toArray w := by
      simpa [Builtin.firstCells] using hm
    rw [run_bytesToString w a n c ns hm', foldl_push]
    simp

/-! ### maps -/
theorem keyKind_spec {k : Nat} {ki : Bool} (hA : AOk P A) (hk : keyKind (A.ty k) = some ki) : ∃ d, P.underlying k = some d ∧ ((ki = true ∧ ∃ j, d = .int j) ∨ (ki = false ∧ d = .string)) ∧ ∀ (b : Bool) (v : Value) (w : World), (Instr.checkKey b 10000 k v).run P w = .ok () w := by
  unfold keyKind at hk
  split at hk
  · rename_i i hi
    obtain ⟨d, hd, hdk⟩ := ty_under (hA.ty _ _ hi)
    split at hk
    · rename_i j hj
      cases hk
      rw [hj] at hdk
      have := kind_int hdk
      subst this
      refine ⟨_, hd, .inl ⟨rfl, _, rfl⟩, fun b v w => ?_⟩
      rw [show (10000 : Nat) = 9999 + 1 from rfl, Instr.checkKey]
      simp [run_under hd, Result.andThen]
    · rename_i hj
      cases hk
      rw [hj] at hdk
      have := kind_string hdk
      subst this
      refine ⟨_, hd, .inr ⟨rfl, rfl⟩, fun b v w => ?_⟩
      rw [show (10000 : Nat) = 9999 + 1 from rfl, Instr.checkKey]
      simp [run_under hd, Result.andThen]
    · cases hk
  · cases hk

theorem ba_beq (a b : List UInt8) : ((⟨a.toArray⟩ : ByteArray) == ⟨b.toArray⟩) = (a == b) := by
  have h : ((⟨a.toArray⟩ : ByteArray) == ⟨b.toArray⟩) = (a.toArray == b.toArray) := rfl
  rw [h, Bool.eq_iff_iff]
  simp

theorem keyEq_same {g : Ghost} {w : World} {ki : Bool} {x y : AVal} {a b : Value} {d : TypeDesc} {r : Bool} (h : keyEq ki x y = some r) (hd : (ki = true ∧ ∃ j, d = .int j) ∨ (ki = false ∧ d = .string)) (hx : Rel g w x a) (hy : Rel g w y b) : Instr.sameNow d a b = some r ∧ (r = true → Instr.sameBits 10000 b a = true) := by
  unfold keyEq at h
  split at h
  · split at h
    · rename_i hjk
      subst hjk
      cases h
      simp only [Rel] at hx hy
      subst hx; subst hy
      rcases hd with ⟨_, j, rfl⟩ | ⟨h, _⟩
      · refine ⟨by simp [Instr.sameNow], fun h => ?_⟩
        have := eq_of_beq h
        subst this
        simp [Instr.sameBits]
      · cases h
    · cases h
  · cases h
    simp only [Rel] at hx hy
    subst hx; subst hy
    rcases hd with ⟨h, _⟩ | ⟨_, rfl⟩
    · cases h
    · refine ⟨by simp only [Instr.sameNow, ba_beq], fun h => ?_⟩
      have := eq_of_beq h
      subst this
      simp [Instr.sameBits, ba_beq]
  · cases h

/-- Entries that stand for each other. -/
def EntsRel (g : Ghost) (w : World) (es : List (AVal × AVal)) (E : List MapEntry) : Prop :=
  es.length = E.length ∧ ∀ (i : Nat) (k v : AVal), es[i]? = some (k, v) → ∃ m, E[i]? = some m ∧ Rel g w k m.key ∧ Rel g w v m.val

theorem EntsRel.cons {g : Ghost} {w : World} {k v : AVal} {es : List (AVal × AVal)} {E : List MapEntry} (h : EntsRel g w ((k, v) :: es) E) : ∃ m E', E = m :: E' ∧ Rel g w k m.key ∧ Rel g w v m.val ∧ EntsRel g w es E' := by
  cases E with
  | nil => simp [EntsRel] at h
  | cons m E' =>
    obtain ⟨hl, hi⟩ := h
    obtain ⟨m', hm, h1, h2⟩ := hi 0 k v rfl
    simp at hm
    subst hm
    exact ⟨_, E', rfl, h1, h2, by simpa using hl, fun i a b hab => hi (i + 1) a b (by simpa using hab)⟩

theorem findNow_sound {g : Ghost} {w : World} {ki : Bool} {d : TypeDesc} {x : AVal} {a : Value} (hd : (ki = true ∧ ∃ j, d = .int j) ∨ (ki = false ∧ d = .string)) (hx : Rel g w x a) : ∀ (es : List (AVal × AVal)) (E : List MapEntry) (i : Nat) (r : Option AVal), EntsRel g w es E → findA ki x es = some r →
    (r = none ∧ Instr.findNow d a E i = some none) ∨ ∃ v y j, r = some v ∧ Instr.findNow d a E i = some (some (j, y)) ∧ Rel g w v y := by
  intro es
  induction es with
  | nil =>
    intro E i r h hf
    have : E = [] := by cases E with | nil => rfl | cons => simp [EntsRel] at h
    subst this
    simp [findA] at hf
    exact .inl ⟨hf.symm, by simp [Instr.findNow]⟩
  | cons e es ih =>
    obtain ⟨k, v⟩ := e
    intro E i r h hf
    obtain ⟨m, E', rfl, h1, h2, h3⟩ := h.cons
    simp only [findA] at hf
    split at hf
    · rename_i hk
      cases hf
      obtain ⟨hs, _⟩ := keyEq_same hk hd hx h1
      exact .inr ⟨v, m.val, i, rfl, by simp [Instr.findNow, hs], h2⟩
    · rename_i hk
      obtain ⟨hs, _⟩ := keyEq_same hk hd hx h1
      have := ih E' (i + 1) r h3 hf
      simpa [Instr.findNow, hs] using this
    · cases hf

theorem updA_sound {g : Ghost} {w : World} {ki : Bool} {d : TypeDesc} {x u : AVal} {a y : Value} (hd : (ki = true ∧ ∃ j, d = .int j) ∨ (ki = false ∧ d = .string)) (hx : Rel g w x a) (hu : Rel g w u y) (clk : Nat) : ∀ (es : List (AVal × AVal)) (E : List MapEntry) (i : Nat) (es' : List (AVal × AVal)), EntsRel g w es E → updA ki x u es = some es' →
    (Instr.findNow d a E i = some none ∧ EntsRel g w es' (E ++ [{ key := a, val := y, born := clk }])) ∨
    ∃ (j : Nat) (z : Value) (m : MapEntry), Instr.findNow d a E i = some (some (i + j, z)) ∧ E[j]? = some m ∧ Instr.sameBits 10000 m.key a = true ∧ EntsRel g w es' (E.modify j fun e => { e with key := a, val := y }) := by
  intro es
  induction es with
  | nil =>
    intro E i es' h hf
    have : E = [] := by cases E with | nil => rfl | cons => simp [EntsRel] at h
    subst this
    simp [updA] at hf
    subst hf
    refine .inl ⟨by simp [Instr.findNow], by simp, fun i k v hi => ?_⟩
    cases i with
    | zero => simp at hi; obtain ⟨rfl, rfl⟩ := hi; exact ⟨_, rfl, hx, hu⟩
    | succ i => simp at hi
  | cons e es ih =>
    obtain ⟨k, v⟩ := e
    intro E i es' h hf
    obtain ⟨m, E', rfl, h1, h2, h3⟩ := h.cons
    simp only [updA] at hf
    split at hf
    · rename_i hk
      cases hf
      obtain ⟨hs, hbits⟩ := keyEq_same hk hd hx h1
      refine .inr ⟨0, m.val, m, by simp [Instr.findNow, hs], rfl, hbits rfl, by simp [h3.1], fun i a' b' hi => ?_⟩
      cases i with
      | zero => simp at hi; obtain ⟨rfl, rfl⟩ := hi; exact ⟨_, by simp; rfl, hx, hu⟩
      | succ i => simp at hi; obtain ⟨m', hm', hh⟩ := h3.2 i a' b' hi; exact ⟨m', by simpa using hm', hh⟩
    · rename_i hk
      obtain ⟨es2, hf2, rfl⟩ := map_some hf
      obtain ⟨hs, _⟩ := keyEq_same hk hd hx h1
      have cons : ∀ F, EntsRel g w es2 F → EntsRel g w ((k, v) :: es2) (m :: F) := by
        intro F hF
        refine ⟨by simp [hF.1], fun i a' b' hi => ?_⟩
        cases i with
        | zero => simp at hi; obtain ⟨rfl, rfl⟩ := hi; exact ⟨m, rfl, h1, h2⟩
        | succ i => simp at hi; obtain ⟨m', hm', hh⟩ := hF.2 i a' b' hi; exact ⟨m', by simpa using hm', hh⟩
      rcases ih E' (i + 1) es2 h3 hf2 with ⟨h4, h5⟩ | ⟨j, z, m', h4, h5, h6, h7⟩
      · exact .inl ⟨by simpa [Instr.findNow, hs] using h4, cons _ h5⟩
      · refine .inr ⟨j + 1, z, m', ?_, by simpa using h5, h6, by simpa using cons _ h7⟩
        simp only [Instr.findNow, hs, h4]
        congr 3
        omega
    · cases hf

theorem run_getMap {w : World} {b : Nat} {E : Array MapEntry} {clk : Nat} (h : w.heap[b]? = some (.map E clk)) : (getObj b).run P w = .ok (.map E clk) w := by
  simp [getObj, Sem.run, h]
theorem run_setMap {w : World} {b : Nat} {E : Array MapEntry} {clk : Nat} (O : Obj) (h : w.heap[b]? = some (.map E clk)) : (setObj b O).run P w = .ok () (w.putObj b O) := by
  simp [setObj, Sem.run, h, World.putObj]

theorem mapUpd_sound {g : Ghost} {σ : AMem} {w : World} {t r : Nat} {i : TyI} {k : Nat} {e : Nat} {kv v : AVal} {es es' : List (AVal × AVal)} {mv kx vx : Value} {ki : Bool} (hA : AOk P A) (hs : Sim A g σ w) (hi : A.ty t = some i) (hk : i.k = .map k e) (hget : σ.get r = some (.map es)) (hki : keyKind (A.ty k) = some ki) (hu : updA ki kv v es = some es')
    (hm : Rel g w (.map r) mv) (hkx : Rel g w kv kx) (hvx : Rel g w v vx) :
    ∃ w', (Instr.mapUpdate t mv kx vx).run P w = .ok () w' ∧ Sim A g (σ.put r (.map es')) w' ∧ Trans g σ w g (σ.put r (.map es')) w' := by
  obtain ⟨d, hd, hdc, hck⟩ := keyKind_spec hA hki
  obtain ⟨dm, hdm, hdmk⟩ := ty_under (hA.ty _ _ hi)
  rw [hk] at hdmk
  have e1 := kind_map hdmk
  subst e1
  simp only [Rel] at hm
  obtain ⟨b, rfl, hd'⟩ := hm
  obtain ⟨p, hp, rfl⟩ := live_of_get hs hget hd'
  obtain ⟨o', ho1, ho2⟩ := hs.obj r p hp
  rw [hget] at ho1
  cases ho1
  obtain ⟨E, clk, hh, hel, hents⟩ := ho2
  have hER : EntsRel g w es E.toList := ⟨by simpa using hel, fun i k v hi => by simpa using hents i k v hi⟩
  have fin : ∀ (E' : Array MapEntry) (clk' : Nat), EntsRel g w es' E'.toList → (Instr.mapUpdate t (.map (some p.block)) kx vx).run P w = .ok () (w.putObj p.block (.map E' clk')) →
      ∃ w', (Instr.mapUpdate t (.map (some p.block)) kx vx).run P w = .ok () w' ∧ Sim A g (σ.put r (.map es')) w' ∧ Trans g σ w g (σ.put r (.map es')) w' := by
    intro E' clk' hE' hrun
    have := update_step (A := A) (o' := .map es') (O' := .map E' clk') hs hp (fun l h => by rw [hh] at h; cases h) (fun hst => by
      refine ⟨E', clk', World.putObj_heap_same (Array.getElem?_eq_some_iff.1 hh).1, by simpa using hE'.1, fun i k v hi => ?_⟩
      obtain ⟨m, hm, h1, h2⟩ := hE'.2 i k v hi
      exact ⟨m, by simpa using hm, Rel.mono (GLe.refl g) hst _ _ h1, Rel.mono (GLe.refl g) hst _ _ h2⟩)
    exact ⟨_, hrun, this.1, this.2⟩
  rcases updA_sound hdc hkx hvx clk es E.toList 0 es' hER hu with ⟨hq, hE'⟩ | ⟨j, z, m, hq, hj, hbits, hE'⟩
  · refine fin (E.push { key := kx, val := vx, born := clk }) (clk + 1) (by simpa using hE') ?_
    have hfk : (Instr.findKey k kx E.toList).run P w = .ok none w := by
      unfold Instr.findKey
      simp [run_under hd, Result.andThen, hq]
    unfold Instr.mapUpdate
    simp only [Sem.run_bind, run_under hdm, Result.andThen, run_getMap hh, hck, hfk, run_setMap _ hh]
  · refine fin (E.modify j fun e => { e with key := kx, val := vx }) clk (by simpa using hE') ?_
    have hfk : (Instr.findKey k kx E.toList).run P w = .ok (some (0 + j, z)) w := by
      unfold Instr.findKey
      simp [run_under hd, Result.andThen, hq]
    have hj' : E[j]? = some m := by simpa using hj
    have hkeep : (Instr.keyThatStays m.key kx).run P w = .ok kx w := by
      unfold Instr.keyThatStays
      simp [hbits]
    unfold Instr.mapUpdate
    simp only [Sem.run_bind, run_under hdm, Result.andThen, run_getMap hh, hck, hfk, Nat.zero_add, hj', Option.map_some, Option.getD_some, hkeep, run_setMap _ hh]

theorem elemTy_spec {t : Nat} {e : TyI} (h : elemTy A t = some e) : ∃ i et, A.ty t = some i ∧ i.k = .slice et ∧ A.ty et = some e := by
  unfold elemTy at h
  split at h
  · rename_i i hi
    split at h
    · rename_i et hk
      exact ⟨i, et, hi, hk, h⟩
    · cases h
  · cases h

set_option maxHeartbeats 1000000 in
/-- Bytes as a string: it reads. -/
theorem convS_sound (hA : AOk P A) {call : CallA} {caller : Nat} {o : Oper} {T : Tr AVal} {σ σ' : AMem} {v : AVal} {s d : Nat} {x : Operand} (ho : o.op = .convert s d x) (hc : clsOf A o = .load) (h : opSem A call caller o T σ = some (v, σ')) :
    ∃ si di u, A.ty s = some si ∧ A.ty d = some di ∧ evalO A T x = some u ∧ convA si di (elemTy A s) σ u = some (v, σ') ∧ σ' = σ ∧
      ∀ (g : Ghost) (w : World) (a : Act), Sim A g σ w → OpndRel A g w T a o → ∃ y, Yields P o a w y w ∧ Rel g w v y := by
  unfold opSem at h
  unfold clsOf at hc
  simp only [ho] at h hc
  split at h
  · rename_i si di u hsi hdi hu
    refine ⟨si, di, u, hsi, hdi, hu, h, ?_⟩
    simp only [hsi, hdi] at hc
    unfold convA at h
    split at h
    · rename_i k hk
      split at h
      · rename_i k1 k2 n hk1
        simp only [hk, hk1] at hc
        cases hc
      · cases h
    · rename_i hk
      split at h
      · rename_i hk1
        simp only [hk, hk1] at hc
        cases hc
      · rename_i e0 hk1
        split at h
        · rename_i ei hel
          split at h
          · rename_i hek
            split at h
            · cases h
            · rename_i hns
              split at h
              · rename_i xs n hsrc
                obtain ⟨l, h1, h2⟩ := map_some h
                cases h2
                refine ⟨rfl, fun g w a hs hop => ?_⟩
                obtain ⟨i', et, hi', hkk, het⟩ := elemTy_spec hel
                rw [hsi] at hi'
                cases hi'
                obtain ⟨ds, hds, hdk⟩ := ty_under (hA.ty _ _ hsi)
                rw [hkk] at hdk
                have e1 := kind_slice hdk
                subst e1
                obtain ⟨de, hde, hdek⟩ := ty_under (hA.ty _ _ het)
                rw [hek] at hdek
                have e2 := kind_int hdek
                subst e2
                obtain ⟨dd, hdd, hddk⟩ := ty_under (hA.ty _ _ hdi)
                rw [hk] at hddk
                have e3 := kind_string hddk
                subst e3
                have := conv_sound (P := P) hs hds hde hdd (hop x (by simp [ho, Op.operands]) _ hu) (fun t e => hns t e) hsrc h1
                exact ⟨.string ⟨l.toArray⟩, .inl (exec_v (s := convert s d (a.eval x)) (by simp [execOp, ho]) this), by simp [Rel]⟩
              · cases h
          · cases h
        · cases h
      · cases h
    · cases h
  · cases h

theorem eff_sound (hA : AOk P A) {call : CallA} {caller : Nat} {o : Oper} {T : Tr AVal} {σ σ' : AMem} {v : AVal} (hc : clsOf A o = .eff) (hncall : ∀ c f, o.op = .call c → c.callee ≠ .value f) (h : opSem A call caller o T σ = some (v, σ'))
    {g : Ghost} {w : World} {a : Act} (hs : Sim A g σ w) (hop : OpndRel A g w T a o) : EffOk A P o a g σ w v σ' := by
  unfold opSem at h
  unfold clsOf at hc
  cases ho : o.op <;> simp only [ho] at h hc <;> first | (cases hc; done) | (cases h; done) | skip
  case slice =>
    exfalso
    split at hc
    · split at hc <;> cases hc
    · cases hc
  case store t p x =>
    split at h
    · rename_i i pv xv hi hp hx
      obtain ⟨σ2, h1, h2⟩ := map_some h
      cases h2
      obtain ⟨w', hrun, h3, h4⟩ := storeA_sound hs (hA.ty _ _ hi) h1 (hop p (by simp [ho, Op.operands]) _ hp) (hop x (by simp [ho, Op.operands]) _ hx)
      exact ⟨undef, w', g, .inr ⟨by simp [execOp, ho, hrun, Result.andThen], rfl⟩, h3, h4, undef_rel g w'⟩
    · cases h
  case convert s d x =>
    split at h
    · rename_i si di u hsi hdi hu
      simp only [hsi, hdi] at hc
      unfold convA at h
      split at h
      · rename_i k hk
        split at h
        · rename_i k1 k2 n hk1
          simp only [hk, hk1] at hc
          cases hc
        · cases h
      · rename_i hk
        split at h
        · rename_i hk1
          simp only [hk, hk1] at hc
          cases hc
        · rename_i e0 hk1
          simp only [hk, hk1] at hc
          cases hc
        · cases h
      · cases h
    · cases h
  case lookup t x ix ok =>
    split at h
    · rename_i i r kv hi hx hix
      split at h
      · rename_i k e es hk hget
        split at h
        · rename_i ei res hei hfind
          obtain ⟨ki, hki, hfa⟩ : ∃ ki, keyKind (A.ty k) = some ki ∧ findA ki kv es = some res := by
            cases hkk : keyKind (A.ty k) with
            | none => simp [hkk] at hfind
            | some ki => exact ⟨ki, rfl, by simpa [hkk] using hfind⟩
          obtain ⟨d, hd, hdc, hck⟩ := keyKind_spec hA hki
          obtain ⟨dm, hdm, hdmk⟩ := ty_under (hA.ty _ _ hi)
          rw [hk] at hdmk
          have e1 := kind_map hdmk
          subst e1
          have hxr := hop x (by simp [ho, Op.operands]) _ hx
          have hir := hop ix (by simp [ho, Op.operands]) _ hix
          simp only [Rel] at hxr
          obtain ⟨b, hax, hd'⟩ := hxr
          obtain ⟨p, hp, rfl⟩ := live_of_get hs hget hd'
          obtain ⟨o', ho1, ho2⟩ := hs.obj r p hp
          rw [hget] at ho1
          cases ho1
          obtain ⟨E, clk, hh, hel, hents⟩ := ho2
          have hER : EntsRel g w es E.toList := ⟨by simpa using hel, fun i k v hi => by simpa using hents i k v hi⟩
          obtain ⟨z, hz, hzr⟩ := zero_rel (hA.ty _ _ hei) g w
          have key : ∀ (val : AVal) (b : Bool) (y : Value), Rel g w val y → (∃ q, Instr.findNow d (a.eval ix) E.toList 0 = some q ∧ (match q with | some (_, v) => (v, true) | none => (z, false)) = (y, b)) →
              (Instr.lookup t (.map (some p.block)) (a.eval ix) ok).run P w = .ok (if ok then .tuple #[y, .bool b] else y) w := by
            rintro val b y hr ⟨q, hq, hqe⟩
            have hfk : (Instr.findKey k (a.eval ix) E.toList).run P w = .ok q w := by
              unfold Instr.findKey
              simp [run_under hd, Result.andThen, hq]
            unfold Instr.lookup
            simp only [Sem.run_bind, run_under hdm, Result.andThen, run_getMap hh, Sem.run_pure, hck, hfk]
            cases q with
            | none =>
              simp only [Prod.mk.injEq] at hqe
              obtain ⟨rfl, rfl⟩ := hqe
              simp [hz, Result.andThen]
            | some jv =>
              obtain ⟨j, v'⟩ := jv
              simp only [Prod.mk.injEq] at hqe
              obtain ⟨rfl, rfl⟩ := hqe
              simp [Result.andThen]
          have fin : ∀ (val : AVal) (b : Bool) (y : Value), Rel g w val y → (Instr.lookup t (.map (some p.block)) (a.eval ix) ok).run P w = .ok (if ok then .tuple #[y, .bool b] else y) w → v = (if ok then .tuple [val, .bool b] else val) → σ' = σ → EffOk A P o a g σ w v σ' := by
            rintro val b y hr hrun rfl rfl
            refine ⟨_, w, g, .inl (exec_v (s := Instr.lookup t (a.eval x) (a.eval ix) ok) (by simp [execOp, ho]) (by rw [hax]; exact hrun)), hs, Trans.refl g _ w, ?_⟩
            cases ok with
            | true =>
              simp only [if_true, Rel, RelL]
              exact ⟨[y, .bool b], rfl, y, _, rfl, hr, _, _, rfl, rfl, rfl⟩
            | false => simpa using hr
          rcases findNow_sound hdc hir es E.toList 0 res hER hfa with ⟨rfl, hq⟩ | ⟨v', y, j, rfl, hq, hyr⟩
          · simp only at h
            cases hm : mkElem ei.isAgg ei.zero with
            | none => simp [hm] at h
            | some zv =>
              simp only [hm, Option.map_some, Option.some.injEq, Prod.mk.injEq] at h
              obtain ⟨h1, h2⟩ := h
              have hzrel : Rel g w zv z := by
                obtain ⟨info, d0, z0, hinfo, _, hz0, hzs, _, hagg⟩ := ty_all (hA.ty _ _ hei)
                have : z = z0 := by
                  have h5 : (zeroValue e).run P w = .ok z0 w := by simp [zeroValue, run_info hinfo, hz0, Result.andThen]
                  rw [hz] at h5
                  cases h5
                  rfl
                subst this
                unfold mkElem at hm
                cases z with
                | agg cs =>
                  simp [isAggV] at hagg
                  rw [if_pos hagg] at hm
                  cases hm
                  simp only [Rel]
                  exact ⟨cs.toList, by simp, hzr⟩
                | _ =>
                  simp [isAggV] at hagg
                  rw [hagg] at hm
                  simp only [Bool.false_eq_true, if_false] at hm
                  split at hm
                  · rename_i v0 hv0
                    split at hm
                    case isFalse => cases hm
                    cases hm
                    rw [hv0] at hzr
                    simp only [Value.cells, RelL] at hzr
                    obtain ⟨x1, xs1, e1, h6, _⟩ := hzr
                    cases e1
                    exact h6
                  · cases hm
              exact fin zv false z hzrel (key zv false z hzrel ⟨none, hq, rfl⟩) h1.symm h2.symm
          · simp only [Option.some.injEq, Prod.mk.injEq] at h
            obtain ⟨h1, h2⟩ := h
            exact fin v' true y hyr (key v' true y hyr ⟨_, hq, rfl⟩) h1.symm h2.symm
        · cases h
      · cases h
    · cases h
  case call c =>
    split at h
    · rename_i args hargs
      have hrel : RelL g w args (c.args.toList.map a.eval) :=
        evalL_rel c.args.toList args (fun x hx => hop x (by
          simp only [ho, Op.operands, Call.operands]
          simp only [Array.mem_append]
          exact .inr (by simpa using hx))) hargs
      have hexec : ∀ (b : Builtin) (s : Array Value → Sem Value), c.callee = .builtin b → (∀ cs as, builtin b c.argTypes o.type cs as = (do pure (.value (← s as)))) → execOp a.eval o = (do pure (.value (← s (c.args.map a.eval)))) := by
        intro b s hb hs
        simp [execOp, ho, resolve, hb, invoke, hs]
      have harr : c.args.map a.eval = (c.args.toList.map a.eval).toArray := by apply Array.ext'; simp
      split at h
      · rename_i b hb
        unfold builtinA at h
        split at h
        · rw [hb] at hc; cases hc
        · rw [hb] at hc; cases hc
        · rw [hb] at hc; cases hc
        · rw [hb] at hc; cases hc
        · -- append
          split at h
          · rename_i s x t u hts
            split at h
            · rename_i e i he hi
              split at h
              · rename_i hseq
                obtain ⟨it, et, hit, hkt, het⟩ := elemTy_spec he
                obtain ⟨d, hd, hdk⟩ := ty_under (hA.ty _ _ hit)
                rw [hkt] at hdk
                have e1 := kind_slice hdk
                subst e1
                obtain ⟨du, hdu, hduk⟩ := ty_under (hA.ty _ _ hi)
                have hdu' : du = .string ∨ ∃ e', du = .slice e' := by
                  unfold isSeq at hseq
                  split at hseq
                  · rename_i e' hk; rw [hk] at hduk; exact .inr ⟨_, kind_slice hduk⟩
                  · rename_i hk; rw [hk] at hduk; exact .inl (kind_string hduk)
                  · cases hseq
                simp only [RelL] at hrel
                obtain ⟨sv, l1, hl1, hsv, xv, l2, hl2, hxv, rfl⟩ := hrel
                subst hl2
                have h0 : c.argTypes[0]? = some t := by rw [← Array.getElem?_toList, hts]; rfl
                have h1 : c.argTypes[1]? = some u := by rw [← Array.getElem?_toList, hts]; rfl
                obtain ⟨y, w', g', hrun, h2, h3, h4⟩ := appendA_sound (P := P) (ts := c.argTypes) (ty := o.type) hs (hA.ty _ _ het) (hA.zsz _ _ het) ⟨t, h0, hd⟩ ⟨u, du, h1, hdu, hdu'⟩ h hsv hxv
                exact ⟨y, w', g', .inl (exec_vw (hexec .append (fun as => Builtin.append_ c.argTypes o.type as) hb (fun _ _ => rfl)) (by rw [harr, hl1]; exact hrun)), h2, h3, h4⟩
              · split at h
                · rename_i hnum
                  obtain ⟨it, et, hit, hkt, het⟩ := elemTy_spec he
                  obtain ⟨d, hd, hdk⟩ := ty_under (hA.ty _ _ hit)
                  rw [hkt] at hdk
                  have e1 := kind_slice hdk
                  subst e1
                  obtain ⟨du, hdu, hduk⟩ := ty_under (hA.ty _ _ hi)
                  have hdu' : ∃ k, du = .int k := by
                    unfold isNum at hnum
                    split at hnum
                    · rename_i k hk; rw [hk] at hduk; exact ⟨k, kind_int hduk⟩
                    · cases hnum
                  obtain ⟨k, rfl⟩ := hdu'
                  simp only [RelL] at hrel
                  obtain ⟨sv, l1, hl1, hsv, xv, l2, hl2, hxv, rfl⟩ := hrel
                  subst hl2
                  have h0 : c.argTypes[0]? = some t := by rw [← Array.getElem?_toList, hts]; rfl
                  have h1 : c.argTypes[1]? = some u := by rw [← Array.getElem?_toList, hts]; rfl
                  obtain ⟨y, w', g', hrun, h2, h3, h4⟩ := appendZ_sound (P := P) (ts := c.argTypes) (ty := o.type) hs (hA.ty _ _ het) (hA.zsz _ _ het) ⟨t, h0, hd⟩ ⟨u, k, h1, hdu⟩ h hsv hxv
                  exact ⟨y, w', g', .inl (exec_vw (hexec .append (fun as => Builtin.append_ c.argTypes o.type as) hb (fun _ _ => rfl)) (by rw [harr, hl1]; exact hrun)), h2, h3, h4⟩
                · cases h
            · cases h
          · cases h
        · -- copy
          split at h
          · rename_i dv x t ts hts
            split at h
            · rename_i e he
              obtain ⟨it, et, hit, hkt, het⟩ := elemTy_spec he
              obtain ⟨d, hd, hdk⟩ := ty_under (hA.ty _ _ hit)
              rw [hkt] at hdk
              have e1 := kind_slice hdk
              subst e1
              simp only [RelL] at hrel
              obtain ⟨sv, l1, hl1, hsv, xv, l2, hl2, hxv, rfl⟩ := hrel
              subst hl2
              have h0 : c.argTypes[0]? = some t := by rw [← Array.getElem?_toList, hts]; rfl
              obtain ⟨y, w', hrun, h2, h3, h4⟩ := copyA_sound (P := P) (ts := c.argTypes) (ty := o.type) hs (hA.ty _ _ het) ⟨t, h0, hd⟩ h hsv hxv
              exact ⟨y, w', g, .inl (exec_vw (hexec .copy (fun as => Builtin.copy_ c.argTypes o.type as) hb (fun _ _ => rfl)) (by rw [harr, hl1]; exact hrun)), h2, h3, h4⟩
            · cases h
          · cases h
        · -- clear
          split at h
          · rename_i x t ts hts
            split at h
            · rename_i e he
              obtain ⟨it, et, hit, hkt, het⟩ := elemTy_spec he
              obtain ⟨d, hd, hdk⟩ := ty_under (hA.ty _ _ hit)
              rw [hkt] at hdk
              have e1 := kind_slice hdk
              subst e1
              simp only [RelL] at hrel
              obtain ⟨xv, l1, hl1, hxv, rfl⟩ := hrel
              have h0 : c.argTypes[0]? = some t := by rw [← Array.getElem?_toList, hts]; rfl
              obtain ⟨y, w', hrun, h2, h3, h4⟩ := clearA_sound (P := P) (ts := c.argTypes) (ty := o.type) hs (hA.ty _ _ het) (hA.zsz _ _ het) ⟨t, h0, hd⟩ h hxv
              exact ⟨y, w', g, .inl (exec_vw (hexec .clear (fun as => Builtin.clear_ c.argTypes o.type as) hb (fun _ _ => rfl)) (by rw [harr, hl1]; exact hrun)), h2, h3, h4⟩
            · cases h
          · cases h
        · cases h
      · rename_i f hf
        exact absurd hf (hncall c f ho)
      · cases h
    · cases h
  case mapUpdate t m kx vx =>
    split at h
    · rename_i i r kv v' hi hm hkx hvx
      split at h
      · rename_i k e es hk hget
        obtain ⟨es', h1, h2⟩ := map_some h
        cases h2
        obtain ⟨ki, hki, hu⟩ : ∃ ki, keyKind (A.ty k) = some ki ∧ updA ki kv v' es = some es' := by
          cases hkk : keyKind (A.ty k) with
          | none => simp [hkk] at h1
          | some ki => exact ⟨ki, rfl, by simpa [hkk] using h1⟩
        obtain ⟨w', hrun, h3, h4⟩ := mapUpd_sound hA hs hi hk hget hki hu (hop m (by simp [ho, Op.operands]) _ hm) (hop kx (by simp [ho, Op.operands]) _ hkx) (hop vx (by simp [ho, Op.operands]) _ hvx)
        exact ⟨undef, w', g, .inr ⟨by simp [execOp, ho, hrun, Result.andThen], rfl⟩, h3, h4, undef_rel g w'⟩
      · cases h
    · cases h
  case insert t m kx vx =>
    split at h
    · rename_i i r kv v' hi hm hkx hvx
      split at h
      · rename_i k e es hk hget
        obtain ⟨es', h1, h2⟩ := map_some h
        cases h2
        obtain ⟨ki, hki, hu⟩ : ∃ ki, keyKind (A.ty k) = some ki ∧ updA ki kv v' es = some es' := by
          cases hkk : keyKind (A.ty k) with
          | none => simp [hkk] at h1
          | some ki => exact ⟨ki, rfl, by simpa [hkk] using h1⟩
        obtain ⟨w', hrun, h3, h4⟩ := mapUpd_sound hA hs hi hk hget hki hu (hop m (by simp [ho, Op.operands]) _ hm) (hop kx (by simp [ho, Op.operands]) _ hkx) (hop vx (by simp [ho, Op.operands]) _ hvx)
        exact ⟨undef, w', g, .inr ⟨by simp [execOp, ho, hrun, Result.andThen], rfl⟩, h3, h4, undef_rel g w'⟩
      · cases h
    · cases h

end Go.Proofs.YtjckhhkhgjbpaaaGreatDoor.Pale
