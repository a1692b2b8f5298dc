/- The abstract machine against the model: every pure operation. -/
import Derived.Test.YtjckhhkhgjbpaaaGreatDoorPalePureOps
set_option linter.unusedVariables false
set_option linter.unusedSimpArgs false
namespace Go.Proofs.YtjckhhkhgjbpaaaGreatDoor.Pale
open Go

variable {A : AProg} {P : Program}

theorem snd_of_map {o : Option AVal} {σ σ' : AMem} {v : AVal} (h : o.map (·, σ) = some (v, σ')) : o = some v ∧ σ' = σ := by
  cases o with
  | none => cases h
  | some x => simp at h; exact ⟨by rw [h.1], h.2.symm⟩

set_option maxHeartbeats 1000000 in
theorem pure_sound (hA : AOk P A) {call : CallA} {caller : Nat} {o : Oper} {T : Tr AVal} {σ σ' : AMem} {v : AVal} (hc : clsOf A o = .pure) (h : opSem A call caller o T σ = some (v, σ')) : σ' = σ ∧ PureOk A P o v T := by
  unfold opSem at h
  unfold clsOf at hc
  cases ho : o.op <;> simp only [ho] at h hc <;> try (cases hc; done)
  case move x =>
    obtain ⟨h1, h2⟩ := snd_of_map h
    exact ⟨h2, pure_move (.inl ho) h1⟩
  case assign x =>
    obtain ⟨h1, h2⟩ := snd_of_map h
    exact ⟨h2, pure_move (.inr ho) h1⟩
  case pick c x y =>
    split at h
    · rename_i hcv
      obtain ⟨h1, h2⟩ := snd_of_map h
      refine ⟨h2, fun g w a hop => ⟨a.eval x, ?_, hop x (by simp [ho, Op.operands]) v h1⟩⟩
      have := hop c (by simp [ho, Op.operands]) _ hcv
      simp only [Rel] at this
      simp [execOp, ho, this, asBool, Result.andThen]
    · rename_i hcv
      obtain ⟨h1, h2⟩ := snd_of_map h
      refine ⟨h2, fun g w a hop => ⟨a.eval y, ?_, hop y (by simp [ho, Op.operands]) v h1⟩⟩
      have := hop c (by simp [ho, Op.operands]) _ hcv
      simp only [Rel] at this
      simp [execOp, ho, this, asBool, Result.andThen]
    · cases h
  case build t parts =>
    split at h
    · rename_i i ps hi hps
      have key : ∀ cs, (match i.k with
          | .struct fs => match placesA A fs with
            | some pl => (fillA (fun j => pl[j]?) i.zero ps)
            | none => none
          | .array _ e => match A.ty e with
            | some ei => (fillA (fun j => some (j * ei.size, ei.size)) i.zero ps)
            | none => none
          | _ => none) = some cs → v = .agg cs → PureOk A P o v T := by
        intro cs hcs hv g w a hop
        have hpr := evalParts_rel (g := g) (w := w) (a := a) parts.toList ps (fun x hx v hv => hop x.2 (by
          simp only [ho, Op.operands]
          simp only [List.mem_toArray, List.mem_map]
          exact ⟨x, hx, rfl⟩) v hv) hps
        obtain ⟨y, h1, h2⟩ := build_sound (P := P) (xs := (parts.toList.map fun (i, x) => (i, a.eval x)).toArray) hA hi (by simpa using hpr) hcs
        refine ⟨y, exec_v (s := Instr.build t (parts.map fun (i, x) => (i, a.eval x))) (by simp [execOp, ho]) ?_, by rw [hv]; exact h2⟩
        rw [← h1]
        congr 2
        apply Array.ext'
        simp
      split at h
      · rename_i fs hk
        split at h
        · rename_i pl hpl
          obtain ⟨cs, h1, h2⟩ := map_some h
          cases h2
          exact ⟨rfl, key cs (by rw [hk]; simp only [hpl]; exact h1) rfl⟩
        · cases h
      · rename_i n e hk
        split at h
        · rename_i ei he
          obtain ⟨cs, h1, h2⟩ := map_some h
          cases h2
          exact ⟨rfl, key cs (by rw [hk]; simp only [he]; exact h1) rfl⟩
        · cases h
      · cases h
    · cases h
  case nilCheck x =>
    split at h
    · rename_i r off hx
      cases h
      refine ⟨rfl, fun g w a hop => ⟨a.eval x, ?_, hop x (by simp [ho, Op.operands]) _ hx⟩⟩
      have := hop x (by simp [ho, Op.operands]) _ hx
      simp only [Rel] at this
      obtain ⟨ad, h1, _⟩ := this
      simp [execOp, ho, h1]
    · rename_i u hx
      cases h
      refine ⟨rfl, fun g w a hop => ⟨a.eval x, ?_, hop x (by simp [ho, Op.operands]) _ hx⟩⟩
      have := hop x (by simp [ho, Op.operands]) _ hx
      obtain ⟨ad, h1⟩ := vptr_cases this
      simp [execOp, ho, h1]
    · rename_i f fs cs hx
      cases h
      refine ⟨rfl, fun g w a hop => ⟨a.eval x, ?_, hop x (by simp [ho, Op.operands]) _ hx⟩⟩
      have := hop x (by simp [ho, Op.operands]) _ hx
      simp only [Rel] at this
      obtain ⟨l, m, h1, _⟩ := this
      simp [execOp, ho, h1]
    · cases h
  case binOp op t x y yt =>
    split at h
    · rename_i p q hp hq
      obtain ⟨h1, h2⟩ := snd_of_map h
      refine ⟨h2, fun g w a hop => ?_⟩
      obtain ⟨z, hz, hr⟩ := abin_sound (xo := x) (yo := y) hA h1 (hop x (by simp [ho, Op.operands]) _ hp) (hop y (by simp [ho, Op.operands]) _ hq)
      exact ⟨z, exec_v (by simp [execOp, ho]) hz, hr⟩
    · cases h
  case unOp op t x =>
    split at h
    · rename_i p hp
      obtain ⟨h1, h2⟩ := snd_of_map h
      refine ⟨h2, fun g w a hop => ?_⟩
      obtain ⟨z, hz, hr⟩ := aun_sound (P := P) h1 (hop x (by simp [ho, Op.operands]) _ hp)
      exact ⟨z, exec_v (by simp [execOp, ho]) hz, hr⟩
    · cases h
  case convert s d x =>
    split at h
    · rename_i si di u hs hd hu
      simp only [hs, hd] at hc
      split at hc
      · rename_i k1 k2 hk1 hk2
        unfold convA at h
        simp only [hk1, hk2] at h
        split at h
        · rename_i k0 n' n'' hk0
          cases h
          refine ⟨rfl, fun g w a hop => ?_⟩
          have hx := hop x (by simp [ho, Op.operands]) _ hu
          simp only [Rel] at hx
          obtain ⟨ds, hds, hdk⟩ := ty_under (hA.ty _ _ hs)
          obtain ⟨dd, hdd, hddk⟩ := ty_under (hA.ty _ _ hd)
          rw [hk1] at hdk
          rw [hk2] at hddk
          have e1 := kind_int hdk
          have e2 := kind_int hddk
          subst e1; subst e2
          refine ⟨.int k2 (k2.wrap n''), exec_v (s := convert s d (a.eval x)) (by simp [execOp, ho]) ?_, by simp [Rel]⟩
          rw [hx]
          simp [convert, run_under hds, run_under hdd, Conv.intToInt, Result.andThen]
        · cases h
      · rename_i hk1 hk2
        unfold convA at h
        simp only [hk1, hk2] at h
        split at h
        · rename_i s'
          cases h
          refine ⟨rfl, fun g w a hop => ?_⟩
          have hx := hop x (by simp [ho, Op.operands]) _ hu
          obtain ⟨ds, hds, hdk⟩ := ty_under (hA.ty _ _ hs)
          obtain ⟨dd, hdd, hddk⟩ := ty_under (hA.ty _ _ hd)
          rw [hk1] at hdk
          rw [hk2] at hddk
          have e1 := kind_string hdk
          have e2 := kind_string hddk
          subst e1; subst e2
          refine ⟨_, exec_v (s := convert s d (a.eval x)) (by simp [execOp, ho]) ?_, hx⟩
          simp only [Rel] at hx
          rw [hx]
          simp [convert, run_under hds, run_under hdd, Result.andThen]
        · cases h
      · cases hc
      · cases hc
    · cases h
  case makeFunc fn first captured =>
    split at h
    · rename_i f fs cs hf hcs
      cases h
      refine ⟨rfl, fun g w a hop => ?_⟩
      have h1 := evalL_rel (g := g) (w := w) (a := a) first.toList fs (fun x hx => hop x (by simp [ho, Op.operands]; exact .inl (by simpa using hx))) hf
      have h2 := evalL_rel (g := g) (w := w) (a := a) captured.toList cs (fun x hx => hop x (by simp [ho, Op.operands]; exact .inr (by simpa using hx))) hcs
      refine ⟨_, exec_v (s := Instr.makeFunc (.func f) (first.map a.eval) (captured.map a.eval)) (by simp [execOp, ho]) (by simp [Instr.makeFunc]; rfl), ?_⟩
      simp only [Rel]
      exact ⟨_, _, by rw [show (first.map a.eval) = (first.toList.map a.eval).toArray from by apply Array.ext'; simp, show (captured.map a.eval) = (captured.toList.map a.eval).toArray from by apply Array.ext'; simp], h1, h2⟩
    · cases h
  case slice t x lo hi mx =>
    split at h
    · rename_i i u l hh m hi' hu hl hhi hmx
      have hb : ∀ (g : Ghost) (w : World) (a : Act), OpndRel A g w T a o → BoundRel g w l (lo.map a.eval) ∧ BoundRel g w hh (hi.map a.eval) ∧ BoundRel g w m (mx.map a.eval) ∧ Rel g w u (a.eval x) := by
        intro g w a hop
        refine ⟨evalOpt_rel (fun y hy => hop y ?_) hl, evalOpt_rel (fun y hy => hop y ?_) hhi, evalOpt_rel (fun y hy => hop y ?_) hmx, hop x ?_ _ hu⟩
        all_goals (try subst hy)
        all_goals simp [ho, Op.operands]
      have hmm : m.isNone = true ∨ hh.isSome = true → (m.isSome = true → hh.isSome = true) := by
        intro h hs
        rcases h with h | h
        · cases m <;> simp at h hs
        · exact h
      split at h
      · rename_i hk
        split at h
        · rename_i s
          obtain ⟨h1, h2⟩ := snd_of_map h
          refine ⟨h2, fun g w a hop => ?_⟩
          obtain ⟨b1, b2, b3, b4⟩ := hb g w a hop
          obtain ⟨d, hd, hdk⟩ := ty_under (hA.ty _ _ hi')
          rw [hk] at hdk
          have e1 := kind_string hdk
          subst e1
          obtain ⟨y, hy, hr⟩ := sliceA_str_sound (P := P) hd b4 b1 b2 b3 h1
          exact ⟨y, exec_v (by simp [execOp, ho]) hy, hr⟩
        · cases h
      · rename_i e hk
        simp only [hi', hk] at hc
        cases hc
      · cases h
    · cases h
  case fieldAddr s x f =>
    split at h
    · rename_i i p hi hp
      split at h
      · rename_i fs hk
        split at h
        · rename_i off t hf
          split at h
          · rename_i ti ht
            split at h
            · cases h
            · rename_i hsz
              split at h
              · rename_i r q
                cases h
                exact ⟨rfl, pure_field hA ho hi hp hk hf ht hsz (.inl ⟨r, q, rfl, rfl⟩)⟩
              · rename_i cs
                obtain ⟨u, h1, h2⟩ := map_some h
                cases h2
                exact ⟨rfl, pure_field hA ho hi hp hk hf ht hsz (.inr ⟨cs, u, rfl, h1, rfl⟩)⟩
              · cases h
          · cases h
        · cases h
      · cases h
    · cases h
  case field t x f =>
    split at h
    · rename_i i cs hi hp
      split at h
      · rename_i fs hk
        split at h
        · rename_i off u hf
          split at h
          · rename_i ui hu
            obtain ⟨h1, h2⟩ := snd_of_map h
            refine ⟨h2, fun g w a hop => ?_⟩
            have hx := hop x (by simp [ho, Op.operands]) _ hp
            simp only [Rel] at hx
            obtain ⟨l, hax, hl⟩ := hx
            obtain ⟨d, hd, hdk⟩ := ty_under (hA.ty _ _ hi)
            rw [hk] at hdk
            obtain ⟨fields, rfl, hfs⟩ := kind_struct hdk
            obtain ⟨fl, hfl, rfl, rfl⟩ := field_get hfs hf
            obtain ⟨y, hy, hr⟩ := partA_sound (P := P) (hA.ty _ _ hu) hl h1
            refine ⟨y, exec_v (s := Instr.field t (a.eval x) f) (by simp [execOp, ho]) ?_, hr⟩
            rw [hax]
            simp [Instr.field, run_under hd, hfl, asAgg, Result.andThen, hy]
          · cases h
        · cases h
      · cases h
    · cases h
  case indexAddr t x ix =>
    split at h
    · rename_i i p k n hi hp hn
      split at h
      · rename_i e hk
        split at h
        · rename_i ei he
          split at h
          · rename_i r off len cap z
            split at h
            · rename_i hcond
              cases h
              exact ⟨rfl, pure_index hA ho hi hp hn he (.inl ⟨hk, .inl ⟨r, off, len, cap, z, rfl, hcond, rfl⟩⟩)⟩
            · cases h
          · rename_i kk es
            split at h
            · rename_i h0
              cases hu : es[n.toNat]? with
              | none => simp [hu] at h
              | some u =>
                simp only [hu, Option.bind_some] at h
                split at h
                · rename_i hlen
                  cases h
                  exact ⟨rfl, pure_index hA ho hi hp hn he (.inl ⟨hk, .inr ⟨kk, es, u, rfl, h0, hu, hlen, rfl⟩⟩)⟩
                · cases h
            · cases h
          · cases h
        · cases h
      · rename_i len e hk
        split at h
        · rename_i ei he
          split at h
          · rename_i r off
            split at h
            · rename_i hcond
              cases h
              exact ⟨rfl, pure_index hA ho hi hp hn he (.inr ⟨len, hk, hcond, .inl ⟨r, off, rfl, rfl⟩⟩)⟩
            · cases h
          · rename_i cs
            split at h
            · rename_i hcond
              obtain ⟨u, h1, h2⟩ := map_some h
              cases h2
              exact ⟨rfl, pure_index hA ho hi hp hn he (.inr ⟨len, hk, hcond, .inr ⟨cs, u, rfl, h1, rfl⟩⟩)⟩
            · cases h
          · cases h
        · cases h
      · cases h
    · cases h
  case index t x ix =>
    split at h
    · rename_i i p k n hi hp hn
      obtain ⟨d, hd, hdk⟩ := ty_under (hA.ty _ _ hi)
      split at h
      · rename_i s hk
        rw [hk] at hdk
        have e1 := kind_string hdk
        subst e1
        split at h
        · rename_i h0
          obtain ⟨b, h1, h2⟩ := map_some h
          cases h2
          refine ⟨rfl, fun g w a hop => ?_⟩
          have hx := hop x (by simp [ho, Op.operands]) _ hp
          have hix := hop ix (by simp [ho, Op.operands]) _ hn
          simp only [Rel] at hx hix
          refine ⟨.int .u8 b.toNat, exec_v (s := Instr.index t (a.eval x) (a.eval ix)) (by simp [execOp, ho]) ?_, by simp [Rel]⟩
          rw [hx, hix]
          have hb : (⟨s.toArray⟩ : ByteArray)[n.toNat]? = some b := by
            rw [show (⟨s.toArray⟩ : ByteArray)[n.toNat]? = s.toArray[n.toNat]? from ?_]
            · simpa using h1
            · have hlt : n.toNat < s.length := (List.getElem?_eq_some_iff.1 h1).1
              rw [getElem?_pos (⟨s.toArray⟩ : ByteArray) n.toNat (by simpa [ByteArray.size] using hlt), getElem?_pos s.toArray n.toNat (by simpa using hlt)]
              rfl
          simp [Instr.index, asIntOf, run_under hd, h0, hb, Result.andThen]
        · cases h
      · rename_i len e cs hk
        rw [hk] at hdk
        have e1 := kind_array hdk
        subst e1
        split at h
        · rename_i ei he
          split at h
          · rename_i hcond
            obtain ⟨h1, h2⟩ := snd_of_map h
            refine ⟨h2, fun g w a hop => ?_⟩
            have hx := hop x (by simp [ho, Op.operands]) _ hp
            have hix := hop ix (by simp [ho, Op.operands]) _ hn
            simp only [Rel] at hx hix
            obtain ⟨l, hax, hl⟩ := hx
            obtain ⟨y, hy, hr⟩ := partA_sound (P := P) (w := w) (hA.ty _ _ he) hl h1
            refine ⟨y, exec_v (s := Instr.index t (a.eval x) (a.eval ix)) (by simp [execOp, ho]) ?_, hr⟩
            rw [hax, hix]
            simp [Instr.index, asIntOf, run_under hd, hcond, run_size (hA.ty _ _ he), hy, Result.andThen]
          · cases h
        · cases h
      · cases h
    · cases h
  case extract t ix =>
    split at h
    · rename_i vs hp
      obtain ⟨h1, h2⟩ := snd_of_map h
      refine ⟨h2, fun g w a hop => ?_⟩
      have hx := hop t (by simp [ho, Op.operands]) _ hp
      simp only [Rel] at hx
      obtain ⟨l, hax, hl⟩ := hx
      obtain ⟨y, hy, hr⟩ := hl.get h1
      refine ⟨y, exec_v (s := Instr.extract (a.eval t) ix) (by simp [execOp, ho]) ?_, hr⟩
      rw [hax]
      simp [Instr.extract, hy]
    · cases h
  case call c =>
    split at h
    · rename_i args hargs
      have hrel : ∀ (g : Ghost) (w : World) (a : Act), OpndRel A g w T a o → RelL g w args (c.args.toList.map a.eval) := fun g w a hop =>
        evalL_rel c.args.toList args (fun x hx => hop x (by
          simp only [ho, Op.operands, Call.operands]
          simp only [Array.mem_append]
          exact .inr (by simpa using hx))) hargs
      have hexec : ∀ (b : Builtin) (s : Array Value → Sem Value) (ρ : Operand → Value), c.callee = .builtin b → (∀ cs as, builtin b c.argTypes o.type cs as = (do pure (.value (← s as)))) → execOp ρ o = (do pure (.value (← s (c.args.map ρ)))) := by
        intro b s ρ hb hs
        simp [execOp, ho, resolve, hb, invoke, hs]
      have harr : ∀ (ρ : Operand → Value), c.args.map ρ = (c.args.toList.map ρ).toArray := fun ρ => by apply Array.ext'; simp
      have one : ∀ (x : AVal) (g : Ghost) (w : World) (a : Act), args = [x] → OpndRel A g w T a o → ∃ y, c.args.map a.eval = #[y] ∧ Rel g w x y := by
        intro x g w a hx hop
        have := hrel g w a hop
        rw [hx] at this
        simp only [RelL] at this
        obtain ⟨y, ys, h1, h2, h3⟩ := this
        subst h3
        exact ⟨y, by rw [harr, h1], h2⟩
      have tyOne : ∀ i, oneTy A c.argTypes = some i → ∃ t, c.argTypes[0]? = some t ∧ A.ty t = some i := by
        intro i hi
        unfold oneTy at hi
        split at hi
        · rename_i t ts hts
          exact ⟨t, by rw [← Array.getElem?_toList, hts]; rfl, hi⟩
        · cases hi
      split at hc
      · rename_i hb
        simp only [hb, builtinA] at h
        split at h
        · rename_i x i hi
          obtain ⟨h1, h2⟩ := snd_of_map h
          refine ⟨h2, fun g w a hop => ?_⟩
          obtain ⟨t, ht0, ht⟩ := tyOne i hi
          obtain ⟨y, hy, hr⟩ := one x g w a rfl hop
          obtain ⟨d, hd, hdk⟩ := ty_under (hA.ty _ _ ht)
          have hex := hexec .len (fun as => Builtin.len_ c.argTypes o.type as) a.eval hb (fun _ _ => rfl)
          rw [hy] at hex
          unfold lenB at h1
          split at h1
          · rename_i hk
            rw [hk] at hdk
            have e1 := kind_string hdk
            subst e1
            split at h1
            · rename_i s
              cases h1
              simp only [Rel] at hr
              subst hr
              refine ⟨.int .i64 s.length, exec_v hex ?_, by simp [Rel]⟩
              have hsz : (⟨s.toArray⟩ : ByteArray).size = s.length := by simp [ByteArray.size]
              simp [Builtin.len_, ht0, run_under hd, Result.andThen, goInt, hsz]
            · cases h1
          · rename_i e hk
            rw [hk] at hdk
            have e1 := kind_slice hdk
            subst e1
            split at h1
            · rename_i k es
              cases h1
              refine ⟨.int .i64 es.length, exec_v hex ?_, by simp [Rel]⟩
              rcases vs_cases hr with ⟨_, rfl, rfl⟩ | ⟨_, ad, cp, rfl⟩
              · simp [Builtin.len_, ht0, run_under hd, Result.andThen, goInt]
              · simp [Builtin.len_, ht0, run_under hd, Result.andThen, goInt]
            · rename_i r off n cp z
              cases h1
              refine ⟨.int .i64 n, exec_v hex ?_, by simp [Rel]⟩
              simp only [Rel] at hr
              obtain ⟨ad, cc, rfl, _⟩ := hr
              simp [Builtin.len_, ht0, run_under hd, Result.andThen, goInt]
            · cases h1
          · rename_i n e hk
            rw [hk] at hdk
            have e1 := kind_array hdk
            subst e1
            cases h1
            refine ⟨.int .i64 n, exec_v hex ?_, by simp [Rel]⟩
            simp [Builtin.len_, ht0, run_under hd, Result.andThen, goInt]
          · cases h1
        · cases h
      · rename_i hb
        simp only [hb, builtinA] at h
        split at h
        · rename_i x i hi
          obtain ⟨h1, h2⟩ := snd_of_map h
          refine ⟨h2, fun g w a hop => ?_⟩
          obtain ⟨t, ht0, ht⟩ := tyOne i hi
          obtain ⟨y, hy, hr⟩ := one x g w a rfl hop
          obtain ⟨d, hd, hdk⟩ := ty_under (hA.ty _ _ ht)
          have hex := hexec .cap (fun as => Builtin.cap_ c.argTypes o.type as) a.eval hb (fun _ _ => rfl)
          rw [hy] at hex
          unfold capB at h1
          split at h1
          · rename_i e hk
            rw [hk] at hdk
            have e1 := kind_slice hdk
            subst e1
            split at h1
            · rename_i r off n cp z
              cases h1
              refine ⟨.int .i64 cp, exec_v hex ?_, by simp [Rel]⟩
              simp only [Rel] at hr
              obtain ⟨ad, cc, rfl, _, hcc, _⟩ := hr
              have := hcc cp rfl
              subst this
              simp [Builtin.cap_, ht0, run_under hd, Result.andThen, goInt]
            · cases h1
              refine ⟨.int .i64 0, exec_v hex ?_, by simp [Rel]⟩
              rcases vs_cases hr with ⟨_, rfl, rfl⟩ | ⟨hne, _⟩
              · simp [Builtin.cap_, ht0, run_under hd, Result.andThen, goInt]
              · exact absurd rfl hne
            · cases h1
              refine ⟨.int .i64 0, exec_v hex ?_, by simp [Rel]⟩
              simp only [Rel, PRel] at hr
              rcases hr with ⟨h, _⟩ | ⟨_, _, ad, rfl⟩ | ⟨h, _⟩
              · cases h
              · simp [Builtin.cap_, ht0, run_under hd, Result.andThen, goInt]
              · cases h
            · cases h1
          · cases h1
        · cases h
      · rename_i hb
        simp only [hb, builtinA] at h
        obtain ⟨h1, h2⟩ := snd_of_map h
        refine ⟨h2, fun g w a hop => ?_⟩
        have hr := hrel g w a hop
        have hex := hexec .max (fun as => Builtin.max_ c.argTypes o.type as) a.eval hb (fun _ _ => rfl)
        unfold maxL at h1
        split at h1
        · rename_i k x rest
          simp only [RelL] at hr
          obtain ⟨y, ys, e1, e2, e3⟩ := hr
          simp only [Rel] at e2
          subst e2
          obtain ⟨z, hz, hzr⟩ := maxF_sound (P := P) rest ys k x v h1 e3
          refine ⟨z, exec_v hex ?_, hzr⟩
          simp only [Builtin.max_]
          rw [harr, e1]
          exact hz
        · cases h1
      · rename_i hb
        simp only [hb, builtinA] at h
        obtain ⟨h1, h2⟩ := snd_of_map h
        refine ⟨h2, fun g w a hop => ?_⟩
        have hr := hrel g w a hop
        have hex := hexec .min (fun as => Builtin.min_ c.argTypes o.type as) a.eval hb (fun _ _ => rfl)
        unfold minL at h1
        split at h1
        · rename_i k x rest
          simp only [RelL] at hr
          obtain ⟨y, ys, e1, e2, e3⟩ := hr
          simp only [Rel] at e2
          subst e2
          obtain ⟨z, hz, hzr⟩ := minF_sound (P := P) rest ys k x v h1 e3
          refine ⟨z, exec_v hex ?_, hzr⟩
          simp only [Builtin.min_]
          rw [harr, e1]
          exact hz
        · cases h1
      · cases hc
    · cases h

end Go.Proofs.YtjckhhkhgjbpaaaGreatDoor.Pale
