/- The abstract machine against the model: operations that lay a new object. -/
import Derived.Test.YtjckhhkhgjbpaaaGreatDoorPalePureAll
import Derived.IntWalk
set_option linter.unusedVariables false
set_option linter.unusedSimpArgs false
namespace Go.Proofs.YtjckhhkhgjbpaaaGreatDoor.Pale
open Go

variable {A : AProg} {P : Program}

/-- What an operation that lays a new object gives, whenever it is carried out. -/
def AllocOk (P : Program) (A : AProg) (o : Oper) (v : AVal) (T : Tr AVal) (r : Nat) (new : AObj) : Prop :=
  ∀ (g : Ghost) (w : World) (a : Act), g.st r = .none → (∀ b, g.ro b → b < w.heap.size) → OpndRel A g w T a o →
    ∃ y O p, (execOp a.eval o).run P w = .ok (.value y) (w.alloc O) ∧ p.block = w.heap.size ∧ ObjRel A (g.add r p) (w.alloc O) p new ∧ Rel (g.add r p) (w.alloc O) v y

theorem stays_alloc {g : Ghost} {w : World} (O : Obj) (r : Nat) (p : Place) (h : ∀ b, g.ro b → b < w.heap.size) : Stays w (w.alloc O) g.ro (g.add r p).ro := ⟨fun b hb => hb, fun b hb => heap_alloc_lt w O (h b hb)⟩

theorem row_obj {g : Ghost} {w : World} {r : Nat} {cells : List AVal} {l more : List Value} {C : Array Value} {e : TypeId} {sz room : Nat} {b : Bool} (hn : g.st r = .none) (hro : ∀ b, g.ro b → b < w.heap.size) (hC : C = (l ++ more).toArray) (hrel : RelL g w cells l) (hroom : room ≤ C.size) (hlen : cells.length ≤ room) :
    ObjRel A (g.add r ⟨w.heap.size, 0, room, sz⟩) (w.alloc (.cells C e)) ⟨w.heap.size, 0, room, sz⟩ (.row sz b cells) := by
  have hle := Ghost.add_le (g := g) (r := r) ⟨w.heap.size, 0, room, sz⟩ hn
  have hst := stays_alloc (g := g) (w := w) (.cells C e) r ⟨w.heap.size, 0, room, sz⟩ hro
  refine ⟨rfl, hlen, C, ⟨e, (0, 0), World.alloc_heap_new _ _, fun i _ h => by omega, by simpa using hroom⟩, fun i c hc => ?_⟩
  obtain ⟨x, hx, hr⟩ := hrel.get hc
  refine ⟨x, ?_, Rel.mono hle hst _ _ hr⟩
  subst hC
  simp only [Nat.zero_add, List.getElem?_toArray]
  rw [List.getElem?_append_left (List.getElem?_eq_some_iff.1 hx).1]
  exact hx

theorem repZ_length (z : List AVal) (n : Nat) : (repZ z n).length = n * z.length := by
  induction n with
  | zero => simp [repZ]
  | succ n ih => simp [repZ, ih, Nat.add_mul]; omega

def repV (z : List Value) : Nat → List Value
  | 0 => []
  | n + 1 => z ++ repV z n

theorem repZ_rel {g : Ghost} {w : World} {z : List AVal} {l : List Value} (h : RelL g w z l) (n : Nat) : RelL g w (repZ z n) (repV l n) := by
  induction n with
  | zero => simp [repZ, repV, RelL]
  | succ n ih => exact h.append ih

theorem repV_length (z : List Value) (n : Nat) : (repV z n).length = n * z.length := by
  induction n with
  | zero => simp [repV]
  | succ n ih => simp [repV, ih, Nat.add_mul]; omega

theorem repV_get (z : List Value) (hz : 0 < z.length) : ∀ (n i : Nat), i < n * z.length → (repV z n)[i]? = z[i % z.length]? := by
  intro n
  induction n with
  | zero => intro i h; omega
  | succ n ih =>
    intro i h
    simp only [repV]
    by_cases hi : i < z.length
    · rw [List.getElem?_append_left hi, Nat.mod_eq_of_lt hi]
    · rw [List.getElem?_append_right (by omega), ih _ (by rw [Nat.add_mul] at h; omega)]
      congr 1
      rw [← Nat.mod_eq_sub_mod (by omega)]

/-- The model's row of zeros. -/
theorem zeros_eq (zero : Array Value) (n m : Nat) (hm : m = n * zero.size) (hz : 0 < zero.size ∨ n = 0) : (Array.range m).map (fun i => zero[i % zero.size]!) = (repV zero.toList n).toArray := by
  apply Array.ext'
  apply List.ext_getElem?
  intro i
  simp only [Array.toList_map, Array.toList_range, List.getElem?_map]
  by_cases hi : i < m
  · have hz' : 0 < zero.size := by
      rcases hz with h | h
      · exact h
      · subst h; omega
    rw [List.getElem?_range hi, repV_get _ (by simpa using hz') _ _ (by simpa [hm] using hi)]
    simp only [Option.map_some]
    have hlt : i % zero.size < zero.size := Nat.mod_lt _ hz'
    simp only [Array.length_toList]
    rw [getElem!_pos zero _ hlt, Array.getElem?_toList, getElem?_pos zero _ hlt]
  · rw [List.getElem?_eq_none (by simpa using hi), List.getElem?_eq_none (by rw [repV_length]; simp [← hm]; omega)]
    rfl

theorem run_newRow {w : World} {e : TypeId} {C : Array Value} : (newRow e C).run P w = .ok ⟨w.heap.size, 0, none⟩ (w.alloc (.cells C e)) := by
  simp [newRow, Result.andThen]

theorem alloc_sound (hA : AOk P A) {call : CallA} {caller : Nat} {o : Oper} {T : Tr AVal} {σ σ' : AMem} {v : AVal} (hc : clsOf A o = .alloc) (h : opSem A call caller o T σ = some (v, σ')) : ∃ new, σ' = σ.push new ∧ AllocOk P A o v T σ.next new := by
  unfold opSem at h
  unfold clsOf at hc
  cases ho : o.op <;> simp only [ho] at h hc <;> try (cases hc; done)
  case slice =>
    exfalso
    split at hc
    · split at hc <;> cases hc
    · cases hc
  case alloc t =>
    split at h
    · rename_i i hi
      cases h
      refine ⟨_, rfl, fun g w a hn hro hop => ?_⟩
      obtain ⟨z, hz, hzr⟩ := zero_rel (hA.ty _ _ hi) g w
      refine ⟨.pointer (some ⟨w.heap.size, 0, none⟩), .cells z.cells t, ⟨w.heap.size, 0, i.zero.length, i.size⟩, ?_, rfl, ?_, ?_⟩
      · simp [execOp, ho, Instr.alloc, hz, newVar, run_newRow, Result.andThen]
      · exact row_obj (more := []) hn hro (by simp) hzr (by have := hzr.length; simp at this; omega) (Nat.le_refl _)
      · simp only [Rel]
        exact ⟨_, rfl, .inr ⟨_, Ghost.add_same _ _ _, rfl⟩⟩
    · cases h
  case box t x =>
    split at h
    · rename_i i u hi hu
      cases h
      refine ⟨_, rfl, fun g w a hn hro hop => ?_⟩
      have hx := hop x (by simp [ho, Op.operands]) _ hu
      have hcl := cells_rel' hx
      refine ⟨.pointer (some ⟨w.heap.size, 0, none⟩), .cells (a.eval x).cells t, ⟨w.heap.size, 0, u.cells.length, i.size⟩, ?_, rfl, ?_, ?_⟩
      · simp [execOp, ho, Instr.box, newVar, run_newRow, Result.andThen]
      · exact row_obj (more := []) hn hro (by simp) hcl (by have := hcl.length; simp at this; omega) (Nat.le_refl _)
      · simp only [Rel]
        exact ⟨_, rfl, .inr ⟨_, Ghost.add_same _ _ _, rfl⟩⟩
    · cases h
  case buildSlice t len parts =>
    split at h
    · rename_i e ps he hps
      split at h
      · rename_i hcond
        simp only [Bool.and_eq_true, decide_eq_true_eq, beq_iff_eq] at hcond
        obtain ⟨cs, h1, h2⟩ := map_some h
        cases h2
        unfold elemTy at he
        split at he
        · rename_i i hi
          split at he
          · rename_i et hk
            refine ⟨_, rfl, fun g w a hn hro hop => ?_⟩
            obtain ⟨d, hd, hdk⟩ := ty_under (hA.ty _ _ hi)
            rw [hk] at hdk
            have e1 := kind_slice hdk
            subst e1
            obtain ⟨z, hz, hzr⟩ := zero_rel (hA.ty _ _ he) g w
            have hzl := hzr.length
            have hpr := evalParts_rel (g := g) (w := w) (a := a) parts.toList ps (fun x hx v hv => hop x.2 (by
              simp only [ho, Op.operands]
              simp only [List.mem_toArray, List.mem_map]
              exact ⟨x, hx, rfl⟩) v hv) hps
            obtain ⟨m, hm, hr⟩ := fillA_sound (fun j => some (j * e.size, e.size)) ps _ _ _ cs hpr (repZ_rel hzr len) h1
            have hcl : cs.length = len * e.size := by
              have : ∀ (ps : List (Nat × AVal)) (l cs : List AVal) (f : Nat → Option (Nat × Nat)), fillA f l ps = some cs → cs.length = l.length := by
                intro ps
                induction ps with
                | nil => intro l cs f h; simp [fillA] at h; subst h; rfl
                | cons p ps ih =>
                  intro l cs f h
                  simp only [fillA] at h
                  split at h
                  · cases h
                  · split at h
                    · rw [ih _ _ _ h, setAt_length]
                    · cases h
              rw [this _ _ _ _ h1, repZ_length, hcond.2]
            have hml := hr.length
            refine ⟨.slice (some ⟨w.heap.size, 0, none⟩) len len, .cells m.toArray et, ⟨w.heap.size, 0, cs.length, e.size⟩, ?_, rfl, ?_, ?_⟩
            · have hparts : (parts.map fun (i, x) => (i, a.eval x)).toList = parts.toList.map fun (i, x) => (i, a.eval x) := by simp
              have hle : ¬ (len * e.size > 2 ^ 24) := by omega
              have hzs : z.cells.size = e.size := by simp at hzl; omega
              by_cases h0 : len * e.size = 0
              · have hnil : (repV z.cells.toList len) = [] := by
                  apply List.eq_nil_of_length_eq_zero
                  rw [repV_length]; simp; rw [hzs]; simpa using h0
                rw [hnil] at hm
                have harr : ∀ f : Nat → Value, Array.map f (Array.range (len * e.size)) = #[] := by intro f; rw [h0]; simp
                simp only [execOp, ho, Instr.buildSlice, Sem.run_bind, run_under hd, Result.andThen, run_size (hA.ty _ _ he), if_neg hle, if_pos h0, Sem.run_pure, harr, hparts, hm, run_newRow]
              · have harr := zeros_eq z.cells len (len * e.size) (by rw [hzs]) (.inl (by rw [hzs]; exact Nat.pos_of_ne_zero (fun e' => h0 (by rw [e', Nat.mul_zero]))))
                simp only [execOp, ho, Instr.buildSlice, Sem.run_bind, run_under hd, Result.andThen, run_size (hA.ty _ _ he), if_neg hle, if_neg h0, Sem.run_pure, hz, harr, hparts, hm, run_newRow]
            · exact row_obj (more := []) hn hro (by simp) hr (by simp; omega) (Nat.le_refl _)
            · simp only [Rel]
              refine ⟨_, _, rfl, Nat.le_refl _, fun k hk => by cases hk; rfl, .inr ⟨_, Ghost.add_same _ _ _, rfl, ?_, fun _ => rfl, fun h => by cases h⟩⟩
              simp [hcl]
          · cases he
        · cases he
      · cases h
    · cases h
  case makeMap t res =>
    split at h
    · rename_i hres
      cases h
      refine ⟨_, rfl, fun g w a hn hro hop => ?_⟩
      refine ⟨.map (some w.heap.size), .map #[] 0, ⟨w.heap.size, 0, 0, 0⟩, ?_, rfl, ?_, ?_⟩
      · simp [execOp, ho, Instr.makeMap, Result.andThen]
      · exact ⟨#[], 0, World.alloc_heap_new _ _, rfl, fun i k v hi => by simp at hi⟩
      · simp only [Rel]
        exact ⟨_, rfl, .inr ⟨_, Ghost.add_same _ _ _, rfl⟩⟩
    · split at h <;> cases h
  case makeSlice t l c =>
    split at h
    · rename_i e n m he hl hcv
      split at h
      · rename_i hcond
        obtain ⟨h0, hnm, hmb, hmx, hzl', hsz0⟩ := hcond
        cases h
        unfold elemTy at he
        split at he
        · rename_i i hi
          split at he
          · rename_i et hk
            refine ⟨_, rfl, fun g w a hn hro hop => ?_⟩
            obtain ⟨d, hd, hdk⟩ := ty_under (hA.ty _ _ hi)
            rw [hk] at hdk
            have e1 := kind_slice hdk
            subst e1
            obtain ⟨z, hz, hzr⟩ := zero_rel (hA.ty _ _ he) g w
            have hzl := hzr.length
            have hxl := hop l (by simp [ho, Op.operands]) _ hl
            have hxc := hop c (by simp [ho, Op.operands]) _ hcv
            simp only [Rel] at hxl hxc
            obtain ⟨info, z', hinfo, hisz, hib, hiz, _⟩ := ty_info (hA.ty _ _ he)
            have hzs : z.cells.size = e.size := by simp at hzl; omega
            have w1 : IntKind.i64.wrap n = n := IntWalk.i64_in n ⟨by omega, by omega⟩
            have w2 : IntKind.i64.wrap m = m := IntWalk.i64_in m ⟨by omega, by omega⟩
            refine ⟨.slice (some ⟨w.heap.size, 0, none⟩) n.toNat m.toNat, .cells (repV z.cells.toList m.toNat).toArray et, ⟨w.heap.size, 0, m.toNat * e.size, e.size⟩, ?_, rfl, ?_, ?_⟩
            · have hmb' : (e.bytes : Int) * m ≤ 1099511627776 := by rw [Int.mul_comm]; exact hmb
              have hbad : ¬ ((decide (m < 0) || decide ((info.bytes : Int) * m > 2 ^ 48)) || decide (n < 0) || decide (n > m)) = true := by
                rw [hib]
                have h2 : (2 : Int) ^ 48 = 281474976710656 := by decide
                rw [h2]
                have g1 : ¬ (m < 0) := by omega
                have g2 : ¬ ((e.bytes : Int) * m > 281474976710656) := by omega
                have g3 : ¬ (n < 0) := by omega
                have g4 : ¬ (n > m) := by omega
                rw [decide_eq_false g1, decide_eq_false g2, decide_eq_false g3, decide_eq_false g4]
                decide
              have hroom : (askRoom (m.toNat * info.bytes)).run P w = .ok () w := by
                unfold askRoom
                split
                · simp [mark, Sem.run]
                · simp
              simp only [execOp, ho, Instr.makeSlice, Sem.run_bind, run_under hd, Result.andThen, hxl, hxc, asInt, run_asIntOf, Sem.run_pure, run_info hinfo, w1, w2]
              rw [if_neg hbad]
              by_cases h0 : m.toNat * e.size = 0
              · have hnil : (repV z.cells.toList m.toNat) = [] := by
                  apply List.eq_nil_of_length_eq_zero
                  rw [repV_length]; simp; rw [hzs]; simpa using h0
                have harr : ∀ f : Nat → Value, Array.map f (Array.range (m.toNat * e.size)) = #[] := by intro f; rw [h0]; simp
                simp only [Sem.run_bind, hroom, Result.andThen, run_size (hA.ty _ _ he), if_pos h0, Sem.run_pure, harr, run_newRow, hnil]
              · have harr := zeros_eq z.cells m.toNat (m.toNat * e.size) (by rw [hzs]) (.inl (by rw [hzs]; exact hsz0))
                simp only [Sem.run_bind, hroom, Result.andThen, run_size (hA.ty _ _ he), if_neg h0, Sem.run_pure, hz, harr, run_newRow]
            · exact row_obj (more := []) hn hro (by simp) (repZ_rel hzr _) (by simp [repV_length, hzs]) (by rw [repZ_length, hzl']; exact Nat.le_refl _)
            · simp only [Rel]
              refine ⟨_, _, rfl, by omega, fun k hk => by cases hk; rfl, .inr ⟨_, Ghost.add_same _ _ _, rfl, ?_, fun _ => rfl, fun h => by cases h⟩⟩
              simp
          · cases he
        · cases he
      · cases h
    · cases h
  case convert s d x =>
    exfalso
    split at hc
    · split at hc <;> cases hc
    · cases hc
  case call c =>
    exfalso
    split at hc <;> cases hc

end Go.Proofs.YtjckhhkhgjbpaaaGreatDoor.Pale
