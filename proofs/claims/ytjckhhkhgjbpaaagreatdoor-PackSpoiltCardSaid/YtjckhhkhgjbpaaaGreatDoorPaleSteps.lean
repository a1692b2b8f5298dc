/- The abstract machine against the model: the steps on memory. -/
import Derived.Test.YtjckhhkhgjbpaaaGreatDoorPaleSim
import Derived.Laws.Cells
set_option linter.unusedVariables false
set_option linter.unusedSimpArgs false
namespace Go.Proofs.YtjckhhkhgjbpaaaGreatDoor.Pale
open Go

variable {A : AProg} {P : Program}

def Ghost.add (g : Ghost) (r : Nat) (p : Place) : Ghost := { g with st := fun s => if s = r then .live p else g.st s }
def Ghost.kill (g : Ghost) (r : Nat) : Ghost := { g with st := fun s => if s = r then .dead else g.st s }

theorem Ghost.add_same (g : Ghost) (r : Nat) (p : Place) : (g.add r p).st r = .live p := by simp [Ghost.add]
theorem Ghost.add_other (g : Ghost) {r s : Nat} (p : Place) (h : s ≠ r) : (g.add r p).st s = g.st s := by simp [Ghost.add, h]
theorem Ghost.kill_same (g : Ghost) (r : Nat) : (g.kill r).st r = .dead := by simp [Ghost.kill]
theorem Ghost.kill_other (g : Ghost) {r s : Nat} (h : s ≠ r) : (g.kill r).st s = g.st s := by simp [Ghost.kill, h]

theorem Ghost.add_le {g : Ghost} {r : Nat} (p : Place) (h : g.st r = .none) : GLe g (g.add r p) := by
  refine ⟨fun s q hs => ?_, fun s hs => ?_⟩
  · by_cases e : s = r
    · subst e; rw [h] at hs; cases hs
    · rw [Ghost.add_other g p e]; exact .inl hs
  · by_cases e : s = r
    · subst e; rw [h] at hs; cases hs
    · rw [Ghost.add_other g p e]; exact hs
theorem Ghost.kill_le (g : Ghost) (r : Nat) : GLe g (g.kill r) := by
  refine ⟨fun s q hs => ?_, fun s hs => ?_⟩
  · by_cases e : s = r
    · subst e; exact .inr (Ghost.kill_same g s)
    · rw [Ghost.kill_other g e]; exact .inl hs
  · by_cases e : s = r
    · subst e; exact Ghost.kill_same g s
    · rw [Ghost.kill_other g e]; exact hs

theorem heap_alloc_lt (w : World) (O : Obj) {b : Nat} (h : b < w.heap.size) : (w.alloc O).heap[b]? = w.heap[b]? := by
  show (w.heap.push O)[b]? = _
  rw [Array.getElem?_push, if_neg (by omega)]

/-- A new object for a number that has none yet. -/
theorem alloc_at {g : Ghost} {σ : AMem} {w : World} {o : AObj} {O : Obj} {r : Nat} {p : Place} (hs : Sim A g σ w) (hr : g.st r = .none) (hlt : r < σ.next) (hget : σ.get r = some o) (hp : p.block = w.heap.size)
    (ho : ObjRel A (g.add r p) (w.alloc O) p o) : Sim A (g.add r p) σ (w.alloc O) := by
  have hle := Ghost.add_le p hr
  have hst : Stays w (w.alloc O) g.ro (g.add r p).ro := ⟨fun b hb => hb, fun b hb => heap_alloc_lt w O (hs.rolt b hb)⟩
  constructor
  · intro s q hq
    by_cases e : s = r
    · subst e
      rw [Ghost.add_same] at hq
      cases hq
      exact ⟨o, hget, ho⟩
    · rw [Ghost.add_other g p e] at hq
      obtain ⟨o', h1, h2⟩ := hs.obj s q hq
      exact ⟨o', h1, h2.mono (heap_alloc_lt w O h2.block_lt) hle hst⟩
  · intro s t q q' hq hq' hb
    by_cases e : s = r
    · subst e
      rw [Ghost.add_same] at hq
      cases hq
      by_cases e' : t = s
      · exact e'.symm
      · rw [Ghost.add_other g p e'] at hq'
        have := hs.block_lt hq'
        omega
    · rw [Ghost.add_other g p e] at hq
      by_cases e' : t = r
      · subst e'
        rw [Ghost.add_same] at hq'
        cases hq'
        have := hs.block_lt hq
        omega
      · rw [Ghost.add_other g p e'] at hq'
        exact hs.inj s t q q' hq hq' hb
  · intro s q hq hro
    by_cases e : s = r
    · subst e
      rw [Ghost.add_same] at hq
      cases hq
      have := hs.rolt _ hro
      omega
    · rw [Ghost.add_other g p e] at hq
      exact hs.ro s q hq hro
  · intro b hb
    have := hs.rolt b hb
    simp; omega
  · intro s hsn
    have : s ≠ r := by omega
    rw [Ghost.add_other g p this]
    exact hs.fresh s hsn
  · intro s hd
    by_cases e : s = r
    · subst e; rw [Ghost.add_same] at hd; cases hd
    · rw [Ghost.add_other g p e] at hd
      exact hs.dead s hd
  · exact fun k cs h => PAtL.mono hst _ _ _ (hs.glob k cs h)

/-- The abstract memory alone gets an object, that the model does not have yet. -/
theorem Sim.push {g : Ghost} {σ : AMem} {w : World} (hs : Sim A g σ w) (o : AObj) : Sim A g (σ.push o) w := by
  have hf := (hs.fresh σ.next (Nat.le_refl _)).1
  constructor
  · intro s q hq
    obtain ⟨o', h1, h2⟩ := hs.obj s q hq
    refine ⟨o', ?_, h2⟩
    rw [AMem.get_push, if_neg ?_]
    · exact h1
    · intro e; subst e; rw [hf] at hq; cases hq
  · exact hs.inj
  · exact hs.ro
  · exact hs.rolt
  · intro s hsn
    simp at hsn
    obtain ⟨h1, h2⟩ := hs.fresh s (by omega)
    exact ⟨h1, by rw [AMem.get_push, if_neg (by omega)]; exact h2⟩
  · intro s hd
    rw [AMem.get_push, if_neg ?_]
    · exact hs.dead s hd
    · intro e; subst e; rw [hf] at hd; cases hd
  · exact hs.glob

theorem Trans.push (g : Ghost) (σ : AMem) (w : World) (o : AObj) : Trans g σ w g (σ.push o) w :=
  { Trans.refl g σ w with
    none := fun r hr hn => ⟨hn, by rw [AMem.get_push, if_neg (by omega)]⟩
    next := by simp }

theorem Trans.alloc {g : Ghost} {σ : AMem} {w : World} {O : Obj} {r : Nat} {p : Place} (hr : g.st r = .none) (hge : σ.next ≤ r) (hp : p.block = w.heap.size) (σ' : AMem) (hn : σ.next ≤ σ'.next) (hk : ∀ s, s < σ.next → σ'.get s = σ.get s) :
    Trans g σ w (g.add r p) σ' (w.alloc O) where
  os := rfl
  tape := rfl
  output := rfl
  size := by simp
  frame := fun b hb _ => heap_alloc_lt w O hb
  le := Ghost.add_le p hr
  none := fun s hs hn => ⟨by rw [Ghost.add_other g p (by omega)]; exact hn, hk s hs⟩
  new := fun s q hq => by
    by_cases e : s = r
    · subst e; rw [Ghost.add_same] at hq; cases hq; exact .inr (.inl (by omega))
    · rw [Ghost.add_other g p e] at hq; exact .inl hq
  ro := fun _ h => h
  ronew := fun _ h => .inl h
  next := hn
  loops := fun b r hb => ⟨r, by rw [heap_alloc_lt w O (Array.getElem?_eq_some_iff.1 hb).1]; exact hb⟩

/-- A NEW OBJECT. -/
theorem alloc_step {g : Ghost} {σ : AMem} {w : World} {o : AObj} {O : Obj} {p : Place} (hs : Sim A g σ w) (hp : p.block = w.heap.size)
    (ho : ObjRel A (g.add σ.next p) (w.alloc O) p o) : Sim A (g.add σ.next p) (σ.push o) (w.alloc O) ∧ Trans g σ w (g.add σ.next p) (σ.push o) (w.alloc O) := by
  have hf := (hs.fresh σ.next (Nat.le_refl _)).1
  refine ⟨alloc_at (hs.push o) hf (by simp) (by rw [AMem.get_push, if_pos rfl]) hp ho, ?_⟩
  exact Trans.alloc hf (Nat.le_refl _) hp _ (by simp) (fun s h => by rw [AMem.get_push, if_neg (by omega)])

theorem row_new {g : Ghost} {w : World} {cells : List AVal} {l : List Value} {C : Array Value} {e : TypeId} {sz room : Nat} {b : Bool} {g' : Ghost} (hC : C = l.toArray) (hrel : RelL g w cells l) (hle : GLe g g') (hst : Stays w (w.alloc (.cells C e)) g.ro g'.ro) (hroom : room ≤ C.size) (hlen : cells.length ≤ room) :
    ObjRel A g' (w.alloc (.cells C e)) ⟨w.heap.size, 0, room, sz⟩ (.row sz b cells) := by
  refine ⟨rfl, hlen, C, ⟨e, (0, 0), World.alloc_heap_new _ _, fun i _ h => by omega, by simpa using hroom⟩, fun i c hc => ?_⟩
  obtain ⟨x, hx, hr⟩ := hrel.get hc
  exact ⟨x, by subst hC; simpa using hx, Rel.mono hle hst _ _ hr⟩

/-- A NEW ROW. -/
theorem row_step {g : Ghost} {σ : AMem} {w : World} {cells : List AVal} {l : List Value} {e : TypeId} {sz : Nat} {b : Bool} (room : Nat) (hs : Sim A g σ w) (C : Array Value) (more : List Value) (hC : C = (l ++ more).toArray) (hrel : RelL g w cells l) (hroom : room ≤ C.size) (hlen : cells.length ≤ room) :
    Sim A (g.add σ.next ⟨w.heap.size, 0, room, sz⟩) (σ.push (.row sz b cells)) (w.alloc (.cells C e)) ∧
    Trans g σ w (g.add σ.next ⟨w.heap.size, 0, room, sz⟩) (σ.push (.row sz b cells)) (w.alloc (.cells C e)) := by
  have hf := (hs.fresh σ.next (Nat.le_refl _)).1
  have hle := Ghost.add_le (g := g) (r := σ.next) ⟨w.heap.size, 0, room, sz⟩ hf
  have hst : Stays w (w.alloc (.cells C e)) g.ro (g.add σ.next ⟨w.heap.size, 0, room, sz⟩).ro := ⟨fun b hb => hb, fun b hb => heap_alloc_lt w _ (hs.rolt b hb)⟩
  refine alloc_step hs rfl ⟨rfl, hlen, C, ⟨e, (0, 0), World.alloc_heap_new _ _, fun i _ h => by omega, by simpa using hroom⟩, fun i c hc => ?_⟩
  obtain ⟨x, hx, hr⟩ := hrel.get hc
  refine ⟨x, ?_, Rel.mono hle hst _ _ hr⟩
  subst hC
  simp only [Nat.zero_add, List.getElem?_toArray]
  rw [List.getElem?_append_left (List.getElem?_eq_some_iff.1 hx).1]
  exact hx

/-- AN OBJECT THAT IS THERE IS TURNED. -/
theorem update_step {g : Ghost} {σ : AMem} {w : World} {o' : AObj} {O' : Obj} {r : Nat} {p : Place} (hs : Sim A g σ w) (hr : g.st r = .live p) (hlp : ∀ r, w.heap[p.block]? = some (.loop r) → ∃ r', O' = .loop r')
    (ho : Stays w (w.putObj p.block O') g.ro g.ro → ObjRel A g (w.putObj p.block O') p o') :
    Sim A g (σ.put r o') (w.putObj p.block O') ∧ Trans g σ w g (σ.put r o') (w.putObj p.block O') := by
  have hlt := hs.block_lt hr
  have hother : ∀ b, b ≠ p.block → (w.putObj p.block O').heap[b]? = w.heap[b]? := fun b hb => World.putObj_heap_other hb
  have hst : Stays w (w.putObj p.block O') g.ro g.ro := ⟨fun b hb => hb, fun b hb => hother b (fun e => hs.ro r p hr (e ▸ hb))⟩
  have hrn : r < σ.next := by
    rcases Nat.lt_or_ge r σ.next with h | h
    · exact h
    · rw [(hs.fresh r h).1] at hr; cases hr
  refine ⟨⟨?_, hs.inj, hs.ro, fun b hb => by simpa using hs.rolt b hb, ?_, ?_, fun k cs h => PAtL.mono hst _ _ _ (hs.glob k cs h)⟩, ?_⟩
  · intro s q hq
    by_cases e : s = r
    · subst e
      rw [hr] at hq
      cases hq
      exact ⟨o', by rw [AMem.get_put, if_pos rfl], ho hst⟩
    · obtain ⟨o, h1, h2⟩ := hs.obj s q hq
      refine ⟨o, by rw [AMem.get_put, if_neg (Ne.symm e)]; exact h1, h2.mono (hother _ ?_) (GLe.refl g) hst⟩
      intro e'
      exact e (hs.inj s r q p hq hr e')
  · intro s hsn
    obtain ⟨h1, h2⟩ := hs.fresh s hsn
    refine ⟨h1, ?_⟩
    rw [AMem.get_put, if_neg (by simp at hsn; omega)]
    exact h2
  · intro s hd
    rw [AMem.get_put, if_neg (fun e => by subst e; rw [hr] at hd; cases hd)]
    exact hs.dead s hd
  · exact { Trans.refl g σ w with
      size := by simp
      frame := fun b hb hn => hother b (fun e => hn r p hr e.symm)
      loops := fun b l hb => by
        by_cases e : b = p.block
        · subst e
          obtain ⟨r', rfl⟩ := hlp l hb
          exact ⟨r', World.putObj_heap_same hlt⟩
        · exact ⟨l, (hother b e).trans hb⟩
      none := fun s hsn hn => ⟨hn, by rw [AMem.get_put, if_neg (fun e => by subst e; rw [hr] at hn; cases hn)]⟩ }

/-- A ROW MOVES: its number dies, another one lives in its block. -/
theorem move_step {g : Ghost} {σ : AMem} {w : World} {o' : AObj} {O' : Obj} {r : Nat} {p q : Place} (hs : Sim A g σ w) (hr : g.st r = .live p) (hq : q.block = p.block) (hlp : ∀ r, w.heap[p.block]? ≠ some (.loop r))
    (ho : Stays w (w.putObj p.block O') g.ro g.ro → GLe g ((g.kill r).add σ.next q) → ObjRel A ((g.kill r).add σ.next q) (w.putObj p.block O') q o') :
    Sim A ((g.kill r).add σ.next q) ((σ.del r).push o') (w.putObj p.block O') ∧ Trans g σ w ((g.kill r).add σ.next q) ((σ.del r).push o') (w.putObj p.block O') := by
  have hlt := hs.block_lt hr
  have hother : ∀ b, b ≠ p.block → (w.putObj p.block O').heap[b]? = w.heap[b]? := fun b hb => World.putObj_heap_other hb
  have hst : Stays w (w.putObj p.block O') g.ro g.ro := ⟨fun b hb => hb, fun b hb => hother b (fun e => hs.ro r p hr (e ▸ hb))⟩
  have hrn : r < σ.next := by
    rcases Nat.lt_or_ge r σ.next with h | h
    · exact h
    · rw [(hs.fresh r h).1] at hr; cases hr
  have hnn : (g.kill r).st σ.next = .none := by rw [Ghost.kill_other g (by omega)]; exact (hs.fresh _ (Nat.le_refl _)).1
  have hle : GLe g ((g.kill r).add σ.next q) := (Ghost.kill_le g r).trans (Ghost.add_le q hnn)
  have hst' : ∀ s, s ≠ σ.next → s ≠ r → ((g.kill r).add σ.next q).st s = g.st s := fun s h1 h2 => by rw [Ghost.add_other _ _ h1, Ghost.kill_other _ h2]
  have hstr : ((g.kill r).add σ.next q).st r = .dead := by rw [Ghost.add_other _ _ (by omega), Ghost.kill_same]
  refine ⟨⟨?_, ?_, ?_, fun b hb => by simpa using hs.rolt b hb, ?_, ?_, fun k cs h => PAtL.mono hst _ _ _ (hs.glob k cs h)⟩, ?_⟩
  · intro s t ht
    by_cases e1 : s = σ.next
    · subst e1
      rw [Ghost.add_same] at ht
      cases ht
      exact ⟨o', by rw [AMem.get_push, if_pos (by simp)], ho hst hle⟩
    · by_cases e2 : s = r
      · subst e2; rw [hstr] at ht; cases ht
      · rw [hst' s e1 e2] at ht
        obtain ⟨o, h1, h2⟩ := hs.obj s t ht
        refine ⟨o, ?_, h2.mono (hother _ fun e' => e2 (hs.inj s r t p ht hr e')) hle hst⟩
        rw [AMem.get_push, if_neg (by simp; exact Ne.symm e1), AMem.get_del, if_neg (Ne.symm e2)]
        exact h1
  · intro s t a b ha hb hab
    by_cases e1 : s = σ.next
    · subst e1
      rw [Ghost.add_same] at ha
      cases ha
      by_cases e2 : t = σ.next
      · exact e2.symm
      · by_cases e3 : t = r
        · subst e3; rw [hstr] at hb; cases hb
        · rw [hst' t e2 e3] at hb
          exact absurd (hs.inj t r b p hb hr (hab.symm.trans hq)) e3
    · by_cases e2 : s = r
      · subst e2; rw [hstr] at ha; cases ha
      · rw [hst' s e1 e2] at ha
        by_cases e3 : t = σ.next
        · subst e3
          rw [Ghost.add_same] at hb
          cases hb
          exact absurd (hs.inj s r a p ha hr (hab.trans hq)) e2
        · by_cases e4 : t = r
          · subst e4; rw [hstr] at hb; cases hb
          · rw [hst' t e3 e4] at hb
            exact hs.inj s t a b ha hb hab
  · intro s t ht hro
    by_cases e1 : s = σ.next
    · subst e1
      rw [Ghost.add_same] at ht
      cases ht
      exact hs.ro r p hr (hq ▸ hro)
    · by_cases e2 : s = r
      · subst e2; rw [hstr] at ht; cases ht
      · rw [hst' s e1 e2] at ht
        exact hs.ro s t ht hro
  · intro s hsn
    simp at hsn
    obtain ⟨h1, h2⟩ := hs.fresh s (by omega)
    rw [hst' s (by omega) (by omega), AMem.get_push, if_neg (by simp; omega), AMem.get_del, if_neg (by omega)]
    exact ⟨h1, h2⟩
  · intro s hd
    by_cases e1 : s = σ.next
    · subst e1; rw [Ghost.add_same] at hd; cases hd
    · rw [AMem.get_push, if_neg (by simp; exact Ne.symm e1), AMem.get_del]
      by_cases e2 : s = r
      · subst e2; simp
      · rw [if_neg (Ne.symm e2)]
        rw [hst' s e1 e2] at hd
        exact hs.dead s hd
  · refine ⟨rfl, rfl, rfl, by simp, fun b hb hn => hother b (fun e => hn r p hr e.symm), hle, ?_, ?_, fun _ h => h, fun _ h => .inl h, by simp, fun b l hb => ⟨l, (hother b (fun e => hlp l (e ▸ hb))).trans hb⟩⟩
    · intro s hsn hn
      have h2 : s ≠ r := fun e => by subst e; rw [hr] at hn; cases hn
      rw [hst' s (by omega) h2, AMem.get_push, if_neg (by simp; omega), AMem.get_del, if_neg (Ne.symm h2)]
      exact ⟨hn, rfl⟩
    · intro s t ht
      by_cases e1 : s = σ.next
      · subst e1
        rw [Ghost.add_same] at ht
        cases ht
        exact .inr (.inr ⟨r, p, hr, hq.symm⟩)
      · by_cases e2 : s = r
        · subst e2; rw [hstr] at ht; cases ht
        · rw [hst' s e1 e2] at ht
          exact .inl ht

/-- What the model's count of draws says is nobody's. -/
theorem Sim.drewN {g : Ghost} {σ : AMem} {w : World} (hs : Sim A g σ w) (n : Nat) : Sim A g σ { w with drawn := n } := by
  have hst : Stays w { w with drawn := n } g.ro g.ro := ⟨fun b hb => hb, fun b hb => rfl⟩
  exact ⟨fun r p hr => let ⟨o, h1, h2⟩ := hs.obj r p hr; ⟨o, h1, h2.mono rfl (GLe.refl g) hst⟩, hs.inj, hs.ro, hs.rolt, hs.fresh, hs.dead, fun k cs h => PAtL.mono hst _ _ _ (hs.glob k cs h)⟩
theorem Trans.drewN (g : Ghost) (σ : AMem) (w : World) (n : Nat) : Trans g σ w g σ { w with drawn := n } := { Trans.refl g σ w with frame := fun _ _ _ => rfl, loops := fun _ r h => ⟨r, h⟩ }

end Go.Proofs.YtjckhhkhgjbpaaaGreatDoor.Pale
