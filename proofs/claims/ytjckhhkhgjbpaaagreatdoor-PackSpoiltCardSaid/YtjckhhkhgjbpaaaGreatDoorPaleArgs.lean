/- The abstract machine against the model: what an argument reads as; that it reads so behind the call. -/
import Derived.Test.YtjckhhkhgjbpaaaGreatDoorPaleSym
import Derived.Test.YtjckhhkhgjbpaaaGreatDoorPaleLaid
import Derived.Carry
import Derived.ChangeSlices
import Derived.WideShapes
set_option linter.unusedVariables false
namespace Go.Proofs.YtjckhhkhgjbpaaaGreatDoor.Pale
open Go Go.RowKit

/-- A LAW THAT IS TRUE ON THE ABSTRACT MACHINE AT SOME VALUES, is so in the model, wherever its arguments read as these. -/
theorem args_true {P : Program} {A : AProg} (hA : AOk P A) {k f : Nat} {args : List AVal} {σ' : AMem} (h : callN A k (.func f [] []) args AMem.empty = some (.bool true, σ')) (w : World) (ro : Nat → Prop) (hro : ∀ b, ro b → b < w.heap.size) (hg : ∀ k cs, A.glob k = some cs → PAtL w ro k 0 cs) {xs : Array Value} (hx : PRelL w ro args xs.toList) :
    Calls P f xs w fun e w' => e = .returned (.bool true) ∧ Below w.heap.size w w' := by
  refine (calls_of_callN hA h (w := w) (ro := ro) hro hg hx).mono ?_
  rintro e w' ⟨x, rfl, h1, h2, h3, h4, h5, g', _, hr⟩
  simp only [Rel] at hr
  subst hr
  exact ⟨rfl, h1, h2, h3, h4, h5⟩

/-- All arguments read behind the call as before it. -/
theorem trodAll_below {H : Type} {enc : TypeId × Value → H} {P : Program} (hl : laidOutB P = true) {W W' : World} (hb : Below W.heap.size W W') (sp : Nat → Bool) : ∀ {ts : List TypeId} {vs : List Value} {ds : List (DataW H)} {ps : List MemPlace},
    (ts.all fun t => P.readableRec t && decide (t < P.types.size)) = true → DataW.TrodAll enc P W 0 (fun _ => true) true ts vs ds ps → (∀ x ∈ ps, x.block < W.heap.size) → (∀ x ∈ ps, sp x.block = true) → DataW.TrodAll enc P W' 0 sp true ts vs ds ps := by
  intro ts
  induction ts with
  | nil => intro vs ds ps _ h _ _; cases vs <;> cases ds <;> simp_all [DataW.TrodAll]
  | cons t ts ih =>
    intro vs ds ps ht h hlt hsp
    cases vs with
    | nil => simp [DataW.TrodAll] at h
    | cons v vs => cases ds with
      | nil => simp [DataW.TrodAll] at h
      | cons d ds =>
        obtain ⟨p, q, h1, h2, rfl⟩ := h
        simp only [List.all_cons, Bool.and_eq_true, decide_eq_true_eq] at ht
        exact ⟨p, q, WideElems.Trod_stays hl ht.1.1 ht.1.2 h1 (fun x hx => hb.same (hlt x (List.mem_append_left _ hx))) (fun x hx => hsp x (List.mem_append_left _ hx)),
          ih ht.2 h2 (fun x hx => hlt x (List.mem_append_right _ hx)) (fun x hx => hsp x (List.mem_append_right _ hx)), rfl⟩

/-- AN ARGUMENT OF BYTES. -/
theorem read_bytes {H : Type} {enc : TypeId × Value → H} {P : Program} {W : World} {r : Reach} {b0 : Nat} {sp : Nat → Bool} {held : Bool} {t e : TypeId} {v : Value} {d : DataW H} {ps : List MemPlace} (ht : P.underlying t = some (.slice e)) (he : P.underlying e = some (.int .u8)) (hc : P.cellsOf e = 1)
    (hval : Value.okWide P W r b0 t v) (hd : DataW.Trod enc P W 0 sp held t v d ps) : ∃ (vk : VK) (bs : List Nat), PRel W (fun b => b < W.heap.size) (.vs vk (bytesV bs)) v ∧ ∀ b, b ∈ bs → b < 256 := by
  obtain ⟨a0, l0, c0, rfl⟩ := WideShapes.okWide_slice ht hval
  obtain ⟨fuel, hf⟩ := hd
  rcases ChangeShapes.open_ints ht he hc hf with ⟨h, _⟩ | ⟨a, len, cap, zs, h, _, hl, _, hz, _, hcell, hwf⟩
  · simp [Value.cells] at h
    obtain ⟨rfl, rfl, rfl⟩ := h
    exact ⟨.nil, [], by simp [PRel, bytesV], by simp⟩
  · simp [Value.cells] at h
    obtain ⟨rfl, rfl, rfl⟩ := h
    have hlz : l0 ≤ zs.length := by rw [hz]; split <;> omega
    have hrange : ∀ n, n ∈ zs → 0 ≤ n ∧ n ≤ 255 := by
      intro n hn
      have := hwf n hn
      simp only [Lit.wf, Bool.and_eq_true, decide_eq_true_eq] at this
      have e1 : IntKind.u8.min = 0 := by rfl
      have e2 : IntKind.u8.max = 255 := by rfl
      rw [e1, e2] at this
      exact this
    let bs := (zs.take l0).map Int.toNat
    have hbl : bs.length = l0 := by simp [bs]; omega
    refine ⟨.some, bs, ?_, ?_⟩
    · simp only [PRel]
      refine .inr (.inr ⟨by first | rfl | trivial, a, c0, 1, by rw [bytesV_length, hbl], by rw [bytesV_length, hbl]; exact hl, ?_, ?_⟩)
      · intro hne
        have hl0 : 0 < zs.length := by
          rcases Nat.eq_zero_or_pos l0 with h0 | h0
          · exfalso; apply hne; apply List.eq_nil_of_length_eq_zero; rw [bytesV_length, hbl, h0]
          · omega
        have h0 := hcell 0 hl0
        simp only [Addr.add, if_true] at h0
        unfold World.cell? at h0
        split at h0
        · split at h0
          · cases h0
          · rename_i hs; simpa using hs
        · cases h0
      · rcases Nat.eq_zero_or_pos l0 with h0 | h0
        · have : bs = [] := by apply List.eq_nil_of_length_eq_zero; rw [hbl, h0]
          rw [this]; simp [bytesV, PRelE]
        · have hlt0 : 0 < zs.length := by omega
          have hc0 := hcell 0 hlt0
          have hspot : a.spot = none := by
            simp only [Addr.add, if_true] at hc0
            unfold World.cell? at hc0
            split at hc0
            · split at hc0
              · cases hc0
              · rename_i hs; simpa using hs
            · cases hc0
          have hblk : a.block < W.heap.size := by
            simp only [Addr.add, if_true] at hc0
            unfold World.cell? at hc0
            split at hc0
            · rename_i hb; exact (Array.getElem?_eq_some_iff.1 hb).1
            · cases hc0
          have hadd : ∀ j, a.add j = ⟨a.block, a.off + j, none⟩ := by
            intro j
            unfold Addr.add
            split
            · rename_i hj; subst hj; rw [Nat.add_zero, ← hspot]
            · rfl
          refine (mkElems_E (w := W) (ro := fun b => b < W.heap.size) (b := a.block) (sz := 1) (gz := false) hblk bs.length (bytesV bs) (bs.map fun (b : Nat) => Value.int .u8 b) (bytesV bs) a.off ?_ (by rw [bytesV_length, Nat.mul_one]) (mkElems_bytes bs) ?_).2
          · have := PRelL_ints W (fun b => b < W.heap.size) .u8 (bs.map fun (b : Nat) => (b : Int))
            simpa [bytesV, List.map_map, Function.comp_def] using this
          · intro j x hj
            have hjl : j < bs.length := by have := (List.getElem?_eq_some_iff.1 hj).1; simpa using this
            rw [← hadd j, hcell j (by omega)]
            rw [List.getElem?_map, List.getElem?_eq_getElem hjl] at hj
            simp only [Option.map_some, Option.some.injEq] at hj
            rw [← hj]
            have hjz : j < zs.length := by omega
            have e1 : zs.getD j 0 = zs[j] := by simp [List.getD, hjz]
            have e2 : bs[j] = (zs[j]).toNat := by simp [bs]
            have := hrange zs[j] (List.getElem_mem hjz)
            rw [e1, e2]
            congr 2
            omega
    · intro b hb
      simp only [bs, List.mem_map] at hb
      obtain ⟨n, hn, rfl⟩ := hb
      have := hrange n (List.mem_of_mem_take hn)
      omega

/-- BYTES, as cells. -/
theorem read_bytes_cells {H : Type} {enc : TypeId × Value → H} {P : Program} {W : World} {sp : Nat → Bool} {held : Bool} {t e : TypeId} {fuel : Nat} {cs : List Value} {x : DataW H × List MemPlace} (ht : P.underlying t = some (.slice e)) (he : P.underlying e = some (.int .u8)) (hc : P.cellsOf e = 1)
    (hf : DataW.trod enc P W 0 sp held fuel t cs = some x) : ∃ (v : Value) (vk : VK) (bs : List Nat), cs = [v] ∧ PRel W (fun b => b < W.heap.size) (.vs vk (bytesV bs)) v ∧ ∀ b, b ∈ bs → b < 256 := by
  rcases ChangeShapes.open_ints ht he hc hf with ⟨h, _⟩ | ⟨a, l0, c0, zs, h, _, hl, _, hz, _, hcell, hwf⟩
  · exact ⟨_, .nil, [], h, by simp [PRel, bytesV], by simp⟩
  · have hlz : l0 ≤ zs.length := by rw [hz]; split <;> omega
    have hrange : ∀ n, n ∈ zs → 0 ≤ n ∧ n ≤ 255 := by
      intro n hn
      have := hwf n hn
      simp only [Lit.wf, Bool.and_eq_true, decide_eq_true_eq] at this
      have e1 : IntKind.u8.min = 0 := by rfl
      have e2 : IntKind.u8.max = 255 := by rfl
      rw [e1, e2] at this
      exact this
    let bs := (zs.take l0).map Int.toNat
    have hbl : bs.length = l0 := by simp [bs]; omega
    refine ⟨_, .some, bs, h, ?_, ?_⟩
    · simp only [PRel]
      refine .inr (.inr ⟨by first | rfl | trivial, a, c0, 1, by rw [bytesV_length, hbl], by rw [bytesV_length, hbl]; exact hl, ?_, ?_⟩)
      · intro hne
        have hl0 : 0 < zs.length := by
          rcases Nat.eq_zero_or_pos l0 with h0 | h0
          · exfalso; apply hne; apply List.eq_nil_of_length_eq_zero; rw [bytesV_length, hbl, h0]
          · omega
        have h0 := hcell 0 hl0
        simp only [Addr.add, if_true] at h0
        unfold World.cell? at h0
        split at h0
        · split at h0
          · cases h0
          · rename_i hs; simpa using hs
        · cases h0
      · rcases Nat.eq_zero_or_pos l0 with h0 | h0
        · have : bs = [] := by apply List.eq_nil_of_length_eq_zero; rw [hbl, h0]
          rw [this]; simp [bytesV, PRelE]
        · have hlt0 : 0 < zs.length := by omega
          have hc0 := hcell 0 hlt0
          have hspot : a.spot = none := by
            simp only [Addr.add, if_true] at hc0
            unfold World.cell? at hc0
            split at hc0
            · split at hc0
              · cases hc0
              · rename_i hs; simpa using hs
            · cases hc0
          have hblk : a.block < W.heap.size := by
            simp only [Addr.add, if_true] at hc0
            unfold World.cell? at hc0
            split at hc0
            · rename_i hb; exact (Array.getElem?_eq_some_iff.1 hb).1
            · cases hc0
          have hadd : ∀ j, a.add j = ⟨a.block, a.off + j, none⟩ := by
            intro j
            unfold Addr.add
            split
            · rename_i hj; subst hj; rw [Nat.add_zero, ← hspot]
            · rfl
          refine (mkElems_E (w := W) (ro := fun b => b < W.heap.size) (b := a.block) (sz := 1) (gz := false) hblk bs.length (bytesV bs) (bs.map fun (b : Nat) => Value.int .u8 b) (bytesV bs) a.off ?_ (by rw [bytesV_length, Nat.mul_one]) (mkElems_bytes bs) ?_).2
          · have := PRelL_ints W (fun b => b < W.heap.size) .u8 (bs.map fun (b : Nat) => (b : Int))
            simpa [bytesV, List.map_map, Function.comp_def] using this
          · intro j x hj
            have hjl : j < bs.length := by have := (List.getElem?_eq_some_iff.1 hj).1; simpa using this
            rw [← hadd j, hcell j (by omega)]
            rw [List.getElem?_map, List.getElem?_eq_getElem hjl] at hj
            simp only [Option.map_some, Option.some.injEq] at hj
            rw [← hj]
            have hjz : j < zs.length := by omega
            have e1 : zs.getD j 0 = zs[j] := by simp [List.getD, hjz]
            have e2 : bs[j] = (zs[j]).toNat := by simp [bs]
            have := hrange zs[j] (List.getElem_mem hjz)
            rw [e1, e2]
            congr 2
            omega
    · intro b hb
      simp only [bs, List.mem_map] at hb
      obtain ⟨n, hn, rfl⟩ := hb
      have := hrange n (List.mem_of_mem_take hn)
      omega

/-- The fields of a struct: their types, and where they lie. -/
def sfields (P : Program) (t : TypeId) : Option (List (Nat × Nat)) := match P.underlying t with
  | some (.struct fs) => some (fs.toList.map fun f => (f.type, f.offset))
  | _ => none
theorem sfields_get {P : Program} {t : TypeId} {l : List (Nat × Nat)} (h : sfields P t = some l) : ∃ fs, P.underlying t = some (.struct fs) ∧ ∀ (i : Nat) (a : Nat × Nat), l[i]? = some a → ∃ f, fs[i]? = some f ∧ f.type = a.1 ∧ f.offset = a.2 := by
  unfold sfields at h
  split at h
  · rename_i fs hfs
    cases h
    refine ⟨fs, hfs, fun i a ha => ?_⟩
    rw [List.getElem?_map, Option.map_eq_some_iff] at ha
    obtain ⟨f, hf, rfl⟩ := ha
    exact ⟨f, by rw [← Array.getElem?_toList]; exact hf, rfl, rfl⟩
  · cases h

/-- AN ARGUMENT THAT IS A STRUCT OF THREE INTEGERS AND BYTES. -/
theorem read_chunk {H : Type} {enc : TypeId × Value → H} {P : Program} {W : World} {r : Reach} {b0 : Nat} {sp : Nat → Bool} {held : Bool} {t ti tb e : TypeId} {v : Value} {d : DataW H} {ps : List MemPlace}
    (hs : sfields P t = some [(ti, 0), (ti, 1), (ti, 2), (tb, 3)]) (hct : P.cellsOf t = 4) (hti : P.underlying ti = some (.int .i64)) (hci : P.cellsOf ti = 1) (htb : P.underlying tb = some (.slice e)) (hcb : P.cellsOf tb = 1) (he : P.underlying e = some (.int .u8)) (hce : P.cellsOf e = 1)
    (hval : Value.okWide P W r b0 t v) (hd : DataW.Trod enc P W 0 sp held t v d ps) : ∃ (name i of : Int) (vk : VK) (bs : List Nat), PRel W (fun b => b < W.heap.size) (.agg [.int .i64 name, .int .i64 i, .int .i64 of, .vs vk (bytesV bs)]) v ∧ ∀ b, b ∈ bs → b < 256 := by
  obtain ⟨fs, hfs, hget⟩ := sfields_get hs
  obtain ⟨cs, rfl, hsz⟩ := WideShapes.okWide_struct hfs hval
  obtain ⟨fuel, hf⟩ := hd
  simp only [Value.cells] at hf
  obtain ⟨xs, n, _, _, hlen, hxl, hel⟩ := DataW.trod_struct hfs hf
  have hfsz : ∀ i f, fs[i]? = some f → i < xs.length := by
    intro i f hf
    rw [hxl]
    exact (Array.getElem?_eq_some_iff.1 hf).1
  have fld : ∀ (i : Nat) (a : Nat × Nat), [(ti, 0), (ti, 1), (ti, 2), (tb, 3)][i]? = some a → ∃ x, DataW.trod enc P W 0 sp held n a.1 ((cs.toList.drop a.2).take (P.cellsOf a.1)) = some x := by
    intro i a ha
    obtain ⟨f, h1, h2, h3⟩ := hget i a ha
    have := hel i f h1
    rw [h2, h3, List.getElem?_eq_getElem (hfsz i f h1)] at this
    exact ⟨_, this⟩
  have hl4 : cs.toList.length = 4 := by rw [hlen, hct]
  match hcs : cs.toList, hl4 with
  | [c0, c1, c2, c3], _ =>
    obtain ⟨x0, f0⟩ := fld 0 (ti, 0) rfl
    obtain ⟨x1, f1⟩ := fld 1 (ti, 1) rfl
    obtain ⟨x2, f2⟩ := fld 2 (ti, 2) rfl
    obtain ⟨x3, f3⟩ := fld 3 (tb, 3) rfl
    simp only [hcs, hci, hcb, List.drop_zero, List.drop_succ_cons, List.take_succ_cons, List.take_zero] at f0 f1 f2 f3
    obtain ⟨n0, e0, _, _⟩ := DataW.trod_int hti f0
    obtain ⟨n1, e1, _, _⟩ := DataW.trod_int hti f1
    obtain ⟨n2, e2, _, _⟩ := DataW.trod_int hti f2
    obtain ⟨v3, vk, bs, e3, hp, hb⟩ := read_bytes_cells htb he hce f3
    simp only [List.cons.injEq, and_true] at e0 e1 e2 e3
    subst e0 e1 e2 e3
    refine ⟨n0, n1, n2, vk, bs, ?_, hb⟩
    have hcs' : cs = #[.int .i64 n0, .int .i64 n1, .int .i64 n2, c3] := by
      apply Array.ext'
      rw [hcs]
    rw [hcs']
    exact ⟨[.int .i64 n0, .int .i64 n1, .int .i64 n2, c3], rfl, _, _, rfl, rfl, _, _, rfl, rfl, _, _, rfl, rfl, _, _, rfl, hp, rfl⟩

end Go.Proofs.YtjckhhkhgjbpaaaGreatDoor.Pale
