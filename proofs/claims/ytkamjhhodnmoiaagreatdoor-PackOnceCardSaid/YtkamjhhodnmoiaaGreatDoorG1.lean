/- pack.Add: what it gives. -/
import Derived.Test.YtkamjhhodnmoiaaGreatDoorF9
import Derived.Test.YtkamjhhodnmoiaaGreatDoorG0
set_option maxRecDepth 100000
set_option linter.unusedSimpArgs false
set_option linter.unusedVariables false
namespace Go.Proofs.YtkamjhhodnmoiaaGreatDoor
open Go Go.Proofs.YtkamjhhodnmoiaaGreatDoor.Pale
variable {k : Nat} {σ : AMem}

def partsOf (data : List Part) (a : Nat) (d : List Nat) : List Part := match data[a]? with
  | some p => if p.2.length = 0 then data.set a (.some, d) else data
  | none => data
def addL (shs : List Sh) (n : Int) (of a : Nat) (d : List Nat) : List Sh × List Nat := match (findL shs n of).1[(findL shs n of).2.toNat]? with
  | some s => if (partsOf s.data a d).any emptyQ then ((findL shs n of).1.set (findL shs n of).2.toNat { s with data := partsOf s.data a d }, []) else ((findL shs n of).1.eraseIdx (findL shs n of).2.toNat, catL (partsOf s.data a d))
  | none => ([], [])
def dkS (s : Sh) : Sh := { s with dk := .some }

theorem idxI_ge {p : AVal → Bool} : ∀ {l : List AVal}, idxI p l ≥ 0 → ∃ i, ∃ hi : i < l.length, idxI p l = (i : Int) ∧ p l[i] = true := by
  intro l
  induction l with
  | nil => intro h; simp [idxI] at h
  | cons x l ih =>
    intro h
    cases hx : p x with
    | true => exact ⟨0, by simp, by simp [idxI, hx], by simpa using hx⟩
    | false =>
      simp only [idxI, hx, Bool.false_eq_true, if_false] at h ⊢
      by_cases h0 : idxI p l < 0
      · rw [if_pos h0] at h; omega
      · obtain ⟨i, hi, h1, h2⟩ := ih (by omega)
        exact ⟨i + 1, by simpa using hi, by rw [if_neg h0, h1]; omega, by simpa using h2⟩
theorem keepS_len {n : Int} {of : Nat} {s : Sh} (h : keepS n of s = true) (h2 : (s.name == n) = true) : s.data.length = of := by
  unfold keepS at h
  simpa [h2] using h
/-- What find finds. -/
theorem find_spec (shs : List Sh) (n : Int) (of : Nat) : ∃ i, ∃ hi : i < (findL shs n of).1.length, (findL shs n of).2 = ((i : Nat) : Int) ∧ (findL shs n of).1[i].name = n ∧ (findL shs n of).1[i].data.length = of := by
  unfold findL
  split
  · rename_i hp
    obtain ⟨i, hi, h1, h2⟩ := idxI_ge hp
    rw [List.length_map] at hi
    rw [List.getElem_map, sameName_sh] at h2
    have hk := (List.mem_filter.1 (List.getElem_mem hi)).2
    refine ⟨i, hi, h1, by simpa using h2, ?_⟩
    exact keepS_len hk h2
  · split
    · rename_i hp h4
      generalize shs.filter (keepS n of) = F at *
      refine ⟨F.length - 1, by simp; omega, by simp only; omega, ?_, ?_⟩
      · simp only [List.getElem_drop]
        rw [List.getElem_append_right (by omega)]
        simp [newSh]
      · simp only [List.getElem_drop]
        rw [List.getElem_append_right (by omega)]
        simp [newSh]
    · generalize shs.filter (keepS n of) = F at *
      refine ⟨F.length, by simp, rfl, ?_, ?_⟩
      · rw [List.getElem_append_right (by omega)]; simp [newSh]
      · rw [List.getElem_append_right (by omega)]; simp [newSh]
theorem find_len (shs : List Sh) (n : Int) (of : Nat) : (findL shs n of).1.length ≤ shs.length + 1 := by
  have := List.length_filter_le (keepS n of) shs
  unfold findL
  split
  · simp only; omega
  · split
    · simp only [List.length_drop, List.length_append, List.length_singleton]; omega
    · simp only [List.length_append, List.length_singleton]; omega
theorem drop_set' {α : Type} (l : List α) (o i : Nat) (v : α) : (l.set (o + i) v).drop o = (l.drop o).set i v := by
  apply List.ext_getElem?
  intro m
  rw [List.getElem?_drop, List.getElem?_set, List.getElem?_set, List.length_drop, List.getElem?_drop]
  by_cases h : i = m
  · subst h
    simp only [if_true]
    by_cases h2 : o + i < l.length
    · rw [if_pos h2, if_pos (by omega)]
    · rw [if_neg h2, if_neg (by omega)]
  · rw [if_neg (by omega), if_neg h]
theorem drop_erase' {α : Type} (l : List α) (o i : Nat) (h : o + i < l.length) : (l.eraseIdx (o + i)).drop o = (l.drop o).eraseIdx i := by
  rw [List.eraseIdx_eq_take_drop_succ, List.eraseIdx_eq_take_drop_succ, List.drop_append_of_le_length (by rw [List.length_take]; omega), List.drop_take, List.drop_drop, Nat.add_sub_cancel_left, Nat.add_assoc]
theorem map_erase' {α β : Type} (f : α → β) (l : List α) (i : Nat) : (l.eraseIdx i).map f = (l.map f).eraseIdx i := by
  rw [List.eraseIdx_eq_take_drop_succ, List.eraseIdx_eq_take_drop_succ, List.map_append, List.map_take, List.map_drop]
theorem val_item (x : SR) : (itemR x).val = shV (dkS x.1) := rfl
/-- How a sorter in memory reads. -/
theorem SrtAt.snap {low q r o n : Nat} {l : List SR} {zs : List AVal} (d : Nat) (h : SrtAt low σ q r o l zs) (hn : o + n = l.length) : ∃ S, snapF false σ (d + 4) (.agg [.slice r (o * 2) n none 2]) = some (.agg [.vs .some (((l.drop o).map (·.1)).map fun s => shV (dkS s))], S) := by
  obtain ⟨S, hs⟩ := Items.snap (σ := σ) (n := n) (i := o) (cap := none) (sz := 2) d h.items (by decide) (fun a ha => by
    obtain ⟨x, _, rfl⟩ := List.mem_map.1 ha
    rfl) (by rw [List.map_map]; exact h.row) (by rw [List.length_map]; exact hn)
  refine ⟨S ++ [], ?_⟩
  show (snapL (snapF false σ (d + 3)) [.slice r (o * 2) n none 2]).map (fun (l, a) => (AVal.agg l, a)) = _
  simp only [snapL, hs, Option.map_some]
  rw [← List.map_drop, List.map_map, List.map_map]
  rfl
/-- All parts of what is found are short. -/
theorem find_parts {shs : List Sh} (n : Int) (of : Nat) (P : Part → Prop) (h0 : P (.nil, [])) (h : ∀ s, s ∈ shs → ∀ p, p ∈ s.data → P p) : ∀ s, s ∈ (findL shs n of).1 → ∀ p, p ∈ s.data → P p := by
  have hF : ∀ s, s ∈ shs.filter (keepS n of) → ∀ p, p ∈ s.data → P p := fun s hs => h s (List.mem_filter.1 hs).1
  have hN : ∀ s, s ∈ shs.filter (keepS n of) ++ [newSh n of] → ∀ p, p ∈ s.data → P p := fun s hs p hp => by
    rcases List.mem_append.1 hs with hs | hs
    · exact hF s hs p hp
    · simp only [List.mem_singleton] at hs
      subst hs
      rw [List.eq_of_mem_replicate hp]
      exact h0
  unfold findL
  split
  · exact hF
  · split
    · exact fun s hs => hN s (List.mem_of_mem_drop hs)
    · exact hN

theorem tuple_three' {σ : AMem} {d : Nat} {x y z v w u : AVal} {s1 s2 s3 : List Nat} (h1 : snapF false σ d x = some (v, s1)) (h2 : snapF false σ d y = some (w, s2)) (h3 : snapF false σ d z = some (u, s3)) : snapF false σ (d + 1) (packA [x, y, z]) = some (.tuple [v, w, u], s1 ++ (s2 ++ (s3 ++ []))) := by
  show (snapL (snapF false σ d) [x, y, z]).map (fun (l, a) => (AVal.tuple l, a)) = _
  simp only [snapL, h1, h2, h3, Option.map_some]
theorem set_same' {α β : Type} (f : α → β) {l : List α} {i : Nat} {x : α} (hi : i < l.length) (h : f x = f l[i]) : (l.set i x).map f = l.map f := by
  apply List.ext_getElem (by simp)
  intro n h1 h2
  simp only [List.getElem_map, List.getElem_set]
  split
  · rename_i e; subst e; exact h
  · rfl
theorem nv5 : lawProg.isVal 68 30 = false := nv1
theorem hasEmpty_mem {r n : Nat} {cap : Option Nat} (l : List Part) (hn : n = l.length) (hr : σ.get r = some (.row 1 false (l.map partV))) (hrn : r < σ.next) (hl : l.length ≤ 1000) (hk : 2000 ≤ k) : ∃ σ', callN lawProg k (.func 32 [] []) [.slice r 0 n cap 1, .func 30 [] []] σ = some (.bool (l.any emptyQ), σ') ∧ Ext σ σ' := by
  obtain ⟨k, rfl⟩ : ∃ m, k = m + 2 := ⟨k - 2, by omega⟩
  have := part_has_m (k := k) (σ := σ) (r := r) (off := 0) (n := n) (cap := cap) (cells := l.map partV) (l.map partV) (by rw [List.length_map]; exact hn) hr hrn (fun i hi => by rw [Nat.zero_add, List.getElem?_eq_getElem hi]) 30 [] emptyP (by simp; omega) (fun _ => nv1) (fun e he σ' hx => by
    obtain ⟨vk, es, rfl⟩ := parts_form l e he
    exact ⟨σ', isEmpty_callN vk es (by omega), Ext.refl _⟩) (by simp; omega)
  rw [any_empty] at this
  exact this

theorem catL_ne {ps : List Part} (h0 : 0 < ps.length) (h : ps.any emptyQ = false) : catL ps ≠ [] := by
  cases ps with
  | nil => simp at h0
  | cons p ps =>
    intro e
    simp only [catL, List.flatMap_cons, List.append_eq_nil_iff] at e
    simp [emptyQ, e.1] at h
theorem catL_bound (ps : List Part) (m : Nat) (h : ∀ p, p ∈ ps → p.2.length ≤ m) : (catL ps).length ≤ ps.length * m := by
  induction ps with
  | nil => simp [catL]
  | cons p ps ih =>
    have h1 := h p (by simp)
    have h2 := ih fun x hx => h x (by simp [hx])
    simp only [catL, List.flatMap_cons, List.length_append, List.length_cons, Nat.succ_mul] at h2 ⊢
    omega
theorem erase_set {α : Type} (l : List α) (i : Nat) (x : α) : (l.set i x).eraseIdx i = l.eraseIdx i := by
  induction l generalizing i with
  | nil => rfl
  | cons y l ih =>
    cases i with
    | zero => rfl
    | succ i => simp only [List.set_cons_succ, List.eraseIdx_cons_succ, ih]

theorem add_call (lk : VK) (shs : List Sh) (n : Int) (a of : Nat) (d : List Nat) (hs : SorterOk shs) (hv : ∀ s, s ∈ shs → ∀ p, p ∈ s.data → p.1 = .some) (hc : OkC n a of d) (hk : 5000 ≤ k) :
    pureCall lawProg (callN lawProg k) (.func 9 [] []) [.agg [.vs lk (shs.map shV)], .agg [.int .i64 n, .int .i64 (a : Nat), .int .i64 (of : Nat), .vs .some (bytesV d)]] σ = some (.tuple [.agg [.vs .some ((addL shs n of a d).1.map fun s => shV (dkS s))], if (addL shs n of a d).2 = [] then .vs .nil [] else .vs .some (bytesV (addL shs n of a d).2), .int .i64 0], σ) := by
  obtain ⟨k, rfl⟩ : ∃ m, k = m + 1 := ⟨k - 1, by omega⟩
  obtain ⟨⟨c1, c2⟩, ⟨c3, c4⟩, c5, ⟨c6, c7⟩⟩ := id hc
  obtain ⟨s1, s2, s3⟩ := id hs
  have hsh : ∀ s, s ∈ shs → 0 < s.data.length ∧ s.data.length ≤ 200 ∧ ∀ p, p ∈ s.data → p.2.length ≤ 100 := fun s h => by
    have := (sheafB_eq s).1 (s3 s h)
    exact ⟨by omega, this.2.1, this.2.2.2.2⟩
  obtain ⟨E, hck, hck0, _⟩ := checkSorter_call (k := k) lk shs (by omega) (fun s h => by have := hsh s h; omega) (by omega)
  rw [hck0 hs] at hck
  have hic := fun (σ : AMem) => isChunk_call (k := k) (σ := σ) (x := .agg [.int .i64 n, .int .i64 (a : Nat), .int .i64 (of : Nat), .vs .some (bytesV d)]) (seen := []) (name := n) (i := (a : Nat)) (of := (of : Nat)) (vk := .some) (d := d) rfl (by omega)
  simp only [decide_eq_true hc] at hic
  let σ0 : AMem := ((AMem.empty.push (.row 1 true [.vs lk (shs.map shV)])).push (.row 4 true [.int .i64 n, .int .i64 (a : Nat), .int .i64 (of : Nat), .vs .some (bytesV d)])).push (.row 1 true [.vs .nil []])
  obtain ⟨q, out, l, σ1, o1, o2, o3, o4, o5, o6, o7⟩ := open_callN (k := k) (σ := σ0) lk shs (by omega) (fun s h => ⟨(hsh s h).1, by have := (hsh s h).2.1; omega, fun p hp => ⟨hv s h p hp, by have := (hsh s h).2.2 p hp; omega⟩⟩) (by omega)
  have hn0 : σ0.next = 3 := rfl
  rw [hn0] at o3 o6
  have hll : l.length = shs.length := by rw [← o7, List.length_map]
  have g0 : σ1.get 0 = some (.row 1 true [.vs lk (shs.map shV)]) := by rw [o2.2 0 (by omega)]; rfl
  have g1 : σ1.get 1 = some (.row 4 true [.int .i64 n, .int .i64 (a : Nat), .int .i64 (of : Nat), .vs .some (bytesV d)]) := by rw [o2.2 1 (by omega)]; simp only [σ0, AMem.get_push, AMem.next_push, next_empty, Nat.reduceAdd, Nat.reduceEqDiff, reduceIte]
  have g2 : σ1.get 2 = some (.row 1 true [.vs .nil []]) := by rw [o2.2 2 (by omega)]; simp only [σ0, AMem.get_push, AMem.next_push, next_empty, Nat.reduceAdd, Nat.reduceEqDiff, reduceIte]
  obtain ⟨r, o, l', zs, σ2, f1, f2, f3, f4, f5, f6, f7⟩ := find_callN (k := k) (σ := σ1) n (a : Nat) of (.vs .some (bytesV d)) rfl (by omega) o5 o4 o3 o6 (by omega) (by omega)
  rw [o7] at f1 f6
  obtain ⟨i, hi, hi2, hnm, hlen⟩ := find_spec shs n of
  have hfl : ∀ s, s ∈ (findL shs n of).1 → ∀ p, p ∈ s.data → p.2.length ≤ 100 := find_parts n of (fun p => p.2.length ≤ 100) (by simp) (fun s h p hp => (hsh s h).2.2 p hp)
  rw [hi2] at f1
  unfold addL
  rw [hi2]
  simp only [Int.toNat_natCast, List.getElem?_eq_getElem hi]
  have hol : o ≤ l'.length := f5.le
  have hij : o + i < l'.length := by
    have := congrArg List.length f6
    rw [List.length_map, List.length_drop] at this
    omega
  have hmi : (l'.length - o) = (findL shs n of).1.length := by rw [← f6, List.length_map, List.length_drop]
  have hel : (findL shs n of).1[i] = l'[o + i].1 := by
    simp only [← f6, List.getElem_map, List.getElem_drop]
  have hfl' := hfl _ (List.getElem_mem hi)
  rw [hel] at hlen hnm hfl' ⊢
  generalize hx : l'[o + i] = x at *
  obtain ⟨xs, rd, cap⟩ := x
  simp only at hlen hnm hfl' ⊢
  -- the row of its parts
  have hmemI : itemR l'[o + i] ∈ l'.map itemR := List.mem_map.2 ⟨_, List.getElem_mem hij, rfl⟩
  obtain ⟨_, _, hxx⟩ := f5.items.1 _ hmemI
  rw [hx] at hxx hmemI
  have hrow : 3 ≤ rd ∧ rd < σ2.next ∧ σ2.get rd = some (.row 1 false (xs.data.map partV)) := by
    rcases hxx with ⟨kk, hk1⟩ | ⟨r1, c1, e1, e2, e3, e4⟩
    · cases hk1
    · simp only [itemR, itemOf, AVal.slice.injEq] at e1
      obtain ⟨rfl, _⟩ := e1
      exact ⟨e2, e3, e4⟩
  obtain ⟨rd1, rd2, rd3⟩ := hrow
  have hrdr : ¬ r = rd := fun e => f5.rl (e ▸ (List.mem_map.2 ⟨_, List.getElem_mem hij, by rw [hx]⟩))
  have hrdq : ¬ q = rd := fun e => f5.items.2.2 (by
    rw [show rowsOf (l'.map itemR) = l'.map fun x => x.2.1 from rowsOf_items l', e]
    exact List.mem_map.2 ⟨_, List.getElem_mem hij, by rw [hx]⟩)
  have hcell : ((cellsR l').flatten ++ zs)[o * 2 + i * 2 + 1]? = some (.slice rd 0 xs.data.length cap 1) := by
    have := flat_get (more := zs) (j := 1) (i := o + i) (cellsR_two l') (by simpa [cellsR] using hij) (by omega)
    rw [show o * 2 + i * 2 + 1 = (o + i) * 2 + 1 by omega, this]
    simp only [cellsR, List.getElem_map, hx]
    rfl
  have ha : a < xs.data.length := by omega
  have hilt : (i : Int) < ((l'.length - o : Nat) : Int) := by omega
  have halt : (a : Int) < ((xs.data.length : Nat) : Int) := by omega
  have hfn := find_len shs n of
  have hw := i64_succ (i := i) (by omega)
  have k0 : σ2.get 0 = some (.row 1 true [.vs lk (shs.map shV)]) := (f3 0 (by omega)).trans g0
  have k1 : σ2.get 1 = some (.row 4 true [.int .i64 n, .int .i64 (a : Nat), .int .i64 (of : Nat), .vs .some (bytesV d)]) := (f3 1 (by omega)).trans g1
  have k2 : σ2.get 2 = some (.row 1 true [.vs .nil []]) := (f3 2 (by omega)).trans g2
  have hq3 : 3 ≤ q := o3
  have hr3 : 3 ≤ r := f5.lo
  have hqn2 : q < σ2.next := by omega
  have hclone := fun (σ : AMem) => clone_call (k := k) (σ := σ) d .some (by decide) (by omega) (by omega)
  have hsetp : (xs.data.map partV).set a (.vs .some (bytesV d)) = (xs.data.set a (.some, d)).map partV := by rw [List.map_set]; rfl
  have hal2 : a + 1 ≤ xs.data.length := by omega
  have q1 : ¬ q = 0 := by omega
  have q2 : ¬ q = 1 := by omega
  have q3 : ¬ q = 2 := by omega
  have q4 : ¬ rd = 0 := by omega
  have q5 : ¬ rd = 1 := by omega
  have q6 : ¬ rd = 2 := by omega
  have q7 : ¬ rd = q := fun e => hrdq e.symm
  have q8 : ¬ rd = r := fun e => hrdr e.symm
  have q9 : ¬ 2 = q := by omega
  simp only [σ0] at o1
  -- the memory with the part
  obtain ⟨ps, hps, σ3, hst, hst2, hrow3, hat3, n3, fr3⟩ : ∃ ps, ps = partsOf xs.data a d ∧ ∃ σ3 : AMem, ((emptyQ xs.data[a] = true → σ3 = σ2.put rd (.row 1 false ((xs.data.set a (.some, d)).map partV)))) ∧ (emptyQ xs.data[a] = false → σ3 = σ2) ∧ σ3.get rd = some (.row 1 false (ps.map partV)) ∧ SrtAt 3 σ3 q r o (l'.set (o + i) ({ xs with data := ps }, rd, cap)) zs ∧ σ3.next = σ2.next ∧ ∀ s, s ≠ rd → σ3.get s = σ2.get s := by
    have hlenp : (xs.data.set a (.some, d)).length = xs.data.length := by rw [List.length_set]
    cases he : emptyQ xs.data[a] with
    | true =>
      have h0 : xs.data[a].2.length = 0 := by unfold emptyQ at he; simpa using he
      refine ⟨xs.data.set a (.some, d), ?_, σ2.put rd (.row 1 false ((xs.data.set a (.some, d)).map partV)), fun _ => rfl, (fun h => by cases h), by rw [AMem.get_put, if_pos rfl], ?_, by simp, fun s hs => by rw [AMem.get_put, if_neg (Ne.symm hs)]⟩
      · unfold partsOf
        rw [List.getElem?_eq_getElem ha]
        simp only [h0, if_true]
      · have hcs : cellsR (l'.set (o + i) ({ xs with data := xs.data.set a (.some, d) }, rd, cap)) = cellsR l' := by
          unfold cellsR
          exact set_same' _ hij (by rw [hx]; simp only [itemR, itemOf, MItem.cells, hlenp])
        have hrs : (l'.set (o + i) ({ xs with data := xs.data.set a (.some, d) }, rd, cap)).map (fun x => x.2.1) = l'.map fun x => x.2.1 := set_same' _ hij (by rw [hx])
        have hpk := Items.poke (l := l'.map itemR) (i := o + i) (j := a) (r := rd) (cap := cap) (v := .vs .some (bytesV d)) f5.items (by simpa using hij) (by rw [List.getElem_map, hx]; simp only [itemR, itemOf, List.length_map]) rfl
        have hinn : (l'.map itemR)[o + i]'(by simpa using hij) = itemOf xs rd cap := by rw [List.getElem_map, hx]; rfl
        rw [hinn] at hpk
        have hset2 : (l'.set (o + i) ({ xs with data := xs.data.set a (.some, d) }, rd, cap)).map itemR = (l'.map itemR).set (o + i) { itemOf xs rd cap with inn := (itemOf xs rd cap).inn.set a (.vs .some (bytesV d)) } := by
          rw [List.map_set]
          congr 1
          simp only [itemR, itemOf, hlenp, ← hsetp]
        refine ⟨by rw [hcs, AMem.get_put, if_neg q8]; exact f5.row, ?_, f5.rq, by rw [hrs]; exact f5.rl, f5.lo, by simpa using f5.hi, f5.zl, by rw [List.length_set]; exact f5.le⟩
        rw [hset2, ← hsetp]
        exact hpk
    | false =>
      have h0 : ¬ xs.data[a].2.length = 0 := by unfold emptyQ at he; simpa using he
      refine ⟨xs.data, ?_, σ2, (fun h => by cases h), fun _ => rfl, rd3, ?_, rfl, fun _ _ => rfl⟩
      · unfold partsOf
        rw [List.getElem?_eq_getElem ha]
        simp only [h0, if_false]
      · rw [show (({ xs with data := xs.data } : Sh), rd, cap) = l'[o + i] from hx.symm, List.set_getElem_self]
        exact f5
  rw [← hps]
  have hpl : ps.length = xs.data.length := by
    rw [hps]; unfold partsOf
    split
    · split
      · rw [List.length_set]
      · rfl
    · rfl
  have hpd : ∀ p, p ∈ ps → p.2.length ≤ 100 := by
    intro p hp
    rw [hps] at hp
    unfold partsOf at hp
    split at hp
    · split at hp
      · rcases List.mem_or_eq_of_mem_set hp with h | rfl
        · exact hfl' p h
        · exact (by omega : d.length ≤ 100)
      · exact hfl' p hp
    · exact hfl' p hp
  obtain ⟨σ4, e4, x4⟩ := hasEmpty_mem (k := k) (σ := σ3) (cap := cap) (n := xs.data.length) ps hpl.symm hrow3 (by omega) (by omega) (by omega)
  have n4 : σ2.next ≤ σ4.next := by have := x4.1; omega
  have k4 : ∀ s, s < σ2.next → s ≠ rd → σ4.get s = σ2.get s := fun s h1 h2 => by rw [x4.2 s (by omega), fr3 s h2]
  have k40 : σ4.get 0 = some (.row 1 true [.vs lk (shs.map shV)]) := (k4 0 (by omega) (Ne.symm q4)).trans k0
  have k41 : σ4.get 1 = some (.row 4 true [.int .i64 n, .int .i64 (a : Nat), .int .i64 (of : Nat), .vs .some (bytesV d)]) := (k4 1 (by omega) (Ne.symm q5)).trans k1
  have k42 : σ4.get 2 = some (.row 1 true [.vs .nil []]) := (k4 2 (by omega) (Ne.symm q6)).trans k2
  have k4q : σ4.get q = some (.row 1 true [.slice r (o * 2) (l'.length - o) none 2]) := (k4 q hqn2 (by omega)).trans f4
  have hat4 : SrtAt 3 σ4 q r o (l'.set (o + i) ({ xs with data := ps }, rd, cap)) zs := hat3.same x4.1 fun s _ h2 _ => x4.2 s h2
  have hrow4 : σ4.get rd = some (.row 1 false (ps.map partV)) := (x4.2 rd (by omega)).trans hrow3
  have hLn : (l'.set (o + i) ({ xs with data := ps }, rd, cap)).length = l'.length := by rw [List.length_set]
  have hfst : ((l'.set (o + i) ({ xs with data := ps }, rd, cap)).drop o).map (·.1) = (findL shs n of).1.set i { xs with data := ps } := by
    rw [drop_set', List.map_set, f6]
  have hres : ∀ (y z : AVal), resultsA lawProg (((((Tr.nil : Tr AVal).set 4 (.ptr 2 0)).set 5 y).set 6 (.int .i64 0))) σ4 [] = some [] := fun _ _ => rfl
  have hnil : ∀ σ : AMem, snapF false σ 11 (.vs .nil []) = some (.vs .nil [], []) := fun σ => rfl
  have hint : ∀ σ : AMem, snapF false σ 11 (.int .i64 0) = some (.int .i64 0, []) := fun σ => rfl
  have fin : ∀ {T1 : Tr AVal} {σ5 : AMem} {x y : AVal} {v w : AVal} {s1 s2 : List Nat}, execC lawProg (callN lawProg k) k 9 73 (bodyOf Tryz.f9) (initT 0 [.agg [.vs lk (shs.map shV)], .agg [.int .i64 n, .int .i64 (a : Nat), .int .i64 (of : Nat), .vs .some (bytesV d)]] .nil) AMem.empty = some (.ret, T1, σ5) → resultsA lawProg T1 σ5 Tryz.f9.results.toList = some [x, y, .int .i64 0] → snapF false σ5 11 x = some (v, s1) → snapF false σ5 11 y = some (w, s2) →
      pureCall lawProg (callN lawProg (k + 1)) (.func 9 [] []) [.agg [.vs lk (shs.map shV)], .agg [.int .i64 n, .int .i64 (a : Nat), .int .i64 (of : Nat), .vs .some (bytesV d)]] σ = some (.tuple [v, w, .int .i64 0], σ) := by
    intro T1 σ5 x y v w s1 s2 h1 h2 h3 h4
    obtain ⟨b, h⟩ := pureRun_any (seen := s1 ++ (s2 ++ ([] ++ []))) fn9 rfl (by simp [Tryz.f9]) h1 (by simp) h2 (tuple_three' (d := 11) h3 h4 (hint _))
    exact pureCall_of0 rfl (memo9 _) h
  by_cases hany : ps.any emptyQ = true
  · rw [if_pos hany]
    rw [hany] at e4
    rw [if_pos rfl]
    obtain ⟨S, hsn⟩ := SrtAt.snap (σ := σ4.put 2 (.row 1 true [.slice r (o * 2) (l'.length - o) none 2])) 7 (hat4.same (by simp) fun s h1 _ _ => by rw [AMem.get_put, if_neg (by omega)]) (n := l'.length - o) (by rw [hLn]; omega)
    rw [hfst] at hsn
    have e : ∃ T1, execC lawProg (callN lawProg k) k 9 73 (bodyOf Tryz.f9) (initT 0 [.agg [.vs lk (shs.map shV)], .agg [.int .i64 n, .int .i64 (a : Nat), .int .i64 (of : Nat), .vs .some (bytesV d)]] .nil) AMem.empty = some (.ret, T1, σ4.put 2 (.row 1 true [.slice r (o * 2) (l'.length - o) none 2])) ∧ resultsA lawProg T1 (σ4.put 2 (.row 1 true [.slice r (o * 2) (l'.length - o) none 2])) Tryz.f9.results.toList = some [.agg [.slice r (o * 2) (l'.length - o) none 2], .vs .nil [], .int .i64 0] := by
      cases he : emptyQ xs.data[a] with
      | true =>
        have h3 := hst he
        subst h3
        have hem : ∀ σ : AMem, callN lawProg k (.func 30 [] []) [.vs xs.data[a].1 (bytesV xs.data[a].2)] σ = some (.bool true, σ) := fun σ => by
          have := isEmpty_callN (k := k) (σ := σ) xs.data[a].1 (bytesV xs.data[a].2) (by omega)
          rw [show emptyP (.vs xs.data[a].1 (bytesV xs.data[a].2)) = emptyQ xs.data[a] from emptyP_part _, he] at this
          exact this
        simp only [bodyOf, Tryz.f9, Option.getD_some, initT, runOps, runD, again, step1, wantA, opSem, evalO, evalL, evalOpt, evalParts, putA, ofConst, ofScalar, ofScalars, abin, abinInt, aun, convA, builtinA, oneTy, elemTy, loadA, storeA, storeCellsA, setAt, partA, fillA, placesA, isFn, TyI.isAgg, isSeq, isNum, sliceA, boundA, setParams, minL, minF, maxL, maxF, repZ, reduceIte, Nat.reduceLT, Nat.reduceLeDiff, Nat.reduceEqDiff, Nat.reduceAdd, Nat.reduceMul, Nat.reduceSub, Nat.reduceBEq, Int.reduceEq, Int.reduceLT, Int.reduceLE, Int.reduceToNat, reduceCtorEq, sx, fx9, hck, hic, bne_self_eq_false, o1, g0, g1, g2, f1, f4, f5.row, hcell, rd3, k0, k1, k2, hilt, halt, Int.natCast_nonneg, Int.toNat_natCast, part_get ha, hem, hclone, List.length_map, hsetp, hal2, hrdr, hrdq, q1, q2, q3, q4, q5, q6, q7, q8, q9, e4, k40, k41, k42, k4q]
        exact ⟨_, rfl, by simp only [Tryz.f9, resultsA, resultA, runOps, runD, again, step1, wantA, opSem, evalO, evalL, evalOpt, evalParts, putA, ofConst, ofScalar, ofScalars, abin, abinInt, aun, convA, builtinA, oneTy, elemTy, loadA, storeA, storeCellsA, setAt, partA, fillA, placesA, isFn, TyI.isAgg, isSeq, isNum, sliceA, boundA, setParams, minL, minF, maxL, maxF, repZ, reduceIte, Nat.reduceLT, Nat.reduceLeDiff, Nat.reduceEqDiff, Nat.reduceAdd, Nat.reduceMul, Nat.reduceSub, Nat.reduceBEq, Int.reduceEq, Int.reduceLT, Int.reduceLE, Int.reduceToNat, reduceCtorEq, sx, fx9]⟩
      | false =>
        have h3 := hst2 he
        subst h3
        have hem : ∀ σ : AMem, callN lawProg k (.func 30 [] []) [.vs xs.data[a].1 (bytesV xs.data[a].2)] σ = some (.bool false, σ) := fun σ => by
          have := isEmpty_callN (k := k) (σ := σ) xs.data[a].1 (bytesV xs.data[a].2) (by omega)
          rw [show emptyP (.vs xs.data[a].1 (bytesV xs.data[a].2)) = emptyQ xs.data[a] from emptyP_part _, he] at this
          exact this
        simp only [bodyOf, Tryz.f9, Option.getD_some, initT, runOps, runD, again, step1, wantA, opSem, evalO, evalL, evalOpt, evalParts, putA, ofConst, ofScalar, ofScalars, abin, abinInt, aun, convA, builtinA, oneTy, elemTy, loadA, storeA, storeCellsA, setAt, partA, fillA, placesA, isFn, TyI.isAgg, isSeq, isNum, sliceA, boundA, setParams, minL, minF, maxL, maxF, repZ, reduceIte, Nat.reduceLT, Nat.reduceLeDiff, Nat.reduceEqDiff, Nat.reduceAdd, Nat.reduceMul, Nat.reduceSub, Nat.reduceBEq, Int.reduceEq, Int.reduceLT, Int.reduceLE, Int.reduceToNat, reduceCtorEq, sx, fx9, hck, hic, bne_self_eq_false, o1, g0, g1, g2, f1, f4, f5.row, hcell, rd3, k0, k1, k2, hilt, halt, Int.natCast_nonneg, Int.toNat_natCast, part_get ha, hem, hclone, List.length_map, hsetp, hal2, hrdr, hrdq, q1, q2, q3, q4, q5, q6, q7, q8, q9, e4, k40, k41, k42, k4q]
        exact ⟨_, rfl, by simp only [Tryz.f9, resultsA, resultA, runOps, runD, again, step1, wantA, opSem, evalO, evalL, evalOpt, evalParts, putA, ofConst, ofScalar, ofScalars, abin, abinInt, aun, convA, builtinA, oneTy, elemTy, loadA, storeA, storeCellsA, setAt, partA, fillA, placesA, isFn, TyI.isAgg, isSeq, isNum, sliceA, boundA, setParams, minL, minF, maxL, maxF, repZ, reduceIte, Nat.reduceLT, Nat.reduceLeDiff, Nat.reduceEqDiff, Nat.reduceAdd, Nat.reduceMul, Nat.reduceSub, Nat.reduceBEq, Int.reduceEq, Int.reduceLT, Int.reduceLE, Int.reduceToNat, reduceCtorEq, sx, fx9]⟩
    obtain ⟨T1, e1, e2⟩ := e
    exact fin e1 e2 hsn (hnil _)
  · rw [if_neg hany]
    have hanyF : ps.any emptyQ = false := by simpa using hany
    rw [hanyF] at e4
    have hne : catL ps ≠ [] := catL_ne (by omega) hanyF
    rw [if_neg hne]
    have hcl := catL_bound ps 100 hpd
    have hcl0 : 0 < (catL ps).length := by
      rcases Nat.eq_zero_or_pos (catL ps).length with h | h
      · exact absurd (List.length_eq_zero_iff.1 h) hne
      · exact h
    have hcl2 : (catL ps).length ≤ 100000 := by
      have : ps.length * 100 ≤ 200 * 100 := Nat.mul_le_mul_right _ (by omega)
      omega
    obtain ⟨σ5, zs5, d1, d2, d3, d4⟩ := deleteSh_callN (k := k) (i := i) hat4 (by rw [hLn]; exact hij) (by rw [hLn]; omega) (by omega)
    rw [hLn] at d1
    have hLe : ((l'.set (o + i) ({ xs with data := ps }, rd, cap)).eraseIdx (o + i)).length = l'.length - 1 := by rw [List.length_eraseIdx, if_pos (by rw [hLn]; exact hij), hLn]
    have hfst5 : (((l'.set (o + i) ({ xs with data := ps }, rd, cap)).eraseIdx (o + i)).drop o).map (·.1) = (findL shs n of).1.eraseIdx i := by
      rw [drop_erase' _ _ _ (by rw [hLn]; exact hij), map_erase', hfst, erase_set]
    have k5q : σ5.get q = some (.row 1 true [.slice r (o * 2) (l'.length - o) none 2]) := (d4 q (by intro e; exact f5.rq e.symm)).trans k4q
    have k52 : σ5.get 2 = some (.row 1 true [.vs .nil []]) := (d4 2 (by omega)).trans k42
    have k5d : σ5.get rd = some (.row 1 false (ps.map partV)) := (d4 rd q8).trans hrow4
    let σ6 : AMem := σ5.put q (.row 1 true [.slice r (o * 2) (l'.length - o - 1) none 2])
    have hcat := concat_call (k := k) (σ := σ6) (x := .slice rd 0 xs.data.length cap 1) (K := .some) (seen := [rd]) ps (snap_ones (d := snapDepth - 2) (cs := ps.map partV) (more := []) (by rw [List.length_map, hpl]) (by
        rw [List.all_eq_true]
        intro v hv
        obtain ⟨p, _, rfl⟩ := List.mem_map.1 hv
        rfl) (by
        simp only [σ6]
        rw [List.append_nil, AMem.get_put, if_neg (by exact hrdq)]
        exact k5d)) hcl0 hcl2 (by omega) (fun p hp => by have := hpd p hp; omega) (by omega)
    simp only [σ6] at hcat
    obtain ⟨S, hsn⟩ := SrtAt.snap (σ := σ6.put 2 (.row 1 true [.slice r (o * 2) (l'.length - o - 1) none 2])) 7 (d2.same (by simp [σ6]) fun s h1 _ h3 => by simp only [σ6]; rw [AMem.get_put, if_neg (by omega), AMem.get_put, if_neg (by omega)]) (n := l'.length - o - 1) (by rw [hLe]; omega)
    rw [hfst5] at hsn
    simp only [σ6] at hsn
    have e : ∃ T1, execC lawProg (callN lawProg k) k 9 73 (bodyOf Tryz.f9) (initT 0 [.agg [.vs lk (shs.map shV)], .agg [.int .i64 n, .int .i64 (a : Nat), .int .i64 (of : Nat), .vs .some (bytesV d)]] .nil) AMem.empty = some (.ret, T1, (σ5.put q (.row 1 true [.slice r (o * 2) (l'.length - o - 1) none 2])).put 2 (.row 1 true [.slice r (o * 2) (l'.length - o - 1) none 2])) ∧ resultsA lawProg T1 ((σ5.put q (.row 1 true [.slice r (o * 2) (l'.length - o - 1) none 2])).put 2 (.row 1 true [.slice r (o * 2) (l'.length - o - 1) none 2])) Tryz.f9.results.toList = some [.agg [.slice r (o * 2) (l'.length - o - 1) none 2], .vs .some (bytesV (catL ps)), .int .i64 0] := by
      cases he : emptyQ xs.data[a] with
      | true =>
        have h3 := hst he
        subst h3
        have hem : ∀ σ : AMem, callN lawProg k (.func 30 [] []) [.vs xs.data[a].1 (bytesV xs.data[a].2)] σ = some (.bool true, σ) := fun σ => by
          have := isEmpty_callN (k := k) (σ := σ) xs.data[a].1 (bytesV xs.data[a].2) (by omega)
          rw [show emptyP (.vs xs.data[a].1 (bytesV xs.data[a].2)) = emptyQ xs.data[a] from emptyP_part _, he] at this
          exact this
        simp only [bodyOf, Tryz.f9, Option.getD_some, initT, runOps, runD, again, step1, wantA, opSem, evalO, evalL, evalOpt, evalParts, putA, ofConst, ofScalar, ofScalars, abin, abinInt, aun, convA, builtinA, oneTy, elemTy, loadA, storeA, storeCellsA, setAt, partA, fillA, placesA, isFn, TyI.isAgg, isSeq, isNum, sliceA, boundA, setParams, minL, minF, maxL, maxF, repZ, reduceIte, Nat.reduceLT, Nat.reduceLeDiff, Nat.reduceEqDiff, Nat.reduceAdd, Nat.reduceMul, Nat.reduceSub, Nat.reduceBEq, Int.reduceEq, Int.reduceLT, Int.reduceLE, Int.reduceToNat, reduceCtorEq, sx, fx9, hck, hic, bne_self_eq_false, o1, g0, g1, g2, f1, f4, f5.row, hcell, rd3, k0, k1, k2, hilt, halt, Int.natCast_nonneg, Int.toNat_natCast, part_get ha, hem, hclone, List.length_map, hsetp, hal2, hrdr, hrdq, q1, q2, q3, q4, q5, q6, q7, q8, q9, e4, k40, k41, k42, k4q, hw, d1, k5q, k52, hcat]
        exact ⟨_, rfl, by simp only [Tryz.f9, resultsA, resultA, runOps, runD, again, step1, wantA, opSem, evalO, evalL, evalOpt, evalParts, putA, ofConst, ofScalar, ofScalars, abin, abinInt, aun, convA, builtinA, oneTy, elemTy, loadA, storeA, storeCellsA, setAt, partA, fillA, placesA, isFn, TyI.isAgg, isSeq, isNum, sliceA, boundA, setParams, minL, minF, maxL, maxF, repZ, reduceIte, Nat.reduceLT, Nat.reduceLeDiff, Nat.reduceEqDiff, Nat.reduceAdd, Nat.reduceMul, Nat.reduceSub, Nat.reduceBEq, Int.reduceEq, Int.reduceLT, Int.reduceLE, Int.reduceToNat, reduceCtorEq, sx, fx9]⟩
      | false =>
        have h3 := hst2 he
        subst h3
        have hem : ∀ σ : AMem, callN lawProg k (.func 30 [] []) [.vs xs.data[a].1 (bytesV xs.data[a].2)] σ = some (.bool false, σ) := fun σ => by
          have := isEmpty_callN (k := k) (σ := σ) xs.data[a].1 (bytesV xs.data[a].2) (by omega)
          rw [show emptyP (.vs xs.data[a].1 (bytesV xs.data[a].2)) = emptyQ xs.data[a] from emptyP_part _, he] at this
          exact this
        simp only [bodyOf, Tryz.f9, Option.getD_some, initT, runOps, runD, again, step1, wantA, opSem, evalO, evalL, evalOpt, evalParts, putA, ofConst, ofScalar, ofScalars, abin, abinInt, aun, convA, builtinA, oneTy, elemTy, loadA, storeA, storeCellsA, setAt, partA, fillA, placesA, isFn, TyI.isAgg, isSeq, isNum, sliceA, boundA, setParams, minL, minF, maxL, maxF, repZ, reduceIte, Nat.reduceLT, Nat.reduceLeDiff, Nat.reduceEqDiff, Nat.reduceAdd, Nat.reduceMul, Nat.reduceSub, Nat.reduceBEq, Int.reduceEq, Int.reduceLT, Int.reduceLE, Int.reduceToNat, reduceCtorEq, sx, fx9, hck, hic, bne_self_eq_false, o1, g0, g1, g2, f1, f4, f5.row, hcell, rd3, k0, k1, k2, hilt, halt, Int.natCast_nonneg, Int.toNat_natCast, part_get ha, hem, hclone, List.length_map, hsetp, hal2, hrdr, hrdq, q1, q2, q3, q4, q5, q6, q7, q8, q9, e4, k40, k41, k42, k4q, hw, d1, k5q, k52, hcat]
        exact ⟨_, rfl, by simp only [Tryz.f9, resultsA, resultA, runOps, runD, again, step1, wantA, opSem, evalO, evalL, evalOpt, evalParts, putA, ofConst, ofScalar, ofScalars, abin, abinInt, aun, convA, builtinA, oneTy, elemTy, loadA, storeA, storeCellsA, setAt, partA, fillA, placesA, isFn, TyI.isAgg, isSeq, isNum, sliceA, boundA, setParams, minL, minF, maxL, maxF, repZ, reduceIte, Nat.reduceLT, Nat.reduceLeDiff, Nat.reduceEqDiff, Nat.reduceAdd, Nat.reduceMul, Nat.reduceSub, Nat.reduceBEq, Int.reduceEq, Int.reduceLT, Int.reduceLE, Int.reduceToNat, reduceCtorEq, sx, fx9]⟩
    obtain ⟨T1, e1, e2⟩ := e
    exact fin e1 e2 hsn (snap_vs _ 10 _ _)
end Go.Proofs.YtkamjhhodnmoiaaGreatDoor
