/- The sheaf for a chunk: what the program's find does to the memory. -/
import Derived.Test.YtkamjhhodnmoiaaGreatDoorF6
set_option maxRecDepth 100000
set_option linter.unusedSimpArgs false
set_option linter.unusedVariables false
namespace Go.Proofs.YtkamjhhodnmoiaaGreatDoor
open Go Go.Proofs.YtkamjhhodnmoiaaGreatDoor.Pale
variable {k : Nat} {σ : AMem}

abbrev SR := Sh × Nat × Option Nat
def itemR (x : SR) : MItem := itemOf x.1 x.2.1 x.2.2
def cellsR (l : List SR) : List (List AVal) := l.map fun x => (itemR x).cells
theorem cellsR_two (l : List SR) : ∀ c, c ∈ cellsR l → c.length = 2 := by
  intro c hc
  obtain ⟨x, _, rfl⟩ := List.mem_map.1 hc
  rfl
theorem cellsR_one (l : List SR) : ∀ c, c ∈ cellsR l → c.all AVal.oneCell = true := by
  intro c hc
  obtain ⟨x, _, rfl⟩ := List.mem_map.1 hc
  rfl
theorem cellsR_eq (l : List SR) : (l.map fun x => itemOf x.1 x.2.1 x.2.2).map MItem.cells = cellsR l := by
  rw [List.map_map]; rfl
/-- A sorter in memory, whose list may begin behind others. -/
structure SrtAt (low : Nat) (σ : AMem) (q r o : Nat) (l : List SR) (zs : List AVal) : Prop where
  row : σ.get r = some (.row 2 true ((cellsR l).flatten ++ zs))
  items : Items low σ q (l.map itemR)
  rq : r ≠ q
  rl : r ∉ l.map fun x => x.2.1
  lo : low ≤ r
  hi : r < σ.next
  zl : ∃ m, zs.length = m * 2
  le : o ≤ l.length
theorem idxI_two {α : Type} {p p' : AVal → Bool} {g h : α → AVal} (e : ∀ x, p (g x) = p' (h x)) : ∀ l : List α, idxI p (l.map g) = idxI p' (l.map h) := by
  intro l
  induction l with
  | nil => rfl
  | cons x l ih => simp only [List.map_cons, idxI, e x, ih]
theorem place_mem (n : Int) (l : List SR) : idxI (sameName n) ((cellsR l).map AVal.agg) = placeI n (l.map (·.1)) := by
  unfold placeI cellsR
  rw [List.map_map, List.map_map]
  exact idxI_two (p := sameName n) (p' := sameName n) (g := fun x : SR => .agg (itemR x).cells) (h := fun x => shV x.1) (fun x => rfl) l
theorem filter_mem (n : Int) (of : Nat) (l : List SR) : (cellsR l).filter (fun c => !delP n of (.agg c)) = cellsR (l.filter fun x => keepS n of x.1) := by
  unfold cellsR
  rw [List.filter_map]
  congr 1
  apply List.filter_congr
  intro x _
  show (!((x.1.name == n) && (((x.1.data.length : Nat) : Int) != (of : Int)))) = keepS n of x.1
  unfold keepS
  congr 2
  rw [Bool.eq_iff_iff]
  simp
  omega
theorem filter_fst (n : Int) (of : Nat) (l : List SR) : (l.filter fun x => keepS n of x.1).map (·.1) = (l.map (·.1)).filter (keepS n of) := by
  rw [List.filter_map]; rfl
theorem rows_sub (n : Int) (of : Nat) (l : List SR) {r : Nat} (h : r ∉ l.map fun x => x.2.1) : r ∉ (l.filter fun x => keepS n of x.1).map fun x => x.2.1 := fun hr => by
  obtain ⟨x, hx, rfl⟩ := List.mem_map.1 hr
  exact h (List.mem_map.2 ⟨x, (List.mem_filter.1 hx).1, rfl⟩)

/-- What DeleteFunc leaves. -/
theorem del_mem {low q r rc : Nat} {l : List SR} (n at_ : Int) (of : Nat) (d : AVal) (hm : SrtMem low σ q (.slice r 0 l.length none 2) l) (hrow : σ.get r = some (.row 2 true (cellsR l).flatten)) (hr : low ≤ r ∧ r < σ.next ∧ r ≠ q ∧ r ∉ l.map (fun x => x.2.1)) (hl : l.length ≤ 1000) (hc : σ.get rc = some (chunkRow n at_ of d)) (hrc : rc < σ.next) (hrcr : rc ≠ r) (hk : 3000 ≤ k) :
    ∃ σ' zs, callN lawProg k (.func 64 [] []) [.slice r 0 l.length none 2, .func 65 [] [.ptr rc 0]] σ = some (.slice r 0 (l.filter fun x => keepS n of x.1).length none 2, σ') ∧ SrtAt low σ' q r 0 (l.filter fun x => keepS n of x.1) zs ∧ σ.next ≤ σ'.next ∧ ∀ s, s < σ.next → s ≠ r → σ'.get s = σ.get s := by
  obtain ⟨k, rfl⟩ : ∃ m, k = m + 2 := ⟨k - 2, by omega⟩
  have hcb : ∀ (j : Nat), 1 ≤ j → ∀ c, c ∈ cellsR l → ∀ σ' : AMem, σ'.get rc = some (chunkRow n at_ of d) → rc < σ'.next → ∃ σ'', callN lawProg j (.func 65 [] [.ptr rc 0]) [.agg c] σ' = some (.bool (delP n of (.agg c)), σ'') ∧ Ext σ' σ'' := by
    intro j hj c hc' σ' h1 h2
    obtain ⟨x, _, rfl⟩ := List.mem_map.1 hc'
    exact find1_callN x.1.name x.2.1 0 x.1.data.length 1 x.2.2 h1 h2 hj
  obtain ⟨σ', zs, d1, d2, d3, d4, d5⟩ := deleteFunc_callN (k := k) (σ := σ) (r := r) (rc := rc) (g := 65) (crow := chunkRow n at_ of d) (cellsR l) (delP n of) (cellsR_two l) (cellsR_one l) (by simpa [cellsR] using hl) hrow hr.2.1 hrcr hrc hc (hcb k (by omega)) (hcb (k + 1) (by omega)) (by omega)
  rw [filter_mem] at d1 d4 d5
  have hlen : ∀ m : List SR, (cellsR m).length = m.length := fun m => by simp [cellsR]
  rw [hlen, hlen] at d1
  have hit : Items low σ q (l.map itemR) := hm.1
  refine ⟨σ', zs, d1, ⟨d4, ?_, hr.2.2.1, rows_sub n of l hr.2.2.2, hr.1, by omega, ⟨_, d5⟩, Nat.zero_le _⟩, d2, d3⟩
  refine Items.sub (hit.same (Nat.le_refl _) d2 (fun x hx => ?_) hit.2.2) (List.Sublist.map _ List.filter_sublist)
  have hb := hit.bound x hx
  have : rowsOf (l.map itemR) = l.map fun x => x.2.1 := rowsOf_items l
  rw [this] at hx
  exact d3 x hb.2 (fun e => hr.2.2.2 (e ▸ hx))

theorem rep_new (of : Nat) : repZ [.vs .nil []] of = (List.replicate of ((.nil, []) : Part)).map partV := by
  induction of with
  | zero => rfl
  | succ n ih => simp only [repZ, ih, List.replicate_succ, List.map_cons]; rfl

/-- A new sheaf behind the others. -/
theorem add_new {low q r : Nat} {l : List SR} {zs : List AVal} (n : Int) (of : Nat) (hm : SrtAt low σ q r 0 l zs) (hlow : low ≤ σ.next) (hq : q < σ.next) (hl : l.length ≤ 1000) :
    ∃ r' σ' zs', appendA tySh ((σ.push (.row 1 false (repZ [.vs .nil []] of))).push (.row 2 true [.int .i64 n, .slice σ.next 0 of (some of) 1])) (.slice r 0 l.length none 2) (.slice (σ.next + 1) 0 1 (some 1) 2) = some (.slice r' 0 (l.length + 1) none 2, σ') ∧ SrtAt low σ' q r' 0 (l ++ [(newSh n of, σ.next, some of)]) zs' ∧ σ.next ≤ σ'.next ∧ ∀ s, s < σ.next → s ≠ r → σ'.get s = σ.get s := by
  obtain ⟨m1, m2, m3, m4, m5, m6, m7, _⟩ := hm
  obtain ⟨r', σ', zs', a1, a2, a3, a4, a5, a6, hzl⟩ := append_room (σ := σ.push (.row 1 false (repZ [.vs .nil []] of))) (e := tySh) (r := r) (n := l.length) (ls := cellsR l) (zs := zs) (xs := [.int .i64 n, .slice σ.next 0 of (some of) 1]) (cellsR_two l) (by simp [cellsR]) (by rw [AMem.get_push, if_neg (by omega)]; exact m1) (by simp; omega) rfl rfl m7 (by decide) (by decide) (by decide) (by simp only [tySh, mostBytes]; omega)
  simp only [AMem.next_push] at a1 a3 a5 a6
  have hc : cellsR (l ++ [(newSh n of, σ.next, some of)]) = cellsR l ++ [[.int .i64 n, .slice σ.next 0 of (some of) 1]] := by
    simp only [cellsR, List.map_append, List.map_cons, List.map_nil]
    congr 2
    simp only [itemR, itemOf, MItem.cells, newSh, List.length_replicate]
    rfl
  have hit := m2
  have hrows : rowsOf (l.map itemR) = l.map fun x => x.2.1 := rowsOf_items l
  have keep : ∀ s, s < σ.next → s ≠ r → σ'.get s = σ.get s := fun s h1 h2 => by
    rw [a6 s (by omega) h2, AMem.get_push, if_neg (by omega)]
  have hnew : σ'.get σ.next = some (.row 1 false (repZ [.vs .nil []] of)) := by
    rw [a6 _ (by omega) (by omega), AMem.get_push, if_pos rfl]
  have hbd : ∀ x, x ∈ l.map (fun x => x.2.1) → x < σ.next := fun x hx => (hit.bound x (by rw [hrows]; exact hx)).2
  refine ⟨r', σ', zs', a1, ⟨by rw [hc]; exact a2, ?_, ?_, ?_, ?_, a4, hzl, Nat.zero_le _⟩, by omega, keep⟩
  · rw [List.map_append]
    refine Items.add (hit.same (Nat.le_refl _) (by omega) (fun x hx => ?_) hit.2.2) ⟨rfl, parts_pure _, .inr ⟨σ.next, some of, ?_, hlow, by omega, ?_⟩⟩ (fun x hx => ?_)
    · have := hit.bound x hx
      rw [hrows] at hx
      exact keep x this.2 (fun e => m4 (e ▸ hx))
    · show AVal.slice σ.next 0 (newSh n of).data.length (some of) 1 = .slice σ.next 0 ((newSh n of).data.map partV).length (some of) 1
      rw [List.length_map]
    · show σ'.get σ.next = some (.row 1 false ((newSh n of).data.map partV))
      rw [hnew, rep_new]; rfl
    · simp only [itemR, itemOf, rowOf, List.mem_singleton] at hx
      subst hx
      refine ⟨fun h => ?_, by omega⟩
      rw [hrows] at h
      have := hbd _ h
      omega
  · rcases a3 with rfl | rfl
    · exact m3
    · omega
  · rw [List.map_append, List.mem_append]
    rintro (hx | hx)
    · rcases a3 with rfl | rfl
      · exact m4 hx
      · have := hbd _ hx; omega
    · simp only [List.map_cons, List.map_nil, List.mem_singleton] at hx
      rcases a3 with rfl | rfl <;> omega
  · rcases a3 with rfl | rfl
    · exact m5
    · omega
end Go.Proofs.YtkamjhhodnmoiaaGreatDoor
