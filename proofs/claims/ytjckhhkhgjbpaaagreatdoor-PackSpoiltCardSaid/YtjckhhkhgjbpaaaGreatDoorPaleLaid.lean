/- The abstract machine against the model: package variables that are laid as the program's text lays them. -/
import Derived.Test.YtjckhhkhgjbpaaaGreatDoorPaleRow
import Derived.OpenShut
import Derived.ChangeArms
import Derived.FnData
set_option linter.unusedVariables false
namespace Go.Proofs.YtjckhhkhgjbpaaaGreatDoor.Pale
open Go

theorem PRelL_ints (w : World) (ro : Nat → Prop) (k : IntKind) : ∀ (ns : List Int), PRelL w ro (ns.map fun n => AVal.int k n) (ns.map fun n => Value.int k n) := by
  intro ns
  induction ns with
  | nil => simp [PRelL]
  | cons n ns ih =>
    simp only [List.map_cons, PRelL]
    exact ⟨_, _, rfl, by simp [PRel], ih⟩

/-- AN ARRAY OF INTEGERS THAT IS LAID. -/
theorem laid_ints {P : Program} {w : World} {name : String} {g t n e : Nat} {k : IntKind} {ns : List Int} (hg : P.globalNamed name = some g) (ht : (P.globals[g]?).map (·.type) = some t)
    (hu : P.underlying t = some (.array n e)) (hc : P.cellsOf e = 1) (hue : P.underlying e = some (.int k)) (hn : ns.length = n)
    {g' t' fuel : Nat} {cs : Array Value} {p : List MemPlace} (h1 : P.globalNamed name = some g') (h2 : (P.globals[g']?).map (·.type) = some t') (h3 : w.var? P name = some cs)
    (h4 : DataW.trod (fun _ => ()) P w 0 (fun _ => true) false fuel t' cs.toList = some (.agg (ns.map fun i => DataW.lit (.int k i)), p)) :
    PAtL w (fun b => b < w.heap.size) g 0 (ns.map fun i => AVal.int k i) := by
  obtain rfl := Option.some.inj (hg.symm.trans h1)
  obtain rfl := Option.some.inj (ht.symm.trans h2)
  obtain ⟨xs, m, _, hx, hlen, hnx, hel⟩ := DataW.trod_array hu h4
  have hx1 : ns.map (fun i => (DataW.lit (.int k i) : DataW Unit)) = xs.map (·.1) := by
    have := congrArg Prod.fst hx
    simpa using this
  have hcs : ∀ (j : Nat) (x : Value), (ns.map fun i => Value.int k i)[j]? = some x → w.cell? ⟨g, 0 + j, none⟩ = some x := by
    intro j x hj
    have hjn : j < ns.length := by
      have := (List.getElem?_eq_some_iff.1 hj).1
      simpa using this
    have h5 := hel j (by omega)
    have hjx : j < xs.length := by omega
    rw [List.getElem?_eq_getElem hjx] at h5
    obtain ⟨i, e1, e2, _⟩ := DataW.trod_int hue h5
    have e3 : (ns.map (fun i => (DataW.lit (.int k i) : DataW Unit)))[j]? = (xs.map (·.1))[j]? := by rw [hx1]
    rw [List.getElem?_map, List.getElem?_map, List.getElem?_eq_getElem hjx, List.getElem?_eq_getElem hjn, e2] at e3
    simp at e3
    rw [List.getElem?_map, List.getElem?_eq_getElem hjn] at hj
    simp at hj
    subst hj
    rw [hc, Nat.mul_one] at e1
    have e4 : (cs.toList.drop j).head? = some (.int k i) := by
      have : ((cs.toList.drop j).take 1).head? = some (.int k i) := by rw [e1]; rfl
      rw [List.head?_take] at this
      simpa using this
    rw [World.var?_cell hg h3, Nat.zero_add, ← Array.getElem?_toList, e3]
    rw [List.head?_drop] at e4
    exact e4
  have hlt : ∀ j, j < ns.length → g < w.heap.size := by
    intro j hj
    have := hcs j _ (by rw [List.getElem?_map, List.getElem?_eq_getElem hj]; rfl)
    unfold World.cell? at this
    split at this
    · rename_i hb
      exact (Array.getElem?_eq_some_iff.1 hb).1
    · cases this
  cases ns with
  | nil => simp [PAtL]
  | cons i is => exact PAtL_of (ro := fun b => b < w.heap.size) (b := g) (hlt 0 (by simp)) _ _ 0 (PRelL_ints w _ k (i :: is)) hcs

end Go.Proofs.YtjckhhkhgjbpaaaGreatDoor.Pale
