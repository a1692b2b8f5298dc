/- A net after a move, by the program. -/
import Derived.Test.YtikhidpcaefjiaaGreatDoorD1
import Derived.Test.YtikhidpcaefjiaaGreatDoorD2
set_option maxRecDepth 100000
set_option linter.unusedSimpArgs false
set_option linter.unusedVariables false
namespace Go.Proofs.YtikhidpcaefjiaaGreatDoor
open Go Go.Proofs.YtikhidpcaefjiaaGreatDoor.Pale
variable {k : Nat} {σ : AMem}

def xr (a x : Int) : Nat := (BitVec.ofInt IntKind.u8.bits a ^^^ BitVec.ofInt IntKind.u8.bits (IntKind.u8.wrap x)).toNat % 256
def doE (h : Int) (ps : List Pk) (m : Mv) : Int := if ¬ NetOk h ps then 4 else if moveB ps m = false then 2 else if m.kd = 3 ∧ ps.length = 60 then 8 else 0
/-- The packets after a move of the packet p. -/
def doL (ps : List Pk) (m : Mv) (p : Pk) : List Pk :=
  if m.kd = 3 then ps ++ [p] else if m.kd = 4 then ps.set m.n.toNat { p with b := p.b.set m.at_.toNat (xr ((p.b[m.at_.toNat]?.getD 0 : Nat) : Int) m.x) } else ps.eraseIdx m.n.toNat
def doC (m : Mv) (p : Pk) : AVal := if m.kd = 1 then .vs .some [pkV (cp p)] else .vs .nil []
def doV (h : Int) (ps : List Pk) (m : Mv) : AVal × AVal := if doE h ps m = 0 then (match ps[m.n.toNat]? with
  | some p => (netV h .some ((doL ps m p).map cp), doC m p)
  | none => (netV 0 .nil [], .vs .nil [])) else (netV 0 .nil [], .vs .nil [])
theorem do_net {h : Int} {ps : List Pk} {m : Mv} (h1 : ¬ NetOk h ps) : doE h ps m = 4 ∧ doV h ps m = (netV 0 .nil [], .vs .nil []) := by
  have : doE h ps m = 4 := by unfold doE; rw [if_pos h1]
  exact ⟨this, by unfold doV; rw [this]; rfl⟩
theorem do_mv {h : Int} {ps : List Pk} {m : Mv} (h1 : NetOk h ps) (h2 : moveB ps m = false) : doE h ps m = 2 ∧ doV h ps m = (netV 0 .nil [], .vs .nil []) := by
  have : doE h ps m = 2 := by unfold doE; rw [if_neg (by simpa using h1), if_pos h2]
  exact ⟨this, by unfold doV; rw [this]; rfl⟩
theorem do_full {h : Int} {ps : List Pk} {m : Mv} (h1 : NetOk h ps) (h2 : moveB ps m = true) (h3 : m.kd = 3 ∧ ps.length = 60) : doE h ps m = 8 ∧ doV h ps m = (netV 0 .nil [], .vs .nil []) := by
  have : doE h ps m = 8 := by unfold doE; rw [if_neg (by simpa using h1), if_neg (by simp [h2]), if_pos h3]
  exact ⟨this, by unfold doV; rw [this]; rfl⟩
theorem do_ok {h : Int} {ps : List Pk} {m : Mv} {i : Nat} (h1 : NetOk h ps) (h2 : moveB ps m = true) (h3 : ¬ (m.kd = 3 ∧ ps.length = 60)) (hi : i < ps.length) (hm : m.n = (i : Int)) : doE h ps m = 0 ∧ doV h ps m = (netV h .some ((doL ps m ps[i]).map cp), doC m ps[i]) := by
  have : doE h ps m = 0 := by unfold doE; rw [if_neg (by simpa using h1), if_neg (by simp [h2]), if_neg h3]
  refine ⟨this, ?_⟩
  unfold doV
  rw [if_pos this, hm]
  simp only [Int.toNat_natCast, List.getElem?_eq_getElem hi]
/-- What a right move is. -/
theorem move_ok {ps : List Pk} {m : Mv} (h : moveB ps m = true) : ∃ i, ∃ hi : i < ps.length, m.n = ((i : Nat) : Int) ∧ (((m.kd = 1 ∨ m.kd = 2 ∨ m.kd = 3) ∧ m.at_ = 0 ∧ m.x = 0) ∨ (m.kd = 4 ∧ ∃ a, a < ps[i].b.length ∧ m.at_ = ((a : Nat) : Int) ∧ 1 ≤ m.x ∧ m.x ≤ 255)) := by
  unfold moveB at h
  simp only [Bool.and_eq_true, decide_eq_true_eq] at h
  obtain ⟨⟨h1, h2⟩, h3⟩ := h
  have hi : m.n.toNat < ps.length := by omega
  refine ⟨m.n.toNat, hi, by omega, ?_⟩
  split at h3
  · rename_i hk
    simp only [Bool.and_eq_true, decide_eq_true_eq] at h3
    exact .inl ⟨hk, h3.1, h3.2⟩
  · rw [List.getElem?_eq_getElem hi] at h3
    simp only [Bool.and_eq_true, decide_eq_true_eq] at h3
    obtain ⟨h4, ⟨h5, h6⟩, h7⟩ := h3
    exact .inr ⟨h4, m.at_.toNat, by omega, by omega, h7.1, h7.2⟩

theorem tuple_three {σ : AMem} {d : Nat} {x y z v w u : AVal} {s1 s2 s3 : List Nat} (h1 : snapF false σ d x = some (v, s1)) (h2 : snapF false σ d y = some (w, s2)) (h3 : snapF false σ d z = some (u, s3)) : snapF false σ (d + 1) (packA [x, y, z]) = some (.tuple [v, w, u], s1 ++ (s2 ++ (s3 ++ []))) := by
  show (snapL (snapF false σ d) [x, y, z]).map (fun (l, a) => (AVal.tuple l, a)) = _
  simp only [snapL, h1, h2, h3, Option.map_some]

/-- How a list in memory reads of which one element was taken. -/
theorem snap_deleted2 {σ σ' : AMem} {d low r i : Nat} {out : AVal} {l : List (Pk × Nat)} {more : List AVal} (hm : NetMem low σ out l) (hi : i < l.length) (hr : σ'.get r = some (.row 3 true (((l.map fun x => pkM x.1 x.2).eraseIdx i).flatten ++ more))) (hin : ∀ x, x ∈ l → σ'.get x.2 = σ.get x.2) :
    ∃ seen, snapF false σ' (d + 3) (.slice r 0 (l.length - 1) none 3) = some (.vs .some (((l.map (·.1)).eraseIdx i).map fun p => pkV (cp p)), seen) := by
  have e1 : (l.map fun x => pkM x.1 x.2).eraseIdx i = (l.eraseIdx i).map fun x => pkM x.1 x.2 := by rw [List.eraseIdx_eq_take_drop_succ, List.eraseIdx_eq_take_drop_succ, List.map_append, List.map_take, List.map_drop]
  have e2 : (l.map (·.1)).eraseIdx i = (l.eraseIdx i).map (·.1) := by rw [List.eraseIdx_eq_take_drop_succ, List.eraseIdx_eq_take_drop_succ, List.map_append, List.map_take, List.map_drop]
  rw [e1] at hr
  have hs := netMem_snapL (low := low) (σ := σ') d (l.eraseIdx i) (fun x hx => by
    have hx := List.mem_of_mem_eraseIdx hx
    rw [hin x hx]; exact (hm.2.2.2 x hx).2.2.1)
  have h3 : ∀ (f : Pk × Nat → List AVal), (∀ x, (f x).length = 3) → ∀ c, c ∈ (l.eraseIdx i).map f → c.length = 3 := fun f hf c hc => by
    obtain ⟨x, _, rfl⟩ := List.mem_map.1 hc
    exact hf x
  have := snap_structs_more (σ := σ') (fr := false) (d := d + 1) (r := r) (n := l.length - 1) (cap := none) (ls := (l.eraseIdx i).map fun x => pkM x.1 x.2) (ps := (l.eraseIdx i).map fun x => pkC (cp x.1)) (by decide) (by rw [List.length_map, List.length_eraseIdx, if_pos hi]) (by simp) (h3 _ fun _ => rfl) (h3 _ fun _ => rfl) hr hs
  refine ⟨r :: (l.eraseIdx i).map (·.2), this.trans ?_⟩
  rw [e2, List.map_map, List.map_map]
  rfl
theorem snap_deleted {σ σ' : AMem} {d low r i : Nat} {out : AVal} {l : List (Pk × Nat)} (hm : NetMem low σ out l) (hi : i < l.length) (hr : σ'.get r = some (.row 3 true (((l.map fun x => pkM x.1 x.2).eraseIdx i).flatten ++ [.int .i64 0, .int .i64 0, .vs .nil []]))) (hin : ∀ x, x ∈ l → σ'.get x.2 = σ.get x.2) :
    ∃ seen, snapF false σ' (d + 3) (.slice r 0 (l.length - 1) none 3) = some (.vs .some (((l.map (·.1)).eraseIdx i).map fun p => pkV (cp p)), seen) := snap_deleted2 hm hi hr hin
end Go.Proofs.YtikhidpcaefjiaaGreatDoor
