/- Rows of records: how they are read, changed, cut short and read as values. -/
import Derived.Test.YtjckhhkhgjbpaaaGreatDoorPaleList
set_option linter.unusedVariables false
namespace Go.Proofs.YtjckhhkhgjbpaaaGreatDoor.Pale
open Go

section Flat
variable {ls : List (List AVal)} {more : List AVal} {sz i j : Nat}

theorem flat_length : ∀ {ls : List (List AVal)}, (∀ l, l ∈ ls → l.length = sz) → ls.flatten.length = ls.length * sz := by
  intro ls
  induction ls with
  | nil => intro _; simp
  | cons l ls ih =>
    intro h
    rw [List.flatten_cons, List.length_append, h l (by simp), ih (fun x hx => h x (by simp [hx])), List.length_cons, Nat.succ_mul]
    omega
theorem flat_take : ∀ {ls : List (List AVal)} {i : Nat}, (∀ l, l ∈ ls → l.length = sz) → i ≤ ls.length → (ls.flatten ++ more).take (i * sz) = (ls.take i).flatten := by
  intro ls i h hi
  have e : ls.flatten ++ more = (ls.take i).flatten ++ ((ls.drop i).flatten ++ more) := by
    rw [← List.append_assoc, ← List.flatten_append, List.take_append_drop]
  have hl : (ls.take i).flatten.length = i * sz := by
    rw [flat_length (sz := sz) (fun l hl => h l (List.mem_of_mem_take hl)), List.length_take, Nat.min_eq_left hi]
  rw [e, ← hl, List.take_left]
theorem flat_drop : ∀ {ls : List (List AVal)} {i : Nat}, (∀ l, l ∈ ls → l.length = sz) → i ≤ ls.length → (ls.flatten ++ more).drop (i * sz) = (ls.drop i).flatten ++ more := by
  intro ls i h hi
  have e : ls.flatten ++ more = (ls.take i).flatten ++ ((ls.drop i).flatten ++ more) := by
    rw [← List.append_assoc, ← List.flatten_append, List.take_append_drop]
  have hl : (ls.take i).flatten.length = i * sz := by
    rw [flat_length (sz := sz) (fun l hl => h l (List.mem_of_mem_take hl)), List.length_take, Nat.min_eq_left hi]
  rw [e, ← hl, List.drop_left]
theorem flat_get (h : ∀ l, l ∈ ls → l.length = sz) (hi : i < ls.length) (hj : j < sz) : (ls.flatten ++ more)[i * sz + j]? = (ls[i])[j]? := by
  have hd := flat_drop (more := more) h (Nat.le_of_lt hi)
  have : (ls.flatten ++ more)[i * sz + j]? = ((ls.flatten ++ more).drop (i * sz))[j]? := by rw [List.getElem?_drop]
  rw [this, hd, List.drop_eq_getElem_cons hi, List.flatten_cons, List.append_assoc, List.getElem?_append_left (by rw [h _ (List.getElem_mem hi)]; exact hj)]
theorem flat_elem (h : ∀ l, l ∈ ls → l.length = sz) (hi : i < ls.length) : ((ls.flatten ++ more).drop (i * sz)).take sz = ls[i] := by
  rw [flat_drop h (Nat.le_of_lt hi), List.drop_eq_getElem_cons hi, List.flatten_cons, List.append_assoc]
  have := h _ (List.getElem_mem hi)
  rw [show sz = ls[i].length from this.symm, List.take_left]
theorem setAt_split {l vs : List AVal} {off : Nat} (h : off + vs.length ≤ l.length) : setAt l off vs = l.take off ++ (vs ++ l.drop (off + vs.length)) := by
  apply List.ext_getElem?
  intro q
  rw [setAt_get _ _ _ _ h]
  by_cases h1 : q < off
  · rw [if_neg (by omega), List.getElem?_append_left (by rw [List.length_take]; omega), List.getElem?_take_of_lt h1]
  · rw [List.getElem?_append_right (by rw [List.length_take]; omega), List.length_take, Nat.min_eq_left (by omega)]
    by_cases h2 : q < off + vs.length
    · rw [if_pos ⟨by omega, h2⟩, List.getElem?_append_left (by omega)]
    · rw [if_neg (by omega), List.getElem?_append_right (by omega), List.getElem?_drop]
      congr 1
      omega
theorem flat_setAt (h : ∀ l, l ∈ ls → l.length = sz) (hi : i < ls.length) {vs : List AVal} (hv : j + vs.length ≤ sz) : setAt (ls.flatten ++ more) (i * sz + j) vs = (ls.set i (setAt ls[i] j vs)).flatten ++ more := by
  have hfl := flat_length h
  have hli := h _ (List.getElem_mem hi)
  have hb : i * sz + sz ≤ ls.length * sz := by rw [← Nat.succ_mul]; exact Nat.mul_le_mul_right _ hi
  rw [setAt_split (by rw [List.length_append, hfl]; omega), setAt_split (by rw [hli]; exact hv)]
  have hset : ls.set i (ls[i].take j ++ (vs ++ ls[i].drop (j + vs.length))) = ls.take i ++ ((ls[i].take j ++ (vs ++ ls[i].drop (j + vs.length))) :: ls.drop (i + 1)) := by
    rw [List.set_eq_take_append_cons_drop, if_pos hi]
  rw [hset, List.flatten_append, List.flatten_cons]
  have e1 : (ls.flatten ++ more).take (i * sz + j) = (ls.take i).flatten ++ ls[i].take j := by
    rw [List.take_add, flat_take h (Nat.le_of_lt hi), flat_drop h (Nat.le_of_lt hi), List.drop_eq_getElem_cons hi, List.flatten_cons, List.append_assoc, List.take_append_of_le_length (by omega)]
  have e2 : (ls.flatten ++ more).drop (i * sz + j + vs.length) = ls[i].drop (j + vs.length) ++ ((ls.drop (i + 1)).flatten ++ more) := by
    rw [Nat.add_assoc, ← List.drop_drop, flat_drop h (Nat.le_of_lt hi), List.drop_eq_getElem_cons hi, List.flatten_cons, List.append_assoc, List.drop_append_of_le_length (by omega)]
  rw [e1, e2]
  simp only [List.append_assoc]
end Flat

/-- A slice over records, of which the row may have more. -/
theorem snap_structs_more {fr : Bool} {σ : AMem} {d r n sz : Nat} {cap : Option Nat} {ls : List (List AVal)} {ps : List (List AVal)} {more : List AVal} {S : List Nat} (hsz : 0 < sz) (hn : n = ls.length) (hps : ps.length = ls.length) (hl : ∀ l, l ∈ ls → l.length = sz) (hp : ∀ l, l ∈ ps → l.length = sz) (h : σ.get r = some (.row sz true (ls.flatten ++ more)))
    (hs : snapL (snapF fr σ (d + 1)) ls.flatten = some (ps.flatten, S)) : snapF fr σ (d + 2) (.slice r 0 n cap sz) = some (.vs .some (ps.map AVal.agg), r :: S) := by
  subst hn
  have hfl := flat_length hl
  have e3 : (decide (0 < sz) && decide (0 + ls.length * sz ≤ (ls.flatten ++ more).length)) = true := by simp [hsz, hfl]
  have e2 : ((ls.flatten ++ more).drop 0).take (ls.length * sz) = ls.flatten := by rw [List.drop_zero, flat_take hl (Nat.le_refl _), List.take_length]
  rw [snapF]
  simp only [h, e3, if_true, e2, hs]
  rw [← hps, chunk_flatten ps hp, mkElems_agg]
/-- The same, with an offset. -/
theorem snap_structs_off {fr : Bool} {σ : AMem} {d r n sz i : Nat} {cap : Option Nat} {ls : List (List AVal)} {ps : List (List AVal)} {more : List AVal} {S : List Nat} (hsz : 0 < sz) (hn : i + n = ls.length) (hps : ps.length = n) (hl : ∀ l, l ∈ ls → l.length = sz) (hp : ∀ l, l ∈ ps → l.length = sz) (h : σ.get r = some (.row sz true (ls.flatten ++ more)))
    (hs : snapL (snapF fr σ (d + 1)) (ls.drop i).flatten = some (ps.flatten, S)) : snapF fr σ (d + 2) (.slice r (i * sz) n cap sz) = some (.vs .some (ps.map AVal.agg), r :: S) := by
  have hfl := flat_length hl
  have hdl : (ls.drop i).length = n := by rw [List.length_drop]; omega
  have hld : ∀ l, l ∈ ls.drop i → l.length = sz := fun l h => hl l (List.mem_of_mem_drop h)
  have e3 : (decide (0 < sz) && decide (i * sz + n * sz ≤ (ls.flatten ++ more).length)) = true := by simp [hsz, hfl]; rw [← Nat.add_mul, hn]; omega
  have e2 : ((ls.flatten ++ more).drop (i * sz)).take (n * sz) = (ls.drop i).flatten := by
    rw [flat_drop hl (by omega), ← hdl, flat_take hld (Nat.le_refl _), List.take_length]
  rw [snapF]
  simp only [h, e3, if_true, e2, hs]
  rw [← hps, chunk_flatten ps hp, mkElems_agg]
theorem snapL_split {f : AVal → Option (AVal × List Nat)} : ∀ {a b p : List AVal} {S : List Nat}, snapL f (a ++ b) = some (p, S) → ∃ pa pb sa sb, snapL f a = some (pa, sa) ∧ snapL f b = some (pb, sb) ∧ p = pa ++ pb ∧ S = sa ++ sb := by
  intro a
  induction a with
  | nil => intro b p S h; exact ⟨[], p, [], S, rfl, by simpa using h, rfl, rfl⟩
  | cons x a ih =>
    intro b p S h
    simp only [List.cons_append, snapL] at h
    split at h
    · rename_i y s ys t hy hys
      cases h
      obtain ⟨pa, pb, sa, sb, h1, h2, rfl, rfl⟩ := ih hys
      exact ⟨y :: pa, pb, s ++ sa, sb, by simp only [snapL, hy, h1], h2, by simp, by simp⟩
    · cases h

/-! ### one element less -/
/-- What the row of a list holds when slices.Delete has taken one element out of it. -/
def delCells (ls : List (List AVal)) (i : Nat) (z : List AVal) : List AVal := (ls.eraseIdx i).flatten ++ z
theorem erase_split {ls : List (List AVal)} {i : Nat} : ls.eraseIdx i = ls.take i ++ ls.drop (i + 1) := by rw [List.eraseIdx_eq_take_drop_succ]
/-- append(s[:i], s[i+1:]...) in the row itself. -/
theorem append_down {σ : AMem} {e : TyI} {r i n : Nat} {ls : List (List AVal)} {more : List AVal} (hl : ∀ l, l ∈ ls → l.length = e.size) (hi : i < ls.length) (hn : n = ls.length - (i + 1)) (hr : σ.get r = some (.row e.size e.isAgg (ls.flatten ++ more))) (hone : ls.flatten.all AVal.oneCell = true)
    (hs0 : e.size ≠ 0) (hb0 : e.bytes ≠ 0) (hb1 : e.bytes ≤ 1048576) (hby : ls.length * e.bytes ≤ mostBytes) :
    ∃ σ' last, appendA e σ (.slice r 0 i none e.size) (.slice r ((i + 1) * e.size) n none e.size) = some (.slice r 0 (ls.length - 1) none e.size, σ') ∧ last.length = e.size ∧ σ'.get r = some (.row e.size e.isAgg ((ls.eraseIdx i).flatten ++ (last ++ more))) ∧ σ'.next = σ.next ∧ ∀ s, s ≠ r → σ'.get s = σ.get s := by
  have hfl := flat_length hl
  have hdl : ∀ l, l ∈ ls.drop (i + 1) → l.length = e.size := fun l h => hl l (List.mem_of_mem_drop h)
  have hmul : (i + 1) * e.size + n * e.size = ls.length * e.size := by rw [← Nat.add_mul]; congr 1; omega
  have hsrc : sourceA e.size σ (.slice r ((i + 1) * e.size) n none e.size) = some ((ls.drop (i + 1)).flatten, n) := by
    have e1 : (i + 1) * e.size + n * e.size ≤ (ls.flatten ++ more).length := by rw [List.length_append, hfl]; omega
    simp only [sourceA, hr, if_pos e1]
    rw [flat_drop hl (by omega), show n = (ls.drop (i + 1)).length by rw [List.length_drop]; exact hn, flat_take hdl (Nat.le_refl _), List.take_length]
  have hspl : ls = ls.take i ++ (ls[i] :: ls.drop (i + 1)) := by rw [← List.drop_eq_getElem_cons hi, List.take_append_drop]
  by_cases h0 : n = 0
  · have hdrop : ls.drop (i + 1) = [] := List.drop_eq_nil_of_le (by omega)
    refine ⟨σ, ls[i], ?_, hl _ (List.getElem_mem hi), ?_, rfl, fun _ _ => rfl⟩
    · simp only [appendA, hsrc, if_pos h0]
      rw [show ls.length - 1 = i by omega]
    · rw [hr, erase_split, hdrop, List.append_nil]
      have hf := congrArg List.flatten hspl
      rw [hdrop, List.flatten_append, List.flatten_cons, List.flatten_nil, List.append_nil] at hf
      rw [hf, List.append_assoc]
  · have hlen : (ls.drop (i + 1)).flatten.length = n * e.size := by rw [flat_length hdl, List.length_drop, hn]
    have hc : 0 + i * e.size + (ls.drop (i + 1)).flatten.length ≤ (ls.flatten ++ more).length := by
      have : i * e.size + n * e.size ≤ ls.length * e.size := by rw [← Nat.add_mul]; exact Nat.mul_le_mul_right _ (by omega)
      rw [hlen, List.length_append, hfl]; omega
    have hone2 : (ls.drop (i + 1)).flatten.all AVal.oneCell = true := by
      rw [List.all_eq_true] at hone ⊢
      intro x hx
      obtain ⟨l, h1, h2⟩ := List.mem_flatten.1 hx
      exact hone x (List.mem_flatten.2 ⟨l, List.mem_of_mem_drop h1, h2⟩)
    -- what lies behind the cells that were moved: as many as an element has
    let rest := (ls.drop i).flatten ++ more
    have hcells : setAt (ls.flatten ++ more) (0 + i * e.size) (ls.drop (i + 1)).flatten = (ls.take i).flatten ++ ((ls.drop (i + 1)).flatten ++ (((ls.drop i).flatten ++ more).drop (n * e.size))) := by
      rw [Nat.zero_add, setAt_split (by rw [Nat.zero_add] at hc; exact hc), flat_take hl (Nat.le_of_lt hi), hlen, show (ls.flatten ++ more).drop (i * e.size + n * e.size) = ((ls.flatten ++ more).drop (i * e.size)).drop (n * e.size) by rw [List.drop_drop], flat_drop hl (Nat.le_of_lt hi)]
    have hdl2 : (ls.drop i).flatten.length = n * e.size + e.size := by
      rw [flat_length (sz := e.size) (fun l h => hl l (List.mem_of_mem_drop h)), List.length_drop, show ls.length - i = n + 1 by omega, Nat.succ_mul]
    refine ⟨σ.put r (.row e.size e.isAgg ((ls.eraseIdx i).flatten ++ (((ls.drop i).flatten.drop (n * e.size)) ++ more))), (ls.drop i).flatten.drop (n * e.size), ?_, by rw [List.length_drop, hdl2]; omega, by rw [AMem.get_put, if_pos rfl], by simp, fun s hs => by rw [AMem.get_put, if_neg (Ne.symm hs)]⟩
    have hfit : 0 + (i + n) * e.size ≤ (ls.flatten ++ more).length := by
      rw [hlen] at hc
      rw [Nat.add_mul]; omega
    simp only [appendA, hsrc, if_neg h0, hr]
    have hby2 : (i + n) * e.bytes ≤ mostBytes := Nat.le_trans (Nat.mul_le_mul_right _ (by omega)) hby
    have hc2 : (decide (0 + i * e.size + (ls.drop (i + 1)).flatten.length ≤ (ls.flatten ++ more).length) && (ls.drop (i + 1)).flatten.all AVal.oneCell) = true := by rw [hone2, Bool.and_true]; exact decide_eq_true hc
    rw [if_neg (by simp [hs0, hb0]; omega), if_pos hby2, if_pos trivial, if_pos hfit]
    simp only [storeCellsA, hr, hc2, if_true, Option.map_some, hcells]
    rw [show i + n = ls.length - 1 by omega, erase_split, List.flatten_append, List.append_assoc, List.drop_append_of_le_length (by omega)]
/-- The same behind some others. -/
theorem append_down2 {σ : AMem} {e : TyI} {r o i n : Nat} {ls : List (List AVal)} {more : List AVal} (hl : ∀ l, l ∈ ls → l.length = e.size) (hi : o + i < ls.length) (hn : n = ls.length - (o + i + 1)) (hr : σ.get r = some (.row e.size e.isAgg (ls.flatten ++ more))) (hone : ls.flatten.all AVal.oneCell = true)
    (hs0 : e.size ≠ 0) (hb0 : e.bytes ≠ 0) (hb1 : e.bytes ≤ 1048576) (hby : ls.length * e.bytes ≤ mostBytes) :
    ∃ σ' last, appendA e σ (.slice r (o * e.size) i none e.size) (.slice r ((o + i + 1) * e.size) n none e.size) = some (.slice r (o * e.size) (ls.length - o - 1) none e.size, σ') ∧ last.length = e.size ∧ σ'.get r = some (.row e.size e.isAgg ((ls.eraseIdx (o + i)).flatten ++ (last ++ more))) ∧ σ'.next = σ.next ∧ ∀ s, s ≠ r → σ'.get s = σ.get s := by
  have hfl := flat_length hl
  generalize hj : o + i = j at *
  have hoi : o * e.size + i * e.size = j * e.size := by rw [← Nat.add_mul, hj]
  have hdl : ∀ l, l ∈ ls.drop (j + 1) → l.length = e.size := fun l h => hl l (List.mem_of_mem_drop h)
  have hmul : (j + 1) * e.size + n * e.size = ls.length * e.size := by rw [← Nat.add_mul]; congr 1; omega
  have hsrc : sourceA e.size σ (.slice r ((j + 1) * e.size) n none e.size) = some ((ls.drop (j + 1)).flatten, n) := by
    have e1 : (j + 1) * e.size + n * e.size ≤ (ls.flatten ++ more).length := by rw [List.length_append, hfl]; omega
    simp only [sourceA, hr, if_pos e1]
    rw [flat_drop hl (by omega), show n = (ls.drop (j + 1)).length by rw [List.length_drop]; exact hn, flat_take hdl (Nat.le_refl _), List.take_length]
  have hspl : ls = ls.take j ++ (ls[j] :: ls.drop (j + 1)) := by rw [← List.drop_eq_getElem_cons hi, List.take_append_drop]
  by_cases h0 : n = 0
  · have hdrop : ls.drop (j + 1) = [] := List.drop_eq_nil_of_le (by omega)
    refine ⟨σ, ls[j], ?_, hl _ (List.getElem_mem hi), ?_, rfl, fun _ _ => rfl⟩
    · simp only [appendA, hsrc, if_pos h0]
      rw [show ls.length - o - 1 = i by omega]
    · rw [hr, erase_split, hdrop, List.append_nil]
      have hf := congrArg List.flatten hspl
      rw [hdrop, List.flatten_append, List.flatten_cons, List.flatten_nil, List.append_nil] at hf
      rw [hf, List.append_assoc]
  · have hlen : (ls.drop (j + 1)).flatten.length = n * e.size := by rw [flat_length hdl, List.length_drop, hn]
    have hc : j * e.size + (ls.drop (j + 1)).flatten.length ≤ (ls.flatten ++ more).length := by
      have : j * e.size + n * e.size ≤ ls.length * e.size := by rw [← Nat.add_mul]; exact Nat.mul_le_mul_right _ (by omega)
      rw [hlen, List.length_append, hfl]; omega
    have hone2 : (ls.drop (j + 1)).flatten.all AVal.oneCell = true := by
      rw [List.all_eq_true] at hone ⊢
      intro x hx
      obtain ⟨l, h1, h2⟩ := List.mem_flatten.1 hx
      exact hone x (List.mem_flatten.2 ⟨l, List.mem_of_mem_drop h1, h2⟩)
    -- what lies behind the cells that were moved: as many as an element has
    let rest := (ls.drop j).flatten ++ more
    have hcells : setAt (ls.flatten ++ more) (o * e.size + i * e.size) (ls.drop (j + 1)).flatten = (ls.take j).flatten ++ ((ls.drop (j + 1)).flatten ++ (((ls.drop j).flatten ++ more).drop (n * e.size))) := by
      rw [hoi, setAt_split hc, flat_take hl (Nat.le_of_lt hi), hlen, show (ls.flatten ++ more).drop (j * e.size + n * e.size) = ((ls.flatten ++ more).drop (j * e.size)).drop (n * e.size) by rw [List.drop_drop], flat_drop hl (Nat.le_of_lt hi)]
    have hdl2 : (ls.drop j).flatten.length = n * e.size + e.size := by
      rw [flat_length (sz := e.size) (fun l h => hl l (List.mem_of_mem_drop h)), List.length_drop, show ls.length - j = n + 1 by omega, Nat.succ_mul]
    refine ⟨σ.put r (.row e.size e.isAgg ((ls.eraseIdx j).flatten ++ (((ls.drop j).flatten.drop (n * e.size)) ++ more))), (ls.drop j).flatten.drop (n * e.size), ?_, by rw [List.length_drop, hdl2]; omega, by rw [AMem.get_put, if_pos rfl], by simp, fun s hs => by rw [AMem.get_put, if_neg (Ne.symm hs)]⟩
    have hfit : o * e.size + (i + n) * e.size ≤ (ls.flatten ++ more).length := by
      rw [hlen] at hc
      rw [Nat.add_mul]; omega
    simp only [appendA, hsrc, if_neg h0, hr]
    have hby2 : (i + n) * e.bytes ≤ mostBytes := Nat.le_trans (Nat.mul_le_mul_right _ (by omega)) hby
    have hc2 : (decide (o * e.size + i * e.size + (ls.drop (j + 1)).flatten.length ≤ (ls.flatten ++ more).length) && (ls.drop (j + 1)).flatten.all AVal.oneCell) = true := by rw [hone2, Bool.and_true, hoi]; exact decide_eq_true hc
    rw [if_neg (by simp [hs0, hb0]; omega), if_pos hby2, if_pos trivial, if_pos hfit]
    simp only [storeCellsA, hr, hc2, if_true, Option.map_some, hcells]
    rw [show i + n = ls.length - o - 1 by omega, erase_split, List.flatten_append, List.append_assoc, List.drop_append_of_le_length (by omega)]
/-- clear behind it. -/
theorem clear_last {σ : AMem} {e : TyI} {r n : Nat} {a last more : List AVal} (ha : a.length = n * e.size) (hlast : last.length = e.size) (hr : σ.get r = some (.row e.size e.isAgg (a ++ (last ++ more)))) (hz : e.zero.length = e.size) (hzo : e.zero.all AVal.oneCell = true) :
    clearA e σ (.slice r (0 + n * e.size) 1 none e.size) = some (.tuple [], σ.put r (.row e.size e.isAgg (a ++ (e.zero ++ more)))) := by
  have hrep : repZ e.zero 1 = e.zero := by simp [repZ]
  have hc : (decide (n * e.size + e.zero.length ≤ (a ++ (last ++ more)).length) && e.zero.all AVal.oneCell) = true := by
    rw [hzo, Bool.and_true]; apply decide_eq_true; simp only [List.length_append]; omega
  have hs : setAt (a ++ (last ++ more)) (n * e.size) e.zero = a ++ (e.zero ++ more) := by
    rw [setAt_split (by simp only [List.length_append]; omega), ← ha, List.take_left, ← List.drop_drop, List.drop_left, hz, ← hlast, List.drop_left]
  simp only [clearA, Nat.zero_add, hrep, storeCellsA, hr, hc, if_true, hs, Option.map_some]
  rfl

/-! ### parts of a slice that may have room behind it -/
theorem slice_to {σ : AMem} {sz r off n i z : Nat} {k : IntKind} (h : i ≤ n) : sliceM σ sz r off n none z none (some (.int k (i : Nat))) none = some (.slice r off i none z) := by
  have h2 : i ≤ limA σ r off n sz := by
    unfold limA
    split
    · exact Nat.le_trans h (Nat.le_max_left _ _)
    · exact h
  simp only [sliceM, boundA, Int.natCast_nonneg, Int.toNat_natCast, true_and, if_pos (show ((i : Nat) : Int) ≤ ((limA σ r off n sz : Nat) : Int) by omega), Nat.zero_mul, Nat.add_zero, Nat.sub_zero]
theorem slice_from {σ : AMem} {sz r off n i z : Nat} {k : IntKind} (h : i ≤ n) : sliceM σ sz r off n none z (some (.int k (i : Nat))) none none = some (.slice r (off + i * sz) (n - i) none z) := by
  simp only [sliceM, boundA, Int.natCast_nonneg, Int.toNat_natCast, true_and, if_pos (show ((i : Nat) : Int) ≤ ((n : Nat) : Int) by omega)]
theorem slice_three {σ : AMem} {sz r off n i j m z : Nat} {k k2 k3 : IntKind} (h : i ≤ j) (h2 : j ≤ m) (h3 : m ≤ n) : sliceM σ sz r off n none z (some (.int k (i : Nat))) (some (.int k2 (j : Nat))) (some (.int k3 (m : Nat))) = some (.slice r (off + i * sz) (j - i) (some (m - i)) z) := by
  simp only [sliceM, sliceA, boundA, Int.natCast_nonneg, Int.toNat_natCast, true_and, if_pos (show ((i : Nat) : Int) ≤ ((j : Nat) : Int) by omega), if_pos (show ((j : Nat) : Int) ≤ ((m : Nat) : Int) by omega), if_pos (show ((m : Nat) : Int) ≤ ((n : Nat) : Int) by omega)]
theorem slice_behind {σ : AMem} {sz r off n i j z : Nat} {k k2 : IntKind} {g : Bool} {cells : List AVal} (hs : 0 < sz) (hr : σ.get r = some (.row sz g cells)) (h : i ≤ j) (h2 : off + j * sz ≤ cells.length) : sliceM σ sz r off n none z (some (.int k (i : Nat))) (some (.int k2 (j : Nat))) none = some (.slice r (off + i * sz) (j - i) none z) := by
  have hl : j ≤ limA σ r off n sz := by
    simp only [limA, hr]
    refine Nat.le_trans ?_ (Nat.le_max_right _ _)
    rw [Nat.le_div_iff_mul_le hs]
    omega
  simp only [sliceM, boundA, Int.natCast_nonneg, Int.toNat_natCast, true_and, if_pos (show ((i : Nat) : Int) ≤ ((j : Nat) : Int) by omega), if_pos (show ((j : Nat) : Int) ≤ ((limA σ r off n sz : Nat) : Int) by omega)]
end Go.Proofs.YtjckhhkhgjbpaaaGreatDoor.Pale
