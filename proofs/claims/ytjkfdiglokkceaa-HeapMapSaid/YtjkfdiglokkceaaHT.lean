import Derived.Test.YtjkfdiglokkceaaHS
import Derived.Test.YtjkfdiglokkceaaPaleRead
open Nat renaming reduceLT → zLt, reduceLeDiff → zLe, reduceEqDiff → zEq, reduceAdd → zAd, reduceMul → zMu, reduceSub → zSu, reduceBEq → zBe
open Int renaming reduceEq → yEq, reduceLT → yLt, reduceLE → yLe, reduceToNat → yTn
/- Heaps: words and pages that are cleared. -/
set_option maxRecDepth 100000
set_option linter.unusedSimpArgs false
set_option linter.unusedVariables false
namespace Go.Proofs.Ytjkfdiglokkceaa
open Go Go.Proofs.Ytjkfdiglokkceaa.Pale
variable {k : Nat} {σ : AMem}

theorem repZ_one (z : AVal) (n : Nat) : repZ [z] n = List.replicate n z := by
  induction n with
  | zero => rfl
  | succ n ih => rw [repZ, ih]; rfl
theorem clear_set {ws : List Int} {b : Blk} {lo n : Nat} (h1 : b.at_ = (lo : Nat)) (h2 : b.size = (n : Nat)) (hb : lo + n ≤ ws.length) : setAt (intV ws) lo (List.replicate n (.int .i64 0)) = intV (clearW ws b) := by
  apply List.ext_getElem?
  intro j
  rw [setAt_get _ _ _ _ (by rw [List.length_replicate, intV_length]; exact hb), List.length_replicate]
  by_cases hj : j < ws.length
  · have hj2 : j < (clearW ws b).length := by rw [clearW_length]; exact hj
    rw [intV_get hj2, ← wdAt_lt hj2, wdAt_clear hj, h1, h2]
    by_cases e : lo ≤ j ∧ j < lo + n
    · rw [if_pos e, if_pos (by omega), List.getElem?_replicate, if_pos (by omega)]
    · rw [if_neg e, if_neg (by omega), intV_get hj, wdAt_lt hj]
  · rw [if_neg (by omega), List.getElem?_eq_none (by rw [intV_length]; omega), List.getElem?_eq_none (by rw [intV_length, clearW_length]; omega)]
theorem clear_words {wr lo n : Nat} {ws : List Int} {b : Blk} (mw : σ.get wr = some (.row 1 false (intV ws))) (h1 : b.at_ = (lo : Nat)) (h2 : b.size = (n : Nat)) (hn : 1 ≤ n) (hb : lo + n ≤ ws.length) : clearA (⟨.int .i64, 1, 8, [.int .i64 0]⟩ : TyI) σ (.slice wr lo n none 1) = some (.tuple [], σ.put wr (.row 1 false (intV (clearW ws b)))) := by
  have hc : (decide (lo + (List.replicate n (AVal.int .i64 0)).length ≤ (intV ws).length) && (List.replicate n (AVal.int .i64 0)).all AVal.oneCell) = true := by
    rw [List.length_replicate, intV_length, decide_eq_true hb, Bool.true_and, List.all_replicate]
    split <;> rfl
  simp only [clearA, if_neg (show ¬ n = 0 by omega), repZ_one, storeCellsA, mw, hc, if_true, Option.map_some, clear_set h1 h2 hb]
theorem HeapM.wordsTo {low : Nat} {sp pr wr : Nat} {pc wc : Option Nat} {its : List MItem} {ps : List Pg} {ws vs : List Int} (h : HeapM low σ sp pr pc wr wc its ps ws) (hl : vs.length = ws.length) : HeapM low (σ.put wr (.row 1 false (intV vs))) sp pr pc wr wc its ps vs := ⟨h.own.wordsTo hl, h.pi, h.ox⟩
theorem owords_exec {low sp pr wr : Nat} {pc : Option Nat} {its : List MItem} {ps : List Pg} {ws : List Int} {b : Blk} {lo n : Nat} (h : HeapM low σ sp pr pc wr none its ps ws) (h1 : b.at_ = (lo : Nat)) (h2 : b.size = (n : Nat)) (hb : lo + n ≤ ws.length) (hw : ws.length ≤ 100000) : callN lawProg (k + 1) (.func 61 [] []) [.ptr sp 0, .agg (blkC b)] σ = some (.slice wr lo n none 1, σ.push (.row 4 true (blkC b))) := by
  have w1 : IntKind.i64.wrap (((lo : Nat) : Int) + ((n : Nat) : Int)) = ((lo + n : Nat) : Int) := by rw [i64_id (by omega) (by omega)]; omega
  obtain ⟨x1, x2, x3⟩ := h.own.nx
  have hne : ¬ σ.next = sp := by omega
  have ms := h.own.ms
  simp only [blkC, h1, h2]
  have hsl : sliceM (σ.push (.row 4 true [.int .i64 (b.page : Nat), .int .i64 (b.slot : Nat), .int .i64 (lo : Nat), .int .i64 (n : Nat)])) 1 wr 0 ws.length none 1 (some (.int .i64 (lo : Nat))) (some (.int .i64 ((lo + n : Nat) : Int))) none = some (.slice wr lo n none 1) := by
    have := slice_behind (σ := σ.push (.row 4 true [.int .i64 (b.page : Nat), .int .i64 (b.slot : Nat), .int .i64 (lo : Nat), .int .i64 (n : Nat)])) (sz := 1) (r := wr) (off := 0) (n := ws.length) (i := lo) (j := lo + n) (z := 1) (k := .i64) (k2 := .i64) (g := false) (cells := intV ws) (by omega) (by rw [AMem.get_push, if_neg (by omega)]; exact h.own.mw) (by omega) (by rw [intV_length]; omega)
    rw [this, show 0 + lo * 1 = lo by omega, show lo + n - lo = n by omega]
  have run : ∃ T1, execC lawProg (callN lawProg k) k 61 18 (bodyOf Try.f61) (initT 0 [.ptr sp 0, .agg [.int .i64 (b.page : Nat), .int .i64 (b.slot : Nat), .int .i64 (lo : Nat), .int .i64 (n : Nat)]] .nil) σ = some (.ret, T1, σ.push (.row 4 true [.int .i64 (b.page : Nat), .int .i64 (b.slot : Nat), .int .i64 (lo : Nat), .int .i64 (n : Nat)])) ∧ T1.get 4 = some (.slice wr lo n none 1) := by
    simp only [bodyOf, Try.f61, Option.getD_some, initT, dx, reduceIte, zLt, zLe, zEq, zAd, zMu, zSu, zBe, yEq, yLt, yLe, yTn, reduceCtorEq, sx, fx61, ms, hne, w1, hsl]
    exact ⟨_, rfl, by simp only [Tr.get_set, zEq, reduceIte]⟩
  obtain ⟨T1, h3, h4⟩ := run
  exact q_call (first := []) (caps := []) fn61 rfl (by simp [Try.f61]) h3 (by simp) (res_one h4)
def zItem : MItem := ⟨[.int .u8 0, .int .i64 0], .vs .nil [], []⟩
theorem repZ_items (n : Nat) : repZ [AVal.int .u8 0, .int .i64 0, .vs .nil []] n = ((List.replicate n zItem).map MItem.cells).flatten := by
  induction n with
  | zero => rfl
  | succ n ih => rw [repZ, ih]; rfl
theorem clear_items {its : List MItem} {f n : Nat} (hf : f + n ≤ its.length) (hp : ∀ a, a ∈ its → a.pre.length = 2) : setAt ((its.map MItem.cells).flatten) (f * 3) (((List.replicate n zItem).map MItem.cells).flatten) = ((its.take f ++ (List.replicate n zItem ++ its.drop (f + n))).map MItem.cells).flatten := by
  have hz : (((List.replicate n zItem).map MItem.cells).flatten).length = n * 3 := by
    rw [items_len (fun a ha => by rw [List.eq_of_mem_replicate ha]; rfl), List.length_replicate]
  rw [setAt_split (by rw [hz, items_len hp]; omega), hz]
  have h3 := cells_three hp
  have ht := flat_take (sz := 3) (more := []) (i := f) h3 (by rw [List.length_map]; omega)
  have hd := flat_drop (sz := 3) (more := []) (i := f + n) h3 (by rw [List.length_map]; omega)
  rw [List.append_nil] at ht hd
  rw [List.append_nil] at hd
  rw [ht, show f * 3 + n * 3 = (f + n) * 3 by omega, hd, ← List.map_take, ← List.map_drop]
  simp only [List.map_append, List.flatten_append]
theorem clear_rows {its : List MItem} {f n r : Nat} (hr : r ∈ rowsOf (its.take f ++ (List.replicate n zItem ++ its.drop (f + n)))) : r ∈ rowsOf its := by
  have hz : rowsOf (List.replicate n zItem) = [] := by
    unfold rowsOf
    rw [List.flatMap_eq_nil_iff]
    intro a ha
    rw [List.eq_of_mem_replicate ha]
    rfl
  rw [rowsOf_append, rowsOf_append, hz, List.nil_append] at hr
  rcases List.mem_append.1 hr with h | h
  · exact (rowsOf_sub (List.take_sublist f its)).subset h
  · exact (rowsOf_sub (List.drop_sublist (f + n) its)).subset h
theorem HeapM.clearPages {low : Nat} {sp pr wr f n : Nat} {pc wc : Option Nat} {its : List MItem} {ps : List Pg} {ws : List Int} (h : HeapM low σ sp pr pc wr wc its ps ws) (hf : f + n ≤ ps.length) :
    HeapM low (σ.put pr (.row 3 true (((its.take f ++ (List.replicate n zItem ++ its.drop (f + n))).map MItem.cells).flatten))) sp pr pc wr wc (its.take f ++ (List.replicate n zItem ++ its.drop (f + n))) (setRun ps f n fun _ => noPg) ws := by
  have hil := pg_len h.pi
  have hz : rowsOf (List.replicate n zItem) = [] := by
    unfold rowsOf
    rw [List.flatMap_eq_nil_iff]
    intro a ha
    rw [List.eq_of_mem_replicate ha]
    rfl
  have hrows : rowsOf (its.take f ++ (List.replicate n zItem ++ its.drop (f + n))) = rowsOf (its.take f ++ its.drop (f + n)) := by
    rw [rowsOf_append, rowsOf_append, rowsOf_append, hz, List.nil_append]
  have hsub : (its.take f ++ its.drop (f + n)).Sublist its := by
    have h1 : its.take f ++ its.drop f = its := List.take_append_drop f its
    have h2 : (its.drop (f + n)).Sublist (its.drop f) := by
      rw [← List.drop_drop]
      exact List.drop_sublist _ _
    have h3 := List.Sublist.append (List.Sublist.refl (its.take f)) h2
    rwa [h1] at h3
  have hrs := rowsOf_sub hsub
  have hpn : pr ∉ rowsOf its := h.own.it.2.2
  refine ⟨h.own.items (by simp; omega) ⟨fun a ha => ?_, by rw [hrows]; exact h.own.it.2.1.sublist hrs, by rw [hrows]; exact fun hm => hpn (hrs.subset hm)⟩ ?_ ?_ (by rw [AMem.get_put, if_pos rfl]) (fun r hr => .inl (by rw [hrows] at hr; exact hrs.subset hr)) (by simp), ?_, fun a ha => ?_⟩
  · rcases List.mem_append.1 ha with h1 | h1
    · have hm := List.mem_of_mem_take h1
      exact (h.own.it.1 a hm).same (Nat.le_refl _) (by simp) fun r hr => by
        rw [AMem.get_put, if_neg]
        intro e
        exact hpn (by rw [e]; exact mem_rowsOf hm hr)
    · rcases List.mem_append.1 h1 with h2 | h2
      · rw [List.eq_of_mem_replicate h2]
        exact ⟨rfl, rfl, .inl ⟨.nil, rfl⟩⟩
      · have hm := List.mem_of_mem_drop h2
        exact (h.own.it.1 a hm).same (Nat.le_refl _) (by simp) fun r hr => by
          rw [AMem.get_put, if_neg]
          intro e
          exact hpn (by rw [e]; exact mem_rowsOf hm hr)
  · rw [AMem.get_put, if_neg (fun e => h.own.ne.1 e.symm)]
  · rw [AMem.get_put, if_neg h.own.ne.2.2]
  · unfold setRun
    rw [List.map_append, List.map_append, List.map_take, List.map_drop, h.pi, List.map_append, List.map_append, List.map_take, List.map_drop, List.append_assoc]
    congr 2
    rw [List.map_replicate, List.map_map]
    apply List.ext_getElem
    · simp
    · intro i h1 h2
      simp [MItem.pi, zItem, pgPI, noPg, boolV]
  · rcases List.mem_append.1 ha with h1 | h1
    · exact h.ox a (List.mem_of_mem_take h1)
    · rcases List.mem_append.1 h1 with h2 | h2
      · rw [List.eq_of_mem_replicate h2]
        exact .inl ⟨rfl, rfl⟩
      · exact h.ox a (List.mem_of_mem_drop h2)
theorem clear_pages {pr f n : Nat} {its : List MItem} (mp : σ.get pr = some (.row 3 true (its.map MItem.cells).flatten)) (hn : 1 ≤ n) (hf : f + n ≤ its.length) (hp : ∀ a, a ∈ its → a.pre.length = 2) : clearA (⟨.struct [(0, 5), (1, 3), (2, 77)], 3, 40, [.int .u8 0, .int .i64 0, .vs .nil []]⟩ : TyI) σ (.slice pr (f * 3) n none 3) = some (.tuple [], σ.put pr (.row 3 true (((its.take f ++ (List.replicate n zItem ++ its.drop (f + n))).map MItem.cells).flatten))) := by
  have hz : (((List.replicate n zItem).map MItem.cells).flatten).length = n * 3 := by
    rw [items_len (fun a ha => by rw [List.eq_of_mem_replicate ha]; rfl), List.length_replicate]
  have ha : (((List.replicate n zItem).map MItem.cells).flatten).all AVal.oneCell = true := by
    rw [List.all_eq_true]
    intro x hx
    obtain ⟨c, hc, hxc⟩ := List.mem_flatten.1 hx
    obtain ⟨a, ha, rfl⟩ := List.mem_map.1 hc
    rw [List.eq_of_mem_replicate ha] at hxc
    simp only [zItem, MItem.cells, List.cons_append, List.nil_append, List.mem_cons, List.not_mem_nil, or_false] at hxc
    rcases hxc with rfl | rfl | rfl <;> rfl
  have hc : (decide (f * 3 + (((List.replicate n zItem).map MItem.cells).flatten).length ≤ ((its.map MItem.cells).flatten).length) && (((List.replicate n zItem).map MItem.cells).flatten).all AVal.oneCell) = true := by
    rw [hz, items_len hp, ha, Bool.and_true]
    apply decide_eq_true
    omega
  simp only [clearA, if_neg (show ¬ n = 0 by omega), repZ_items, storeCellsA, mp, hc, if_true, Option.map_some, clear_items hf hp]
end Go.Proofs.Ytjkfdiglokkceaa

/- Heaps: the program's free. -/
set_option maxRecDepth 100000
set_option linter.unusedSimpArgs false
set_option linter.unusedVariables false
namespace Go.Proofs.Ytjkfdiglokkceaa
open Go Go.Proofs.Ytjkfdiglokkceaa.Pale
variable {k : Nat} {σ : AMem}

/-- Where a block that is found lies. -/
theorem blk_nat {ps : List Pg} {ws : List Int} {b : Blk} (hr : RightH ps ws) (hb : b ∈ blocksL ps) : ∃ lo n : Nat, b.at_ = (lo : Nat) ∧ b.size = (n : Nat) ∧ 1 ≤ n ∧ lo + n ≤ ws.length ∧ b.page < ps.length := by
  obtain ⟨h1, _, h3, _, h5, h6⟩ := blk_page hr.shape hb
  have := hr.len
  exact ⟨b.at_.toNat, b.size.toNat, by omega, by omega, by omega, by omega, h1⟩
set_option maxHeartbeats 1000000 in
theorem pfree_execF {low sp pr wr : Nat} {its : List MItem} {ps : List Pg} {ws : List Int} {a : Int} (h : HeapM low σ sp pr none wr none its ps ws) (hr : RightH ps ws) (hk : 4000 ≤ k) :
    ∃ σ', (∀ r, r < low → σ'.get r = σ.get r) ∧ σ.next ≤ σ'.next ∧
    ((findL ps a = none ∧ callN lawProg (k + 1) (.func 55 [] []) [.ptr sp 0, .int .i64 a] σ = some (.int .i64 7, σ') ∧ HeapM low σ' sp pr none wr none its ps ws ∧ Fr σ (hrows sp pr wr its) σ' (hrows sp pr wr its)) ∨
    (∃ b its', findL ps a = some b ∧ callN lawProg (k + 1) (.func 55 [] []) [.ptr sp 0, .int .i64 a] σ = some (.int .i64 0, σ') ∧ HeapM low σ' sp pr none wr none its' (freeL ps b) (clearW ws b) ∧ Fr σ (hrows sp pr wr its) σ' (hrows sp pr wr its'))) := by
  have hil := pg_len h.pi
  have hmany := hr.many
  have hwl := hr.len
  obtain ⟨σ1, hfind, ex1⟩ := find_exec (k := k - 1) (a := a) h hr.shape (by omega) (by omega)
  rw [show k - 1 + 1 = k by omega] at hfind
  have h1 := h.ext ex1
  obtain ⟨l1, l2, l3⟩ := h.own.lo
  obtain ⟨x1, x2, x3⟩ := h.own.nx
  have hx1 := ex1.1
  obtain ⟨c, hc⟩ : ∃ c, c = σ1.next := ⟨_, rfl⟩
  have qc1 : ¬ c = sp := by omega
  have qc2 : ¬ c = pr := by omega
  have qc3 : ¬ c = wr := by omega
  cases hf : findL ps a with
  | none =>
    rw [hf] at hfind
    simp only [Option.getD_none, Option.isSome_none, noBlk, blkC] at hfind
    obtain ⟨σ2, hσ2⟩ : ∃ m, m = (σ1.push (.row 4 true [.int .i64 0, .int .i64 0, .int .i64 0, .int .i64 0])).put c (.row 4 true [.int .i64 ((0 : Nat) : Int), .int .i64 ((0 : Nat) : Int), .int .i64 0, .int .i64 0]) := ⟨_, rfl⟩
    have ex2 : Ext σ1 σ2 := by rw [hσ2]; exact (Ext.push _ _).put _ _ (by omega)
    have hx2 := ex2.1
    refine ⟨σ2, fun q hq => by rw [ex2.2 q (by omega), ex1.2 q (by omega)], by omega, .inl ⟨rfl, ?_, h1.ext ex2, Fr.ext (ex1.trans ex2)⟩⟩
    have run : ∃ T1, execC lawProg (callN lawProg k) k 55 63 (bodyOf Try.f55) (initT 0 [.ptr sp 0, .int .i64 a] .nil) σ = some (.ret, T1, σ2) ∧ T1.get 4 = some (.int .i64 7) := by
      simp only [bodyOf, Try.f55, Option.getD_some, initT, dx, reduceIte, zLt, zLe, zEq, zAd, zMu, zSu, zBe, yEq, yLt, yLe, yTn, reduceCtorEq, sx, fx55, hfind, ← hc, ← hσ2]
      exact ⟨_, rfl, by simp only [Tr.get_set, zEq, reduceIte]⟩
    obtain ⟨T1, g1, g2⟩ := run
    exact q_call (first := []) (caps := []) fn55 rfl (by simp [Try.f55]) g1 (by simp) (res_one g2)
  | some b =>
    rw [hf] at hfind
    simp only [Option.getD_some, Option.isSome_some] at hfind
    obtain ⟨hbm, hba⟩ := findL_some hf
    obtain ⟨lo, n, hlo, hn, hn1, hln, hpg⟩ := blk_nat hr hbm
    obtain ⟨σ2, hσ2⟩ : ∃ m, m = (σ1.push (.row 4 true [.int .i64 0, .int .i64 0, .int .i64 0, .int .i64 0])).put c (.row 4 true (blkC b)) := ⟨_, rfl⟩
    have ex2 : Ext σ1 σ2 := by rw [hσ2]; exact (Ext.push _ _).put _ _ (by omega)
    have n2 : σ2.next = c + 1 := by rw [hσ2, hc]; simp
    have h2 := h1.ext ex2
    have gc2 : σ2.get c = some (.row 4 true (blkC b)) := by rw [hσ2, AMem.get_put, if_pos rfl]
    have hwds := owords_exec (k := k - 1) h2 hlo hn hln (by omega)
    rw [show k - 1 + 1 = k by omega] at hwds
    obtain ⟨σ3, hσ3⟩ : ∃ m, m = σ2.push (.row 4 true (blkC b)) := ⟨_, rfl⟩
    rw [← hσ3] at hwds
    have ex3 : Ext σ2 σ3 := by rw [hσ3]; exact Ext.push _ _
    have n3 : σ3.next = c + 2 := by rw [hσ3]; simp only [AMem.next_push]; omega
    have h3 := h2.ext ex3
    have hclr := clear_words h3.own.mw hlo hn hn1 hln
    obtain ⟨σ4, hσ4⟩ : ∃ m, m = σ3.put wr (.row 1 false (intV (clearW ws b))) := ⟨_, rfl⟩
    rw [← hσ4] at hclr
    have h4 : HeapM low σ4 sp pr none wr none its ps (clearW ws b) := by rw [hσ4]; exact h3.wordsTo (clearW_length _ _)
    have n4 : σ4.next = c + 2 := by rw [hσ4]; simpa using n3
    have gc4 : σ4.get c = some (.row 4 true (blkC b)) := by rw [hσ4, AMem.get_put, if_neg (by omega), ex3.2 c (by omega)]; exact gc2
    have fr4 : ∀ q, q < low → σ4.get q = σ.get q := fun q hq => by rw [hσ4, AMem.get_put, if_neg (by omega), ex3.2 q (by omega), ex2.2 q (by omega), ex1.2 q (by omega)]
    have F4 : Fr σ (hrows sp pr wr its) σ4 (hrows sp pr wr its) := by rw [hσ4]; exact (Fr.ext (ex1.trans (ex2.trans ex3))).own _ (by simp [hrows])
    have ms4 := h4.own.ms
    have mp4 := h4.own.mp
    have hpi : b.page < its.length := by omega
    have hlt : ((b.page : Nat) : Int) < ((its.length : Nat) : Int) := by omega
    have hg0 := pg_get (j := 0) h.pi hpi (by omega)
    have hg1 := pg_get (j := 1) h.pi hpi (by omega)
    have hg2 := pg_get (j := 2) h.pi hpi (by omega)
    simp only [List.getElem?_cons_succ, List.getElem?_cons_zero, Nat.add_zero] at hg0 hg1 hg2
    have hlen := items_len (pg_two h.pi)
    obtain ⟨_, hbp, _⟩ := blk_page hr.shape hbm
    by_cases k2 : (pgAt ps b.page).kind = 2
    · have hb1 : ((pgAt ps b.page).kind == 2) = true := by rw [k2]; rfl
      obtain ⟨hd1, hd2, _⟩ := head_more hr.shape hpg k2
      obtain ⟨m, hm⟩ : ∃ m : Nat, (pgAt ps b.page).n = (m : Nat) := ⟨(pgAt ps b.page).n.toNat, by omega⟩
      rw [hm] at hg1
      have hmf : b.page + m ≤ its.length := by omega
      have w1 : IntKind.i64.wrap (((b.page : Nat) : Int) + ((m : Nat) : Int)) = ((b.page + m : Nat) : Int) := by rw [i64_id (by omega) (by omega)]; omega
      have hsl : sliceM σ4 3 pr 0 its.length none 3 (some (.int .i64 (b.page : Nat))) (some (.int .i64 ((b.page + m : Nat) : Int))) none = some (.slice pr (b.page * 3) m none 3) := by
        have := slice_behind (σ := σ4) (sz := 3) (r := pr) (off := 0) (n := its.length) (i := b.page) (j := b.page + m) (z := 3) (k := .i64) (k2 := .i64) (g := true) (cells := (its.map MItem.cells).flatten) (by omega) mp4 (by omega) (by rw [hlen]; omega)
        rw [this, Nat.zero_add, show b.page + m - b.page = m by omega]
      have hcp := clear_pages mp4 (show 1 ≤ m by omega) hmf (pg_two h.pi)
      have hM := h4.clearPages (f := b.page) (n := m) (by omega)
      refine ⟨σ4.put pr (.row 3 true (((its.take b.page ++ (List.replicate m zItem ++ its.drop (b.page + m))).map MItem.cells).flatten)), fun q hq => ?_, ?_, .inr ⟨b, its.take b.page ++ (List.replicate m zItem ++ its.drop (b.page + m)), rfl, ?_, ?_, (F4.own _ (by simp [hrows])).into fun q hq => ?_⟩⟩
      · rw [AMem.get_put, if_neg (by omega)]; exact fr4 q hq
      · simp only [AMem.next_put]; omega
      · have run : ∃ T1, execC lawProg (callN lawProg k) k 55 63 (bodyOf Try.f55) (initT 0 [.ptr sp 0, .int .i64 a] .nil) σ = some (.ret, T1, σ4.put pr (.row 3 true (((its.take b.page ++ (List.replicate m zItem ++ its.drop (b.page + m))).map MItem.cells).flatten))) ∧ T1.get 4 = some (.int .i64 0) := by
          unfold blkC at hfind hσ2 gc2 gc4 hwds
          simp only [bodyOf, Try.f55, Option.getD_some, initT, dx, reduceIte, zLt, zLe, zEq, zAd, zMu, zSu, zBe, yEq, yLt, yLe, yTn, reduceCtorEq, sx, fx55, hfind, ← hc, ← hσ2]
          simp only [dx, reduceIte, zLt, zLe, zEq, zAd, zMu, zSu, zBe, yEq, yLt, yLe, yTn, reduceCtorEq, sx, fx55, gc2, hwds, hclr, ms4, mp4, gc4, hlt, hg0, hg1, hb1, w1, hsl, hcp, Int.natCast_nonneg, Int.toNat_natCast]
          exact ⟨_, rfl, by simp only [Tr.get_set, zEq, reduceIte]⟩
        obtain ⟨T1, g1, g2⟩ := run
        exact q_call (first := []) (caps := []) fn55 rfl (by simp [Try.f55]) g1 (by simp) (res_one g2)
      · unfold freeL
        rw [if_pos k2, hm, Int.toNat_natCast]
        exact hM
      · simp only [hrows, List.mem_cons] at hq ⊢
        rcases hq with h6 | h6 | h6 | h6
        · exact .inl (.inl h6)
        · exact .inl (.inr (.inl h6))
        · exact .inl (.inr (.inr (.inl h6)))
        · exact .inl (.inr (.inr (.inr (clear_rows h6))))
    · have hb1 : ((pgAt ps b.page).kind == 2) = false := by rw [beq_eq_false_iff_ne]; exact k2
      rcases mem_pgB.1 hbp with ⟨e, _⟩ | ⟨k1, s, hs, hu, hbs⟩
      · exact absurd e k2
      have hslot : b.slot = s := by rw [hbs]; rfl
      have hu0 : (pgAt ps b.page).used ≠ [] := fun e => by rw [e] at hs; simp at hs
      obtain ⟨r, cap, r1, r2, r3, r4⟩ := own_used h4.own h4.pi h4.ox hpi hu0
      rw [r1] at hg2
      obtain ⟨us, hus⟩ : ∃ u, u = (pgAt ps b.page).used.set s false := ⟨_, rfl⟩
      obtain ⟨σ5, hσ5⟩ : ∃ m, m = σ4.put r (.row 1 false ((boolV (pgAt ps b.page).used).set s (.bool false))) := ⟨_, rfl⟩
      have hM5 := h4.slot (j := s) hpi r1 false
      rw [← hσ5] at hM5
      obtain ⟨its5, hM5, hcells⟩ := hM5
      have F5 : Fr σ (hrows sp pr wr its) σ5 (hrows sp pr wr its5) := by
        rw [hσ5]
        exact (F4.own _ (by simp only [hrows, List.mem_cons]; exact .inr (.inr (.inr (mem_rowsOf (List.getElem_mem hpi) (by rw [r1]; simp [rowOf])))))).rows (rows_cells hcells)
      have qrp : ¬ r = pr := fun e => h4.own.it.2.2 (by rw [← e]; exact mem_rowsOf (List.getElem_mem hpi) (by rw [r1]; simp [rowOf]))
      have mp5 : σ5.get pr = some (.row 3 true (its.map MItem.cells).flatten) := by rw [hσ5, AMem.get_put, if_neg qrp]; exact mp4
      have gr5 : σ5.get r = some (.row 1 false (boolV us)) := by rw [hσ5, AMem.get_put, if_pos rfl, hus, boolV_set]
      have hul : us.length = (pgAt ps b.page).used.length := by rw [hus, List.length_set]
      have hsc := small_cases (hr.shape b.page hpg) k1
      have hsnap : snapF false σ5 snapDepth (.slice r 0 us.length cap 1) = some (.vs .some (boolV us), [r]) := snap_ones (d := 10) (more := []) (by rw [boolV_length]) (boolV_pure _) (by rw [List.append_nil]; exact gr5)
      rw [hul] at hsnap
      have hcon := contains_call (k := k) hsnap (by omega) (by omega)
      have hlts : ((s : Nat) : Int) < (((pgAt ps b.page).used.length : Nat) : Int) := by omega
      have hin : s + 1 ≤ (pgAt ps b.page).used.length := by omega
      have n5 : σ5.next = c + 2 := by rw [hσ5]; simpa using n4
      have hrl : low ≤ r := r2
      have fr5 : ∀ q, q < low → σ5.get q = σ.get q := fun q hq => by rw [hσ5, AMem.get_put, if_neg (by omega)]; exact fr4 q hq
      have husA : useAt (pgAt ps b.page) s false = { pgAt ps b.page with used := us } := by unfold useAt; rw [hus]
      cases hany : us.any id with
      | true =>
        rw [hany] at hcon
        refine ⟨σ5, fr5, by omega, .inr ⟨b, its5, rfl, ?_, ?_, F5⟩⟩
        · have run : ∃ T1, execC lawProg (callN lawProg k) k 55 63 (bodyOf Try.f55) (initT 0 [.ptr sp 0, .int .i64 a] .nil) σ = some (.ret, T1, σ5) ∧ T1.get 4 = some (.int .i64 0) := by
            unfold blkC at hfind hσ2 gc2 gc4 hwds
            rw [hslot] at hfind hσ2 gc2 gc4 hwds
            simp only [bodyOf, Try.f55, Option.getD_some, initT, dx, reduceIte, zLt, zLe, zEq, zAd, zMu, zSu, zBe, yEq, yLt, yLe, yTn, reduceCtorEq, sx, fx55, hfind, ← hc, ← hσ2]
            simp only [dx, reduceIte, zLt, zLe, zEq, zAd, zMu, zSu, zBe, yEq, yLt, yLe, yTn, reduceCtorEq, sx, fx55, gc2, hwds, hclr, ms4, mp4, gc4, hlt, hg0, hg2, r4, hlts, hin, boolV_length, hb1, Int.natCast_nonneg, Int.toNat_natCast, ← hσ5]
            simp only [dx, reduceIte, zLt, zLe, zEq, zAd, zMu, zSu, zBe, yEq, yLt, yLe, yTn, reduceCtorEq, sx, fx55, mp5, hg2, hcon]
            exact ⟨_, rfl, by simp only [Tr.get_set, zEq, reduceIte]⟩
          obtain ⟨T1, g1, g2⟩ := run
          exact q_call (first := []) (caps := []) fn55 rfl (by simp [Try.f55]) g1 (by simp) (res_one g2)
        · unfold freeL
          rw [if_neg k2, hslot, husA, hany, if_pos rfl, ← husA]
          exact hM5
      | false =>
        rw [hany] at hcon
        have hM6 := hM5.record (σ1 := σ5) (i := b.page) (by rw [List.length_set]; omega) (Ext.refl _) (by omega) noPg (.vs .nil []) (.inl ⟨rfl, rfl⟩)
        rw [hcells, List.set_set] at hM6
        have hin3 : b.page * 3 + 3 ≤ its.length * 3 := by omega
        obtain ⟨σ6, hσ6⟩ : ∃ m, m = σ5.put pr (.row 3 true (((((its.map MItem.cells).flatten).set (b.page * 3) (.int .u8 0)).set (b.page * 3 + 1) (.int .i64 0)).set (b.page * 3 + 1 + 1) (.vs .nil []))) := ⟨_, rfl⟩
        have hM6' : HeapM low σ6 sp pr none wr none (its5.set b.page ⟨[.int .u8 noPg.kind, .int .i64 noPg.n], .vs .nil [], boolV noPg.used⟩) (ps.set b.page noPg) (clearW ws b) := by rw [hσ6]; exact hM6
        refine ⟨σ6, fun q hq => ?_, ?_, .inr ⟨b, its5.set b.page ⟨[.int .u8 noPg.kind, .int .i64 noPg.n], .vs .nil [], boolV noPg.used⟩, rfl, ?_, ?_, by rw [hσ6]; exact F5.set (fun q hq => by simp [rowOf] at hq) _⟩⟩
        · rw [hσ6, AMem.get_put, if_neg (by omega)]; exact fr5 q hq
        · rw [hσ6]; simp only [AMem.next_put]; omega
        · have run : ∃ T1, execC lawProg (callN lawProg k) k 55 63 (bodyOf Try.f55) (initT 0 [.ptr sp 0, .int .i64 a] .nil) σ = some (.ret, T1, σ6) ∧ T1.get 4 = some (.int .i64 0) := by
            unfold blkC at hfind hσ2 gc2 gc4 hwds
            rw [hslot] at hfind hσ2 gc2 gc4 hwds
            simp only [bodyOf, Try.f55, Option.getD_some, initT, dx, reduceIte, zLt, zLe, zEq, zAd, zMu, zSu, zBe, yEq, yLt, yLe, yTn, reduceCtorEq, sx, fx55, hfind, ← hc, ← hσ2]
            simp only [dx, reduceIte, zLt, zLe, zEq, zAd, zMu, zSu, zBe, yEq, yLt, yLe, yTn, reduceCtorEq, sx, fx55, gc2, hwds, hclr, ms4, mp4, gc4, hlt, hg0, hg2, r4, hlts, hin, boolV_length, hb1, Int.natCast_nonneg, Int.toNat_natCast, ← hσ5]
            simp only [dx, reduceIte, zLt, zLe, zEq, zAd, zMu, zSu, zBe, yEq, yLt, yLe, yTn, reduceCtorEq, sx, fx55, mp5, hg2, hcon, hlen, hin3, ← hσ6]
            exact ⟨_, rfl, by simp only [Tr.get_set, zEq, reduceIte]⟩
          obtain ⟨T1, g1, g2⟩ := run
          exact q_call (first := []) (caps := []) fn55 rfl (by simp [Try.f55]) g1 (by simp) (res_one g2)
        · unfold freeL
          rw [if_neg k2, hslot, husA, hany, if_neg (by simp)]
          exact hM6'
theorem pfree_exec {low sp pr wr : Nat} {its : List MItem} {ps : List Pg} {ws : List Int} {a : Int} (h : HeapM low σ sp pr none wr none its ps ws) (hr : RightH ps ws) (hk : 4000 ≤ k) :
    ∃ σ', (∀ r, r < low → σ'.get r = σ.get r) ∧ σ.next ≤ σ'.next ∧
    ((findL ps a = none ∧ callN lawProg (k + 1) (.func 55 [] []) [.ptr sp 0, .int .i64 a] σ = some (.int .i64 7, σ') ∧ HeapM low σ' sp pr none wr none its ps ws) ∨
    (∃ b its', findL ps a = some b ∧ callN lawProg (k + 1) (.func 55 [] []) [.ptr sp 0, .int .i64 a] σ = some (.int .i64 0, σ') ∧ HeapM low σ' sp pr none wr none its' (freeL ps b) (clearW ws b))) := by
  obtain ⟨σ', g1, g2, ⟨a, b, c, _⟩ | ⟨b, its', c, d, e, _⟩⟩ := pfree_execF (k := k) (a := a) h hr hk
  · exact ⟨σ', g1, g2, .inl ⟨a, b, c⟩⟩
  · exact ⟨σ', g1, g2, .inr ⟨b, its', c, d, e⟩⟩
end Go.Proofs.Ytjkfdiglokkceaa

/- Heaps: the program's put. -/
set_option maxRecDepth 100000
set_option linter.unusedSimpArgs false
set_option linter.unusedVariables false
namespace Go.Proofs.Ytjkfdiglokkceaa
open Go Go.Proofs.Ytjkfdiglokkceaa.Pale
variable {k : Nat} {σ : AMem}

/-- The words after a list was put into a block. -/
def putW (ws : List Int) (b : Blk) (l : List Int) : List Int := (List.range ws.length).map fun (k : Nat) => if b.at_ ≤ (k : Int) ∧ (k : Int) < b.at_ + b.size then wdAt l (k - b.at_.toNat) else wdAt ws k
theorem putW_length (ws : List Int) (b : Blk) (l : List Int) : (putW ws b l).length = ws.length := by simp [putW]
theorem wdAt_put {ws : List Int} {b : Blk} {l : List Int} {k : Nat} (hk : k < ws.length) : wdAt (putW ws b l) k = if b.at_ ≤ (k : Int) ∧ (k : Int) < b.at_ + b.size then wdAt l (k - b.at_.toNat) else wdAt ws k := by
  unfold putW
  conv => lhs; unfold wdAt
  rw [List.getElem?_map, List.getElem?_range hk]
  rfl
theorem wdAt_none {l : List Int} {k : Nat} (h : l.length ≤ k) : wdAt l k = 0 := by
  unfold wdAt
  rw [List.getElem?_eq_none h]
  rfl
theorem put_set {ws l : List Int} {b : Blk} {lo n : Nat} (h1 : b.at_ = (lo : Nat)) (h2 : b.size = (n : Nat)) (hb : lo + n ≤ ws.length) (hl : l.length ≤ n) : setAt (intV (clearW ws b)) lo (intV l) = intV (putW ws b l) := by
  apply List.ext_getElem?
  intro j
  rw [setAt_get _ _ _ _ (by rw [intV_length, intV_length, clearW_length]; omega), intV_length]
  by_cases hj : j < ws.length
  · have hj2 : j < (clearW ws b).length := by rw [clearW_length]; exact hj
    have hj3 : j < (putW ws b l).length := by rw [putW_length]; exact hj
    rw [intV_get hj3, ← wdAt_lt hj3, wdAt_put hj, h1, h2, Int.toNat_natCast]
    by_cases e : lo ≤ j ∧ j < lo + l.length
    · have hjl : j - lo < l.length := by omega
      rw [if_pos e, if_pos (by omega), intV_get hjl, wdAt_lt hjl]
    · rw [if_neg e, intV_get hj2, ← wdAt_lt hj2, wdAt_clear hj, h1, h2]
      by_cases e2 : lo ≤ j ∧ j < lo + n
      · rw [if_pos (by omega), if_pos (by omega), wdAt_none (by omega)]
      · rw [if_neg (by omega), if_neg (by omega)]
  · rw [if_neg (by omega), List.getElem?_eq_none (by rw [intV_length, clearW_length]; omega), List.getElem?_eq_none (by rw [intV_length, putW_length]; omega)]
theorem put_nil {ws : List Int} {b : Blk} (h : 0 ≤ b.at_) : putW ws b [] = clearW ws b := by
  unfold putW clearW
  apply List.map_congr_left
  intro k _
  split
  · exact wdAt_none (by simp)
  · rfl
theorem copy_words {wr lo n : Nat} {K : VK} {ws l : List Int} {b : Blk} (mw : σ.get wr = some (.row 1 false (intV (clearW ws b)))) (h1 : b.at_ = (lo : Nat)) (h2 : b.size = (n : Nat)) (hn : 1 ≤ n) (hb : lo + n ≤ ws.length) (hl : l.length ≤ n) : ∃ c σ', copyA (⟨.int .i64, 1, 8, [.int .i64 0]⟩ : TyI) σ (.slice wr lo n none 1) (.vs K (intV l)) = some (.int .i64 c, σ') ∧ (σ' = σ ∧ putW ws b l = clearW ws b ∨ σ' = σ.put wr (.row 1 false (intV (putW ws b l)))) := by
  by_cases h0 : l.length = 0
  · obtain rfl : l = [] := List.eq_nil_of_length_eq_zero h0
    refine ⟨0, σ, ?_, .inl ⟨rfl, put_nil (by omega)⟩⟩
    simp only [copyA, source_ints, if_pos (show Nat.min ([] : List Int).length n = 0 from Nat.min_eq_left (by simp))]
  · have hm : Nat.min l.length n = l.length := Nat.min_eq_left hl
    have hc : (decide (lo + (intV l).length ≤ (intV (clearW ws b)).length) && (intV l).all AVal.oneCell) = true := by
      rw [one_ints, Bool.and_true]
      apply decide_eq_true
      rw [intV_length, intV_length, clearW_length]; omega
    refine ⟨(l.length : Nat), _, ?_, .inr rfl⟩
    have ht : (intV l).take (l.length * 1) = intV l := by rw [Nat.mul_one, List.take_of_length_le (by rw [intV_length]; omega)]
    simp only [copyA, source_ints, hm, if_neg h0, ht, storeCellsA, mw, hc, if_true, put_set h1 h2 hb hl, Option.map_some]
set_option maxHeartbeats 1000000 in
theorem pput_execF {low sp pr wr : Nat} {its : List MItem} {ps : List Pg} {ws l : List Int} {a : Int} {K : VK} (h : HeapM low σ sp pr none wr none its ps ws) (hr : RightH ps ws) (hl : l.length ≤ 100000) (hk : 4000 ≤ k) (hkl : l.length + 8 ≤ k) :
    ∃ σ', (∀ r, r < low → σ'.get r = σ.get r) ∧ σ.next ≤ σ'.next ∧
    ((findL ps a = none ∧ callN lawProg (k + 1) (.func 59 [] []) [.ptr sp 0, .int .i64 a, .vs K (intV l)] σ = some (.int .i64 7, σ') ∧ HeapM low σ' sp pr none wr none its ps ws ∧ Fr σ (hrows sp pr wr its) σ' (hrows sp pr wr its)) ∨
    (∃ b, findL ps a = some b ∧ ((l.all wordQ = false ∧ callN lawProg (k + 1) (.func 59 [] []) [.ptr sp 0, .int .i64 a, .vs K (intV l)] σ = some (.int .i64 3, σ') ∧ HeapM low σ' sp pr none wr none its ps ws ∧ Fr σ (hrows sp pr wr its) σ' (hrows sp pr wr its)) ∨
      (l.all wordQ = true ∧ ((l.length : Nat) : Int) > b.size ∧ callN lawProg (k + 1) (.func 59 [] []) [.ptr sp 0, .int .i64 a, .vs K (intV l)] σ = some (.int .i64 5, σ') ∧ HeapM low σ' sp pr none wr none its ps ws ∧ Fr σ (hrows sp pr wr its) σ' (hrows sp pr wr its)) ∨
      (l.all wordQ = true ∧ ¬ ((l.length : Nat) : Int) > b.size ∧ callN lawProg (k + 1) (.func 59 [] []) [.ptr sp 0, .int .i64 a, .vs K (intV l)] σ = some (.int .i64 0, σ') ∧ HeapM low σ' sp pr none wr none its ps (putW ws b l) ∧ Fr σ (hrows sp pr wr its) σ' (hrows sp pr wr its))))) := by
  have hil := pg_len h.pi
  have hmany := hr.many
  have hwl := hr.len
  obtain ⟨σ1, hfind, ex1⟩ := find_exec (k := k - 1) (a := a) h hr.shape (by omega) (by omega)
  rw [show k - 1 + 1 = k by omega] at hfind
  have h1 := h.ext ex1
  obtain ⟨l1, l2, l3⟩ := h.own.lo
  obtain ⟨x1, x2, x3⟩ := h.own.nx
  have hx1 := ex1.1
  obtain ⟨c, hc⟩ : ∃ c, c = σ1.next := ⟨_, rfl⟩
  have har := fun (σ : AMem) => areWord_call (k := k) (σ := σ) (K := K) (l := l) hkl hl
  cases hf : findL ps a with
  | none =>
    rw [hf] at hfind
    simp only [Option.getD_none, Option.isSome_none, noBlk, blkC] at hfind
    obtain ⟨σ2, hσ2⟩ : ∃ m, m = (σ1.push (.row 4 true [.int .i64 0, .int .i64 0, .int .i64 0, .int .i64 0])).put c (.row 4 true [.int .i64 ((0 : Nat) : Int), .int .i64 ((0 : Nat) : Int), .int .i64 0, .int .i64 0]) := ⟨_, rfl⟩
    have ex2 : Ext σ1 σ2 := by rw [hσ2]; exact (Ext.push _ _).put _ _ (by omega)
    have hx2 := ex2.1
    refine ⟨σ2, fun q hq => by rw [ex2.2 q (by omega), ex1.2 q (by omega)], by omega, .inl ⟨rfl, ?_, h1.ext ex2, Fr.ext (ex1.trans ex2)⟩⟩
    have run : ∃ T1, execC lawProg (callN lawProg k) k 59 36 (bodyOf Try.f59) (initT 0 [.ptr sp 0, .int .i64 a, .vs K (intV l)] .nil) σ = some (.ret, T1, σ2) ∧ T1.get 6 = some (.int .i64 7) := by
      simp only [bodyOf, Try.f59, Option.getD_some, initT, dx, reduceIte, zLt, zLe, zEq, zAd, zMu, zSu, zBe, yEq, yLt, yLe, yTn, reduceCtorEq, sx, fx59, hfind, ← hc, ← hσ2]
      exact ⟨_, rfl, by simp only [Tr.get_set, zEq, reduceIte]⟩
    obtain ⟨T1, g1, g2⟩ := run
    exact q_call (first := []) (caps := []) fn59 rfl (by simp [Try.f59]) g1 (by simp) (res_one g2)
  | some b =>
    rw [hf] at hfind
    simp only [Option.getD_some, Option.isSome_some] at hfind
    obtain ⟨hbm, hba⟩ := findL_some hf
    obtain ⟨lo, n, hlo, hn, hn1, hln, hpg⟩ := blk_nat hr hbm
    obtain ⟨σ2, hσ2⟩ : ∃ m, m = (σ1.push (.row 4 true [.int .i64 0, .int .i64 0, .int .i64 0, .int .i64 0])).put c (.row 4 true (blkC b)) := ⟨_, rfl⟩
    have ex2 : Ext σ1 σ2 := by rw [hσ2]; exact (Ext.push _ _).put _ _ (by omega)
    have n2 : σ2.next = c + 1 := by rw [hσ2, hc]; simp
    have h2 := h1.ext ex2
    have gc2 : σ2.get c = some (.row 4 true (blkC b)) := by rw [hσ2, AMem.get_put, if_pos rfl]
    obtain ⟨σ3, hσ3⟩ : ∃ m, m = σ2.push (.row 1 false [.func 78 [] []]) := ⟨_, rfl⟩
    have ex3 : Ext σ2 σ3 := by rw [hσ3]; exact Ext.push _ _
    have n3 : σ3.next = c + 2 := by rw [hσ3]; simp only [AMem.next_push]; omega
    have h3 := h2.ext ex3
    have gc3 : σ3.get c = some (.row 4 true (blkC b)) := by rw [ex3.2 c (by omega)]; exact gc2
    have fr3 : ∀ q, q < low → σ3.get q = σ.get q := fun q hq => by rw [ex3.2 q (by omega), ex2.2 q (by omega), ex1.2 q (by omega)]
    unfold blkC at hfind hσ2 gc2 gc3
    cases hall : l.all wordQ with
    | false =>
      rw [hall] at har
      refine ⟨σ3, fr3, by omega, .inr ⟨b, rfl, .inl ⟨rfl, ?_, h3, Fr.ext (ex1.trans (ex2.trans ex3))⟩⟩⟩
      have run : ∃ T1, execC lawProg (callN lawProg k) k 59 36 (bodyOf Try.f59) (initT 0 [.ptr sp 0, .int .i64 a, .vs K (intV l)] .nil) σ = some (.ret, T1, σ3) ∧ T1.get 6 = some (.int .i64 3) := by
        simp only [bodyOf, Try.f59, Option.getD_some, initT, dx, reduceIte, zLt, zLe, zEq, zAd, zMu, zSu, zBe, yEq, yLt, yLe, yTn, reduceCtorEq, sx, fx59, hfind, ← hc, ← hσ2, har, ← hσ3]
        exact ⟨_, rfl, by simp only [Tr.get_set, zEq, reduceIte]⟩
      obtain ⟨T1, g1, g2⟩ := run
      exact q_call (first := []) (caps := []) fn59 rfl (by simp [Try.f59]) g1 (by simp) (res_one g2)
    | true =>
      rw [hall] at har
      by_cases hgt : ((l.length : Nat) : Int) > b.size
      · refine ⟨σ3, fr3, by omega, .inr ⟨b, rfl, .inr (.inl ⟨rfl, hgt, ?_, h3, Fr.ext (ex1.trans (ex2.trans ex3))⟩)⟩⟩
        have run : ∃ T1, execC lawProg (callN lawProg k) k 59 36 (bodyOf Try.f59) (initT 0 [.ptr sp 0, .int .i64 a, .vs K (intV l)] .nil) σ = some (.ret, T1, σ3) ∧ T1.get 6 = some (.int .i64 5) := by
          simp only [bodyOf, Try.f59, Option.getD_some, initT, dx, reduceIte, zLt, zLe, zEq, zAd, zMu, zSu, zBe, yEq, yLt, yLe, yTn, reduceCtorEq, sx, fx59, hfind, ← hc, ← hσ2, har, ← hσ3]
          simp only [dx, reduceIte, zLt, zLe, zEq, zAd, zMu, zSu, zBe, yEq, yLt, yLe, yTn, reduceCtorEq, sx, fx59, gc3, intV_length, hgt]
          exact ⟨_, rfl, by simp only [Tr.get_set, zEq, reduceIte]⟩
        obtain ⟨T1, g1, g2⟩ := run
        exact q_call (first := []) (caps := []) fn59 rfl (by simp [Try.f59]) g1 (by simp) (res_one g2)
      · have hwds := owords_exec (k := k - 1) h3 hlo hn hln (by omega)
        rw [show k - 1 + 1 = k by omega] at hwds
        obtain ⟨σ4, hσ4⟩ : ∃ m, m = σ3.push (.row 4 true (blkC b)) := ⟨_, rfl⟩
        rw [← hσ4] at hwds
        have ex4 : Ext σ3 σ4 := by rw [hσ4]; exact Ext.push _ _
        have n4 : σ4.next = c + 3 := by rw [hσ4]; simp only [AMem.next_push]; omega
        have h4 := h3.ext ex4
        have hclr := clear_words h4.own.mw hlo hn hn1 hln
        obtain ⟨σ5, hσ5⟩ : ∃ m, m = σ4.put wr (.row 1 false (intV (clearW ws b))) := ⟨_, rfl⟩
        rw [← hσ5] at hclr
        have h5 : HeapM low σ5 sp pr none wr none its ps (clearW ws b) := by rw [hσ5]; exact h4.wordsTo (clearW_length _ _)
        have n5 : σ5.next = c + 3 := by rw [hσ5]; simpa using n4
        have gc5 : σ5.get c = some (.row 4 true (blkC b)) := by rw [hσ5, AMem.get_put, if_neg (by omega), ex4.2 c (by omega)]; exact gc3
        have fr5 : ∀ q, q < low → σ5.get q = σ.get q := fun q hq => by rw [hσ5, AMem.get_put, if_neg (by omega), ex4.2 q (by omega)]; exact fr3 q hq
        have hwds2 := owords_exec (k := k - 1) h5 hlo hn (by rw [clearW_length]; exact hln) (by rw [clearW_length]; omega)
        rw [show k - 1 + 1 = k by omega] at hwds2
        obtain ⟨σ6, hσ6⟩ : ∃ m, m = σ5.push (.row 4 true (blkC b)) := ⟨_, rfl⟩
        rw [← hσ6] at hwds2
        have ex6 : Ext σ5 σ6 := by rw [hσ6]; exact Ext.push _ _
        have h6 := h5.ext ex6
        have hx6 := ex6.1
        obtain ⟨cn, σ7, hcp, h7⟩ := copy_words (K := K) (l := l) h6.own.mw hlo hn hn1 hln (by omega)
        have F6 : Fr σ (hrows sp pr wr its) σ6 (hrows sp pr wr its) := by
          refine Fr.trans (O1 := hrows sp pr wr its) ?_ (Fr.ext ex6)
          rw [hσ5]
          exact (Fr.ext (ex1.trans (ex2.trans (ex3.trans ex4)))).own _ (by simp [hrows])
        have F7 : Fr σ (hrows sp pr wr its) σ7 (hrows sp pr wr its) := by
          rcases h7 with ⟨rfl, e⟩ | rfl
          · exact F6
          · exact F6.own _ (by simp [hrows])
        have h8 : HeapM low σ7 sp pr none wr none its ps (putW ws b l) ∧ (∀ q, q < low → σ7.get q = σ6.get q) ∧ σ7.next = σ6.next := by
          rcases h7 with ⟨rfl, e⟩ | rfl
          · rw [e]; exact ⟨h6, fun _ _ => rfl, rfl⟩
          · exact ⟨h6.wordsTo (by rw [putW_length, clearW_length]), fun q hq => by rw [AMem.get_put, if_neg (by omega)], by simp⟩
        refine ⟨σ7, fun q hq => by rw [h8.2.1 q hq, ex6.2 q (by omega)]; exact fr5 q hq, by rw [h8.2.2]; omega, .inr ⟨b, rfl, .inr (.inr ⟨rfl, hgt, ?_, h8.1, F7⟩)⟩⟩
        unfold blkC at gc5 hwds hwds2
        have run : ∃ T1, execC lawProg (callN lawProg k) k 59 36 (bodyOf Try.f59) (initT 0 [.ptr sp 0, .int .i64 a, .vs K (intV l)] .nil) σ = some (.ret, T1, σ7) ∧ T1.get 6 = some (.int .i64 0) := by
          simp only [bodyOf, Try.f59, Option.getD_some, initT, dx, reduceIte, zLt, zLe, zEq, zAd, zMu, zSu, zBe, yEq, yLt, yLe, yTn, reduceCtorEq, sx, fx59, hfind, ← hc, ← hσ2, har, ← hσ3]
          simp only [dx, reduceIte, zLt, zLe, zEq, zAd, zMu, zSu, zBe, yEq, yLt, yLe, yTn, reduceCtorEq, sx, fx59, gc3, intV_length, hgt, hwds, hclr, gc5, hwds2, hcp]
          exact ⟨_, rfl, by simp only [Tr.get_set, zEq, reduceIte]⟩
        obtain ⟨T1, g1, g2⟩ := run
        exact q_call (first := []) (caps := []) fn59 rfl (by simp [Try.f59]) g1 (by simp) (res_one g2)
theorem pput_exec {low sp pr wr : Nat} {its : List MItem} {ps : List Pg} {ws l : List Int} {a : Int} {K : VK} (h : HeapM low σ sp pr none wr none its ps ws) (hr : RightH ps ws) (hl : l.length ≤ 100000) (hk : 4000 ≤ k) (hkl : l.length + 8 ≤ k) :
    ∃ σ', (∀ r, r < low → σ'.get r = σ.get r) ∧ σ.next ≤ σ'.next ∧
    ((findL ps a = none ∧ callN lawProg (k + 1) (.func 59 [] []) [.ptr sp 0, .int .i64 a, .vs K (intV l)] σ = some (.int .i64 7, σ') ∧ HeapM low σ' sp pr none wr none its ps ws) ∨
    (∃ b, findL ps a = some b ∧ ((l.all wordQ = false ∧ callN lawProg (k + 1) (.func 59 [] []) [.ptr sp 0, .int .i64 a, .vs K (intV l)] σ = some (.int .i64 3, σ') ∧ HeapM low σ' sp pr none wr none its ps ws) ∨
      (l.all wordQ = true ∧ ((l.length : Nat) : Int) > b.size ∧ callN lawProg (k + 1) (.func 59 [] []) [.ptr sp 0, .int .i64 a, .vs K (intV l)] σ = some (.int .i64 5, σ') ∧ HeapM low σ' sp pr none wr none its ps ws) ∨
      (l.all wordQ = true ∧ ¬ ((l.length : Nat) : Int) > b.size ∧ callN lawProg (k + 1) (.func 59 [] []) [.ptr sp 0, .int .i64 a, .vs K (intV l)] σ = some (.int .i64 0, σ') ∧ HeapM low σ' sp pr none wr none its ps (putW ws b l))))) := by
  obtain ⟨σ', g1, g2, ⟨a, b, c, _⟩ | ⟨b, a, ⟨c, d, e, _⟩ | ⟨c, d, e, f, _⟩ | ⟨c, d, e, f, _⟩⟩⟩ := pput_execF (k := k) (a := a) (K := K) (l := l) h hr hl hk hkl
  · exact ⟨σ', g1, g2, .inl ⟨a, b, c⟩⟩
  · exact ⟨σ', g1, g2, .inr ⟨b, a, .inl ⟨c, d, e⟩⟩⟩
  · exact ⟨σ', g1, g2, .inr ⟨b, a, .inr (.inl ⟨c, d, e, f⟩)⟩⟩
  · exact ⟨σ', g1, g2, .inr ⟨b, a, .inr (.inr ⟨c, d, e, f⟩)⟩⟩
end Go.Proofs.Ytjkfdiglokkceaa

/- Heaps: heaps as values; after. -/
set_option maxRecDepth 100000
set_option linter.unusedSimpArgs false
set_option linter.unusedVariables false
namespace Go.Proofs.Ytjkfdiglokkceaa
open Go Go.Proofs.Ytjkfdiglokkceaa.Pale
variable {k : Nat} {σ : AMem}

theorem snapL_bools {fr : Bool} (d : Nat) : ∀ (l : List Bool), snapL (snapF fr σ (d + 1)) (boolV l) = some (boolV l, []) := by
  intro l
  induction l with
  | nil => rfl
  | cons c l ih =>
    have hc : snapF fr σ (d + 1) (.bool c) = some (.bool c, []) := rfl
    rw [show boolV (c :: l) = AVal.bool c :: boolV l from rfl]
    simp only [snapL, hc, ih, List.append_nil]
theorem snapL_ints {fr : Bool} (d : Nat) : ∀ (l : List Int), snapL (snapF fr σ (d + 1)) (intV l) = some (intV l, []) := by
  intro l
  induction l with
  | nil => rfl
  | cons c l ih =>
    have hc : snapF fr σ (d + 1) (.int .i64 c) = some (.int .i64 c, []) := rfl
    rw [show intV (c :: l) = AVal.int .i64 c :: intV l from rfl]
    simp only [snapL, hc, ih, List.append_nil]
theorem snap_bools {fr : Bool} {d r n : Nat} {l : List Bool} {cap : Option Nat} (hn : n = l.length) (h : σ.get r = some (.row 1 false (boolV l))) : snapF fr σ (d + 2) (.slice r 0 n cap 1) = some (.vs .some (boolV l), [r]) := by
  subst hn
  have e2 : ((boolV l).drop 0).take (l.length * 1) = boolV l := by rw [List.drop_zero, Nat.mul_one, List.take_of_length_le (by rw [boolV_length]; omega)]
  have e3 : (decide (0 < 1) && decide (0 + l.length * 1 ≤ (boolV l).length)) = true := by simp [boolV_length]
  have hm := mkElems_ones (boolV l) (one_bools l)
  rw [boolV_length] at hm
  rw [snapF]
  simp only [h, e3, if_true, e2, snapL_bools, hm]
theorem snap_ints {fr : Bool} {d r n lo : Nat} {l : List Int} {cap : Option Nat} (hn : lo + n ≤ l.length) (h : σ.get r = some (.row 1 false (intV l))) : snapF fr σ (d + 2) (.slice r lo n cap 1) = some (.vs .some (intV (segW l lo n)), [r]) := by
  have e2 : ((intV l).drop lo).take (n * 1) = intV (segW l lo n) := by
    rw [Nat.mul_one, intV_drop, intV_take]
    unfold segW
    rw [List.take_drop]
  have e3 : (decide (0 < 1) && decide (lo + n * 1 ≤ (intV l).length)) = true := by simp [intV_length]; omega
  have hm := mkElems_ones (intV (segW l lo n)) (one_ints _)
  rw [intV_length, segW_length hn] at hm
  rw [snapF]
  simp only [h, e3, if_true, e2, snapL_ints, hm]
/-- A list of a page is nil, or there. -/
def goodPV (x : PV) : Prop := x.2 ≠ .zero ∧ (x.2 = .nil → x.1.used = [])
theorem snap_pages {fr : Bool} {low : Nat} (d : Nat) : ∀ (its : List MItem) (ps : List Pg), its.map MItem.pi = ps.map pgPI → (∀ a, a ∈ its → a.okAt low σ ∧ ownX a) → ∃ l S, pgsOf l = ps ∧ (∀ x, x ∈ l → goodPV x) ∧ snapL (snapF fr σ (d + 2)) (its.map MItem.cells).flatten = some ((l.map pvC).flatten, S) := by
  intro its
  induction its with
  | nil =>
    intro ps h _
    cases ps with
    | nil => exact ⟨[], [], rfl, (fun x hx => by cases hx), rfl⟩
    | cons p ps => simp at h
  | cons a its ih =>
    intro ps h ha
    cases ps with
    | nil => simp at h
    | cons p ps =>
      simp only [List.map_cons, List.cons.injEq] at h
      obtain ⟨l, S, h1, h2, h3⟩ := ih ps h.2 fun b hb => ha b (by simp [hb])
      obtain ⟨hok, hox⟩ := ha a (by simp)
      have hpre : a.pre = [.int .u8 p.kind, .int .i64 p.n] := congrArg (·.1) h.1
      have hinn : a.inn = boolV p.used := congrArg (·.2) h.1
      obtain ⟨K, S1, hK, hs⟩ : ∃ K S1, goodPV (p, K) ∧ snapF fr σ (d + 2) a.x = some (.vs K (boolV p.used), S1) := by
        rcases hox with ⟨e, h0⟩ | ⟨r, cap, e⟩
        · rw [hinn] at h0
          have hu : p.used = [] := by cases hq : p.used with
            | nil => rfl
            | cons b l => rw [hq] at h0; cases h0
          refine ⟨.nil, [], ⟨by simp, fun _ => hu⟩, ?_⟩
          rw [e, hu]
          cases fr <;> rfl
        · obtain ⟨_, _, ⟨K, e2⟩ | ⟨r2, cap2, e2, _, _, hr⟩⟩ := hok
          · rw [e] at e2; cases e2
          · rw [hinn] at hr e2
            refine ⟨.some, [r2], ⟨by simp, by simp⟩, ?_⟩
            rw [e2]
            exact snap_bools (by rw [boolV_length]) hr
      refine ⟨(p, K) :: l, ([] ++ ([] ++ (S1 ++ []))) ++ S, ?_, ?_, ?_⟩
      · unfold pgsOf at h1 ⊢
        rw [List.map_cons, h1]
      · intro x hx
        rcases List.mem_cons.1 hx with rfl | hx
        · exact hK
        · exact h2 x hx
      · rw [List.map_cons, List.flatten_cons, List.map_cons, List.flatten_cons]
        refine snapL_append (sa := [] ++ ([] ++ (S1 ++ []))) ?_ h3
        unfold MItem.cells pvC
        rw [hpre]
        have c1 : snapF fr σ (d + 2) (.int .u8 p.kind) = some (.int .u8 p.kind, []) := rfl
        have c2 : snapF fr σ (d + 2) (.int .i64 p.n) = some (.int .i64 p.n, []) := rfl
        simp only [List.cons_append, List.nil_append, snapL, hs, c1, c2]
theorem snap_heap {fr : Bool} {low sp pr wr : Nat} {pc wc : Option Nat} {its : List MItem} {ps : List Pg} {ws : List Int} (d : Nat) (h : HeapM low σ sp pr pc wr wc its ps ws) : ∃ l S, pgsOf l = ps ∧ (∀ x, x ∈ l → goodPV x) ∧ snapF fr σ (d + 4) (.agg [.slice pr 0 its.length pc 3, .slice wr 0 ws.length wc 1]) = some (hpV .some .some l ws, S) := by
  have hil := pg_len h.pi
  obtain ⟨l, S, h1, h2, h3⟩ := snap_pages (fr := fr) (σ := σ) (low := low) d its ps h.pi fun a ha => ⟨h.own.it.1 a ha, h.ox a ha⟩
  have hll : l.length = its.length := by rw [hil, ← h1]; simp [pgsOf]
  have hw := snap_ints (fr := fr) (d := d + 1) (r := wr) (n := ws.length) (lo := 0) (l := ws) (cap := wc) (by omega) h.own.mw
  have hseg : segW ws 0 ws.length = ws := by unfold segW; simp
  rw [hseg] at hw
  have hp := snap_structs (fr := fr) (σ := σ) (d := d + 1) (r := pr) (n := its.length) (sz := 3) (cap := pc) (ls := its.map MItem.cells) (ps := l.map pvC) (S := S) (by omega) (by simp) (by simp [hll]) (cells_three (pg_two h.pi)) (fun c hc => by obtain ⟨x, _, rfl⟩ := List.mem_map.1 hc; rfl) h.own.mp h3
  refine ⟨l, (pr :: S) ++ ([wr] ++ []), h1, h2, ?_⟩
  rw [snapF]
  simp only [snapL, hp, hw, Option.map_some]
  unfold hpV
  rw [List.map_map]
  rfl
/-- A value that reads as a heap. -/
def VH (v : AVal) (ps : List Pg) (ws : List Int) : Prop := ∃ kp kw l, v = hpV kp kw l ws ∧ pgsOf l = ps ∧ (kp ≠ .zero ∧ (kp = .nil → l = [])) ∧ (kw ≠ .zero ∧ (kw = .nil → ws = [])) ∧ ∀ x, x ∈ l → goodPV x
/-- Not too much of it. -/
def Bd (ps : List Pg) (ws : List Int) : Prop := ps.length ≤ 1000 ∧ ws.length ≤ 10000 ∧ ∀ p, p ∈ ps → p.used.length ≤ 1000
theorem right_bd {ps : List Pg} {ws : List Int} (h : RightH ps ws) : Bd ps ws := by
  have h1 := h.many
  have h2 := h.len
  refine ⟨by omega, by omega, fun p hp => ?_⟩
  obtain ⟨i, hi, rfl⟩ := List.mem_iff_getElem.1 hp
  have h3 := h.shape i hi
  rw [← pgAt_lt hi]
  obtain ⟨_, ⟨_, _, e⟩ | ⟨e, _⟩ | ⟨_, _, _, e⟩ | ⟨_, _, e⟩⟩ := shape_kind h3
  · rw [e]; simp
  · rcases small_cases h3 e with ⟨_, h⟩ | ⟨_, h⟩ | ⟨_, h⟩ | ⟨_, h⟩ | ⟨_, h⟩ <;> omega
  · rw [e]; simp
  · rw [e]; simp
def hp0 : AVal := .agg [.vs .nil [], .vs .nil []]
theorem nil_vh : VH hp0 [] [] := ⟨.nil, .nil, [], rfl, rfl, ⟨by simp, fun _ => rfl⟩, ⟨by simp, fun _ => rfl⟩, by simp⟩
/-- A heap that is opened. -/
theorem open_vh {v : AVal} {ps : List Pg} {ws : List Int} (hv : VH v ps ws) (hb : Bd ps ws) (hk : 7000 ≤ k) (σ : AMem) :
    (rightB ps ws = false ∧ ∃ σ', callN lawProg (k + 1) (.func 46 [] []) [v] σ = some (.tuple [.nilptr, .int .i64 4], σ') ∧ Ext σ σ') ∨
    (rightB ps ws = true ∧ RightH ps ws ∧ ∃ σ' sp pr wr its, callN lawProg (k + 1) (.func 46 [] []) [v] σ = some (.tuple [.ptr sp 0, .int .i64 0], σ') ∧ Ext σ σ' ∧ HeapM σ.next σ' sp pr none wr none its ps ws) := by
  obtain ⟨kp, kw, l, rfl, rfl, hkp, hkw, hx⟩ := hv
  have hl : (pgsOf l).length = l.length := by simp [pgsOf]
  obtain ⟨b1, b2, b3⟩ := hb
  obtain ⟨h1, h2⟩ := open_exec (k := k) (σ := σ) hkp hkw (fun x hm => ⟨(hx x hm).1, (hx x hm).2, b3 x.1 (List.mem_map.2 ⟨x, hm, rfl⟩)⟩) (by omega) (by omega) hk
  cases hb : rightB (pgsOf l) ws with
  | false => exact .inl ⟨rfl, h1 hb⟩
  | true =>
    obtain ⟨σ', sp, pr, pc, wr, wc, its, g1, g2, g3, g4, g5, rfl, rfl⟩ := h2 hb
    exact .inr ⟨rfl, rightB_iff.1 hb, σ', sp, pr, wr, its, g1, g2, ⟨g3, by rw [g4, pi_pv], g5⟩⟩
/-- after, when the heap is not right. -/
theorem after_form {v : AVal} {X Y : AVal} {fv : AVal} {σ2 : AMem} (hv : v = .agg [X, Y]) (hX : X.oneCell = true) (hY : Y.oneCell = true) (ho : callN lawProg k (.func 46 [] []) [v] ((σ.push (.row 2 true [X, Y])).push (.row 2 true [.vs .nil [], .vs .nil []])) = some (.tuple [.nilptr, .int .i64 4], σ2)) (h2 : σ2.get (σ.next + 1) = some (.row 2 true [.vs .nil [], .vs .nil []])) (hfv : fv.oneCell = true) :
    callN lawProg (k + 1) (.func 51 [] []) [v, fv] σ = some (.tuple [hp0, .int .i64 4], σ2.put (σ.next + 1) (.row 2 true [.vs .nil [], .vs .nil []])) := by
  subst hv
  have run : ∃ T1, execC lawProg (callN lawProg k) k 51 26 (bodyOf Try.f51) (initT 0 [.agg [X, Y], fv] .nil) σ = some (.ret, T1, σ2.put (σ.next + 1) (.row 2 true [.vs .nil [], .vs .nil []])) ∧ T1.get 4 = some (.ptr (σ.next + 1) 0) ∧ T1.get 5 = some (.int .i64 4) := by
    have n1 : ¬ σ.next + 1 = σ.next := by omega
    simp only [bodyOf, Try.f51, Option.getD_some, initT, dx, reduceIte, zLt, zLe, zEq, zAd, zMu, zSu, zBe, yEq, yLt, yLe, yTn, reduceCtorEq, sx, fx51, hX, hY, n1, ho, h2, show ((4 : Int) == 0) = false from rfl, show ((4 : Int) != 0) = true from rfl]
    exact ⟨_, rfl, by simp only [Tr.get_set, zEq, reduceIte], by simp only [Tr.get_set, zEq, reduceIte]⟩
  obtain ⟨T1, g1, g2, g3⟩ := run
  refine q_call (first := []) (caps := []) (vs := [hp0, .int .i64 4]) fn51 rfl (by simp [Try.f51]) g1 (by simp) ?_
  simp only [Try.f51, resultsA, resultA, dx, reduceIte, zLt, zLe, zEq, zAd, zMu, zSu, zBe, yEq, yLt, yLe, yTn, reduceCtorEq, sx, fx51, g2, g3, hp0]
/-- after, when what is done gives an error. -/
theorem after_err {v : AVal} {X Y : AVal} {fv : AVal} {e : Int} {sp : Nat} {σ2 σ3 : AMem} (he : e ≠ 0) (hv : v = .agg [X, Y]) (hX : X.oneCell = true) (hY : Y.oneCell = true) (ho : callN lawProg k (.func 46 [] []) [v] ((σ.push (.row 2 true [X, Y])).push (.row 2 true [.vs .nil [], .vs .nil []])) = some (.tuple [.ptr sp 0, .int .i64 0], σ2)) {g : Nat} {c0 : AVal} {cs : List AVal} (hfv : fv = .func g [] (c0 :: cs)) (hd : callN lawProg k fv [.ptr sp 0] σ2 = some (.int .i64 e, σ3)) (h2 : σ3.get (σ.next + 1) = some (.row 2 true [.vs .nil [], .vs .nil []])) :
    callN lawProg (k + 1) (.func 51 [] []) [v, fv] σ = some (.tuple [hp0, .int .i64 e], σ3.put (σ.next + 1) (.row 2 true [.vs .nil [], .vs .nil []])) := by
  subst hv
  subst hfv
  have hb : (e != 0) = true := by rw [bne_iff_ne]; exact he
  have run : ∃ T1, execC lawProg (callN lawProg k) k 51 26 (bodyOf Try.f51) (initT 0 [.agg [X, Y], .func g [] (c0 :: cs)] .nil) σ = some (.ret, T1, σ3.put (σ.next + 1) (.row 2 true [.vs .nil [], .vs .nil []])) ∧ T1.get 4 = some (.ptr (σ.next + 1) 0) ∧ T1.get 5 = some (.int .i64 e) := by
    have n1 : ¬ σ.next + 1 = σ.next := by omega
    simp only [bodyOf, Try.f51, Option.getD_some, initT, dx, reduceIte, zLt, zLe, zEq, zAd, zMu, zSu, zBe, yEq, yLt, yLe, yTn, reduceCtorEq, sx, fx51, hX, hY, n1, ho, h2, hd, hb]
    exact ⟨_, rfl, by simp only [Tr.get_set, zEq, reduceIte], by simp only [Tr.get_set, zEq, reduceIte]⟩
  obtain ⟨T1, g1, g2, g3⟩ := run
  refine q_call (first := []) (caps := []) (vs := [hp0, .int .i64 e]) fn51 rfl (by simp [Try.f51]) g1 (by simp) ?_
  simp only [Try.f51, resultsA, resultA, dx, reduceIte, zLt, zLe, zEq, zAd, zMu, zSu, zBe, yEq, yLt, yLe, yTn, reduceCtorEq, sx, fx51, g2, g3, hp0]
/-- after, when all is well. -/
theorem after_ok {v : AVal} {X Y P W : AVal} {fv : AVal} {sp : Nat} {σ2 σ3 : AMem} (hv : v = .agg [X, Y]) (hX : X.oneCell = true) (hY : Y.oneCell = true) (ho : callN lawProg k (.func 46 [] []) [v] ((σ.push (.row 2 true [X, Y])).push (.row 2 true [.vs .nil [], .vs .nil []])) = some (.tuple [.ptr sp 0, .int .i64 0], σ2)) {g : Nat} {c0 : AVal} {cs : List AVal} (hfv : fv = .func g [] (c0 :: cs)) (hd : callN lawProg k fv [.ptr sp 0] σ2 = some (.int .i64 0, σ3)) (h2 : σ3.get (σ.next + 1) = some (.row 2 true [.vs .nil [], .vs .nil []])) (hs : σ3.get sp = some (.row 2 true [P, W])) (hP : P.oneCell = true) (hW : W.oneCell = true) :
    callN lawProg (k + 1) (.func 51 [] []) [v, fv] σ = some (.tuple [.agg [P, W], .int .i64 0], σ3.put (σ.next + 1) (.row 2 true [P, W])) := by
  subst hv
  subst hfv
  have run : ∃ T1, execC lawProg (callN lawProg k) k 51 26 (bodyOf Try.f51) (initT 0 [.agg [X, Y], .func g [] (c0 :: cs)] .nil) σ = some (.ret, T1, σ3.put (σ.next + 1) (.row 2 true [P, W])) ∧ T1.get 4 = some (.ptr (σ.next + 1) 0) ∧ T1.get 5 = some (.int .i64 0) := by
    have n1 : ¬ σ.next + 1 = σ.next := by omega
    simp only [bodyOf, Try.f51, Option.getD_some, initT, dx, reduceIte, zLt, zLe, zEq, zAd, zMu, zSu, zBe, yEq, yLt, yLe, yTn, reduceCtorEq, sx, fx51, hX, hY, n1, ho, h2, hd, hs, hP, hW, show ((0 : Int) != 0) = false from rfl]
    exact ⟨_, rfl, by simp only [Tr.get_set, zEq, reduceIte], by simp only [Tr.get_set, zEq, reduceIte]⟩
  obtain ⟨T1, g1, g2, g3⟩ := run
  refine q_call (first := []) (caps := []) (vs := [.agg [P, W], .int .i64 0]) fn51 rfl (by simp [Try.f51]) g1 (by simp) ?_
  simp only [Try.f51, resultsA, resultA, dx, reduceIte, zLt, zLe, zEq, zAd, zMu, zSu, zBe, yEq, yLt, yLe, yTn, reduceCtorEq, sx, fx51, g2, g3]
end Go.Proofs.Ytjkfdiglokkceaa

/- Heaps: the program's Alloc, Free and Put. -/
set_option maxRecDepth 100000
set_option linter.unusedSimpArgs false
set_option linter.unusedVariables false
namespace Go.Proofs.Ytjkfdiglokkceaa
open Go Go.Proofs.Ytjkfdiglokkceaa.Pale
variable {k : Nat} {σ : AMem}

structure HRes where
  ps : List Pg
  ws : List Int
  at_ : Int
  e : Int
noncomputable def allocH (ps : List Pg) (ws : List Int) (n : Int) : HRes :=
  if rightB ps ws then (if 1 ≤ n ∧ n ≤ 2560 then (match allocL ps n with
    | some (qs, b) => ⟨qs, ws, b.at_, 0⟩
    | none => ⟨[], [], 0, 8⟩) else ⟨[], [], 0, 3⟩) else ⟨[], [], 0, 4⟩
noncomputable def freeH (ps : List Pg) (ws : List Int) (a : Int) : HRes :=
  if rightB ps ws then (match findL ps a with
    | some b => ⟨freeL ps b, clearW ws b, 0, 0⟩
    | none => ⟨[], [], 0, 7⟩) else ⟨[], [], 0, 4⟩
theorem VH.cells {v : AVal} {ps : List Pg} {ws : List Int} (h : VH v ps ws) : ∃ X Y, v = .agg [X, Y] ∧ X.oneCell = true ∧ Y.oneCell = true := by
  obtain ⟨kp, kw, l, rfl, _⟩ := h
  exact ⟨_, _, rfl, rfl, rfl⟩
theorem snap_hp0 {fr : Bool} (σ : AMem) (d : Nat) : snapF fr σ (d + 2) hp0 = some (hp0, []) := by
  cases fr <;> rfl
theorem HeapM.vh {fr : Bool} {low sp pr wr : Nat} {pc wc : Option Nat} {its : List MItem} {ps : List Pg} {ws : List Int} (d : Nat) (h : HeapM low σ sp pr pc wr wc its ps ws) : ∃ v S, snapF fr σ (d + 4) (.agg [.slice pr 0 its.length pc 3, .slice wr 0 ws.length wc 1]) = some (v, S) ∧ VH v ps ws := by
  obtain ⟨l, S, h1, h2, h3⟩ := snap_heap (fr := fr) d h
  exact ⟨_, S, h3, .some, .some, l, rfl, h1, ⟨by simp, by simp⟩, ⟨by simp, by simp⟩, h2⟩
theorem HeapM.agree {low sp pr wr : Nat} {σ' : AMem} {pc wc : Option Nat} {its : List MItem} {ps : List Pg} {ws : List Int} (h : HeapM low σ sp pr pc wr wc its ps ws) (hh : ∀ r, low ≤ r → σ'.get r = σ.get r) (hn : σ.next ≤ σ'.next) : HeapM low σ' sp pr pc wr wc its ps ws := by
  obtain ⟨l1, l2, l3⟩ := h.own.lo
  obtain ⟨x1, x2, x3⟩ := h.own.nx
  exact ⟨⟨by rw [hh sp l1]; exact h.own.ms, by rw [hh pr l2]; exact h.own.mp, by rw [hh wr l3]; exact h.own.mw, h.own.it.same (Nat.le_refl _) hn (fun r hr => hh r (h.own.it.bound r hr).1) h.own.it.2.2, h.own.ns, h.own.nw, h.own.ne, h.own.lo, ⟨by omega, by omega, by omega⟩⟩, h.pi, h.ox⟩
set_option maxHeartbeats 1000000 in
theorem Alloc_run {v : AVal} {ps : List Pg} {ws : List Int} (n : Int) (hv : VH v ps ws) (hb : Bd ps ws) (hk : 9000 ≤ k) : ∃ v', pureRun (callN lawProg (k + 1)) (.func 25 [] []) [v, .int .i64 n] = some (.tuple [v', .int .i64 (allocH ps ws n).at_, .int .i64 (allocH ps ws n).e], true) ∧ VH v' (allocH ps ws n).ps (allocH ps ws n).ws := by
  obtain ⟨X, Y, rfl, hX, hY⟩ := hv.cells
  obtain ⟨k, rfl⟩ : ∃ m, k = m + 2 := ⟨k - 2, by omega⟩
  obtain ⟨σ0, hσ0⟩ : ∃ s, s = (((AMem.empty.push (.row 2 true [X, Y])).push (.row 1 false [.int .i64 n])).push (.row 2 true [.vs .nil [], .vs .nil []])).push (.row 1 false [.int .i64 0]) := ⟨_, rfl⟩
  have n0 : σ0.next = 4 := by rw [hσ0]; simp [next_empty]
  have g0 : σ0.get 0 = some (.row 2 true [X, Y]) := by rw [hσ0]; simp [AMem.get_push, next_empty]
  have g1 : σ0.get 1 = some (.row 1 false [.int .i64 n]) := by rw [hσ0]; simp [AMem.get_push, next_empty]
  have g2 : σ0.get 2 = some (.row 2 true [.vs .nil [], .vs .nil []]) := by rw [hσ0]; simp [AMem.get_push, next_empty]
  have g3 : σ0.get 3 = some (.row 1 false [.int .i64 0]) := by rw [hσ0]; simp [AMem.get_push, next_empty]
  obtain ⟨σa, hσa⟩ : ∃ s, s = (σ0.push (.row 2 true [X, Y])).push (.row 2 true [.vs .nil [], .vs .nil []]) := ⟨_, rfl⟩
  have exa : Ext σ0 σa := by rw [hσa]; exact (Ext.push _ _).trans (Ext.push _ _)
  have na : σa.next = 6 := by rw [hσa]; simp [n0]
  have ga5 : σa.get 5 = some (.row 2 true [.vs .nil [], .vs .nil []]) := by rw [hσa, AMem.get_push, if_pos (by simp [n0])]
  -- what the call of after leaves, and what Alloc makes of it
  have fin : ∀ (o0 o1 : AVal) (e at_ : Int) (σ9 : AMem) (qs : List Pg) (us : List Int), callN lawProg (k + 2) (.func 51 [] []) [.agg [X, Y], .func 52 [] [.ptr 1 0, .ptr 3 0]] σ0 = some (.tuple [.agg [o0, o1], .int .i64 e], σ9) → σ9.get 2 = some (.row 2 true [.vs .nil [], .vs .nil []]) → σ9.get 3 = some (.row 1 false [.int .i64 at_]) → o0.oneCell = true → o1.oneCell = true → (∀ σ', (∀ r, r ≠ 2 → r ≠ 3 → σ'.get r = σ9.get r) → σ9.next ≤ σ'.next → ∃ v' S, snapF true σ' 11 (.agg [o0, o1]) = some (v', S) ∧ VH v' qs us) → ∃ v', pureRun (callN lawProg (k + 2 + 1)) (.func 25 [] []) [.agg [X, Y], .int .i64 n] = some (.tuple [v', .int .i64 at_, .int .i64 e], true) ∧ VH v' qs us := by
    intro o0 o1 e at_ σ9 qs us hc m2 m3 ho0 ho1 hs
    obtain ⟨σf, hσf⟩ : ∃ s, s = ((σ9.put 2 (.row 2 true [o0, o1])).put 2 (.row 2 true [o0, o1])).put 3 (.row 1 false [.int .i64 at_]) := ⟨_, rfl⟩
    have run : ∃ T1, execC lawProg (callN lawProg (k + 2)) (k + 2) 25 16 (bodyOf Try.f25) (initT 0 [.agg [X, Y], .int .i64 n] .nil) AMem.empty = some (.ret, T1, σf) ∧ T1.get 4 = some (.ptr 2 0) ∧ T1.get 5 = some (.ptr 3 0) ∧ T1.get 6 = some (.int .i64 e) := by
      rw [hσf]
      simp only [bodyOf, Try.f25, Option.getD_some, initT, dx, reduceIte, zLt, zLe, zEq, zAd, zMu, zSu, zBe, yEq, yLt, yLe, yTn, reduceCtorEq, sx, fx25, hX, hY, ← hσ0]
      simp only [dx, reduceIte, zLt, zLe, zEq, zAd, zMu, zSu, zBe, yEq, yLt, yLe, yTn, reduceCtorEq, sx, fx25, g0, hX, hY, hc, m2, m3, ho0, ho1]
      exact ⟨_, rfl, by simp only [Tr.get_set, zEq, reduceIte], by simp only [Tr.get_set, zEq, reduceIte], by simp only [Tr.get_set, zEq, reduceIte]⟩
    obtain ⟨T1, r1, r2, r3, r4⟩ := run
    obtain ⟨v', S, hS, hvh⟩ := hs σf (fun r h2 h3 => by rw [hσf, AMem.get_put, if_neg (fun h => h3 h.symm), AMem.get_put, if_neg (fun h => h2 h.symm), AMem.get_put, if_neg (fun h => h2 h.symm)]) (by rw [hσf]; simp)
    refine ⟨v', ?_, hvh⟩
    have f2 : σf.get 2 = some (.row 2 true [o0, o1]) := by rw [hσf, AMem.get_put, if_neg (by omega), AMem.get_put, if_pos rfl]
    have f3 : σf.get 3 = some (.row 1 false [.int .i64 at_]) := by rw [hσf, AMem.get_put, if_pos rfl]
    refine pureRun_of (vs := [.agg [o0, o1], .int .i64 at_, .int .i64 e]) (seen := S ++ ([] ++ ([] ++ []))) fn25 rfl (by simp [Try.f25]) r1 (by simp) ?_ ?_
    · simp only [Try.f25, resultsA, resultA, dx, reduceIte, zLt, zLe, zEq, zAd, zMu, zSu, zBe, yEq, yLt, yLe, yTn, reduceCtorEq, sx, fx25, r2, r3, r4, f2, f3]
    · have c1 : snapF true σf 11 (.int .i64 at_) = some (.int .i64 at_, []) := rfl
      have c2 : snapF true σf 11 (.int .i64 e) = some (.int .i64 e, []) := rfl
      show snapF true σf (11 + 1) (.tuple [.agg [o0, o1], .int .i64 at_, .int .i64 e]) = _
      rw [snapF]
      simp only [snapL, hS, c1, c2, Option.map_some]
  have clos : ∀ (sp : Nat) (σ2 σ3 : AMem) (at_ e : Int), σ2.get 1 = some (.row 1 false [.int .i64 n]) → callN lawProg k (.func 53 [] []) [.ptr sp 0, .int .i64 n] σ2 = some (.tuple [.int .i64 at_, .int .i64 e], σ3) → σ3.get 3 = some (.row 1 false [.int .i64 0]) → callN lawProg (k + 1) (.func 52 [] [.ptr 1 0, .ptr 3 0]) [.ptr sp 0] σ2 = some (.int .i64 e, σ3.put 3 (.row 1 false [.int .i64 at_])) := by
    intro sp σ2 σ3 at_ e m1 hc m3
    have run : ∃ T1, execC lawProg (callN lawProg k) k 52 12 (bodyOf Try.f52) (initT 0 [.ptr sp 0, .ptr 1 0, .ptr 3 0] .nil) σ2 = some (.ret, T1, σ3.put 3 (.row 1 false [.int .i64 at_])) ∧ T1.get 4 = some (.int .i64 e) := by
      simp only [bodyOf, Try.f52, Option.getD_some, initT, dx, reduceIte, zLt, zLe, zEq, zAd, zMu, zSu, zBe, yEq, yLt, yLe, yTn, reduceCtorEq, sx, fx52, m1, hc, m3]
      exact ⟨_, rfl, by simp only [Tr.get_set, zEq, reduceIte]⟩
    obtain ⟨T1, r1, r2⟩ := run
    exact q_call (first := []) fn52 rfl (by simp [Try.f52]) r1 (by simp) (res_one r2)
  rcases open_vh (k := k) hv hb (by omega) σa with ⟨hr, σ2, ho, ex2⟩ | ⟨hr, hright, σ2, sp, pr, wr, its, ho, ex2, hM⟩
  · have hres : allocH ps ws n = ⟨[], [], 0, 4⟩ := by unfold allocH; rw [hr]; simp
    rw [hres]
    rw [hσa] at ho
    have key := after_form (k := k + 1) (σ := σ0) (fv := .func 52 [] [.ptr 1 0, .ptr 3 0]) rfl hX hY ho (by rw [n0, ex2.2 5 (by omega)]; exact ga5) rfl
    rw [n0] at key
    exact fin _ _ 4 0 _ [] [] key (by rw [AMem.get_put, if_neg (by omega), ex2.2 2 (by omega), exa.2 2 (by omega)]; exact g2) (by rw [AMem.get_put, if_neg (by omega), ex2.2 3 (by omega), exa.2 3 (by omega)]; exact g3) rfl rfl (fun σ' _ _ => ⟨hp0, [], snap_hp0 σ' 9, nil_vh⟩)
  · have low6 : ∀ r, r < 6 → σ2.get r = σa.get r := fun r hr => ex2.2 r (by omega)
    have lowa : ∀ r, r < 4 → σa.get r = σ0.get r := fun r hr => exa.2 r (by omega)
    have h21 : σ2.get 1 = some (.row 1 false [.int .i64 n]) := by rw [low6 1 (by omega), lowa 1 (by omega)]; exact g1
    rw [na] at hM
    obtain ⟨σ3, fr, nx, hcase⟩ := palloc_exec (k := k - 1) (n := n) hM hright.shape hright.many.2 (by omega)
    rw [show k - 1 + 1 = k by omega] at hcase
    have h33 : σ3.get 3 = some (.row 1 false [.int .i64 0]) := by rw [fr 3 (by omega), low6 3 (by omega), lowa 3 (by omega)]; exact g3
    have h32 : σ3.get 2 = some (.row 2 true [.vs .nil [], .vs .nil []]) := by rw [fr 2 (by omega), low6 2 (by omega), lowa 2 (by omega)]; exact g2
    have h35 : σ3.get 5 = some (.row 2 true [.vs .nil [], .vs .nil []]) := by rw [fr 5 (by omega), low6 5 (by omega)]; exact ga5
    rw [hσa] at ho
    have bad : ∀ e : Int, e ≠ 0 → callN lawProg k (.func 53 [] []) [.ptr sp 0, .int .i64 n] σ2 = some (.tuple [.int .i64 0, .int .i64 e], σ3) → ∃ v', pureRun (callN lawProg (k + 2 + 1)) (.func 25 [] []) [.agg [X, Y], .int .i64 n] = some (.tuple [v', .int .i64 0, .int .i64 e], true) ∧ VH v' [] [] := by
      intro e he hc
      have hcl := clos sp σ2 σ3 0 e h21 hc h33
      have key := after_err (k := k + 1) (σ := σ0) he rfl hX hY ho rfl hcl (by rw [n0, AMem.get_put, if_neg (by omega)]; exact h35)
      rw [n0] at key
      exact fin _ _ e 0 _ [] [] key (by rw [AMem.get_put, if_neg (by omega), AMem.get_put, if_neg (by omega)]; exact h32) (by rw [AMem.get_put, if_neg (by omega), AMem.get_put, if_pos rfl]) rfl rfl (fun σ' _ _ => ⟨hp0, [], snap_hp0 σ' 9, nil_vh⟩)
    rcases hcase with ⟨hn, hc, _⟩ | ⟨hn1, hn2, hal, hc, _⟩ | ⟨hn1, hn2, qs, b, its', hal, hc, hM'⟩
    · have hres : allocH ps ws n = ⟨[], [], 0, 3⟩ := by unfold allocH; rw [hr, if_pos rfl, if_neg hn]
      rw [hres]
      exact bad 3 (by omega) hc
    · have hres : allocH ps ws n = ⟨[], [], 0, 8⟩ := by unfold allocH; rw [hr, if_pos rfl, if_pos ⟨hn1, hn2⟩, hal]
      rw [hres]
      exact bad 8 (by omega) hc
    · have hres : allocH ps ws n = ⟨qs, ws, b.at_, 0⟩ := by unfold allocH; rw [hr, if_pos rfl, if_pos ⟨hn1, hn2⟩, hal]
      rw [hres]
      have hcl := clos sp σ2 σ3 b.at_ 0 h21 hc h33
      obtain ⟨l1, l2, l3⟩ := hM'.own.lo
      have key := after_ok (k := k + 1) (σ := σ0) rfl hX hY ho rfl hcl (by rw [n0, AMem.get_put, if_neg (by omega)]; exact h35) (by rw [AMem.get_put, if_neg (by omega)]; exact hM'.own.ms) rfl rfl
      rw [n0] at key
      refine fin _ _ 0 b.at_ _ qs ws key (by rw [AMem.get_put, if_neg (by omega), AMem.get_put, if_neg (by omega)]; exact h32) (by rw [AMem.get_put, if_neg (by omega), AMem.get_put, if_pos rfl]) rfl rfl (fun σ' hg hn => ?_)
      have hM2 : HeapM 6 σ' sp pr none wr none its' qs ws := hM'.agree (fun r hr => by rw [hg r (by omega) (by omega), AMem.get_put, if_neg (by omega), AMem.get_put, if_neg (by omega)]) (by simpa using hn)
      exact hM2.vh (fr := true) 7
end Go.Proofs.Ytjkfdiglokkceaa

/- Heaps: the program's Free. -/
set_option maxRecDepth 100000
set_option linter.unusedSimpArgs false
set_option linter.unusedVariables false
namespace Go.Proofs.Ytjkfdiglokkceaa
open Go Go.Proofs.Ytjkfdiglokkceaa.Pale
variable {k : Nat} {σ : AMem}

theorem VH.snap {v : AVal} {ps : List Pg} {ws : List Int} (h : VH v ps ws) (σ : AMem) (d : Nat) : snapF false σ (d + 2) v = some (v, []) := by
  obtain ⟨kp, kw, l, rfl, _⟩ := h
  rfl
theorem Alloc_call {v : AVal} {ps : List Pg} {ws : List Int} (n : Int) (hv : VH v ps ws) (hb : Bd ps ws) (hk : 9001 ≤ k) : ∃ v', (∀ σ, pureCall lawProg (callN lawProg k) (.func 25 [] []) [v, .int .i64 n] σ = some (.tuple [v', .int .i64 (allocH ps ws n).at_, .int .i64 (allocH ps ws n).e], σ)) ∧ VH v' (allocH ps ws n).ps (allocH ps ws n).ws := by
  obtain ⟨k, rfl⟩ : ∃ m, k = m + 1 := ⟨k - 1, by omega⟩
  obtain ⟨v', h1, h2⟩ := Alloc_run n hv hb (k := k) (by omega)
  refine ⟨v', fun σ => pureCall_of (seen := [] ++ ([] ++ [])) ?_ (memo25 _) h1, h2⟩
  have := hv.snap σ 10
  simp only [snapL, snapDepth, this, snapF]
set_option maxHeartbeats 1000000 in
theorem Free_run {v : AVal} {ps : List Pg} {ws : List Int} (a : Int) (hv : VH v ps ws) (hb : Bd ps ws) (hk : 9000 ≤ k) : ∃ v', pureRun (callN lawProg (k + 1)) (.func 30 [] []) [v, .int .i64 a] = some (.tuple [v', .int .i64 (freeH ps ws a).e], true) ∧ VH v' (freeH ps ws a).ps (freeH ps ws a).ws := by
  obtain ⟨X, Y, rfl, hX, hY⟩ := hv.cells
  obtain ⟨k, rfl⟩ : ∃ m, k = m + 2 := ⟨k - 2, by omega⟩
  obtain ⟨σ0, hσ0⟩ : ∃ s, s = ((AMem.empty.push (.row 2 true [X, Y])).push (.row 1 false [.int .i64 a])).push (.row 2 true [.vs .nil [], .vs .nil []]) := ⟨_, rfl⟩
  have n0 : σ0.next = 3 := by rw [hσ0]; simp [next_empty]
  have g0 : σ0.get 0 = some (.row 2 true [X, Y]) := by rw [hσ0]; simp [AMem.get_push, next_empty]
  have g1 : σ0.get 1 = some (.row 1 false [.int .i64 a]) := by rw [hσ0]; simp [AMem.get_push, next_empty]
  have g2 : σ0.get 2 = some (.row 2 true [.vs .nil [], .vs .nil []]) := by rw [hσ0]; simp [AMem.get_push, next_empty]
  obtain ⟨σa, hσa⟩ : ∃ s, s = (σ0.push (.row 2 true [X, Y])).push (.row 2 true [.vs .nil [], .vs .nil []]) := ⟨_, rfl⟩
  have exa : Ext σ0 σa := by rw [hσa]; exact (Ext.push _ _).trans (Ext.push _ _)
  have na : σa.next = 5 := by rw [hσa]; simp [n0]
  have ga5 : σa.get 4 = some (.row 2 true [.vs .nil [], .vs .nil []]) := by rw [hσa, AMem.get_push, if_pos (by simp [n0])]
  have fin : ∀ (o0 o1 : AVal) (e : Int) (σ9 : AMem) (qs : List Pg) (us : List Int), callN lawProg (k + 2) (.func 51 [] []) [.agg [X, Y], .func 54 [] [.ptr 1 0]] σ0 = some (.tuple [.agg [o0, o1], .int .i64 e], σ9) → σ9.get 2 = some (.row 2 true [.vs .nil [], .vs .nil []]) → o0.oneCell = true → o1.oneCell = true → (∀ σ', (∀ r, r ≠ 2 → σ'.get r = σ9.get r) → σ9.next ≤ σ'.next → ∃ v' S, snapF true σ' 11 (.agg [o0, o1]) = some (v', S) ∧ VH v' qs us) → ∃ v', pureRun (callN lawProg (k + 2 + 1)) (.func 30 [] []) [.agg [X, Y], .int .i64 a] = some (.tuple [v', .int .i64 e], true) ∧ VH v' qs us := by
    intro o0 o1 e σ9 qs us hc m2 ho0 ho1 hs
    obtain ⟨σf, hσf⟩ : ∃ s, s = σ9.put 2 (.row 2 true [o0, o1]) := ⟨_, rfl⟩
    have run : ∃ T1, execC lawProg (callN lawProg (k + 2)) (k + 2) 30 11 (bodyOf Try.f30) (initT 0 [.agg [X, Y], .int .i64 a] .nil) AMem.empty = some (.ret, T1, σf) ∧ T1.get 4 = some (.ptr 2 0) ∧ T1.get 5 = some (.int .i64 e) := by
      rw [hσf]
      simp only [bodyOf, Try.f30, Option.getD_some, initT, dx, reduceIte, zLt, zLe, zEq, zAd, zMu, zSu, zBe, yEq, yLt, yLe, yTn, reduceCtorEq, sx, fx30, hX, hY, ← hσ0]
      simp only [dx, reduceIte, zLt, zLe, zEq, zAd, zMu, zSu, zBe, yEq, yLt, yLe, yTn, reduceCtorEq, sx, fx30, g0, hX, hY, hc, m2, ho0, ho1]
      exact ⟨_, rfl, by simp only [Tr.get_set, zEq, reduceIte], by simp only [Tr.get_set, zEq, reduceIte]⟩
    obtain ⟨T1, r1, r2, r3⟩ := run
    obtain ⟨v', S, hS, hvh⟩ := hs σf (fun r h2 => by rw [hσf, AMem.get_put, if_neg (fun h => h2 h.symm)]) (by rw [hσf]; simp)
    refine ⟨v', ?_, hvh⟩
    have f2 : σf.get 2 = some (.row 2 true [o0, o1]) := by rw [hσf, AMem.get_put, if_pos rfl]
    refine pureRun_of (vs := [.agg [o0, o1], .int .i64 e]) (seen := S ++ ([] ++ [])) fn30 rfl (by simp [Try.f30]) r1 (by simp) ?_ ?_
    · simp only [Try.f30, resultsA, resultA, dx, reduceIte, zLt, zLe, zEq, zAd, zMu, zSu, zBe, yEq, yLt, yLe, yTn, reduceCtorEq, sx, fx30, r2, r3, f2]
    · have c2 : snapF true σf 11 (.int .i64 e) = some (.int .i64 e, []) := rfl
      show snapF true σf (11 + 1) (.tuple [.agg [o0, o1], .int .i64 e]) = _
      rw [snapF]
      simp only [snapL, hS, c2, Option.map_some]
  have clos : ∀ (sp : Nat) (σ2 σ3 : AMem) (e : Int), σ2.get 1 = some (.row 1 false [.int .i64 a]) → callN lawProg k (.func 55 [] []) [.ptr sp 0, .int .i64 a] σ2 = some (.int .i64 e, σ3) → callN lawProg (k + 1) (.func 54 [] [.ptr 1 0]) [.ptr sp 0] σ2 = some (.int .i64 e, σ3) := by
    intro sp σ2 σ3 e m1 hc
    have run : ∃ T1, execC lawProg (callN lawProg k) k 54 7 (bodyOf Try.f54) (initT 0 [.ptr sp 0, .ptr 1 0] .nil) σ2 = some (.ret, T1, σ3) ∧ T1.get 3 = some (.int .i64 e) := by
      simp only [bodyOf, Try.f54, Option.getD_some, initT, dx, reduceIte, zLt, zLe, zEq, zAd, zMu, zSu, zBe, yEq, yLt, yLe, yTn, reduceCtorEq, sx, fx54, m1, hc]
      exact ⟨_, rfl, by simp only [Tr.get_set, zEq, reduceIte]⟩
    obtain ⟨T1, r1, r2⟩ := run
    exact q_call (first := []) fn54 rfl (by simp [Try.f54]) r1 (by simp) (res_one r2)
  rcases open_vh (k := k) hv hb (by omega) σa with ⟨hr, σ2, ho, ex2⟩ | ⟨hr, hright, σ2, sp, pr, wr, its, ho, ex2, hM⟩
  · have hres : freeH ps ws a = ⟨[], [], 0, 4⟩ := by unfold freeH; rw [hr]; simp
    rw [hres]
    rw [hσa] at ho
    have key := after_form (k := k + 1) (σ := σ0) (fv := .func 54 [] [.ptr 1 0]) rfl hX hY ho (by rw [n0, ex2.2 4 (by omega)]; exact ga5) rfl
    rw [n0] at key
    exact fin _ _ 4 _ [] [] key (by rw [AMem.get_put, if_neg (by omega), ex2.2 2 (by omega), exa.2 2 (by omega)]; exact g2) rfl rfl (fun σ' _ _ => ⟨hp0, [], snap_hp0 σ' 9, nil_vh⟩)
  · have low6 : ∀ r, r < 5 → σ2.get r = σa.get r := fun r hr => ex2.2 r (by omega)
    have lowa : ∀ r, r < 3 → σa.get r = σ0.get r := fun r hr => exa.2 r (by omega)
    have h21 : σ2.get 1 = some (.row 1 false [.int .i64 a]) := by rw [low6 1 (by omega), lowa 1 (by omega)]; exact g1
    rw [na] at hM
    obtain ⟨σ3, fr, nx, hcase⟩ := pfree_exec (k := k - 1) (a := a) hM hright (by omega)
    rw [show k - 1 + 1 = k by omega] at hcase
    have h32 : σ3.get 2 = some (.row 2 true [.vs .nil [], .vs .nil []]) := by rw [fr 2 (by omega), low6 2 (by omega), lowa 2 (by omega)]; exact g2
    have h35 : σ3.get 4 = some (.row 2 true [.vs .nil [], .vs .nil []]) := by rw [fr 4 (by omega), low6 4 (by omega)]; exact ga5
    rw [hσa] at ho
    rcases hcase with ⟨hf, hc, _⟩ | ⟨b, its', hf, hc, hM'⟩
    · have hres : freeH ps ws a = ⟨[], [], 0, 7⟩ := by unfold freeH; rw [hr, if_pos rfl, hf]
      rw [hres]
      have hcl := clos sp σ2 σ3 7 h21 hc
      have key := after_err (k := k + 1) (σ := σ0) (by omega) rfl hX hY ho rfl hcl (by rw [n0]; exact h35)
      rw [n0] at key
      exact fin _ _ 7 _ [] [] key (by rw [AMem.get_put, if_neg (by omega)]; exact h32) rfl rfl (fun σ' _ _ => ⟨hp0, [], snap_hp0 σ' 9, nil_vh⟩)
    · have hres : freeH ps ws a = ⟨freeL ps b, clearW ws b, 0, 0⟩ := by unfold freeH; rw [hr, if_pos rfl, hf]
      rw [hres]
      have hcl := clos sp σ2 σ3 0 h21 hc
      obtain ⟨l1, l2, l3⟩ := hM'.own.lo
      have key := after_ok (k := k + 1) (σ := σ0) rfl hX hY ho rfl hcl (by rw [n0]; exact h35) hM'.own.ms rfl rfl
      rw [n0] at key
      refine fin _ _ 0 _ _ _ key (by rw [AMem.get_put, if_neg (by omega)]; exact h32) rfl rfl (fun σ' hg hn => ?_)
      have hM2 : HeapM 5 σ' sp pr none wr none its' (freeL ps b) (clearW ws b) := hM'.agree (fun r hr => by rw [hg r (by omega), AMem.get_put, if_neg (by omega)]) (by simpa using hn)
      exact hM2.vh (fr := true) 7
theorem Free_call {v : AVal} {ps : List Pg} {ws : List Int} (a : Int) (hv : VH v ps ws) (hb : Bd ps ws) (hk : 9001 ≤ k) : ∃ v', (∀ σ, pureCall lawProg (callN lawProg k) (.func 30 [] []) [v, .int .i64 a] σ = some (.tuple [v', .int .i64 (freeH ps ws a).e], σ)) ∧ VH v' (freeH ps ws a).ps (freeH ps ws a).ws := by
  obtain ⟨k, rfl⟩ : ∃ m, k = m + 1 := ⟨k - 1, by omega⟩
  obtain ⟨v', h1, h2⟩ := Free_run a hv hb (k := k) (by omega)
  refine ⟨v', fun σ => pureCall_of (seen := [] ++ ([] ++ [])) ?_ (memo30 _) h1, h2⟩
  have := hv.snap σ 10
  simp only [snapL, snapDepth, this, snapF]
end Go.Proofs.Ytjkfdiglokkceaa

/- Heaps: the program's Put. -/
set_option maxRecDepth 100000
set_option linter.unusedSimpArgs false
set_option linter.unusedVariables false
namespace Go.Proofs.Ytjkfdiglokkceaa
open Go Go.Proofs.Ytjkfdiglokkceaa.Pale
variable {k : Nat} {σ : AMem}

noncomputable def putH (ps : List Pg) (ws : List Int) (a : Int) (l : List Int) : HRes :=
  if rightB ps ws then (match findL ps a with
    | some b => if l.all wordQ then (if ((l.length : Nat) : Int) > b.size then ⟨[], [], 0, 5⟩ else ⟨ps, putW ws b l, 0, 0⟩) else ⟨[], [], 0, 3⟩
    | none => ⟨[], [], 0, 7⟩) else ⟨[], [], 0, 4⟩
set_option maxHeartbeats 1000000 in
theorem Put_run {v : AVal} {ps : List Pg} {ws l : List Int} {K : VK} (a : Int) (hv : VH v ps ws) (hb : Bd ps ws) (hl : l.length ≤ 1000) (hk : 9000 ≤ k) : ∃ v', pureRun (callN lawProg (k + 1)) (.func 32 [] []) [v, .int .i64 a, .vs K (intV l)] = some (.tuple [v', .int .i64 (putH ps ws a l).e], true) ∧ VH v' (putH ps ws a l).ps (putH ps ws a l).ws := by
  obtain ⟨X, Y, rfl, hX, hY⟩ := hv.cells
  obtain ⟨k, rfl⟩ : ∃ m, k = m + 2 := ⟨k - 2, by omega⟩
  obtain ⟨σ0, hσ0⟩ : ∃ s, s = (((AMem.empty.push (.row 2 true [X, Y])).push (.row 1 false [.int .i64 a])).push (.row 1 false [.vs K (intV l)])).push (.row 2 true [.vs .nil [], .vs .nil []]) := ⟨_, rfl⟩
  have n0 : σ0.next = 4 := by rw [hσ0]; simp [next_empty]
  have g0 : σ0.get 0 = some (.row 2 true [X, Y]) := by rw [hσ0]; simp [AMem.get_push, next_empty]
  have g1 : σ0.get 1 = some (.row 1 false [.int .i64 a]) := by rw [hσ0]; simp [AMem.get_push, next_empty]
  have gl : σ0.get 2 = some (.row 1 false [.vs K (intV l)]) := by rw [hσ0]; simp [AMem.get_push, next_empty]
  have g2 : σ0.get 3 = some (.row 2 true [.vs .nil [], .vs .nil []]) := by rw [hσ0]; simp [AMem.get_push, next_empty]
  obtain ⟨σa, hσa⟩ : ∃ s, s = (σ0.push (.row 2 true [X, Y])).push (.row 2 true [.vs .nil [], .vs .nil []]) := ⟨_, rfl⟩
  have exa : Ext σ0 σa := by rw [hσa]; exact (Ext.push _ _).trans (Ext.push _ _)
  have na : σa.next = 6 := by rw [hσa]; simp [n0]
  have ga5 : σa.get 5 = some (.row 2 true [.vs .nil [], .vs .nil []]) := by rw [hσa, AMem.get_push, if_pos (by simp [n0])]
  have fin : ∀ (o0 o1 : AVal) (e : Int) (σ9 : AMem) (qs : List Pg) (us : List Int), callN lawProg (k + 2) (.func 51 [] []) [.agg [X, Y], .func 58 [] [.ptr 1 0, .ptr 2 0]] σ0 = some (.tuple [.agg [o0, o1], .int .i64 e], σ9) → σ9.get 3 = some (.row 2 true [.vs .nil [], .vs .nil []]) → o0.oneCell = true → o1.oneCell = true → (∀ σ', (∀ r, r ≠ 3 → σ'.get r = σ9.get r) → σ9.next ≤ σ'.next → ∃ v' S, snapF true σ' 11 (.agg [o0, o1]) = some (v', S) ∧ VH v' qs us) → ∃ v', pureRun (callN lawProg (k + 2 + 1)) (.func 32 [] []) [.agg [X, Y], .int .i64 a, .vs K (intV l)] = some (.tuple [v', .int .i64 e], true) ∧ VH v' qs us := by
    intro o0 o1 e σ9 qs us hc m2 ho0 ho1 hs
    obtain ⟨σf, hσf⟩ : ∃ s, s = σ9.put 3 (.row 2 true [o0, o1]) := ⟨_, rfl⟩
    have run : ∃ T1, execC lawProg (callN lawProg (k + 2)) (k + 2) 32 13 (bodyOf Try.f32) (initT 0 [.agg [X, Y], .int .i64 a, .vs K (intV l)] .nil) AMem.empty = some (.ret, T1, σf) ∧ T1.get 6 = some (.ptr 3 0) ∧ T1.get 7 = some (.int .i64 e) := by
      rw [hσf]
      simp only [bodyOf, Try.f32, Option.getD_some, initT, dx, reduceIte, zLt, zLe, zEq, zAd, zMu, zSu, zBe, yEq, yLt, yLe, yTn, reduceCtorEq, sx, fx32, hX, hY, ← hσ0]
      simp only [dx, reduceIte, zLt, zLe, zEq, zAd, zMu, zSu, zBe, yEq, yLt, yLe, yTn, reduceCtorEq, sx, fx32, g0, hX, hY, hc, m2, ho0, ho1]
      exact ⟨_, rfl, by simp only [Tr.get_set, zEq, reduceIte], by simp only [Tr.get_set, zEq, reduceIte]⟩
    obtain ⟨T1, r1, r2, r3⟩ := run
    obtain ⟨v', S, hS, hvh⟩ := hs σf (fun r h2 => by rw [hσf, AMem.get_put, if_neg (fun h => h2 h.symm)]) (by rw [hσf]; simp)
    refine ⟨v', ?_, hvh⟩
    have f2 : σf.get 3 = some (.row 2 true [o0, o1]) := by rw [hσf, AMem.get_put, if_pos rfl]
    refine pureRun_of (vs := [.agg [o0, o1], .int .i64 e]) (seen := S ++ ([] ++ [])) fn32 rfl (by simp [Try.f32]) r1 (by simp) ?_ ?_
    · simp only [Try.f32, resultsA, resultA, dx, reduceIte, zLt, zLe, zEq, zAd, zMu, zSu, zBe, yEq, yLt, yLe, yTn, reduceCtorEq, sx, fx32, r2, r3, f2]
    · have c2 : snapF true σf 11 (.int .i64 e) = some (.int .i64 e, []) := rfl
      show snapF true σf (11 + 1) (.tuple [.agg [o0, o1], .int .i64 e]) = _
      rw [snapF]
      simp only [snapL, hS, c2, Option.map_some]
  have clos : ∀ (sp : Nat) (σ2 σ3 : AMem) (e : Int), σ2.get 1 = some (.row 1 false [.int .i64 a]) → σ2.get 2 = some (.row 1 false [.vs K (intV l)]) → callN lawProg k (.func 59 [] []) [.ptr sp 0, .int .i64 a, .vs K (intV l)] σ2 = some (.int .i64 e, σ3) → callN lawProg (k + 1) (.func 58 [] [.ptr 1 0, .ptr 2 0]) [.ptr sp 0] σ2 = some (.int .i64 e, σ3) := by
    intro sp σ2 σ3 e m1 m2 hc
    have run : ∃ T1, execC lawProg (callN lawProg k) k 58 9 (bodyOf Try.f58) (initT 0 [.ptr sp 0, .ptr 1 0, .ptr 2 0] .nil) σ2 = some (.ret, T1, σ3) ∧ T1.get 4 = some (.int .i64 e) := by
      simp only [bodyOf, Try.f58, Option.getD_some, initT, dx, reduceIte, zLt, zLe, zEq, zAd, zMu, zSu, zBe, yEq, yLt, yLe, yTn, reduceCtorEq, sx, fx58, m1, m2, hc]
      exact ⟨_, rfl, by simp only [Tr.get_set, zEq, reduceIte]⟩
    obtain ⟨T1, r1, r2⟩ := run
    exact q_call (first := []) fn58 rfl (by simp [Try.f58]) r1 (by simp) (res_one r2)
  rcases open_vh (k := k) hv hb (by omega) σa with ⟨hr, σ2, ho, ex2⟩ | ⟨hr, hright, σ2, sp, pr, wr, its, ho, ex2, hM⟩
  · have hres : putH ps ws a l = ⟨[], [], 0, 4⟩ := by unfold putH; rw [hr]; simp
    rw [hres]
    rw [hσa] at ho
    have key := after_form (k := k + 1) (σ := σ0) (fv := .func 58 [] [.ptr 1 0, .ptr 2 0]) rfl hX hY ho (by rw [n0, ex2.2 5 (by omega)]; exact ga5) rfl
    rw [n0] at key
    exact fin _ _ 4 _ [] [] key (by rw [AMem.get_put, if_neg (by omega), ex2.2 3 (by omega), exa.2 3 (by omega)]; exact g2) rfl rfl (fun σ' _ _ => ⟨hp0, [], snap_hp0 σ' 9, nil_vh⟩)
  · have low6 : ∀ r, r < 6 → σ2.get r = σa.get r := fun r hr => ex2.2 r (by omega)
    have lowa : ∀ r, r < 4 → σa.get r = σ0.get r := fun r hr => exa.2 r (by omega)
    have h21 : σ2.get 1 = some (.row 1 false [.int .i64 a]) := by rw [low6 1 (by omega), lowa 1 (by omega)]; exact g1
    have h22 : σ2.get 2 = some (.row 1 false [.vs K (intV l)]) := by rw [low6 2 (by omega), lowa 2 (by omega)]; exact gl
    rw [na] at hM
    obtain ⟨σ3, fr, nx, hcase⟩ := pput_exec (k := k - 1) (a := a) (K := K) (l := l) hM hright (by omega) (by omega) (by omega)
    rw [show k - 1 + 1 = k by omega] at hcase
    have h32 : σ3.get 3 = some (.row 2 true [.vs .nil [], .vs .nil []]) := by rw [fr 3 (by omega), low6 3 (by omega), lowa 3 (by omega)]; exact g2
    have h35 : σ3.get 5 = some (.row 2 true [.vs .nil [], .vs .nil []]) := by rw [fr 5 (by omega), low6 5 (by omega)]; exact ga5
    rw [hσa] at ho
    have bad : ∀ e : Int, e ≠ 0 → callN lawProg k (.func 59 [] []) [.ptr sp 0, .int .i64 a, .vs K (intV l)] σ2 = some (.int .i64 e, σ3) → ∃ v', pureRun (callN lawProg (k + 2 + 1)) (.func 32 [] []) [.agg [X, Y], .int .i64 a, .vs K (intV l)] = some (.tuple [v', .int .i64 e], true) ∧ VH v' [] [] := by
      intro e he hc
      have hcl := clos sp σ2 σ3 e h21 h22 hc
      have key := after_err (k := k + 1) (σ := σ0) he rfl hX hY ho rfl hcl (by rw [n0]; exact h35)
      rw [n0] at key
      exact fin _ _ e _ [] [] key (by rw [AMem.get_put, if_neg (by omega)]; exact h32) rfl rfl (fun σ' _ _ => ⟨hp0, [], snap_hp0 σ' 9, nil_vh⟩)
    rcases hcase with ⟨hf, hc, _⟩ | ⟨b, hf, ⟨hall, hc, _⟩ | ⟨hall, hgt, hc, _⟩ | ⟨hall, hgt, hc, hM'⟩⟩
    · have hres : putH ps ws a l = ⟨[], [], 0, 7⟩ := by unfold putH; rw [hr, if_pos rfl, hf]
      rw [hres]
      exact bad 7 (by omega) hc
    · have hres : putH ps ws a l = ⟨[], [], 0, 3⟩ := by unfold putH; rw [hr, if_pos rfl, hf]; simp only [hall]; rfl
      rw [hres]
      exact bad 3 (by omega) hc
    · have hres : putH ps ws a l = ⟨[], [], 0, 5⟩ := by unfold putH; rw [hr, if_pos rfl, hf]; simp only [hall, if_true, if_pos hgt]
      rw [hres]
      exact bad 5 (by omega) hc
    · have hres : putH ps ws a l = ⟨ps, putW ws b l, 0, 0⟩ := by unfold putH; rw [hr, if_pos rfl, hf]; simp only [hall, if_true, if_neg hgt]
      rw [hres]
      have hcl := clos sp σ2 σ3 0 h21 h22 hc
      obtain ⟨l1, l2, l3⟩ := hM'.own.lo
      have key := after_ok (k := k + 1) (σ := σ0) rfl hX hY ho rfl hcl (by rw [n0]; exact h35) hM'.own.ms rfl rfl
      rw [n0] at key
      refine fin _ _ 0 _ _ _ key (by rw [AMem.get_put, if_neg (by omega)]; exact h32) rfl rfl (fun σ' hg hn => ?_)
      have hM2 : HeapM 6 σ' sp pr none wr none its ps (putW ws b l) := hM'.agree (fun r hr => by rw [hg r (by omega), AMem.get_put, if_neg (by omega)]) (by simpa using hn)
      exact hM2.vh (fr := true) 7
end Go.Proofs.Ytjkfdiglokkceaa

/- Heaps: the reference's Copy. -/
set_option maxRecDepth 100000
set_option linter.unusedSimpArgs false
set_option linter.unusedVariables false
namespace Go.Proofs.Ytjkfdiglokkceaa
open Go Go.Proofs.Ytjkfdiglokkceaa.Pale
variable {k : Nat} {σ : AMem}

/-- A list that was put behind nil. -/
def NilOr (σ : AMem) (low : Nat) (sz : Nat) (g : Bool) (x : AVal) (n : Nat) (cells : List AVal) : Prop := (n = 0 ∧ x = .vs .nil []) ∨ ∃ r, x = .slice r 0 n none sz ∧ low ≤ r ∧ r < σ.next ∧ σ.get r = some (.row sz g cells)
theorem append_nil {e : TyI} {x : AVal} {cells : List AVal} {n : Nat} (hs0 : e.size ≠ 0) (hb0 : e.bytes ≠ 0) (hb1 : e.bytes ≤ 1048576) (hsrc : sourceA e.size σ x = some (cells, n)) (hby : n * e.bytes ≤ mostBytes) : ∃ y σ', appendA e σ (.vs .nil []) x = some (y, σ') ∧ Ext σ σ' ∧ NilOr σ' σ.next e.size e.isAgg y n cells := by
  by_cases h0 : n = 0
  · refine ⟨.vs .nil [], σ, ?_, Ext.refl _, .inl ⟨h0, rfl⟩⟩
    simp only [appendA, hsrc, if_pos h0]
  · refine ⟨.slice σ.next 0 n none e.size, σ.push (.row e.size e.isAgg cells), ?_, Ext.push _ _, .inr ⟨σ.next, rfl, Nat.le_refl _, by simp, by rw [AMem.get_push, if_pos rfl]⟩⟩
    simp only [appendA, hsrc]
    rw [if_neg h0, if_neg (by simp [hs0, hb0]; omega)]
    simp only [if_pos hby]
theorem one_cells {x : AVal} (h : x.oneCell = true) : x.cells = [x] := by
  cases x <;> first | rfl | (simp [AVal.oneCell] at h)
theorem NilOr.one {low sz : Nat} {g : Bool} {x : AVal} {n : Nat} {cells : List AVal} (h : NilOr σ low sz g x n cells) : x.oneCell = true := by
  rcases h with ⟨_, rfl⟩ | ⟨r, rfl, _⟩ <;> rfl
theorem NilOr.same {low low' sz : Nat} {σ' : AMem} {g : Bool} {x : AVal} {n : Nat} {cells : List AVal} (h : NilOr σ low sz g x n cells) (hl : low' ≤ low) (hn : σ.next ≤ σ'.next) (hs : ∀ r, low ≤ r → r < σ.next → σ'.get r = σ.get r) : NilOr σ' low' sz g x n cells := by
  rcases h with h | ⟨r, h1, h2, h3, h4⟩
  · exact .inl h
  · exact .inr ⟨r, h1, by omega, by omega, by rw [hs r h2 h3]; exact h4⟩
/-- A heap that was copied: not yet in a row. -/
structure CopyM (low : Nat) (σ : AMem) (X W : AVal) (its : List MItem) (ps : List Pg) (ws : List Int) : Prop where
  pi : its.map MItem.pi = ps.map pgPI
  ox : ∀ a, a ∈ its → ownX a
  it : ∃ c, low ≤ c ∧ c < σ.next ∧ Items (c + 1) σ c its ∧ Grew (c + 1) σ 3 true X its.length (its.map MItem.cells).flatten ∧ (∀ r n cc z, X = .slice r 0 n cc z → r ∉ rowsOf its) ∧ ((ws.length = 0 ∧ W = .vs .nil []) ∨ ∃ r, W = .slice r 0 ws.length none 1 ∧ low ≤ r ∧ r < c ∧ σ.get r = some (.row 1 false (intV ws)))
def pgItem (p : Pg) (x : AVal) : MItem := ⟨[.int .u8 p.kind, .int .i64 p.n], x, boolV p.used⟩
theorem page_one (p : Pg) {x : AVal} (hx : x.oneCell = true) : [AVal.int .u8 p.kind, .int .i64 p.n, x].all AVal.oneCell = true := by
  simp only [List.all_cons, List.all_nil, hx, Bool.and_true]
  rfl
set_option maxHeartbeats 1000000 in
theorem copy_exec {v : AVal} {ps : List Pg} {ws : List Int} (hv : VH v ps ws) (hb : Bd ps ws) (hk : 2000 ≤ k) : ∃ σ' X W its, callN lawProg (k + 1) (.func 16 [] []) [v] σ = some (.agg [X, W], σ') ∧ Ext σ σ' ∧ CopyM σ.next σ' X W its ps ws := by
  obtain ⟨kp, kw, l, rfl, rfl, hkp, hkw, hgood⟩ := hv
  obtain ⟨b1, b2, b3⟩ := hb
  have hlp : (pgsOf l).length = l.length := by simp [pgsOf]
  rw [hlp] at b1
  obtain ⟨o, ho⟩ : ∃ o, o = σ.next := ⟨_, rfl⟩
  obtain ⟨σ1, hσ1⟩ : ∃ s, s = (σ.push (.row 2 true [.vs kp (l.map pv), .vs kw (intV ws)])).push (.row 2 true [.vs .nil [], .vs .nil []]) := ⟨_, rfl⟩
  have ex1 : Ext σ σ1 := by rw [hσ1]; exact (Ext.push _ _).trans (Ext.push _ _)
  have n1 : σ1.next = o + 2 := by rw [hσ1, ho]; simp
  have g1 : σ1.get o = some (.row 2 true [.vs kp (l.map pv), .vs kw (intV ws)]) := by rw [hσ1, ho, AMem.get_push, if_neg (by simp only [AMem.next_push]; omega), AMem.get_push, if_pos rfl]
  have g2 : σ1.get (o + 1) = some (.row 2 true [.vs .nil [], .vs .nil []]) := by rw [hσ1, ho, AMem.get_push, if_pos (by simp)]
  obtain ⟨W, σ2, ha, ex2, hW⟩ := append_nil (σ := σ1) (e := (⟨.int .i64, 1, 8, [.int .i64 0]⟩ : TyI)) (x := .vs kw (intV ws)) (cells := intV ws) (n := ws.length) (by decide) (by decide) (by decide) (source_ints kw ws σ1) (by simp only [mostBytes]; omega)
  have hWo := hW.one
  have hWc := one_cells hWo
  obtain ⟨c, hc⟩ : ∃ c, c = σ2.next := ⟨_, rfl⟩
  have hx2 := ex2.1
  obtain ⟨σ3, hσ3⟩ : ∃ s, s = (σ2.push (.row 2 true [.vs .nil [], .vs .nil []])).put c (.row 2 true [.vs .nil [], W]) := ⟨_, rfl⟩
  have ex3 : Ext σ2 σ3 := by rw [hσ3]; exact (Ext.push _ _).put _ _ (by omega)
  have n3 : σ3.next = c + 1 := by rw [hσ3, hc]; simp
  have gc3 : σ3.get c = some (.row 2 true [.vs .nil [], W]) := by rw [hσ3, AMem.get_put, if_pos rfl]
  have h31 : ∀ r, r < o + 2 → σ3.get r = σ1.get r := fun r hr => by rw [ex3.2 r (by omega), ex2.2 r (by omega)]
  have run : ∃ T1 σ' X its, execC lawProg (callN lawProg k) k 16 33 (bodyOf Try.f16) (initT 0 [.agg [.vs kp (l.map pv), .vs kw (intV ws)]] .nil) σ = some (.ret, T1, σ') ∧ T1.get 2 = some (.ptr (o + 1) 0) ∧ σ'.get (o + 1) = some (.row 2 true [X, W]) ∧ Ext σ σ' ∧ CopyM σ.next σ' X W its (pgsOf l) ws := by
    simp only [bodyOf, Try.f16, Option.getD_some, initT, dx, reduceIte, zLt, zLe, zEq, zAd, zMu, zSu, zBe, yEq, yLt, yLe, yTn, reduceCtorEq, sx, fx16, ← hσ1, ← ho]
    simp only [dx, reduceIte, zLt, zLe, zEq, zAd, zMu, zSu, zBe, yEq, yLt, yLe, yTn, reduceCtorEq, sx, fx16, g1, ha, ← hc, hWo, hWc, ← hσ3]
    generalize hL : execC _ _ _ _ _ (Code.loop _) _ _ = q
    obtain ⟨e, T', σ', rfl, _, rfl, t1, t2, t3, X, its, mc, nx, fr, hpi, hox, hit, hgr, hXr⟩ : ∃ e T' σ', q = some (e, T', σ') ∧ e ≠ .normal ∧ e = .exit 0 ∧ T'.get 1 = some (.ptr o 0) ∧ T'.get 2 = some (.ptr (o + 1) 0) ∧ T'.get 3 = some (.ptr c 0) ∧ ∃ X its, σ'.get c = some (.row 2 true [X, W]) ∧ c + 1 ≤ σ'.next ∧ (∀ r, r < c → σ'.get r = σ3.get r) ∧ its.map MItem.pi = (l.take l.length).map pvPI ∧ (∀ a, a ∈ its → ownX a) ∧ Items (c + 1) σ' c its ∧ Grew (c + 1) σ' 3 true X its.length (its.map MItem.cells).flatten ∧ (∀ r n cc z, X = .slice r 0 n cc z → r ∉ rowsOf its) := by
      rw [← hL]
      refine exec_loop (fun i T σ' => i ≤ l.length ∧ T.get 1 = some (.ptr o 0) ∧ T.get 2 = some (.ptr (o + 1) 0) ∧ T.get 3 = some (.ptr c 0) ∧ T.get 4 = some (.int .i64 (i : Nat)) ∧ ∃ X its, σ'.get c = some (.row 2 true [X, W]) ∧ c + 1 ≤ σ'.next ∧ (∀ r, r < c → σ'.get r = σ3.get r) ∧ its.map MItem.pi = (l.take i).map pvPI ∧ (∀ a, a ∈ its → ownX a) ∧ Items (c + 1) σ' c its ∧ Grew (c + 1) σ' 3 true X its.length (its.map MItem.cells).flatten ∧ (∀ r n cc z, X = .slice r 0 n cc z → r ∉ rowsOf its)) l.length (by omega) ?_ ?_ ?_
      · rintro i hi T σ0 ⟨_, t1, t2, t3, t4, X, its, mc, nx, fr, hpi, hox, hit, hgr, hXr⟩
        have hlt : ((i : Nat) : Int) < ((l.length : Nat) : Int) := by omega
        have hw' := i64_succ (i := i) (by omega)
        have hget := pv_get hi
        have m0 : σ0.get o = some (.row 2 true [.vs kp (l.map pv), .vs kw (intV ws)]) := by rw [fr o (by omega), h31 o (by omega)]; exact g1
        rcases hpv : l[i] with ⟨p, K⟩
        rw [hpv] at hget
        simp only at hget
        have hul : p.used.length ≤ 1000 := b3 p (List.mem_map.2 ⟨l[i], List.getElem_mem hi, by rw [hpv]⟩)
        obtain ⟨q, hq⟩ : ∃ q, q = σ0.next := ⟨_, rfl⟩
        obtain ⟨σa, hσa⟩ : ∃ s, s = (σ0.push (.row 3 true [.int .u8 0, .int .i64 0, .vs .nil []])).put q (.row 3 true [.int .u8 p.kind, .int .i64 p.n, .vs K (boolV p.used)]) := ⟨_, rfl⟩
        have exa : Ext σ0 σa := by rw [hσa]; exact (Ext.push _ _).put _ _ (by omega)
        have na : σa.next = q + 1 := by rw [hσa, hq]; simp
        have gq : σa.get q = some (.row 3 true [.int .u8 p.kind, .int .i64 p.n, .vs K (boolV p.used)]) := by rw [hσa, AMem.get_put, if_pos rfl]
        obtain ⟨x, σb, hab, exb, hx⟩ := append_nil (σ := σa) (e := (⟨.bool, 1, 1, [.bool false]⟩ : TyI)) (x := .vs K (boolV p.used)) (cells := boolV p.used) (n := p.used.length) (by decide) (by decide) (by decide) (source_bools K p.used σa) (by simp only [mostBytes]; omega)
        have hxo := hx.one
        have hxc := one_cells hxo
        have hbn := exb.1
        have gqb : σb.get q = some (.row 3 true [.int .u8 p.kind, .int .i64 p.n, .vs K (boolV p.used)]) := by rw [exb.2 q (by omega)]; exact gq
        obtain ⟨σc, hσc⟩ : ∃ s, s = σb.put q (.row 3 true [.int .u8 p.kind, .int .i64 p.n, x]) := ⟨_, rfl⟩
        have nc : σc.next = σb.next := by rw [hσc]; simp
        have gqc : σc.get q = some (.row 3 true [.int .u8 p.kind, .int .i64 p.n, x]) := by rw [hσc, AMem.get_put, if_pos rfl]
        have exc : Ext σ0 σc := by rw [hσc]; exact (exa.trans exb).put _ _ (by omega)
        have mcc : σc.get c = some (.row 2 true [X, W]) := by rw [exc.2 c (by omega)]; exact mc
        have hgc : Grew (c + 1) σc 3 true X its.length (its.map MItem.cells).flatten := by
          refine ⟨hgr.1, ?_⟩
          rcases hgr.2 with h | ⟨r, a1, a2, a3, a4⟩
          · exact .inl h
          · exact .inr ⟨r, a1, by omega, a3, by rw [exc.2 r (by omega)]; exact a4⟩
        have hilen : its.length = i := by
          have := congrArg List.length hpi
          simp only [List.length_map, List.length_take] at this
          omega
        obtain ⟨σd, a1, a2, a3, a4, a5⟩ := Grew.one (e := (⟨.struct [(0, 5), (1, 3), (2, 77)], 3, 40, [.int .u8 0, .int .i64 0, .vs .nil []]⟩ : TyI)) (xs := [.int .u8 p.kind, .int .i64 p.n, x]) hgc (by omega) rfl (by decide) (by decide) (by decide) (by simp only [mostBytes]; omega) (page_one p hxo)
        have a1' : appendA (⟨.struct [(0, 5), (1, 3), (2, 77)], 3, 40, [.int .u8 0, .int .i64 0, .vs .nil []]⟩ : TyI) (σc.push (.row 3 true [.int .u8 p.kind, .int .i64 p.n, x])) X (.slice σc.next 0 1 (some 1) 3) = some (.slice (σc.next + 1) 0 (its.length + 1) none 3, σd) := a1
        have gcd : σd.get c = some (.row 2 true [X, W]) := by rw [a4 c (by omega)]; exact mcc
        have hXo : X.oneCell = true := by rcases hgr.2 with ⟨_, rfl⟩ | ⟨_, _, _, rfl, _⟩ <;> rfl
        have hXc := one_cells hXo
        obtain ⟨σe, hσe⟩ : ∃ s, s = σd.put c (.row 2 true [.slice (σc.next + 1) 0 (its.length + 1) none 3, W]) := ⟨_, rfl⟩
        have ne : σe.next = σc.next + 2 := by rw [hσe]; simpa using a3
        -- the rows of the lists of pages
        have hkeep : ∀ r, r ∈ rowsOf its → σe.get r = σ0.get r := fun r hr => by
          have hbd := hit.bound r hr
          rw [hσe, AMem.get_put, if_neg (by omega), a5 r (by omega) (fun e => hXr r _ _ _ e hr), exc.2 r hbd.2]
        have hnew : ∀ r, r ∈ rowOf x → q + 1 ≤ r ∧ r < σc.next ∧ r ≠ c ∧ r ∉ rowsOf its := fun r hr => by
          rcases hx with ⟨_, rfl⟩ | ⟨r', rfl, h1, h2, _⟩
          · simp [rowOf] at hr
          · simp only [rowOf, List.mem_singleton] at hr
            subst hr
            exact ⟨by omega, by omega, by omega, fun hm => by have := (hit.bound r hm).2; omega⟩
        have hok : (pgItem p x).okAt (c + 1) σe := by
          refine ⟨rfl, boolV_pure _, ?_⟩
          rcases hx with ⟨h0, rfl⟩ | ⟨r', rfl, h1, h2, h3⟩
          · refine .inl ⟨.nil, ?_⟩
            have : p.used = [] := List.eq_nil_of_length_eq_zero h0
            simp [pgItem, this, boolV]
          · refine .inr ⟨r', none, by simp [pgItem, boolV_length], by omega, by omega, ?_⟩
            have hne : X ≠ .slice r' 0 its.length none 3 := fun e => by
              rcases hgr.2 with ⟨_, h⟩ | ⟨r2, _, h5, h6, _⟩
              · rw [h] at e; cases e
              · rw [h6] at e
                simp only [AVal.slice.injEq] at e
                omega
            rw [hσe, AMem.get_put, if_neg (by omega), a5 r' (by omega) hne, hσc, AMem.get_put, if_neg (by omega)]
            exact h3
        refine ⟨_, _, by
          simp only [dx, reduceIte, zLt, zLe, zEq, zAd, zMu, zSu, zBe, yEq, yLt, yLe, yTn, reduceCtorEq, sx, fx16, Nat.add_assoc, Nat.add_eq_left, Nat.left_eq_add, Nat.add_left_cancel_iff, t1, t2, t3, t4, m0, hlt, List.length_map, hget, Int.natCast_nonneg, Int.toNat_natCast, ← hq, ← hσa]
          simp only [dx, reduceIte, zLt, zLe, zEq, zAd, zMu, zSu, zBe, yEq, yLt, yLe, yTn, reduceCtorEq, sx, fx16, t1, t2, t3, t4, gq, hab, gqb, hxo, hxc, ← hσc, mcc, gqc, a1', gcd, hWo, hWc, ← hσe, hw']
          rfl, by omega, ?_, ?_, ?_, ?_, .slice (σc.next + 1) 0 (its.length + 1) none 3, its ++ [pgItem p x], ?_, by omega, ?_, ?_, ?_, ?_, ?_, ?_⟩
        · simp only [Tr.get_set, zEq, reduceIte, t1]
        · simp only [Tr.get_set, zEq, reduceIte, t2]
        · simp only [Tr.get_set, zEq, reduceIte, t3]
        · simp only [Tr.get_set, zEq, reduceIte]
        · rw [hσe, AMem.get_put, if_pos rfl]
        · intro r hr
          rw [hσe, AMem.get_put, if_neg (by omega), a4 r (by omega), exc.2 r (by omega)]
          exact fr r hr
        · rw [List.map_append, hpi, List.take_succ_eq_append_getElem hi, List.map_append, hpv]
          rfl
        · intro a ha
          rcases List.mem_append.1 ha with h | h
          · exact hox a h
          · simp only [List.mem_singleton] at h
            subst h
            rcases hx with ⟨h0, rfl⟩ | ⟨r', rfl, _⟩
            · exact .inl ⟨rfl, by simp [pgItem, List.eq_nil_of_length_eq_zero h0, boolV]⟩
            · exact .inr ⟨r', none, by simp [pgItem, boolV_length]⟩
        · exact (hit.same (Nat.le_refl _) (by omega) hkeep hit.2.2).add hok fun r hr => ⟨(hnew r hr).2.2.2, (hnew r hr).2.2.1⟩
        · rw [List.length_append, List.length_singleton, List.map_append, List.flatten_append]
          refine ⟨?_, .inr ⟨σc.next + 1, by omega, by omega, rfl, ?_⟩⟩
          · have := a2.1
            simpa [MItem.cells, pgItem] using this
          · rcases a2.2 with ⟨h0, _⟩ | ⟨r', _, _, e1, e2⟩
            · omega
            · simp only [AVal.slice.injEq] at e1
              rw [hσe, AMem.get_put, if_neg (by omega), e1.1]
              exact e2
        · intro r n cc z e
          simp only [AVal.slice.injEq] at e
          rw [rowsOf_append, List.mem_append]
          rintro (h | h)
          · have := (hit.bound r h).2; omega
          · have h' : r ∈ rowOf x := by simpa [rowsOf, pgItem] using h
            have := hnew r h'; omega
      · rintro T σ0 ⟨_, t1, t2, t3, t4, X, its, mc, nx, fr, hpi, hox, hit, hgr, hXr⟩
        have hge : ¬ (((l.length : Nat) : Int) < ((l.length : Nat) : Int)) := by omega
        have m0 : σ0.get o = some (.row 2 true [.vs kp (l.map pv), .vs kw (intV ws)]) := by rw [fr o (by omega), h31 o (by omega)]; exact g1
        refine ⟨_, _, _, by
          simp only [dx, reduceIte, zLt, zLe, zEq, zAd, zMu, zSu, zBe, yEq, yLt, yLe, yTn, reduceCtorEq, sx, fx16, t1, t4, m0, List.length_map, hge]
          rfl, by simp, rfl, ?_, ?_, ?_, X, its, mc, nx, fr, hpi, hox, hit, hgr, hXr⟩
        · simp only [Tr.get_set, zEq, reduceIte, t1]
        · simp only [Tr.get_set, zEq, reduceIte, t2]
        · simp only [Tr.get_set, zEq, reduceIte, t3]
      · refine ⟨Nat.zero_le _, ?_, ?_, ?_, ?_, .vs .nil [], [], gc3, by omega, fun _ _ => rfl, rfl, (fun a ha => by cases ha), Items.nil _ _ _, ⟨rfl, .inl ⟨rfl, rfl⟩⟩, fun r n cc z e => by cases e⟩
        all_goals simp only [Tr.get_set, zEq, reduceIte] <;> rfl
    have hXo : X.oneCell = true := by rcases hgr.2 with ⟨_, rfl⟩ | ⟨_, _, _, rfl, _⟩ <;> rfl
    have mo : σ'.get (o + 1) = some (.row 2 true [.vs .nil [], .vs .nil []]) := by rw [fr (o + 1) (by omega), h31 (o + 1) (by omega)]; exact g2
    simp only [dx, reduceIte, zLt, zLe, zEq, zAd, zMu, zSu, zBe, yEq, yLt, yLe, yTn, reduceCtorEq, sx, fx16, t2, t3, mc, mo, hXo, hWo]
    refine ⟨_, _, X, its, rfl, by simp only [Tr.get_set, zEq, reduceIte, t2], by rw [AMem.get_put, if_pos rfl], ⟨by simp only [AMem.next_put]; omega, fun r hr => by rw [AMem.get_put, if_neg (by omega), fr r (by omega), h31 r (by omega), ex1.2 r hr]⟩, ⟨?_, hox, c, by omega, by simp only [AMem.next_put]; omega, ?_, ?_, hXr, ?_⟩⟩
    · rw [hpi, List.take_length, pi_pv]
    · exact hit.same (Nat.le_refl _) (by simp) (fun r hr => by have := hit.bound r hr; rw [AMem.get_put, if_neg (by omega)]) hit.2.2
    · refine ⟨hgr.1, ?_⟩
      rcases hgr.2 with h | ⟨r, a1, a2, a3, a4⟩
      · exact .inl h
      · exact .inr ⟨r, a1, by simpa using a2, a3, by rw [AMem.get_put, if_neg (by omega)]; exact a4⟩
    · rcases hW with h | ⟨r, h1, h2, h3, h4⟩
      · exact .inl h
      · refine .inr ⟨r, h1, by omega, by omega, ?_⟩
        rw [AMem.get_put, if_neg (by omega), fr r (by omega), ex3.2 r (by omega)]
        exact h4
  obtain ⟨T1, σ', X, its, h1, h2, h3, h4, h5⟩ := run
  refine ⟨σ', X, W, its, q_call (first := []) (caps := []) (vs := [.agg [X, W]]) fn16 rfl (by simp [Try.f16]) h1 (by simp) ?_, h4, h5⟩
  simp only [Try.f16, resultsA, resultA, dx, reduceIte, zLt, zLe, zEq, zAd, zMu, zSu, zBe, yEq, yLt, yLe, yTn, reduceCtorEq, sx, fx16, h2, h3]
end Go.Proofs.Ytjkfdiglokkceaa

/- Heaps: what the reference's Copy gives. -/
set_option maxRecDepth 100000
set_option linter.unusedSimpArgs false
set_option linter.unusedVariables false
namespace Go.Proofs.Ytjkfdiglokkceaa
open Go Go.Proofs.Ytjkfdiglokkceaa.Pale
variable {k : Nat} {σ : AMem}

theorem CopyM.heap {low : Nat} {X W : AVal} {its : List MItem} {ps : List Pg} {ws : List Int} (h : CopyM low σ X W its ps ws) (hp : 1 ≤ ps.length) (hw : 1 ≤ ws.length) : ∃ pr wr, X = .slice pr 0 its.length none 3 ∧ W = .slice wr 0 ws.length none 1 ∧ HeapM low (σ.push (.row 2 true [.slice pr 0 its.length none 3, .slice wr 0 ws.length none 1])) σ.next pr none wr none its ps ws := by
  obtain ⟨hpi, hox, c, c1, c2, hit, hgr, hXr, hW⟩ := h
  have hil := pg_len hpi
  rcases hgr.2 with ⟨h0, _⟩ | ⟨pr, p1, p2, rfl, p4⟩
  · omega
  · rcases hW with ⟨h0, _⟩ | ⟨wr, rfl, w1, w2, w3⟩
    · omega
    · refine ⟨pr, wr, rfl, rfl, ⟨⟨by rw [AMem.get_push, if_pos rfl], by rw [AMem.get_push, if_neg (by omega)]; exact p4, by rw [AMem.get_push, if_neg (by omega)]; exact w3, ?_, ?_, ?_, ⟨by omega, by omega, by omega⟩, ⟨by omega, by omega, w1⟩, ⟨by simp, by simp; omega, by simp; omega⟩⟩, hpi, hox⟩⟩
      · exact hit.same (by omega) (by simp) (fun r hr => by have := hit.bound r hr; rw [AMem.get_push, if_neg (by omega)]) (hXr pr _ _ _ rfl)
      · exact fun hm => by have := hit.bound _ hm; omega
      · exact fun hm => by have := hit.bound _ hm; omega
theorem CopyM.vh {fr : Bool} {low : Nat} {X W : AVal} {its : List MItem} {ps : List Pg} {ws : List Int} (d : Nat) (h : CopyM low σ X W its ps ws) : ∃ v S, snapF fr σ (d + 4) (.agg [X, W]) = some (v, S) ∧ VH v ps ws := by
  obtain ⟨hpi, hox, c, c1, c2, hit, hgr, hXr, hW⟩ := h
  have hil := pg_len hpi
  obtain ⟨l, S, h1, h2, h3⟩ := snap_pages (fr := fr) (σ := σ) (low := c + 1) d its ps hpi fun a ha => ⟨hit.1 a ha, hox a ha⟩
  have hll : l.length = its.length := by rw [hil, ← h1]; simp [pgsOf]
  obtain ⟨kw, S2, hw, hkw⟩ : ∃ kw S2, snapF fr σ (d + 3) W = some (.vs kw (intV ws), S2) ∧ (kw ≠ .zero ∧ (kw = .nil → ws = [])) := by
    rcases hW with ⟨h0, rfl⟩ | ⟨wr, rfl, w1, w2, w3⟩
    · obtain rfl := List.eq_nil_of_length_eq_zero h0
      exact ⟨.nil, [], by cases fr <;> rfl, by simp, fun _ => rfl⟩
    · have hs := snap_ints (fr := fr) (d := d + 1) (r := wr) (n := ws.length) (lo := 0) (l := ws) (cap := none) (by omega) w3
      have hseg : segW ws 0 ws.length = ws := by unfold segW; simp
      rw [hseg] at hs
      exact ⟨.some, [wr], hs, by simp, by simp⟩
  obtain ⟨kp, S3, hp, hkp⟩ : ∃ kp S3, snapF fr σ (d + 3) X = some (.vs kp (l.map pv), S3) ∧ (kp ≠ .zero ∧ (kp = .nil → l = [])) := by
    rcases hgr.2 with ⟨h0, rfl⟩ | ⟨pr, p1, p2, rfl, p4⟩
    · obtain rfl : l = [] := List.eq_nil_of_length_eq_zero (by omega)
      exact ⟨.nil, [], by cases fr <;> rfl, by simp, fun _ => rfl⟩
    · have hs := snap_structs (fr := fr) (σ := σ) (d := d + 1) (r := pr) (n := its.length) (sz := 3) (cap := none) (ls := its.map MItem.cells) (ps := l.map pvC) (S := S) (by omega) (by simp) (by simp [hll]) (cells_three (pg_two hpi)) (fun c hc => by obtain ⟨x, _, rfl⟩ := List.mem_map.1 hc; rfl) p4 h3
      rw [List.map_map] at hs
      exact ⟨.some, _, hs, by simp, by simp⟩
  refine ⟨hpV kp kw l ws, S3 ++ (S2 ++ []), ?_, kp, kw, l, rfl, h1, hkp, hkw, h2⟩
  rw [snapF]
  simp only [snapL, hp, hw, Option.map_some]
  rfl
theorem Copy_call {v : AVal} {ps : List Pg} {ws : List Int} (hv : VH v ps ws) (hb : Bd ps ws) (hk : 2001 ≤ k) : ∃ v', (∀ σ, pureCall lawProg (callN lawProg k) (.func 16 [] []) [v] σ = some (v', σ)) ∧ VH v' ps ws := by
  obtain ⟨k, rfl⟩ : ∃ m, k = m + 1 := ⟨k - 1, by omega⟩
  obtain ⟨σ', X, W, its, h1, h2, h3⟩ := copy_exec (k := k) (σ := AMem.empty) hv hb (by omega)
  obtain ⟨v', S, h4, h5⟩ := h3.vh (fr := true) 8
  refine ⟨v', fun σ => pureCall_of (args' := [v]) (seen := [] ++ []) ?_ (memo16 _) ?_, h5⟩
  · have := hv.snap σ 10
    simp only [snapL, snapDepth, this]
  · simp only [pureRun, h1, snapDepth, h4]
end Go.Proofs.Ytjkfdiglokkceaa

/- Heaps: the laws' common steps; heaps as arguments. -/
set_option maxRecDepth 100000
set_option linter.unusedSimpArgs false
set_option linter.unusedVariables false
namespace Go.Proofs.Ytjkfdiglokkceaa
open Go Go.Proofs.Ytjkfdiglokkceaa.Pale
variable {k : Nat} {σ : AMem}

/-- A block that is handed out, and given back. -/
theorem back_law {ps qs : List Pg} {ws : List Int} {n : Int} {b : Blk} (h : RightH ps ws) (hn : 1 ≤ n) (ha : allocL ps n = some (qs, b)) : RightH qs ws ∧ findL qs b.at_ = some b ∧ freeL qs b = ps ∧ clearW ws b = ws := by
  have h1 := alloc_keeps h hn ha
  obtain ⟨g1, g2, g3, g4, g5, _⟩ := alloc_right h.shape hn ha
  exact ⟨h1, findL_of g1 g3, g5, clear_same (alloc_zero h hn ha)⟩
variable {P : Program} {th tl tp tk tn tb ti tu n : Nat}
end Go.Proofs.Ytjkfdiglokkceaa


