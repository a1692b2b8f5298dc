/- The abstract machine on inputs that are not known: laws by which a text of the program is gone through. -/
import Derived.Test.YtjckhhkhgjbpaaaGreatDoorPaleBook
set_option linter.unusedVariables false
namespace Go.Proofs.YtjckhhkhgjbpaaaGreatDoor.Pale
open Go

variable {A : AProg} {call : CallA} {k f N : Nat} {ops : Array Oper} {T : Tr AVal} {σ : AMem}

theorem get_set_eq (T : Tr AVal) (n : Nat) (x : AVal) : (T.set n x).get n = some x := by rw [Tr.get_set, if_pos rfl]
theorem get_set_ne (T : Tr AVal) {n m : Nat} (x : AVal) (h : n ≠ m) : (T.set n x).get m = T.get m := by rw [Tr.get_set, if_neg h]

/-! ### code -/
theorem exec_seq {a b : Code} {T1 : Tr AVal} {σ1 : AMem} (h : execC A call k f N a T σ = some (.normal, T1, σ1)) : execC A call k f N (.seq a b) T σ = execC A call k f N b T1 σ1 := by
  simp only [execC, h]
theorem exec_seq_out {a b : Code} {e : AExit} {T1 : Tr AVal} {σ1 : AMem} (he : e ≠ .normal) (h : execC A call k f N a T σ = some (e, T1, σ1)) : execC A call k f N (.seq a b) T σ = some (e, T1, σ1) := by
  simp only [execC, h]
  cases e with
  | normal => exact absurd rfl he
  | _ => rfl
theorem exec_cond_true {c : Operand} {a b : Code} (h : evalO A T c = some (.bool true)) : execC A call k f N (.cond c a b) T σ = execC A call k f N a T σ := by
  simp only [execC, h]
theorem exec_cond_false {c : Operand} {a b : Code} (h : evalO A T c = some (.bool false)) : execC A call k f N (.cond c a b) T σ = execC A call k f N b T σ := by
  simp only [execC, h]
theorem exec_skip : execC A call k f N .skip T σ = some (.normal, T, σ) := by simp only [execC]
theorem exec_exit {i : Nat} : execC A call k f N (.exit i) T σ = some (.exit i, T, σ) := by simp only [execC]
theorem exec_ret : execC A call k f N .ret T σ = some (.ret, T, σ) := by simp only [execC]
theorem exec_block {i : Nat} {c : Code} {e : AExit} {T1 : Tr AVal} {σ1 : AMem} (h : execC A call k f N c T σ = some (e, T1, σ1)) : execC A call k f N (.block i c) T σ = some (if e = .exit i then .normal else e, T1, σ1) := by
  simp only [execC, h]
  cases e with
  | exit j =>
    by_cases hj : j = i
    · subst hj; simp
    · have : ¬ (AExit.exit j = AExit.exit i) := fun e => hj (by cases e; rfl)
      simp [hj, this]
  | normal => simp
  | ret => simp
theorem exec_region {i : Nat} {T1 : Tr AVal} {σ1 : AMem} (h : runOps A call f N ops ops.toList T σ = some (T1, σ1)) : execC A call k f N (.region i ops false) T σ = some (.normal, T1, σ1) := by
  simp only [execC, h, Option.map_some]
theorem exec_drawn {i : Nat} {d : Drawn} {T1 : Tr AVal} {σ1 : AMem} (hd : A.ord f i = some d) (h : runD A call f N ops d.steps T σ = some (T1, σ1)) : execC A call k f N (.region i ops true) T σ = some (.normal, T1, σ1) := by
  simp only [execC, hd, h, Option.map_some]

/-- A LOOP: so many rounds that come back, and one that leaves. -/
theorem exec_loop {c : Code} {R : AExit → Tr AVal → AMem → Prop} (I : Nat → Tr AVal → AMem → Prop) (n : Nat) (hn : n < k)
    (hstep : ∀ i, i < n → ∀ T σ, I i T σ → ∃ T' σ', execC A call k f N c T σ = some (.normal, T', σ') ∧ I (i + 1) T' σ')
    (hend : ∀ T σ, I n T σ → ∃ e T' σ', execC A call k f N c T σ = some (e, T', σ') ∧ e ≠ .normal ∧ R e T' σ') (h0 : I 0 T σ) :
    ∃ e T' σ', execC A call k f N (.loop c) T σ = some (e, T', σ') ∧ e ≠ .normal ∧ R e T' σ' := by
  have go : ∀ (m i j : Nat) (T : Tr AVal) (σ : AMem), i + m = n → m < j → I i T σ → ∃ e T' σ', iterL j (fun T σ => execC A call k f N c T σ) T σ = some (e, T', σ') ∧ e ≠ .normal ∧ R e T' σ' := by
    intro m
    induction m with
    | zero =>
      intro i j T σ hi hj hI
      obtain ⟨j, rfl⟩ : ∃ q, j = q + 1 := ⟨j - 1, by omega⟩
      have : i = n := by omega
      subst this
      obtain ⟨e, T', σ', h1, h2, h3⟩ := hend T σ hI
      refine ⟨e, T', σ', ?_, h2, h3⟩
      simp only [iterL, h1]
      cases e with
      | normal => exact absurd rfl h2
      | _ => rfl
    | succ m ih =>
      intro i j T σ hi hj hI
      obtain ⟨j, rfl⟩ : ∃ q, j = q + 1 := ⟨j - 1, by omega⟩
      obtain ⟨T', σ', h1, h2⟩ := hstep i (by omega) T σ hI
      obtain ⟨e, T2, σ2, h3, h4, h5⟩ := ih (i + 1) j T' σ' (by omega) (by omega) h2
      exact ⟨e, T2, σ2, by simp only [iterL, h1]; exact h3, h4, h5⟩
  simp only [execC]
  exact go n 0 k T σ (by omega) hn h0

/-- A CALL FROM THE EMPTY MEMORY, out of the run of its text. -/
theorem pureRun_of {fn : Func} {c : Code} {args : List AVal} {e : AExit} {T1 : Tr AVal} {σ1 : AMem} {vs : List AVal} {v : AVal} {seen : List Nat} (hf : A.func f = some fn) (hb : fn.body = some c) (hl : args.length ≤ fn.ntmps)
    (he : execC A (callN A k) k f fn.ntmps c (initT 0 args .nil) AMem.empty = some (e, T1, σ1)) (hx : ∀ i, e ≠ .exit i) (hr : resultsA A T1 σ1 fn.results.toList = some vs) (hs : snapF true σ1 snapDepth (packA vs) = some (v, seen)) :
    pureRun (callN A (k + 1)) (.func f [] []) args = some (v, true) := by
  have : callN A (k + 1) (.func f [] []) args AMem.empty = some (packA vs, σ1) := by
    simp only [callN, hf, hb, List.nil_append, List.append_nil, if_pos hl, he]
    cases e with
    | exit i => exact absurd rfl (hx i)
    | normal => simp only [hr]
    | ret => simp only [hr]
  simp only [pureRun, this, hs]

/-! ### code, as equations -/
theorem q_seq {a b : Code} : execC A call k f N (.seq a b) T σ = match execC A call k f N a T σ with
    | some (.normal, T', σ') => execC A call k f N b T' σ'
    | r => r := by simp only [execC]; rfl
theorem q_cond {c : Operand} {a b : Code} : execC A call k f N (.cond c a b) T σ = match evalO A T c with
    | some (.bool true) => execC A call k f N a T σ
    | some (.bool false) => execC A call k f N b T σ
    | _ => none := by simp only [execC]; rfl
theorem q_block {i : Nat} {c : Code} : execC A call k f N (.block i c) T σ = match execC A call k f N c T σ with
    | some (.exit j, T', σ') => if j = i then some (.normal, T', σ') else some (.exit j, T', σ')
    | r => r := by simp only [execC]; rfl
theorem q_region {i : Nat} : execC A call k f N (.region i ops false) T σ = (runOps A call f N ops ops.toList T σ).map fun p => (.normal, p.1, p.2) := by simp only [execC]
theorem q_drawn {i : Nat} : execC A call k f N (.region i ops true) T σ = match A.ord f i with
    | some d => (runD A call f N ops d.steps T σ).map fun p => (.normal, p.1, p.2)
    | none => none := by simp only [execC]; rfl
theorem q_skip : execC A call k f N .skip T σ = some (.normal, T, σ) := by simp only [execC]
theorem q_exit {i : Nat} : execC A call k f N (.exit i) T σ = some (.exit i, T, σ) := by simp only [execC]
theorem q_ret : execC A call k f N .ret T σ = some (.ret, T, σ) := by simp only [execC]

/-- One call of a function by its text. -/
theorem q_call {first args caps : List AVal} {fn : Func} {c : Code} (hf : A.func f = some fn) (hb : fn.body = some c) (hl : (first ++ args ++ caps).length ≤ fn.ntmps) {e : AExit} {T1 : Tr AVal} {σ1 : AMem} {vs : List AVal}
    (he : execC A (callN A k) k f fn.ntmps c (initT 0 (first ++ args ++ caps) .nil) σ = some (e, T1, σ1)) (hx : ∀ i, e ≠ .exit i) (hr : resultsA A T1 σ1 fn.results.toList = some vs) :
    callN A (k + 1) (.func f first caps) args σ = some (packA vs, σ1) := by
  simp only [callN, hf, hb, if_pos hl, he]
  cases e with
  | exit i => exact absurd rfl (hx i)
  | normal => simp only [hr]
  | ret => simp only [hr]

/-! ### small laws -/
def bodyOf (fn : Func) : Code := fn.body.getD .skip
theorem i64_id {n : Int} (h1 : -9223372036854775808 ≤ n) (h2 : n < 9223372036854775808) : IntKind.i64.wrap n = n := wrap_fits .i64 n h1 h2
theorem u8_nat (n : Nat) : IntKind.u8.wrap (n : Int) = ((n % 256 : Nat) : Int) := (outF1_eq .u8 n).symm
theorem next_empty : AMem.empty.next = 0 := rfl
theorem beq_true_true : (true == true) = true := rfl
theorem beq_true_false : (true == false) = false := rfl
theorem beq_false_true : (false == true) = false := rfl
theorem beq_false_false : (false == false) = true := rfl
theorem delAll_nil (σ : AMem) : delAll σ [] = σ := rfl

mutual
theorem beq_refl : ∀ (a : AVal), AVal.beq a a = true
  | .bool _ | .int _ _ | .str _ | .ptr _ _ | .nilptr | .slice _ _ _ _ _ | .yield _ | .nilfn | .nilmap | .map _ => by simp [AVal.beq]
  | .vs k es => by simp [AVal.beq, beqL_refl es]
  | .vptr v => by simp [AVal.beq, beq_refl v]
  | .func f a c => by simp [AVal.beq, beqL_refl a, beqL_refl c]
  | .agg a => by simp [AVal.beq, beqL_refl a]
  | .tuple a => by simp [AVal.beq, beqL_refl a]
theorem beqL_refl : ∀ (a : List AVal), AVal.beqL a a = true
  | [] => by simp [AVal.beqL]
  | x :: xs => by simp [AVal.beqL, beq_refl x, beqL_refl xs]
end

theorem res_one {t : Nat} {v : AVal} (h : T.get t = some v) : resultsA A T σ [.tmp t] = some [v] := by simp only [resultsA, resultA, h]
theorem res_two {t u : Nat} {v x : AVal} (h : T.get t = some v) (h2 : T.get u = some x) : resultsA A T σ [.tmp t, .tmp u] = some [v, x] := by simp only [resultsA, resultA, h, h2]

/-! ### snapshots -/
theorem snapL_append {f : AVal → Option (AVal × List Nat)} : ∀ {a b pa pb : List AVal} {sa sb : List Nat}, snapL f a = some (pa, sa) → snapL f b = some (pb, sb) → snapL f (a ++ b) = some (pa ++ pb, sa ++ sb) := by
  intro a
  induction a with
  | nil => intro b pa pb sa sb h1 h2; simp only [snapL] at h1; cases h1; simpa using h2
  | cons x a ih =>
    intro b pa pb sa sb h1 h2
    simp only [snapL] at h1
    split at h1
    · rename_i y s ys t hy hys
      cases h1
      simp only [List.cons_append, snapL, hy, ih hys h2, List.append_assoc]
    · cases h1

def SnapSame (f g : AVal → Option (AVal × List Nat)) (P : Nat → Prop) : Prop := ∀ v u S, f v = some (u, S) → (∀ s, s ∈ S → P s) → g v = some (u, S)
theorem snapL_same {f g : AVal → Option (AVal × List Nat)} {P : Nat → Prop} (h : SnapSame f g P) : ∀ (l u : List AVal) (S : List Nat), snapL f l = some (u, S) → (∀ s, s ∈ S → P s) → snapL g l = some (u, S) := by
  intro l
  induction l with
  | nil => intro u S h1 _; simpa only [snapL] using h1
  | cons x l ih =>
    intro u S h1 hS
    simp only [snapL] at h1 ⊢
    split at h1
    · rename_i y s ys t hy hys
      cases h1
      rw [h x y s hy (fun z hz => hS z (List.mem_append_left _ hz)), ih ys t hys (fun z hz => hS z (List.mem_append_right _ hz))]
    · cases h1
/-- A snapshot asks only of the rows that it meets. -/
theorem snapF_same {fr : Bool} {σ σ' : AMem} : ∀ (d : Nat), SnapSame (snapF fr σ d) (snapF fr σ' d) (fun s => σ'.get s = σ.get s) := by
  intro d
  induction d with
  | zero => intro v u S h; simp [snapF] at h
  | succ d ih =>
    intro v u S h hS
    cases v <;> simp only [snapF] at h ⊢ <;> try exact h
    case agg cs =>
      obtain ⟨⟨l, a⟩, h1, h2⟩ := map_some h
      cases h2
      rw [snapL_same ih _ _ _ h1 hS]; rfl
    case tuple cs =>
      obtain ⟨⟨l, a⟩, h1, h2⟩ := map_some h
      cases h2
      rw [snapL_same ih _ _ _ h1 hS]; rfl
    case ptr r off =>
      split at h
      · rename_i sz b cells hget
        split at h
        · rename_i h0
          obtain ⟨⟨l, a⟩, h1, h2⟩ := map_some h
          cases h2
          rw [hS r (by simp), hget]
          simp only [if_pos h0]
          rw [snapL_same ih _ _ _ h1 (fun s hs => hS s (List.mem_cons_of_mem _ hs))]; rfl
        · cases h
      · cases h
    case slice r off len cap z =>
      split at h
      · rename_i sz b cells hget
        split at h
        · rename_i hc
          split at h
          · rename_i l a h1
            split at h
            · rename_i es h2
              cases h
              rw [hS r (by simp), hget]
              simp only [if_pos hc]
              rw [snapL_same ih _ _ _ h1 (fun s hs => hS s (List.mem_cons_of_mem _ hs))]
              simp only [h2]
            · cases h
          · cases h
        · cases h
      · cases h

/-- What is new all through is a value all the same. -/
theorem snapL_weaken {f g : AVal → Option (AVal × List Nat)} (h : ∀ v u S, f v = some (u, S) → g v = some (u, S)) : ∀ (l u : List AVal) (S : List Nat), snapL f l = some (u, S) → snapL g l = some (u, S) := by
  intro l
  induction l with
  | nil => intro u S h1; simpa only [snapL] using h1
  | cons x l ih =>
    intro u S h1
    simp only [snapL] at h1 ⊢
    split at h1
    · rename_i y s ys t hy hys
      cases h1
      rw [h x y s hy, ih ys t hys]
    · cases h1
theorem snapF_weaken {σ : AMem} : ∀ (d : Nat) (v u : AVal) (S : List Nat), snapF true σ d v = some (u, S) → snapF false σ d v = some (u, S) := by
  intro d
  induction d with
  | zero => intro v u S h; simp [snapF] at h
  | succ d ih =>
    intro v u S h
    cases v <;> simp only [snapF] at h ⊢ <;> try exact h
    case vs k es => split at h <;> first | (cases h; done) | simpa using h
    case vptr v => split at h <;> first | (cases h; done) | simpa using h
    case agg cs =>
      obtain ⟨⟨l, a⟩, h1, h2⟩ := map_some h
      cases h2
      rw [snapL_weaken ih _ _ _ h1]; rfl
    case tuple cs =>
      obtain ⟨⟨l, a⟩, h1, h2⟩ := map_some h
      cases h2
      rw [snapL_weaken ih _ _ _ h1]; rfl
    case ptr r off =>
      split at h
      · rename_i sz b cells hget
        split at h
        · rename_i h0
          obtain ⟨⟨l, a⟩, h1, h2⟩ := map_some h
          cases h2
          simp only [if_pos h0]
          rw [snapL_weaken ih _ _ _ h1]; rfl
        · cases h
      · cases h
    case slice r off len cap z =>
      split at h
      · rename_i sz b cells hget
        split at h
        · rename_i hc
          split at h
          · rename_i l a h1
            simp only [if_pos hc]
            rw [snapL_weaken ih _ _ _ h1]
            exact h
          · cases h
        · cases h
      · cases h

/-- A call from the empty memory, when it is not asked whether what it gives is new. -/
theorem pureRun_any {fn : Func} {c : Code} {args : List AVal} {e : AExit} {T1 : Tr AVal} {σ1 : AMem} {vs : List AVal} {v : AVal} {seen : List Nat} (hf : A.func f = some fn) (hb : fn.body = some c) (hl : args.length ≤ fn.ntmps)
    (he : execC A (callN A k) k f fn.ntmps c (initT 0 args .nil) AMem.empty = some (e, T1, σ1)) (hx : ∀ i, e ≠ .exit i) (hr : resultsA A T1 σ1 fn.results.toList = some vs) (hs : snapF false σ1 snapDepth (packA vs) = some (v, seen)) :
    ∃ b, pureRun (callN A (k + 1)) (.func f [] []) args = some (v, b) := by
  have : callN A (k + 1) (.func f [] []) args AMem.empty = some (packA vs, σ1) := by
    simp only [callN, hf, hb, List.nil_append, List.append_nil, if_pos hl, he]
    cases e with
    | exit i => exact absurd rfl (hx i)
    | normal => simp only [hr]
    | ret => simp only [hr]
  simp only [pureRun, this]
  cases ht : snapF true σ1 snapDepth (packA vs) with
  | none => exact ⟨false, by simp only [hs]⟩
  | some p =>
    obtain ⟨u, S⟩ := p
    have := snapF_weaken _ _ _ _ ht
    rw [hs] at this
    cases this
    exact ⟨true, rfl⟩

/-! ### rows of structs -/
theorem chunk_flatten {sz : Nat} : ∀ (ls : List (List AVal)), (∀ l, l ∈ ls → l.length = sz) → chunk sz ls.length ls.flatten = ls := by
  intro ls
  induction ls with
  | nil => intro _; rfl
  | cons l ls ih =>
    intro h
    have hl := h l List.mem_cons_self
    simp only [List.length_cons, chunk, List.flatten_cons]
    rw [← hl, List.take_left, List.drop_left, hl, ih (fun x hx => h x (List.mem_cons_of_mem _ hx))]
theorem mkElems_agg : ∀ (ls : List (List AVal)), mkElems true ls = some (ls.map AVal.agg) := by
  intro ls
  induction ls with
  | nil => rfl
  | cons l ls ih => simp only [mkElems, mkElem, if_true, ih, List.map_cons]
/-- A slice over structs whose cells are values. -/
theorem snap_structs {fr : Bool} {σ : AMem} {d r n sz : Nat} {cap : Option Nat} {ls : List (List AVal)} {ps : List (List AVal)} {S : List Nat} (hsz : 0 < sz) (hn : n = ls.length) (hps : ps.length = ls.length) (hl : ∀ l, l ∈ ls → l.length = sz) (hp : ∀ l, l ∈ ps → l.length = sz) (h : σ.get r = some (.row sz true ls.flatten)) (hs : snapL (snapF fr σ (d + 1)) ls.flatten = some (ps.flatten, S)) :
    snapF fr σ (d + 2) (.slice r 0 n cap sz) = some (.vs .some (ps.map AVal.agg), r :: S) := by
  subst hn
  have hlen : ls.flatten.length = ls.length * sz := by
    clear hs h hps
    induction ls with
    | nil => simp
    | cons l ls ih => simp [hl l List.mem_cons_self, ih (fun x hx => hl x (List.mem_cons_of_mem _ hx)), Nat.add_mul]; omega
  have e3 : (decide (0 < sz) && decide (0 + ls.length * sz ≤ ls.flatten.length)) = true := by simp [hlen, hsz]
  have e2 : (ls.flatten.drop 0).take (ls.length * sz) = ls.flatten := by rw [List.drop_zero, ← hlen, List.take_length]
  rw [snapF]
  simp only [h, e3, if_true, e2, hs]
  rw [← hps, chunk_flatten ps hp, mkElems_agg]

/-! ### calls of values -/
theorem pureCall_of {g : Nat} {args args' : List AVal} {seen : List Nat} {v : AVal} (hs : snapL (snapF false σ snapDepth) args = some (args', seen)) (hm : A.memo g args' = none) (h : pureRun call (.func g [] []) args' = some (v, true)) :
    pureCall A call (.func g [] []) args σ = some (v, σ) := by
  simp only [pureCall, hs, memoRun, isFn, hm, h, if_true]
theorem pureCall_of0 {g : Nat} {args args' : List AVal} {v : AVal} {b : Bool} (hs : snapL (snapF false σ snapDepth) args = some (args', [])) (hm : A.memo g args' = none) (h : pureRun call (.func g [] []) args' = some (v, b)) :
    pureCall A call (.func g [] []) args σ = some (v, σ) := by
  simp only [pureCall, hs, memoRun, isFn, hm, h, delAll_nil, ite_self]
theorem pureCall_memo {g : Nat} {args args' : List AVal} {seen : List Nat} {v : AVal} (hs : snapL (snapF false σ snapDepth) args = some (args', seen)) (hm : A.memo g args' = some (v, true)) :
    pureCall A call (.func g [] []) args σ = some (v, σ) := by
  simp only [pureCall, hs, memoRun, isFn, hm, if_true]

/-! ### bytes, integers -/
def bytesV (bs : List Nat) : List AVal := bs.map fun (b : Nat) => AVal.int .u8 b
theorem bytesV_length (bs : List Nat) : (bytesV bs).length = bs.length := by simp [bytesV]
theorem bytesV_get {bs : List Nat} {i : Nat} (h : i < bs.length) : (bytesV bs)[i]? = some (.int .u8 (bs[i] : Nat)) := by simp [bytesV, List.getElem?_eq_getElem h]
theorem bytesV_append (a b : List Nat) : bytesV a ++ bytesV b = bytesV (a ++ b) := by simp [bytesV]
theorem bytesV_take (a : List Nat) (n : Nat) : (bytesV a).take n = bytesV (a.take n) := by simp [bytesV, List.map_take]
theorem bytesV_drop (a : List Nat) (n : Nat) : (bytesV a).drop n = bytesV (a.drop n) := by simp [bytesV, List.map_drop]
theorem bytesV_nil : bytesV [] = [] := rfl
theorem bytesV_all (bs : List Nat) : (bytesV bs).all AVal.oneCell = true := by simp [bytesV, AVal.oneCell, Function.comp_def]
theorem bytesV_cells (bs : List Nat) : (bytesV bs).all (fun e => e.cells.length == 1) = true := by simp [bytesV, AVal.cells]
theorem bytesV_flat (bs : List Nat) : (bytesV bs).flatMap AVal.cells = bytesV bs := by
  induction bs with
  | nil => rfl
  | cons b bs ih => simp only [bytesV, List.map_cons, List.flatMap_cons, AVal.cells] at ih ⊢; rw [ih]; rfl
theorem source_bytes (σ : AMem) (vk : VK) (bs : List Nat) : sourceA 1 σ (.vs vk (bytesV bs)) = some (bytesV bs, bs.length) := by
  simp only [sourceA, bytesV_cells, if_true, bytesV_flat, bytesV_length]

theorem snapL_bytes (fr : Bool) (σ : AMem) (d : Nat) (bs : List Nat) : snapL (snapF fr σ (d + 1)) (bytesV bs) = some (bytesV bs, []) := by
  induction bs with
  | nil => rfl
  | cons b bs ih =>
    show (match snapF fr σ (d + 1) (.int .u8 (b : Nat)), snapL (snapF fr σ (d + 1)) (bytesV bs) with
      | some (x, a), some (xs, b) => some (x :: xs, a ++ b)
      | _, _ => none) = _
    rw [ih]
    rfl
theorem mkElems_bytes (bs : List Nat) : mkElems false (chunk 1 bs.length (bytesV bs)) = some (bytesV bs) := by
  induction bs with
  | nil => rfl
  | cons b bs ih =>
    simp only [bytesV, List.map_cons, List.length_cons, chunk, List.take_succ_cons, List.take_zero, List.drop_succ_cons, List.drop_zero, mkElems, mkElem, AVal.oneCell, Bool.false_eq_true, if_false, if_true] at ih ⊢
    rw [ih]
theorem snap_bytes {fr : Bool} {σ : AMem} {d r : Nat} {bs more : List Nat} {cap : Option Nat} {n : Nat} (hn : n = bs.length) (h : σ.get r = some (.row 1 false (bytesV (bs ++ more)))) : snapF fr σ (d + 2) (.slice r 0 n cap 1) = some (.vs .some (bytesV bs), [r]) := by
  subst hn
  have e1 : (bytesV (bs ++ more)).length = bs.length + more.length := by simp [bytesV]
  have e2 : ((bytesV (bs ++ more)).drop 0).take (bs.length * 1) = bytesV bs := by
    rw [← bytesV_append, List.drop_zero, Nat.mul_one]
    have : bs.length = (bytesV bs).length := by simp [bytesV]
    rw [this, List.take_left]
  have e3 : (decide (0 < 1) && decide (0 + bs.length * 1 ≤ (bytesV (bs ++ more)).length)) = true := by simp [e1]
  rw [snapF]
  simp only [h, e3, if_true, e2, snapL_bytes, mkElems_bytes]
theorem snap_vs (σ : AMem) (d : Nat) (k : VK) (es : List AVal) : snapF false σ (d + 1) (.vs k es) = some (.vs k es, []) := rfl
theorem snap_int (fr : Bool) (σ : AMem) (d : Nat) (k : IntKind) (n : Int) : snapF fr σ (d + 1) (.int k n) = some (.int k n, []) := rfl

/-! ### the loop over a function that a text bears -/
/-- The first loop over a function in a text: what it gives, and what is done with it. -/
def rfOf : Code → Option (List Nat × Code × Code)
  | .seq a b => match rfOf a with
    | some x => some x
    | none => rfOf b
  | .block _ c => rfOf c
  | .loop c => rfOf c
  | .cond _ a b => match rfOf a with
    | some x => some x
    | none => rfOf b
  | .rangeFunc _ ps a b => some (ps.toList, a, b)
  | _ => none
def rfLoop (fn : Func) (f : Nat) (T : Tr AVal) : ALoop :=
  match rfOf (bodyOf fn) with
  | some (ps, a, b) => { state := .ready, pending := none, fn := f, N := fn.ntmps, T := T, params := ps, assign := a, body := b }
  | none => { state := .ready, pending := none, fn := f, N := fn.ntmps, T := T, params := [], assign := .skip, body := .skip }

/-- A LOOP OVER A FUNCTION, when the function has come back. -/
theorem q_range {g : Operand} {ps : Array Nat} {a b : Code} {h : Nat} {fs cs : List AVal} {v : AVal} {σ2 : AMem} {r : ALoop} (hg : evalO A T g = some (.func h fs cs))
    (hc : call (.func h fs cs) [.yield σ.next] (σ.push (.loop { state := .ready, pending := none, fn := f, N, T, params := ps.toList, assign := a, body := b })) = some (v, σ2)) (hr : σ2.get σ.next = some (.loop r)) (hs : r.state ≠ .busy) (hp : r.pending = none) :
    execC A call k f N (.rangeFunc g ps a b) T σ = some (.normal, T, σ2.put σ.next (.loop { r with state := .exhausted })) := by
  simp only [execC, rangeA, hg, hc, hr, if_neg hs, hp]

theorem cells_bool (b : Bool) : AVal.cells (.bool b) = [.bool b] := rfl
theorem one_bool (b : Bool) : AVal.oneCell (.bool b) = true := rfl
theorem cells_int (k : IntKind) (n : Int) : AVal.cells (.int k n) = [.int k n] := rfl
theorem one_int (k : IntKind) (n : Int) : AVal.oneCell (.int k n) = true := rfl
theorem cells_str (x : List UInt8) : AVal.cells (.str x) = [.str x] := rfl
theorem one_str (x : List UInt8) : AVal.oneCell (.str x) = true := rfl
theorem cells_ptr (r o : Nat) : AVal.cells (.ptr r o) = [.ptr r o] := rfl
theorem one_ptr (r o : Nat) : AVal.oneCell (.ptr r o) = true := rfl
theorem cells_nilptr  : AVal.cells (.nilptr) = [.nilptr] := rfl
theorem one_nilptr  : AVal.oneCell (.nilptr) = true := rfl
theorem cells_slice (r o n : Nat) (c : Option Nat) (z : Nat) : AVal.cells (.slice r o n c z) = [.slice r o n c z] := rfl
theorem one_slice (r o n : Nat) (c : Option Nat) (z : Nat) : AVal.oneCell (.slice r o n c z) = true := rfl
theorem cells_vs (k : VK) (es : List AVal) : AVal.cells (.vs k es) = [.vs k es] := rfl
theorem one_vs (k : VK) (es : List AVal) : AVal.oneCell (.vs k es) = true := rfl
theorem cells_vptr (v : AVal) : AVal.cells (.vptr v) = [.vptr v] := rfl
theorem one_vptr (v : AVal) : AVal.oneCell (.vptr v) = true := rfl
theorem cells_func (f : Nat) (a c : List AVal) : AVal.cells (.func f a c) = [.func f a c] := rfl
theorem one_func (f : Nat) (a c : List AVal) : AVal.oneCell (.func f a c) = true := rfl
theorem cells_yield (l : Nat) : AVal.cells (.yield l) = [.yield l] := rfl
theorem one_yield (l : Nat) : AVal.oneCell (.yield l) = true := rfl
theorem cells_nilfn  : AVal.cells (.nilfn) = [.nilfn] := rfl
theorem one_nilfn  : AVal.oneCell (.nilfn) = true := rfl
theorem cells_nilmap  : AVal.cells (.nilmap) = [.nilmap] := rfl
theorem one_nilmap  : AVal.oneCell (.nilmap) = true := rfl
theorem cells_map (r : Nat) : AVal.cells (.map r) = [.map r] := rfl
theorem one_map (r : Nat) : AVal.oneCell (.map r) = true := rfl
theorem cells_agg (cs : List AVal) : AVal.cells (.agg cs) = cs := rfl
theorem lenB_vs {e s b : Nat} {z : List AVal} {vk : VK} {es : List AVal} : lenB ⟨.slice e, s, b, z⟩ (.vs vk es) = some (.int .i64 es.length) := rfl
theorem lenB_sl {e s b : Nat} {z : List AVal} {r o n i : Nat} {c : Option Nat} : lenB ⟨.slice e, s, b, z⟩ (.slice r o n c i) = some (.int .i64 n) := rfl
theorem lenB_str {s b : Nat} {z : List AVal} {x : List UInt8} : lenB ⟨.string, s, b, z⟩ (.str x) = some (.int .i64 x.length) := rfl
def busyOf (r : ALoop) : ALoop := { r with state := .busy }
theorem cells_one {v : AVal} (h : v.oneCell = true) : v.cells = [v] := by cases v <;> first | rfl | (simp [AVal.oneCell] at h)

/-- ONE ROUND OF IT. -/
theorem round_of {l : Nat} {r : ALoop} {args : List AVal} {T1 T2 : Tr AVal} {σ2 : AMem} (hl : σ.get l = some (.loop r)) (hst : r.state = .ready) (hn : args.length = r.params.length) (hN : r.params.all (· < r.N) = true)
    (ha : execC A call k r.fn r.N r.assign (setParams r.T r.params args) σ = some (.normal, T1, σ)) (hb : execC A call k r.fn r.N r.body T1 (σ.put l (.loop (busyOf r))) = some (.normal, T2, σ2)) {r2 : ALoop} (h2 : σ2.get l = some (.loop r2)) :
    roundA A call k l args σ = some (.bool true, σ2.put l (.loop { r2 with state := .ready, pending := none })) := by
  unfold busyOf at hb
  simp only [roundA, hl, hn, hN, decide_true, Bool.and_self, if_true, ha, hst, hb, h2]

/-! ### a slice that grows -/
/-- What a variable holds that grew by append from nothing: nothing, or a slice over a row of its own. -/
def Grew (low : Nat) (σ : AMem) (sz : Nat) (g : Bool) (out : AVal) (j : Nat) (cells : List AVal) : Prop :=
  cells.length = j * sz ∧ ((j = 0 ∧ out = .vs .nil []) ∨ ∃ r, low ≤ r ∧ r < σ.next ∧ out = .slice r 0 j none sz ∧ σ.get r = some (.row sz g cells))

theorem Grew.append {low : Nat} {σ : AMem} {e : TyI} {out x : AVal} {j n : Nat} {cells xs : List AVal} (h : Grew low σ e.size e.isAgg out j cells) (hlow : low ≤ σ.next) (hsrc : sourceA e.size σ x = some (xs, n)) (hlen : xs.length = n * e.size) (hn : n ≠ 0)
    (hs0 : e.size ≠ 0) (hb0 : e.bytes ≠ 0) (hb1 : e.bytes ≤ 1048576) (hby : (j + n) * e.bytes ≤ mostBytes) (hone : xs.all AVal.oneCell = true) :
    ∃ out' σ', appendA e σ out x = some (out', σ') ∧ Grew low σ' e.size e.isAgg out' (j + n) (cells ++ xs) ∧ σ.next ≤ σ'.next ∧ (∀ s, s < low → σ'.get s = σ.get s) ∧ AVal.oneCell out' = true := by
  obtain ⟨hcl, hcase⟩ := h
  have hc : (e.size == 0) = false := by simpa using hs0
  have hcond : (decide (e.size = 0) || decide (e.bytes = 0) || decide (e.bytes > 1048576)) = false := by simp [hs0, hb0]; omega
  rcases hcase with ⟨rfl, rfl⟩ | ⟨r, h1, h2, rfl, h3⟩
  · have hc0 : cells = [] := List.eq_nil_of_length_eq_zero (by omega)
    subst hc0
    refine ⟨.slice σ.next 0 n none e.size, σ.push (.row e.size e.isAgg xs), ?_, ⟨by simp [hlen], .inr ⟨σ.next, hlow, by simp, by simp, by simp [AMem.get_push]⟩⟩, by simp, fun s hs => by rw [AMem.get_push, if_neg (by omega)], rfl⟩
    simp only [appendA, hsrc, if_neg hn]
    rw [if_neg (by simp [hs0, hb0]; omega), if_pos (by simpa using hby)]
  · refine ⟨.slice σ.next 0 (j + n) none e.size, (σ.del r).push (.row e.size e.isAgg (cells ++ xs)), ?_, ⟨by simp [hlen, hcl, Nat.add_mul], .inr ⟨σ.next, hlow, by simp, rfl, by rw [AMem.get_push]; simp⟩⟩, by simp, fun s hs => by rw [AMem.get_push, if_neg (by simp; omega), AMem.get_del, if_neg (by omega)], rfl⟩
    have hnp : 0 < n * e.size := Nat.mul_pos (Nat.pos_of_ne_zero hn) (Nat.pos_of_ne_zero hs0)
    simp only [appendA, hsrc, if_neg hn, h3]
    rw [if_neg (by simp [hs0, hb0]; omega), if_pos hby, if_pos trivial, if_neg (by rw [hcl, Nat.add_mul]; omega), if_pos (by simp [hcl, hone])]
    have ht : (cells.drop 0).take (j * e.size) = cells := by rw [List.drop_zero, ← hcl, List.take_length]
    rw [ht]

/-- The same, when more is kept: which rows stay. -/
theorem Grew.append2 {low : Nat} {σ : AMem} {e : TyI} {out x : AVal} {j n : Nat} {cells xs : List AVal} (h : Grew low σ e.size e.isAgg out j cells) (hlow : low ≤ σ.next) (hsrc : sourceA e.size σ x = some (xs, n)) (hlen : xs.length = n * e.size) (hn : n ≠ 0)
    (hs0 : e.size ≠ 0) (hb0 : e.bytes ≠ 0) (hb1 : e.bytes ≤ 1048576) (hby : (j + n) * e.bytes ≤ mostBytes) (hone : xs.all AVal.oneCell = true) :
    ∃ σ', appendA e σ out x = some (.slice σ.next 0 (j + n) none e.size, σ') ∧ Grew low σ' e.size e.isAgg (.slice σ.next 0 (j + n) none e.size) (j + n) (cells ++ xs) ∧ σ'.next = σ.next + 1 ∧ (∀ s, s < σ.next → out ≠ .slice s 0 j none e.size → σ'.get s = σ.get s) := by
  obtain ⟨hcl, hcase⟩ := h
  rcases hcase with ⟨rfl, rfl⟩ | ⟨r, h1, h2, rfl, h3⟩
  · have hc0 : cells = [] := List.eq_nil_of_length_eq_zero (by omega)
    subst hc0
    refine ⟨σ.push (.row e.size e.isAgg xs), ?_, ⟨by simp [hlen], .inr ⟨σ.next, hlow, by simp, by simp, by simp [AMem.get_push]⟩⟩, rfl, fun s hs _ => by rw [AMem.get_push, if_neg (by omega)]⟩
    simp only [appendA, hsrc, if_neg hn]
    rw [if_neg (by simp [hs0, hb0]; omega), if_pos (by simpa using hby)]
    simp
  · refine ⟨(σ.del r).push (.row e.size e.isAgg (cells ++ xs)), ?_, ⟨by simp [hlen, hcl, Nat.add_mul], .inr ⟨σ.next, hlow, by simp, rfl, by rw [AMem.get_push]; simp⟩⟩, by simp, fun s hs hne => by
      rw [AMem.get_push, if_neg (by simp; omega), AMem.get_del, if_neg (fun e => hne (by rw [e]))]⟩
    have hnp : 0 < n * e.size := Nat.mul_pos (Nat.pos_of_ne_zero hn) (Nat.pos_of_ne_zero hs0)
    simp only [appendA, hsrc, if_neg hn, h3]
    rw [if_neg (by simp [hs0, hb0]; omega), if_pos hby, if_pos trivial, if_neg (by rw [hcl, Nat.add_mul]; omega), if_pos (by simp [hcl, hone])]
    have ht : (cells.drop 0).take (j * e.size) = cells := by rw [List.drop_zero, ← hcl, List.take_length]
    rw [ht]

def u8L (bs : List Nat) : List UInt8 := bs.map fun b => UInt8.ofNat b
theorem bytesOf_bytes (bs : List Nat) : bytesOfA (bytesV bs) = some (u8L bs) := by
  induction bs with
  | nil => rfl
  | cons b bs ih =>
    simp only [bytesV, List.map_cons, bytesOfA] at ih ⊢
    rw [ih]
    rfl
/-- Copying bytes by append onto an empty slice of bytes. -/
theorem append_bytes {σ : AMem} {e : TyI} {r : Nat} {x : AVal} {bs : List Nat} (he : e.size = 1) (hg : e.isAgg = false) (hb : e.bytes = 1) (hsrc : sourceA 1 σ x = some (bytesV bs, bs.length)) (hr : σ.get r = some (.row 1 false [])) (hn : bs.length ≤ 1000000) :
    appendA e σ (.slice r 0 0 (some 0) 1) x = some (if bs.length = 0 then .slice r 0 0 (some 0) 1 else .slice σ.next 0 bs.length none 1, if bs.length = 0 then σ else σ.push (.row 1 false (bytesV bs))) := by
  by_cases h0 : bs.length = 0
  · simp only [appendA, he, hsrc, if_pos h0]
  · have hby : (0 + bs.length) * 1 ≤ mostBytes := by unfold mostBytes; omega
    have hfit : ¬ (0 + bs.length ≤ 0) := by omega
    simp only [appendA, he, hsrc, if_neg h0, hr, hb, hg]
    rw [if_neg (by simp), if_pos hby, if_pos trivial, if_neg hfit, if_pos (by simp)]
    simp

end Go.Proofs.YtjckhhkhgjbpaaaGreatDoor.Pale
