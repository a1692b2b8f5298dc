/- Going through a text piece by piece. -/
import Derived.Test.YtjckhhkhgjbpaaaGreatDoorPaleList
set_option linter.unusedVariables false
namespace Go.Proofs.YtjckhhkhgjbpaaaGreatDoor.Pale
open Go

variable {A : AProg} {call : CallA} {k f N : Nat} {T : Tr AVal} {σ : AMem}

/-- A piece of a text runs to something. -/
def Runs (A : AProg) (call : CallA) (k f N : Nat) (c : Code) (T : Tr AVal) (σ : AMem) (Q : AExit → Tr AVal → AMem → Prop) : Prop := ∃ e T' σ', execC A call k f N c T σ = some (e, T', σ') ∧ Q e T' σ'
theorem Runs.mono {c : Code} {Q R : AExit → Tr AVal → AMem → Prop} (h : Runs A call k f N c T σ Q) (hr : ∀ e T σ, Q e T σ → R e T σ) : Runs A call k f N c T σ R := by
  obtain ⟨e, T', σ', h1, h2⟩ := h
  exact ⟨e, T', σ', h1, hr _ _ _ h2⟩
theorem Runs.seq {a b : Code} {P : Tr AVal → AMem → Prop} {Q : AExit → Tr AVal → AMem → Prop} (ha : Runs A call k f N a T σ fun e T σ => e = .normal ∧ P T σ) (hb : ∀ T σ, P T σ → Runs A call k f N b T σ Q) : Runs A call k f N (.seq a b) T σ Q := by
  obtain ⟨e, T1, σ1, h1, rfl, h2⟩ := ha
  obtain ⟨e, T2, σ2, h3, h4⟩ := hb T1 σ1 h2
  exact ⟨e, T2, σ2, by rw [exec_seq h1]; exact h3, h4⟩
/-- The same, where the first piece may leave. -/
theorem Runs.seq2 {a b : Code} {P : Tr AVal → AMem → Prop} {Q : AExit → Tr AVal → AMem → Prop} (ha : Runs A call k f N a T σ fun e T σ => (e = .normal ∧ P T σ) ∨ (e ≠ .normal ∧ Q e T σ)) (hb : ∀ T σ, P T σ → Runs A call k f N b T σ Q) : Runs A call k f N (.seq a b) T σ Q := by
  obtain ⟨e, T1, σ1, h1, ⟨rfl, h2⟩ | ⟨he, h2⟩⟩ := ha
  · obtain ⟨e, T2, σ2, h3, h4⟩ := hb T1 σ1 h2
    exact ⟨e, T2, σ2, by rw [exec_seq h1]; exact h3, h4⟩
  · exact ⟨e, T1, σ1, exec_seq_out he h1, h2⟩
theorem Runs.block {i : Nat} {c : Code} {Q : AExit → Tr AVal → AMem → Prop} (h : Runs A call k f N c T σ fun e T σ => Q (if e = .exit i then .normal else e) T σ) : Runs A call k f N (.block i c) T σ Q := by
  obtain ⟨e, T1, σ1, h1, h2⟩ := h
  exact ⟨_, T1, σ1, exec_block h1, h2⟩
theorem Runs.cond {o : Operand} {a b : Code} {v : Bool} {Q : AExit → Tr AVal → AMem → Prop} (hv : evalO A T o = some (.bool v)) (h : Runs A call k f N (if v then a else b) T σ Q) : Runs A call k f N (.cond o a b) T σ Q := by
  obtain ⟨e, T1, σ1, h1, h2⟩ := h
  cases v with
  | true => exact ⟨e, T1, σ1, by rw [exec_cond_true hv]; exact h1, h2⟩
  | false => exact ⟨e, T1, σ1, by rw [exec_cond_false hv]; exact h1, h2⟩
theorem Runs.skip {Q : AExit → Tr AVal → AMem → Prop} (h : Q .normal T σ) : Runs A call k f N .skip T σ Q := ⟨_, _, _, exec_skip, h⟩
theorem Runs.exit {i : Nat} {Q : AExit → Tr AVal → AMem → Prop} (h : Q (.exit i) T σ) : Runs A call k f N (.exit i) T σ Q := ⟨_, _, _, exec_exit, h⟩
/-- A loop whose rounds keep something, and which ends. -/
theorem Runs.loop {c : Code} {R : AExit → Tr AVal → AMem → Prop} (I : Nat → Tr AVal → AMem → Prop) (n : Nat) (hn : n < k)
    (hstep : ∀ i T σ, i ≤ n → I i T σ → Runs A call k f N c T σ fun e T σ => (e = .normal ∧ i < n ∧ I (i + 1) T σ) ∨ (e ≠ .normal ∧ R e T σ)) (h0 : I 0 T σ) : Runs A call k f N (.loop c) T σ R := by
  obtain ⟨e, T', σ', h1, _, h2⟩ := exec_loop2 (A := A) (call := call) (k := k) (f := f) (N := N) (T := T) (σ := σ) (c := c) (R := R) I n hn (fun i hi T σ hI => by
    obtain ⟨e, T1, σ1, h1, ⟨rfl, _, h2⟩ | ⟨he, h2⟩⟩ := hstep i T σ (Nat.le_of_lt hi) hI
    · exact .inl ⟨T1, σ1, h1, h2⟩
    · exact .inr ⟨e, T1, σ1, h1, he, h2⟩) (fun T σ hI => by
    obtain ⟨e, T1, σ1, h1, ⟨_, hlt, _⟩ | ⟨he, h2⟩⟩ := hstep n T σ (Nat.le_refl _) hI
    · omega
    · exact ⟨e, T1, σ1, h1, he, h2⟩) h0
  exact ⟨e, T', σ', h1, h2⟩

/-! ### pieces of a text -/
def flatC : Code → List Code
  | .seq a b => flatC a ++ flatC b
  | c => [c]
def innerC : Code → Code
  | .block _ c => c
  | .loop c => c
  | c => c
def thenC : Code → Code
  | .cond _ a _ => a
  | c => c
def elseC : Code → Code
  | .cond _ _ b => b
  | c => c
def dropC : Nat → Code → Code
  | 0, c => c
  | n + 1, .seq _ b => dropC n b
  | _ + 1, c => c
/-- The n-th piece of a row of pieces. -/
def stmtC (c : Code) (n : Nat) : Code := (flatC c)[n]?.getD .skip
end Go.Proofs.YtjckhhkhgjbpaaaGreatDoor.Pale
