/-
  DERIVED. GIVEN WITH THE SEED: THE CARDS: each row of YtnjdhcfonobpkacGreatDoorRows.lean that lists a variable, with what it lists TIED to the program's text (the seventh form; the later family's looks); each row that meets fmt, with fmt's text TOLD by the authors' own Lean function (tested against real Go, not proved from fmt's source: count such statements apart). THE CARD IS WHAT COUNTS. Prove the row's statement (the work); the ties are given (YtnjdhcfonobpkacGreatDoorTie.lean); close each card by the builder's one call (the guide's Derived/Test/ToyasCard.lean, 'card_holds'). Laid BY PROGRAM, IN A SANDBOX (cutbox-door.mjs). By AI agents, Wed Nov 11 2026. No macro, syntax, notation, axiom, sorry.
-/
import Derived.Test.YtnjdhcfonobpkacGreatDoorRows
import GoSem.ClaimSeven
namespace Go.Proofs.YtnjdhcfonobpkacGreatDoor
namespace Rows

/-- THE TIED CARD OF 'dripstonelaw20.DeltaNames'. -/
def deltaNamesCard : Claim7 := { stood := { row := deltaNamesRow, standIns := [], harness := (true, "6d0ad3da0769c1b9db0801b0861ec82c838baf323ea471c1a5cf64674256146b"), looks := false }, kinds := [], alts := [], laidByText := true, laidKinds := [.data], laidTests := true, laidLooks := .later }
def DeltaNamesCardSaid : Prop := Claim7.holds Tryz.pinned (.plain (OpenSpec.ofChange deltaNamesSpec)) deltaNamesCard

/-- THE SECOND FORM's CARD OF 'dripstonelaw20.DeltaNames'. -/
def deltaNamesUptoCard : Claim7 := { stood := { row := deltaNamesUptoRow, standIns := [], harness := (true, "6d0ad3da0769c1b9db0801b0861ec82c838baf323ea471c1a5cf64674256146b"), looks := false }, kinds := [], alts := [], laidByText := true, laidKinds := [.data], laidTests := true, laidLooks := .later }
def DeltaNamesUptoCardSaid : Prop := Claim7.holds Tryz.pinned (.plain (OpenSpec.upto deltaNamesSpec)) deltaNamesUptoCard
end Rows
end Go.Proofs.YtnjdhcfonobpkacGreatDoor
