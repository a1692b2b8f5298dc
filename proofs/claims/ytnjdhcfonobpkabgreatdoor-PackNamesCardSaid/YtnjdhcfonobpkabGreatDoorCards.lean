/-
  DERIVED. GIVEN WITH THE SEED: THE CARDS: each row of YtnjdhcfonobpkabGreatDoorRows.lean that lists a variable, with what it lists TIED to the program's text (the seventh form; the later family's looks); each row that meets fmt, with fmt's text TOLD by the authors' own Lean function (tested against real Go, not proved from fmt's source: count such statements apart). THE CARD IS WHAT COUNTS. Prove the row's statement (the work); the ties are given (YtnjdhcfonobpkabGreatDoorTie.lean); close each card by the builder's one call (the guide's Derived/Test/ToyasCard.lean, 'card_holds'). Laid BY PROGRAM, IN A SANDBOX (cutbox-door.mjs). By AI agents, Wed Nov 11 2026. No macro, syntax, notation, axiom, sorry.
-/
import Derived.Test.YtnjdhcfonobpkabGreatDoorRows
import GoSem.ClaimSeven
namespace Go.Proofs.YtnjdhcfonobpkabGreatDoor
namespace Rows

/-- THE TIED CARD OF 'dripstonelaw21.PackNames'. -/
def packNamesCard : Claim7 := { stood := { row := packNamesRow, standIns := [], harness := (true, "5b3b0a0aa63c75bcf60636f83967763b39123c7610dcb0ded003cfab61c86220"), looks := false }, kinds := [], alts := [], laidByText := true, laidKinds := [.data], laidTests := true, laidLooks := .later }
def PackNamesCardSaid : Prop := Claim7.holds Tryz.pinned (.plain (OpenSpec.ofChange packNamesSpec)) packNamesCard

/-- THE SECOND FORM's CARD OF 'dripstonelaw21.PackNames'. -/
def packNamesUptoCard : Claim7 := { stood := { row := packNamesUptoRow, standIns := [], harness := (true, "5b3b0a0aa63c75bcf60636f83967763b39123c7610dcb0ded003cfab61c86220"), looks := false }, kinds := [], alts := [], laidByText := true, laidKinds := [.data], laidTests := true, laidLooks := .later }
def PackNamesUptoCardSaid : Prop := Claim7.holds Tryz.pinned (.plain (OpenSpec.upto packNamesSpec)) packNamesUptoCard
end Rows
end Go.Proofs.YtnjdhcfonobpkabGreatDoor
