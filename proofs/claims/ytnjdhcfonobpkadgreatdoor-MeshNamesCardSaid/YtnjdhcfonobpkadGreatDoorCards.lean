/-
  DERIVED. GIVEN WITH THE SEED: THE CARDS: each row of YtnjdhcfonobpkadGreatDoorRows.lean that lists a variable, with what it lists TIED to the program's text (the seventh form; the later family's looks); each row that meets fmt, with fmt's text TOLD by the authors' own Lean function (tested against real Go, not proved from fmt's source: count such statements apart). THE CARD IS WHAT COUNTS. Prove the row's statement (the work); the ties are given (YtnjdhcfonobpkadGreatDoorTie.lean); close each card by the builder's one call (the guide's Derived/Test/ToyasCard.lean, 'card_holds'). Laid BY PROGRAM, IN A SANDBOX (cutbox-door.mjs). By AI agents, Wed Nov 11 2026. No macro, syntax, notation, axiom, sorry.
-/
import Derived.Test.YtnjdhcfonobpkadGreatDoorRows
import GoSem.ClaimSeven
namespace Go.Proofs.YtnjdhcfonobpkadGreatDoor
namespace Rows

/-- THE TIED CARD OF 'dripstonelaw22.MeshNames'. -/
def meshNamesCard : Claim7 := { stood := { row := meshNamesRow, standIns := [], harness := (true, "55333601184679d224ab1e96401518c0b9925a6f139769e86411c066d82ff8ac"), looks := false }, kinds := [], alts := [], laidByText := true, laidKinds := [.data], laidTests := true, laidLooks := .later }
def MeshNamesCardSaid : Prop := Claim7.holds Tryz.pinned (.plain (OpenSpec.ofChange meshNamesSpec)) meshNamesCard

/-- THE SECOND FORM's CARD OF 'dripstonelaw22.MeshNames'. -/
def meshNamesUptoCard : Claim7 := { stood := { row := meshNamesUptoRow, standIns := [], harness := (true, "55333601184679d224ab1e96401518c0b9925a6f139769e86411c066d82ff8ac"), looks := false }, kinds := [], alts := [], laidByText := true, laidKinds := [.data], laidTests := true, laidLooks := .later }
def MeshNamesUptoCardSaid : Prop := Claim7.holds Tryz.pinned (.plain (OpenSpec.upto meshNamesSpec)) meshNamesUptoCard
end Rows
end Go.Proofs.YtnjdhcfonobpkadGreatDoor
