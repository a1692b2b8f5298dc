/-
  DERIVED. GIVEN WITH THE SEED: THE CARDS: each row of YtoomnecfapihaaaGreatDoorRows.lean that lists a variable, with what it lists TIED to the program's text (the seventh form; the later family's looks); each row that meets fmt, with fmt's text TOLD by the authors' own Lean function (tested against real Go, not proved from fmt's source: count such statements apart). THE CARD IS WHAT COUNTS. Prove the row's statement (the work); the ties are given (YtoomnecfapihaaaGreatDoorTie.lean); close each card by the builder's one call (the guide's Derived/Test/ToyasCard.lean, 'card_holds'). Laid BY PROGRAM, IN A SANDBOX (cutbox-door.mjs). By AI agents, Wed Nov 11 2026. No macro, syntax, notation, axiom, sorry.
-/
import Derived.Test.YtoomnecfapihaaaGreatDoorRows
import GoSem.ClaimSeven
namespace Go.Proofs.YtoomnecfapihaaaGreatDoor
namespace Rows

/-- THE TIED CARD OF 'dripstonelaw20.DeltaLists'. -/
def deltaListsCard : Claim7 := { stood := { row := deltaListsRow, standIns := [], harness := (true, "cc91ffb713d8837e7936d7e2f8366e4f733a0d7b4b0267777b79518a3d9ab8be"), looks := false }, kinds := [], alts := [], laidByText := true, laidKinds := [.data], laidTests := true, laidLooks := .later }
def DeltaListsCardSaid : Prop := Claim7.holds Tryz.pinned (.plain (OpenSpec.ofChange deltaListsSpec)) deltaListsCard

/-- THE TIED CARD OF 'dripstonelaw20.DeltaSpans'. -/
def deltaSpansCard : Claim7 := { stood := { row := deltaSpansRow, standIns := [], harness := (true, "cc91ffb713d8837e7936d7e2f8366e4f733a0d7b4b0267777b79518a3d9ab8be"), looks := false }, kinds := [], alts := [], laidByText := true, laidKinds := [.data], laidTests := true, laidLooks := .later }
def DeltaSpansCardSaid : Prop := Claim7.holds Tryz.pinned (.plain (OpenSpec.ofChange deltaSpansSpec)) deltaSpansCard

/-- THE SECOND FORM's CARD OF 'dripstonelaw20.DeltaLists'. -/
def deltaListsUptoCard : Claim7 := { stood := { row := deltaListsUptoRow, standIns := [], harness := (true, "cc91ffb713d8837e7936d7e2f8366e4f733a0d7b4b0267777b79518a3d9ab8be"), looks := false }, kinds := [], alts := [], laidByText := true, laidKinds := [.data], laidTests := true, laidLooks := .later }
def DeltaListsUptoCardSaid : Prop := Claim7.holds Tryz.pinned (.plain (OpenSpec.upto deltaListsSpec)) deltaListsUptoCard

/-- THE SECOND FORM's CARD OF 'dripstonelaw20.DeltaSpans'. -/
def deltaSpansUptoCard : Claim7 := { stood := { row := deltaSpansUptoRow, standIns := [], harness := (true, "cc91ffb713d8837e7936d7e2f8366e4f733a0d7b4b0267777b79518a3d9ab8be"), looks := false }, kinds := [], alts := [], laidByText := true, laidKinds := [.data], laidTests := true, laidLooks := .later }
def DeltaSpansUptoCardSaid : Prop := Claim7.holds Tryz.pinned (.plain (OpenSpec.upto deltaSpansSpec)) deltaSpansUptoCard
end Rows
end Go.Proofs.YtoomnecfapihaaaGreatDoor
