/-
  DERIVED. GIVEN WITH THE SEED: THE CARDS: each row of YtjckhhkhgjbpaaaGreatDoorRows.lean that lists a variable, with what it lists TIED to the program's text (the seventh form; the later family's looks); each row that meets fmt, with fmt's text TOLD by the authors' own Lean function (tested against real Go, not proved from fmt's source: count such statements apart). THE CARD IS WHAT COUNTS. Prove the row's statement (the work); the ties are given (YtjckhhkhgjbpaaaGreatDoorTie.lean); close each card by the builder's one call (the guide's Derived/Test/ToyasCard.lean, 'card_holds'). Laid BY PROGRAM, IN A SANDBOX (cutbox-door.mjs). By AI agents, Wed Nov 11 2026. No macro, syntax, notation, axiom, sorry.
-/
import Derived.Test.YtjckhhkhgjbpaaaGreatDoorRows
import GoSem.ClaimSeven
namespace Go.Proofs.YtjckhhkhgjbpaaaGreatDoor
namespace Rows

/-- THE TIED CARD OF 'dripstonelaw21.PackBytes'. -/
def packBytesCard : Claim7 := { stood := { row := packBytesRow, standIns := [], harness := (true, "3d6e434c1baf5b2c28d7bab781fdb1b1b6300002ea644331ae8ba4514208fe0f"), looks := false }, kinds := [], alts := [], laidByText := true, laidKinds := [.data], laidTests := true, laidLooks := .later }
def PackBytesCardSaid : Prop := Claim7.holds Tryz.pinned (.plain (OpenSpec.ofChange packBytesSpec)) packBytesCard

/-- THE TIED CARD OF 'dripstonelaw21.PackReads'. -/
def packReadsCard : Claim7 := { stood := { row := packReadsRow, standIns := [], harness := (true, "3d6e434c1baf5b2c28d7bab781fdb1b1b6300002ea644331ae8ba4514208fe0f"), looks := false }, kinds := [], alts := [], laidByText := true, laidKinds := [.data], laidTests := true, laidLooks := .later }
def PackReadsCardSaid : Prop := Claim7.holds Tryz.pinned (.plain (OpenSpec.ofChange packReadsSpec)) packReadsCard

/-- THE TIED CARD OF 'dripstonelaw21.PackAdds'. -/
def packAddsCard : Claim7 := { stood := { row := packAddsRow, standIns := [], harness := (true, "3d6e434c1baf5b2c28d7bab781fdb1b1b6300002ea644331ae8ba4514208fe0f"), looks := false }, kinds := [], alts := [], laidByText := true, laidKinds := [.data], laidTests := true, laidLooks := .later }
def PackAddsCardSaid : Prop := Claim7.holds Tryz.pinned (.plain (OpenSpec.ofChange packAddsSpec)) packAddsCard

/-- THE TIED CARD OF 'dripstonelaw21.PackThere'. -/
def packThereCard : Claim7 := { stood := { row := packThereRow, standIns := [], harness := (true, "3d6e434c1baf5b2c28d7bab781fdb1b1b6300002ea644331ae8ba4514208fe0f"), looks := false }, kinds := [], alts := [], laidByText := true, laidKinds := [.data], laidTests := true, laidLooks := .later }
def PackThereCardSaid : Prop := Claim7.holds Tryz.pinned (.plain (OpenSpec.ofChange packThereSpec)) packThereCard

/-- THE TIED CARD OF 'dripstonelaw21.PackSpoilt'. -/
def packSpoiltCard : Claim7 := { stood := { row := packSpoiltRow, standIns := [], harness := (true, "3d6e434c1baf5b2c28d7bab781fdb1b1b6300002ea644331ae8ba4514208fe0f"), looks := false }, kinds := [], alts := [], laidByText := true, laidKinds := [.data], laidTests := true, laidLooks := .later }
def PackSpoiltCardSaid : Prop := Claim7.holds Tryz.pinned (.plain (OpenSpec.ofChange packSpoiltSpec)) packSpoiltCard

/-- THE SECOND FORM's CARD OF 'dripstonelaw21.PackBytes'. -/
def packBytesUptoCard : Claim7 := { stood := { row := packBytesUptoRow, standIns := [], harness := (true, "3d6e434c1baf5b2c28d7bab781fdb1b1b6300002ea644331ae8ba4514208fe0f"), looks := false }, kinds := [], alts := [], laidByText := true, laidKinds := [.data], laidTests := true, laidLooks := .later }
def PackBytesUptoCardSaid : Prop := Claim7.holds Tryz.pinned (.plain (OpenSpec.upto packBytesSpec)) packBytesUptoCard

/-- THE SECOND FORM's CARD OF 'dripstonelaw21.PackReads'. -/
def packReadsUptoCard : Claim7 := { stood := { row := packReadsUptoRow, standIns := [], harness := (true, "3d6e434c1baf5b2c28d7bab781fdb1b1b6300002ea644331ae8ba4514208fe0f"), looks := false }, kinds := [], alts := [], laidByText := true, laidKinds := [.data], laidTests := true, laidLooks := .later }
def PackReadsUptoCardSaid : Prop := Claim7.holds Tryz.pinned (.plain (OpenSpec.upto packReadsSpec)) packReadsUptoCard

/-- THE SECOND FORM's CARD OF 'dripstonelaw21.PackAdds'. -/
def packAddsUptoCard : Claim7 := { stood := { row := packAddsUptoRow, standIns := [], harness := (true, "3d6e434c1baf5b2c28d7bab781fdb1b1b6300002ea644331ae8ba4514208fe0f"), looks := false }, kinds := [], alts := [], laidByText := true, laidKinds := [.data], laidTests := true, laidLooks := .later }
def PackAddsUptoCardSaid : Prop := Claim7.holds Tryz.pinned (.plain (OpenSpec.upto packAddsSpec)) packAddsUptoCard

/-- THE SECOND FORM's CARD OF 'dripstonelaw21.PackThere'. -/
def packThereUptoCard : Claim7 := { stood := { row := packThereUptoRow, standIns := [], harness := (true, "3d6e434c1baf5b2c28d7bab781fdb1b1b6300002ea644331ae8ba4514208fe0f"), looks := false }, kinds := [], alts := [], laidByText := true, laidKinds := [.data], laidTests := true, laidLooks := .later }
def PackThereUptoCardSaid : Prop := Claim7.holds Tryz.pinned (.plain (OpenSpec.upto packThereSpec)) packThereUptoCard

/-- THE SECOND FORM's CARD OF 'dripstonelaw21.PackSpoilt'. -/
def packSpoiltUptoCard : Claim7 := { stood := { row := packSpoiltUptoRow, standIns := [], harness := (true, "3d6e434c1baf5b2c28d7bab781fdb1b1b6300002ea644331ae8ba4514208fe0f"), looks := false }, kinds := [], alts := [], laidByText := true, laidKinds := [.data], laidTests := true, laidLooks := .later }
def PackSpoiltUptoCardSaid : Prop := Claim7.holds Tryz.pinned (.plain (OpenSpec.upto packSpoiltSpec)) packSpoiltUptoCard
end Rows
end Go.Proofs.YtjckhhkhgjbpaaaGreatDoor
