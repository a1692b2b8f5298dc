/-
  DERIVED. GIVEN WITH THE SEED: THE CARDS: each row of YtikhidpcaefjiaaGreatDoorRows.lean that lists a variable, with what it lists TIED to the program's text (the seventh form; the later family's looks); each row that meets fmt, with fmt's text TOLD by the authors' own Lean function (tested against real Go, not proved from fmt's source: count such statements apart). THE CARD IS WHAT COUNTS. Prove the row's statement (the work); the ties are given (YtikhidpcaefjiaaGreatDoorTie.lean); close each card by the builder's one call (the guide's Derived/Test/ToyasCard.lean, 'card_holds'). Laid BY PROGRAM, IN A SANDBOX (cutbox-door.mjs). By AI agents, Wed Nov 11 2026. No macro, syntax, notation, axiom, sorry.
-/
import Derived.Test.YtikhidpcaefjiaaGreatDoorRows
import GoSem.ClaimSeven
namespace Go.Proofs.YtikhidpcaefjiaaGreatDoor
namespace Rows

/-- THE TIED CARD OF 'dripstonelaw21.PackSplits'. -/
def packSplitsCard : Claim7 := { stood := { row := packSplitsRow, standIns := [], harness := (true, "df1e28726c2824466d346cc4ad546de4a2a5d3d4c6da1ba7386b3c6b75edeba2"), looks := false }, kinds := [], alts := [], laidByText := true, laidKinds := [.data], laidTests := true, laidLooks := .later }
def PackSplitsCardSaid : Prop := Claim7.holds Tryz.pinned (.plain (OpenSpec.ofChange packSplitsSpec)) packSplitsCard

/-- THE TIED CARD OF 'dripstonelaw21.PackChunks'. -/
def packChunksCard : Claim7 := { stood := { row := packChunksRow, standIns := [], harness := (true, "df1e28726c2824466d346cc4ad546de4a2a5d3d4c6da1ba7386b3c6b75edeba2"), looks := false }, kinds := [], alts := [], laidByText := true, laidKinds := [.data], laidTests := true, laidLooks := .later }
def PackChunksCardSaid : Prop := Claim7.holds Tryz.pinned (.plain (OpenSpec.ofChange packChunksSpec)) packChunksCard

/-- THE TIED CARD OF 'dripstonelaw21.PackSends'. -/
def packSendsCard : Claim7 := { stood := { row := packSendsRow, standIns := [], harness := (true, "df1e28726c2824466d346cc4ad546de4a2a5d3d4c6da1ba7386b3c6b75edeba2"), looks := false }, kinds := [], alts := [], laidByText := true, laidKinds := [.data], laidTests := true, laidLooks := .later }
def PackSendsCardSaid : Prop := Claim7.holds Tryz.pinned (.plain (OpenSpec.ofChange packSendsSpec)) packSendsCard

/-- THE TIED CARD OF 'dripstonelaw21.PackDoes'. -/
def packDoesCard : Claim7 := { stood := { row := packDoesRow, standIns := [], harness := (true, "df1e28726c2824466d346cc4ad546de4a2a5d3d4c6da1ba7386b3c6b75edeba2"), looks := false }, kinds := [], alts := [], laidByText := true, laidKinds := [.data], laidTests := true, laidLooks := .later }
def PackDoesCardSaid : Prop := Claim7.holds Tryz.pinned (.plain (OpenSpec.ofChange packDoesSpec)) packDoesCard

/-- THE TIED CARD OF 'dripstonelaw21.PackNet'. -/
def packNetCard : Claim7 := { stood := { row := packNetRow, standIns := [], harness := (true, "df1e28726c2824466d346cc4ad546de4a2a5d3d4c6da1ba7386b3c6b75edeba2"), looks := false }, kinds := [], alts := [], laidByText := true, laidKinds := [.data], laidTests := true, laidLooks := .later }
def PackNetCardSaid : Prop := Claim7.holds Tryz.pinned (.plain (OpenSpec.ofChange packNetSpec)) packNetCard

/-- THE TIED CARD OF 'dripstonelaw21.PackAdds'. -/
def packAddsCard : Claim7 := { stood := { row := packAddsRow, standIns := [], harness := (true, "df1e28726c2824466d346cc4ad546de4a2a5d3d4c6da1ba7386b3c6b75edeba2"), looks := false }, kinds := [], alts := [], laidByText := true, laidKinds := [.data], laidTests := true, laidLooks := .later }
def PackAddsCardSaid : Prop := Claim7.holds Tryz.pinned (.plain (OpenSpec.ofChange packAddsSpec)) packAddsCard

/-- THE SECOND FORM's CARD OF 'dripstonelaw21.PackSplits'. -/
def packSplitsUptoCard : Claim7 := { stood := { row := packSplitsUptoRow, standIns := [], harness := (true, "df1e28726c2824466d346cc4ad546de4a2a5d3d4c6da1ba7386b3c6b75edeba2"), looks := false }, kinds := [], alts := [], laidByText := true, laidKinds := [.data], laidTests := true, laidLooks := .later }
def PackSplitsUptoCardSaid : Prop := Claim7.holds Tryz.pinned (.plain (OpenSpec.upto packSplitsSpec)) packSplitsUptoCard

/-- THE SECOND FORM's CARD OF 'dripstonelaw21.PackChunks'. -/
def packChunksUptoCard : Claim7 := { stood := { row := packChunksUptoRow, standIns := [], harness := (true, "df1e28726c2824466d346cc4ad546de4a2a5d3d4c6da1ba7386b3c6b75edeba2"), looks := false }, kinds := [], alts := [], laidByText := true, laidKinds := [.data], laidTests := true, laidLooks := .later }
def PackChunksUptoCardSaid : Prop := Claim7.holds Tryz.pinned (.plain (OpenSpec.upto packChunksSpec)) packChunksUptoCard

/-- THE SECOND FORM's CARD OF 'dripstonelaw21.PackSends'. -/
def packSendsUptoCard : Claim7 := { stood := { row := packSendsUptoRow, standIns := [], harness := (true, "df1e28726c2824466d346cc4ad546de4a2a5d3d4c6da1ba7386b3c6b75edeba2"), looks := false }, kinds := [], alts := [], laidByText := true, laidKinds := [.data], laidTests := true, laidLooks := .later }
def PackSendsUptoCardSaid : Prop := Claim7.holds Tryz.pinned (.plain (OpenSpec.upto packSendsSpec)) packSendsUptoCard

/-- THE SECOND FORM's CARD OF 'dripstonelaw21.PackDoes'. -/
def packDoesUptoCard : Claim7 := { stood := { row := packDoesUptoRow, standIns := [], harness := (true, "df1e28726c2824466d346cc4ad546de4a2a5d3d4c6da1ba7386b3c6b75edeba2"), looks := false }, kinds := [], alts := [], laidByText := true, laidKinds := [.data], laidTests := true, laidLooks := .later }
def PackDoesUptoCardSaid : Prop := Claim7.holds Tryz.pinned (.plain (OpenSpec.upto packDoesSpec)) packDoesUptoCard

/-- THE SECOND FORM's CARD OF 'dripstonelaw21.PackNet'. -/
def packNetUptoCard : Claim7 := { stood := { row := packNetUptoRow, standIns := [], harness := (true, "df1e28726c2824466d346cc4ad546de4a2a5d3d4c6da1ba7386b3c6b75edeba2"), looks := false }, kinds := [], alts := [], laidByText := true, laidKinds := [.data], laidTests := true, laidLooks := .later }
def PackNetUptoCardSaid : Prop := Claim7.holds Tryz.pinned (.plain (OpenSpec.upto packNetSpec)) packNetUptoCard

/-- THE SECOND FORM's CARD OF 'dripstonelaw21.PackAdds'. -/
def packAddsUptoCard : Claim7 := { stood := { row := packAddsUptoRow, standIns := [], harness := (true, "df1e28726c2824466d346cc4ad546de4a2a5d3d4c6da1ba7386b3c6b75edeba2"), looks := false }, kinds := [], alts := [], laidByText := true, laidKinds := [.data], laidTests := true, laidLooks := .later }
def PackAddsUptoCardSaid : Prop := Claim7.holds Tryz.pinned (.plain (OpenSpec.upto packAddsSpec)) packAddsUptoCard
end Rows
end Go.Proofs.YtikhidpcaefjiaaGreatDoor
