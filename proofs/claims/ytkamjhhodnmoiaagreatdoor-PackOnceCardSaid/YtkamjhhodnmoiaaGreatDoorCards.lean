/-
  DERIVED. GIVEN WITH THE SEED: THE CARDS: each row of YtkamjhhodnmoiaaGreatDoorRows.lean that lists a variable, with what it lists TIED to the program's text (the seventh form; the later family's looks); each row that meets fmt, with fmt's text TOLD by the authors' own Lean function (tested against real Go, not proved from fmt's source: count such statements apart). THE CARD IS WHAT COUNTS. Prove the row's statement (the work); the ties are given (YtkamjhhodnmoiaaGreatDoorTie.lean); close each card by the builder's one call (the guide's Derived/Test/ToyasCard.lean, 'card_holds'). Laid BY PROGRAM, IN A SANDBOX (cutbox-door.mjs). By AI agents, Wed Nov 11 2026. No macro, syntax, notation, axiom, sorry.
-/
import Derived.Test.YtkamjhhodnmoiaaGreatDoorRows
import GoSem.ClaimSeven
namespace Go.Proofs.YtkamjhhodnmoiaaGreatDoor
namespace Rows

/-- THE TIED CARD OF 'dripstonelaw21.PackAdds'. -/
def packAddsCard : Claim7 := { stood := { row := packAddsRow, standIns := [], harness := (true, "887dcd263b30e84da57cb148d87516b4ab68679613915673a7973a77661acbc4"), looks := false }, kinds := [], alts := [], laidByText := true, laidKinds := [.data], laidTests := true, laidLooks := .later }
def PackAddsCardSaid : Prop := Claim7.holds Tryz.pinned (.plain (OpenSpec.ofChange packAddsSpec)) packAddsCard

/-- THE TIED CARD OF 'dripstonelaw21.PackOnce'. -/
def packOnceCard : Claim7 := { stood := { row := packOnceRow, standIns := [], harness := (true, "887dcd263b30e84da57cb148d87516b4ab68679613915673a7973a77661acbc4"), looks := false }, kinds := [], alts := [], laidByText := true, laidKinds := [.data], laidTests := true, laidLooks := .later }
def PackOnceCardSaid : Prop := Claim7.holds Tryz.pinned (.plain (OpenSpec.ofChange packOnceSpec)) packOnceCard

/-- THE TIED CARD OF 'dripstonelaw21.PackLost'. -/
def packLostCard : Claim7 := { stood := { row := packLostRow, standIns := [], harness := (true, "887dcd263b30e84da57cb148d87516b4ab68679613915673a7973a77661acbc4"), looks := false }, kinds := [], alts := [], laidByText := true, laidKinds := [.data], laidTests := true, laidLooks := .later }
def PackLostCardSaid : Prop := Claim7.holds Tryz.pinned (.plain (OpenSpec.ofChange packLostSpec)) packLostCard

/-- THE TIED CARD OF 'dripstonelaw21.PackBound'. -/
def packBoundCard : Claim7 := { stood := { row := packBoundRow, standIns := [], harness := (true, "887dcd263b30e84da57cb148d87516b4ab68679613915673a7973a77661acbc4"), looks := false }, kinds := [], alts := [], laidByText := true, laidKinds := [.data], laidTests := true, laidLooks := .later }
def PackBoundCardSaid : Prop := Claim7.holds Tryz.pinned (.plain (OpenSpec.ofChange packBoundSpec)) packBoundCard

/-- THE SECOND FORM's CARD OF 'dripstonelaw21.PackAdds'. -/
def packAddsUptoCard : Claim7 := { stood := { row := packAddsUptoRow, standIns := [], harness := (true, "887dcd263b30e84da57cb148d87516b4ab68679613915673a7973a77661acbc4"), looks := false }, kinds := [], alts := [], laidByText := true, laidKinds := [.data], laidTests := true, laidLooks := .later }
def PackAddsUptoCardSaid : Prop := Claim7.holds Tryz.pinned (.plain (OpenSpec.upto packAddsSpec)) packAddsUptoCard

/-- THE SECOND FORM's CARD OF 'dripstonelaw21.PackOnce'. -/
def packOnceUptoCard : Claim7 := { stood := { row := packOnceUptoRow, standIns := [], harness := (true, "887dcd263b30e84da57cb148d87516b4ab68679613915673a7973a77661acbc4"), looks := false }, kinds := [], alts := [], laidByText := true, laidKinds := [.data], laidTests := true, laidLooks := .later }
def PackOnceUptoCardSaid : Prop := Claim7.holds Tryz.pinned (.plain (OpenSpec.upto packOnceSpec)) packOnceUptoCard

/-- THE SECOND FORM's CARD OF 'dripstonelaw21.PackLost'. -/
def packLostUptoCard : Claim7 := { stood := { row := packLostUptoRow, standIns := [], harness := (true, "887dcd263b30e84da57cb148d87516b4ab68679613915673a7973a77661acbc4"), looks := false }, kinds := [], alts := [], laidByText := true, laidKinds := [.data], laidTests := true, laidLooks := .later }
def PackLostUptoCardSaid : Prop := Claim7.holds Tryz.pinned (.plain (OpenSpec.upto packLostSpec)) packLostUptoCard

/-- THE SECOND FORM's CARD OF 'dripstonelaw21.PackBound'. -/
def packBoundUptoCard : Claim7 := { stood := { row := packBoundUptoRow, standIns := [], harness := (true, "887dcd263b30e84da57cb148d87516b4ab68679613915673a7973a77661acbc4"), looks := false }, kinds := [], alts := [], laidByText := true, laidKinds := [.data], laidTests := true, laidLooks := .later }
def PackBoundUptoCardSaid : Prop := Claim7.holds Tryz.pinned (.plain (OpenSpec.upto packBoundSpec)) packBoundUptoCard
end Rows
end Go.Proofs.YtkamjhhodnmoiaaGreatDoor
