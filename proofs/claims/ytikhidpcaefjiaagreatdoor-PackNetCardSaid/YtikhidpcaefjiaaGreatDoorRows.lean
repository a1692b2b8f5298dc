/-
  NARROWER THAN 'FOR EVERY INPUT', by the rows' own cells (each row's printed sentence says how): PackSplits: laid · PackChunks: laid · PackSends: laid · PackDoes: laid · PackNet: laid · PackAdds: laid.
  DERIVED. THE GIVEN ROWS OF THIS SEAT. 6 by the template 'for every input the law returns true; each argument reads behind the call as it read before'; 0 by the template 'total and deterministic' (their statements: YtikhidpcaefjiaaGreatDoorTotals.lean).
  GIVEN WITH THE SEED: the statements are not yours to turn. If you find one false, say at which input.
  Laid BY PROGRAM, IN A SANDBOX (cutbox-rows.mjs): the forced cells as the released guide's own fill.sh prints them over the translation 15e0ed1af08b0ac4… (all of the seat's roots in one cut). By AI agents, Wed Nov 11 2026. No macro, syntax, notation, axiom, sorry.
-/
import Derived.Test.YtikhidpcaefjiaaGreatDoorChecked
import GoSem.Claim
import GoSem.ClaimJoined
import GoSem.ClaimMapViews
import Derived.JoinedTies
import Derived.KernelRfl
namespace Go.Proofs.YtikhidpcaefjiaaGreatDoor
/- THE CELL 'sum', in the pinned program and in every row, IS THE sha256 OF THE DUMP (.gsa) THAT YtikhidpcaefjiaaGreatDoorProg.lean LOADS. Nothing in Lean hashes anything: it is a label: what it is worth is what the hold of that sum in a sandbox is worth. -/
noncomputable def Tryz.pinned : Pinned := { name := "ytikhidpcaefjiaagreatdoor", sum := "15e0ed1af08b0ac495b08c38a4c95fdbb5b1b84b32490970c7b529058694eef6", checked := Tryz.checked }
namespace Rows
def none {H : Type} : Left H := { results := [], args := [] }

/- WHAT THE LISTED PACKAGE-LEVEL VARIABLES READ AS WHEN THE CALL BEGINS. Each datum BY PROGRAM (the guide's laid-datum.mjs) off the statement by which the dump's own 'gosem.cut.vars' lays the variable. In a bare row this is a premise. The card (YtikhidpcaefjiaaGreatDoorCards.lean) ties it to the program's text. -/
def laid_math_bits_deBruijn64tab {H : Type} : DataW H := .agg [.lit (.int .u8 0), .lit (.int .u8 1), .lit (.int .u8 56), .lit (.int .u8 2), .lit (.int .u8 57), .lit (.int .u8 49), .lit (.int .u8 28), .lit (.int .u8 3), .lit (.int .u8 61), .lit (.int .u8 58), .lit (.int .u8 42), .lit (.int .u8 50), .lit (.int .u8 38), .lit (.int .u8 29), .lit (.int .u8 17), .lit (.int .u8 4), .lit (.int .u8 62), .lit (.int .u8 47), .lit (.int .u8 59), .lit (.int .u8 36), .lit (.int .u8 45), .lit (.int .u8 43), .lit (.int .u8 51), .lit (.int .u8 22), .lit (.int .u8 53), .lit (.int .u8 39), .lit (.int .u8 33), .lit (.int .u8 30), .lit (.int .u8 24), .lit (.int .u8 18), .lit (.int .u8 12), .lit (.int .u8 5), .lit (.int .u8 63), .lit (.int .u8 55), .lit (.int .u8 48), .lit (.int .u8 27), .lit (.int .u8 60), .lit (.int .u8 41), .lit (.int .u8 37), .lit (.int .u8 16), .lit (.int .u8 46), .lit (.int .u8 35), .lit (.int .u8 44), .lit (.int .u8 21), .lit (.int .u8 52), .lit (.int .u8 32), .lit (.int .u8 23), .lit (.int .u8 11), .lit (.int .u8 54), .lit (.int .u8 26), .lit (.int .u8 40), .lit (.int .u8 15), .lit (.int .u8 34), .lit (.int .u8 20), .lit (.int .u8 31), .lit (.int .u8 10), .lit (.int .u8 25), .lit (.int .u8 14), .lit (.int .u8 19), .lit (.int .u8 9), .lit (.int .u8 13), .lit (.int .u8 8), .lit (.int .u8 7), .lit (.int .u8 6)]

/-- 'dripstonelaw21.PackSplits': WHATEVER THE INPUT: true; the input reads as it did. -/
def packSplitsSpec : ChangeSpec := { name := "packSplits", fn := fun _ => fun
  | [d1, d2, d3] => { results := [.lit (.bool true)], args := [d1, d2, d3] }
  | _ => none }
def packSplitsRow : OpenClaim := { program := "ytikhidpcaefjiaagreatdoor", sum := "15e0ed1af08b0ac495b08c38a4c95fdbb5b1b84b32490970c7b529058694eef6", func := "dripstone/dripstonelaw21.PackSplits", spec := "packSplits", unfollowed := true, recurses := true, named := ["math/bits.deBruijn64tab"], apart := false, laid := [("math/bits.deBruijn64tab", laid_math_bits_deBruijn64tab)] }
def PackSplitsSaid : Prop := packSplitsRow.holds Tryz.pinned (OpenSpec.ofChange packSplitsSpec)

/-- ITS FALSE NEIGHBOUR: 'it returns false'. Refute it at one input. -/
def packSplitsWrong : ChangeSpec := { name := "packSplits", fn := fun _ => fun
  | [d1, d2, d3] => { results := [.lit (.bool false)], args := [d1, d2, d3] }
  | _ => none }
def PackSplitsWrongFalsely : Prop := packSplitsRow.holds Tryz.pinned (OpenSpec.ofChange packSplitsWrong)

/-- 'dripstonelaw21.PackChunks': WHATEVER THE INPUT: true; the input reads as it did. -/
def packChunksSpec : ChangeSpec := { name := "packChunks", fn := fun _ => fun
  | [d1, d2] => { results := [.lit (.bool true)], args := [d1, d2] }
  | _ => none }
def packChunksRow : OpenClaim := { program := "ytikhidpcaefjiaagreatdoor", sum := "15e0ed1af08b0ac495b08c38a4c95fdbb5b1b84b32490970c7b529058694eef6", func := "dripstone/dripstonelaw21.PackChunks", spec := "packChunks", unfollowed := true, recurses := true, named := ["math/bits.deBruijn64tab"], apart := false, laid := [("math/bits.deBruijn64tab", laid_math_bits_deBruijn64tab)] }
def PackChunksSaid : Prop := packChunksRow.holds Tryz.pinned (OpenSpec.ofChange packChunksSpec)

/-- ITS FALSE NEIGHBOUR: 'it returns false'. Refute it at one input. -/
def packChunksWrong : ChangeSpec := { name := "packChunks", fn := fun _ => fun
  | [d1, d2] => { results := [.lit (.bool false)], args := [d1, d2] }
  | _ => none }
def PackChunksWrongFalsely : Prop := packChunksRow.holds Tryz.pinned (OpenSpec.ofChange packChunksWrong)

/-- 'dripstonelaw21.PackSends': WHATEVER THE INPUT: true; the input reads as it did. -/
def packSendsSpec : ChangeSpec := { name := "packSends", fn := fun _ => fun
  | [d1, d2] => { results := [.lit (.bool true)], args := [d1, d2] }
  | _ => none }
def packSendsRow : OpenClaim := { program := "ytikhidpcaefjiaagreatdoor", sum := "15e0ed1af08b0ac495b08c38a4c95fdbb5b1b84b32490970c7b529058694eef6", func := "dripstone/dripstonelaw21.PackSends", spec := "packSends", unfollowed := true, recurses := true, named := ["math/bits.deBruijn64tab"], apart := false, laid := [("math/bits.deBruijn64tab", laid_math_bits_deBruijn64tab)] }
def PackSendsSaid : Prop := packSendsRow.holds Tryz.pinned (OpenSpec.ofChange packSendsSpec)

/-- ITS FALSE NEIGHBOUR: 'it returns false'. Refute it at one input. -/
def packSendsWrong : ChangeSpec := { name := "packSends", fn := fun _ => fun
  | [d1, d2] => { results := [.lit (.bool false)], args := [d1, d2] }
  | _ => none }
def PackSendsWrongFalsely : Prop := packSendsRow.holds Tryz.pinned (OpenSpec.ofChange packSendsWrong)

/-- 'dripstonelaw21.PackDoes': WHATEVER THE INPUT: true; the input reads as it did. -/
def packDoesSpec : ChangeSpec := { name := "packDoes", fn := fun _ => fun
  | [d1, d2] => { results := [.lit (.bool true)], args := [d1, d2] }
  | _ => none }
def packDoesRow : OpenClaim := { program := "ytikhidpcaefjiaagreatdoor", sum := "15e0ed1af08b0ac495b08c38a4c95fdbb5b1b84b32490970c7b529058694eef6", func := "dripstone/dripstonelaw21.PackDoes", spec := "packDoes", unfollowed := true, recurses := true, named := ["math/bits.deBruijn64tab"], apart := false, laid := [("math/bits.deBruijn64tab", laid_math_bits_deBruijn64tab)] }
def PackDoesSaid : Prop := packDoesRow.holds Tryz.pinned (OpenSpec.ofChange packDoesSpec)

/-- ITS FALSE NEIGHBOUR: 'it returns false'. Refute it at one input. -/
def packDoesWrong : ChangeSpec := { name := "packDoes", fn := fun _ => fun
  | [d1, d2] => { results := [.lit (.bool false)], args := [d1, d2] }
  | _ => none }
def PackDoesWrongFalsely : Prop := packDoesRow.holds Tryz.pinned (OpenSpec.ofChange packDoesWrong)

/-- 'dripstonelaw21.PackNet': WHATEVER THE INPUT: true; the input reads as it did. -/
def packNetSpec : ChangeSpec := { name := "packNet", fn := fun _ => fun
  | [d] => { results := [.lit (.bool true)], args := [d] }
  | _ => none }
def packNetRow : OpenClaim := { program := "ytikhidpcaefjiaagreatdoor", sum := "15e0ed1af08b0ac495b08c38a4c95fdbb5b1b84b32490970c7b529058694eef6", func := "dripstone/dripstonelaw21.PackNet", spec := "packNet", unfollowed := true, recurses := true, named := ["math/bits.deBruijn64tab"], apart := false, laid := [("math/bits.deBruijn64tab", laid_math_bits_deBruijn64tab)] }
def PackNetSaid : Prop := packNetRow.holds Tryz.pinned (OpenSpec.ofChange packNetSpec)

/-- ITS FALSE NEIGHBOUR: 'it returns false'. Refute it at one input. -/
def packNetWrong : ChangeSpec := { name := "packNet", fn := fun _ => fun
  | [d] => { results := [.lit (.bool false)], args := [d] }
  | _ => none }
def PackNetWrongFalsely : Prop := packNetRow.holds Tryz.pinned (OpenSpec.ofChange packNetWrong)

/-- 'dripstonelaw21.PackAdds': WHATEVER THE INPUT: true; the input reads as it did. -/
def packAddsSpec : ChangeSpec := { name := "packAdds", fn := fun _ => fun
  | [d1, d2] => { results := [.lit (.bool true)], args := [d1, d2] }
  | _ => none }
def packAddsRow : OpenClaim := { program := "ytikhidpcaefjiaagreatdoor", sum := "15e0ed1af08b0ac495b08c38a4c95fdbb5b1b84b32490970c7b529058694eef6", func := "dripstone/dripstonelaw21.PackAdds", spec := "packAdds", unfollowed := true, recurses := true, named := ["math/bits.deBruijn64tab"], apart := false, laid := [("math/bits.deBruijn64tab", laid_math_bits_deBruijn64tab)] }
def PackAddsSaid : Prop := packAddsRow.holds Tryz.pinned (OpenSpec.ofChange packAddsSpec)

/-- ITS FALSE NEIGHBOUR: 'it returns false'. Refute it at one input. -/
def packAddsWrong : ChangeSpec := { name := "packAdds", fn := fun _ => fun
  | [d1, d2] => { results := [.lit (.bool false)], args := [d1, d2] }
  | _ => none }
def PackAddsWrongFalsely : Prop := packAddsRow.holds Tryz.pinned (OpenSpec.ofChange packAddsWrong)

/- THE SECOND FORM. 'bulk': how many values and letters a reading holds, each counted each time it is reached (what is shared counts as often as it is met; a slice's spare places count too). A statement '..UptoSaid' is the law's where the arguments, and the package variables that the reading takes, are together of bulk at most 1048576: NARROWER than '..Said'. Prove '..Said' where nothing that the law and all that it calls make is longer than what came in: it says more and counts as full. Else prove '..UptoSaid'. A law counts once. -/
mutual
def uptoBulk {H : Type} : DataW H → Nat
  | .lit (.string bytes) => bytes.length + 1
  | .lit _ => 1
  | .nil => 1
  | .ptr d => uptoBulk d + 1
  | .slice elems spare => uptoBulkAll elems + uptoBulkAll spare + 1
  | .agg parts => uptoBulkAll parts + 1
  | .iface _ d => uptoBulk d + 1
  | .map entries => uptoBulkEntries entries + 1
  | .held _ => 1
def uptoBulkAll {H : Type} : List (DataW H) → Nat
  | [] => 0
  | d :: r => uptoBulk d + uptoBulkAll r
def uptoBulkEntries {H : Type} : List (Lit × DataW H) → Nat
  | [] => 0
  | x :: r => uptoBulkEntry x + uptoBulkEntries r
def uptoBulkEntry {H : Type} : Lit × DataW H → Nat
  | (.string bytes, d) => bytes.length + uptoBulk d + 1
  | (_, d) => uptoBulk d + 1
 end
def uptoSmall : (H : Type) → List (DataW H) → Bool := fun _ ds => decide (uptoBulkAll ds ≤ 1048576)
def OpenSpec.upto (s : _root_.Go.ChangeSpec) : _root_.Go.OpenSpec := { _root_.Go.OpenSpec.ofChange s with cond := some uptoSmall }

/-- 'dripstonelaw21.PackSplits', WHERE WHAT IT READS IS OF BULK AT MOST 1048576: true; the input reads as it did. -/
def packSplitsUptoRow : OpenClaim := { program := "ytikhidpcaefjiaagreatdoor", sum := "15e0ed1af08b0ac495b08c38a4c95fdbb5b1b84b32490970c7b529058694eef6", func := "dripstone/dripstonelaw21.PackSplits", spec := "packSplits", unfollowed := true, recurses := true, named := ["math/bits.deBruijn64tab"], apart := false, laid := [("math/bits.deBruijn64tab", laid_math_bits_deBruijn64tab)], narrowed := true }
def PackSplitsUptoSaid : Prop := packSplitsUptoRow.holds Tryz.pinned (OpenSpec.upto packSplitsSpec)

/-- 'dripstonelaw21.PackChunks', WHERE WHAT IT READS IS OF BULK AT MOST 1048576: true; the input reads as it did. -/
def packChunksUptoRow : OpenClaim := { program := "ytikhidpcaefjiaagreatdoor", sum := "15e0ed1af08b0ac495b08c38a4c95fdbb5b1b84b32490970c7b529058694eef6", func := "dripstone/dripstonelaw21.PackChunks", spec := "packChunks", unfollowed := true, recurses := true, named := ["math/bits.deBruijn64tab"], apart := false, laid := [("math/bits.deBruijn64tab", laid_math_bits_deBruijn64tab)], narrowed := true }
def PackChunksUptoSaid : Prop := packChunksUptoRow.holds Tryz.pinned (OpenSpec.upto packChunksSpec)

/-- 'dripstonelaw21.PackSends', WHERE WHAT IT READS IS OF BULK AT MOST 1048576: true; the input reads as it did. -/
def packSendsUptoRow : OpenClaim := { program := "ytikhidpcaefjiaagreatdoor", sum := "15e0ed1af08b0ac495b08c38a4c95fdbb5b1b84b32490970c7b529058694eef6", func := "dripstone/dripstonelaw21.PackSends", spec := "packSends", unfollowed := true, recurses := true, named := ["math/bits.deBruijn64tab"], apart := false, laid := [("math/bits.deBruijn64tab", laid_math_bits_deBruijn64tab)], narrowed := true }
def PackSendsUptoSaid : Prop := packSendsUptoRow.holds Tryz.pinned (OpenSpec.upto packSendsSpec)

/-- 'dripstonelaw21.PackDoes', WHERE WHAT IT READS IS OF BULK AT MOST 1048576: true; the input reads as it did. -/
def packDoesUptoRow : OpenClaim := { program := "ytikhidpcaefjiaagreatdoor", sum := "15e0ed1af08b0ac495b08c38a4c95fdbb5b1b84b32490970c7b529058694eef6", func := "dripstone/dripstonelaw21.PackDoes", spec := "packDoes", unfollowed := true, recurses := true, named := ["math/bits.deBruijn64tab"], apart := false, laid := [("math/bits.deBruijn64tab", laid_math_bits_deBruijn64tab)], narrowed := true }
def PackDoesUptoSaid : Prop := packDoesUptoRow.holds Tryz.pinned (OpenSpec.upto packDoesSpec)

/-- 'dripstonelaw21.PackNet', WHERE WHAT IT READS IS OF BULK AT MOST 1048576: true; the input reads as it did. -/
def packNetUptoRow : OpenClaim := { program := "ytikhidpcaefjiaagreatdoor", sum := "15e0ed1af08b0ac495b08c38a4c95fdbb5b1b84b32490970c7b529058694eef6", func := "dripstone/dripstonelaw21.PackNet", spec := "packNet", unfollowed := true, recurses := true, named := ["math/bits.deBruijn64tab"], apart := false, laid := [("math/bits.deBruijn64tab", laid_math_bits_deBruijn64tab)], narrowed := true }
def PackNetUptoSaid : Prop := packNetUptoRow.holds Tryz.pinned (OpenSpec.upto packNetSpec)

/-- 'dripstonelaw21.PackAdds', WHERE WHAT IT READS IS OF BULK AT MOST 1048576: true; the input reads as it did. -/
def packAddsUptoRow : OpenClaim := { program := "ytikhidpcaefjiaagreatdoor", sum := "15e0ed1af08b0ac495b08c38a4c95fdbb5b1b84b32490970c7b529058694eef6", func := "dripstone/dripstonelaw21.PackAdds", spec := "packAdds", unfollowed := true, recurses := true, named := ["math/bits.deBruijn64tab"], apart := false, laid := [("math/bits.deBruijn64tab", laid_math_bits_deBruijn64tab)], narrowed := true }
def PackAddsUptoSaid : Prop := packAddsUptoRow.holds Tryz.pinned (OpenSpec.upto packAddsSpec)

end Rows
end Go.Proofs.YtikhidpcaefjiaaGreatDoor
