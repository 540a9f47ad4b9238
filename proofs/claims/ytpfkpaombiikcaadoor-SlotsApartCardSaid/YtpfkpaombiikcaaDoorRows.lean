/-
  NARROWER THAN 'FOR EVERY INPUT', by the rows' own cells (each row's printed sentence says how): SuperCells: laid · SuperTurns: laid · SuperNewest: laid · SuperEnds: laid · SuperHolds: laid · SuperPlays: laid · SlotsSets: laid · SlotsApart: laid.
  DERIVED. THE GIVEN ROWS OF THIS SEAT. 8 by the template 'for every input the law returns true; each argument reads behind the call as it read before'; 0 by the template 'total and deterministic' (their statements: YtpfkpaombiikcaaDoorTotals.lean).
  GIVEN WITH THE SEED: the statements are not yours to turn. If you find one false, say at which input.
  Laid BY PROGRAM, IN A SANDBOX (cutbox-rows.mjs): the forced cells as the released guide's own fill.sh prints them over the translation ed9a06554dfa2376… (all of the seat's roots in one cut). By AI agents, Wed Nov 11 2026. No macro, syntax, notation, axiom, sorry.
-/
import Derived.Test.YtpfkpaombiikcaaDoorChecked
import GoSem.PinnedTables
import GoSem.Claim
import GoSem.ClaimJoined
import GoSem.ClaimMapViews
import Derived.JoinedTies
import Derived.KernelRfl
namespace Go.Proofs.YtpfkpaombiikcaaDoor
/- THE CELL 'sum', in the pinned program and in every row, IS THE sha256 OF THE DUMP (.gsa) THAT YtpfkpaombiikcaaDoorProg.lean LOADS. Nothing in Lean hashes anything: it is a label: what it is worth is what the hold of that sum in a sandbox is worth. -/
noncomputable def Tryd.pinned : Pinned := { name := "ytpfkpaombiikcaadoor", sum := "ed9a06554dfa2376ee74a37eb9935cdeaa5b9b8c5c97d5d8d6006615a8667679", checked := Tryd.checked }
namespace Rows
def none {H : Type} : Left H := { results := [], args := [] }

/- WHAT THE LISTED PACKAGE-LEVEL VARIABLES READ AS WHEN THE CALL BEGINS. Each datum BY PROGRAM (the guide's laid-datum.mjs) off the statement by which the dump's own 'gosem.cut.vars' lays the variable. In a bare row this is a premise. The card (YtpfkpaombiikcaaDoorCards.lean) ties it to the program's text. -/
def laid_unicode_utf8_acceptRanges {H : Type} : DataW H := .agg [.agg [.lit (.int .u8 128), .lit (.int .u8 191)], .agg [.lit (.int .u8 160), .lit (.int .u8 191)], .agg [.lit (.int .u8 128), .lit (.int .u8 159)], .agg [.lit (.int .u8 144), .lit (.int .u8 191)], .agg [.lit (.int .u8 128), .lit (.int .u8 143)], .agg [.lit (.int .u8 0), .lit (.int .u8 0)], .agg [.lit (.int .u8 0), .lit (.int .u8 0)], .agg [.lit (.int .u8 0), .lit (.int .u8 0)], .agg [.lit (.int .u8 0), .lit (.int .u8 0)], .agg [.lit (.int .u8 0), .lit (.int .u8 0)], .agg [.lit (.int .u8 0), .lit (.int .u8 0)], .agg [.lit (.int .u8 0), .lit (.int .u8 0)], .agg [.lit (.int .u8 0), .lit (.int .u8 0)], .agg [.lit (.int .u8 0), .lit (.int .u8 0)], .agg [.lit (.int .u8 0), .lit (.int .u8 0)], .agg [.lit (.int .u8 0), .lit (.int .u8 0)]]
/-- One of Go's own tables, pinned by name: the form's constant. -/
def laid_unicode_utf8_first : DataW Unit := Go.Pinned.utf8First

/-- 'pintlelaw08.SuperCells': WHATEVER THE INPUT: true; the input reads as it did. -/
def superCellsSpec : ChangeSpec := { name := "superCells", fn := fun _ => fun
  | [d1, d2, d3, d4, d5, d6] => { results := [.lit (.bool true)], args := [d1, d2, d3, d4, d5, d6] }
  | _ => none }
def superCellsRow : OpenClaim := { program := "ytpfkpaombiikcaadoor", sum := "ed9a06554dfa2376ee74a37eb9935cdeaa5b9b8c5c97d5d8d6006615a8667679", func := "pintle/pintlelaw08.SuperCells", spec := "superCells", inPlace := ["internal/abi.NoEscape", "internal/bytealg.MakeNoZero", "internal/bytealg.IndexByteString", "internal/bytealg.IndexString"], unfollowed := true, recurses := true, named := ["unicode/utf8.first", "unicode/utf8.acceptRanges", "internal/bytealg.MaxLen"], apart := false, laid := [("unicode/utf8.acceptRanges", laid_unicode_utf8_acceptRanges), ("unicode/utf8.first", laid_unicode_utf8_first)] }
def SuperCellsSaid : Prop := superCellsRow.holds Tryd.pinned (OpenSpec.ofChange superCellsSpec)

/-- ITS FALSE NEIGHBOUR: 'it returns false'. Refute it at one input. -/
def superCellsWrong : ChangeSpec := { name := "superCells", fn := fun _ => fun
  | [d1, d2, d3, d4, d5, d6] => { results := [.lit (.bool false)], args := [d1, d2, d3, d4, d5, d6] }
  | _ => none }
def SuperCellsWrongFalsely : Prop := superCellsRow.holds Tryd.pinned (OpenSpec.ofChange superCellsWrong)

/-- 'pintlelaw08.SuperTurns': WHATEVER THE INPUT: true; the input reads as it did. -/
def superTurnsSpec : ChangeSpec := { name := "superTurns", fn := fun _ => fun
  | [d] => { results := [.lit (.bool true)], args := [d] }
  | _ => none }
def superTurnsRow : OpenClaim := { program := "ytpfkpaombiikcaadoor", sum := "ed9a06554dfa2376ee74a37eb9935cdeaa5b9b8c5c97d5d8d6006615a8667679", func := "pintle/pintlelaw08.SuperTurns", spec := "superTurns", inPlace := ["internal/abi.NoEscape", "internal/bytealg.MakeNoZero", "internal/bytealg.IndexByteString", "internal/bytealg.IndexString"], unfollowed := true, recurses := true, named := ["unicode/utf8.first", "unicode/utf8.acceptRanges", "internal/bytealg.MaxLen"], apart := false, laid := [("unicode/utf8.acceptRanges", laid_unicode_utf8_acceptRanges), ("unicode/utf8.first", laid_unicode_utf8_first)] }
def SuperTurnsSaid : Prop := superTurnsRow.holds Tryd.pinned (OpenSpec.ofChange superTurnsSpec)

/-- ITS FALSE NEIGHBOUR: 'it returns false'. Refute it at one input. -/
def superTurnsWrong : ChangeSpec := { name := "superTurns", fn := fun _ => fun
  | [d] => { results := [.lit (.bool false)], args := [d] }
  | _ => none }
def SuperTurnsWrongFalsely : Prop := superTurnsRow.holds Tryd.pinned (OpenSpec.ofChange superTurnsWrong)

/-- 'pintlelaw08.SuperNewest': WHATEVER THE INPUT: true; the input reads as it did. -/
def superNewestSpec : ChangeSpec := { name := "superNewest", fn := fun _ => fun
  | [d1, d2, d3, d4, d5] => { results := [.lit (.bool true)], args := [d1, d2, d3, d4, d5] }
  | _ => none }
def superNewestRow : OpenClaim := { program := "ytpfkpaombiikcaadoor", sum := "ed9a06554dfa2376ee74a37eb9935cdeaa5b9b8c5c97d5d8d6006615a8667679", func := "pintle/pintlelaw08.SuperNewest", spec := "superNewest", inPlace := ["internal/abi.NoEscape", "internal/bytealg.MakeNoZero", "internal/bytealg.IndexByteString", "internal/bytealg.IndexString"], unfollowed := true, recurses := true, named := ["unicode/utf8.first", "unicode/utf8.acceptRanges", "internal/bytealg.MaxLen"], apart := false, laid := [("unicode/utf8.acceptRanges", laid_unicode_utf8_acceptRanges), ("unicode/utf8.first", laid_unicode_utf8_first)] }
def SuperNewestSaid : Prop := superNewestRow.holds Tryd.pinned (OpenSpec.ofChange superNewestSpec)

/-- ITS FALSE NEIGHBOUR: 'it returns false'. Refute it at one input. -/
def superNewestWrong : ChangeSpec := { name := "superNewest", fn := fun _ => fun
  | [d1, d2, d3, d4, d5] => { results := [.lit (.bool false)], args := [d1, d2, d3, d4, d5] }
  | _ => none }
def SuperNewestWrongFalsely : Prop := superNewestRow.holds Tryd.pinned (OpenSpec.ofChange superNewestWrong)

/-- 'pintlelaw08.SuperEnds': WHATEVER THE INPUT: true; the input reads as it did. -/
def superEndsSpec : ChangeSpec := { name := "superEnds", fn := fun _ => fun
  | [d1, d2] => { results := [.lit (.bool true)], args := [d1, d2] }
  | _ => none }
def superEndsRow : OpenClaim := { program := "ytpfkpaombiikcaadoor", sum := "ed9a06554dfa2376ee74a37eb9935cdeaa5b9b8c5c97d5d8d6006615a8667679", func := "pintle/pintlelaw08.SuperEnds", spec := "superEnds", inPlace := ["internal/abi.NoEscape", "internal/bytealg.MakeNoZero", "internal/bytealg.IndexByteString", "internal/bytealg.IndexString"], unfollowed := true, recurses := true, named := ["unicode/utf8.first", "unicode/utf8.acceptRanges", "internal/bytealg.MaxLen"], apart := false, laid := [("unicode/utf8.acceptRanges", laid_unicode_utf8_acceptRanges), ("unicode/utf8.first", laid_unicode_utf8_first)] }
def SuperEndsSaid : Prop := superEndsRow.holds Tryd.pinned (OpenSpec.ofChange superEndsSpec)

/-- ITS FALSE NEIGHBOUR: 'it returns false'. Refute it at one input. -/
def superEndsWrong : ChangeSpec := { name := "superEnds", fn := fun _ => fun
  | [d1, d2] => { results := [.lit (.bool false)], args := [d1, d2] }
  | _ => none }
def SuperEndsWrongFalsely : Prop := superEndsRow.holds Tryd.pinned (OpenSpec.ofChange superEndsWrong)

/-- 'pintlelaw08.SuperHolds': WHATEVER THE INPUT: true; the input reads as it did. -/
def superHoldsSpec : ChangeSpec := { name := "superHolds", fn := fun _ => fun
  | [d1, d2, d3] => { results := [.lit (.bool true)], args := [d1, d2, d3] }
  | _ => none }
def superHoldsRow : OpenClaim := { program := "ytpfkpaombiikcaadoor", sum := "ed9a06554dfa2376ee74a37eb9935cdeaa5b9b8c5c97d5d8d6006615a8667679", func := "pintle/pintlelaw08.SuperHolds", spec := "superHolds", inPlace := ["internal/abi.NoEscape", "internal/bytealg.MakeNoZero", "internal/bytealg.IndexByteString", "internal/bytealg.IndexString"], unfollowed := true, recurses := true, named := ["unicode/utf8.first", "unicode/utf8.acceptRanges", "internal/bytealg.MaxLen"], apart := false, laid := [("unicode/utf8.acceptRanges", laid_unicode_utf8_acceptRanges), ("unicode/utf8.first", laid_unicode_utf8_first)] }
def SuperHoldsSaid : Prop := superHoldsRow.holds Tryd.pinned (OpenSpec.ofChange superHoldsSpec)

/-- ITS FALSE NEIGHBOUR: 'it returns false'. Refute it at one input. -/
def superHoldsWrong : ChangeSpec := { name := "superHolds", fn := fun _ => fun
  | [d1, d2, d3] => { results := [.lit (.bool false)], args := [d1, d2, d3] }
  | _ => none }
def SuperHoldsWrongFalsely : Prop := superHoldsRow.holds Tryd.pinned (OpenSpec.ofChange superHoldsWrong)

/-- 'pintlelaw08.SuperPlays': WHATEVER THE INPUT: true; the input reads as it did. -/
def superPlaysSpec : ChangeSpec := { name := "superPlays", fn := fun _ => fun
  | [d] => { results := [.lit (.bool true)], args := [d] }
  | _ => none }
def superPlaysRow : OpenClaim := { program := "ytpfkpaombiikcaadoor", sum := "ed9a06554dfa2376ee74a37eb9935cdeaa5b9b8c5c97d5d8d6006615a8667679", func := "pintle/pintlelaw08.SuperPlays", spec := "superPlays", inPlace := ["internal/abi.NoEscape", "internal/bytealg.MakeNoZero", "internal/bytealg.IndexByteString", "internal/bytealg.IndexString"], unfollowed := true, recurses := true, named := ["unicode/utf8.first", "unicode/utf8.acceptRanges", "internal/bytealg.MaxLen"], apart := false, laid := [("unicode/utf8.acceptRanges", laid_unicode_utf8_acceptRanges), ("unicode/utf8.first", laid_unicode_utf8_first)] }
def SuperPlaysSaid : Prop := superPlaysRow.holds Tryd.pinned (OpenSpec.ofChange superPlaysSpec)

/-- ITS FALSE NEIGHBOUR: 'it returns false'. Refute it at one input. -/
def superPlaysWrong : ChangeSpec := { name := "superPlays", fn := fun _ => fun
  | [d] => { results := [.lit (.bool false)], args := [d] }
  | _ => none }
def SuperPlaysWrongFalsely : Prop := superPlaysRow.holds Tryd.pinned (OpenSpec.ofChange superPlaysWrong)

/-- 'pintlelaw09.SlotsSets': WHATEVER THE INPUT: true; the input reads as it did. -/
def slotsSetsSpec : ChangeSpec := { name := "slotsSets", fn := fun _ => fun
  | [d1, d2, d3, d4, d5] => { results := [.lit (.bool true)], args := [d1, d2, d3, d4, d5] }
  | _ => none }
def slotsSetsRow : OpenClaim := { program := "ytpfkpaombiikcaadoor", sum := "ed9a06554dfa2376ee74a37eb9935cdeaa5b9b8c5c97d5d8d6006615a8667679", func := "pintle/pintlelaw09.SlotsSets", spec := "slotsSets", inPlace := ["internal/abi.NoEscape", "internal/bytealg.IndexByteString", "internal/bytealg.IndexString", "internal/bytealg.MakeNoZero"], unfollowed := true, recurses := true, named := ["unicode/utf8.first", "unicode/utf8.acceptRanges", "internal/bytealg.MaxLen"], apart := false, laid := [("unicode/utf8.acceptRanges", laid_unicode_utf8_acceptRanges), ("unicode/utf8.first", laid_unicode_utf8_first)] }
def SlotsSetsSaid : Prop := slotsSetsRow.holds Tryd.pinned (OpenSpec.ofChange slotsSetsSpec)

/-- ITS FALSE NEIGHBOUR: 'it returns false'. Refute it at one input. -/
def slotsSetsWrong : ChangeSpec := { name := "slotsSets", fn := fun _ => fun
  | [d1, d2, d3, d4, d5] => { results := [.lit (.bool false)], args := [d1, d2, d3, d4, d5] }
  | _ => none }
def SlotsSetsWrongFalsely : Prop := slotsSetsRow.holds Tryd.pinned (OpenSpec.ofChange slotsSetsWrong)

/-- 'pintlelaw09.SlotsApart': WHATEVER THE INPUT: true; the input reads as it did. -/
def slotsApartSpec : ChangeSpec := { name := "slotsApart", fn := fun _ => fun
  | [d1, d2] => { results := [.lit (.bool true)], args := [d1, d2] }
  | _ => none }
def slotsApartRow : OpenClaim := { program := "ytpfkpaombiikcaadoor", sum := "ed9a06554dfa2376ee74a37eb9935cdeaa5b9b8c5c97d5d8d6006615a8667679", func := "pintle/pintlelaw09.SlotsApart", spec := "slotsApart", inPlace := ["internal/abi.NoEscape", "internal/bytealg.IndexByteString", "internal/bytealg.IndexString", "internal/bytealg.MakeNoZero"], unfollowed := true, recurses := true, named := ["unicode/utf8.first", "unicode/utf8.acceptRanges", "internal/bytealg.MaxLen"], apart := false, laid := [("unicode/utf8.acceptRanges", laid_unicode_utf8_acceptRanges), ("unicode/utf8.first", laid_unicode_utf8_first)] }
def SlotsApartSaid : Prop := slotsApartRow.holds Tryd.pinned (OpenSpec.ofChange slotsApartSpec)

/-- ITS FALSE NEIGHBOUR: 'it returns false'. Refute it at one input. -/
def slotsApartWrong : ChangeSpec := { name := "slotsApart", fn := fun _ => fun
  | [d1, d2] => { results := [.lit (.bool false)], args := [d1, d2] }
  | _ => none }
def SlotsApartWrongFalsely : Prop := slotsApartRow.holds Tryd.pinned (OpenSpec.ofChange slotsApartWrong)

/- THE SECOND FORM. 'bulk': how many values and letters a reading holds, each counted each time it is reached (what is shared counts as often as it is met; a slice's spare places count too). A statement '..UptoSaid' is the law's where the arguments, and the package variables that the reading takes, are together of bulk at most 1048576: NARROWER than '..Said'. Prove '..Said' where nothing that the law and all that it calls make is longer than what came in: it says more and counts as full. Else prove '..UptoSaid'. A law counts once. -/
mutual
def uptoBulk {H : Type} : DataW H → Nat
  | .lit (.string bytes) => bytes.length + 1
  | .lit _ => 1
  | .nil => 1
  | .ptr d => uptoBulk d + 1
  | .slice elems spare => uptoBulkAll elems + uptoBulkAll spare + 1
  | .agg parts => uptoBulkAll parts + 1
  | .iface _ d => uptoBulk d + 1
  | .map entries => uptoBulkEntries entries + 1
  | .held _ => 1
def uptoBulkAll {H : Type} : List (DataW H) → Nat
  | [] => 0
  | d :: r => uptoBulk d + uptoBulkAll r
def uptoBulkEntries {H : Type} : List (Lit × DataW H) → Nat
  | [] => 0
  | x :: r => uptoBulkEntry x + uptoBulkEntries r
def uptoBulkEntry {H : Type} : Lit × DataW H → Nat
  | (.string bytes, d) => bytes.length + uptoBulk d + 1
  | (_, d) => uptoBulk d + 1
 end
def uptoSmall : (H : Type) → List (DataW H) → Bool := fun _ ds => decide (uptoBulkAll ds ≤ 1048576)
def OpenSpec.upto (s : _root_.Go.ChangeSpec) : _root_.Go.OpenSpec := { _root_.Go.OpenSpec.ofChange s with cond := some uptoSmall }

/-- 'pintlelaw08.SuperCells', WHERE WHAT IT READS IS OF BULK AT MOST 1048576: true; the input reads as it did. -/
def superCellsUptoRow : OpenClaim := { program := "ytpfkpaombiikcaadoor", sum := "ed9a06554dfa2376ee74a37eb9935cdeaa5b9b8c5c97d5d8d6006615a8667679", func := "pintle/pintlelaw08.SuperCells", spec := "superCells", inPlace := ["internal/abi.NoEscape", "internal/bytealg.MakeNoZero", "internal/bytealg.IndexByteString", "internal/bytealg.IndexString"], unfollowed := true, recurses := true, named := ["unicode/utf8.first", "unicode/utf8.acceptRanges", "internal/bytealg.MaxLen"], apart := false, laid := [("unicode/utf8.acceptRanges", laid_unicode_utf8_acceptRanges), ("unicode/utf8.first", laid_unicode_utf8_first)], narrowed := true }
def SuperCellsUptoSaid : Prop := superCellsUptoRow.holds Tryd.pinned (OpenSpec.upto superCellsSpec)

/-- 'pintlelaw08.SuperTurns', WHERE WHAT IT READS IS OF BULK AT MOST 1048576: true; the input reads as it did. -/
def superTurnsUptoRow : OpenClaim := { program := "ytpfkpaombiikcaadoor", sum := "ed9a06554dfa2376ee74a37eb9935cdeaa5b9b8c5c97d5d8d6006615a8667679", func := "pintle/pintlelaw08.SuperTurns", spec := "superTurns", inPlace := ["internal/abi.NoEscape", "internal/bytealg.MakeNoZero", "internal/bytealg.IndexByteString", "internal/bytealg.IndexString"], unfollowed := true, recurses := true, named := ["unicode/utf8.first", "unicode/utf8.acceptRanges", "internal/bytealg.MaxLen"], apart := false, laid := [("unicode/utf8.acceptRanges", laid_unicode_utf8_acceptRanges), ("unicode/utf8.first", laid_unicode_utf8_first)], narrowed := true }
def SuperTurnsUptoSaid : Prop := superTurnsUptoRow.holds Tryd.pinned (OpenSpec.upto superTurnsSpec)

/-- 'pintlelaw08.SuperNewest', WHERE WHAT IT READS IS OF BULK AT MOST 1048576: true; the input reads as it did. -/
def superNewestUptoRow : OpenClaim := { program := "ytpfkpaombiikcaadoor", sum := "ed9a06554dfa2376ee74a37eb9935cdeaa5b9b8c5c97d5d8d6006615a8667679", func := "pintle/pintlelaw08.SuperNewest", spec := "superNewest", inPlace := ["internal/abi.NoEscape", "internal/bytealg.MakeNoZero", "internal/bytealg.IndexByteString", "internal/bytealg.IndexString"], unfollowed := true, recurses := true, named := ["unicode/utf8.first", "unicode/utf8.acceptRanges", "internal/bytealg.MaxLen"], apart := false, laid := [("unicode/utf8.acceptRanges", laid_unicode_utf8_acceptRanges), ("unicode/utf8.first", laid_unicode_utf8_first)], narrowed := true }
def SuperNewestUptoSaid : Prop := superNewestUptoRow.holds Tryd.pinned (OpenSpec.upto superNewestSpec)

/-- 'pintlelaw08.SuperEnds', WHERE WHAT IT READS IS OF BULK AT MOST 1048576: true; the input reads as it did. -/
def superEndsUptoRow : OpenClaim := { program := "ytpfkpaombiikcaadoor", sum := "ed9a06554dfa2376ee74a37eb9935cdeaa5b9b8c5c97d5d8d6006615a8667679", func := "pintle/pintlelaw08.SuperEnds", spec := "superEnds", inPlace := ["internal/abi.NoEscape", "internal/bytealg.MakeNoZero", "internal/bytealg.IndexByteString", "internal/bytealg.IndexString"], unfollowed := true, recurses := true, named := ["unicode/utf8.first", "unicode/utf8.acceptRanges", "internal/bytealg.MaxLen"], apart := false, laid := [("unicode/utf8.acceptRanges", laid_unicode_utf8_acceptRanges), ("unicode/utf8.first", laid_unicode_utf8_first)], narrowed := true }
def SuperEndsUptoSaid : Prop := superEndsUptoRow.holds Tryd.pinned (OpenSpec.upto superEndsSpec)

/-- 'pintlelaw08.SuperHolds', WHERE WHAT IT READS IS OF BULK AT MOST 1048576: true; the input reads as it did. -/
def superHoldsUptoRow : OpenClaim := { program := "ytpfkpaombiikcaadoor", sum := "ed9a06554dfa2376ee74a37eb9935cdeaa5b9b8c5c97d5d8d6006615a8667679", func := "pintle/pintlelaw08.SuperHolds", spec := "superHolds", inPlace := ["internal/abi.NoEscape", "internal/bytealg.MakeNoZero", "internal/bytealg.IndexByteString", "internal/bytealg.IndexString"], unfollowed := true, recurses := true, named := ["unicode/utf8.first", "unicode/utf8.acceptRanges", "internal/bytealg.MaxLen"], apart := false, laid := [("unicode/utf8.acceptRanges", laid_unicode_utf8_acceptRanges), ("unicode/utf8.first", laid_unicode_utf8_first)], narrowed := true }
def SuperHoldsUptoSaid : Prop := superHoldsUptoRow.holds Tryd.pinned (OpenSpec.upto superHoldsSpec)

/-- 'pintlelaw08.SuperPlays', WHERE WHAT IT READS IS OF BULK AT MOST 1048576: true; the input reads as it did. -/
def superPlaysUptoRow : OpenClaim := { program := "ytpfkpaombiikcaadoor", sum := "ed9a06554dfa2376ee74a37eb9935cdeaa5b9b8c5c97d5d8d6006615a8667679", func := "pintle/pintlelaw08.SuperPlays", spec := "superPlays", inPlace := ["internal/abi.NoEscape", "internal/bytealg.MakeNoZero", "internal/bytealg.IndexByteString", "internal/bytealg.IndexString"], unfollowed := true, recurses := true, named := ["unicode/utf8.first", "unicode/utf8.acceptRanges", "internal/bytealg.MaxLen"], apart := false, laid := [("unicode/utf8.acceptRanges", laid_unicode_utf8_acceptRanges), ("unicode/utf8.first", laid_unicode_utf8_first)], narrowed := true }
def SuperPlaysUptoSaid : Prop := superPlaysUptoRow.holds Tryd.pinned (OpenSpec.upto superPlaysSpec)

/-- 'pintlelaw09.SlotsSets', WHERE WHAT IT READS IS OF BULK AT MOST 1048576: true; the input reads as it did. -/
def slotsSetsUptoRow : OpenClaim := { program := "ytpfkpaombiikcaadoor", sum := "ed9a06554dfa2376ee74a37eb9935cdeaa5b9b8c5c97d5d8d6006615a8667679", func := "pintle/pintlelaw09.SlotsSets", spec := "slotsSets", inPlace := ["internal/abi.NoEscape", "internal/bytealg.IndexByteString", "internal/bytealg.IndexString", "internal/bytealg.MakeNoZero"], unfollowed := true, recurses := true, named := ["unicode/utf8.first", "unicode/utf8.acceptRanges", "internal/bytealg.MaxLen"], apart := false, laid := [("unicode/utf8.acceptRanges", laid_unicode_utf8_acceptRanges), ("unicode/utf8.first", laid_unicode_utf8_first)], narrowed := true }
def SlotsSetsUptoSaid : Prop := slotsSetsUptoRow.holds Tryd.pinned (OpenSpec.upto slotsSetsSpec)

/-- 'pintlelaw09.SlotsApart', WHERE WHAT IT READS IS OF BULK AT MOST 1048576: true; the input reads as it did. -/
def slotsApartUptoRow : OpenClaim := { program := "ytpfkpaombiikcaadoor", sum := "ed9a06554dfa2376ee74a37eb9935cdeaa5b9b8c5c97d5d8d6006615a8667679", func := "pintle/pintlelaw09.SlotsApart", spec := "slotsApart", inPlace := ["internal/abi.NoEscape", "internal/bytealg.IndexByteString", "internal/bytealg.IndexString", "internal/bytealg.MakeNoZero"], unfollowed := true, recurses := true, named := ["unicode/utf8.first", "unicode/utf8.acceptRanges", "internal/bytealg.MaxLen"], apart := false, laid := [("unicode/utf8.acceptRanges", laid_unicode_utf8_acceptRanges), ("unicode/utf8.first", laid_unicode_utf8_first)], narrowed := true }
def SlotsApartUptoSaid : Prop := slotsApartUptoRow.holds Tryd.pinned (OpenSpec.upto slotsApartSpec)

end Rows
end Go.Proofs.YtpfkpaombiikcaaDoor
