/-
  NARROWER THAN 'FOR EVERY INPUT', by the rows' own cells (each row's printed sentence says how): VdiskWrites: laid · VdiskSwaps: laid · VdiskSizes: laid · VdiskClients: laid · VdiskOpens: laid · VdiskOnce: laid · VdiskBack: laid.
  DERIVED. THE GIVEN ROWS OF THIS SEAT. 7 by the template 'for every input the law returns true; each argument reads behind the call as it read before'; 0 by the template 'total and deterministic' (their statements: YtpebpcmppcpkdaaDoorTotals.lean).
  GIVEN WITH THE SEED: the statements are not yours to turn. If you find one false, say at which input.
  Laid BY PROGRAM, IN A SANDBOX (cutbox-rows.mjs): the forced cells as the released guide's own fill.sh prints them over the translation 6fb1a5aa51c8894c… (all of the seat's roots in one cut). By AI agents, Wed Nov 11 2026. No macro, syntax, notation, axiom, sorry.
-/
import Derived.Test.YtpebpcmppcpkdaaDoorChecked
import GoSem.PinnedTables
import GoSem.Claim
import GoSem.ClaimJoined
import GoSem.ClaimMapViews
import Derived.JoinedTies
import Derived.KernelRfl
namespace Go.Proofs.YtpebpcmppcpkdaaDoor
/- THE CELL 'sum', in the pinned program and in every row, IS THE sha256 OF THE DUMP (.gsa) THAT YtpebpcmppcpkdaaDoorProg.lean LOADS. Nothing in Lean hashes anything: it is a label: what it is worth is what the hold of that sum in a sandbox is worth. -/
noncomputable def Tryd.pinned : Pinned := { name := "ytpebpcmppcpkdaadoor", sum := "6fb1a5aa51c8894ce0cfa4f7cc3f0b6e703febb9fe838105364157edcae7f09e", checked := Tryd.checked }
namespace Rows
def none {H : Type} : Left H := { results := [], args := [] }

/- WHAT THE LISTED PACKAGE-LEVEL VARIABLES READ AS WHEN THE CALL BEGINS. Each datum BY PROGRAM (the guide's laid-datum.mjs) off the statement by which the dump's own 'gosem.cut.vars' lays the variable. In a bare row this is a premise. The card (YtpebpcmppcpkdaaDoorCards.lean) ties it to the program's text. -/
def laid_unicode_utf8_acceptRanges {H : Type} : DataW H := .agg [.agg [.lit (.int .u8 128), .lit (.int .u8 191)], .agg [.lit (.int .u8 160), .lit (.int .u8 191)], .agg [.lit (.int .u8 128), .lit (.int .u8 159)], .agg [.lit (.int .u8 144), .lit (.int .u8 191)], .agg [.lit (.int .u8 128), .lit (.int .u8 143)], .agg [.lit (.int .u8 0), .lit (.int .u8 0)], .agg [.lit (.int .u8 0), .lit (.int .u8 0)], .agg [.lit (.int .u8 0), .lit (.int .u8 0)], .agg [.lit (.int .u8 0), .lit (.int .u8 0)], .agg [.lit (.int .u8 0), .lit (.int .u8 0)], .agg [.lit (.int .u8 0), .lit (.int .u8 0)], .agg [.lit (.int .u8 0), .lit (.int .u8 0)], .agg [.lit (.int .u8 0), .lit (.int .u8 0)], .agg [.lit (.int .u8 0), .lit (.int .u8 0)], .agg [.lit (.int .u8 0), .lit (.int .u8 0)], .agg [.lit (.int .u8 0), .lit (.int .u8 0)]]
/-- One of Go's own tables, pinned by name: the form's constant. -/
def laid_unicode_utf8_first : DataW Unit := Go.Pinned.utf8First

/-- 'pintlelaw15.VdiskWrites': WHATEVER THE INPUT: true; the input reads as it did. -/
def vdiskWritesSpec : ChangeSpec := { name := "vdiskWrites", fn := fun _ => fun
  | [d1, d2, d3, d4] => { results := [.lit (.bool true)], args := [d1, d2, d3, d4] }
  | _ => none }
def vdiskWritesRow : OpenClaim := { program := "ytpebpcmppcpkdaadoor", sum := "6fb1a5aa51c8894ce0cfa4f7cc3f0b6e703febb9fe838105364157edcae7f09e", func := "pintle/pintlelaw15.VdiskWrites", spec := "vdiskWrites", inPlace := ["internal/abi.NoEscape", "internal/bytealg.MakeNoZero", "internal/bytealg.IndexByteString", "internal/bytealg.IndexString"], unfollowed := true, recurses := true, named := ["internal/bytealg.MaxLen", "unicode/utf8.first", "unicode/utf8.acceptRanges"], apart := false, laid := [("unicode/utf8.acceptRanges", laid_unicode_utf8_acceptRanges), ("unicode/utf8.first", laid_unicode_utf8_first)] }
def VdiskWritesSaid : Prop := vdiskWritesRow.holds Tryd.pinned (OpenSpec.ofChange vdiskWritesSpec)

/-- ITS FALSE NEIGHBOUR: 'it returns false'. Refute it at one input. -/
def vdiskWritesWrong : ChangeSpec := { name := "vdiskWrites", fn := fun _ => fun
  | [d1, d2, d3, d4] => { results := [.lit (.bool false)], args := [d1, d2, d3, d4] }
  | _ => none }
def VdiskWritesWrongFalsely : Prop := vdiskWritesRow.holds Tryd.pinned (OpenSpec.ofChange vdiskWritesWrong)

/-- 'pintlelaw15.VdiskSwaps': WHATEVER THE INPUT: true; the input reads as it did. -/
def vdiskSwapsSpec : ChangeSpec := { name := "vdiskSwaps", fn := fun _ => fun
  | [d1, d2, d3] => { results := [.lit (.bool true)], args := [d1, d2, d3] }
  | _ => none }
def vdiskSwapsRow : OpenClaim := { program := "ytpebpcmppcpkdaadoor", sum := "6fb1a5aa51c8894ce0cfa4f7cc3f0b6e703febb9fe838105364157edcae7f09e", func := "pintle/pintlelaw15.VdiskSwaps", spec := "vdiskSwaps", inPlace := ["internal/abi.NoEscape", "internal/bytealg.MakeNoZero", "internal/bytealg.IndexByteString", "internal/bytealg.IndexString"], unfollowed := true, recurses := true, named := ["internal/bytealg.MaxLen", "unicode/utf8.first", "unicode/utf8.acceptRanges"], apart := false, laid := [("unicode/utf8.acceptRanges", laid_unicode_utf8_acceptRanges), ("unicode/utf8.first", laid_unicode_utf8_first)] }
def VdiskSwapsSaid : Prop := vdiskSwapsRow.holds Tryd.pinned (OpenSpec.ofChange vdiskSwapsSpec)

/-- ITS FALSE NEIGHBOUR: 'it returns false'. Refute it at one input. -/
def vdiskSwapsWrong : ChangeSpec := { name := "vdiskSwaps", fn := fun _ => fun
  | [d1, d2, d3] => { results := [.lit (.bool false)], args := [d1, d2, d3] }
  | _ => none }
def VdiskSwapsWrongFalsely : Prop := vdiskSwapsRow.holds Tryd.pinned (OpenSpec.ofChange vdiskSwapsWrong)

/-- 'pintlelaw15.VdiskSizes': WHATEVER THE INPUT: true; the input reads as it did. -/
def vdiskSizesSpec : ChangeSpec := { name := "vdiskSizes", fn := fun _ => fun
  | [d1, d2, d3, d4] => { results := [.lit (.bool true)], args := [d1, d2, d3, d4] }
  | _ => none }
def vdiskSizesRow : OpenClaim := { program := "ytpebpcmppcpkdaadoor", sum := "6fb1a5aa51c8894ce0cfa4f7cc3f0b6e703febb9fe838105364157edcae7f09e", func := "pintle/pintlelaw15.VdiskSizes", spec := "vdiskSizes", inPlace := ["internal/abi.NoEscape", "internal/bytealg.MakeNoZero", "internal/bytealg.IndexByteString", "internal/bytealg.IndexString"], unfollowed := true, recurses := true, named := ["internal/bytealg.MaxLen", "unicode/utf8.first", "unicode/utf8.acceptRanges"], apart := false, laid := [("unicode/utf8.acceptRanges", laid_unicode_utf8_acceptRanges), ("unicode/utf8.first", laid_unicode_utf8_first)] }
def VdiskSizesSaid : Prop := vdiskSizesRow.holds Tryd.pinned (OpenSpec.ofChange vdiskSizesSpec)

/-- ITS FALSE NEIGHBOUR: 'it returns false'. Refute it at one input. -/
def vdiskSizesWrong : ChangeSpec := { name := "vdiskSizes", fn := fun _ => fun
  | [d1, d2, d3, d4] => { results := [.lit (.bool false)], args := [d1, d2, d3, d4] }
  | _ => none }
def VdiskSizesWrongFalsely : Prop := vdiskSizesRow.holds Tryd.pinned (OpenSpec.ofChange vdiskSizesWrong)

/-- 'pintlelaw15.VdiskClients': WHATEVER THE INPUT: true; the input reads as it did. -/
def vdiskClientsSpec : ChangeSpec := { name := "vdiskClients", fn := fun _ => fun
  | [d] => { results := [.lit (.bool true)], args := [d] }
  | _ => none }
def vdiskClientsRow : OpenClaim := { program := "ytpebpcmppcpkdaadoor", sum := "6fb1a5aa51c8894ce0cfa4f7cc3f0b6e703febb9fe838105364157edcae7f09e", func := "pintle/pintlelaw15.VdiskClients", spec := "vdiskClients", inPlace := ["internal/abi.NoEscape", "internal/bytealg.MakeNoZero", "internal/bytealg.IndexByteString", "internal/bytealg.IndexString"], unfollowed := true, recurses := true, named := ["internal/bytealg.MaxLen", "unicode/utf8.first", "unicode/utf8.acceptRanges"], apart := false, laid := [("unicode/utf8.acceptRanges", laid_unicode_utf8_acceptRanges), ("unicode/utf8.first", laid_unicode_utf8_first)] }
def VdiskClientsSaid : Prop := vdiskClientsRow.holds Tryd.pinned (OpenSpec.ofChange vdiskClientsSpec)

/-- ITS FALSE NEIGHBOUR: 'it returns false'. Refute it at one input. -/
def vdiskClientsWrong : ChangeSpec := { name := "vdiskClients", fn := fun _ => fun
  | [d] => { results := [.lit (.bool false)], args := [d] }
  | _ => none }
def VdiskClientsWrongFalsely : Prop := vdiskClientsRow.holds Tryd.pinned (OpenSpec.ofChange vdiskClientsWrong)

/-- 'pintlelaw15.VdiskOpens': WHATEVER THE INPUT: true; the input reads as it did. -/
def vdiskOpensSpec : ChangeSpec := { name := "vdiskOpens", fn := fun _ => fun
  | [d] => { results := [.lit (.bool true)], args := [d] }
  | _ => none }
def vdiskOpensRow : OpenClaim := { program := "ytpebpcmppcpkdaadoor", sum := "6fb1a5aa51c8894ce0cfa4f7cc3f0b6e703febb9fe838105364157edcae7f09e", func := "pintle/pintlelaw15.VdiskOpens", spec := "vdiskOpens", inPlace := ["internal/abi.NoEscape", "internal/bytealg.MakeNoZero", "internal/bytealg.IndexByteString", "internal/bytealg.IndexString"], unfollowed := true, recurses := true, named := ["internal/bytealg.MaxLen", "unicode/utf8.first", "unicode/utf8.acceptRanges"], apart := false, laid := [("unicode/utf8.acceptRanges", laid_unicode_utf8_acceptRanges), ("unicode/utf8.first", laid_unicode_utf8_first)] }
def VdiskOpensSaid : Prop := vdiskOpensRow.holds Tryd.pinned (OpenSpec.ofChange vdiskOpensSpec)

/-- ITS FALSE NEIGHBOUR: 'it returns false'. Refute it at one input. -/
def vdiskOpensWrong : ChangeSpec := { name := "vdiskOpens", fn := fun _ => fun
  | [d] => { results := [.lit (.bool false)], args := [d] }
  | _ => none }
def VdiskOpensWrongFalsely : Prop := vdiskOpensRow.holds Tryd.pinned (OpenSpec.ofChange vdiskOpensWrong)

/-- 'pintlelaw15.VdiskOnce': WHATEVER THE INPUT: true; the input reads as it did. -/
def vdiskOnceSpec : ChangeSpec := { name := "vdiskOnce", fn := fun _ => fun
  | [d1, d2, d3] => { results := [.lit (.bool true)], args := [d1, d2, d3] }
  | _ => none }
def vdiskOnceRow : OpenClaim := { program := "ytpebpcmppcpkdaadoor", sum := "6fb1a5aa51c8894ce0cfa4f7cc3f0b6e703febb9fe838105364157edcae7f09e", func := "pintle/pintlelaw15.VdiskOnce", spec := "vdiskOnce", inPlace := ["internal/abi.NoEscape", "internal/bytealg.MakeNoZero", "internal/bytealg.IndexByteString", "internal/bytealg.IndexString"], unfollowed := true, recurses := true, named := ["internal/bytealg.MaxLen", "unicode/utf8.first", "unicode/utf8.acceptRanges"], apart := false, laid := [("unicode/utf8.acceptRanges", laid_unicode_utf8_acceptRanges), ("unicode/utf8.first", laid_unicode_utf8_first)] }
def VdiskOnceSaid : Prop := vdiskOnceRow.holds Tryd.pinned (OpenSpec.ofChange vdiskOnceSpec)

/-- ITS FALSE NEIGHBOUR: 'it returns false'. Refute it at one input. -/
def vdiskOnceWrong : ChangeSpec := { name := "vdiskOnce", fn := fun _ => fun
  | [d1, d2, d3] => { results := [.lit (.bool false)], args := [d1, d2, d3] }
  | _ => none }
def VdiskOnceWrongFalsely : Prop := vdiskOnceRow.holds Tryd.pinned (OpenSpec.ofChange vdiskOnceWrong)

/-- 'pintlelaw15.VdiskBack': WHATEVER THE INPUT: true; the input reads as it did. -/
def vdiskBackSpec : ChangeSpec := { name := "vdiskBack", fn := fun _ => fun
  | [d1, d2] => { results := [.lit (.bool true)], args := [d1, d2] }
  | _ => none }
def vdiskBackRow : OpenClaim := { program := "ytpebpcmppcpkdaadoor", sum := "6fb1a5aa51c8894ce0cfa4f7cc3f0b6e703febb9fe838105364157edcae7f09e", func := "pintle/pintlelaw15.VdiskBack", spec := "vdiskBack", inPlace := ["internal/abi.NoEscape", "internal/bytealg.MakeNoZero", "internal/bytealg.IndexByteString", "internal/bytealg.IndexString"], unfollowed := true, recurses := true, named := ["internal/bytealg.MaxLen", "unicode/utf8.first", "unicode/utf8.acceptRanges"], apart := false, laid := [("unicode/utf8.acceptRanges", laid_unicode_utf8_acceptRanges), ("unicode/utf8.first", laid_unicode_utf8_first)] }
def VdiskBackSaid : Prop := vdiskBackRow.holds Tryd.pinned (OpenSpec.ofChange vdiskBackSpec)

/-- ITS FALSE NEIGHBOUR: 'it returns false'. Refute it at one input. -/
def vdiskBackWrong : ChangeSpec := { name := "vdiskBack", fn := fun _ => fun
  | [d1, d2] => { results := [.lit (.bool false)], args := [d1, d2] }
  | _ => none }
def VdiskBackWrongFalsely : Prop := vdiskBackRow.holds Tryd.pinned (OpenSpec.ofChange vdiskBackWrong)

/- THE SECOND FORM. 'bulk': how many values and letters a reading holds, each counted each time it is reached (what is shared counts as often as it is met; a slice's spare places count too). A statement '..UptoSaid' is the law's where the arguments, and the package variables that the reading takes, are together of bulk at most 1048576: NARROWER than '..Said'. Prove '..Said' where nothing that the law and all that it calls make is longer than what came in: it says more and counts as full. Else prove '..UptoSaid'. A law counts once. -/
mutual
def uptoBulk {H : Type} : DataW H → Nat
  | .lit (.string bytes) => bytes.length + 1
  | .lit _ => 1
  | .nil => 1
  | .ptr d => uptoBulk d + 1
  | .slice elems spare => uptoBulkAll elems + uptoBulkAll spare + 1
  | .agg parts => uptoBulkAll parts + 1
  | .iface _ d => uptoBulk d + 1
  | .map entries => uptoBulkEntries entries + 1
  | .held _ => 1
def uptoBulkAll {H : Type} : List (DataW H) → Nat
  | [] => 0
  | d :: r => uptoBulk d + uptoBulkAll r
def uptoBulkEntries {H : Type} : List (Lit × DataW H) → Nat
  | [] => 0
  | x :: r => uptoBulkEntry x + uptoBulkEntries r
def uptoBulkEntry {H : Type} : Lit × DataW H → Nat
  | (.string bytes, d) => bytes.length + uptoBulk d + 1
  | (_, d) => uptoBulk d + 1
 end
def uptoSmall : (H : Type) → List (DataW H) → Bool := fun _ ds => decide (uptoBulkAll ds ≤ 1048576)
def OpenSpec.upto (s : _root_.Go.ChangeSpec) : _root_.Go.OpenSpec := { _root_.Go.OpenSpec.ofChange s with cond := some uptoSmall }

/-- 'pintlelaw15.VdiskWrites', WHERE WHAT IT READS IS OF BULK AT MOST 1048576: true; the input reads as it did. -/
def vdiskWritesUptoRow : OpenClaim := { program := "ytpebpcmppcpkdaadoor", sum := "6fb1a5aa51c8894ce0cfa4f7cc3f0b6e703febb9fe838105364157edcae7f09e", func := "pintle/pintlelaw15.VdiskWrites", spec := "vdiskWrites", inPlace := ["internal/abi.NoEscape", "internal/bytealg.MakeNoZero", "internal/bytealg.IndexByteString", "internal/bytealg.IndexString"], unfollowed := true, recurses := true, named := ["internal/bytealg.MaxLen", "unicode/utf8.first", "unicode/utf8.acceptRanges"], apart := false, laid := [("unicode/utf8.acceptRanges", laid_unicode_utf8_acceptRanges), ("unicode/utf8.first", laid_unicode_utf8_first)], narrowed := true }
def VdiskWritesUptoSaid : Prop := vdiskWritesUptoRow.holds Tryd.pinned (OpenSpec.upto vdiskWritesSpec)

/-- 'pintlelaw15.VdiskSwaps', WHERE WHAT IT READS IS OF BULK AT MOST 1048576: true; the input reads as it did. -/
def vdiskSwapsUptoRow : OpenClaim := { program := "ytpebpcmppcpkdaadoor", sum := "6fb1a5aa51c8894ce0cfa4f7cc3f0b6e703febb9fe838105364157edcae7f09e", func := "pintle/pintlelaw15.VdiskSwaps", spec := "vdiskSwaps", inPlace := ["internal/abi.NoEscape", "internal/bytealg.MakeNoZero", "internal/bytealg.IndexByteString", "internal/bytealg.IndexString"], unfollowed := true, recurses := true, named := ["internal/bytealg.MaxLen", "unicode/utf8.first", "unicode/utf8.acceptRanges"], apart := false, laid := [("unicode/utf8.acceptRanges", laid_unicode_utf8_acceptRanges), ("unicode/utf8.first", laid_unicode_utf8_first)], narrowed := true }
def VdiskSwapsUptoSaid : Prop := vdiskSwapsUptoRow.holds Tryd.pinned (OpenSpec.upto vdiskSwapsSpec)

/-- 'pintlelaw15.VdiskSizes', WHERE WHAT IT READS IS OF BULK AT MOST 1048576: true; the input reads as it did. -/
def vdiskSizesUptoRow : OpenClaim := { program := "ytpebpcmppcpkdaadoor", sum := "6fb1a5aa51c8894ce0cfa4f7cc3f0b6e703febb9fe838105364157edcae7f09e", func := "pintle/pintlelaw15.VdiskSizes", spec := "vdiskSizes", inPlace := ["internal/abi.NoEscape", "internal/bytealg.MakeNoZero", "internal/bytealg.IndexByteString", "internal/bytealg.IndexString"], unfollowed := true, recurses := true, named := ["internal/bytealg.MaxLen", "unicode/utf8.first", "unicode/utf8.acceptRanges"], apart := false, laid := [("unicode/utf8.acceptRanges", laid_unicode_utf8_acceptRanges), ("unicode/utf8.first", laid_unicode_utf8_first)], narrowed := true }
def VdiskSizesUptoSaid : Prop := vdiskSizesUptoRow.holds Tryd.pinned (OpenSpec.upto vdiskSizesSpec)

/-- 'pintlelaw15.VdiskClients', WHERE WHAT IT READS IS OF BULK AT MOST 1048576: true; the input reads as it did. -/
def vdiskClientsUptoRow : OpenClaim := { program := "ytpebpcmppcpkdaadoor", sum := "6fb1a5aa51c8894ce0cfa4f7cc3f0b6e703febb9fe838105364157edcae7f09e", func := "pintle/pintlelaw15.VdiskClients", spec := "vdiskClients", inPlace := ["internal/abi.NoEscape", "internal/bytealg.MakeNoZero", "internal/bytealg.IndexByteString", "internal/bytealg.IndexString"], unfollowed := true, recurses := true, named := ["internal/bytealg.MaxLen", "unicode/utf8.first", "unicode/utf8.acceptRanges"], apart := false, laid := [("unicode/utf8.acceptRanges", laid_unicode_utf8_acceptRanges), ("unicode/utf8.first", laid_unicode_utf8_first)], narrowed := true }
def VdiskClientsUptoSaid : Prop := vdiskClientsUptoRow.holds Tryd.pinned (OpenSpec.upto vdiskClientsSpec)

/-- 'pintlelaw15.VdiskOpens', WHERE WHAT IT READS IS OF BULK AT MOST 1048576: true; the input reads as it did. -/
def vdiskOpensUptoRow : OpenClaim := { program := "ytpebpcmppcpkdaadoor", sum := "6fb1a5aa51c8894ce0cfa4f7cc3f0b6e703febb9fe838105364157edcae7f09e", func := "pintle/pintlelaw15.VdiskOpens", spec := "vdiskOpens", inPlace := ["internal/abi.NoEscape", "internal/bytealg.MakeNoZero", "internal/bytealg.IndexByteString", "internal/bytealg.IndexString"], unfollowed := true, recurses := true, named := ["internal/bytealg.MaxLen", "unicode/utf8.first", "unicode/utf8.acceptRanges"], apart := false, laid := [("unicode/utf8.acceptRanges", laid_unicode_utf8_acceptRanges), ("unicode/utf8.first", laid_unicode_utf8_first)], narrowed := true }
def VdiskOpensUptoSaid : Prop := vdiskOpensUptoRow.holds Tryd.pinned (OpenSpec.upto vdiskOpensSpec)

/-- 'pintlelaw15.VdiskOnce', WHERE WHAT IT READS IS OF BULK AT MOST 1048576: true; the input reads as it did. -/
def vdiskOnceUptoRow : OpenClaim := { program := "ytpebpcmppcpkdaadoor", sum := "6fb1a5aa51c8894ce0cfa4f7cc3f0b6e703febb9fe838105364157edcae7f09e", func := "pintle/pintlelaw15.VdiskOnce", spec := "vdiskOnce", inPlace := ["internal/abi.NoEscape", "internal/bytealg.MakeNoZero", "internal/bytealg.IndexByteString", "internal/bytealg.IndexString"], unfollowed := true, recurses := true, named := ["internal/bytealg.MaxLen", "unicode/utf8.first", "unicode/utf8.acceptRanges"], apart := false, laid := [("unicode/utf8.acceptRanges", laid_unicode_utf8_acceptRanges), ("unicode/utf8.first", laid_unicode_utf8_first)], narrowed := true }
def VdiskOnceUptoSaid : Prop := vdiskOnceUptoRow.holds Tryd.pinned (OpenSpec.upto vdiskOnceSpec)

/-- 'pintlelaw15.VdiskBack', WHERE WHAT IT READS IS OF BULK AT MOST 1048576: true; the input reads as it did. -/
def vdiskBackUptoRow : OpenClaim := { program := "ytpebpcmppcpkdaadoor", sum := "6fb1a5aa51c8894ce0cfa4f7cc3f0b6e703febb9fe838105364157edcae7f09e", func := "pintle/pintlelaw15.VdiskBack", spec := "vdiskBack", inPlace := ["internal/abi.NoEscape", "internal/bytealg.MakeNoZero", "internal/bytealg.IndexByteString", "internal/bytealg.IndexString"], unfollowed := true, recurses := true, named := ["internal/bytealg.MaxLen", "unicode/utf8.first", "unicode/utf8.acceptRanges"], apart := false, laid := [("unicode/utf8.acceptRanges", laid_unicode_utf8_acceptRanges), ("unicode/utf8.first", laid_unicode_utf8_first)], narrowed := true }
def VdiskBackUptoSaid : Prop := vdiskBackUptoRow.holds Tryd.pinned (OpenSpec.upto vdiskBackSpec)

end Rows
end Go.Proofs.YtpebpcmppcpkdaaDoor
