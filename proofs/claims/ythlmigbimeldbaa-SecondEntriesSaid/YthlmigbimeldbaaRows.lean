/-
  No cell of these rows narrows 'for every input' (looked for: loops, veiled, ifaces, maps, wideKeys, modest, calm, conditions, laid).
  DERIVED. THE GIVEN ROWS OF THIS SEAT. 12 by the template 'for every input the law returns true; each argument reads behind the call as it read before'; 0 by the template 'total and deterministic' (their statements: YthlmigbimeldbaaTotals.lean).
  GIVEN WITH THE SEED: the statements are not yours to turn. If you find one false, say at which input.
  Laid BY PROGRAM, IN A SANDBOX (cutbox-rows.mjs): the forced cells as the released guide's own fill.sh prints them over the translation 9b2208e7066a4f7a… (all of the seat's roots in one cut). By AI agents, Wed Nov 11 2026. No macro, syntax, notation, axiom, sorry.
-/
import Derived.Test.YthlmigbimeldbaaChecked
import GoSem.Claim
import GoSem.ClaimJoined
import GoSem.ClaimMapViews
import Derived.JoinedTies
import Derived.KernelRfl
namespace Go.Proofs.Ythlmigbimeldbaa
/- THE CELL 'sum', in the pinned program and in every row, IS THE sha256 OF THE DUMP (.gsa) THAT YthlmigbimeldbaaProg.lean LOADS. Nothing in Lean hashes anything: it is a label: what it is worth is what the hold of that sum in a sandbox is worth. -/
noncomputable def Try.pinned : Pinned := { name := "ythlmigbimeldbaa", sum := "9b2208e7066a4f7a3ca5646ddca7b08d1c36d06d3b18fecf82418425507f4f16", checked := Try.checked }
namespace Rows
def none {H : Type} : Left H := { results := [], args := [] }

/-- 'pintlelaw16.RlogTakes': WHATEVER THE INPUT: true; the input reads as it did. -/
def rlogTakesSpec : ChangeSpec := { name := "rlogTakes", fn := fun _ => fun
  | [d1, d2, d3, d4, d5, d6, d7, d8] => { results := [.lit (.bool true)], args := [d1, d2, d3, d4, d5, d6, d7, d8] }
  | _ => none }
def rlogTakesRow : OpenClaim := { program := "ythlmigbimeldbaa", sum := "9b2208e7066a4f7a3ca5646ddca7b08d1c36d06d3b18fecf82418425507f4f16", func := "pintle/pintlelaw16.RlogTakes", spec := "rlogTakes", inPlace := ["internal/bytealg.IndexByteString", "internal/bytealg.IndexString"], unfollowed := true, recurses := true, named := ["internal/bytealg.MaxLen"], apart := false }
def RlogTakesSaid : Prop := rlogTakesRow.holds Try.pinned (OpenSpec.ofChange rlogTakesSpec)

/-- ITS FALSE NEIGHBOUR: 'it returns false'. Refute it at one input. -/
def rlogTakesWrong : ChangeSpec := { name := "rlogTakes", fn := fun _ => fun
  | [d1, d2, d3, d4, d5, d6, d7, d8] => { results := [.lit (.bool false)], args := [d1, d2, d3, d4, d5, d6, d7, d8] }
  | _ => none }
def RlogTakesWrongFalsely : Prop := rlogTakesRow.holds Try.pinned (OpenSpec.ofChange rlogTakesWrong)

/-- 'pintlelaw16.RlogTaken': WHATEVER THE INPUT: true; the input reads as it did. -/
def rlogTakenSpec : ChangeSpec := { name := "rlogTaken", fn := fun _ => fun
  | [d1, d2, d3, d4, d5] => { results := [.lit (.bool true)], args := [d1, d2, d3, d4, d5] }
  | _ => none }
def rlogTakenRow : OpenClaim := { program := "ythlmigbimeldbaa", sum := "9b2208e7066a4f7a3ca5646ddca7b08d1c36d06d3b18fecf82418425507f4f16", func := "pintle/pintlelaw16.RlogTaken", spec := "rlogTaken", inPlace := ["internal/bytealg.IndexByteString", "internal/bytealg.IndexString"], unfollowed := true, recurses := true, named := ["internal/bytealg.MaxLen"], apart := false }
def RlogTakenSaid : Prop := rlogTakenRow.holds Try.pinned (OpenSpec.ofChange rlogTakenSpec)

/-- ITS FALSE NEIGHBOUR: 'it returns false'. Refute it at one input. -/
def rlogTakenWrong : ChangeSpec := { name := "rlogTaken", fn := fun _ => fun
  | [d1, d2, d3, d4, d5] => { results := [.lit (.bool false)], args := [d1, d2, d3, d4, d5] }
  | _ => none }
def RlogTakenWrongFalsely : Prop := rlogTakenRow.holds Try.pinned (OpenSpec.ofChange rlogTakenWrong)

/-- 'pintlelaw16.RlogNewer': WHATEVER THE INPUT: true; the input reads as it did. -/
def rlogNewerSpec : ChangeSpec := { name := "rlogNewer", fn := fun _ => fun
  | [d1, d2, d3, d4] => { results := [.lit (.bool true)], args := [d1, d2, d3, d4] }
  | _ => none }
def rlogNewerRow : OpenClaim := { program := "ythlmigbimeldbaa", sum := "9b2208e7066a4f7a3ca5646ddca7b08d1c36d06d3b18fecf82418425507f4f16", func := "pintle/pintlelaw16.RlogNewer", spec := "rlogNewer", inPlace := ["internal/bytealg.IndexByteString", "internal/bytealg.IndexString"], unfollowed := true, recurses := true, named := ["internal/bytealg.MaxLen"], apart := false }
def RlogNewerSaid : Prop := rlogNewerRow.holds Try.pinned (OpenSpec.ofChange rlogNewerSpec)

/-- ITS FALSE NEIGHBOUR: 'it returns false'. Refute it at one input. -/
def rlogNewerWrong : ChangeSpec := { name := "rlogNewer", fn := fun _ => fun
  | [d1, d2, d3, d4] => { results := [.lit (.bool false)], args := [d1, d2, d3, d4] }
  | _ => none }
def RlogNewerWrongFalsely : Prop := rlogNewerRow.holds Try.pinned (OpenSpec.ofChange rlogNewerWrong)

/-- 'pintlelaw16.RlogHints': WHATEVER THE INPUT: true; the input reads as it did. -/
def rlogHintsSpec : ChangeSpec := { name := "rlogHints", fn := fun _ => fun
  | [d1, d2, d3, d4] => { results := [.lit (.bool true)], args := [d1, d2, d3, d4] }
  | _ => none }
def rlogHintsRow : OpenClaim := { program := "ythlmigbimeldbaa", sum := "9b2208e7066a4f7a3ca5646ddca7b08d1c36d06d3b18fecf82418425507f4f16", func := "pintle/pintlelaw16.RlogHints", spec := "rlogHints", inPlace := ["internal/bytealg.IndexByteString", "internal/bytealg.IndexString"], unfollowed := true, recurses := true, named := ["internal/bytealg.MaxLen"], apart := false }
def RlogHintsSaid : Prop := rlogHintsRow.holds Try.pinned (OpenSpec.ofChange rlogHintsSpec)

/-- ITS FALSE NEIGHBOUR: 'it returns false'. Refute it at one input. -/
def rlogHintsWrong : ChangeSpec := { name := "rlogHints", fn := fun _ => fun
  | [d1, d2, d3, d4] => { results := [.lit (.bool false)], args := [d1, d2, d3, d4] }
  | _ => none }
def RlogHintsWrongFalsely : Prop := rlogHintsRow.holds Try.pinned (OpenSpec.ofChange rlogHintsWrong)

/-- 'pintlelaw16.RlogAgree': WHATEVER THE INPUT: true; the input reads as it did. -/
def rlogAgreeSpec : ChangeSpec := { name := "rlogAgree", fn := fun _ => fun
  | [d1, d2, d3, d4, d5] => { results := [.lit (.bool true)], args := [d1, d2, d3, d4, d5] }
  | _ => none }
def rlogAgreeRow : OpenClaim := { program := "ythlmigbimeldbaa", sum := "9b2208e7066a4f7a3ca5646ddca7b08d1c36d06d3b18fecf82418425507f4f16", func := "pintle/pintlelaw16.RlogAgree", spec := "rlogAgree", inPlace := ["internal/bytealg.IndexByteString", "internal/bytealg.IndexString"], unfollowed := true, recurses := true, named := ["internal/bytealg.MaxLen"], apart := false }
def RlogAgreeSaid : Prop := rlogAgreeRow.holds Try.pinned (OpenSpec.ofChange rlogAgreeSpec)

/-- ITS FALSE NEIGHBOUR: 'it returns false'. Refute it at one input. -/
def rlogAgreeWrong : ChangeSpec := { name := "rlogAgree", fn := fun _ => fun
  | [d1, d2, d3, d4, d5] => { results := [.lit (.bool false)], args := [d1, d2, d3, d4, d5] }
  | _ => none }
def RlogAgreeWrongFalsely : Prop := rlogAgreeRow.holds Try.pinned (OpenSpec.ofChange rlogAgreeWrong)

/-- 'pintlelaw16.RlogParts': WHATEVER THE INPUT: true; the input reads as it did. -/
def rlogPartsSpec : ChangeSpec := { name := "rlogParts", fn := fun _ => fun
  | [d1, d2, d3, d4, d5] => { results := [.lit (.bool true)], args := [d1, d2, d3, d4, d5] }
  | _ => none }
def rlogPartsRow : OpenClaim := { program := "ythlmigbimeldbaa", sum := "9b2208e7066a4f7a3ca5646ddca7b08d1c36d06d3b18fecf82418425507f4f16", func := "pintle/pintlelaw16.RlogParts", spec := "rlogParts", inPlace := ["internal/bytealg.IndexByteString", "internal/bytealg.IndexString"], unfollowed := true, recurses := true, named := ["internal/bytealg.MaxLen"], apart := false }
def RlogPartsSaid : Prop := rlogPartsRow.holds Try.pinned (OpenSpec.ofChange rlogPartsSpec)

/-- ITS FALSE NEIGHBOUR: 'it returns false'. Refute it at one input. -/
def rlogPartsWrong : ChangeSpec := { name := "rlogParts", fn := fun _ => fun
  | [d1, d2, d3, d4, d5] => { results := [.lit (.bool false)], args := [d1, d2, d3, d4, d5] }
  | _ => none }
def RlogPartsWrongFalsely : Prop := rlogPartsRow.holds Try.pinned (OpenSpec.ofChange rlogPartsWrong)

/-- 'pintlelaw16.RlogDrops': WHATEVER THE INPUT: true; the input reads as it did. -/
def rlogDropsSpec : ChangeSpec := { name := "rlogDrops", fn := fun _ => fun
  | [d1, d2, d3, d4, d5] => { results := [.lit (.bool true)], args := [d1, d2, d3, d4, d5] }
  | _ => none }
def rlogDropsRow : OpenClaim := { program := "ythlmigbimeldbaa", sum := "9b2208e7066a4f7a3ca5646ddca7b08d1c36d06d3b18fecf82418425507f4f16", func := "pintle/pintlelaw16.RlogDrops", spec := "rlogDrops", inPlace := ["internal/bytealg.IndexByteString", "internal/bytealg.IndexString"], unfollowed := true, recurses := true, named := ["internal/bytealg.MaxLen"], apart := false }
def RlogDropsSaid : Prop := rlogDropsRow.holds Try.pinned (OpenSpec.ofChange rlogDropsSpec)

/-- ITS FALSE NEIGHBOUR: 'it returns false'. Refute it at one input. -/
def rlogDropsWrong : ChangeSpec := { name := "rlogDrops", fn := fun _ => fun
  | [d1, d2, d3, d4, d5] => { results := [.lit (.bool false)], args := [d1, d2, d3, d4, d5] }
  | _ => none }
def RlogDropsWrongFalsely : Prop := rlogDropsRow.holds Try.pinned (OpenSpec.ofChange rlogDropsWrong)

/-- 'pintlelaw06.SecondEntries': WHATEVER THE INPUT: true; the input reads as it did. -/
def secondEntriesSpec : ChangeSpec := { name := "secondEntries", fn := fun _ => fun
  | [d1, d2, d3, d4, d5, d6] => { results := [.lit (.bool true)], args := [d1, d2, d3, d4, d5, d6] }
  | _ => none }
def secondEntriesRow : OpenClaim := { program := "ythlmigbimeldbaa", sum := "9b2208e7066a4f7a3ca5646ddca7b08d1c36d06d3b18fecf82418425507f4f16", func := "pintle/pintlelaw06.SecondEntries", spec := "secondEntries", inPlace := ["internal/bytealg.IndexByteString", "internal/bytealg.IndexString", "internal/abi.NoEscape"], unfollowed := true, recurses := true, named := ["internal/bytealg.MaxLen"], apart := false }
def SecondEntriesSaid : Prop := secondEntriesRow.holds Try.pinned (OpenSpec.ofChange secondEntriesSpec)

/-- ITS FALSE NEIGHBOUR: 'it returns false'. Refute it at one input. -/
def secondEntriesWrong : ChangeSpec := { name := "secondEntries", fn := fun _ => fun
  | [d1, d2, d3, d4, d5, d6] => { results := [.lit (.bool false)], args := [d1, d2, d3, d4, d5, d6] }
  | _ => none }
def SecondEntriesWrongFalsely : Prop := secondEntriesRow.holds Try.pinned (OpenSpec.ofChange secondEntriesWrong)

/-- 'pintlelaw06.SecondTags': WHATEVER THE INPUT: true; the input reads as it did. -/
def secondTagsSpec : ChangeSpec := { name := "secondTags", fn := fun _ => fun
  | [d1, d2, d3] => { results := [.lit (.bool true)], args := [d1, d2, d3] }
  | _ => none }
def secondTagsRow : OpenClaim := { program := "ythlmigbimeldbaa", sum := "9b2208e7066a4f7a3ca5646ddca7b08d1c36d06d3b18fecf82418425507f4f16", func := "pintle/pintlelaw06.SecondTags", spec := "secondTags", inPlace := ["internal/bytealg.IndexByteString", "internal/bytealg.IndexString", "internal/abi.NoEscape"], unfollowed := true, recurses := true, named := ["internal/bytealg.MaxLen"], apart := false }
def SecondTagsSaid : Prop := secondTagsRow.holds Try.pinned (OpenSpec.ofChange secondTagsSpec)

/-- ITS FALSE NEIGHBOUR: 'it returns false'. Refute it at one input. -/
def secondTagsWrong : ChangeSpec := { name := "secondTags", fn := fun _ => fun
  | [d1, d2, d3] => { results := [.lit (.bool false)], args := [d1, d2, d3] }
  | _ => none }
def SecondTagsWrongFalsely : Prop := secondTagsRow.holds Try.pinned (OpenSpec.ofChange secondTagsWrong)

/-- 'pintlelaw06.SecondOnce': WHATEVER THE INPUT: true; the input reads as it did. -/
def secondOnceSpec : ChangeSpec := { name := "secondOnce", fn := fun _ => fun
  | [d1, d2] => { results := [.lit (.bool true)], args := [d1, d2] }
  | _ => none }
def secondOnceRow : OpenClaim := { program := "ythlmigbimeldbaa", sum := "9b2208e7066a4f7a3ca5646ddca7b08d1c36d06d3b18fecf82418425507f4f16", func := "pintle/pintlelaw06.SecondOnce", spec := "secondOnce", inPlace := ["internal/bytealg.IndexByteString", "internal/bytealg.IndexString", "internal/abi.NoEscape"], unfollowed := true, recurses := true, named := ["internal/bytealg.MaxLen"], apart := false }
def SecondOnceSaid : Prop := secondOnceRow.holds Try.pinned (OpenSpec.ofChange secondOnceSpec)

/-- ITS FALSE NEIGHBOUR: 'it returns false'. Refute it at one input. -/
def secondOnceWrong : ChangeSpec := { name := "secondOnce", fn := fun _ => fun
  | [d1, d2] => { results := [.lit (.bool false)], args := [d1, d2] }
  | _ => none }
def SecondOnceWrongFalsely : Prop := secondOnceRow.holds Try.pinned (OpenSpec.ofChange secondOnceWrong)

/-- 'pintlelaw06.SecondShort': WHATEVER THE INPUT: true; the input reads as it did. -/
def secondShortSpec : ChangeSpec := { name := "secondShort", fn := fun _ => fun
  | [d1, d2] => { results := [.lit (.bool true)], args := [d1, d2] }
  | _ => none }
def secondShortRow : OpenClaim := { program := "ythlmigbimeldbaa", sum := "9b2208e7066a4f7a3ca5646ddca7b08d1c36d06d3b18fecf82418425507f4f16", func := "pintle/pintlelaw06.SecondShort", spec := "secondShort", inPlace := ["internal/bytealg.IndexByteString", "internal/bytealg.IndexString", "internal/abi.NoEscape"], unfollowed := true, recurses := true, named := ["internal/bytealg.MaxLen"], apart := false }
def SecondShortSaid : Prop := secondShortRow.holds Try.pinned (OpenSpec.ofChange secondShortSpec)

/-- ITS FALSE NEIGHBOUR: 'it returns false'. Refute it at one input. -/
def secondShortWrong : ChangeSpec := { name := "secondShort", fn := fun _ => fun
  | [d1, d2] => { results := [.lit (.bool false)], args := [d1, d2] }
  | _ => none }
def SecondShortWrongFalsely : Prop := secondShortRow.holds Try.pinned (OpenSpec.ofChange secondShortWrong)

/-- 'pintlelaw06.SecondMsgs': WHATEVER THE INPUT: true; the input reads as it did. -/
def secondMsgsSpec : ChangeSpec := { name := "secondMsgs", fn := fun _ => fun
  | [d1, d2, d3, d4, d5] => { results := [.lit (.bool true)], args := [d1, d2, d3, d4, d5] }
  | _ => none }
def secondMsgsRow : OpenClaim := { program := "ythlmigbimeldbaa", sum := "9b2208e7066a4f7a3ca5646ddca7b08d1c36d06d3b18fecf82418425507f4f16", func := "pintle/pintlelaw06.SecondMsgs", spec := "secondMsgs", inPlace := ["internal/bytealg.IndexByteString", "internal/bytealg.IndexString", "internal/abi.NoEscape"], unfollowed := true, recurses := true, named := ["internal/bytealg.MaxLen"], apart := false }
def SecondMsgsSaid : Prop := secondMsgsRow.holds Try.pinned (OpenSpec.ofChange secondMsgsSpec)

/-- ITS FALSE NEIGHBOUR: 'it returns false'. Refute it at one input. -/
def secondMsgsWrong : ChangeSpec := { name := "secondMsgs", fn := fun _ => fun
  | [d1, d2, d3, d4, d5] => { results := [.lit (.bool false)], args := [d1, d2, d3, d4, d5] }
  | _ => none }
def SecondMsgsWrongFalsely : Prop := secondMsgsRow.holds Try.pinned (OpenSpec.ofChange secondMsgsWrong)

/- THE SECOND FORM. 'bulk': how many values and letters a reading holds, each counted each time it is reached (what is shared counts as often as it is met; a slice's spare places count too). A statement '..UptoSaid' is the law's where the arguments, and the package variables that the reading takes, are together of bulk at most 1048576: NARROWER than '..Said'. Prove '..Said' where nothing that the law and all that it calls make is longer than what came in: it says more and counts as full. Else prove '..UptoSaid'. A law counts once. -/
mutual
def uptoBulk {H : Type} : DataW H → Nat
  | .lit (.string bytes) => bytes.length + 1
  | .lit _ => 1
  | .nil => 1
  | .ptr d => uptoBulk d + 1
  | .slice elems spare => uptoBulkAll elems + uptoBulkAll spare + 1
  | .agg parts => uptoBulkAll parts + 1
  | .iface _ d => uptoBulk d + 1
  | .map entries => uptoBulkEntries entries + 1
  | .held _ => 1
def uptoBulkAll {H : Type} : List (DataW H) → Nat
  | [] => 0
  | d :: r => uptoBulk d + uptoBulkAll r
def uptoBulkEntries {H : Type} : List (Lit × DataW H) → Nat
  | [] => 0
  | x :: r => uptoBulkEntry x + uptoBulkEntries r
def uptoBulkEntry {H : Type} : Lit × DataW H → Nat
  | (.string bytes, d) => bytes.length + uptoBulk d + 1
  | (_, d) => uptoBulk d + 1
 end
def uptoSmall : (H : Type) → List (DataW H) → Bool := fun _ ds => decide (uptoBulkAll ds ≤ 1048576)
def OpenSpec.upto (s : _root_.Go.ChangeSpec) : _root_.Go.OpenSpec := { _root_.Go.OpenSpec.ofChange s with cond := some uptoSmall }

/-- 'pintlelaw16.RlogTakes', WHERE WHAT IT READS IS OF BULK AT MOST 1048576: true; the input reads as it did. -/
def rlogTakesUptoRow : OpenClaim := { program := "ythlmigbimeldbaa", sum := "9b2208e7066a4f7a3ca5646ddca7b08d1c36d06d3b18fecf82418425507f4f16", func := "pintle/pintlelaw16.RlogTakes", spec := "rlogTakes", inPlace := ["internal/bytealg.IndexByteString", "internal/bytealg.IndexString"], unfollowed := true, recurses := true, named := ["internal/bytealg.MaxLen"], apart := false, narrowed := true }
def RlogTakesUptoSaid : Prop := rlogTakesUptoRow.holds Try.pinned (OpenSpec.upto rlogTakesSpec)

/-- 'pintlelaw16.RlogTaken', WHERE WHAT IT READS IS OF BULK AT MOST 1048576: true; the input reads as it did. -/
def rlogTakenUptoRow : OpenClaim := { program := "ythlmigbimeldbaa", sum := "9b2208e7066a4f7a3ca5646ddca7b08d1c36d06d3b18fecf82418425507f4f16", func := "pintle/pintlelaw16.RlogTaken", spec := "rlogTaken", inPlace := ["internal/bytealg.IndexByteString", "internal/bytealg.IndexString"], unfollowed := true, recurses := true, named := ["internal/bytealg.MaxLen"], apart := false, narrowed := true }
def RlogTakenUptoSaid : Prop := rlogTakenUptoRow.holds Try.pinned (OpenSpec.upto rlogTakenSpec)

/-- 'pintlelaw16.RlogNewer', WHERE WHAT IT READS IS OF BULK AT MOST 1048576: true; the input reads as it did. -/
def rlogNewerUptoRow : OpenClaim := { program := "ythlmigbimeldbaa", sum := "9b2208e7066a4f7a3ca5646ddca7b08d1c36d06d3b18fecf82418425507f4f16", func := "pintle/pintlelaw16.RlogNewer", spec := "rlogNewer", inPlace := ["internal/bytealg.IndexByteString", "internal/bytealg.IndexString"], unfollowed := true, recurses := true, named := ["internal/bytealg.MaxLen"], apart := false, narrowed := true }
def RlogNewerUptoSaid : Prop := rlogNewerUptoRow.holds Try.pinned (OpenSpec.upto rlogNewerSpec)

/-- 'pintlelaw16.RlogHints', WHERE WHAT IT READS IS OF BULK AT MOST 1048576: true; the input reads as it did. -/
def rlogHintsUptoRow : OpenClaim := { program := "ythlmigbimeldbaa", sum := "9b2208e7066a4f7a3ca5646ddca7b08d1c36d06d3b18fecf82418425507f4f16", func := "pintle/pintlelaw16.RlogHints", spec := "rlogHints", inPlace := ["internal/bytealg.IndexByteString", "internal/bytealg.IndexString"], unfollowed := true, recurses := true, named := ["internal/bytealg.MaxLen"], apart := false, narrowed := true }
def RlogHintsUptoSaid : Prop := rlogHintsUptoRow.holds Try.pinned (OpenSpec.upto rlogHintsSpec)

/-- 'pintlelaw16.RlogAgree', WHERE WHAT IT READS IS OF BULK AT MOST 1048576: true; the input reads as it did. -/
def rlogAgreeUptoRow : OpenClaim := { program := "ythlmigbimeldbaa", sum := "9b2208e7066a4f7a3ca5646ddca7b08d1c36d06d3b18fecf82418425507f4f16", func := "pintle/pintlelaw16.RlogAgree", spec := "rlogAgree", inPlace := ["internal/bytealg.IndexByteString", "internal/bytealg.IndexString"], unfollowed := true, recurses := true, named := ["internal/bytealg.MaxLen"], apart := false, narrowed := true }
def RlogAgreeUptoSaid : Prop := rlogAgreeUptoRow.holds Try.pinned (OpenSpec.upto rlogAgreeSpec)

/-- 'pintlelaw16.RlogParts', WHERE WHAT IT READS IS OF BULK AT MOST 1048576: true; the input reads as it did. -/
def rlogPartsUptoRow : OpenClaim := { program := "ythlmigbimeldbaa", sum := "9b2208e7066a4f7a3ca5646ddca7b08d1c36d06d3b18fecf82418425507f4f16", func := "pintle/pintlelaw16.RlogParts", spec := "rlogParts", inPlace := ["internal/bytealg.IndexByteString", "internal/bytealg.IndexString"], unfollowed := true, recurses := true, named := ["internal/bytealg.MaxLen"], apart := false, narrowed := true }
def RlogPartsUptoSaid : Prop := rlogPartsUptoRow.holds Try.pinned (OpenSpec.upto rlogPartsSpec)

/-- 'pintlelaw16.RlogDrops', WHERE WHAT IT READS IS OF BULK AT MOST 1048576: true; the input reads as it did. -/
def rlogDropsUptoRow : OpenClaim := { program := "ythlmigbimeldbaa", sum := "9b2208e7066a4f7a3ca5646ddca7b08d1c36d06d3b18fecf82418425507f4f16", func := "pintle/pintlelaw16.RlogDrops", spec := "rlogDrops", inPlace := ["internal/bytealg.IndexByteString", "internal/bytealg.IndexString"], unfollowed := true, recurses := true, named := ["internal/bytealg.MaxLen"], apart := false, narrowed := true }
def RlogDropsUptoSaid : Prop := rlogDropsUptoRow.holds Try.pinned (OpenSpec.upto rlogDropsSpec)

/-- 'pintlelaw06.SecondEntries', WHERE WHAT IT READS IS OF BULK AT MOST 1048576: true; the input reads as it did. -/
def secondEntriesUptoRow : OpenClaim := { program := "ythlmigbimeldbaa", sum := "9b2208e7066a4f7a3ca5646ddca7b08d1c36d06d3b18fecf82418425507f4f16", func := "pintle/pintlelaw06.SecondEntries", spec := "secondEntries", inPlace := ["internal/bytealg.IndexByteString", "internal/bytealg.IndexString", "internal/abi.NoEscape"], unfollowed := true, recurses := true, named := ["internal/bytealg.MaxLen"], apart := false, narrowed := true }
def SecondEntriesUptoSaid : Prop := secondEntriesUptoRow.holds Try.pinned (OpenSpec.upto secondEntriesSpec)

/-- 'pintlelaw06.SecondTags', WHERE WHAT IT READS IS OF BULK AT MOST 1048576: true; the input reads as it did. -/
def secondTagsUptoRow : OpenClaim := { program := "ythlmigbimeldbaa", sum := "9b2208e7066a4f7a3ca5646ddca7b08d1c36d06d3b18fecf82418425507f4f16", func := "pintle/pintlelaw06.SecondTags", spec := "secondTags", inPlace := ["internal/bytealg.IndexByteString", "internal/bytealg.IndexString", "internal/abi.NoEscape"], unfollowed := true, recurses := true, named := ["internal/bytealg.MaxLen"], apart := false, narrowed := true }
def SecondTagsUptoSaid : Prop := secondTagsUptoRow.holds Try.pinned (OpenSpec.upto secondTagsSpec)

/-- 'pintlelaw06.SecondOnce', WHERE WHAT IT READS IS OF BULK AT MOST 1048576: true; the input reads as it did. -/
def secondOnceUptoRow : OpenClaim := { program := "ythlmigbimeldbaa", sum := "9b2208e7066a4f7a3ca5646ddca7b08d1c36d06d3b18fecf82418425507f4f16", func := "pintle/pintlelaw06.SecondOnce", spec := "secondOnce", inPlace := ["internal/bytealg.IndexByteString", "internal/bytealg.IndexString", "internal/abi.NoEscape"], unfollowed := true, recurses := true, named := ["internal/bytealg.MaxLen"], apart := false, narrowed := true }
def SecondOnceUptoSaid : Prop := secondOnceUptoRow.holds Try.pinned (OpenSpec.upto secondOnceSpec)

/-- 'pintlelaw06.SecondShort', WHERE WHAT IT READS IS OF BULK AT MOST 1048576: true; the input reads as it did. -/
def secondShortUptoRow : OpenClaim := { program := "ythlmigbimeldbaa", sum := "9b2208e7066a4f7a3ca5646ddca7b08d1c36d06d3b18fecf82418425507f4f16", func := "pintle/pintlelaw06.SecondShort", spec := "secondShort", inPlace := ["internal/bytealg.IndexByteString", "internal/bytealg.IndexString", "internal/abi.NoEscape"], unfollowed := true, recurses := true, named := ["internal/bytealg.MaxLen"], apart := false, narrowed := true }
def SecondShortUptoSaid : Prop := secondShortUptoRow.holds Try.pinned (OpenSpec.upto secondShortSpec)

/-- 'pintlelaw06.SecondMsgs', WHERE WHAT IT READS IS OF BULK AT MOST 1048576: true; the input reads as it did. -/
def secondMsgsUptoRow : OpenClaim := { program := "ythlmigbimeldbaa", sum := "9b2208e7066a4f7a3ca5646ddca7b08d1c36d06d3b18fecf82418425507f4f16", func := "pintle/pintlelaw06.SecondMsgs", spec := "secondMsgs", inPlace := ["internal/bytealg.IndexByteString", "internal/bytealg.IndexString", "internal/abi.NoEscape"], unfollowed := true, recurses := true, named := ["internal/bytealg.MaxLen"], apart := false, narrowed := true }
def SecondMsgsUptoSaid : Prop := secondMsgsUptoRow.holds Try.pinned (OpenSpec.upto secondMsgsSpec)

end Rows
end Go.Proofs.Ythlmigbimeldbaa
