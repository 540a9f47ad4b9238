/-
  No cell of these rows narrows 'for every input' (looked for: loops, veiled, ifaces, maps, wideKeys, modest, calm, conditions, laid).
  DERIVED. THE GIVEN ROWS OF THIS SEAT. 12 by the template 'for every input the law returns true; each argument reads behind the call as it read before'; 0 by the template 'total and deterministic' (their statements: YtpbjoifdnhjfnaaTotals.lean).
  GIVEN WITH THE SEED: the statements are not yours to turn. If you find one false, say at which input.
  Laid BY PROGRAM, IN A SANDBOX (cutbox-rows.mjs): the forced cells as the released guide's own fill.sh prints them over the translation 2973457e98209a0e… (all of the seat's roots in one cut). By AI agents, Wed Nov 11 2026. No macro, syntax, notation, axiom, sorry.
-/
import Derived.Test.YtpbjoifdnhjfnaaChecked
import GoSem.Claim
import GoSem.ClaimJoined
import GoSem.ClaimMapViews
import Derived.JoinedTies
import Derived.KernelRfl
namespace Go.Proofs.Ytpbjoifdnhjfnaa
/- THE CELL 'sum', in the pinned program and in every row, IS THE sha256 OF THE DUMP (.gsa) THAT YtpbjoifdnhjfnaaProg.lean LOADS. Nothing in Lean hashes anything: it is a label: what it is worth is what the hold of that sum in a sandbox is worth. -/
noncomputable def Try.pinned : Pinned := { name := "ytpbjoifdnhjfnaa", sum := "2973457e98209a0ec6079dc6fc033d0a0a6eef792c100dc59a26f5a40e11e1d0", checked := Try.checked }
namespace Rows
def none {H : Type} : Left H := { results := [], args := [] }

/-- 'pintlelaw01.CrcBit': WHATEVER THE INPUT: true; the input reads as it did. -/
def crcBitSpec : ChangeSpec := { name := "crcBit", fn := fun _ => fun
  | [d1, d2, d3] => { results := [.lit (.bool true)], args := [d1, d2, d3] }
  | _ => none }
def crcBitRow : OpenClaim := { program := "ytpbjoifdnhjfnaa", sum := "2973457e98209a0ec6079dc6fc033d0a0a6eef792c100dc59a26f5a40e11e1d0", func := "pintle/pintlelaw01.CrcBit", spec := "crcBit", unfollowed := true, recurses := true, apart := false }
def CrcBitSaid : Prop := crcBitRow.holds Try.pinned (OpenSpec.ofChange crcBitSpec)

/-- ITS FALSE NEIGHBOUR: 'it returns false'. Refute it at one input. -/
def crcBitWrong : ChangeSpec := { name := "crcBit", fn := fun _ => fun
  | [d1, d2, d3] => { results := [.lit (.bool false)], args := [d1, d2, d3] }
  | _ => none }
def CrcBitWrongFalsely : Prop := crcBitRow.holds Try.pinned (OpenSpec.ofChange crcBitWrong)

/-- 'pintlelaw01.CrcXor': WHATEVER THE INPUT: true; the input reads as it did. -/
def crcXorSpec : ChangeSpec := { name := "crcXor", fn := fun _ => fun
  | [d1, d2, d3] => { results := [.lit (.bool true)], args := [d1, d2, d3] }
  | _ => none }
def crcXorRow : OpenClaim := { program := "ytpbjoifdnhjfnaa", sum := "2973457e98209a0ec6079dc6fc033d0a0a6eef792c100dc59a26f5a40e11e1d0", func := "pintle/pintlelaw01.CrcXor", spec := "crcXor", unfollowed := true, recurses := true, apart := false }
def CrcXorSaid : Prop := crcXorRow.holds Try.pinned (OpenSpec.ofChange crcXorSpec)

/-- ITS FALSE NEIGHBOUR: 'it returns false'. Refute it at one input. -/
def crcXorWrong : ChangeSpec := { name := "crcXor", fn := fun _ => fun
  | [d1, d2, d3] => { results := [.lit (.bool false)], args := [d1, d2, d3] }
  | _ => none }
def CrcXorWrongFalsely : Prop := crcXorRow.holds Try.pinned (OpenSpec.ofChange crcXorWrong)

/-- 'pintlelaw01.CrcSums': WHATEVER THE INPUT: true; the input reads as it did. -/
def crcSumsSpec : ChangeSpec := { name := "crcSums", fn := fun _ => fun
  | [d1, d2, d3, d4, d5] => { results := [.lit (.bool true)], args := [d1, d2, d3, d4, d5] }
  | _ => none }
def crcSumsRow : OpenClaim := { program := "ytpbjoifdnhjfnaa", sum := "2973457e98209a0ec6079dc6fc033d0a0a6eef792c100dc59a26f5a40e11e1d0", func := "pintle/pintlelaw01.CrcSums", spec := "crcSums", unfollowed := true, recurses := true, apart := false }
def CrcSumsSaid : Prop := crcSumsRow.holds Try.pinned (OpenSpec.ofChange crcSumsSpec)

/-- ITS FALSE NEIGHBOUR: 'it returns false'. Refute it at one input. -/
def crcSumsWrong : ChangeSpec := { name := "crcSums", fn := fun _ => fun
  | [d1, d2, d3, d4, d5] => { results := [.lit (.bool false)], args := [d1, d2, d3, d4, d5] }
  | _ => none }
def CrcSumsWrongFalsely : Prop := crcSumsRow.holds Try.pinned (OpenSpec.ofChange crcSumsWrong)

/-- 'pintlelaw01.CrcParts': WHATEVER THE INPUT: true; the input reads as it did. -/
def crcPartsSpec : ChangeSpec := { name := "crcParts", fn := fun _ => fun
  | [d1, d2] => { results := [.lit (.bool true)], args := [d1, d2] }
  | _ => none }
def crcPartsRow : OpenClaim := { program := "ytpbjoifdnhjfnaa", sum := "2973457e98209a0ec6079dc6fc033d0a0a6eef792c100dc59a26f5a40e11e1d0", func := "pintle/pintlelaw01.CrcParts", spec := "crcParts", unfollowed := true, recurses := true, apart := false }
def CrcPartsSaid : Prop := crcPartsRow.holds Try.pinned (OpenSpec.ofChange crcPartsSpec)

/-- ITS FALSE NEIGHBOUR: 'it returns false'. Refute it at one input. -/
def crcPartsWrong : ChangeSpec := { name := "crcParts", fn := fun _ => fun
  | [d1, d2] => { results := [.lit (.bool false)], args := [d1, d2] }
  | _ => none }
def CrcPartsWrongFalsely : Prop := crcPartsRow.holds Try.pinned (OpenSpec.ofChange crcPartsWrong)

/-- 'pintlelaw01.CrcPut': WHATEVER THE INPUT: true; the input reads as it did. -/
def crcPutSpec : ChangeSpec := { name := "crcPut", fn := fun _ => fun
  | [d1, d2, d3, d4] => { results := [.lit (.bool true)], args := [d1, d2, d3, d4] }
  | _ => none }
def crcPutRow : OpenClaim := { program := "ytpbjoifdnhjfnaa", sum := "2973457e98209a0ec6079dc6fc033d0a0a6eef792c100dc59a26f5a40e11e1d0", func := "pintle/pintlelaw01.CrcPut", spec := "crcPut", unfollowed := true, recurses := true, apart := false }
def CrcPutSaid : Prop := crcPutRow.holds Try.pinned (OpenSpec.ofChange crcPutSpec)

/-- ITS FALSE NEIGHBOUR: 'it returns false'. Refute it at one input. -/
def crcPutWrong : ChangeSpec := { name := "crcPut", fn := fun _ => fun
  | [d1, d2, d3, d4] => { results := [.lit (.bool false)], args := [d1, d2, d3, d4] }
  | _ => none }
def CrcPutWrongFalsely : Prop := crcPutRow.holds Try.pinned (OpenSpec.ofChange crcPutWrong)

/-- 'pintlelaw02.VarintPuts': WHATEVER THE INPUT: true; the input reads as it did. -/
def varintPutsSpec : ChangeSpec := { name := "varintPuts", fn := fun _ => fun
  | [d1, d2, d3] => { results := [.lit (.bool true)], args := [d1, d2, d3] }
  | _ => none }
def varintPutsRow : OpenClaim := { program := "ytpbjoifdnhjfnaa", sum := "2973457e98209a0ec6079dc6fc033d0a0a6eef792c100dc59a26f5a40e11e1d0", func := "pintle/pintlelaw02.VarintPuts", spec := "varintPuts", apart := false }
def VarintPutsSaid : Prop := varintPutsRow.holds Try.pinned (OpenSpec.ofChange varintPutsSpec)

/-- ITS FALSE NEIGHBOUR: 'it returns false'. Refute it at one input. -/
def varintPutsWrong : ChangeSpec := { name := "varintPuts", fn := fun _ => fun
  | [d1, d2, d3] => { results := [.lit (.bool false)], args := [d1, d2, d3] }
  | _ => none }
def VarintPutsWrongFalsely : Prop := varintPutsRow.holds Try.pinned (OpenSpec.ofChange varintPutsWrong)

/-- 'pintlelaw02.VarintOnce': WHATEVER THE INPUT: true; the input reads as it did. -/
def varintOnceSpec : ChangeSpec := { name := "varintOnce", fn := fun _ => fun
  | [d1, d2] => { results := [.lit (.bool true)], args := [d1, d2] }
  | _ => none }
def varintOnceRow : OpenClaim := { program := "ytpbjoifdnhjfnaa", sum := "2973457e98209a0ec6079dc6fc033d0a0a6eef792c100dc59a26f5a40e11e1d0", func := "pintle/pintlelaw02.VarintOnce", spec := "varintOnce", apart := false }
def VarintOnceSaid : Prop := varintOnceRow.holds Try.pinned (OpenSpec.ofChange varintOnceSpec)

/-- ITS FALSE NEIGHBOUR: 'it returns false'. Refute it at one input. -/
def varintOnceWrong : ChangeSpec := { name := "varintOnce", fn := fun _ => fun
  | [d1, d2] => { results := [.lit (.bool false)], args := [d1, d2] }
  | _ => none }
def VarintOnceWrongFalsely : Prop := varintOnceRow.holds Try.pinned (OpenSpec.ofChange varintOnceWrong)

/-- 'pintlelaw02.VarintFixed': WHATEVER THE INPUT: true; the input reads as it did. -/
def varintFixedSpec : ChangeSpec := { name := "varintFixed", fn := fun _ => fun
  | [d1, d2, d3] => { results := [.lit (.bool true)], args := [d1, d2, d3] }
  | _ => none }
def varintFixedRow : OpenClaim := { program := "ytpbjoifdnhjfnaa", sum := "2973457e98209a0ec6079dc6fc033d0a0a6eef792c100dc59a26f5a40e11e1d0", func := "pintle/pintlelaw02.VarintFixed", spec := "varintFixed", apart := false }
def VarintFixedSaid : Prop := varintFixedRow.holds Try.pinned (OpenSpec.ofChange varintFixedSpec)

/-- ITS FALSE NEIGHBOUR: 'it returns false'. Refute it at one input. -/
def varintFixedWrong : ChangeSpec := { name := "varintFixed", fn := fun _ => fun
  | [d1, d2, d3] => { results := [.lit (.bool false)], args := [d1, d2, d3] }
  | _ => none }
def VarintFixedWrongFalsely : Prop := varintFixedRow.holds Try.pinned (OpenSpec.ofChange varintFixedWrong)

/-- 'pintlelaw02.VarintMany': WHATEVER THE INPUT: true; the input reads as it did. -/
def varintManySpec : ChangeSpec := { name := "varintMany", fn := fun _ => fun
  | [d] => { results := [.lit (.bool true)], args := [d] }
  | _ => none }
def varintManyRow : OpenClaim := { program := "ytpbjoifdnhjfnaa", sum := "2973457e98209a0ec6079dc6fc033d0a0a6eef792c100dc59a26f5a40e11e1d0", func := "pintle/pintlelaw02.VarintMany", spec := "varintMany", apart := false }
def VarintManySaid : Prop := varintManyRow.holds Try.pinned (OpenSpec.ofChange varintManySpec)

/-- ITS FALSE NEIGHBOUR: 'it returns false'. Refute it at one input. -/
def varintManyWrong : ChangeSpec := { name := "varintMany", fn := fun _ => fun
  | [d] => { results := [.lit (.bool false)], args := [d] }
  | _ => none }
def VarintManyWrongFalsely : Prop := varintManyRow.holds Try.pinned (OpenSpec.ofChange varintManyWrong)

/-- 'pintlelaw02.VarintReads': WHATEVER THE INPUT: true; the input reads as it did. -/
def varintReadsSpec : ChangeSpec := { name := "varintReads", fn := fun _ => fun
  | [d1, d2] => { results := [.lit (.bool true)], args := [d1, d2] }
  | _ => none }
def varintReadsRow : OpenClaim := { program := "ytpbjoifdnhjfnaa", sum := "2973457e98209a0ec6079dc6fc033d0a0a6eef792c100dc59a26f5a40e11e1d0", func := "pintle/pintlelaw02.VarintReads", spec := "varintReads", unfollowed := true, recurses := true, apart := false }
def VarintReadsSaid : Prop := varintReadsRow.holds Try.pinned (OpenSpec.ofChange varintReadsSpec)

/-- ITS FALSE NEIGHBOUR: 'it returns false'. Refute it at one input. -/
def varintReadsWrong : ChangeSpec := { name := "varintReads", fn := fun _ => fun
  | [d1, d2] => { results := [.lit (.bool false)], args := [d1, d2] }
  | _ => none }
def VarintReadsWrongFalsely : Prop := varintReadsRow.holds Try.pinned (OpenSpec.ofChange varintReadsWrong)

/-- 'pintlelaw02.VarintBack': WHATEVER THE INPUT: true; the input reads as it did. -/
def varintBackSpec : ChangeSpec := { name := "varintBack", fn := fun _ => fun
  | [d1, d2, d3, d4] => { results := [.lit (.bool true)], args := [d1, d2, d3, d4] }
  | _ => none }
def varintBackRow : OpenClaim := { program := "ytpbjoifdnhjfnaa", sum := "2973457e98209a0ec6079dc6fc033d0a0a6eef792c100dc59a26f5a40e11e1d0", func := "pintle/pintlelaw02.VarintBack", spec := "varintBack", unfollowed := true, recurses := true, apart := false }
def VarintBackSaid : Prop := varintBackRow.holds Try.pinned (OpenSpec.ofChange varintBackSpec)

/-- ITS FALSE NEIGHBOUR: 'it returns false'. Refute it at one input. -/
def varintBackWrong : ChangeSpec := { name := "varintBack", fn := fun _ => fun
  | [d1, d2, d3, d4] => { results := [.lit (.bool false)], args := [d1, d2, d3, d4] }
  | _ => none }
def VarintBackWrongFalsely : Prop := varintBackRow.holds Try.pinned (OpenSpec.ofChange varintBackWrong)

/-- 'pintlelaw02.VarintFails': WHATEVER THE INPUT: true; the input reads as it did. -/
def varintFailsSpec : ChangeSpec := { name := "varintFails", fn := fun _ => fun
  | [d1, d2] => { results := [.lit (.bool true)], args := [d1, d2] }
  | _ => none }
def varintFailsRow : OpenClaim := { program := "ytpbjoifdnhjfnaa", sum := "2973457e98209a0ec6079dc6fc033d0a0a6eef792c100dc59a26f5a40e11e1d0", func := "pintle/pintlelaw02.VarintFails", spec := "varintFails", unfollowed := true, recurses := true, apart := false }
def VarintFailsSaid : Prop := varintFailsRow.holds Try.pinned (OpenSpec.ofChange varintFailsSpec)

/-- ITS FALSE NEIGHBOUR: 'it returns false'. Refute it at one input. -/
def varintFailsWrong : ChangeSpec := { name := "varintFails", fn := fun _ => fun
  | [d1, d2] => { results := [.lit (.bool false)], args := [d1, d2] }
  | _ => none }
def VarintFailsWrongFalsely : Prop := varintFailsRow.holds Try.pinned (OpenSpec.ofChange varintFailsWrong)

/- THE SECOND FORM. 'bulk': how many values and letters a reading holds, each counted each time it is reached (what is shared counts as often as it is met; a slice's spare places count too). A statement '..UptoSaid' is the law's where the arguments, and the package variables that the reading takes, are together of bulk at most 1048576: NARROWER than '..Said'. Prove '..Said' where nothing that the law and all that it calls make is longer than what came in: it says more and counts as full. Else prove '..UptoSaid'. A law counts once. -/
mutual
def uptoBulk {H : Type} : DataW H → Nat
  | .lit (.string bytes) => bytes.length + 1
  | .lit _ => 1
  | .nil => 1
  | .ptr d => uptoBulk d + 1
  | .slice elems spare => uptoBulkAll elems + uptoBulkAll spare + 1
  | .agg parts => uptoBulkAll parts + 1
  | .iface _ d => uptoBulk d + 1
  | .map entries => uptoBulkEntries entries + 1
  | .held _ => 1
def uptoBulkAll {H : Type} : List (DataW H) → Nat
  | [] => 0
  | d :: r => uptoBulk d + uptoBulkAll r
def uptoBulkEntries {H : Type} : List (Lit × DataW H) → Nat
  | [] => 0
  | x :: r => uptoBulkEntry x + uptoBulkEntries r
def uptoBulkEntry {H : Type} : Lit × DataW H → Nat
  | (.string bytes, d) => bytes.length + uptoBulk d + 1
  | (_, d) => uptoBulk d + 1
 end
def uptoSmall : (H : Type) → List (DataW H) → Bool := fun _ ds => decide (uptoBulkAll ds ≤ 1048576)
def OpenSpec.upto (s : _root_.Go.ChangeSpec) : _root_.Go.OpenSpec := { _root_.Go.OpenSpec.ofChange s with cond := some uptoSmall }

/-- 'pintlelaw01.CrcBit', WHERE WHAT IT READS IS OF BULK AT MOST 1048576: true; the input reads as it did. -/
def crcBitUptoRow : OpenClaim := { program := "ytpbjoifdnhjfnaa", sum := "2973457e98209a0ec6079dc6fc033d0a0a6eef792c100dc59a26f5a40e11e1d0", func := "pintle/pintlelaw01.CrcBit", spec := "crcBit", unfollowed := true, recurses := true, apart := false, narrowed := true }
def CrcBitUptoSaid : Prop := crcBitUptoRow.holds Try.pinned (OpenSpec.upto crcBitSpec)

/-- 'pintlelaw01.CrcXor', WHERE WHAT IT READS IS OF BULK AT MOST 1048576: true; the input reads as it did. -/
def crcXorUptoRow : OpenClaim := { program := "ytpbjoifdnhjfnaa", sum := "2973457e98209a0ec6079dc6fc033d0a0a6eef792c100dc59a26f5a40e11e1d0", func := "pintle/pintlelaw01.CrcXor", spec := "crcXor", unfollowed := true, recurses := true, apart := false, narrowed := true }
def CrcXorUptoSaid : Prop := crcXorUptoRow.holds Try.pinned (OpenSpec.upto crcXorSpec)

/-- 'pintlelaw01.CrcSums', WHERE WHAT IT READS IS OF BULK AT MOST 1048576: true; the input reads as it did. -/
def crcSumsUptoRow : OpenClaim := { program := "ytpbjoifdnhjfnaa", sum := "2973457e98209a0ec6079dc6fc033d0a0a6eef792c100dc59a26f5a40e11e1d0", func := "pintle/pintlelaw01.CrcSums", spec := "crcSums", unfollowed := true, recurses := true, apart := false, narrowed := true }
def CrcSumsUptoSaid : Prop := crcSumsUptoRow.holds Try.pinned (OpenSpec.upto crcSumsSpec)

/-- 'pintlelaw01.CrcParts', WHERE WHAT IT READS IS OF BULK AT MOST 1048576: true; the input reads as it did. -/
def crcPartsUptoRow : OpenClaim := { program := "ytpbjoifdnhjfnaa", sum := "2973457e98209a0ec6079dc6fc033d0a0a6eef792c100dc59a26f5a40e11e1d0", func := "pintle/pintlelaw01.CrcParts", spec := "crcParts", unfollowed := true, recurses := true, apart := false, narrowed := true }
def CrcPartsUptoSaid : Prop := crcPartsUptoRow.holds Try.pinned (OpenSpec.upto crcPartsSpec)

/-- 'pintlelaw01.CrcPut', WHERE WHAT IT READS IS OF BULK AT MOST 1048576: true; the input reads as it did. -/
def crcPutUptoRow : OpenClaim := { program := "ytpbjoifdnhjfnaa", sum := "2973457e98209a0ec6079dc6fc033d0a0a6eef792c100dc59a26f5a40e11e1d0", func := "pintle/pintlelaw01.CrcPut", spec := "crcPut", unfollowed := true, recurses := true, apart := false, narrowed := true }
def CrcPutUptoSaid : Prop := crcPutUptoRow.holds Try.pinned (OpenSpec.upto crcPutSpec)

/-- 'pintlelaw02.VarintPuts', WHERE WHAT IT READS IS OF BULK AT MOST 1048576: true; the input reads as it did. -/
def varintPutsUptoRow : OpenClaim := { program := "ytpbjoifdnhjfnaa", sum := "2973457e98209a0ec6079dc6fc033d0a0a6eef792c100dc59a26f5a40e11e1d0", func := "pintle/pintlelaw02.VarintPuts", spec := "varintPuts", apart := false, narrowed := true }
def VarintPutsUptoSaid : Prop := varintPutsUptoRow.holds Try.pinned (OpenSpec.upto varintPutsSpec)

/-- 'pintlelaw02.VarintOnce', WHERE WHAT IT READS IS OF BULK AT MOST 1048576: true; the input reads as it did. -/
def varintOnceUptoRow : OpenClaim := { program := "ytpbjoifdnhjfnaa", sum := "2973457e98209a0ec6079dc6fc033d0a0a6eef792c100dc59a26f5a40e11e1d0", func := "pintle/pintlelaw02.VarintOnce", spec := "varintOnce", apart := false, narrowed := true }
def VarintOnceUptoSaid : Prop := varintOnceUptoRow.holds Try.pinned (OpenSpec.upto varintOnceSpec)

/-- 'pintlelaw02.VarintFixed', WHERE WHAT IT READS IS OF BULK AT MOST 1048576: true; the input reads as it did. -/
def varintFixedUptoRow : OpenClaim := { program := "ytpbjoifdnhjfnaa", sum := "2973457e98209a0ec6079dc6fc033d0a0a6eef792c100dc59a26f5a40e11e1d0", func := "pintle/pintlelaw02.VarintFixed", spec := "varintFixed", apart := false, narrowed := true }
def VarintFixedUptoSaid : Prop := varintFixedUptoRow.holds Try.pinned (OpenSpec.upto varintFixedSpec)

/-- 'pintlelaw02.VarintMany', WHERE WHAT IT READS IS OF BULK AT MOST 1048576: true; the input reads as it did. -/
def varintManyUptoRow : OpenClaim := { program := "ytpbjoifdnhjfnaa", sum := "2973457e98209a0ec6079dc6fc033d0a0a6eef792c100dc59a26f5a40e11e1d0", func := "pintle/pintlelaw02.VarintMany", spec := "varintMany", apart := false, narrowed := true }
def VarintManyUptoSaid : Prop := varintManyUptoRow.holds Try.pinned (OpenSpec.upto varintManySpec)

/-- 'pintlelaw02.VarintReads', WHERE WHAT IT READS IS OF BULK AT MOST 1048576: true; the input reads as it did. -/
def varintReadsUptoRow : OpenClaim := { program := "ytpbjoifdnhjfnaa", sum := "2973457e98209a0ec6079dc6fc033d0a0a6eef792c100dc59a26f5a40e11e1d0", func := "pintle/pintlelaw02.VarintReads", spec := "varintReads", unfollowed := true, recurses := true, apart := false, narrowed := true }
def VarintReadsUptoSaid : Prop := varintReadsUptoRow.holds Try.pinned (OpenSpec.upto varintReadsSpec)

/-- 'pintlelaw02.VarintBack', WHERE WHAT IT READS IS OF BULK AT MOST 1048576: true; the input reads as it did. -/
def varintBackUptoRow : OpenClaim := { program := "ytpbjoifdnhjfnaa", sum := "2973457e98209a0ec6079dc6fc033d0a0a6eef792c100dc59a26f5a40e11e1d0", func := "pintle/pintlelaw02.VarintBack", spec := "varintBack", unfollowed := true, recurses := true, apart := false, narrowed := true }
def VarintBackUptoSaid : Prop := varintBackUptoRow.holds Try.pinned (OpenSpec.upto varintBackSpec)

/-- 'pintlelaw02.VarintFails', WHERE WHAT IT READS IS OF BULK AT MOST 1048576: true; the input reads as it did. -/
def varintFailsUptoRow : OpenClaim := { program := "ytpbjoifdnhjfnaa", sum := "2973457e98209a0ec6079dc6fc033d0a0a6eef792c100dc59a26f5a40e11e1d0", func := "pintle/pintlelaw02.VarintFails", spec := "varintFails", unfollowed := true, recurses := true, apart := false, narrowed := true }
def VarintFailsUptoSaid : Prop := varintFailsUptoRow.holds Try.pinned (OpenSpec.upto varintFailsSpec)

end Rows
end Go.Proofs.Ytpbjoifdnhjfnaa
