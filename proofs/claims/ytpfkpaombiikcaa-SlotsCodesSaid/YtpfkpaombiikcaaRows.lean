/-
  No cell of these rows narrows 'for every input' (looked for: loops, veiled, ifaces, maps, wideKeys, modest, calm, conditions, laid).
  DERIVED. THE GIVEN ROWS OF THIS SEAT. 3 by the template 'for every input the law returns true; each argument reads behind the call as it read before'; 0 by the template 'total and deterministic' (their statements: YtpfkpaombiikcaaTotals.lean).
  GIVEN WITH THE SEED: the statements are not yours to turn. If you find one false, say at which input.
  Laid BY PROGRAM, IN A SANDBOX (cutbox-rows.mjs): the forced cells as the released guide's own fill.sh prints them over the translation a35769be45b2ac47… (all of the seat's roots in one cut). By AI agents, Wed Nov 11 2026. No macro, syntax, notation, axiom, sorry.
-/
import Derived.Test.YtpfkpaombiikcaaChecked
import GoSem.Claim
import GoSem.ClaimJoined
import GoSem.ClaimMapViews
import Derived.JoinedTies
import Derived.KernelRfl
namespace Go.Proofs.Ytpfkpaombiikcaa
/- THE CELL 'sum', in the pinned program and in every row, IS THE sha256 OF THE DUMP (.gsa) THAT YtpfkpaombiikcaaProg.lean LOADS. Nothing in Lean hashes anything: it is a label: what it is worth is what the hold of that sum in a sandbox is worth. -/
noncomputable def Try.pinned : Pinned := { name := "ytpfkpaombiikcaa", sum := "a35769be45b2ac47b64fbfdd6e65830dcf204235fdff6890373f1c4406a1a8ff", checked := Try.checked }
namespace Rows
def none {H : Type} : Left H := { results := [], args := [] }

/-- 'pintlelaw09.SlotsRight': WHATEVER THE INPUT: true; the input reads as it did. -/
def slotsRightSpec : ChangeSpec := { name := "slotsRight", fn := fun _ => fun
  | [d] => { results := [.lit (.bool true)], args := [d] }
  | _ => none }
def slotsRightRow : OpenClaim := { program := "ytpfkpaombiikcaa", sum := "a35769be45b2ac47b64fbfdd6e65830dcf204235fdff6890373f1c4406a1a8ff", func := "pintle/pintlelaw09.SlotsRight", spec := "slotsRight", inPlace := ["internal/abi.NoEscape"], unfollowed := true, recurses := true, apart := false }
def SlotsRightSaid : Prop := slotsRightRow.holds Try.pinned (OpenSpec.ofChange slotsRightSpec)

/-- ITS FALSE NEIGHBOUR: 'it returns false'. Refute it at one input. -/
def slotsRightWrong : ChangeSpec := { name := "slotsRight", fn := fun _ => fun
  | [d] => { results := [.lit (.bool false)], args := [d] }
  | _ => none }
def SlotsRightWrongFalsely : Prop := slotsRightRow.holds Try.pinned (OpenSpec.ofChange slotsRightWrong)

/-- 'pintlelaw09.SlotsCodes': WHATEVER THE INPUT: true; the input reads as it did. -/
def slotsCodesSpec : ChangeSpec := { name := "slotsCodes", fn := fun _ => fun
  | [d1, d2, d3, d4, d5, d6, d7, d8] => { results := [.lit (.bool true)], args := [d1, d2, d3, d4, d5, d6, d7, d8] }
  | _ => none }
def slotsCodesRow : OpenClaim := { program := "ytpfkpaombiikcaa", sum := "a35769be45b2ac47b64fbfdd6e65830dcf204235fdff6890373f1c4406a1a8ff", func := "pintle/pintlelaw09.SlotsCodes", spec := "slotsCodes", inPlace := ["internal/abi.NoEscape"], unfollowed := true, recurses := true, apart := false }
def SlotsCodesSaid : Prop := slotsCodesRow.holds Try.pinned (OpenSpec.ofChange slotsCodesSpec)

/-- ITS FALSE NEIGHBOUR: 'it returns false'. Refute it at one input. -/
def slotsCodesWrong : ChangeSpec := { name := "slotsCodes", fn := fun _ => fun
  | [d1, d2, d3, d4, d5, d6, d7, d8] => { results := [.lit (.bool false)], args := [d1, d2, d3, d4, d5, d6, d7, d8] }
  | _ => none }
def SlotsCodesWrongFalsely : Prop := slotsCodesRow.holds Try.pinned (OpenSpec.ofChange slotsCodesWrong)

/-- 'pintlelaw09.SlotsBack': WHATEVER THE INPUT: true; the input reads as it did. -/
def slotsBackSpec : ChangeSpec := { name := "slotsBack", fn := fun _ => fun
  | [d1, d2, d3, d4] => { results := [.lit (.bool true)], args := [d1, d2, d3, d4] }
  | _ => none }
def slotsBackRow : OpenClaim := { program := "ytpfkpaombiikcaa", sum := "a35769be45b2ac47b64fbfdd6e65830dcf204235fdff6890373f1c4406a1a8ff", func := "pintle/pintlelaw09.SlotsBack", spec := "slotsBack", inPlace := ["internal/abi.NoEscape"], unfollowed := true, recurses := true, apart := false }
def SlotsBackSaid : Prop := slotsBackRow.holds Try.pinned (OpenSpec.ofChange slotsBackSpec)

/-- ITS FALSE NEIGHBOUR: 'it returns false'. Refute it at one input. -/
def slotsBackWrong : ChangeSpec := { name := "slotsBack", fn := fun _ => fun
  | [d1, d2, d3, d4] => { results := [.lit (.bool false)], args := [d1, d2, d3, d4] }
  | _ => none }
def SlotsBackWrongFalsely : Prop := slotsBackRow.holds Try.pinned (OpenSpec.ofChange slotsBackWrong)

/- THE SECOND FORM. 'bulk': how many values and letters a reading holds, each counted each time it is reached (what is shared counts as often as it is met; a slice's spare places count too). A statement '..UptoSaid' is the law's where the arguments, and the package variables that the reading takes, are together of bulk at most 1048576: NARROWER than '..Said'. Prove '..Said' where nothing that the law and all that it calls make is longer than what came in: it says more and counts as full. Else prove '..UptoSaid'. A law counts once. -/
mutual
def uptoBulk {H : Type} : DataW H → Nat
  | .lit (.string bytes) => bytes.length + 1
  | .lit _ => 1
  | .nil => 1
  | .ptr d => uptoBulk d + 1
  | .slice elems spare => uptoBulkAll elems + uptoBulkAll spare + 1
  | .agg parts => uptoBulkAll parts + 1
  | .iface _ d => uptoBulk d + 1
  | .map entries => uptoBulkEntries entries + 1
  | .held _ => 1
def uptoBulkAll {H : Type} : List (DataW H) → Nat
  | [] => 0
  | d :: r => uptoBulk d + uptoBulkAll r
def uptoBulkEntries {H : Type} : List (Lit × DataW H) → Nat
  | [] => 0
  | x :: r => uptoBulkEntry x + uptoBulkEntries r
def uptoBulkEntry {H : Type} : Lit × DataW H → Nat
  | (.string bytes, d) => bytes.length + uptoBulk d + 1
  | (_, d) => uptoBulk d + 1
 end
def uptoSmall : (H : Type) → List (DataW H) → Bool := fun _ ds => decide (uptoBulkAll ds ≤ 1048576)
def OpenSpec.upto (s : _root_.Go.ChangeSpec) : _root_.Go.OpenSpec := { _root_.Go.OpenSpec.ofChange s with cond := some uptoSmall }

/-- 'pintlelaw09.SlotsRight', WHERE WHAT IT READS IS OF BULK AT MOST 1048576: true; the input reads as it did. -/
def slotsRightUptoRow : OpenClaim := { program := "ytpfkpaombiikcaa", sum := "a35769be45b2ac47b64fbfdd6e65830dcf204235fdff6890373f1c4406a1a8ff", func := "pintle/pintlelaw09.SlotsRight", spec := "slotsRight", inPlace := ["internal/abi.NoEscape"], unfollowed := true, recurses := true, apart := false, narrowed := true }
def SlotsRightUptoSaid : Prop := slotsRightUptoRow.holds Try.pinned (OpenSpec.upto slotsRightSpec)

/-- 'pintlelaw09.SlotsCodes', WHERE WHAT IT READS IS OF BULK AT MOST 1048576: true; the input reads as it did. -/
def slotsCodesUptoRow : OpenClaim := { program := "ytpfkpaombiikcaa", sum := "a35769be45b2ac47b64fbfdd6e65830dcf204235fdff6890373f1c4406a1a8ff", func := "pintle/pintlelaw09.SlotsCodes", spec := "slotsCodes", inPlace := ["internal/abi.NoEscape"], unfollowed := true, recurses := true, apart := false, narrowed := true }
def SlotsCodesUptoSaid : Prop := slotsCodesUptoRow.holds Try.pinned (OpenSpec.upto slotsCodesSpec)

/-- 'pintlelaw09.SlotsBack', WHERE WHAT IT READS IS OF BULK AT MOST 1048576: true; the input reads as it did. -/
def slotsBackUptoRow : OpenClaim := { program := "ytpfkpaombiikcaa", sum := "a35769be45b2ac47b64fbfdd6e65830dcf204235fdff6890373f1c4406a1a8ff", func := "pintle/pintlelaw09.SlotsBack", spec := "slotsBack", inPlace := ["internal/abi.NoEscape"], unfollowed := true, recurses := true, apart := false, narrowed := true }
def SlotsBackUptoSaid : Prop := slotsBackUptoRow.holds Try.pinned (OpenSpec.upto slotsBackSpec)

end Rows
end Go.Proofs.Ytpfkpaombiikcaa
