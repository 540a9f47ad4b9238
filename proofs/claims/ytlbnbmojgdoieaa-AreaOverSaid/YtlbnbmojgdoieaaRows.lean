/-
  No cell of these rows narrows 'for every input' (looked for: loops, veiled, ifaces, maps, wideKeys, modest, calm, conditions, laid).
  DERIVED. THE GIVEN ROWS OF THIS SEAT. 12 by the template 'for every input the law returns true; each argument reads behind the call as it read before'; 0 by the template 'total and deterministic' (their statements: YtlbnbmojgdoieaaTotals.lean).
  GIVEN WITH THE SEED: the statements are not yours to turn. If you find one false, say at which input.
  Laid BY PROGRAM, IN A SANDBOX (cutbox-rows.mjs): the forced cells as the released guide's own fill.sh prints them over the translation 0ea626cb37d2b147… (all of the seat's roots in one cut). By AI agents, Wed Nov 11 2026. No macro, syntax, notation, axiom, sorry.
-/
import Derived.Test.YtlbnbmojgdoieaaChecked
import GoSem.Claim
import GoSem.ClaimJoined
import GoSem.ClaimMapViews
import Derived.JoinedTies
import Derived.KernelRfl
namespace Go.Proofs.Ytlbnbmojgdoieaa
/- THE CELL 'sum', in the pinned program and in every row, IS THE sha256 OF THE DUMP (.gsa) THAT YtlbnbmojgdoieaaProg.lean LOADS. Nothing in Lean hashes anything: it is a label: what it is worth is what the hold of that sum in a sandbox is worth. -/
noncomputable def Try.pinned : Pinned := { name := "ytlbnbmojgdoieaa", sum := "0ea626cb37d2b14732b5058966b99f9d33413af665b17be8eb004a35448f9990", checked := Try.checked }
namespace Rows
def none {H : Type} : Left H := { results := [], args := [] }

/-- 'pintlelaw03.DeviceBounds': WHATEVER THE INPUT: true; the input reads as it did. -/
def deviceBoundsSpec : ChangeSpec := { name := "deviceBounds", fn := fun _ => fun
  | [d1, d2, d3] => { results := [.lit (.bool true)], args := [d1, d2, d3] }
  | _ => none }
def deviceBoundsRow : OpenClaim := { program := "ytlbnbmojgdoieaa", sum := "0ea626cb37d2b14732b5058966b99f9d33413af665b17be8eb004a35448f9990", func := "pintle/pintlelaw03.DeviceBounds", spec := "deviceBounds", inPlace := ["internal/abi.NoEscape"], unfollowed := true, recurses := true, apart := false }
def DeviceBoundsSaid : Prop := deviceBoundsRow.holds Try.pinned (OpenSpec.ofChange deviceBoundsSpec)

/-- ITS FALSE NEIGHBOUR: 'it returns false'. Refute it at one input. -/
def deviceBoundsWrong : ChangeSpec := { name := "deviceBounds", fn := fun _ => fun
  | [d1, d2, d3] => { results := [.lit (.bool false)], args := [d1, d2, d3] }
  | _ => none }
def DeviceBoundsWrongFalsely : Prop := deviceBoundsRow.holds Try.pinned (OpenSpec.ofChange deviceBoundsWrong)

/-- 'pintlelaw03.DeviceOf': WHATEVER THE INPUT: true; the input reads as it did. -/
def deviceOfSpec : ChangeSpec := { name := "deviceOf", fn := fun _ => fun
  | [d1, d2, d3] => { results := [.lit (.bool true)], args := [d1, d2, d3] }
  | _ => none }
def deviceOfRow : OpenClaim := { program := "ytlbnbmojgdoieaa", sum := "0ea626cb37d2b14732b5058966b99f9d33413af665b17be8eb004a35448f9990", func := "pintle/pintlelaw03.DeviceOf", spec := "deviceOf", inPlace := ["internal/abi.NoEscape"], unfollowed := true, recurses := true, apart := false }
def DeviceOfSaid : Prop := deviceOfRow.holds Try.pinned (OpenSpec.ofChange deviceOfSpec)

/-- ITS FALSE NEIGHBOUR: 'it returns false'. Refute it at one input. -/
def deviceOfWrong : ChangeSpec := { name := "deviceOf", fn := fun _ => fun
  | [d1, d2, d3] => { results := [.lit (.bool false)], args := [d1, d2, d3] }
  | _ => none }
def DeviceOfWrongFalsely : Prop := deviceOfRow.holds Try.pinned (OpenSpec.ofChange deviceOfWrong)

/-- 'pintlelaw03.DeviceImage': WHATEVER THE INPUT: true; the input reads as it did. -/
def deviceImageSpec : ChangeSpec := { name := "deviceImage", fn := fun _ => fun
  | [d1, d2, d3] => { results := [.lit (.bool true)], args := [d1, d2, d3] }
  | _ => none }
def deviceImageRow : OpenClaim := { program := "ytlbnbmojgdoieaa", sum := "0ea626cb37d2b14732b5058966b99f9d33413af665b17be8eb004a35448f9990", func := "pintle/pintlelaw03.DeviceImage", spec := "deviceImage", inPlace := ["internal/abi.NoEscape"], unfollowed := true, recurses := true, apart := false }
def DeviceImageSaid : Prop := deviceImageRow.holds Try.pinned (OpenSpec.ofChange deviceImageSpec)

/-- ITS FALSE NEIGHBOUR: 'it returns false'. Refute it at one input. -/
def deviceImageWrong : ChangeSpec := { name := "deviceImage", fn := fun _ => fun
  | [d1, d2, d3] => { results := [.lit (.bool false)], args := [d1, d2, d3] }
  | _ => none }
def DeviceImageWrongFalsely : Prop := deviceImageRow.holds Try.pinned (OpenSpec.ofChange deviceImageWrong)

/-- 'pintlelaw03.DeviceTwice': WHATEVER THE INPUT: true; the input reads as it did. -/
def deviceTwiceSpec : ChangeSpec := { name := "deviceTwice", fn := fun _ => fun
  | [d1, d2, d3] => { results := [.lit (.bool true)], args := [d1, d2, d3] }
  | _ => none }
def deviceTwiceRow : OpenClaim := { program := "ytlbnbmojgdoieaa", sum := "0ea626cb37d2b14732b5058966b99f9d33413af665b17be8eb004a35448f9990", func := "pintle/pintlelaw03.DeviceTwice", spec := "deviceTwice", unfollowed := true, recurses := true, apart := false }
def DeviceTwiceSaid : Prop := deviceTwiceRow.holds Try.pinned (OpenSpec.ofChange deviceTwiceSpec)

/-- ITS FALSE NEIGHBOUR: 'it returns false'. Refute it at one input. -/
def deviceTwiceWrong : ChangeSpec := { name := "deviceTwice", fn := fun _ => fun
  | [d1, d2, d3] => { results := [.lit (.bool false)], args := [d1, d2, d3] }
  | _ => none }
def DeviceTwiceWrongFalsely : Prop := deviceTwiceRow.holds Try.pinned (OpenSpec.ofChange deviceTwiceWrong)

/-- 'pintlelaw03.DeviceKeeps': WHATEVER THE INPUT: true; the input reads as it did. -/
def deviceKeepsSpec : ChangeSpec := { name := "deviceKeeps", fn := fun _ => fun
  | [d1, d2, d3] => { results := [.lit (.bool true)], args := [d1, d2, d3] }
  | _ => none }
def deviceKeepsRow : OpenClaim := { program := "ytlbnbmojgdoieaa", sum := "0ea626cb37d2b14732b5058966b99f9d33413af665b17be8eb004a35448f9990", func := "pintle/pintlelaw03.DeviceKeeps", spec := "deviceKeeps", unfollowed := true, recurses := true, apart := false }
def DeviceKeepsSaid : Prop := deviceKeepsRow.holds Try.pinned (OpenSpec.ofChange deviceKeepsSpec)

/-- ITS FALSE NEIGHBOUR: 'it returns false'. Refute it at one input. -/
def deviceKeepsWrong : ChangeSpec := { name := "deviceKeeps", fn := fun _ => fun
  | [d1, d2, d3] => { results := [.lit (.bool false)], args := [d1, d2, d3] }
  | _ => none }
def DeviceKeepsWrongFalsely : Prop := deviceKeepsRow.holds Try.pinned (OpenSpec.ofChange deviceKeepsWrong)

/-- 'pintlelaw03.DeviceCrashes': WHATEVER THE INPUT: true; the input reads as it did. -/
def deviceCrashesSpec : ChangeSpec := { name := "deviceCrashes", fn := fun _ => fun
  | [d] => { results := [.lit (.bool true)], args := [d] }
  | _ => none }
def deviceCrashesRow : OpenClaim := { program := "ytlbnbmojgdoieaa", sum := "0ea626cb37d2b14732b5058966b99f9d33413af665b17be8eb004a35448f9990", func := "pintle/pintlelaw03.DeviceCrashes", spec := "deviceCrashes", unfollowed := true, recurses := true, apart := false }
def DeviceCrashesSaid : Prop := deviceCrashesRow.holds Try.pinned (OpenSpec.ofChange deviceCrashesSpec)

/-- ITS FALSE NEIGHBOUR: 'it returns false'. Refute it at one input. -/
def deviceCrashesWrong : ChangeSpec := { name := "deviceCrashes", fn := fun _ => fun
  | [d] => { results := [.lit (.bool false)], args := [d] }
  | _ => none }
def DeviceCrashesWrongFalsely : Prop := deviceCrashesRow.holds Try.pinned (OpenSpec.ofChange deviceCrashesWrong)

/-- 'pintlelaw03.DevicePlays': WHATEVER THE INPUT: true; the input reads as it did. -/
def devicePlaysSpec : ChangeSpec := { name := "devicePlays", fn := fun _ => fun
  | [d1, d2, d3] => { results := [.lit (.bool true)], args := [d1, d2, d3] }
  | _ => none }
def devicePlaysRow : OpenClaim := { program := "ytlbnbmojgdoieaa", sum := "0ea626cb37d2b14732b5058966b99f9d33413af665b17be8eb004a35448f9990", func := "pintle/pintlelaw03.DevicePlays", spec := "devicePlays", inPlace := ["internal/abi.NoEscape"], unfollowed := true, recurses := true, apart := false }
def DevicePlaysSaid : Prop := devicePlaysRow.holds Try.pinned (OpenSpec.ofChange devicePlaysSpec)

/-- ITS FALSE NEIGHBOUR: 'it returns false'. Refute it at one input. -/
def devicePlaysWrong : ChangeSpec := { name := "devicePlays", fn := fun _ => fun
  | [d1, d2, d3] => { results := [.lit (.bool false)], args := [d1, d2, d3] }
  | _ => none }
def DevicePlaysWrongFalsely : Prop := devicePlaysRow.holds Try.pinned (OpenSpec.ofChange devicePlaysWrong)

/-- 'pintlelaw11.AreaCodes': WHATEVER THE INPUT: true; the input reads as it did. -/
def areaCodesSpec : ChangeSpec := { name := "areaCodes", fn := fun _ => fun
  | [d1, d2, d3, d4, d5, d6, d7, d8] => { results := [.lit (.bool true)], args := [d1, d2, d3, d4, d5, d6, d7, d8] }
  | _ => none }
def areaCodesRow : OpenClaim := { program := "ytlbnbmojgdoieaa", sum := "0ea626cb37d2b14732b5058966b99f9d33413af665b17be8eb004a35448f9990", func := "pintle/pintlelaw11.AreaCodes", spec := "areaCodes", unfollowed := true, recurses := true, apart := false }
def AreaCodesSaid : Prop := areaCodesRow.holds Try.pinned (OpenSpec.ofChange areaCodesSpec)

/-- ITS FALSE NEIGHBOUR: 'it returns false'. Refute it at one input. -/
def areaCodesWrong : ChangeSpec := { name := "areaCodes", fn := fun _ => fun
  | [d1, d2, d3, d4, d5, d6, d7, d8] => { results := [.lit (.bool false)], args := [d1, d2, d3, d4, d5, d6, d7, d8] }
  | _ => none }
def AreaCodesWrongFalsely : Prop := areaCodesRow.holds Try.pinned (OpenSpec.ofChange areaCodesWrong)

/-- 'pintlelaw11.AreaBack': WHATEVER THE INPUT: true; the input reads as it did. -/
def areaBackSpec : ChangeSpec := { name := "areaBack", fn := fun _ => fun
  | [d1, d2, d3, d4] => { results := [.lit (.bool true)], args := [d1, d2, d3, d4] }
  | _ => none }
def areaBackRow : OpenClaim := { program := "ytlbnbmojgdoieaa", sum := "0ea626cb37d2b14732b5058966b99f9d33413af665b17be8eb004a35448f9990", func := "pintle/pintlelaw11.AreaBack", spec := "areaBack", inPlace := ["internal/abi.NoEscape"], unfollowed := true, recurses := true, apart := false }
def AreaBackSaid : Prop := areaBackRow.holds Try.pinned (OpenSpec.ofChange areaBackSpec)

/-- ITS FALSE NEIGHBOUR: 'it returns false'. Refute it at one input. -/
def areaBackWrong : ChangeSpec := { name := "areaBack", fn := fun _ => fun
  | [d1, d2, d3, d4] => { results := [.lit (.bool false)], args := [d1, d2, d3, d4] }
  | _ => none }
def AreaBackWrongFalsely : Prop := areaBackRow.holds Try.pinned (OpenSpec.ofChange areaBackWrong)

/-- 'pintlelaw11.AreaOver': WHATEVER THE INPUT: true; the input reads as it did. -/
def areaOverSpec : ChangeSpec := { name := "areaOver", fn := fun _ => fun
  | [d1, d2, d3, d4] => { results := [.lit (.bool true)], args := [d1, d2, d3, d4] }
  | _ => none }
def areaOverRow : OpenClaim := { program := "ytlbnbmojgdoieaa", sum := "0ea626cb37d2b14732b5058966b99f9d33413af665b17be8eb004a35448f9990", func := "pintle/pintlelaw11.AreaOver", spec := "areaOver", inPlace := ["internal/abi.NoEscape"], unfollowed := true, recurses := true, apart := false }
def AreaOverSaid : Prop := areaOverRow.holds Try.pinned (OpenSpec.ofChange areaOverSpec)

/-- ITS FALSE NEIGHBOUR: 'it returns false'. Refute it at one input. -/
def areaOverWrong : ChangeSpec := { name := "areaOver", fn := fun _ => fun
  | [d1, d2, d3, d4] => { results := [.lit (.bool false)], args := [d1, d2, d3, d4] }
  | _ => none }
def AreaOverWrongFalsely : Prop := areaOverRow.holds Try.pinned (OpenSpec.ofChange areaOverWrong)

/-- 'pintlelaw11.AreaPlays': WHATEVER THE INPUT: true; the input reads as it did. -/
def areaPlaysSpec : ChangeSpec := { name := "areaPlays", fn := fun _ => fun
  | [d1, d2, d3, d4, d5, d6, d7] => { results := [.lit (.bool true)], args := [d1, d2, d3, d4, d5, d6, d7] }
  | _ => none }
def areaPlaysRow : OpenClaim := { program := "ytlbnbmojgdoieaa", sum := "0ea626cb37d2b14732b5058966b99f9d33413af665b17be8eb004a35448f9990", func := "pintle/pintlelaw11.AreaPlays", spec := "areaPlays", inPlace := ["internal/abi.NoEscape"], unfollowed := true, recurses := true, apart := false }
def AreaPlaysSaid : Prop := areaPlaysRow.holds Try.pinned (OpenSpec.ofChange areaPlaysSpec)

/-- ITS FALSE NEIGHBOUR: 'it returns false'. Refute it at one input. -/
def areaPlaysWrong : ChangeSpec := { name := "areaPlays", fn := fun _ => fun
  | [d1, d2, d3, d4, d5, d6, d7] => { results := [.lit (.bool false)], args := [d1, d2, d3, d4, d5, d6, d7] }
  | _ => none }
def AreaPlaysWrongFalsely : Prop := areaPlaysRow.holds Try.pinned (OpenSpec.ofChange areaPlaysWrong)

/-- 'pintlelaw11.AreaRooms': WHATEVER THE INPUT: true; the input reads as it did. -/
def areaRoomsSpec : ChangeSpec := { name := "areaRooms", fn := fun _ => fun
  | [d1, d2] => { results := [.lit (.bool true)], args := [d1, d2] }
  | _ => none }
def areaRoomsRow : OpenClaim := { program := "ytlbnbmojgdoieaa", sum := "0ea626cb37d2b14732b5058966b99f9d33413af665b17be8eb004a35448f9990", func := "pintle/pintlelaw11.AreaRooms", spec := "areaRooms", inPlace := ["internal/abi.NoEscape"], unfollowed := true, recurses := true, apart := false }
def AreaRoomsSaid : Prop := areaRoomsRow.holds Try.pinned (OpenSpec.ofChange areaRoomsSpec)

/-- ITS FALSE NEIGHBOUR: 'it returns false'. Refute it at one input. -/
def areaRoomsWrong : ChangeSpec := { name := "areaRooms", fn := fun _ => fun
  | [d1, d2] => { results := [.lit (.bool false)], args := [d1, d2] }
  | _ => none }
def AreaRoomsWrongFalsely : Prop := areaRoomsRow.holds Try.pinned (OpenSpec.ofChange areaRoomsWrong)

/- THE SECOND FORM. 'bulk': how many values and letters a reading holds, each counted each time it is reached (what is shared counts as often as it is met; a slice's spare places count too). A statement '..UptoSaid' is the law's where the arguments, and the package variables that the reading takes, are together of bulk at most 1048576: NARROWER than '..Said'. Prove '..Said' where nothing that the law and all that it calls make is longer than what came in: it says more and counts as full. Else prove '..UptoSaid'. A law counts once. -/
mutual
def uptoBulk {H : Type} : DataW H → Nat
  | .lit (.string bytes) => bytes.length + 1
  | .lit _ => 1
  | .nil => 1
  | .ptr d => uptoBulk d + 1
  | .slice elems spare => uptoBulkAll elems + uptoBulkAll spare + 1
  | .agg parts => uptoBulkAll parts + 1
  | .iface _ d => uptoBulk d + 1
  | .map entries => uptoBulkEntries entries + 1
  | .held _ => 1
def uptoBulkAll {H : Type} : List (DataW H) → Nat
  | [] => 0
  | d :: r => uptoBulk d + uptoBulkAll r
def uptoBulkEntries {H : Type} : List (Lit × DataW H) → Nat
  | [] => 0
  | x :: r => uptoBulkEntry x + uptoBulkEntries r
def uptoBulkEntry {H : Type} : Lit × DataW H → Nat
  | (.string bytes, d) => bytes.length + uptoBulk d + 1
  | (_, d) => uptoBulk d + 1
 end
def uptoSmall : (H : Type) → List (DataW H) → Bool := fun _ ds => decide (uptoBulkAll ds ≤ 1048576)
def OpenSpec.upto (s : _root_.Go.ChangeSpec) : _root_.Go.OpenSpec := { _root_.Go.OpenSpec.ofChange s with cond := some uptoSmall }

/-- 'pintlelaw03.DeviceBounds', WHERE WHAT IT READS IS OF BULK AT MOST 1048576: true; the input reads as it did. -/
def deviceBoundsUptoRow : OpenClaim := { program := "ytlbnbmojgdoieaa", sum := "0ea626cb37d2b14732b5058966b99f9d33413af665b17be8eb004a35448f9990", func := "pintle/pintlelaw03.DeviceBounds", spec := "deviceBounds", inPlace := ["internal/abi.NoEscape"], unfollowed := true, recurses := true, apart := false, narrowed := true }
def DeviceBoundsUptoSaid : Prop := deviceBoundsUptoRow.holds Try.pinned (OpenSpec.upto deviceBoundsSpec)

/-- 'pintlelaw03.DeviceOf', WHERE WHAT IT READS IS OF BULK AT MOST 1048576: true; the input reads as it did. -/
def deviceOfUptoRow : OpenClaim := { program := "ytlbnbmojgdoieaa", sum := "0ea626cb37d2b14732b5058966b99f9d33413af665b17be8eb004a35448f9990", func := "pintle/pintlelaw03.DeviceOf", spec := "deviceOf", inPlace := ["internal/abi.NoEscape"], unfollowed := true, recurses := true, apart := false, narrowed := true }
def DeviceOfUptoSaid : Prop := deviceOfUptoRow.holds Try.pinned (OpenSpec.upto deviceOfSpec)

/-- 'pintlelaw03.DeviceImage', WHERE WHAT IT READS IS OF BULK AT MOST 1048576: true; the input reads as it did. -/
def deviceImageUptoRow : OpenClaim := { program := "ytlbnbmojgdoieaa", sum := "0ea626cb37d2b14732b5058966b99f9d33413af665b17be8eb004a35448f9990", func := "pintle/pintlelaw03.DeviceImage", spec := "deviceImage", inPlace := ["internal/abi.NoEscape"], unfollowed := true, recurses := true, apart := false, narrowed := true }
def DeviceImageUptoSaid : Prop := deviceImageUptoRow.holds Try.pinned (OpenSpec.upto deviceImageSpec)

/-- 'pintlelaw03.DeviceTwice', WHERE WHAT IT READS IS OF BULK AT MOST 1048576: true; the input reads as it did. -/
def deviceTwiceUptoRow : OpenClaim := { program := "ytlbnbmojgdoieaa", sum := "0ea626cb37d2b14732b5058966b99f9d33413af665b17be8eb004a35448f9990", func := "pintle/pintlelaw03.DeviceTwice", spec := "deviceTwice", unfollowed := true, recurses := true, apart := false, narrowed := true }
def DeviceTwiceUptoSaid : Prop := deviceTwiceUptoRow.holds Try.pinned (OpenSpec.upto deviceTwiceSpec)

/-- 'pintlelaw03.DeviceKeeps', WHERE WHAT IT READS IS OF BULK AT MOST 1048576: true; the input reads as it did. -/
def deviceKeepsUptoRow : OpenClaim := { program := "ytlbnbmojgdoieaa", sum := "0ea626cb37d2b14732b5058966b99f9d33413af665b17be8eb004a35448f9990", func := "pintle/pintlelaw03.DeviceKeeps", spec := "deviceKeeps", unfollowed := true, recurses := true, apart := false, narrowed := true }
def DeviceKeepsUptoSaid : Prop := deviceKeepsUptoRow.holds Try.pinned (OpenSpec.upto deviceKeepsSpec)

/-- 'pintlelaw03.DeviceCrashes', WHERE WHAT IT READS IS OF BULK AT MOST 1048576: true; the input reads as it did. -/
def deviceCrashesUptoRow : OpenClaim := { program := "ytlbnbmojgdoieaa", sum := "0ea626cb37d2b14732b5058966b99f9d33413af665b17be8eb004a35448f9990", func := "pintle/pintlelaw03.DeviceCrashes", spec := "deviceCrashes", unfollowed := true, recurses := true, apart := false, narrowed := true }
def DeviceCrashesUptoSaid : Prop := deviceCrashesUptoRow.holds Try.pinned (OpenSpec.upto deviceCrashesSpec)

/-- 'pintlelaw03.DevicePlays', WHERE WHAT IT READS IS OF BULK AT MOST 1048576: true; the input reads as it did. -/
def devicePlaysUptoRow : OpenClaim := { program := "ytlbnbmojgdoieaa", sum := "0ea626cb37d2b14732b5058966b99f9d33413af665b17be8eb004a35448f9990", func := "pintle/pintlelaw03.DevicePlays", spec := "devicePlays", inPlace := ["internal/abi.NoEscape"], unfollowed := true, recurses := true, apart := false, narrowed := true }
def DevicePlaysUptoSaid : Prop := devicePlaysUptoRow.holds Try.pinned (OpenSpec.upto devicePlaysSpec)

/-- 'pintlelaw11.AreaCodes', WHERE WHAT IT READS IS OF BULK AT MOST 1048576: true; the input reads as it did. -/
def areaCodesUptoRow : OpenClaim := { program := "ytlbnbmojgdoieaa", sum := "0ea626cb37d2b14732b5058966b99f9d33413af665b17be8eb004a35448f9990", func := "pintle/pintlelaw11.AreaCodes", spec := "areaCodes", unfollowed := true, recurses := true, apart := false, narrowed := true }
def AreaCodesUptoSaid : Prop := areaCodesUptoRow.holds Try.pinned (OpenSpec.upto areaCodesSpec)

/-- 'pintlelaw11.AreaBack', WHERE WHAT IT READS IS OF BULK AT MOST 1048576: true; the input reads as it did. -/
def areaBackUptoRow : OpenClaim := { program := "ytlbnbmojgdoieaa", sum := "0ea626cb37d2b14732b5058966b99f9d33413af665b17be8eb004a35448f9990", func := "pintle/pintlelaw11.AreaBack", spec := "areaBack", inPlace := ["internal/abi.NoEscape"], unfollowed := true, recurses := true, apart := false, narrowed := true }
def AreaBackUptoSaid : Prop := areaBackUptoRow.holds Try.pinned (OpenSpec.upto areaBackSpec)

/-- 'pintlelaw11.AreaOver', WHERE WHAT IT READS IS OF BULK AT MOST 1048576: true; the input reads as it did. -/
def areaOverUptoRow : OpenClaim := { program := "ytlbnbmojgdoieaa", sum := "0ea626cb37d2b14732b5058966b99f9d33413af665b17be8eb004a35448f9990", func := "pintle/pintlelaw11.AreaOver", spec := "areaOver", inPlace := ["internal/abi.NoEscape"], unfollowed := true, recurses := true, apart := false, narrowed := true }
def AreaOverUptoSaid : Prop := areaOverUptoRow.holds Try.pinned (OpenSpec.upto areaOverSpec)

/-- 'pintlelaw11.AreaPlays', WHERE WHAT IT READS IS OF BULK AT MOST 1048576: true; the input reads as it did. -/
def areaPlaysUptoRow : OpenClaim := { program := "ytlbnbmojgdoieaa", sum := "0ea626cb37d2b14732b5058966b99f9d33413af665b17be8eb004a35448f9990", func := "pintle/pintlelaw11.AreaPlays", spec := "areaPlays", inPlace := ["internal/abi.NoEscape"], unfollowed := true, recurses := true, apart := false, narrowed := true }
def AreaPlaysUptoSaid : Prop := areaPlaysUptoRow.holds Try.pinned (OpenSpec.upto areaPlaysSpec)

/-- 'pintlelaw11.AreaRooms', WHERE WHAT IT READS IS OF BULK AT MOST 1048576: true; the input reads as it did. -/
def areaRoomsUptoRow : OpenClaim := { program := "ytlbnbmojgdoieaa", sum := "0ea626cb37d2b14732b5058966b99f9d33413af665b17be8eb004a35448f9990", func := "pintle/pintlelaw11.AreaRooms", spec := "areaRooms", inPlace := ["internal/abi.NoEscape"], unfollowed := true, recurses := true, apart := false, narrowed := true }
def AreaRoomsUptoSaid : Prop := areaRoomsUptoRow.holds Try.pinned (OpenSpec.upto areaRoomsSpec)

end Rows
end Go.Proofs.Ytlbnbmojgdoieaa
