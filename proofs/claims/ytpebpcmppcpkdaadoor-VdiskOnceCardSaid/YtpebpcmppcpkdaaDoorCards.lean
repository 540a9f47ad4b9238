/-
  DERIVED. GIVEN WITH THE SEED: THE CARDS: each row of YtpebpcmppcpkdaaDoorRows.lean that lists a variable, with what it lists TIED to the program's text (the seventh form; the later family's looks); each row that meets fmt, with fmt's text TOLD by the authors' own Lean function (tested against real Go, not proved from fmt's source: count such statements apart). THE CARD IS WHAT COUNTS. Prove the row's statement (the work); the ties are given (YtpebpcmppcpkdaaDoorTie.lean); close each card by the builder's one call (the guide's Derived/Test/ToyasCard.lean, 'card_holds'). Laid BY PROGRAM, IN A SANDBOX (cutbox-door.mjs). By AI agents, Wed Nov 11 2026. No macro, syntax, notation, axiom, sorry.
-/
import Derived.Test.YtpebpcmppcpkdaaDoorRows
import GoSem.ClaimSeven
namespace Go.Proofs.YtpebpcmppcpkdaaDoor
namespace Rows

/-- THE TIED CARD OF 'pintlelaw15.VdiskWrites'. -/
def vdiskWritesCard : Claim7 := { stood := { row := vdiskWritesRow, standIns := [], harness := (true, "5459a8b66c781d69348a27de57d27626b11efe5a71e4e247852bcea9368a1c82"), looks := false }, kinds := [], alts := [], laidByText := true, laidKinds := [.data, .pinned], laidTests := true, laidLooks := .later }
def VdiskWritesCardSaid : Prop := Claim7.holds Tryd.pinned (.plain (OpenSpec.ofChange vdiskWritesSpec)) vdiskWritesCard

/-- THE TIED CARD OF 'pintlelaw15.VdiskSwaps'. -/
def vdiskSwapsCard : Claim7 := { stood := { row := vdiskSwapsRow, standIns := [], harness := (true, "5459a8b66c781d69348a27de57d27626b11efe5a71e4e247852bcea9368a1c82"), looks := false }, kinds := [], alts := [], laidByText := true, laidKinds := [.data, .pinned], laidTests := true, laidLooks := .later }
def VdiskSwapsCardSaid : Prop := Claim7.holds Tryd.pinned (.plain (OpenSpec.ofChange vdiskSwapsSpec)) vdiskSwapsCard

/-- THE TIED CARD OF 'pintlelaw15.VdiskSizes'. -/
def vdiskSizesCard : Claim7 := { stood := { row := vdiskSizesRow, standIns := [], harness := (true, "5459a8b66c781d69348a27de57d27626b11efe5a71e4e247852bcea9368a1c82"), looks := false }, kinds := [], alts := [], laidByText := true, laidKinds := [.data, .pinned], laidTests := true, laidLooks := .later }
def VdiskSizesCardSaid : Prop := Claim7.holds Tryd.pinned (.plain (OpenSpec.ofChange vdiskSizesSpec)) vdiskSizesCard

/-- THE TIED CARD OF 'pintlelaw15.VdiskClients'. -/
def vdiskClientsCard : Claim7 := { stood := { row := vdiskClientsRow, standIns := [], harness := (true, "5459a8b66c781d69348a27de57d27626b11efe5a71e4e247852bcea9368a1c82"), looks := false }, kinds := [], alts := [], laidByText := true, laidKinds := [.data, .pinned], laidTests := true, laidLooks := .later }
def VdiskClientsCardSaid : Prop := Claim7.holds Tryd.pinned (.plain (OpenSpec.ofChange vdiskClientsSpec)) vdiskClientsCard

/-- THE TIED CARD OF 'pintlelaw15.VdiskOpens'. -/
def vdiskOpensCard : Claim7 := { stood := { row := vdiskOpensRow, standIns := [], harness := (true, "5459a8b66c781d69348a27de57d27626b11efe5a71e4e247852bcea9368a1c82"), looks := false }, kinds := [], alts := [], laidByText := true, laidKinds := [.data, .pinned], laidTests := true, laidLooks := .later }
def VdiskOpensCardSaid : Prop := Claim7.holds Tryd.pinned (.plain (OpenSpec.ofChange vdiskOpensSpec)) vdiskOpensCard

/-- THE TIED CARD OF 'pintlelaw15.VdiskOnce'. -/
def vdiskOnceCard : Claim7 := { stood := { row := vdiskOnceRow, standIns := [], harness := (true, "5459a8b66c781d69348a27de57d27626b11efe5a71e4e247852bcea9368a1c82"), looks := false }, kinds := [], alts := [], laidByText := true, laidKinds := [.data, .pinned], laidTests := true, laidLooks := .later }
def VdiskOnceCardSaid : Prop := Claim7.holds Tryd.pinned (.plain (OpenSpec.ofChange vdiskOnceSpec)) vdiskOnceCard

/-- THE TIED CARD OF 'pintlelaw15.VdiskBack'. -/
def vdiskBackCard : Claim7 := { stood := { row := vdiskBackRow, standIns := [], harness := (true, "5459a8b66c781d69348a27de57d27626b11efe5a71e4e247852bcea9368a1c82"), looks := false }, kinds := [], alts := [], laidByText := true, laidKinds := [.data, .pinned], laidTests := true, laidLooks := .later }
def VdiskBackCardSaid : Prop := Claim7.holds Tryd.pinned (.plain (OpenSpec.ofChange vdiskBackSpec)) vdiskBackCard

/-- THE SECOND FORM's CARD OF 'pintlelaw15.VdiskWrites'. -/
def vdiskWritesUptoCard : Claim7 := { stood := { row := vdiskWritesUptoRow, standIns := [], harness := (true, "5459a8b66c781d69348a27de57d27626b11efe5a71e4e247852bcea9368a1c82"), looks := false }, kinds := [], alts := [], laidByText := true, laidKinds := [.data, .pinned], laidTests := true, laidLooks := .later }
def VdiskWritesUptoCardSaid : Prop := Claim7.holds Tryd.pinned (.plain (OpenSpec.upto vdiskWritesSpec)) vdiskWritesUptoCard

/-- THE SECOND FORM's CARD OF 'pintlelaw15.VdiskSwaps'. -/
def vdiskSwapsUptoCard : Claim7 := { stood := { row := vdiskSwapsUptoRow, standIns := [], harness := (true, "5459a8b66c781d69348a27de57d27626b11efe5a71e4e247852bcea9368a1c82"), looks := false }, kinds := [], alts := [], laidByText := true, laidKinds := [.data, .pinned], laidTests := true, laidLooks := .later }
def VdiskSwapsUptoCardSaid : Prop := Claim7.holds Tryd.pinned (.plain (OpenSpec.upto vdiskSwapsSpec)) vdiskSwapsUptoCard

/-- THE SECOND FORM's CARD OF 'pintlelaw15.VdiskSizes'. -/
def vdiskSizesUptoCard : Claim7 := { stood := { row := vdiskSizesUptoRow, standIns := [], harness := (true, "5459a8b66c781d69348a27de57d27626b11efe5a71e4e247852bcea9368a1c82"), looks := false }, kinds := [], alts := [], laidByText := true, laidKinds := [.data, .pinned], laidTests := true, laidLooks := .later }
def VdiskSizesUptoCardSaid : Prop := Claim7.holds Tryd.pinned (.plain (OpenSpec.upto vdiskSizesSpec)) vdiskSizesUptoCard

/-- THE SECOND FORM's CARD OF 'pintlelaw15.VdiskClients'. -/
def vdiskClientsUptoCard : Claim7 := { stood := { row := vdiskClientsUptoRow, standIns := [], harness := (true, "5459a8b66c781d69348a27de57d27626b11efe5a71e4e247852bcea9368a1c82"), looks := false }, kinds := [], alts := [], laidByText := true, laidKinds := [.data, .pinned], laidTests := true, laidLooks := .later }
def VdiskClientsUptoCardSaid : Prop := Claim7.holds Tryd.pinned (.plain (OpenSpec.upto vdiskClientsSpec)) vdiskClientsUptoCard

/-- THE SECOND FORM's CARD OF 'pintlelaw15.VdiskOpens'. -/
def vdiskOpensUptoCard : Claim7 := { stood := { row := vdiskOpensUptoRow, standIns := [], harness := (true, "5459a8b66c781d69348a27de57d27626b11efe5a71e4e247852bcea9368a1c82"), looks := false }, kinds := [], alts := [], laidByText := true, laidKinds := [.data, .pinned], laidTests := true, laidLooks := .later }
def VdiskOpensUptoCardSaid : Prop := Claim7.holds Tryd.pinned (.plain (OpenSpec.upto vdiskOpensSpec)) vdiskOpensUptoCard

/-- THE SECOND FORM's CARD OF 'pintlelaw15.VdiskOnce'. -/
def vdiskOnceUptoCard : Claim7 := { stood := { row := vdiskOnceUptoRow, standIns := [], harness := (true, "5459a8b66c781d69348a27de57d27626b11efe5a71e4e247852bcea9368a1c82"), looks := false }, kinds := [], alts := [], laidByText := true, laidKinds := [.data, .pinned], laidTests := true, laidLooks := .later }
def VdiskOnceUptoCardSaid : Prop := Claim7.holds Tryd.pinned (.plain (OpenSpec.upto vdiskOnceSpec)) vdiskOnceUptoCard

/-- THE SECOND FORM's CARD OF 'pintlelaw15.VdiskBack'. -/
def vdiskBackUptoCard : Claim7 := { stood := { row := vdiskBackUptoRow, standIns := [], harness := (true, "5459a8b66c781d69348a27de57d27626b11efe5a71e4e247852bcea9368a1c82"), looks := false }, kinds := [], alts := [], laidByText := true, laidKinds := [.data, .pinned], laidTests := true, laidLooks := .later }
def VdiskBackUptoCardSaid : Prop := Claim7.holds Tryd.pinned (.plain (OpenSpec.upto vdiskBackSpec)) vdiskBackUptoCard
end Rows
end Go.Proofs.YtpebpcmppcpkdaaDoor
