/-
  DERIVED. GIVEN WITH THE SEED: THE CARDS: each row of YtpfkpaombiikcaaDoorRows.lean that lists a variable, with what it lists TIED to the program's text (the seventh form; the later family's looks); each row that meets fmt, with fmt's text TOLD by the authors' own Lean function (tested against real Go, not proved from fmt's source: count such statements apart). THE CARD IS WHAT COUNTS. Prove the row's statement (the work); the ties are given (YtpfkpaombiikcaaDoorTie.lean); close each card by the builder's one call (the guide's Derived/Test/ToyasCard.lean, 'card_holds'). Laid BY PROGRAM, IN A SANDBOX (cutbox-door.mjs). By AI agents, Wed Nov 11 2026. No macro, syntax, notation, axiom, sorry.
-/
import Derived.Test.YtpfkpaombiikcaaDoorRows
import GoSem.ClaimSeven
namespace Go.Proofs.YtpfkpaombiikcaaDoor
namespace Rows

/-- THE TIED CARD OF 'pintlelaw08.SuperCells'. -/
def superCellsCard : Claim7 := { stood := { row := superCellsRow, standIns := [], harness := (true, "0c38b9753474d356a7e4d1a1260e84e538a88631c71caad8815d46832b44c637"), looks := false }, kinds := [], alts := [], laidByText := true, laidKinds := [.data, .pinned], laidTests := true, laidLooks := .later }
def SuperCellsCardSaid : Prop := Claim7.holds Tryd.pinned (.plain (OpenSpec.ofChange superCellsSpec)) superCellsCard

/-- THE TIED CARD OF 'pintlelaw08.SuperTurns'. -/
def superTurnsCard : Claim7 := { stood := { row := superTurnsRow, standIns := [], harness := (true, "0c38b9753474d356a7e4d1a1260e84e538a88631c71caad8815d46832b44c637"), looks := false }, kinds := [], alts := [], laidByText := true, laidKinds := [.data, .pinned], laidTests := true, laidLooks := .later }
def SuperTurnsCardSaid : Prop := Claim7.holds Tryd.pinned (.plain (OpenSpec.ofChange superTurnsSpec)) superTurnsCard

/-- THE TIED CARD OF 'pintlelaw08.SuperNewest'. -/
def superNewestCard : Claim7 := { stood := { row := superNewestRow, standIns := [], harness := (true, "0c38b9753474d356a7e4d1a1260e84e538a88631c71caad8815d46832b44c637"), looks := false }, kinds := [], alts := [], laidByText := true, laidKinds := [.data, .pinned], laidTests := true, laidLooks := .later }
def SuperNewestCardSaid : Prop := Claim7.holds Tryd.pinned (.plain (OpenSpec.ofChange superNewestSpec)) superNewestCard

/-- THE TIED CARD OF 'pintlelaw08.SuperEnds'. -/
def superEndsCard : Claim7 := { stood := { row := superEndsRow, standIns := [], harness := (true, "0c38b9753474d356a7e4d1a1260e84e538a88631c71caad8815d46832b44c637"), looks := false }, kinds := [], alts := [], laidByText := true, laidKinds := [.data, .pinned], laidTests := true, laidLooks := .later }
def SuperEndsCardSaid : Prop := Claim7.holds Tryd.pinned (.plain (OpenSpec.ofChange superEndsSpec)) superEndsCard

/-- THE TIED CARD OF 'pintlelaw08.SuperHolds'. -/
def superHoldsCard : Claim7 := { stood := { row := superHoldsRow, standIns := [], harness := (true, "0c38b9753474d356a7e4d1a1260e84e538a88631c71caad8815d46832b44c637"), looks := false }, kinds := [], alts := [], laidByText := true, laidKinds := [.data, .pinned], laidTests := true, laidLooks := .later }
def SuperHoldsCardSaid : Prop := Claim7.holds Tryd.pinned (.plain (OpenSpec.ofChange superHoldsSpec)) superHoldsCard

/-- THE TIED CARD OF 'pintlelaw08.SuperPlays'. -/
def superPlaysCard : Claim7 := { stood := { row := superPlaysRow, standIns := [], harness := (true, "0c38b9753474d356a7e4d1a1260e84e538a88631c71caad8815d46832b44c637"), looks := false }, kinds := [], alts := [], laidByText := true, laidKinds := [.data, .pinned], laidTests := true, laidLooks := .later }
def SuperPlaysCardSaid : Prop := Claim7.holds Tryd.pinned (.plain (OpenSpec.ofChange superPlaysSpec)) superPlaysCard

/-- THE TIED CARD OF 'pintlelaw09.SlotsSets'. -/
def slotsSetsCard : Claim7 := { stood := { row := slotsSetsRow, standIns := [], harness := (true, "0c38b9753474d356a7e4d1a1260e84e538a88631c71caad8815d46832b44c637"), looks := false }, kinds := [], alts := [], laidByText := true, laidKinds := [.data, .pinned], laidTests := true, laidLooks := .later }
def SlotsSetsCardSaid : Prop := Claim7.holds Tryd.pinned (.plain (OpenSpec.ofChange slotsSetsSpec)) slotsSetsCard

/-- THE TIED CARD OF 'pintlelaw09.SlotsApart'. -/
def slotsApartCard : Claim7 := { stood := { row := slotsApartRow, standIns := [], harness := (true, "0c38b9753474d356a7e4d1a1260e84e538a88631c71caad8815d46832b44c637"), looks := false }, kinds := [], alts := [], laidByText := true, laidKinds := [.data, .pinned], laidTests := true, laidLooks := .later }
def SlotsApartCardSaid : Prop := Claim7.holds Tryd.pinned (.plain (OpenSpec.ofChange slotsApartSpec)) slotsApartCard

/-- THE SECOND FORM's CARD OF 'pintlelaw08.SuperCells'. -/
def superCellsUptoCard : Claim7 := { stood := { row := superCellsUptoRow, standIns := [], harness := (true, "0c38b9753474d356a7e4d1a1260e84e538a88631c71caad8815d46832b44c637"), looks := false }, kinds := [], alts := [], laidByText := true, laidKinds := [.data, .pinned], laidTests := true, laidLooks := .later }
def SuperCellsUptoCardSaid : Prop := Claim7.holds Tryd.pinned (.plain (OpenSpec.upto superCellsSpec)) superCellsUptoCard

/-- THE SECOND FORM's CARD OF 'pintlelaw08.SuperTurns'. -/
def superTurnsUptoCard : Claim7 := { stood := { row := superTurnsUptoRow, standIns := [], harness := (true, "0c38b9753474d356a7e4d1a1260e84e538a88631c71caad8815d46832b44c637"), looks := false }, kinds := [], alts := [], laidByText := true, laidKinds := [.data, .pinned], laidTests := true, laidLooks := .later }
def SuperTurnsUptoCardSaid : Prop := Claim7.holds Tryd.pinned (.plain (OpenSpec.upto superTurnsSpec)) superTurnsUptoCard

/-- THE SECOND FORM's CARD OF 'pintlelaw08.SuperNewest'. -/
def superNewestUptoCard : Claim7 := { stood := { row := superNewestUptoRow, standIns := [], harness := (true, "0c38b9753474d356a7e4d1a1260e84e538a88631c71caad8815d46832b44c637"), looks := false }, kinds := [], alts := [], laidByText := true, laidKinds := [.data, .pinned], laidTests := true, laidLooks := .later }
def SuperNewestUptoCardSaid : Prop := Claim7.holds Tryd.pinned (.plain (OpenSpec.upto superNewestSpec)) superNewestUptoCard

/-- THE SECOND FORM's CARD OF 'pintlelaw08.SuperEnds'. -/
def superEndsUptoCard : Claim7 := { stood := { row := superEndsUptoRow, standIns := [], harness := (true, "0c38b9753474d356a7e4d1a1260e84e538a88631c71caad8815d46832b44c637"), looks := false }, kinds := [], alts := [], laidByText := true, laidKinds := [.data, .pinned], laidTests := true, laidLooks := .later }
def SuperEndsUptoCardSaid : Prop := Claim7.holds Tryd.pinned (.plain (OpenSpec.upto superEndsSpec)) superEndsUptoCard

/-- THE SECOND FORM's CARD OF 'pintlelaw08.SuperHolds'. -/
def superHoldsUptoCard : Claim7 := { stood := { row := superHoldsUptoRow, standIns := [], harness := (true, "0c38b9753474d356a7e4d1a1260e84e538a88631c71caad8815d46832b44c637"), looks := false }, kinds := [], alts := [], laidByText := true, laidKinds := [.data, .pinned], laidTests := true, laidLooks := .later }
def SuperHoldsUptoCardSaid : Prop := Claim7.holds Tryd.pinned (.plain (OpenSpec.upto superHoldsSpec)) superHoldsUptoCard

/-- THE SECOND FORM's CARD OF 'pintlelaw08.SuperPlays'. -/
def superPlaysUptoCard : Claim7 := { stood := { row := superPlaysUptoRow, standIns := [], harness := (true, "0c38b9753474d356a7e4d1a1260e84e538a88631c71caad8815d46832b44c637"), looks := false }, kinds := [], alts := [], laidByText := true, laidKinds := [.data, .pinned], laidTests := true, laidLooks := .later }
def SuperPlaysUptoCardSaid : Prop := Claim7.holds Tryd.pinned (.plain (OpenSpec.upto superPlaysSpec)) superPlaysUptoCard

/-- THE SECOND FORM's CARD OF 'pintlelaw09.SlotsSets'. -/
def slotsSetsUptoCard : Claim7 := { stood := { row := slotsSetsUptoRow, standIns := [], harness := (true, "0c38b9753474d356a7e4d1a1260e84e538a88631c71caad8815d46832b44c637"), looks := false }, kinds := [], alts := [], laidByText := true, laidKinds := [.data, .pinned], laidTests := true, laidLooks := .later }
def SlotsSetsUptoCardSaid : Prop := Claim7.holds Tryd.pinned (.plain (OpenSpec.upto slotsSetsSpec)) slotsSetsUptoCard

/-- THE SECOND FORM's CARD OF 'pintlelaw09.SlotsApart'. -/
def slotsApartUptoCard : Claim7 := { stood := { row := slotsApartUptoRow, standIns := [], harness := (true, "0c38b9753474d356a7e4d1a1260e84e538a88631c71caad8815d46832b44c637"), looks := false }, kinds := [], alts := [], laidByText := true, laidKinds := [.data, .pinned], laidTests := true, laidLooks := .later }
def SlotsApartUptoCardSaid : Prop := Claim7.holds Tryd.pinned (.plain (OpenSpec.upto slotsApartSpec)) slotsApartUptoCard
end Rows
end Go.Proofs.YtpfkpaombiikcaaDoor
