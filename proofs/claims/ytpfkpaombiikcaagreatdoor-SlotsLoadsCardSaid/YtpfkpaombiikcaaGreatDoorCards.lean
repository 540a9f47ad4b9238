/-
  DERIVED. GIVEN WITH THE SEED: THE CARDS: each row of YtpfkpaombiikcaaGreatDoorRows.lean that lists a variable, with what it lists TIED to the program's text (the seventh form; the later family's looks); each row that meets fmt, with fmt's text TOLD by the authors' own Lean function (tested against real Go, not proved from fmt's source: count such statements apart). THE CARD IS WHAT COUNTS. Prove the row's statement (the work); the ties are given (YtpfkpaombiikcaaGreatDoorTie.lean); close each card by the builder's one call (the guide's Derived/Test/ToyasCard.lean, 'card_holds'). Laid BY PROGRAM, IN A SANDBOX (cutbox-door.mjs). By AI agents, Wed Nov 11 2026. No macro, syntax, notation, axiom, sorry.
-/
import Derived.Test.YtpfkpaombiikcaaGreatDoorRows
import GoSem.ClaimSeven
namespace Go.Proofs.YtpfkpaombiikcaaGreatDoor
namespace Rows

/-- THE TIED CARD OF 'pintlelaw09.SlotsLoads'. -/
def slotsLoadsCard : Claim7 := { stood := { row := slotsLoadsRow, standIns := [], harness := (true, "b5075cf6316afa1b8a12771de9022a72cf63800908c4a49aaa2ad1b048deac10"), looks := false }, kinds := [], alts := [], laidByText := true, laidKinds := [.data, .pinned], laidTests := true, laidLooks := .later }
def SlotsLoadsCardSaid : Prop := Claim7.holds Tryz.pinned (.plain (OpenSpec.ofChange slotsLoadsSpec)) slotsLoadsCard

/-- THE SECOND FORM's CARD OF 'pintlelaw09.SlotsLoads'. -/
def slotsLoadsUptoCard : Claim7 := { stood := { row := slotsLoadsUptoRow, standIns := [], harness := (true, "b5075cf6316afa1b8a12771de9022a72cf63800908c4a49aaa2ad1b048deac10"), looks := false }, kinds := [], alts := [], laidByText := true, laidKinds := [.data, .pinned], laidTests := true, laidLooks := .later }
def SlotsLoadsUptoCardSaid : Prop := Claim7.holds Tryz.pinned (.plain (OpenSpec.upto slotsLoadsSpec)) slotsLoadsUptoCard
end Rows
end Go.Proofs.YtpfkpaombiikcaaGreatDoor
