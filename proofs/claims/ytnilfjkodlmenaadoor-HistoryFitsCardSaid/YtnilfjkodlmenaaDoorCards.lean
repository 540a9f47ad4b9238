/-
  DERIVED. GIVEN WITH THE SEED: THE CARDS: each row of YtnilfjkodlmenaaDoorRows.lean that lists a variable, with what it lists TIED to the program's text (the seventh form; the later family's looks); each row that meets fmt, with fmt's text TOLD by the authors' own Lean function (tested against real Go, not proved from fmt's source: count such statements apart). THE CARD IS WHAT COUNTS. Prove the row's statement (the work); the ties are given (YtnilfjkodlmenaaDoorTie.lean); close each card by the builder's one call (the guide's Derived/Test/ToyasCard.lean, 'card_holds'). Laid BY PROGRAM, IN A SANDBOX (cutbox-door.mjs). By AI agents, Wed Nov 11 2026. No macro, syntax, notation, axiom, sorry.
-/
import Derived.Test.YtnilfjkodlmenaaDoorRows
import GoSem.ClaimSeven
namespace Go.Proofs.YtnilfjkodlmenaaDoor
namespace Rows

/-- THE TIED CARD OF 'pintlelaw21.HistoryOrders'. -/
def historyOrdersCard : Claim7 := { stood := { row := historyOrdersRow, standIns := [], harness := (true, "822cd04fc5c8b37ce7fd7323dc38d204a520e1a3825261e813cc3fa90d5cd8e4"), looks := false }, kinds := [], alts := [], laidByText := true, laidKinds := [.data, .data, .data], laidTests := true, laidLooks := .later }
def HistoryOrdersCardSaid : Prop := Claim7.holds Tryd.pinned (.plain (OpenSpec.ofChange historyOrdersSpec)) historyOrdersCard

/-- THE TIED CARD OF 'pintlelaw21.HistoryOne'. -/
def historyOneCard : Claim7 := { stood := { row := historyOneRow, standIns := [], harness := (true, "822cd04fc5c8b37ce7fd7323dc38d204a520e1a3825261e813cc3fa90d5cd8e4"), looks := false }, kinds := [], alts := [], laidByText := true, laidKinds := [.data, .data, .data], laidTests := true, laidLooks := .later }
def HistoryOneCardSaid : Prop := Claim7.holds Tryd.pinned (.plain (OpenSpec.ofChange historyOneSpec)) historyOneCard

/-- THE TIED CARD OF 'pintlelaw21.HistoryOver'. -/
def historyOverCard : Claim7 := { stood := { row := historyOverRow, standIns := [], harness := (true, "822cd04fc5c8b37ce7fd7323dc38d204a520e1a3825261e813cc3fa90d5cd8e4"), looks := false }, kinds := [], alts := [], laidByText := true, laidKinds := [.data, .data, .data], laidTests := true, laidLooks := .later }
def HistoryOverCardSaid : Prop := Claim7.holds Tryd.pinned (.plain (OpenSpec.ofChange historyOverSpec)) historyOverCard

/-- THE TIED CARD OF 'pintlelaw21.HistoryLost'. -/
def historyLostCard : Claim7 := { stood := { row := historyLostRow, standIns := [], harness := (true, "822cd04fc5c8b37ce7fd7323dc38d204a520e1a3825261e813cc3fa90d5cd8e4"), looks := false }, kinds := [], alts := [], laidByText := true, laidKinds := [.data, .data, .data], laidTests := true, laidLooks := .later }
def HistoryLostCardSaid : Prop := Claim7.holds Tryd.pinned (.plain (OpenSpec.ofChange historyLostSpec)) historyLostCard

/-- THE TIED CARD OF 'pintlelaw21.HistoryShift'. -/
def historyShiftCard : Claim7 := { stood := { row := historyShiftRow, standIns := [], harness := (true, "822cd04fc5c8b37ce7fd7323dc38d204a520e1a3825261e813cc3fa90d5cd8e4"), looks := false }, kinds := [], alts := [], laidByText := true, laidKinds := [.data, .data, .data], laidTests := true, laidLooks := .later }
def HistoryShiftCardSaid : Prop := Claim7.holds Tryd.pinned (.plain (OpenSpec.ofChange historyShiftSpec)) historyShiftCard

/-- THE TIED CARD OF 'pintlelaw21.HistoryFits'. -/
def historyFitsCard : Claim7 := { stood := { row := historyFitsRow, standIns := [], harness := (true, "822cd04fc5c8b37ce7fd7323dc38d204a520e1a3825261e813cc3fa90d5cd8e4"), looks := false }, kinds := [], alts := [], laidByText := true, laidKinds := [.data, .data, .data], laidTests := true, laidLooks := .later }
def HistoryFitsCardSaid : Prop := Claim7.holds Tryd.pinned (.plain (OpenSpec.ofChange historyFitsSpec)) historyFitsCard

/-- THE SECOND FORM's CARD OF 'pintlelaw21.HistoryOrders'. -/
def historyOrdersUptoCard : Claim7 := { stood := { row := historyOrdersUptoRow, standIns := [], harness := (true, "822cd04fc5c8b37ce7fd7323dc38d204a520e1a3825261e813cc3fa90d5cd8e4"), looks := false }, kinds := [], alts := [], laidByText := true, laidKinds := [.data, .data, .data], laidTests := true, laidLooks := .later }
def HistoryOrdersUptoCardSaid : Prop := Claim7.holds Tryd.pinned (.plain (OpenSpec.upto historyOrdersSpec)) historyOrdersUptoCard

/-- THE SECOND FORM's CARD OF 'pintlelaw21.HistoryOne'. -/
def historyOneUptoCard : Claim7 := { stood := { row := historyOneUptoRow, standIns := [], harness := (true, "822cd04fc5c8b37ce7fd7323dc38d204a520e1a3825261e813cc3fa90d5cd8e4"), looks := false }, kinds := [], alts := [], laidByText := true, laidKinds := [.data, .data, .data], laidTests := true, laidLooks := .later }
def HistoryOneUptoCardSaid : Prop := Claim7.holds Tryd.pinned (.plain (OpenSpec.upto historyOneSpec)) historyOneUptoCard

/-- THE SECOND FORM's CARD OF 'pintlelaw21.HistoryOver'. -/
def historyOverUptoCard : Claim7 := { stood := { row := historyOverUptoRow, standIns := [], harness := (true, "822cd04fc5c8b37ce7fd7323dc38d204a520e1a3825261e813cc3fa90d5cd8e4"), looks := false }, kinds := [], alts := [], laidByText := true, laidKinds := [.data, .data, .data], laidTests := true, laidLooks := .later }
def HistoryOverUptoCardSaid : Prop := Claim7.holds Tryd.pinned (.plain (OpenSpec.upto historyOverSpec)) historyOverUptoCard

/-- THE SECOND FORM's CARD OF 'pintlelaw21.HistoryLost'. -/
def historyLostUptoCard : Claim7 := { stood := { row := historyLostUptoRow, standIns := [], harness := (true, "822cd04fc5c8b37ce7fd7323dc38d204a520e1a3825261e813cc3fa90d5cd8e4"), looks := false }, kinds := [], alts := [], laidByText := true, laidKinds := [.data, .data, .data], laidTests := true, laidLooks := .later }
def HistoryLostUptoCardSaid : Prop := Claim7.holds Tryd.pinned (.plain (OpenSpec.upto historyLostSpec)) historyLostUptoCard

/-- THE SECOND FORM's CARD OF 'pintlelaw21.HistoryShift'. -/
def historyShiftUptoCard : Claim7 := { stood := { row := historyShiftUptoRow, standIns := [], harness := (true, "822cd04fc5c8b37ce7fd7323dc38d204a520e1a3825261e813cc3fa90d5cd8e4"), looks := false }, kinds := [], alts := [], laidByText := true, laidKinds := [.data, .data, .data], laidTests := true, laidLooks := .later }
def HistoryShiftUptoCardSaid : Prop := Claim7.holds Tryd.pinned (.plain (OpenSpec.upto historyShiftSpec)) historyShiftUptoCard

/-- THE SECOND FORM's CARD OF 'pintlelaw21.HistoryFits'. -/
def historyFitsUptoCard : Claim7 := { stood := { row := historyFitsUptoRow, standIns := [], harness := (true, "822cd04fc5c8b37ce7fd7323dc38d204a520e1a3825261e813cc3fa90d5cd8e4"), looks := false }, kinds := [], alts := [], laidByText := true, laidKinds := [.data, .data, .data], laidTests := true, laidLooks := .later }
def HistoryFitsUptoCardSaid : Prop := Claim7.holds Tryd.pinned (.plain (OpenSpec.upto historyFitsSpec)) historyFitsUptoCard
end Rows
end Go.Proofs.YtnilfjkodlmenaaDoor
