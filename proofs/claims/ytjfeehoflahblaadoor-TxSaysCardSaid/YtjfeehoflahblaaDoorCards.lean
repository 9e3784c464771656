/-
  DERIVED. GIVEN WITH THE SEED: THE CARDS: each row of YtjfeehoflahblaaDoorRows.lean that lists a variable, with what it lists TIED to the program's text (the seventh form; the later family's looks); each row that meets fmt, with fmt's text TOLD by the authors' own Lean function (tested against real Go, not proved from fmt's source: count such statements apart). THE CARD IS WHAT COUNTS. Prove the row's statement (the work); the ties are given (YtjfeehoflahblaaDoorTie.lean); close each card by the builder's one call (the guide's Derived/Test/ToyasCard.lean, 'card_holds'). Laid BY PROGRAM, IN A SANDBOX (cutbox-door.mjs). By AI agents, Wed Nov 11 2026. No macro, syntax, notation, axiom, sorry.
-/
import Derived.Test.YtjfeehoflahblaaDoorRows
import GoSem.ClaimSeven
namespace Go.Proofs.YtjfeehoflahblaaDoor
namespace Rows

/-- THE TIED CARD OF 'sargassolaw4.TxSays'. -/
def txSaysCard : Claim7 := { stood := { row := txSaysRow, standIns := [], harness := (true, "00df0fa37be9057fed97bcd2b35553c0aa1d1946d9dd1b857a601258f7aff931"), looks := true }, kinds := [], alts := [], laidByText := true, laidKinds := [.sentinel, .sentinel, .sentinel, .sentinel, .sentinel, .sentinel, .sentinel, .sentinel, .sentinel, .sentinel, .sentinel, .sentinel, .sentinel, .sentinel, .sentinel, .sentinel, .sentinel, .sentinel, .sentinel, .sentinel, .sentinel, .sentinel, .sentinel, .sentinel, .sentinel], laidTests := true, laidLooks := .later }
def TxSaysCardSaid : Prop := Claim7.holds Tryd.pinned (.plain (OpenSpec.ofChange txSaysSpec)) txSaysCard

/-- THE TIED CARD OF 'sargassolaw24.RedoOrder'. -/
def redoOrderCard : Claim7 := { stood := { row := redoOrderRow, standIns := [], harness := (true, "00df0fa37be9057fed97bcd2b35553c0aa1d1946d9dd1b857a601258f7aff931"), looks := true }, kinds := [], alts := [], laidByText := true, laidKinds := [.sentinel], laidTests := true, laidLooks := .later }
def RedoOrderCardSaid : Prop := Claim7.holds Tryd.pinned (.plain (OpenSpec.ofChange redoOrderSpec)) redoOrderCard

/-- THE TIED CARD OF 'sargassolaw24.RedoOn'. -/
def redoOnCard : Claim7 := { stood := { row := redoOnRow, standIns := [], harness := (true, "00df0fa37be9057fed97bcd2b35553c0aa1d1946d9dd1b857a601258f7aff931"), looks := true }, kinds := [], alts := [], laidByText := true, laidKinds := [.sentinel], laidTests := true, laidLooks := .later }
def RedoOnCardSaid : Prop := Claim7.holds Tryd.pinned (.plain (OpenSpec.ofChange redoOnSpec)) redoOnCard

/-- THE TIED CARD OF 'sargassolaw7.BlockFirst'. -/
def blockFirstCard : Claim7 := { stood := { row := blockFirstRow, standIns := [], harness := (true, "00df0fa37be9057fed97bcd2b35553c0aa1d1946d9dd1b857a601258f7aff931"), looks := true }, kinds := [], alts := [], laidByText := true, laidKinds := [.sentinel, .sentinel, .sentinel, .sentinel, .sentinel, .sentinel, .sentinel, .sentinel], laidTests := true, laidLooks := .later }
def BlockFirstCardSaid : Prop := Claim7.holds Tryd.pinned (.plain (OpenSpec.ofChange blockFirstSpec)) blockFirstCard

/-- THE TIED CARD OF 'sargassolaw7.BlockKinds'. -/
def blockKindsCard : Claim7 := { stood := { row := blockKindsRow, standIns := [], harness := (true, "00df0fa37be9057fed97bcd2b35553c0aa1d1946d9dd1b857a601258f7aff931"), looks := true }, kinds := [], alts := [], laidByText := true, laidKinds := [.sentinel, .sentinel, .sentinel, .sentinel, .sentinel, .sentinel, .sentinel, .sentinel, .sentinel, .sentinel, .sentinel, .sentinel, .sentinel, .sentinel, .sentinel, .sentinel, .sentinel, .sentinel, .sentinel, .sentinel, .sentinel, .sentinel, .sentinel, .sentinel, .sentinel], laidTests := true, laidLooks := .later }
def BlockKindsCardSaid : Prop := Claim7.holds Tryd.pinned (.plain (OpenSpec.ofChange blockKindsSpec)) blockKindsCard

/-- THE TIED CARD OF 'sargassolaw7.BlockStart'. -/
def blockStartCard : Claim7 := { stood := { row := blockStartRow, standIns := [], harness := (true, "00df0fa37be9057fed97bcd2b35553c0aa1d1946d9dd1b857a601258f7aff931"), looks := true }, kinds := [], alts := [], laidByText := true, laidKinds := [.sentinel, .sentinel, .sentinel, .sentinel, .sentinel, .sentinel, .sentinel, .sentinel], laidTests := true, laidLooks := .later }
def BlockStartCardSaid : Prop := Claim7.holds Tryd.pinned (.plain (OpenSpec.ofChange blockStartSpec)) blockStartCard

/-- THE TIED CARD OF 'sargassolaw7.BlockBack'. -/
def blockBackCard : Claim7 := { stood := { row := blockBackRow, standIns := [], harness := (true, "00df0fa37be9057fed97bcd2b35553c0aa1d1946d9dd1b857a601258f7aff931"), looks := true }, kinds := [], alts := [], laidByText := true, laidKinds := [.sentinel, .sentinel, .sentinel, .sentinel, .sentinel, .sentinel, .sentinel, .sentinel, .sentinel, .sentinel, .sentinel, .sentinel, .sentinel, .sentinel, .sentinel, .sentinel, .sentinel, .sentinel, .sentinel, .sentinel, .sentinel, .sentinel, .sentinel, .sentinel, .sentinel], laidTests := true, laidLooks := .later }
def BlockBackCardSaid : Prop := Claim7.holds Tryd.pinned (.plain (OpenSpec.ofChange blockBackSpec)) blockBackCard

/-- THE TIED CARD OF 'sargassolaw13.BestOver'. -/
def bestOverCard : Claim7 := { stood := { row := bestOverRow, standIns := [], harness := (true, "00df0fa37be9057fed97bcd2b35553c0aa1d1946d9dd1b857a601258f7aff931"), looks := true }, kinds := [], alts := [], laidByText := true, laidKinds := [.sentinel, .sentinel, .sentinel], laidTests := true, laidLooks := .later }
def BestOverCardSaid : Prop := Claim7.holds Tryd.pinned (.plain (OpenSpec.ofChange bestOverSpec)) bestOverCard

/-- THE TIED CARD OF 'sargassolaw13.BestGoes'. -/
def bestGoesCard : Claim7 := { stood := { row := bestGoesRow, standIns := [], harness := (true, "00df0fa37be9057fed97bcd2b35553c0aa1d1946d9dd1b857a601258f7aff931"), looks := true }, kinds := [], alts := [], laidByText := true, laidKinds := [.sentinel, .sentinel, .sentinel], laidTests := true, laidLooks := .later }
def BestGoesCardSaid : Prop := Claim7.holds Tryd.pinned (.plain (OpenSpec.ofChange bestGoesSpec)) bestGoesCard

/-- THE SECOND FORM's CARD OF 'sargassolaw4.TxSays'. -/
def txSaysUptoCard : Claim7 := { stood := { row := txSaysUptoRow, standIns := [], harness := (true, "00df0fa37be9057fed97bcd2b35553c0aa1d1946d9dd1b857a601258f7aff931"), looks := true }, kinds := [], alts := [], laidByText := true, laidKinds := [.sentinel, .sentinel, .sentinel, .sentinel, .sentinel, .sentinel, .sentinel, .sentinel, .sentinel, .sentinel, .sentinel, .sentinel, .sentinel, .sentinel, .sentinel, .sentinel, .sentinel, .sentinel, .sentinel, .sentinel, .sentinel, .sentinel, .sentinel, .sentinel, .sentinel], laidTests := true, laidLooks := .later }
def TxSaysUptoCardSaid : Prop := Claim7.holds Tryd.pinned (.plain (OpenSpec.upto txSaysSpec)) txSaysUptoCard

/-- THE SECOND FORM's CARD OF 'sargassolaw24.RedoOrder'. -/
def redoOrderUptoCard : Claim7 := { stood := { row := redoOrderUptoRow, standIns := [], harness := (true, "00df0fa37be9057fed97bcd2b35553c0aa1d1946d9dd1b857a601258f7aff931"), looks := true }, kinds := [], alts := [], laidByText := true, laidKinds := [.sentinel], laidTests := true, laidLooks := .later }
def RedoOrderUptoCardSaid : Prop := Claim7.holds Tryd.pinned (.plain (OpenSpec.upto redoOrderSpec)) redoOrderUptoCard

/-- THE SECOND FORM's CARD OF 'sargassolaw24.RedoOn'. -/
def redoOnUptoCard : Claim7 := { stood := { row := redoOnUptoRow, standIns := [], harness := (true, "00df0fa37be9057fed97bcd2b35553c0aa1d1946d9dd1b857a601258f7aff931"), looks := true }, kinds := [], alts := [], laidByText := true, laidKinds := [.sentinel], laidTests := true, laidLooks := .later }
def RedoOnUptoCardSaid : Prop := Claim7.holds Tryd.pinned (.plain (OpenSpec.upto redoOnSpec)) redoOnUptoCard

/-- THE SECOND FORM's CARD OF 'sargassolaw7.BlockFirst'. -/
def blockFirstUptoCard : Claim7 := { stood := { row := blockFirstUptoRow, standIns := [], harness := (true, "00df0fa37be9057fed97bcd2b35553c0aa1d1946d9dd1b857a601258f7aff931"), looks := true }, kinds := [], alts := [], laidByText := true, laidKinds := [.sentinel, .sentinel, .sentinel, .sentinel, .sentinel, .sentinel, .sentinel, .sentinel], laidTests := true, laidLooks := .later }
def BlockFirstUptoCardSaid : Prop := Claim7.holds Tryd.pinned (.plain (OpenSpec.upto blockFirstSpec)) blockFirstUptoCard

/-- THE SECOND FORM's CARD OF 'sargassolaw7.BlockKinds'. -/
def blockKindsUptoCard : Claim7 := { stood := { row := blockKindsUptoRow, standIns := [], harness := (true, "00df0fa37be9057fed97bcd2b35553c0aa1d1946d9dd1b857a601258f7aff931"), looks := true }, kinds := [], alts := [], laidByText := true, laidKinds := [.sentinel, .sentinel, .sentinel, .sentinel, .sentinel, .sentinel, .sentinel, .sentinel, .sentinel, .sentinel, .sentinel, .sentinel, .sentinel, .sentinel, .sentinel, .sentinel, .sentinel, .sentinel, .sentinel, .sentinel, .sentinel, .sentinel, .sentinel, .sentinel, .sentinel], laidTests := true, laidLooks := .later }
def BlockKindsUptoCardSaid : Prop := Claim7.holds Tryd.pinned (.plain (OpenSpec.upto blockKindsSpec)) blockKindsUptoCard

/-- THE SECOND FORM's CARD OF 'sargassolaw7.BlockStart'. -/
def blockStartUptoCard : Claim7 := { stood := { row := blockStartUptoRow, standIns := [], harness := (true, "00df0fa37be9057fed97bcd2b35553c0aa1d1946d9dd1b857a601258f7aff931"), looks := true }, kinds := [], alts := [], laidByText := true, laidKinds := [.sentinel, .sentinel, .sentinel, .sentinel, .sentinel, .sentinel, .sentinel, .sentinel], laidTests := true, laidLooks := .later }
def BlockStartUptoCardSaid : Prop := Claim7.holds Tryd.pinned (.plain (OpenSpec.upto blockStartSpec)) blockStartUptoCard

/-- THE SECOND FORM's CARD OF 'sargassolaw7.BlockBack'. -/
def blockBackUptoCard : Claim7 := { stood := { row := blockBackUptoRow, standIns := [], harness := (true, "00df0fa37be9057fed97bcd2b35553c0aa1d1946d9dd1b857a601258f7aff931"), looks := true }, kinds := [], alts := [], laidByText := true, laidKinds := [.sentinel, .sentinel, .sentinel, .sentinel, .sentinel, .sentinel, .sentinel, .sentinel, .sentinel, .sentinel, .sentinel, .sentinel, .sentinel, .sentinel, .sentinel, .sentinel, .sentinel, .sentinel, .sentinel, .sentinel, .sentinel, .sentinel, .sentinel, .sentinel, .sentinel], laidTests := true, laidLooks := .later }
def BlockBackUptoCardSaid : Prop := Claim7.holds Tryd.pinned (.plain (OpenSpec.upto blockBackSpec)) blockBackUptoCard

/-- THE SECOND FORM's CARD OF 'sargassolaw13.BestOver'. -/
def bestOverUptoCard : Claim7 := { stood := { row := bestOverUptoRow, standIns := [], harness := (true, "00df0fa37be9057fed97bcd2b35553c0aa1d1946d9dd1b857a601258f7aff931"), looks := true }, kinds := [], alts := [], laidByText := true, laidKinds := [.sentinel, .sentinel, .sentinel], laidTests := true, laidLooks := .later }
def BestOverUptoCardSaid : Prop := Claim7.holds Tryd.pinned (.plain (OpenSpec.upto bestOverSpec)) bestOverUptoCard

/-- THE SECOND FORM's CARD OF 'sargassolaw13.BestGoes'. -/
def bestGoesUptoCard : Claim7 := { stood := { row := bestGoesUptoRow, standIns := [], harness := (true, "00df0fa37be9057fed97bcd2b35553c0aa1d1946d9dd1b857a601258f7aff931"), looks := true }, kinds := [], alts := [], laidByText := true, laidKinds := [.sentinel, .sentinel, .sentinel], laidTests := true, laidLooks := .later }
def BestGoesUptoCardSaid : Prop := Claim7.holds Tryd.pinned (.plain (OpenSpec.upto bestGoesSpec)) bestGoesUptoCard
end Rows
end Go.Proofs.YtjfeehoflahblaaDoor
