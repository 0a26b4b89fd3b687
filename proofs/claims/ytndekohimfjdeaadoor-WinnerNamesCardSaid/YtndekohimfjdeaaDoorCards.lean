/-
  DERIVED. GIVEN WITH THE SEED: THE CARDS: each row of YtndekohimfjdeaaDoorRows.lean that lists a variable, with what it lists TIED to the program's text (the seventh form; the later family's looks); each row that meets fmt, with fmt's text TOLD by the authors' own Lean function (tested against real Go, not proved from fmt's source: count such statements apart). THE CARD IS WHAT COUNTS. Prove the row's statement (the work); the ties are given (YtndekohimfjdeaaDoorTie.lean); close each card by the builder's one call (the guide's Derived/Test/ToyasCard.lean, 'card_holds'). Laid BY PROGRAM, IN A SANDBOX (cutbox-door.mjs). By AI agents, Wed Nov 11 2026. No macro, syntax, notation, axiom, sorry.
-/
import Derived.Test.YtndekohimfjdeaaDoorRows
import GoSem.ClaimSeven
namespace Go.Proofs.YtndekohimfjdeaaDoor
namespace Rows

/-- THE TIED CARD OF 'packtrainlaw11.WinnerLoses'. -/
def winnerLosesCard : Claim7 := { stood := { row := winnerLosesRow, standIns := [], harness := (true, "e9598378cd665d16610ec39e6c06af81c9d48b4fbe668f73f0323002cbbb4a4b"), looks := false }, kinds := [], alts := [], laidByText := true, laidKinds := [.data, .pinned], laidTests := true, laidLooks := .later }
def WinnerLosesCardSaid : Prop := Claim7.holds Tryd.pinned (.plain (OpenSpec.ofChange winnerLosesSpec)) winnerLosesCard

/-- THE TIED CARD OF 'packtrainlaw11.WinnerSettles'. -/
def winnerSettlesCard : Claim7 := { stood := { row := winnerSettlesRow, standIns := [], harness := (true, "e9598378cd665d16610ec39e6c06af81c9d48b4fbe668f73f0323002cbbb4a4b"), looks := false }, kinds := [], alts := [], laidByText := true, laidKinds := [.data, .pinned], laidTests := true, laidLooks := .later }
def WinnerSettlesCardSaid : Prop := Claim7.holds Tryd.pinned (.plain (OpenSpec.ofChange winnerSettlesSpec)) winnerSettlesCard

/-- THE TIED CARD OF 'packtrainlaw11.WinnerOrders'. -/
def winnerOrdersCard : Claim7 := { stood := { row := winnerOrdersRow, standIns := [], harness := (true, "e9598378cd665d16610ec39e6c06af81c9d48b4fbe668f73f0323002cbbb4a4b"), looks := false }, kinds := [], alts := [], laidByText := true, laidKinds := [.data, .pinned], laidTests := true, laidLooks := .later }
def WinnerOrdersCardSaid : Prop := Claim7.holds Tryd.pinned (.plain (OpenSpec.ofChange winnerOrdersSpec)) winnerOrdersCard

/-- THE TIED CARD OF 'packtrainlaw11.WinnerNames'. -/
def winnerNamesCard : Claim7 := { stood := { row := winnerNamesRow, standIns := [], harness := (true, "e9598378cd665d16610ec39e6c06af81c9d48b4fbe668f73f0323002cbbb4a4b"), looks := false }, kinds := [], alts := [], laidByText := true, laidKinds := [.data, .data, .data, .data, .pinned], laidTests := true, laidLooks := .later }
def WinnerNamesCardSaid : Prop := Claim7.holds Tryd.pinned (.plain (OpenSpec.ofChange winnerNamesSpec)) winnerNamesCard

/-- THE SECOND FORM's CARD OF 'packtrainlaw11.WinnerLoses'. -/
def winnerLosesUptoCard : Claim7 := { stood := { row := winnerLosesUptoRow, standIns := [], harness := (true, "e9598378cd665d16610ec39e6c06af81c9d48b4fbe668f73f0323002cbbb4a4b"), looks := false }, kinds := [], alts := [], laidByText := true, laidKinds := [.data, .pinned], laidTests := true, laidLooks := .later }
def WinnerLosesUptoCardSaid : Prop := Claim7.holds Tryd.pinned (.plain (OpenSpec.upto winnerLosesSpec)) winnerLosesUptoCard

/-- THE SECOND FORM's CARD OF 'packtrainlaw11.WinnerSettles'. -/
def winnerSettlesUptoCard : Claim7 := { stood := { row := winnerSettlesUptoRow, standIns := [], harness := (true, "e9598378cd665d16610ec39e6c06af81c9d48b4fbe668f73f0323002cbbb4a4b"), looks := false }, kinds := [], alts := [], laidByText := true, laidKinds := [.data, .pinned], laidTests := true, laidLooks := .later }
def WinnerSettlesUptoCardSaid : Prop := Claim7.holds Tryd.pinned (.plain (OpenSpec.upto winnerSettlesSpec)) winnerSettlesUptoCard

/-- THE SECOND FORM's CARD OF 'packtrainlaw11.WinnerOrders'. -/
def winnerOrdersUptoCard : Claim7 := { stood := { row := winnerOrdersUptoRow, standIns := [], harness := (true, "e9598378cd665d16610ec39e6c06af81c9d48b4fbe668f73f0323002cbbb4a4b"), looks := false }, kinds := [], alts := [], laidByText := true, laidKinds := [.data, .pinned], laidTests := true, laidLooks := .later }
def WinnerOrdersUptoCardSaid : Prop := Claim7.holds Tryd.pinned (.plain (OpenSpec.upto winnerOrdersSpec)) winnerOrdersUptoCard

/-- THE SECOND FORM's CARD OF 'packtrainlaw11.WinnerNames'. -/
def winnerNamesUptoCard : Claim7 := { stood := { row := winnerNamesUptoRow, standIns := [], harness := (true, "e9598378cd665d16610ec39e6c06af81c9d48b4fbe668f73f0323002cbbb4a4b"), looks := false }, kinds := [], alts := [], laidByText := true, laidKinds := [.data, .data, .data, .data, .pinned], laidTests := true, laidLooks := .later }
def WinnerNamesUptoCardSaid : Prop := Claim7.holds Tryd.pinned (.plain (OpenSpec.upto winnerNamesSpec)) winnerNamesUptoCard
end Rows
end Go.Proofs.YtndekohimfjdeaaDoor
