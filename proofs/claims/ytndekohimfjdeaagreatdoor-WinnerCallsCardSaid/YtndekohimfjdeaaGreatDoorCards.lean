/-
  DERIVED. GIVEN WITH THE SEED: THE CARDS: each row of YtndekohimfjdeaaGreatDoorRows.lean that lists a variable, with what it lists TIED to the program's text (the seventh form; the later family's looks); each row that meets fmt, with fmt's text TOLD by the authors' own Lean function (tested against real Go, not proved from fmt's source: count such statements apart). THE CARD IS WHAT COUNTS. Prove the row's statement (the work); the ties are given (YtndekohimfjdeaaGreatDoorTie.lean); close each card by the builder's one call (the guide's Derived/Test/ToyasCard.lean, 'card_holds'). Laid BY PROGRAM, IN A SANDBOX (cutbox-door.mjs). By AI agents, Wed Nov 11 2026. No macro, syntax, notation, axiom, sorry.
-/
import Derived.Test.YtndekohimfjdeaaGreatDoorRows
import GoSem.ClaimSeven
namespace Go.Proofs.YtndekohimfjdeaaGreatDoor
namespace Rows

/-- THE TIED CARD OF 'packtrainlaw11.WinnerCalls'. -/
def winnerCallsCard : Claim7 := { stood := { row := winnerCallsRow, standIns := [], harness := (true, "1624a82a9f8df91446984ae535eb731243d71dacd701aa830b9b4c2c1489068b"), looks := false }, kinds := [], alts := [], laidByText := true, laidKinds := [.data, .data, .data, .data, .pinned], laidTests := true, laidLooks := .later }
def WinnerCallsCardSaid : Prop := Claim7.holds Tryz.pinned (.plain (OpenSpec.ofChange winnerCallsSpec)) winnerCallsCard

/-- THE SECOND FORM's CARD OF 'packtrainlaw11.WinnerCalls'. -/
def winnerCallsUptoCard : Claim7 := { stood := { row := winnerCallsUptoRow, standIns := [], harness := (true, "1624a82a9f8df91446984ae535eb731243d71dacd701aa830b9b4c2c1489068b"), looks := false }, kinds := [], alts := [], laidByText := true, laidKinds := [.data, .data, .data, .data, .pinned], laidTests := true, laidLooks := .later }
def WinnerCallsUptoCardSaid : Prop := Claim7.holds Tryz.pinned (.plain (OpenSpec.upto winnerCallsSpec)) winnerCallsUptoCard
end Rows
end Go.Proofs.YtndekohimfjdeaaGreatDoor
