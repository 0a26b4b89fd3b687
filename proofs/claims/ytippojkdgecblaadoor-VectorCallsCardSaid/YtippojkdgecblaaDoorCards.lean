/-
  DERIVED. GIVEN WITH THE SEED: THE CARDS: each row of YtippojkdgecblaaDoorRows.lean that lists a variable, with what it lists TIED to the program's text (the seventh form; the later family's looks); each row that meets fmt, with fmt's text TOLD by the authors' own Lean function (tested against real Go, not proved from fmt's source: count such statements apart). THE CARD IS WHAT COUNTS. Prove the row's statement (the work); the ties are given (YtippojkdgecblaaDoorTie.lean); close each card by the builder's one call (the guide's Derived/Test/ToyasCard.lean, 'card_holds'). Laid BY PROGRAM, IN A SANDBOX (cutbox-door.mjs). By AI agents, Wed Nov 11 2026. No macro, syntax, notation, axiom, sorry.
-/
import Derived.Test.YtippojkdgecblaaDoorRows
import GoSem.ClaimSeven
namespace Go.Proofs.YtippojkdgecblaaDoor
namespace Rows

/-- THE TIED CARD OF 'packtrainlaw08.VectorNames'. -/
def vectorNamesCard : Claim7 := { stood := { row := vectorNamesRow, standIns := [], harness := (true, "ee6e499b49c25bcb424fad659a96a6d365a6d2f66fecd18113775a103078c5e3"), looks := false }, kinds := [], alts := [], laidByText := true, laidKinds := [.data, .data, .data], laidTests := true, laidLooks := .later }
def VectorNamesCardSaid : Prop := Claim7.holds Tryd.pinned (.plain (OpenSpec.ofChange vectorNamesSpec)) vectorNamesCard

/-- THE TIED CARD OF 'packtrainlaw08.VectorCalls'. -/
def vectorCallsCard : Claim7 := { stood := { row := vectorCallsRow, standIns := [], harness := (true, "ee6e499b49c25bcb424fad659a96a6d365a6d2f66fecd18113775a103078c5e3"), looks := false }, kinds := [], alts := [], laidByText := true, laidKinds := [.data, .data, .data], laidTests := true, laidLooks := .later }
def VectorCallsCardSaid : Prop := Claim7.holds Tryd.pinned (.plain (OpenSpec.ofChange vectorCallsSpec)) vectorCallsCard

/-- THE SECOND FORM's CARD OF 'packtrainlaw08.VectorNames'. -/
def vectorNamesUptoCard : Claim7 := { stood := { row := vectorNamesUptoRow, standIns := [], harness := (true, "ee6e499b49c25bcb424fad659a96a6d365a6d2f66fecd18113775a103078c5e3"), looks := false }, kinds := [], alts := [], laidByText := true, laidKinds := [.data, .data, .data], laidTests := true, laidLooks := .later }
def VectorNamesUptoCardSaid : Prop := Claim7.holds Tryd.pinned (.plain (OpenSpec.upto vectorNamesSpec)) vectorNamesUptoCard

/-- THE SECOND FORM's CARD OF 'packtrainlaw08.VectorCalls'. -/
def vectorCallsUptoCard : Claim7 := { stood := { row := vectorCallsUptoRow, standIns := [], harness := (true, "ee6e499b49c25bcb424fad659a96a6d365a6d2f66fecd18113775a103078c5e3"), looks := false }, kinds := [], alts := [], laidByText := true, laidKinds := [.data, .data, .data], laidTests := true, laidLooks := .later }
def VectorCallsUptoCardSaid : Prop := Claim7.holds Tryd.pinned (.plain (OpenSpec.upto vectorCallsSpec)) vectorCallsUptoCard
end Rows
end Go.Proofs.YtippojkdgecblaaDoor
