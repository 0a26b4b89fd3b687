/-
  No cell of these rows narrows 'for every input' (looked for: loops, veiled, ifaces, maps, wideKeys, modest, calm, conditions, laid).
  DERIVED. THE GIVEN ROWS OF THIS SEAT. 6 by the template 'for every input the law returns true; each argument reads behind the call as it read before'; 0 by the template 'total and deterministic' (their statements: YtohcdnbchidjeaaTotals.lean).
  GIVEN WITH THE SEED: the statements are not yours to turn. If you find one false, say at which input.
  Laid BY PROGRAM, IN A SANDBOX (cutbox-rows.mjs): the forced cells as the released guide's own fill.sh prints them over the translation 4b2f2e431a95403d… (all of the seat's roots in one cut). By AI agents, Wed Nov 11 2026. No macro, syntax, notation, axiom, sorry.
-/
import Derived.Test.YtohcdnbchidjeaaChecked
import GoSem.Claim
import GoSem.ClaimJoined
import GoSem.ClaimMapViews
import Derived.JoinedTies
import Derived.KernelRfl
namespace Go.Proofs.Ytohcdnbchidjeaa
/- THE CELL 'sum', in the pinned program and in every row, IS THE sha256 OF THE DUMP (.gsa) THAT YtohcdnbchidjeaaProg.lean LOADS. Nothing in Lean hashes anything: it is a label: what it is worth is what the hold of that sum in a sandbox is worth. -/
noncomputable def Try.pinned : Pinned := { name := "ytohcdnbchidjeaa", sum := "4b2f2e431a95403d98625d44b47f6e81ac716fa57e4c319fb512991eb17a2e2b", checked := Try.checked }
namespace Rows
def none {H : Type} : Left H := { results := [], args := [] }

/-- 'packtrainlaw06.TableNames': WHATEVER THE INPUT: true; the input reads as it did. -/
def tableNamesSpec : ChangeSpec := { name := "tableNames", fn := fun _ => fun
  | [] => { results := [.lit (.bool true)], args := [] }
  | _ => none }
def tableNamesRow : OpenClaim := { program := "ytohcdnbchidjeaa", sum := "4b2f2e431a95403d98625d44b47f6e81ac716fa57e4c319fb512991eb17a2e2b", func := "packtrain/packtrainlaw06.TableNames", spec := "tableNames", unfollowed := true, recurses := true, apart := false }
def TableNamesSaid : Prop := tableNamesRow.holds Try.pinned (OpenSpec.ofChange tableNamesSpec)

/-- ITS FALSE NEIGHBOUR: 'it returns false'. Refute it at one input. -/
def tableNamesWrong : ChangeSpec := { name := "tableNames", fn := fun _ => fun
  | [] => { results := [.lit (.bool false)], args := [] }
  | _ => none }
def TableNamesWrongFalsely : Prop := tableNamesRow.holds Try.pinned (OpenSpec.ofChange tableNamesWrong)

/-- 'packtrainlaw06.TableRanks': WHATEVER THE INPUT: true; the input reads as it did. -/
def tableRanksSpec : ChangeSpec := { name := "tableRanks", fn := fun _ => fun
  | [d] => { results := [.lit (.bool true)], args := [d] }
  | _ => none }
def tableRanksRow : OpenClaim := { program := "ytohcdnbchidjeaa", sum := "4b2f2e431a95403d98625d44b47f6e81ac716fa57e4c319fb512991eb17a2e2b", func := "packtrain/packtrainlaw06.TableRanks", spec := "tableRanks", unfollowed := true, recurses := true, apart := false }
def TableRanksSaid : Prop := tableRanksRow.holds Try.pinned (OpenSpec.ofChange tableRanksSpec)

/-- ITS FALSE NEIGHBOUR: 'it returns false'. Refute it at one input. -/
def tableRanksWrong : ChangeSpec := { name := "tableRanks", fn := fun _ => fun
  | [d] => { results := [.lit (.bool false)], args := [d] }
  | _ => none }
def TableRanksWrongFalsely : Prop := tableRanksRow.holds Try.pinned (OpenSpec.ofChange tableRanksWrong)

/-- 'packtrainlaw06.TableStays': WHATEVER THE INPUT: true; the input reads as it did. -/
def tableStaysSpec : ChangeSpec := { name := "tableStays", fn := fun _ => fun
  | [d1, d2, d3, d4, d5] => { results := [.lit (.bool true)], args := [d1, d2, d3, d4, d5] }
  | _ => none }
def tableStaysRow : OpenClaim := { program := "ytohcdnbchidjeaa", sum := "4b2f2e431a95403d98625d44b47f6e81ac716fa57e4c319fb512991eb17a2e2b", func := "packtrain/packtrainlaw06.TableStays", spec := "tableStays", unfollowed := true, recurses := true, apart := false }
def TableStaysSaid : Prop := tableStaysRow.holds Try.pinned (OpenSpec.ofChange tableStaysSpec)

/-- ITS FALSE NEIGHBOUR: 'it returns false'. Refute it at one input. -/
def tableStaysWrong : ChangeSpec := { name := "tableStays", fn := fun _ => fun
  | [d1, d2, d3, d4, d5] => { results := [.lit (.bool false)], args := [d1, d2, d3, d4, d5] }
  | _ => none }
def TableStaysWrongFalsely : Prop := tableStaysRow.holds Try.pinned (OpenSpec.ofChange tableStaysWrong)

/-- 'packtrainlaw06.TableChanges': WHATEVER THE INPUT: true; the input reads as it did. -/
def tableChangesSpec : ChangeSpec := { name := "tableChanges", fn := fun _ => fun
  | [d1, d2, d3] => { results := [.lit (.bool true)], args := [d1, d2, d3] }
  | _ => none }
def tableChangesRow : OpenClaim := { program := "ytohcdnbchidjeaa", sum := "4b2f2e431a95403d98625d44b47f6e81ac716fa57e4c319fb512991eb17a2e2b", func := "packtrain/packtrainlaw06.TableChanges", spec := "tableChanges", unfollowed := true, recurses := true, apart := false }
def TableChangesSaid : Prop := tableChangesRow.holds Try.pinned (OpenSpec.ofChange tableChangesSpec)

/-- ITS FALSE NEIGHBOUR: 'it returns false'. Refute it at one input. -/
def tableChangesWrong : ChangeSpec := { name := "tableChanges", fn := fun _ => fun
  | [d1, d2, d3] => { results := [.lit (.bool false)], args := [d1, d2, d3] }
  | _ => none }
def TableChangesWrongFalsely : Prop := tableChangesRow.holds Try.pinned (OpenSpec.ofChange tableChangesWrong)

/-- 'packtrainlaw06.TableOrders': WHATEVER THE INPUT: true; the input reads as it did. -/
def tableOrdersSpec : ChangeSpec := { name := "tableOrders", fn := fun _ => fun
  | [d1, d2] => { results := [.lit (.bool true)], args := [d1, d2] }
  | _ => none }
def tableOrdersRow : OpenClaim := { program := "ytohcdnbchidjeaa", sum := "4b2f2e431a95403d98625d44b47f6e81ac716fa57e4c319fb512991eb17a2e2b", func := "packtrain/packtrainlaw06.TableOrders", spec := "tableOrders", unfollowed := true, recurses := true, apart := false }
def TableOrdersSaid : Prop := tableOrdersRow.holds Try.pinned (OpenSpec.ofChange tableOrdersSpec)

/-- ITS FALSE NEIGHBOUR: 'it returns false'. Refute it at one input. -/
def tableOrdersWrong : ChangeSpec := { name := "tableOrders", fn := fun _ => fun
  | [d1, d2] => { results := [.lit (.bool false)], args := [d1, d2] }
  | _ => none }
def TableOrdersWrongFalsely : Prop := tableOrdersRow.holds Try.pinned (OpenSpec.ofChange tableOrdersWrong)

/-- 'packtrainlaw06.TableCalls': WHATEVER THE INPUT: true; the input reads as it did. -/
def tableCallsSpec : ChangeSpec := { name := "tableCalls", fn := fun _ => fun
  | [d1, d2, d3, d4, d5] => { results := [.lit (.bool true)], args := [d1, d2, d3, d4, d5] }
  | _ => none }
def tableCallsRow : OpenClaim := { program := "ytohcdnbchidjeaa", sum := "4b2f2e431a95403d98625d44b47f6e81ac716fa57e4c319fb512991eb17a2e2b", func := "packtrain/packtrainlaw06.TableCalls", spec := "tableCalls", unfollowed := true, recurses := true, apart := false }
def TableCallsSaid : Prop := tableCallsRow.holds Try.pinned (OpenSpec.ofChange tableCallsSpec)

/-- ITS FALSE NEIGHBOUR: 'it returns false'. Refute it at one input. -/
def tableCallsWrong : ChangeSpec := { name := "tableCalls", fn := fun _ => fun
  | [d1, d2, d3, d4, d5] => { results := [.lit (.bool false)], args := [d1, d2, d3, d4, d5] }
  | _ => none }
def TableCallsWrongFalsely : Prop := tableCallsRow.holds Try.pinned (OpenSpec.ofChange tableCallsWrong)

/- THE SECOND FORM. 'bulk': how many values and letters a reading holds, each counted each time it is reached (what is shared counts as often as it is met; a slice's spare places count too). A statement '..UptoSaid' is the law's where the arguments, and the package variables that the reading takes, are together of bulk at most 1048576: NARROWER than '..Said'. Prove '..Said' where nothing that the law and all that it calls make is longer than what came in: it says more and counts as full. Else prove '..UptoSaid'. A law counts once. -/
mutual
def uptoBulk {H : Type} : DataW H → Nat
  | .lit (.string bytes) => bytes.length + 1
  | .lit _ => 1
  | .nil => 1
  | .ptr d => uptoBulk d + 1
  | .slice elems spare => uptoBulkAll elems + uptoBulkAll spare + 1
  | .agg parts => uptoBulkAll parts + 1
  | .iface _ d => uptoBulk d + 1
  | .map entries => uptoBulkEntries entries + 1
  | .held _ => 1
def uptoBulkAll {H : Type} : List (DataW H) → Nat
  | [] => 0
  | d :: r => uptoBulk d + uptoBulkAll r
def uptoBulkEntries {H : Type} : List (Lit × DataW H) → Nat
  | [] => 0
  | x :: r => uptoBulkEntry x + uptoBulkEntries r
def uptoBulkEntry {H : Type} : Lit × DataW H → Nat
  | (.string bytes, d) => bytes.length + uptoBulk d + 1
  | (_, d) => uptoBulk d + 1
 end
def uptoSmall : (H : Type) → List (DataW H) → Bool := fun _ ds => decide (uptoBulkAll ds ≤ 1048576)
def OpenSpec.upto (s : _root_.Go.ChangeSpec) : _root_.Go.OpenSpec := { _root_.Go.OpenSpec.ofChange s with cond := some uptoSmall }

/-- 'packtrainlaw06.TableNames', WHERE WHAT IT READS IS OF BULK AT MOST 1048576: true; the input reads as it did. -/
def tableNamesUptoRow : OpenClaim := { program := "ytohcdnbchidjeaa", sum := "4b2f2e431a95403d98625d44b47f6e81ac716fa57e4c319fb512991eb17a2e2b", func := "packtrain/packtrainlaw06.TableNames", spec := "tableNames", unfollowed := true, recurses := true, apart := false, narrowed := true }
def TableNamesUptoSaid : Prop := tableNamesUptoRow.holds Try.pinned (OpenSpec.upto tableNamesSpec)

/-- 'packtrainlaw06.TableRanks', WHERE WHAT IT READS IS OF BULK AT MOST 1048576: true; the input reads as it did. -/
def tableRanksUptoRow : OpenClaim := { program := "ytohcdnbchidjeaa", sum := "4b2f2e431a95403d98625d44b47f6e81ac716fa57e4c319fb512991eb17a2e2b", func := "packtrain/packtrainlaw06.TableRanks", spec := "tableRanks", unfollowed := true, recurses := true, apart := false, narrowed := true }
def TableRanksUptoSaid : Prop := tableRanksUptoRow.holds Try.pinned (OpenSpec.upto tableRanksSpec)

/-- 'packtrainlaw06.TableStays', WHERE WHAT IT READS IS OF BULK AT MOST 1048576: true; the input reads as it did. -/
def tableStaysUptoRow : OpenClaim := { program := "ytohcdnbchidjeaa", sum := "4b2f2e431a95403d98625d44b47f6e81ac716fa57e4c319fb512991eb17a2e2b", func := "packtrain/packtrainlaw06.TableStays", spec := "tableStays", unfollowed := true, recurses := true, apart := false, narrowed := true }
def TableStaysUptoSaid : Prop := tableStaysUptoRow.holds Try.pinned (OpenSpec.upto tableStaysSpec)

/-- 'packtrainlaw06.TableChanges', WHERE WHAT IT READS IS OF BULK AT MOST 1048576: true; the input reads as it did. -/
def tableChangesUptoRow : OpenClaim := { program := "ytohcdnbchidjeaa", sum := "4b2f2e431a95403d98625d44b47f6e81ac716fa57e4c319fb512991eb17a2e2b", func := "packtrain/packtrainlaw06.TableChanges", spec := "tableChanges", unfollowed := true, recurses := true, apart := false, narrowed := true }
def TableChangesUptoSaid : Prop := tableChangesUptoRow.holds Try.pinned (OpenSpec.upto tableChangesSpec)

/-- 'packtrainlaw06.TableOrders', WHERE WHAT IT READS IS OF BULK AT MOST 1048576: true; the input reads as it did. -/
def tableOrdersUptoRow : OpenClaim := { program := "ytohcdnbchidjeaa", sum := "4b2f2e431a95403d98625d44b47f6e81ac716fa57e4c319fb512991eb17a2e2b", func := "packtrain/packtrainlaw06.TableOrders", spec := "tableOrders", unfollowed := true, recurses := true, apart := false, narrowed := true }
def TableOrdersUptoSaid : Prop := tableOrdersUptoRow.holds Try.pinned (OpenSpec.upto tableOrdersSpec)

/-- 'packtrainlaw06.TableCalls', WHERE WHAT IT READS IS OF BULK AT MOST 1048576: true; the input reads as it did. -/
def tableCallsUptoRow : OpenClaim := { program := "ytohcdnbchidjeaa", sum := "4b2f2e431a95403d98625d44b47f6e81ac716fa57e4c319fb512991eb17a2e2b", func := "packtrain/packtrainlaw06.TableCalls", spec := "tableCalls", unfollowed := true, recurses := true, apart := false, narrowed := true }
def TableCallsUptoSaid : Prop := tableCallsUptoRow.holds Try.pinned (OpenSpec.upto tableCallsSpec)

end Rows
end Go.Proofs.Ytohcdnbchidjeaa
