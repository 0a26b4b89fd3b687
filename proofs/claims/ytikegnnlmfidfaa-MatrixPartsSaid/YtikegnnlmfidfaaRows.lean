/-
  No cell of these rows narrows 'for every input' (looked for: loops, veiled, ifaces, maps, wideKeys, modest, calm, conditions, laid).
  DERIVED. THE GIVEN ROWS OF THIS SEAT. 6 by the template 'for every input the law returns true; each argument reads behind the call as it read before'; 0 by the template 'total and deterministic' (their statements: YtikegnnlmfidfaaTotals.lean).
  GIVEN WITH THE SEED: the statements are not yours to turn. If you find one false, say at which input.
  Laid BY PROGRAM, IN A SANDBOX (cutbox-rows.mjs): the forced cells as the released guide's own fill.sh prints them over the translation cad2bad857a683d3… (all of the seat's roots in one cut). By AI agents, Wed Nov 11 2026. No macro, syntax, notation, axiom, sorry.
-/
import Derived.Test.YtikegnnlmfidfaaChecked
import GoSem.Claim
import GoSem.ClaimJoined
import GoSem.ClaimMapViews
import Derived.JoinedTies
import Derived.KernelRfl
namespace Go.Proofs.Ytikegnnlmfidfaa
/- THE CELL 'sum', in the pinned program and in every row, IS THE sha256 OF THE DUMP (.gsa) THAT YtikegnnlmfidfaaProg.lean LOADS. Nothing in Lean hashes anything: it is a label: what it is worth is what the hold of that sum in a sandbox is worth. -/
noncomputable def Try.pinned : Pinned := { name := "ytikegnnlmfidfaa", sum := "cad2bad857a683d3d0614f0d155882395200b7eaac51463af199ffd241c87633", checked := Try.checked }
namespace Rows
def none {H : Type} : Left H := { results := [], args := [] }

/-- 'packtrainlaw12.MatrixParts': WHATEVER THE INPUT: true; the input reads as it did. -/
def matrixPartsSpec : ChangeSpec := { name := "matrixParts", fn := fun _ => fun
  | [d1, d2] => { results := [.lit (.bool true)], args := [d1, d2] }
  | _ => none }
def matrixPartsRow : OpenClaim := { program := "ytikegnnlmfidfaa", sum := "cad2bad857a683d3d0614f0d155882395200b7eaac51463af199ffd241c87633", func := "packtrain/packtrainlaw12.MatrixParts", spec := "matrixParts", inPlace := ["internal/bytealg.abigen_runtime_cmpstring", "slices.overlaps[packtrain/api.Row]", "slices.overlaps[int]"], unfollowed := true, recurses := true, apart := false }
def MatrixPartsSaid : Prop := matrixPartsRow.holds Try.pinned (OpenSpec.ofChange matrixPartsSpec)

/-- ITS FALSE NEIGHBOUR: 'it returns false'. Refute it at one input. -/
def matrixPartsWrong : ChangeSpec := { name := "matrixParts", fn := fun _ => fun
  | [d1, d2] => { results := [.lit (.bool false)], args := [d1, d2] }
  | _ => none }
def MatrixPartsWrongFalsely : Prop := matrixPartsRow.holds Try.pinned (OpenSpec.ofChange matrixPartsWrong)

/-- 'packtrainlaw12.MatrixLinks': WHATEVER THE INPUT: true; the input reads as it did. -/
def matrixLinksSpec : ChangeSpec := { name := "matrixLinks", fn := fun _ => fun
  | [d1, d2] => { results := [.lit (.bool true)], args := [d1, d2] }
  | _ => none }
def matrixLinksRow : OpenClaim := { program := "ytikegnnlmfidfaa", sum := "cad2bad857a683d3d0614f0d155882395200b7eaac51463af199ffd241c87633", func := "packtrain/packtrainlaw12.MatrixLinks", spec := "matrixLinks", inPlace := ["internal/bytealg.abigen_runtime_cmpstring", "slices.overlaps[packtrain/api.Row]", "slices.overlaps[int]"], unfollowed := true, recurses := true, apart := false }
def MatrixLinksSaid : Prop := matrixLinksRow.holds Try.pinned (OpenSpec.ofChange matrixLinksSpec)

/-- ITS FALSE NEIGHBOUR: 'it returns false'. Refute it at one input. -/
def matrixLinksWrong : ChangeSpec := { name := "matrixLinks", fn := fun _ => fun
  | [d1, d2] => { results := [.lit (.bool false)], args := [d1, d2] }
  | _ => none }
def MatrixLinksWrongFalsely : Prop := matrixLinksRow.holds Try.pinned (OpenSpec.ofChange matrixLinksWrong)

/-- 'packtrainlaw12.MatrixNames': WHATEVER THE INPUT: true; the input reads as it did. -/
def matrixNamesSpec : ChangeSpec := { name := "matrixNames", fn := fun _ => fun
  | [] => { results := [.lit (.bool true)], args := [] }
  | _ => none }
def matrixNamesRow : OpenClaim := { program := "ytikegnnlmfidfaa", sum := "cad2bad857a683d3d0614f0d155882395200b7eaac51463af199ffd241c87633", func := "packtrain/packtrainlaw12.MatrixNames", spec := "matrixNames", inPlace := ["internal/bytealg.abigen_runtime_cmpstring", "slices.overlaps[packtrain/api.Row]", "slices.overlaps[int]"], unfollowed := true, recurses := true, apart := false }
def MatrixNamesSaid : Prop := matrixNamesRow.holds Try.pinned (OpenSpec.ofChange matrixNamesSpec)

/-- ITS FALSE NEIGHBOUR: 'it returns false'. Refute it at one input. -/
def matrixNamesWrong : ChangeSpec := { name := "matrixNames", fn := fun _ => fun
  | [] => { results := [.lit (.bool false)], args := [] }
  | _ => none }
def MatrixNamesWrongFalsely : Prop := matrixNamesRow.holds Try.pinned (OpenSpec.ofChange matrixNamesWrong)

/-- 'packtrainlaw12.MatrixBack': WHATEVER THE INPUT: true; the input reads as it did. -/
def matrixBackSpec : ChangeSpec := { name := "matrixBack", fn := fun _ => fun
  | [d1, d2, d3, d4] => { results := [.lit (.bool true)], args := [d1, d2, d3, d4] }
  | _ => none }
def matrixBackRow : OpenClaim := { program := "ytikegnnlmfidfaa", sum := "cad2bad857a683d3d0614f0d155882395200b7eaac51463af199ffd241c87633", func := "packtrain/packtrainlaw12.MatrixBack", spec := "matrixBack", inPlace := ["internal/bytealg.abigen_runtime_cmpstring", "slices.overlaps[packtrain/api.Row]", "slices.overlaps[int]"], unfollowed := true, recurses := true, apart := false }
def MatrixBackSaid : Prop := matrixBackRow.holds Try.pinned (OpenSpec.ofChange matrixBackSpec)

/-- ITS FALSE NEIGHBOUR: 'it returns false'. Refute it at one input. -/
def matrixBackWrong : ChangeSpec := { name := "matrixBack", fn := fun _ => fun
  | [d1, d2, d3, d4] => { results := [.lit (.bool false)], args := [d1, d2, d3, d4] }
  | _ => none }
def MatrixBackWrongFalsely : Prop := matrixBackRow.holds Try.pinned (OpenSpec.ofChange matrixBackWrong)

/-- 'packtrainlaw12.MatrixCalls': WHATEVER THE INPUT: true; the input reads as it did. -/
def matrixCallsSpec : ChangeSpec := { name := "matrixCalls", fn := fun _ => fun
  | [d1, d2, d3, d4, d5] => { results := [.lit (.bool true)], args := [d1, d2, d3, d4, d5] }
  | _ => none }
def matrixCallsRow : OpenClaim := { program := "ytikegnnlmfidfaa", sum := "cad2bad857a683d3d0614f0d155882395200b7eaac51463af199ffd241c87633", func := "packtrain/packtrainlaw12.MatrixCalls", spec := "matrixCalls", inPlace := ["internal/bytealg.abigen_runtime_cmpstring", "slices.overlaps[packtrain/api.Row]", "slices.overlaps[int]"], unfollowed := true, recurses := true, apart := false }
def MatrixCallsSaid : Prop := matrixCallsRow.holds Try.pinned (OpenSpec.ofChange matrixCallsSpec)

/-- ITS FALSE NEIGHBOUR: 'it returns false'. Refute it at one input. -/
def matrixCallsWrong : ChangeSpec := { name := "matrixCalls", fn := fun _ => fun
  | [d1, d2, d3, d4, d5] => { results := [.lit (.bool false)], args := [d1, d2, d3, d4, d5] }
  | _ => none }
def MatrixCallsWrongFalsely : Prop := matrixCallsRow.holds Try.pinned (OpenSpec.ofChange matrixCallsWrong)

/-- 'packtrainlaw12.MatrixApart': WHATEVER THE INPUT: true; the input reads as it did. -/
def matrixApartSpec : ChangeSpec := { name := "matrixApart", fn := fun _ => fun
  | [d1, d2, d3] => { results := [.lit (.bool true)], args := [d1, d2, d3] }
  | _ => none }
def matrixApartRow : OpenClaim := { program := "ytikegnnlmfidfaa", sum := "cad2bad857a683d3d0614f0d155882395200b7eaac51463af199ffd241c87633", func := "packtrain/packtrainlaw12.MatrixApart", spec := "matrixApart", inPlace := ["internal/bytealg.abigen_runtime_cmpstring", "slices.overlaps[packtrain/api.Row]", "slices.overlaps[int]"], unfollowed := true, recurses := true, apart := false }
def MatrixApartSaid : Prop := matrixApartRow.holds Try.pinned (OpenSpec.ofChange matrixApartSpec)

/-- ITS FALSE NEIGHBOUR: 'it returns false'. Refute it at one input. -/
def matrixApartWrong : ChangeSpec := { name := "matrixApart", fn := fun _ => fun
  | [d1, d2, d3] => { results := [.lit (.bool false)], args := [d1, d2, d3] }
  | _ => none }
def MatrixApartWrongFalsely : Prop := matrixApartRow.holds Try.pinned (OpenSpec.ofChange matrixApartWrong)

/- THE SECOND FORM. 'bulk': how many values and letters a reading holds, each counted each time it is reached (what is shared counts as often as it is met; a slice's spare places count too). A statement '..UptoSaid' is the law's where the arguments, and the package variables that the reading takes, are together of bulk at most 1048576: NARROWER than '..Said'. Prove '..Said' where nothing that the law and all that it calls make is longer than what came in: it says more and counts as full. Else prove '..UptoSaid'. A law counts once. -/
mutual
def uptoBulk {H : Type} : DataW H → Nat
  | .lit (.string bytes) => bytes.length + 1
  | .lit _ => 1
  | .nil => 1
  | .ptr d => uptoBulk d + 1
  | .slice elems spare => uptoBulkAll elems + uptoBulkAll spare + 1
  | .agg parts => uptoBulkAll parts + 1
  | .iface _ d => uptoBulk d + 1
  | .map entries => uptoBulkEntries entries + 1
  | .held _ => 1
def uptoBulkAll {H : Type} : List (DataW H) → Nat
  | [] => 0
  | d :: r => uptoBulk d + uptoBulkAll r
def uptoBulkEntries {H : Type} : List (Lit × DataW H) → Nat
  | [] => 0
  | x :: r => uptoBulkEntry x + uptoBulkEntries r
def uptoBulkEntry {H : Type} : Lit × DataW H → Nat
  | (.string bytes, d) => bytes.length + uptoBulk d + 1
  | (_, d) => uptoBulk d + 1
 end
def uptoSmall : (H : Type) → List (DataW H) → Bool := fun _ ds => decide (uptoBulkAll ds ≤ 1048576)
def OpenSpec.upto (s : _root_.Go.ChangeSpec) : _root_.Go.OpenSpec := { _root_.Go.OpenSpec.ofChange s with cond := some uptoSmall }

/-- 'packtrainlaw12.MatrixParts', WHERE WHAT IT READS IS OF BULK AT MOST 1048576: true; the input reads as it did. -/
def matrixPartsUptoRow : OpenClaim := { program := "ytikegnnlmfidfaa", sum := "cad2bad857a683d3d0614f0d155882395200b7eaac51463af199ffd241c87633", func := "packtrain/packtrainlaw12.MatrixParts", spec := "matrixParts", inPlace := ["internal/bytealg.abigen_runtime_cmpstring", "slices.overlaps[packtrain/api.Row]", "slices.overlaps[int]"], unfollowed := true, recurses := true, apart := false, narrowed := true }
def MatrixPartsUptoSaid : Prop := matrixPartsUptoRow.holds Try.pinned (OpenSpec.upto matrixPartsSpec)

/-- 'packtrainlaw12.MatrixLinks', WHERE WHAT IT READS IS OF BULK AT MOST 1048576: true; the input reads as it did. -/
def matrixLinksUptoRow : OpenClaim := { program := "ytikegnnlmfidfaa", sum := "cad2bad857a683d3d0614f0d155882395200b7eaac51463af199ffd241c87633", func := "packtrain/packtrainlaw12.MatrixLinks", spec := "matrixLinks", inPlace := ["internal/bytealg.abigen_runtime_cmpstring", "slices.overlaps[packtrain/api.Row]", "slices.overlaps[int]"], unfollowed := true, recurses := true, apart := false, narrowed := true }
def MatrixLinksUptoSaid : Prop := matrixLinksUptoRow.holds Try.pinned (OpenSpec.upto matrixLinksSpec)

/-- 'packtrainlaw12.MatrixNames', WHERE WHAT IT READS IS OF BULK AT MOST 1048576: true; the input reads as it did. -/
def matrixNamesUptoRow : OpenClaim := { program := "ytikegnnlmfidfaa", sum := "cad2bad857a683d3d0614f0d155882395200b7eaac51463af199ffd241c87633", func := "packtrain/packtrainlaw12.MatrixNames", spec := "matrixNames", inPlace := ["internal/bytealg.abigen_runtime_cmpstring", "slices.overlaps[packtrain/api.Row]", "slices.overlaps[int]"], unfollowed := true, recurses := true, apart := false, narrowed := true }
def MatrixNamesUptoSaid : Prop := matrixNamesUptoRow.holds Try.pinned (OpenSpec.upto matrixNamesSpec)

/-- 'packtrainlaw12.MatrixBack', WHERE WHAT IT READS IS OF BULK AT MOST 1048576: true; the input reads as it did. -/
def matrixBackUptoRow : OpenClaim := { program := "ytikegnnlmfidfaa", sum := "cad2bad857a683d3d0614f0d155882395200b7eaac51463af199ffd241c87633", func := "packtrain/packtrainlaw12.MatrixBack", spec := "matrixBack", inPlace := ["internal/bytealg.abigen_runtime_cmpstring", "slices.overlaps[packtrain/api.Row]", "slices.overlaps[int]"], unfollowed := true, recurses := true, apart := false, narrowed := true }
def MatrixBackUptoSaid : Prop := matrixBackUptoRow.holds Try.pinned (OpenSpec.upto matrixBackSpec)

/-- 'packtrainlaw12.MatrixCalls', WHERE WHAT IT READS IS OF BULK AT MOST 1048576: true; the input reads as it did. -/
def matrixCallsUptoRow : OpenClaim := { program := "ytikegnnlmfidfaa", sum := "cad2bad857a683d3d0614f0d155882395200b7eaac51463af199ffd241c87633", func := "packtrain/packtrainlaw12.MatrixCalls", spec := "matrixCalls", inPlace := ["internal/bytealg.abigen_runtime_cmpstring", "slices.overlaps[packtrain/api.Row]", "slices.overlaps[int]"], unfollowed := true, recurses := true, apart := false, narrowed := true }
def MatrixCallsUptoSaid : Prop := matrixCallsUptoRow.holds Try.pinned (OpenSpec.upto matrixCallsSpec)

/-- 'packtrainlaw12.MatrixApart', WHERE WHAT IT READS IS OF BULK AT MOST 1048576: true; the input reads as it did. -/
def matrixApartUptoRow : OpenClaim := { program := "ytikegnnlmfidfaa", sum := "cad2bad857a683d3d0614f0d155882395200b7eaac51463af199ffd241c87633", func := "packtrain/packtrainlaw12.MatrixApart", spec := "matrixApart", inPlace := ["internal/bytealg.abigen_runtime_cmpstring", "slices.overlaps[packtrain/api.Row]", "slices.overlaps[int]"], unfollowed := true, recurses := true, apart := false, narrowed := true }
def MatrixApartUptoSaid : Prop := matrixApartUptoRow.holds Try.pinned (OpenSpec.upto matrixApartSpec)

end Rows
end Go.Proofs.Ytikegnnlmfidfaa
