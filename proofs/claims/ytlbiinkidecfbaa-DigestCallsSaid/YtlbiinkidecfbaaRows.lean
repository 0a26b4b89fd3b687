/-
  No cell of these rows narrows 'for every input' (looked for: loops, veiled, ifaces, maps, wideKeys, modest, calm, conditions, laid).
  DERIVED. THE GIVEN ROWS OF THIS SEAT. 5 by the template 'for every input the law returns true; each argument reads behind the call as it read before'; 0 by the template 'total and deterministic' (their statements: YtlbiinkidecfbaaTotals.lean).
  GIVEN WITH THE SEED: the statements are not yours to turn. If you find one false, say at which input.
  Laid BY PROGRAM, IN A SANDBOX (cutbox-rows.mjs): the forced cells as the released guide's own fill.sh prints them over the translation 25abe07f2956e846… (all of the seat's roots in one cut). By AI agents, Wed Nov 11 2026. No macro, syntax, notation, axiom, sorry.
-/
import Derived.Test.YtlbiinkidecfbaaChecked
import GoSem.Claim
import GoSem.ClaimJoined
import GoSem.ClaimMapViews
import Derived.JoinedTies
import Derived.KernelRfl
namespace Go.Proofs.Ytlbiinkidecfbaa
/- THE CELL 'sum', in the pinned program and in every row, IS THE sha256 OF THE DUMP (.gsa) THAT YtlbiinkidecfbaaProg.lean LOADS. Nothing in Lean hashes anything: it is a label: what it is worth is what the hold of that sum in a sandbox is worth. -/
noncomputable def Try.pinned : Pinned := { name := "ytlbiinkidecfbaa", sum := "25abe07f2956e8467426cde14f5b9805d6d0f62d91074a898b50453ecfa675ec", checked := Try.checked }
namespace Rows
def none {H : Type} : Left H := { results := [], args := [] }

/-- 'packtrainlaw02.DigestNil': WHATEVER THE INPUT: true; the input reads as it did. -/
def digestNilSpec : ChangeSpec := { name := "digestNil", fn := fun _ => fun
  | [d] => { results := [.lit (.bool true)], args := [d] }
  | _ => none }
def digestNilRow : OpenClaim := { program := "ytlbiinkidecfbaa", sum := "25abe07f2956e8467426cde14f5b9805d6d0f62d91074a898b50453ecfa675ec", func := "packtrain/packtrainlaw02.DigestNil", spec := "digestNil", unfollowed := true, recurses := true, apart := false }
def DigestNilSaid : Prop := digestNilRow.holds Try.pinned (OpenSpec.ofChange digestNilSpec)

/-- ITS FALSE NEIGHBOUR: 'it returns false'. Refute it at one input. -/
def digestNilWrong : ChangeSpec := { name := "digestNil", fn := fun _ => fun
  | [d] => { results := [.lit (.bool false)], args := [d] }
  | _ => none }
def DigestNilWrongFalsely : Prop := digestNilRow.holds Try.pinned (OpenSpec.ofChange digestNilWrong)

/-- 'packtrainlaw02.DigestNames': WHATEVER THE INPUT: true; the input reads as it did. -/
def digestNamesSpec : ChangeSpec := { name := "digestNames", fn := fun _ => fun
  | [] => { results := [.lit (.bool true)], args := [] }
  | _ => none }
def digestNamesRow : OpenClaim := { program := "ytlbiinkidecfbaa", sum := "25abe07f2956e8467426cde14f5b9805d6d0f62d91074a898b50453ecfa675ec", func := "packtrain/packtrainlaw02.DigestNames", spec := "digestNames", unfollowed := true, recurses := true, apart := false }
def DigestNamesSaid : Prop := digestNamesRow.holds Try.pinned (OpenSpec.ofChange digestNamesSpec)

/-- ITS FALSE NEIGHBOUR: 'it returns false'. Refute it at one input. -/
def digestNamesWrong : ChangeSpec := { name := "digestNames", fn := fun _ => fun
  | [] => { results := [.lit (.bool false)], args := [] }
  | _ => none }
def DigestNamesWrongFalsely : Prop := digestNamesRow.holds Try.pinned (OpenSpec.ofChange digestNamesWrong)

/-- 'packtrainlaw02.DigestSteps': WHATEVER THE INPUT: true; the input reads as it did. -/
def digestStepsSpec : ChangeSpec := { name := "digestSteps", fn := fun _ => fun
  | [d1, d2] => { results := [.lit (.bool true)], args := [d1, d2] }
  | _ => none }
def digestStepsRow : OpenClaim := { program := "ytlbiinkidecfbaa", sum := "25abe07f2956e8467426cde14f5b9805d6d0f62d91074a898b50453ecfa675ec", func := "packtrain/packtrainlaw02.DigestSteps", spec := "digestSteps", unfollowed := true, recurses := true, apart := false }
def DigestStepsSaid : Prop := digestStepsRow.holds Try.pinned (OpenSpec.ofChange digestStepsSpec)

/-- ITS FALSE NEIGHBOUR: 'it returns false'. Refute it at one input. -/
def digestStepsWrong : ChangeSpec := { name := "digestSteps", fn := fun _ => fun
  | [d1, d2] => { results := [.lit (.bool false)], args := [d1, d2] }
  | _ => none }
def DigestStepsWrongFalsely : Prop := digestStepsRow.holds Try.pinned (OpenSpec.ofChange digestStepsWrong)

/-- 'packtrainlaw02.DigestCalls': WHATEVER THE INPUT: true; the input reads as it did. -/
def digestCallsSpec : ChangeSpec := { name := "digestCalls", fn := fun _ => fun
  | [d1, d2, d3, d4, d5, d6] => { results := [.lit (.bool true)], args := [d1, d2, d3, d4, d5, d6] }
  | _ => none }
def digestCallsRow : OpenClaim := { program := "ytlbiinkidecfbaa", sum := "25abe07f2956e8467426cde14f5b9805d6d0f62d91074a898b50453ecfa675ec", func := "packtrain/packtrainlaw02.DigestCalls", spec := "digestCalls", unfollowed := true, recurses := true, apart := false }
def DigestCallsSaid : Prop := digestCallsRow.holds Try.pinned (OpenSpec.ofChange digestCallsSpec)

/-- ITS FALSE NEIGHBOUR: 'it returns false'. Refute it at one input. -/
def digestCallsWrong : ChangeSpec := { name := "digestCalls", fn := fun _ => fun
  | [d1, d2, d3, d4, d5, d6] => { results := [.lit (.bool false)], args := [d1, d2, d3, d4, d5, d6] }
  | _ => none }
def DigestCallsWrongFalsely : Prop := digestCallsRow.holds Try.pinned (OpenSpec.ofChange digestCallsWrong)

/-- 'packtrainlaw02.DigestParts': WHATEVER THE INPUT: true; the input reads as it did. -/
def digestPartsSpec : ChangeSpec := { name := "digestParts", fn := fun _ => fun
  | [d1, d2] => { results := [.lit (.bool true)], args := [d1, d2] }
  | _ => none }
def digestPartsRow : OpenClaim := { program := "ytlbiinkidecfbaa", sum := "25abe07f2956e8467426cde14f5b9805d6d0f62d91074a898b50453ecfa675ec", func := "packtrain/packtrainlaw02.DigestParts", spec := "digestParts", unfollowed := true, recurses := true, apart := false }
def DigestPartsSaid : Prop := digestPartsRow.holds Try.pinned (OpenSpec.ofChange digestPartsSpec)

/-- ITS FALSE NEIGHBOUR: 'it returns false'. Refute it at one input. -/
def digestPartsWrong : ChangeSpec := { name := "digestParts", fn := fun _ => fun
  | [d1, d2] => { results := [.lit (.bool false)], args := [d1, d2] }
  | _ => none }
def DigestPartsWrongFalsely : Prop := digestPartsRow.holds Try.pinned (OpenSpec.ofChange digestPartsWrong)

/- THE SECOND FORM. 'bulk': how many values and letters a reading holds, each counted each time it is reached (what is shared counts as often as it is met; a slice's spare places count too). A statement '..UptoSaid' is the law's where the arguments, and the package variables that the reading takes, are together of bulk at most 1048576: NARROWER than '..Said'. Prove '..Said' where nothing that the law and all that it calls make is longer than what came in: it says more and counts as full. Else prove '..UptoSaid'. A law counts once. -/
mutual
def uptoBulk {H : Type} : DataW H → Nat
  | .lit (.string bytes) => bytes.length + 1
  | .lit _ => 1
  | .nil => 1
  | .ptr d => uptoBulk d + 1
  | .slice elems spare => uptoBulkAll elems + uptoBulkAll spare + 1
  | .agg parts => uptoBulkAll parts + 1
  | .iface _ d => uptoBulk d + 1
  | .map entries => uptoBulkEntries entries + 1
  | .held _ => 1
def uptoBulkAll {H : Type} : List (DataW H) → Nat
  | [] => 0
  | d :: r => uptoBulk d + uptoBulkAll r
def uptoBulkEntries {H : Type} : List (Lit × DataW H) → Nat
  | [] => 0
  | x :: r => uptoBulkEntry x + uptoBulkEntries r
def uptoBulkEntry {H : Type} : Lit × DataW H → Nat
  | (.string bytes, d) => bytes.length + uptoBulk d + 1
  | (_, d) => uptoBulk d + 1
 end
def uptoSmall : (H : Type) → List (DataW H) → Bool := fun _ ds => decide (uptoBulkAll ds ≤ 1048576)
def OpenSpec.upto (s : _root_.Go.ChangeSpec) : _root_.Go.OpenSpec := { _root_.Go.OpenSpec.ofChange s with cond := some uptoSmall }

/-- 'packtrainlaw02.DigestNil', WHERE WHAT IT READS IS OF BULK AT MOST 1048576: true; the input reads as it did. -/
def digestNilUptoRow : OpenClaim := { program := "ytlbiinkidecfbaa", sum := "25abe07f2956e8467426cde14f5b9805d6d0f62d91074a898b50453ecfa675ec", func := "packtrain/packtrainlaw02.DigestNil", spec := "digestNil", unfollowed := true, recurses := true, apart := false, narrowed := true }
def DigestNilUptoSaid : Prop := digestNilUptoRow.holds Try.pinned (OpenSpec.upto digestNilSpec)

/-- 'packtrainlaw02.DigestNames', WHERE WHAT IT READS IS OF BULK AT MOST 1048576: true; the input reads as it did. -/
def digestNamesUptoRow : OpenClaim := { program := "ytlbiinkidecfbaa", sum := "25abe07f2956e8467426cde14f5b9805d6d0f62d91074a898b50453ecfa675ec", func := "packtrain/packtrainlaw02.DigestNames", spec := "digestNames", unfollowed := true, recurses := true, apart := false, narrowed := true }
def DigestNamesUptoSaid : Prop := digestNamesUptoRow.holds Try.pinned (OpenSpec.upto digestNamesSpec)

/-- 'packtrainlaw02.DigestSteps', WHERE WHAT IT READS IS OF BULK AT MOST 1048576: true; the input reads as it did. -/
def digestStepsUptoRow : OpenClaim := { program := "ytlbiinkidecfbaa", sum := "25abe07f2956e8467426cde14f5b9805d6d0f62d91074a898b50453ecfa675ec", func := "packtrain/packtrainlaw02.DigestSteps", spec := "digestSteps", unfollowed := true, recurses := true, apart := false, narrowed := true }
def DigestStepsUptoSaid : Prop := digestStepsUptoRow.holds Try.pinned (OpenSpec.upto digestStepsSpec)

/-- 'packtrainlaw02.DigestCalls', WHERE WHAT IT READS IS OF BULK AT MOST 1048576: true; the input reads as it did. -/
def digestCallsUptoRow : OpenClaim := { program := "ytlbiinkidecfbaa", sum := "25abe07f2956e8467426cde14f5b9805d6d0f62d91074a898b50453ecfa675ec", func := "packtrain/packtrainlaw02.DigestCalls", spec := "digestCalls", unfollowed := true, recurses := true, apart := false, narrowed := true }
def DigestCallsUptoSaid : Prop := digestCallsUptoRow.holds Try.pinned (OpenSpec.upto digestCallsSpec)

/-- 'packtrainlaw02.DigestParts', WHERE WHAT IT READS IS OF BULK AT MOST 1048576: true; the input reads as it did. -/
def digestPartsUptoRow : OpenClaim := { program := "ytlbiinkidecfbaa", sum := "25abe07f2956e8467426cde14f5b9805d6d0f62d91074a898b50453ecfa675ec", func := "packtrain/packtrainlaw02.DigestParts", spec := "digestParts", unfollowed := true, recurses := true, apart := false, narrowed := true }
def DigestPartsUptoSaid : Prop := digestPartsUptoRow.holds Try.pinned (OpenSpec.upto digestPartsSpec)

end Rows
end Go.Proofs.Ytlbiinkidecfbaa
