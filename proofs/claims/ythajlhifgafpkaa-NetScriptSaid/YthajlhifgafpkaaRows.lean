/-
  No cell of these rows narrows 'for every input' (looked for: loops, veiled, ifaces, maps, wideKeys, modest, calm, conditions, laid).
  DERIVED. THE GIVEN ROWS OF THIS SEAT. 6 by the template 'for every input the law returns true; each argument reads behind the call as it read before'; 0 by the template 'total and deterministic' (their statements: YthajlhifgafpkaaTotals.lean).
  GIVEN WITH THE SEED: the statements are not yours to turn. If you find one false, say at which input.
  Laid BY PROGRAM, IN A SANDBOX (cutbox-rows.mjs): the forced cells as the released guide's own fill.sh prints them over the translation 71f0aa7e9c222f54… (all of the seat's roots in one cut). By AI agents, Wed Nov 11 2026. No macro, syntax, notation, axiom, sorry.
-/
import Derived.Test.YthajlhifgafpkaaChecked
import GoSem.Claim
import GoSem.ClaimJoined
import GoSem.ClaimMapViews
import Derived.JoinedTies
import Derived.KernelRfl
namespace Go.Proofs.Ythajlhifgafpkaa
/- THE CELL 'sum', in the pinned program and in every row, IS THE sha256 OF THE DUMP (.gsa) THAT YthajlhifgafpkaaProg.lean LOADS. Nothing in Lean hashes anything: it is a label: what it is worth is what the hold of that sum in a sandbox is worth. -/
noncomputable def Try.pinned : Pinned := { name := "ythajlhifgafpkaa", sum := "71f0aa7e9c222f54a13ea2b0ef859cf65971077b96c973d6e7e471341228da07", checked := Try.checked }
namespace Rows
def none {H : Type} : Left H := { results := [], args := [] }

/-- 'packtrainlaw14.NetFull': WHATEVER THE INPUT: true; the input reads as it did. -/
def netFullSpec : ChangeSpec := { name := "netFull", fn := fun _ => fun
  | [d] => { results := [.lit (.bool true)], args := [d] }
  | _ => none }
def netFullRow : OpenClaim := { program := "ythajlhifgafpkaa", sum := "71f0aa7e9c222f54a13ea2b0ef859cf65971077b96c973d6e7e471341228da07", func := "packtrain/packtrainlaw14.NetFull", spec := "netFull", unfollowed := true, recurses := true, plainKeys := false, apart := false }
def NetFullSaid : Prop := netFullRow.holds Try.pinned (OpenSpec.ofChange netFullSpec)

/-- ITS FALSE NEIGHBOUR: 'it returns false'. Refute it at one input. -/
def netFullWrong : ChangeSpec := { name := "netFull", fn := fun _ => fun
  | [d] => { results := [.lit (.bool false)], args := [d] }
  | _ => none }
def NetFullWrongFalsely : Prop := netFullRow.holds Try.pinned (OpenSpec.ofChange netFullWrong)

/-- 'packtrainlaw14.NetArrives': WHATEVER THE INPUT: true; the input reads as it did. -/
def netArrivesSpec : ChangeSpec := { name := "netArrives", fn := fun _ => fun
  | [d] => { results := [.lit (.bool true)], args := [d] }
  | _ => none }
def netArrivesRow : OpenClaim := { program := "ythajlhifgafpkaa", sum := "71f0aa7e9c222f54a13ea2b0ef859cf65971077b96c973d6e7e471341228da07", func := "packtrain/packtrainlaw14.NetArrives", spec := "netArrives", unfollowed := true, recurses := true, plainKeys := false, apart := false }
def NetArrivesSaid : Prop := netArrivesRow.holds Try.pinned (OpenSpec.ofChange netArrivesSpec)

/-- ITS FALSE NEIGHBOUR: 'it returns false'. Refute it at one input. -/
def netArrivesWrong : ChangeSpec := { name := "netArrives", fn := fun _ => fun
  | [d] => { results := [.lit (.bool false)], args := [d] }
  | _ => none }
def NetArrivesWrongFalsely : Prop := netArrivesRow.holds Try.pinned (OpenSpec.ofChange netArrivesWrong)

/-- 'packtrainlaw14.NetNames': WHATEVER THE INPUT: true; the input reads as it did. -/
def netNamesSpec : ChangeSpec := { name := "netNames", fn := fun _ => fun
  | [] => { results := [.lit (.bool true)], args := [] }
  | _ => none }
def netNamesRow : OpenClaim := { program := "ythajlhifgafpkaa", sum := "71f0aa7e9c222f54a13ea2b0ef859cf65971077b96c973d6e7e471341228da07", func := "packtrain/packtrainlaw14.NetNames", spec := "netNames", unfollowed := true, recurses := true, plainKeys := false, apart := false }
def NetNamesSaid : Prop := netNamesRow.holds Try.pinned (OpenSpec.ofChange netNamesSpec)

/-- ITS FALSE NEIGHBOUR: 'it returns false'. Refute it at one input. -/
def netNamesWrong : ChangeSpec := { name := "netNames", fn := fun _ => fun
  | [] => { results := [.lit (.bool false)], args := [] }
  | _ => none }
def NetNamesWrongFalsely : Prop := netNamesRow.holds Try.pinned (OpenSpec.ofChange netNamesWrong)

/-- 'packtrainlaw14.NetCounts': WHATEVER THE INPUT: true; the input reads as it did. -/
def netCountsSpec : ChangeSpec := { name := "netCounts", fn := fun _ => fun
  | [d] => { results := [.lit (.bool true)], args := [d] }
  | _ => none }
def netCountsRow : OpenClaim := { program := "ythajlhifgafpkaa", sum := "71f0aa7e9c222f54a13ea2b0ef859cf65971077b96c973d6e7e471341228da07", func := "packtrain/packtrainlaw14.NetCounts", spec := "netCounts", unfollowed := true, recurses := true, plainKeys := false, apart := false }
def NetCountsSaid : Prop := netCountsRow.holds Try.pinned (OpenSpec.ofChange netCountsSpec)

/-- ITS FALSE NEIGHBOUR: 'it returns false'. Refute it at one input. -/
def netCountsWrong : ChangeSpec := { name := "netCounts", fn := fun _ => fun
  | [d] => { results := [.lit (.bool false)], args := [d] }
  | _ => none }
def NetCountsWrongFalsely : Prop := netCountsRow.holds Try.pinned (OpenSpec.ofChange netCountsWrong)

/-- 'packtrainlaw14.NetScript': WHATEVER THE INPUT: true; the input reads as it did. -/
def netScriptSpec : ChangeSpec := { name := "netScript", fn := fun _ => fun
  | [d] => { results := [.lit (.bool true)], args := [d] }
  | _ => none }
def netScriptRow : OpenClaim := { program := "ythajlhifgafpkaa", sum := "71f0aa7e9c222f54a13ea2b0ef859cf65971077b96c973d6e7e471341228da07", func := "packtrain/packtrainlaw14.NetScript", spec := "netScript", unfollowed := true, recurses := true, plainKeys := false, apart := false }
def NetScriptSaid : Prop := netScriptRow.holds Try.pinned (OpenSpec.ofChange netScriptSpec)

/-- ITS FALSE NEIGHBOUR: 'it returns false'. Refute it at one input. -/
def netScriptWrong : ChangeSpec := { name := "netScript", fn := fun _ => fun
  | [d] => { results := [.lit (.bool false)], args := [d] }
  | _ => none }
def NetScriptWrongFalsely : Prop := netScriptRow.holds Try.pinned (OpenSpec.ofChange netScriptWrong)

/-- 'packtrainlaw14.NetNil': WHATEVER THE INPUT: true; the input reads as it did. -/
def netNilSpec : ChangeSpec := { name := "netNil", fn := fun _ => fun
  | [d] => { results := [.lit (.bool true)], args := [d] }
  | _ => none }
def netNilRow : OpenClaim := { program := "ythajlhifgafpkaa", sum := "71f0aa7e9c222f54a13ea2b0ef859cf65971077b96c973d6e7e471341228da07", func := "packtrain/packtrainlaw14.NetNil", spec := "netNil", unfollowed := true, recurses := true, plainKeys := false, apart := false }
def NetNilSaid : Prop := netNilRow.holds Try.pinned (OpenSpec.ofChange netNilSpec)

/-- ITS FALSE NEIGHBOUR: 'it returns false'. Refute it at one input. -/
def netNilWrong : ChangeSpec := { name := "netNil", fn := fun _ => fun
  | [d] => { results := [.lit (.bool false)], args := [d] }
  | _ => none }
def NetNilWrongFalsely : Prop := netNilRow.holds Try.pinned (OpenSpec.ofChange netNilWrong)

/- THE SECOND FORM. 'bulk': how many values and letters a reading holds, each counted each time it is reached (what is shared counts as often as it is met; a slice's spare places count too). A statement '..UptoSaid' is the law's where the arguments, and the package variables that the reading takes, are together of bulk at most 1048576: NARROWER than '..Said'. Prove '..Said' where nothing that the law and all that it calls make is longer than what came in: it says more and counts as full. Else prove '..UptoSaid'. A law counts once. -/
mutual
def uptoBulk {H : Type} : DataW H → Nat
  | .lit (.string bytes) => bytes.length + 1
  | .lit _ => 1
  | .nil => 1
  | .ptr d => uptoBulk d + 1
  | .slice elems spare => uptoBulkAll elems + uptoBulkAll spare + 1
  | .agg parts => uptoBulkAll parts + 1
  | .iface _ d => uptoBulk d + 1
  | .map entries => uptoBulkEntries entries + 1
  | .held _ => 1
def uptoBulkAll {H : Type} : List (DataW H) → Nat
  | [] => 0
  | d :: r => uptoBulk d + uptoBulkAll r
def uptoBulkEntries {H : Type} : List (Lit × DataW H) → Nat
  | [] => 0
  | x :: r => uptoBulkEntry x + uptoBulkEntries r
def uptoBulkEntry {H : Type} : Lit × DataW H → Nat
  | (.string bytes, d) => bytes.length + uptoBulk d + 1
  | (_, d) => uptoBulk d + 1
 end
def uptoSmall : (H : Type) → List (DataW H) → Bool := fun _ ds => decide (uptoBulkAll ds ≤ 1048576)
def OpenSpec.upto (s : _root_.Go.ChangeSpec) : _root_.Go.OpenSpec := { _root_.Go.OpenSpec.ofChange s with cond := some uptoSmall }

/-- 'packtrainlaw14.NetFull', WHERE WHAT IT READS IS OF BULK AT MOST 1048576: true; the input reads as it did. -/
def netFullUptoRow : OpenClaim := { program := "ythajlhifgafpkaa", sum := "71f0aa7e9c222f54a13ea2b0ef859cf65971077b96c973d6e7e471341228da07", func := "packtrain/packtrainlaw14.NetFull", spec := "netFull", unfollowed := true, recurses := true, plainKeys := false, apart := false, narrowed := true }
def NetFullUptoSaid : Prop := netFullUptoRow.holds Try.pinned (OpenSpec.upto netFullSpec)

/-- 'packtrainlaw14.NetArrives', WHERE WHAT IT READS IS OF BULK AT MOST 1048576: true; the input reads as it did. -/
def netArrivesUptoRow : OpenClaim := { program := "ythajlhifgafpkaa", sum := "71f0aa7e9c222f54a13ea2b0ef859cf65971077b96c973d6e7e471341228da07", func := "packtrain/packtrainlaw14.NetArrives", spec := "netArrives", unfollowed := true, recurses := true, plainKeys := false, apart := false, narrowed := true }
def NetArrivesUptoSaid : Prop := netArrivesUptoRow.holds Try.pinned (OpenSpec.upto netArrivesSpec)

/-- 'packtrainlaw14.NetNames', WHERE WHAT IT READS IS OF BULK AT MOST 1048576: true; the input reads as it did. -/
def netNamesUptoRow : OpenClaim := { program := "ythajlhifgafpkaa", sum := "71f0aa7e9c222f54a13ea2b0ef859cf65971077b96c973d6e7e471341228da07", func := "packtrain/packtrainlaw14.NetNames", spec := "netNames", unfollowed := true, recurses := true, plainKeys := false, apart := false, narrowed := true }
def NetNamesUptoSaid : Prop := netNamesUptoRow.holds Try.pinned (OpenSpec.upto netNamesSpec)

/-- 'packtrainlaw14.NetCounts', WHERE WHAT IT READS IS OF BULK AT MOST 1048576: true; the input reads as it did. -/
def netCountsUptoRow : OpenClaim := { program := "ythajlhifgafpkaa", sum := "71f0aa7e9c222f54a13ea2b0ef859cf65971077b96c973d6e7e471341228da07", func := "packtrain/packtrainlaw14.NetCounts", spec := "netCounts", unfollowed := true, recurses := true, plainKeys := false, apart := false, narrowed := true }
def NetCountsUptoSaid : Prop := netCountsUptoRow.holds Try.pinned (OpenSpec.upto netCountsSpec)

/-- 'packtrainlaw14.NetScript', WHERE WHAT IT READS IS OF BULK AT MOST 1048576: true; the input reads as it did. -/
def netScriptUptoRow : OpenClaim := { program := "ythajlhifgafpkaa", sum := "71f0aa7e9c222f54a13ea2b0ef859cf65971077b96c973d6e7e471341228da07", func := "packtrain/packtrainlaw14.NetScript", spec := "netScript", unfollowed := true, recurses := true, plainKeys := false, apart := false, narrowed := true }
def NetScriptUptoSaid : Prop := netScriptUptoRow.holds Try.pinned (OpenSpec.upto netScriptSpec)

/-- 'packtrainlaw14.NetNil', WHERE WHAT IT READS IS OF BULK AT MOST 1048576: true; the input reads as it did. -/
def netNilUptoRow : OpenClaim := { program := "ythajlhifgafpkaa", sum := "71f0aa7e9c222f54a13ea2b0ef859cf65971077b96c973d6e7e471341228da07", func := "packtrain/packtrainlaw14.NetNil", spec := "netNil", unfollowed := true, recurses := true, plainKeys := false, apart := false, narrowed := true }
def NetNilUptoSaid : Prop := netNilUptoRow.holds Try.pinned (OpenSpec.upto netNilSpec)

end Rows
end Go.Proofs.Ythajlhifgafpkaa
