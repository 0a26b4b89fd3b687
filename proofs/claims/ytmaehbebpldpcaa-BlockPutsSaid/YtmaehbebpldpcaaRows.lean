/-
  No cell of these rows narrows 'for every input' (looked for: loops, veiled, ifaces, maps, wideKeys, modest, calm, conditions, laid).
  DERIVED. THE GIVEN ROWS OF THIS SEAT. 5 by the template 'for every input the law returns true; each argument reads behind the call as it read before'; 0 by the template 'total and deterministic' (their statements: YtmaehbebpldpcaaTotals.lean).
  GIVEN WITH THE SEED: the statements are not yours to turn. If you find one false, say at which input.
  Laid BY PROGRAM, IN A SANDBOX (cutbox-rows.mjs): the forced cells as the released guide's own fill.sh prints them over the translation e59b4c8920535344… (all of the seat's roots in one cut). By AI agents, Wed Nov 11 2026. No macro, syntax, notation, axiom, sorry.
-/
import Derived.Test.YtmaehbebpldpcaaChecked
import GoSem.Claim
import GoSem.ClaimJoined
import GoSem.ClaimMapViews
import Derived.JoinedTies
import Derived.KernelRfl
namespace Go.Proofs.Ytmaehbebpldpcaa
/- THE CELL 'sum', in the pinned program and in every row, IS THE sha256 OF THE DUMP (.gsa) THAT YtmaehbebpldpcaaProg.lean LOADS. Nothing in Lean hashes anything: it is a label: what it is worth is what the hold of that sum in a sandbox is worth. -/
noncomputable def Try.pinned : Pinned := { name := "ytmaehbebpldpcaa", sum := "e59b4c8920535344f26c6606694adb092bc64b0a10eb219a9886cdaaa954207a", checked := Try.checked }
namespace Rows
def none {H : Type} : Left H := { results := [], args := [] }

/-- 'packtrainlaw09.BlockCalls': WHATEVER THE INPUT: true; the input reads as it did. -/
def blockCallsSpec : ChangeSpec := { name := "blockCalls", fn := fun _ => fun
  | [d1, d2, d3, d4, d5] => { results := [.lit (.bool true)], args := [d1, d2, d3, d4, d5] }
  | _ => none }
def blockCallsRow : OpenClaim := { program := "ytmaehbebpldpcaa", sum := "e59b4c8920535344f26c6606694adb092bc64b0a10eb219a9886cdaaa954207a", func := "packtrain/packtrainlaw09.BlockCalls", spec := "blockCalls", unfollowed := true, recurses := true, plainKeys := false, apart := false }
def BlockCallsSaid : Prop := blockCallsRow.holds Try.pinned (OpenSpec.ofChange blockCallsSpec)

/-- ITS FALSE NEIGHBOUR: 'it returns false'. Refute it at one input. -/
def blockCallsWrong : ChangeSpec := { name := "blockCalls", fn := fun _ => fun
  | [d1, d2, d3, d4, d5] => { results := [.lit (.bool false)], args := [d1, d2, d3, d4, d5] }
  | _ => none }
def BlockCallsWrongFalsely : Prop := blockCallsRow.holds Try.pinned (OpenSpec.ofChange blockCallsWrong)

/-- 'packtrainlaw09.BlockTiles': WHATEVER THE INPUT: true; the input reads as it did. -/
def blockTilesSpec : ChangeSpec := { name := "blockTiles", fn := fun _ => fun
  | [d1, d2, d3] => { results := [.lit (.bool true)], args := [d1, d2, d3] }
  | _ => none }
def blockTilesRow : OpenClaim := { program := "ytmaehbebpldpcaa", sum := "e59b4c8920535344f26c6606694adb092bc64b0a10eb219a9886cdaaa954207a", func := "packtrain/packtrainlaw09.BlockTiles", spec := "blockTiles", unfollowed := true, recurses := true, plainKeys := false, apart := false }
def BlockTilesSaid : Prop := blockTilesRow.holds Try.pinned (OpenSpec.ofChange blockTilesSpec)

/-- ITS FALSE NEIGHBOUR: 'it returns false'. Refute it at one input. -/
def blockTilesWrong : ChangeSpec := { name := "blockTiles", fn := fun _ => fun
  | [d1, d2, d3] => { results := [.lit (.bool false)], args := [d1, d2, d3] }
  | _ => none }
def BlockTilesWrongFalsely : Prop := blockTilesRow.holds Try.pinned (OpenSpec.ofChange blockTilesWrong)

/-- 'packtrainlaw09.BlockNames': WHATEVER THE INPUT: true; the input reads as it did. -/
def blockNamesSpec : ChangeSpec := { name := "blockNames", fn := fun _ => fun
  | [] => { results := [.lit (.bool true)], args := [] }
  | _ => none }
def blockNamesRow : OpenClaim := { program := "ytmaehbebpldpcaa", sum := "e59b4c8920535344f26c6606694adb092bc64b0a10eb219a9886cdaaa954207a", func := "packtrain/packtrainlaw09.BlockNames", spec := "blockNames", unfollowed := true, recurses := true, plainKeys := false, apart := false }
def BlockNamesSaid : Prop := blockNamesRow.holds Try.pinned (OpenSpec.ofChange blockNamesSpec)

/-- ITS FALSE NEIGHBOUR: 'it returns false'. Refute it at one input. -/
def blockNamesWrong : ChangeSpec := { name := "blockNames", fn := fun _ => fun
  | [] => { results := [.lit (.bool false)], args := [] }
  | _ => none }
def BlockNamesWrongFalsely : Prop := blockNamesRow.holds Try.pinned (OpenSpec.ofChange blockNamesWrong)

/-- 'packtrainlaw09.BlockPlans': WHATEVER THE INPUT: true; the input reads as it did. -/
def blockPlansSpec : ChangeSpec := { name := "blockPlans", fn := fun _ => fun
  | [d1, d2, d3, d4] => { results := [.lit (.bool true)], args := [d1, d2, d3, d4] }
  | _ => none }
def blockPlansRow : OpenClaim := { program := "ytmaehbebpldpcaa", sum := "e59b4c8920535344f26c6606694adb092bc64b0a10eb219a9886cdaaa954207a", func := "packtrain/packtrainlaw09.BlockPlans", spec := "blockPlans", unfollowed := true, recurses := true, plainKeys := false, apart := false }
def BlockPlansSaid : Prop := blockPlansRow.holds Try.pinned (OpenSpec.ofChange blockPlansSpec)

/-- ITS FALSE NEIGHBOUR: 'it returns false'. Refute it at one input. -/
def blockPlansWrong : ChangeSpec := { name := "blockPlans", fn := fun _ => fun
  | [d1, d2, d3, d4] => { results := [.lit (.bool false)], args := [d1, d2, d3, d4] }
  | _ => none }
def BlockPlansWrongFalsely : Prop := blockPlansRow.holds Try.pinned (OpenSpec.ofChange blockPlansWrong)

/-- 'packtrainlaw09.BlockPuts': WHATEVER THE INPUT: true; the input reads as it did. -/
def blockPutsSpec : ChangeSpec := { name := "blockPuts", fn := fun _ => fun
  | [d1, d2, d3] => { results := [.lit (.bool true)], args := [d1, d2, d3] }
  | _ => none }
def blockPutsRow : OpenClaim := { program := "ytmaehbebpldpcaa", sum := "e59b4c8920535344f26c6606694adb092bc64b0a10eb219a9886cdaaa954207a", func := "packtrain/packtrainlaw09.BlockPuts", spec := "blockPuts", unfollowed := true, recurses := true, plainKeys := false, apart := false }
def BlockPutsSaid : Prop := blockPutsRow.holds Try.pinned (OpenSpec.ofChange blockPutsSpec)

/-- ITS FALSE NEIGHBOUR: 'it returns false'. Refute it at one input. -/
def blockPutsWrong : ChangeSpec := { name := "blockPuts", fn := fun _ => fun
  | [d1, d2, d3] => { results := [.lit (.bool false)], args := [d1, d2, d3] }
  | _ => none }
def BlockPutsWrongFalsely : Prop := blockPutsRow.holds Try.pinned (OpenSpec.ofChange blockPutsWrong)

/- THE SECOND FORM. 'bulk': how many values and letters a reading holds, each counted each time it is reached (what is shared counts as often as it is met; a slice's spare places count too). A statement '..UptoSaid' is the law's where the arguments, and the package variables that the reading takes, are together of bulk at most 1048576: NARROWER than '..Said'. Prove '..Said' where nothing that the law and all that it calls make is longer than what came in: it says more and counts as full. Else prove '..UptoSaid'. A law counts once. -/
mutual
def uptoBulk {H : Type} : DataW H → Nat
  | .lit (.string bytes) => bytes.length + 1
  | .lit _ => 1
  | .nil => 1
  | .ptr d => uptoBulk d + 1
  | .slice elems spare => uptoBulkAll elems + uptoBulkAll spare + 1
  | .agg parts => uptoBulkAll parts + 1
  | .iface _ d => uptoBulk d + 1
  | .map entries => uptoBulkEntries entries + 1
  | .held _ => 1
def uptoBulkAll {H : Type} : List (DataW H) → Nat
  | [] => 0
  | d :: r => uptoBulk d + uptoBulkAll r
def uptoBulkEntries {H : Type} : List (Lit × DataW H) → Nat
  | [] => 0
  | x :: r => uptoBulkEntry x + uptoBulkEntries r
def uptoBulkEntry {H : Type} : Lit × DataW H → Nat
  | (.string bytes, d) => bytes.length + uptoBulk d + 1
  | (_, d) => uptoBulk d + 1
 end
def uptoSmall : (H : Type) → List (DataW H) → Bool := fun _ ds => decide (uptoBulkAll ds ≤ 1048576)
def OpenSpec.upto (s : _root_.Go.ChangeSpec) : _root_.Go.OpenSpec := { _root_.Go.OpenSpec.ofChange s with cond := some uptoSmall }

/-- 'packtrainlaw09.BlockCalls', WHERE WHAT IT READS IS OF BULK AT MOST 1048576: true; the input reads as it did. -/
def blockCallsUptoRow : OpenClaim := { program := "ytmaehbebpldpcaa", sum := "e59b4c8920535344f26c6606694adb092bc64b0a10eb219a9886cdaaa954207a", func := "packtrain/packtrainlaw09.BlockCalls", spec := "blockCalls", unfollowed := true, recurses := true, plainKeys := false, apart := false, narrowed := true }
def BlockCallsUptoSaid : Prop := blockCallsUptoRow.holds Try.pinned (OpenSpec.upto blockCallsSpec)

/-- 'packtrainlaw09.BlockTiles', WHERE WHAT IT READS IS OF BULK AT MOST 1048576: true; the input reads as it did. -/
def blockTilesUptoRow : OpenClaim := { program := "ytmaehbebpldpcaa", sum := "e59b4c8920535344f26c6606694adb092bc64b0a10eb219a9886cdaaa954207a", func := "packtrain/packtrainlaw09.BlockTiles", spec := "blockTiles", unfollowed := true, recurses := true, plainKeys := false, apart := false, narrowed := true }
def BlockTilesUptoSaid : Prop := blockTilesUptoRow.holds Try.pinned (OpenSpec.upto blockTilesSpec)

/-- 'packtrainlaw09.BlockNames', WHERE WHAT IT READS IS OF BULK AT MOST 1048576: true; the input reads as it did. -/
def blockNamesUptoRow : OpenClaim := { program := "ytmaehbebpldpcaa", sum := "e59b4c8920535344f26c6606694adb092bc64b0a10eb219a9886cdaaa954207a", func := "packtrain/packtrainlaw09.BlockNames", spec := "blockNames", unfollowed := true, recurses := true, plainKeys := false, apart := false, narrowed := true }
def BlockNamesUptoSaid : Prop := blockNamesUptoRow.holds Try.pinned (OpenSpec.upto blockNamesSpec)

/-- 'packtrainlaw09.BlockPlans', WHERE WHAT IT READS IS OF BULK AT MOST 1048576: true; the input reads as it did. -/
def blockPlansUptoRow : OpenClaim := { program := "ytmaehbebpldpcaa", sum := "e59b4c8920535344f26c6606694adb092bc64b0a10eb219a9886cdaaa954207a", func := "packtrain/packtrainlaw09.BlockPlans", spec := "blockPlans", unfollowed := true, recurses := true, plainKeys := false, apart := false, narrowed := true }
def BlockPlansUptoSaid : Prop := blockPlansUptoRow.holds Try.pinned (OpenSpec.upto blockPlansSpec)

/-- 'packtrainlaw09.BlockPuts', WHERE WHAT IT READS IS OF BULK AT MOST 1048576: true; the input reads as it did. -/
def blockPutsUptoRow : OpenClaim := { program := "ytmaehbebpldpcaa", sum := "e59b4c8920535344f26c6606694adb092bc64b0a10eb219a9886cdaaa954207a", func := "packtrain/packtrainlaw09.BlockPuts", spec := "blockPuts", unfollowed := true, recurses := true, plainKeys := false, apart := false, narrowed := true }
def BlockPutsUptoSaid : Prop := blockPutsUptoRow.holds Try.pinned (OpenSpec.upto blockPutsSpec)

end Rows
end Go.Proofs.Ytmaehbebpldpcaa
