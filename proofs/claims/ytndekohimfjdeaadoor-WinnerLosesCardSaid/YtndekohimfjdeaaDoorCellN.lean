/-
  A cell of an object laid last.
-/
import Derived.Test.YtndekohimfjdeaaDoorBase
import Derived.Test.YtndekohimfjdeaaDoorChecked
import Derived.Shelf.Abstract
namespace Go.Proofs.YtndekohimfjdeaaDoor
open Go.RowKit
theorem cell_nw (w : World) (cs : Array Value) (t : TypeId) (j : Nat) : (w.alloc (.cells cs t)).cell? ⟨w.heap.size, j, none⟩ = cs[j]? := by
  rw [cell_of_row _ _ j _ t (0, 0) (heap_alloc_new w _)]
end Go.Proofs.YtndekohimfjdeaaDoor
