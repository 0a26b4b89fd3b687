/-
  Records: the plain law of Check.
-/
import Derived.Test.YtndekohimfjdeaaDoorRecA
namespace Go.Proofs.YtndekohimfjdeaaDoor
open Go.RowKit Go.Shelf
/-- A record. -/
structure Rcd where
  path : Bl
  v : List (Int × Nat)
  dev : Int
  gone : Bool
  size : Int
  len : Int
  ds : List Dg
/-- Is a list the zero list? -/
def emptyR (r : Rcd) : Bool := decide (r.size = 0) && decide (r.len = 0) && decide (r.ds.length = 0)
/-- What Check of a record answers. -/
def okR (r : Rcd) : Nat :=
  if checkL r.path ≠ 0 then checkL r.path
  else if okV 0 r.v = false then 2
  else if chk r.size r.len r.ds.length = 3 then 3
  else if val r.v r.dev = 0 ∨ (r.gone = true ∧ emptyR r = false) ∨ (r.gone = false ∧ chk r.size r.len r.ds.length ≠ 0) then 2 else 0
end Go.Proofs.YtndekohimfjdeaaDoor
