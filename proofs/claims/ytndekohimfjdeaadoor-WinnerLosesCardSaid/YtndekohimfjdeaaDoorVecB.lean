/-
  Vectors: Bump and Merge.
-/
import Derived.Test.YtndekohimfjdeaaDoorVec
namespace Go.Proofs.YtndekohimfjdeaaDoor
open Go.RowKit
/-- The values fit. -/
def fitV (l : List (Int × Nat)) : Prop := ∀ x ∈ l, x.2 < 18446744073709551616
theorem fit_val : ∀ (l : List (Int × Nat)) (d : Int), fitV l → val l d < 18446744073709551616
  | [], _, _ => by simp [val]
  | x :: l, d, h => by
    rw [val_cons]
    split
    · exact h x List.mem_cons_self
    · exact fit_val l d fun y hy => h y (List.mem_cons_of_mem _ hy)
def bumpF (l : List (Int × Nat)) (dev d : Int) : Nat := if d = dev then val l d + 1 else val l d
theorem run_f {f : FuncId} {fn : Func} {c : Code} (hf : Tryd.prog.funcs[f]? = some fn) (hname : (fn.name == "runtime.NumGoroutine") = false) (hb : fn.body = some c) : ∀ (args : Array Value) (w : World), (callFunc f args).run Tryd.prog w = .ok (.enter f args) w :=
  fun args w => by
    have h1 : fn.name ≠ "runtime.NumGoroutine" := by simpa using hname
    simp [callFunc, hf, h1, hb]
def bumpE (l : List (Int × Nat)) (dev : Int) : Int := if okV 0 l = false then 2 else if dev < 1 ∨ 16 < dev then 2 else if val l dev = 18446744073709551615 then 3 else 0
def bumpV (l : List (Int × Nat)) (dev : Int) : List (Int × Nat) := if bumpE l dev = 0 then ofV (bumpF l dev) else []
end Go.Proofs.YtndekohimfjdeaaDoor
