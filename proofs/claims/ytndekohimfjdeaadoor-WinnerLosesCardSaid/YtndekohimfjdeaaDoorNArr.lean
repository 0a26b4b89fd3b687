/-
  Arrays of numbers that lie in a block, and arrays by value.
-/
import Derived.Test.YtndekohimfjdeaaDoorBase
import Derived.Laws.Tables
import Derived.Great.BuildSlice
import Derived.Laws.CopyOwn
namespace Go.Proofs.YtndekohimfjdeaaDoor
open Go.RowKit
def u64v (x : Nat) : Value := .int .u64 (x : Int)
/-- A block that is an array of these numbers. -/
def NArr (t : TypeId) (w : World) (g : Nat) (l : List Nat) : Prop := w.heap[g]? = some (.cells (l.map u64v).toArray t (0, 0))
section
variable {t : TypeId} {w w' : World} {g : Nat} {l : List Nat}
theorem NArr.cell (h : NArr t w g l) {j x : Nat} (hx : l[j]? = some x) : w.cell? ⟨g, j, none⟩ = some (.int .u64 (x : Int)) := by
  rw [cell_of_row w g j _ t (0, 0) h]
  simp [hx, u64v]
theorem NArr.frozen (h : NArr t w g l) (j : Nat) : w.frozen? ⟨g, j, none⟩ = false := frozen_of_row w g j _ t h
theorem NArr.keep (h : NArr t w g l) (hk : w'.heap[g]? = w.heap[g]?) : NArr t w' g l := hk.trans h
theorem NArr.lt (h : NArr t w g l) : g < w.heap.size := (Array.getElem?_eq_some_iff.1 h).1
theorem NArr.alloc (h : NArr t w g l) (o : Obj) : NArr t (w.alloc o) g l := h.keep (Below.heap_alloc w o g h.lt)
theorem NArr.drew (h : NArr t w g l) : NArr t w.drew g l := h
theorem NArr.drewN (h : NArr t w g l) (k : Nat) : NArr t (w.drewN k) g l := h
theorem NArr.below (h : NArr t w g l) (hb : Below w.heap.size w w') : NArr t w' g l := h.keep (hb.block g h.lt)
theorem NArr.set_ (h : NArr t w g l) (i : Nat) (z : Int) (x : Nat) (hz : z = (x : Int)) : NArr t (w.setCell ⟨g, i, none⟩ (.int .u64 z)) g (l.set i x) := by
  subst hz
  refine (heap_setCell_same w g i _ t _ h).trans ?_
  congr 2
  simp [List.map_set, u64v]
theorem NArr.setOther (h : NArr t w g l) {p : Addr} (hp : g ≠ p.block) (u : Value) : NArr t (w.setCell p u) g l := h.keep (Below.heap_setCell w p u g hp)
theorem NArr.new (w : World) (cs : Array Value) (l : List Nat) (h : cs = (l.map u64v).toArray) : NArr t (w.alloc (.cells cs t)) w.heap.size l := by
  subst h; exact heap_alloc_new w _
end
/-- What an array of numbers tells of a device. -/
def uF (us : List Nat) (d : Int) : Nat := us.getD d.toNat 0
theorem setRow_other (w : World) (g : Nat) (cs : Array Value) (j : Nat) (h : j ≠ g) : (w.setRow g cs).heap[j]? = w.heap[j]? := by
  simp [World.setRow, Array.getElem?_modify, Ne.symm h]
theorem setRow_size (w : World) (g : Nat) (cs : Array Value) : (w.setRow g cs).heap.size = w.heap.size := by simp [World.setRow]
theorem u64_one (l : List Nat) : (l.map u64v).toArray.all (·.oneCell') = true := by
  simp [u64v, Value.oneCell']
section
variable {ops : Array Oper} {rest : List Oper} {o : Oper} {a : Act} {w : World} {Q : Exit → Act → World → Prop} {P : Program}
/-- An array is stored whole. -/
theorem wpList_storeN {T t : TypeId} (hgd : o.guard = none) (x y : Operand) (ho : o.op = .store T x y) (g : Nat) (us : List Nat) (hx : a.eval x = .pointer (some ⟨g, 0, none⟩)) (hy : a.eval y = .agg (us.map u64v).toArray)
    (old : Array Value) (hg : w.heap[g]? = some (.cells old t (0, 0))) (hold : old.size = us.length) (hi : (P.info? T).map (·.size) = some us.length)
    (h : ∀ w', NArr t w' g us → Below g w w' → w'.heap.size = w.heap.size → (∀ j, j ≠ g → w'.heap[j]? = w.heap[j]?) → wpList P ops Q rest (a.put o.dst undef) w') : wpList P ops Q (o :: rest) a w := by
  refine wpList_store_row hgd T x y ho g _ hx hy t old hg (by rw [hi]; simp) (by rw [hold]; simp) (u64_one us) ?_
  exact h _ (setRow_heap w g old _ t _ hg) (below_setRow (Below.refl g w) (Nat.le_refl _) _) (setRow_size _ _ _) (fun j hj => setRow_other w g _ j hj)
/-- An array is loaded whole. -/
theorem wpList_loadN {T t : TypeId} (hgd : o.guard = none) (x : Operand) (ho : o.op = .load T x) (g : Nat) (us : List Nat) (hx : a.eval x = .pointer (some ⟨g, 0, none⟩)) (hg : NArr t w g us)
    {d : TypeDesc} (hu : P.underlying T = some d) (hd : (match d with | .struct _ | .array _ _ => true | _ => false) = true) (hi : (P.info? T).map (·.size) = some us.length)
    (h : wpList P ops Q rest (a.put o.dst (.agg (us.map u64v).toArray)) w) : wpList P ops Q (o :: rest) a w :=
  wpList_load_row hgd T x ho g hx t _ (0, 0) d hg hu hd (by rw [hi]; simp) h
end
end Go.Proofs.YtndekohimfjdeaaDoor
