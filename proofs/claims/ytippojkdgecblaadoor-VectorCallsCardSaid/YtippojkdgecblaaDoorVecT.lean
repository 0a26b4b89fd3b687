/-
  Vectors' text, in plain Lean: numbers in decimal, joined.
-/
import Derived.Lib.Strings
import Derived.Lib.Join
import Derived.Lib.ItoaNum
import Derived.Lib.Hide
namespace Go.Proofs.YtippojkdgecblaaDoor
open Go.RowKit
abbrev Bl := List UInt8
def dec (n : Nat) : Bl := Lib.decDigits n
def st (l : Bl) : ByteArray := ⟨l.toArray⟩
theorem st_size (l : Bl) : (st l).size = l.length := by simp [st, ByteArray.size]
theorem st_data (l : Bl) : (st l).data.toList = l := rfl
theorem st_ext {x : ByteArray} {l : Bl} (h : x.data.toList = l) : x = st l := by
  have e : ∀ s : ByteArray, s = st s.data.toList := fun s => by cases s; rfl
  rw [e x, h]
theorem st_app (a b : Bl) : st a ++ st b = st (a ++ b) := st_ext (by simp [st, ByteArray.data_append])
/-- One count's text. -/
def cntT (x : Int × Nat) : Bl := dec x.1.toNat ++ [58] ++ dec x.2
def textJ (l : List (Int × Nat)) : Bl := Lib.join (l.map cntT) [32]
theorem joinTail_snoc (s : Bl) : ∀ (r : List Bl) (y : Bl), Lib.joinTail s (r ++ [y]) = Lib.joinTail s r ++ s ++ y
  | [], y => by simp [Lib.joinTail]
  | z :: r, y => by
    have h := joinTail_snoc s r y
    simp [Lib.joinTail] at h ⊢
theorem join_snoc (s : Bl) (xs : List Bl) (y : Bl) : Lib.join (xs ++ [y]) s = if xs = [] then y else Lib.join xs s ++ s ++ y := by
  cases xs with
  | nil => rw [if_pos rfl]; exact Lib.join_one y s
  | cons x r =>
    rw [if_neg (by simp), List.cons_append, Lib.join_cons, Lib.join_cons, joinTail_snoc]
    simp
theorem textJ_snoc (l : List (Int × Nat)) (x : Int × Nat) : textJ (l ++ [x]) = if l = [] then cntT x else textJ l ++ [32] ++ cntT x := by
  unfold textJ
  rw [List.map_append, List.map_singleton, join_snoc]
  by_cases h : l = []
  · subst h; rfl
  · rw [if_neg h, if_neg (by simpa using h)]
end Go.Proofs.YtippojkdgecblaaDoor
