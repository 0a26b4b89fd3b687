/-
  Vectors, the reference: Bump.
-/
import Derived.Test.YtndekohimfjdeaaDoorRvB
namespace Go.Proofs.YtndekohimfjdeaaDoor
open Go.RowKit
theorem uF_vals (l : List (Int × Nat)) (e : Int) (h1 : 0 ≤ e) (h2 : e ≤ 16) : uF (valsL l) e = val l e := by
  unfold uF
  rw [List.getD_eq_getElem?_getD, valsL_at _ (show e.toNat < 17 by omega), Int.toNat_of_nonneg h1]
  rfl
theorem valsL_64 {l : List (Int × Nat)} (hf : fitV l) : ∀ x ∈ valsL l, x < 18446744073709551616 := fun x hx => by
  obtain ⟨d, _, rfl⟩ := List.mem_map.1 hx
  exact fit_val l _ hf
theorem uF_set (us : List Nat) (hl : us.length = 17) (d : Nat) (hd : d < 17) (y : Nat) (e : Int) (h1 : 0 ≤ e) : uF (us.set d y) e = if e = (d : Int) then y else uF us e := by
  unfold uF
  rw [List.getD_eq_getElem?_getD, List.getD_eq_getElem?_getD, List.getElem?_set, hl]
  by_cases h : e = (d : Int)
  · subst h
    simp [hd]
  · rw [if_neg (by omega), if_neg h]
end Go.Proofs.YtndekohimfjdeaaDoor
