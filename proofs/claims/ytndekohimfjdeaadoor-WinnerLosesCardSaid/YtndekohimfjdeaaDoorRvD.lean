/-
  Vectors, the reference: Merge.
-/
import Derived.Test.YtndekohimfjdeaaDoorRvC
import Derived.Test.YtndekohimfjdeaaDoorVecM
namespace Go.Proofs.YtndekohimfjdeaaDoor
open Go.RowKit
/-- The greatest values by device. -/
def mrgL (vs : List (List (Int × Nat))) : List Nat := (List.range 17).map fun d : Nat => if d = 0 then 0 else mergeF vs (d : Int)
theorem mrgL_len (vs : List (List (Int × Nat))) : (mrgL vs).length = 17 := by simp [mrgL]
theorem mrgL_at (vs : List (List (Int × Nat))) {d : Nat} (h : d < 17) : (mrgL vs)[d]? = some (if d = 0 then 0 else mergeF vs (d : Int)) := by simp [mrgL, h]
theorem mrgL_nil : mrgL [] = List.replicate 17 0 := by decide
/-- The first e of two arrays put together. -/
def mixL (us xs : List Nat) (e : Nat) : List Nat := (List.range 17).map fun d : Nat => if 1 ≤ d ∧ d < e then max (us.getD d 0) (xs.getD d 0) else us.getD d 0
theorem mixL_len (us xs : List Nat) (e : Nat) : (mixL us xs e).length = 17 := by simp [mixL]
theorem mixL_at (us xs : List Nat) (e : Nat) {d : Nat} (h : d < 17) : (mixL us xs e)[d]? = some (if 1 ≤ d ∧ d < e then max (us.getD d 0) (xs.getD d 0) else us.getD d 0) := by simp [mixL, h]
theorem mixL_one (us xs : List Nat) (h : us.length = 17) : mixL us xs 1 = us := by
  apply List.ext_getElem?
  intro j
  by_cases hj : j < 17
  · rw [mixL_at _ _ _ hj, if_neg (by omega), List.getD_eq_getElem?_getD, List.getElem?_eq_getElem (by omega)]
    rfl
  · rw [List.getElem?_eq_none (by rw [mixL_len]; omega), List.getElem?_eq_none (by omega)]
theorem mixL_step (us xs : List Nat) (e : Nat) (h1 : 1 ≤ e) : (mixL us xs e).set e (max (us.getD e 0) (xs.getD e 0)) = mixL us xs (e + 1) := by
  apply List.ext_getElem?
  intro j
  rw [List.getElem?_set, mixL_len]
  by_cases hj : j < 17
  · rw [mixL_at _ _ _ hj, mixL_at _ _ _ hj]
    by_cases he : e = j
    · subst he
      rw [if_pos rfl, if_pos hj, if_pos (by omega)]
    · rw [if_neg he]
      by_cases h2 : 1 ≤ j ∧ j < e
      · rw [if_pos h2, if_pos (by omega)]
      · rw [if_neg h2, if_neg (by omega)]
  · rw [List.getElem?_eq_none (by rw [mixL_len]; omega), List.getElem?_eq_none (by rw [mixL_len]; omega)]
    split
    · rw [if_neg (by omega)]
    · rfl
theorem mixL_all (vs : List (List (Int × Nat))) (k : Nat) (v : List (Int × Nat)) (h : vs[k]? = some v) : mixL (mrgL (vs.take k)) (valsL v) 17 = mrgL (vs.take (k + 1)) := by
  apply List.ext_getElem?
  intro j
  by_cases hj : j < 17
  · rw [mixL_at _ _ _ hj, mrgL_at _ hj, List.getD_eq_getElem?_getD, List.getD_eq_getElem?_getD, mrgL_at _ hj, valsL_at _ hj, fold_take vs (j : Int) k v h]
    by_cases h0 : j = 0
    · subst h0; simp
    · rw [if_pos (by omega)]; simp [h0]
  · rw [List.getElem?_eq_none (by rw [mixL_len]; omega), List.getElem?_eq_none (by rw [mrgL_len]; omega)]
theorem mrgL_64 {vs : List (List (Int × Nat))} (h : ∀ v ∈ vs, fitV v) : ∀ x ∈ mrgL vs, x < 18446744073709551616 := fun x hx => by
  obtain ⟨d, _, rfl⟩ := List.mem_map.1 hx
  split
  · omega
  · exact fit_merge vs _ h
theorem ofV_mrg (vs : List (List (Int × Nat))) : ofV (uF (mrgL vs)) = ofV (mergeF vs) := ofV_congr fun e h1 h2 => by
  unfold uF
  rw [List.getD_eq_getElem?_getD, mrgL_at _ (show e.toNat < 17 by omega), if_neg (by omega), Int.toNat_of_nonneg (by omega)]
  rfl
theorem allOk_step {vs : List (List (Int × Nat))} {k : Nat} {v : List (Int × Nat)} (ho : allOk (vs.take k) = true) (hv : vs[k]? = some v) : allOk (vs.take (k + 1)) = okV 0 v := by
  obtain ⟨hk2, he2⟩ := List.getElem?_eq_some_iff.1 hv
  unfold allOk at ho ⊢
  rw [List.take_succ_eq_append_getElem hk2, he2, List.all_append, ho]
  simp
theorem allOk_no {vs : List (List (Int × Nat))} {k : Nat} {v : List (Int × Nat)} (hv : vs[k]? = some v) (h : okV 0 v = false) : allOk vs = false := by
  rw [← Bool.not_eq_true]
  intro ha
  unfold allOk at ha
  rw [List.all_eq_true] at ha
  have := ha v (List.mem_of_getElem? hv)
  rw [h] at this
  cases this
end Go.Proofs.YtndekohimfjdeaaDoor
