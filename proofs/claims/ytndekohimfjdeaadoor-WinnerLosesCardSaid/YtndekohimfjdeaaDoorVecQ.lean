/-
  What VectorBumps says, in plain Lean: merges, bumps.
-/
import Derived.Test.YtndekohimfjdeaaDoorVecP
namespace Go.Proofs.YtndekohimfjdeaaDoor
open Go.RowKit
section
variable {a b c : List (Int × Nat)}
theorem merge_ok (vs : List (List (Int × Nat))) (h : allOk vs = true) : mergeE vs = 0 ∧ mergeV vs = ofV (mergeF vs) := ⟨by rw [mergeE, if_pos h], by rw [mergeV, if_pos h]⟩
theorem allOk_cons (l : List (Int × Nat)) (vs : List (List (Int × Nat))) (h1 : okV 0 l = true) (h2 : allOk vs = true) : allOk (l :: vs) = true := by
  unfold allOk at h2 ⊢
  rw [List.all_cons, h1, h2]
  rfl
theorem allOk_nil : allOk [] = true := rfl
theorem val_merge (vs : List (List (Int × Nat))) (h : allOk vs = true) (e : Int) (h1 : 1 ≤ e) (h2 : e ≤ 16) : val (mergeV vs) e = mergeF vs e := by
  rw [(merge_ok vs h).2, val_ofV, if_pos ⟨h1, h2⟩]
theorem ok_merge (vs : List (List (Int × Nat))) (h : allOk vs = true) : okV 0 (mergeV vs) = true := by rw [(merge_ok vs h).2]; exact ok_ofV _
theorem merge_group (ha : okV 0 a = true) (hb : okV 0 b = true) (hc : okV 0 c = true) : mergeV [a, mergeV [b, c]] = mergeV [a, b, c] := by
  have h2 := allOk_cons b [c] hb (allOk_cons c [] hc allOk_nil)
  have h3 := allOk_cons a _ ha h2
  have h4 := allOk_cons a [mergeV [b, c]] ha (allOk_cons _ [] (ok_merge _ h2) allOk_nil)
  rw [(merge_ok _ h4).2, (merge_ok _ h3).2]
  refine ofV_congr fun e h5 h6 => ?_
  show max (max 0 (val a e)) (val (mergeV [b, c]) e) = max (max (max 0 (val a e)) (val b e)) (val c e)
  rw [val_merge _ h2 e h5 h6]
  show max (max 0 (val a e)) (max (max 0 (val b e)) (val c e)) = _
  omega
theorem merge_turn (ha : okV 0 a = true) (hb : okV 0 b = true) (hc : okV 0 c = true) : mergeV [c, b, a, b] = mergeV [a, b, c] := by
  have h3 := allOk_cons a _ ha (allOk_cons b [c] hb (allOk_cons c [] hc allOk_nil))
  have h4 := allOk_cons c _ hc (allOk_cons b _ hb (allOk_cons a [b] ha (allOk_cons b [] hb allOk_nil)))
  rw [(merge_ok _ h4).2, (merge_ok _ h3).2]
  refine ofV_congr fun e _ _ => ?_
  show max (max (max (max 0 (val c e)) (val b e)) (val a e)) (val b e) = max (max (max 0 (val a e)) (val b e)) (val c e)
  omega
theorem ltN_false (f g : Int → Nat) : ∀ k : Nat, (∀ e : Int, 1 ≤ e → e ≤ k → g e ≤ f e) → ltN f g k = false
  | 0, _ => rfl
  | k + 1, h => by
    rw [ltN, ltN_false f g k fun e h1 h2 => h e h1 (by omega), decide_eq_false]
    · rfl
    · have := h ((k : Int) + 1) (by omega) (by omega)
      omega
theorem ltN_true (f g : Int → Nat) (d : Int) (h1 : 1 ≤ d) (hlt : f d < g d) : ∀ k : Nat, d ≤ k → ltN f g k = true
  | 0, h => by omega
  | k + 1, h => by
    rw [ltN]
    by_cases hk : d ≤ k
    · rw [ltN_true f g d h1 hlt k hk]
      rfl
    · have : (k : Int) + 1 = d := by omega
      rw [this, decide_eq_true hlt]
      simp
theorem cmp_merge (ha : okV 0 a = true) (hb : okV 0 b = true) (hc : okV 0 c = true) : cmpV (mergeV [a, b, c]) a = 1 ∨ cmpV (mergeV [a, b, c]) a = 3 := by
  have h3 := allOk_cons a _ ha (allOk_cons b [c] hb (allOk_cons c [] hc allOk_nil))
  rw [cmpV, ok_merge _ h3, ha]
  have hf : ltN (val (mergeV [a, b, c])) (val a) 16 = false := ltN_false _ _ 16 fun e h1 h2 => by
    rw [val_merge _ h3 e h1 h2]
    show val a e ≤ max (max (max 0 (val a e)) (val b e)) (val c e)
    omega
  rw [if_pos (by rfl), cmpF, hf]
  cases ltN (val a) (val (mergeV [a, b, c])) 16 <;> simp
variable {d f : Int}
theorem bump_ok (h : bumpE a d = 0) : okV 0 a = true ∧ 1 ≤ d ∧ d ≤ 16 ∧ val a d ≠ 18446744073709551615 ∧ bumpV a d = ofV (bumpF a d) := by
  have hv : bumpV a d = ofV (bumpF a d) := by rw [bumpV, if_pos h]
  unfold bumpE at h
  split at h
  · cases h
  · split at h
    · cases h
    · split at h
      · cases h
      · rename_i h1 h2 h3
        exact ⟨by simpa using h1, by omega, by omega, h3, hv⟩
theorem val_bump (h : bumpE a d = 0) (e : Int) : val (bumpV a d) e = bumpF a d e := by
  obtain ⟨h1, h2, h3, _, h5⟩ := bump_ok h
  rw [h5, val_ofV]
  by_cases he : 1 ≤ e ∧ e ≤ 16
  · rw [if_pos he]
  · rw [if_neg he, bumpF, if_neg (by omega), val_out h1 (by omega)]
theorem ok_bump (h : bumpE a d = 0) : okV 0 (bumpV a d) = true := by rw [(bump_ok h).2.2.2.2]; exact ok_ofV _
theorem bump_nil (h : bumpE a d ≠ 0) : bumpV a d = [] := by rw [bumpV, if_neg h]
theorem bump_bump (h : bumpE a d = 0) (k : bumpE a f = 0) (hdf : d ≠ f) : bumpE (bumpV a d) f = 0 := by
  obtain ⟨_, h2, h3, h4, _⟩ := bump_ok k
  have hv : val (bumpV a d) f = val a f := by rw [val_bump h, bumpF, if_neg (Ne.symm hdf)]
  rw [bumpE, ok_bump h, if_neg (by simp), if_neg (by omega), hv, if_neg h4]
theorem bump_turn (h : bumpE a d = 0) (k : bumpE a f = 0) (hdf : d ≠ f) : bumpV (bumpV a d) f = bumpV (bumpV a f) d := by
  rw [(bump_ok (bump_bump h k hdf)).2.2.2.2, (bump_ok (bump_bump k h (Ne.symm hdf))).2.2.2.2]
  refine ofV_congr fun e _ _ => ?_
  unfold bumpF
  rw [val_bump h, val_bump k]
  unfold bumpF
  by_cases h1 : e = f
  · have h2 : ¬ e = d := fun h => hdf (h.symm.trans h1)
    rw [if_pos h1, if_neg h2, if_neg h2, if_pos h1]
  · by_cases h2 : e = d
    · rw [if_neg h1, if_pos h2, if_pos h2, if_neg h1]
    · rw [if_neg h1, if_neg h2, if_neg h2, if_neg h1]
theorem bump_merge (h : bumpE a d = 0) (k : bumpE a f = 0) (hdf : d ≠ f) : mergeV [bumpV a d, bumpV a f] = bumpV (bumpV a d) f := by
  have h2 := allOk_cons _ _ (ok_bump h) (allOk_cons _ [] (ok_bump k) allOk_nil)
  rw [(merge_ok _ h2).2, (bump_ok (bump_bump h k hdf)).2.2.2.2]
  refine ofV_congr fun e _ _ => ?_
  show max (max 0 (val (bumpV a d) e)) (val (bumpV a f) e) = _
  rw [val_bump h, val_bump k, bumpF, bumpF, bumpF, val_bump h, bumpF]
  by_cases h1 : e = f
  · have : ¬ e = d := by omega
    rw [if_neg this, if_pos h1]
    omega
  · rw [if_neg h1, if_neg h1]
    split <;> omega
theorem bump_cmp (h : bumpE a d = 0) (k : bumpE a f = 0) (hdf : d ≠ f) : cmpV (bumpV a d) (bumpV a f) = 4 := by
  obtain ⟨_, h2, h3, _, _⟩ := bump_ok h
  obtain ⟨_, k2, k3, _, _⟩ := bump_ok k
  rw [cmpV, ok_bump h, ok_bump k, if_pos (by rfl), cmpF]
  rw [ltN_true _ _ f k2 (by rw [val_bump h, val_bump k, bumpF, bumpF, if_neg (Ne.symm hdf), if_pos rfl]; omega) 16 (by omega),
    ltN_true _ _ d h2 (by rw [val_bump h, val_bump k, bumpF, bumpF, if_neg hdf, if_pos rfl]; omega) 16 (by omega)]
  rfl
theorem firstD_turn (f g : Int → Nat) : ∀ (k : Nat) (d : Int), firstD g f k d = - firstD f g k d
  | 0, _ => rfl
  | k + 1, d => by
    rw [firstD, firstD]
    by_cases h : f d = g d
    · rw [if_pos h, if_pos h.symm, firstD_turn f g k (d + 1)]
    · rw [if_neg h, if_neg (Ne.symm h)]
      by_cases h2 : f d < g d
      · rw [if_pos h2, if_neg (by omega)]
        rfl
      · rw [if_neg h2, if_pos (by omega)]
theorem firstD_zero (f g : Int → Nat) : ∀ (k : Nat) (d : Int), firstD f g k d = 0 → ∀ e, d ≤ e → e < d + k → f e = g e
  | 0, _, _, e, h1, h2 => by omega
  | k + 1, d, h, e, h1, h2 => by
    rw [firstD] at h
    split at h
    · rename_i he
      by_cases h3 : e = d
      · rw [h3, he]
      · exact firstD_zero f g k (d + 1) h e (by omega) (by omega)
    · split at h <;> omega
theorem ordV_turn (l1 l2 : List (Int × Nat)) : ordV l2 l1 = - ordV l1 l2 := by
  unfold ordV
  rw [Bool.and_comm]
  split
  · unfold ordF
    rw [firstD_turn]
    split
    · by_cases h2 : sumV l1 < sumV l2
      · omega
      · rw [if_neg h2]
    · split <;> first | rfl | omega
  · rfl
theorem firstD_pm (f g : Int → Nat) : ∀ (k : Nat) (d : Int), firstD f g k d = 0 ∨ firstD f g k d = 1 ∨ firstD f g k d = -1
  | 0, _ => .inl rfl
  | k + 1, d => by
    rw [firstD]
    split
    · exact firstD_pm f g k (d + 1)
    · split
      · exact .inr (.inl rfl)
      · exact .inr (.inr rfl)
theorem ordV_pm (l1 l2 : List (Int × Nat)) : ordV l1 l2 = 0 ∨ ordV l1 l2 = 1 ∨ ordV l1 l2 = -1 := by
  unfold ordV
  split
  · unfold ordF
    split
    · exact .inr (.inr rfl)
    · split
      · exact .inr (.inl rfl)
      · exact firstD_pm _ _ _ _
  · exact .inl rfl
theorem ord_pm {l1 l2 : List (Int × Nat)} (h : ordV l1 l2 ≠ 0) : ordV l1 l2 = 1 ∨ ordV l1 l2 = -1 := (ordV_pm l1 l2).resolve_left h
theorem bump_ord (h : bumpE a d = 0) (k : bumpE a f = 0) (hdf : d ≠ f) : ordV (bumpV a d) (bumpV a f) ≠ 0 := by
  obtain ⟨_, h2, h3, _, _⟩ := bump_ok h
  intro ho
  unfold ordV at ho
  rw [ok_bump h, ok_bump k, if_pos (by rfl)] at ho
  unfold ordF at ho
  split at ho
  · cases ho
  · split at ho
    · cases ho
    · have := firstD_zero _ _ 16 1 ho d h2 (by omega)
      rw [val_bump h, val_bump k, bumpF, bumpF, if_neg hdf, if_pos rfl] at this
      omega
end
end Go.Proofs.YtndekohimfjdeaaDoor
