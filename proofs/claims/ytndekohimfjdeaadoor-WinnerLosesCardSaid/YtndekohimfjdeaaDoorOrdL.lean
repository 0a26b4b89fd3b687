/-
  The order of vectors, in plain Lean.
-/
import Derived.Test.YtndekohimfjdeaaDoorVecQ
namespace Go.Proofs.YtndekohimfjdeaaDoor
open Go.RowKit
def leastV (a b : List (Int × Nat)) : Bool := decide (cmpV a b = 2 ∨ cmpV a b = 1)
def turnedV (n : Int) : Int := if n = 2 then 3 else if n = 3 then 2 else n
theorem cmpF_turn (f g : Int → Nat) : cmpF g f = turnedV (cmpF f g) := by
  unfold cmpF
  cases ltN f g 16 <;> cases ltN g f 16 <;> rfl
theorem cmp_turn (a b : List (Int × Nat)) (ha : okV 0 a = true) (hb : okV 0 b = true) : cmpV b a = turnedV (cmpV a b) := by
  rw [cmpV, cmpV, ha, hb]
  exact cmpF_turn _ _
theorem ltN_none (f g : Int → Nat) : ∀ k : Nat, ltN f g k = false → ∀ e : Int, 1 ≤ e → e ≤ k → g e ≤ f e
  | 0, _, e, h1, h2 => by omega
  | k + 1, h, e, h1, h2 => by
    rw [ltN, Bool.or_eq_false_iff] at h
    by_cases hk : e ≤ k
    · exact ltN_none f g k h.1 e h1 hk
    · have : (k : Int) + 1 = e := by omega
      have h3 := of_decide_eq_false h.2
      rw [this] at h3
      omega
theorem ltN_some (f g : Int → Nat) : ∀ k : Nat, ltN f g k = true → ∃ e : Int, 1 ≤ e ∧ e ≤ k ∧ f e < g e
  | 0, h => by cases h
  | k + 1, h => by
    rw [ltN, Bool.or_eq_true] at h
    rcases h with h | h
    · obtain ⟨e, h1, h2, h3⟩ := ltN_some f g k h
      exact ⟨e, h1, by omega, h3⟩
    · exact ⟨(k : Int) + 1, by omega, by omega, of_decide_eq_true h⟩
/-- All values are at most the other's. -/
def leF (f g : Int → Nat) : Prop := ∀ e : Int, 1 ≤ e → e ≤ 16 → f e ≤ g e
theorem least_iff (a b : List (Int × Nat)) (ha : okV 0 a = true) (hb : okV 0 b = true) : leastV a b = true ↔ leF (val a) (val b) := by
  rw [leastV, decide_eq_true_iff, cmpV, ha, hb, if_pos (by rfl)]
  constructor
  · intro h e h1 h2
    refine ltN_none (val b) (val a) 16 ?_ e h1 (by omega)
    revert h
    unfold cmpF
    cases ltN (val a) (val b) 16 <;> cases ltN (val b) (val a) 16 <;> simp
  · intro h
    have h2 := ltN_false (val b) (val a) 16 fun e h1 h2 => h e h1 (by omega)
    unfold cmpF
    rw [h2]
    cases ltN (val a) (val b) 16 <;> simp
theorem same_iff (a b : List (Int × Nat)) (ha : okV 0 a = true) (hb : okV 0 b = true) : cmpV a b = 1 ↔ a = b := by
  rw [cmpV, ha, hb, if_pos (by rfl)]
  constructor
  · intro h
    have h1 : ltN (val a) (val b) 16 = false ∧ ltN (val b) (val a) 16 = false := by
      revert h
      unfold cmpF
      cases ltN (val a) (val b) 16 <;> cases ltN (val b) (val a) 16 <;> simp
    rw [canon_V ha, canon_V hb]
    refine ofV_congr fun e h2 h3 => ?_
    have h4 := ltN_none _ _ 16 h1.1 e h2 (by omega)
    have h5 := ltN_none _ _ 16 h1.2 e h2 (by omega)
    omega
  · rintro rfl
    unfold cmpF
    rw [ltN_false (val a) (val a) 16 fun e _ _ => Nat.le_refl _]
    rfl
theorem firstD_trans (f g h : Int → Nat) : ∀ (k : Nat) (d : Int), firstD f g k d ≤ 0 → firstD g h k d ≤ 0 → firstD f h k d ≤ 0 ∧ (firstD f g k d < 0 ∨ firstD g h k d < 0 → firstD f h k d < 0)
  | 0, _, _, _ => ⟨by simp [firstD], by simp [firstD]⟩
  | k + 1, d, h1, h2 => by
    rw [firstD] at h1 h2 ⊢
    rw [firstD, firstD]
    by_cases e1 : f d = g d
    · rw [if_pos e1] at h1 ⊢
      by_cases e2 : g d = h d
      · rw [if_pos e2] at h2 ⊢
        rw [if_pos (e1.trans e2)]
        exact firstD_trans f g h k (d + 1) h1 h2
      · rw [if_neg e2] at h2 ⊢
        rw [if_neg (by omega)]
        by_cases e3 : h d < g d
        · rw [if_pos e3] at h2; omega
        · rw [if_neg (by omega), if_neg e3]
          omega
    · rw [if_neg e1] at h1 ⊢
      by_cases e3 : g d < f d
      · rw [if_pos e3] at h1; omega
      · by_cases e2 : g d = h d
        · rw [if_pos e2] at h2 ⊢
          rw [if_neg (by omega), if_neg (by omega), if_neg e3]
          omega
        · rw [if_neg e2] at h2 ⊢
          by_cases e4 : h d < g d
          · rw [if_pos e4] at h2; omega
          · rw [if_neg (by omega), if_neg (by omega), if_neg e3, if_neg e4]
            omega
/-- All values of k devices from d on. -/
def sumN16 (f : Int → Nat) : Nat → Int → Nat
  | 0, _ => 0
  | k + 1, d => f d + sumN16 f k (d + 1)
theorem sumV_ofN : ∀ (k : Nat) (d : Int) (f : Int → Nat), sumV (ofN f k d) = sumN16 f k d
  | 0, _, _ => rfl
  | k + 1, d, f => by
    have ih := sumV_ofN k (d + 1) f
    rw [ofN, sumN16, ← ih]
    by_cases hp : 0 < f d
    · rw [if_pos hp]; simp [sumV]
    · rw [if_neg hp, List.nil_append]; omega
theorem sumN16_le : ∀ (k : Nat) (d : Int) (f g : Int → Nat), (∀ e, d ≤ e → e < d + k → f e ≤ g e) → sumN16 f k d ≤ sumN16 g k d ∧ ((∃ e, d ≤ e ∧ e < d + k ∧ f e < g e) → sumN16 f k d < sumN16 g k d)
  | 0, d, f, g, _ => ⟨Nat.le_refl _, fun ⟨e, h1, h2, _⟩ => by omega⟩
  | k + 1, d, f, g, h => by
    have ih := sumN16_le k (d + 1) f g fun e h1 h2 => h e (by omega) (by omega)
    have h0 := h d (by omega) (by omega)
    rw [sumN16, sumN16]
    refine ⟨by omega, fun ⟨e, h1, h2, h3⟩ => ?_⟩
    by_cases hd : e = d
    · subst hd; omega
    · have := ih.2 ⟨e, by omega, by omega, h3⟩
      omega
section
variable {a b c : List (Int × Nat)}
theorem sumV_val (ha : okV 0 a = true) : sumV a = sumN16 (val a) 16 1 := by
  have := sumV_ofN 16 1 (val a)
  rw [← this]
  exact congrArg sumV (canon_V ha)
theorem before_iff (ha : okV 0 a = true) (hb : okV 0 b = true) : cmpV a b = 2 ↔ leF (val a) (val b) ∧ a ≠ b := by
  have h1 := least_iff a b ha hb
  have h2 := same_iff a b ha hb
  rw [leastV, decide_eq_true_iff] at h1
  constructor
  · intro h
    refine ⟨h1.1 (.inl h), fun e => ?_⟩
    rw [h2.2 e] at h
    cases h
  · rintro ⟨h3, h4⟩
    rcases h1.2 h3 with h | h
    · exact h
    · exact absurd (h2.1 h) h4
theorem le_antisymm (ha : okV 0 a = true) (hb : okV 0 b = true) (h1 : leF (val a) (val b)) (h2 : leF (val b) (val a)) : a = b := by
  rw [canon_V ha, canon_V hb]
  refine ofV_congr fun e h3 h4 => ?_
  have := h1 e h3 h4
  have := h2 e h3 h4
  omega
theorem le_trans' (h1 : leF (val a) (val b)) (h2 : leF (val b) (val c)) : leF (val a) (val c) := fun e h3 h4 => Nat.le_trans (h1 e h3 h4) (h2 e h3 h4)
theorem before_trans (ha : okV 0 a = true) (hb : okV 0 b = true) (hc : okV 0 c = true) (h1 : cmpV a b = 2) (h2 : cmpV b c = 2 ∨ cmpV b c = 1) : cmpV a c = 2 := by
  obtain ⟨k1, k2⟩ := (before_iff ha hb).1 h1
  have k3 := (least_iff b c hb hc).1 (by rw [leastV, decide_eq_true_iff]; exact h2)
  refine (before_iff ha hc).2 ⟨le_trans' k1 k3, fun e => ?_⟩
  subst e
  exact k2 (le_antisymm ha hb k1 k3)
theorem ord_before (ha : okV 0 a = true) (hb : okV 0 b = true) (h : cmpV a b = 2) : ordV a b = -1 := by
  obtain ⟨h1, h2⟩ := (before_iff ha hb).1 h
  have hs : sumV a < sumV b := by
    rw [sumV_val ha, sumV_val hb]
    refine (sumN16_le 16 1 (val a) (val b) fun e h3 h4 => h1 e h3 (by omega)).2 ?_
    apply Classical.byContradiction
    intro hn
    apply h2
    refine le_antisymm ha hb h1 fun e h3 h4 => ?_
    apply Classical.byContradiction
    intro h5
    exact hn ⟨e, h3, by omega, by omega⟩
  rw [ordV, ha, hb, if_pos (by rfl), ordF, if_pos hs]
theorem firstD_refl (f : Int → Nat) : ∀ (k : Nat) (d : Int), firstD f f k d = 0
  | 0, _ => rfl
  | k + 1, d => by rw [firstD, if_pos rfl]; exact firstD_refl f k (d + 1)
theorem ord_zero (ha : okV 0 a = true) (hb : okV 0 b = true) : ordV a b = 0 ↔ cmpV a b = 1 := by
  rw [same_iff a b ha hb, ordV, ha, hb, if_pos (by rfl), ordF]
  constructor
  · intro h
    split at h
    · cases h
    · split at h
      · cases h
      · rw [canon_V ha, canon_V hb]
        exact ofV_congr fun e h1 h2 => firstD_zero _ _ 16 1 h e h1 (by omega)
  · rintro rfl
    rw [if_neg (Nat.lt_irrefl _), if_neg (Nat.lt_irrefl _), firstD_refl]
theorem ord_trans (ha : okV 0 a = true) (hb : okV 0 b = true) (hc : okV 0 c = true) (h1 : ordV a b ≤ 0) (h2 : ordV b c ≤ 0) : ordV a c ≤ 0 ∧ (ordV a b < 0 ∨ ordV b c < 0 → ordV a c < 0) := by
  simp only [ordV, ha, hb, hc, Bool.and_self, if_true] at h1 h2 ⊢
  unfold ordF at h1 h2 ⊢
  have ht := firstD_trans (val a) (val b) (val c) 16 1
  generalize sumV a = s at *
  generalize sumV b = t at *
  generalize sumV c = u at *
  by_cases e1 : s < t
  · rw [if_pos e1]
    by_cases e2 : t < u
    · rw [if_pos (by omega)]; omega
    · rw [if_neg e2] at h2
      by_cases e3 : u < t
      · rw [if_pos e3] at h2; omega
      · rw [if_pos (by omega)]; omega
  · rw [if_neg e1] at h1 ⊢
    by_cases e3 : t < s
    · rw [if_pos e3] at h1; omega
    · rw [if_neg e3] at h1 ⊢
      by_cases e2 : t < u
      · rw [if_pos (show s < u by omega)]; omega
      · rw [if_neg e2] at h2 ⊢
        by_cases e4 : u < t
        · rw [if_pos e4] at h2; omega
        · rw [if_neg e4] at h2 ⊢
          rw [if_neg (show ¬ s < u by omega), if_neg (show ¬ u < s by omega)]
          exact ht h1 h2
theorem merge_upper (ha : okV 0 a = true) (hb : okV 0 b = true) : leF (val a) (val (mergeV [a, b])) ∧ leF (val b) (val (mergeV [a, b])) := by
  have h2 := allOk_cons a [b] ha (allOk_cons b [] hb allOk_nil)
  constructor
  · intro e h3 h4
    rw [val_merge _ h2 e h3 h4]
    show val a e ≤ max (max 0 (val a e)) (val b e)
    omega
  · intro e h3 h4
    rw [val_merge _ h2 e h3 h4]
    show val b e ≤ max (max 0 (val a e)) (val b e)
    omega
theorem merge_least (ha : okV 0 a = true) (hb : okV 0 b = true) (h1 : leF (val a) (val c)) (h3 : leF (val b) (val c)) : leF (val (mergeV [a, b])) (val c) := by
  have h2 := allOk_cons a [b] ha (allOk_cons b [] hb allOk_nil)
  intro e h4 h5
  rw [val_merge _ h2 e h4 h5]
  have := h1 e h4 h5
  have := h3 e h4 h5
  show max (max 0 (val a e)) (val b e) ≤ val c e
  omega
theorem merge_swap (ha : okV 0 a = true) (hb : okV 0 b = true) : mergeV [b, a] = mergeV [a, b] := by
  have h2 := allOk_cons a [b] ha (allOk_cons b [] hb allOk_nil)
  have h3 := allOk_cons b [a] hb (allOk_cons a [] ha allOk_nil)
  rw [(merge_ok _ h2).2, (merge_ok _ h3).2]
  refine ofV_congr fun e _ _ => ?_
  show max (max 0 (val b e)) (val a e) = max (max 0 (val a e)) (val b e)
  omega
theorem bump_before {d : Int} (h : bumpE a d = 0) : cmpV a (bumpV a d) = 2 := by
  obtain ⟨h1, h2, h3, _, _⟩ := bump_ok h
  refine (before_iff h1 (ok_bump h)).2 ⟨fun e _ _ => ?_, fun e => ?_⟩
  · rw [val_bump h, bumpF]
    split <;> omega
  · have h5 := val_bump h d
    rw [← e, bumpF, if_pos rfl] at h5
    omega
end
end Go.Proofs.YtndekohimfjdeaaDoor
