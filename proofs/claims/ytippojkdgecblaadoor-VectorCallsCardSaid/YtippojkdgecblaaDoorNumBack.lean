/-
  Numbers that were written are read back, and no other bytes encode them: plain Lean.
-/
import Derived.Test.YtippojkdgecblaaDoorRdrM
namespace Go.Proofs.YtippojkdgecblaaDoor
open Go.RowKit
/-! ### Numbers -/
theorem ofNat_toNat (x : Nat) (h : x < 256) : (UInt8.ofNat x).toNat = x := by rw [UInt8.toNat_ofNat']; exact Nat.mod_eq_of_lt h
theorem numL_hi : ∀ (f y : Nat) (s : List UInt8) (i : Nat), y < 128 ^ f → y / 128 < 144115188075855872 → numL 0 i (hi f y ++ s) = numL y (i + (hi f y).length) s := by
  intro f
  induction f with
  | zero =>
    intro y s i hy _
    obtain rfl : y = 0 := by simpa using hy
    simp [hi]
  | succ f ih =>
    intro y s i hy hb
    by_cases h0 : y = 0
    · subst h0; rw [hi_zero]; simp
    · rw [hi_step f y h0, List.append_assoc, ih (y / 128) _ i (by rw [Nat.pow_succ] at hy; exact Nat.div_lt_of_lt_mul (by rw [Nat.mul_comm]; exact hy)) (by omega)]
      show numL (y / 128) _ (UInt8.ofNat (y % 128 + 128) :: s) = _
      rw [numL_more _ _ _ _ (by omega) (by rw [ofNat_toNat _ (by omega)]; omega), ofNat_toNat _ (by omega)]
      congr 1
      · omega
      · simp; omega
theorem hi_head : ∀ (f y : Nat), y < 128 ^ f → ∀ b, (hi f y).head? = some b → b ≠ 128 := by
  intro f
  induction f with
  | zero => intro y _ b h; simp [hi] at h
  | succ f ih =>
    intro y hy b h
    by_cases h0 : y = 0
    · subst h0; rw [hi_zero] at h; simp at h
    · rw [hi_step f y h0] at h
      have hy2 : y / 128 < 128 ^ f := by rw [Nat.pow_succ] at hy; exact Nat.div_lt_of_lt_mul (by rw [Nat.mul_comm]; exact hy)
      cases hh : hi f (y / 128) with
      | nil =>
        rw [hh] at h
        have h2 : y / 128 = 0 := by
          rcases f with _ | f
          · simpa using hy2
          · rcases Nat.eq_zero_or_pos (y / 128) with h3 | h3
            · exact h3
            · rw [hi_step f _ (by omega)] at hh
              simp at hh
        simp only [List.nil_append, List.head?_cons, Option.some.injEq] at h
        subst h
        intro h4
        have h5 := congrArg UInt8.toNat h4
        rw [ofNat_toNat _ (by omega)] at h5
        have : y % 128 + 128 = 128 := h5
        omega
      | cons c t =>
        have := ih (y / 128) hy2 c (by rw [hh]; rfl)
        rw [hh] at h
        simp at h
        subst h
        exact this
/-- What is written is read back. -/
theorem numR_num (x : Nat) (hx : x < 18446744073709551616) (r : List UInt8) : numR (num x ++ r) = (x, (num x).length, 0) := by
  have h9 : x / 128 < 128 ^ 9 := by omega
  have hne : (num x ++ r).head? ≠ some 128 := by
    intro h
    unfold num at h
    cases hh : hi 9 (x / 128) with
    | nil =>
      rw [hh] at h
      simp at h
      have h5 := congrArg UInt8.toNat h
      rw [ofNat_toNat _ (by omega)] at h5
      have : x % 128 = 128 := h5
      omega
    | cons c t =>
      rw [hh] at h
      simp at h
      exact hi_head 9 _ h9 c (by rw [hh]; rfl) h
  rw [numR_no _ hne]
  unfold num
  rw [List.append_assoc, numL_hi 9 _ _ _ h9 (by omega)]
  show numL _ _ (UInt8.ofNat (x % 128) :: r) = _
  rw [numL_last _ _ _ _ (by omega) (by rw [ofNat_toNat _ (by omega)]; omega), ofNat_toNat _ (by omega)]
  simp
  omega
theorem hi_fuel : ∀ (f y : Nat), y < 128 ^ f → hi (f + 1) y = hi f y := by
  intro f
  induction f with
  | zero => intro y hy; obtain rfl : y = 0 := (by simpa using hy); rfl
  | succ f ih =>
    intro y hy
    by_cases h0 : y = 0
    · subst h0; rw [hi_zero, hi_zero]
    · rw [hi_step _ _ h0, hi_step _ _ h0, ih]
      rw [Nat.pow_succ] at hy
      exact Nat.div_lt_of_lt_mul (by rw [Nat.mul_comm]; exact hy)
theorem ofNat_of (c : UInt8) (n : Nat) (h : c.toNat = n) : UInt8.ofNat n = c := by subst h; simp
/-- No other bytes encode it. -/
theorem numL_canon : ∀ (l : List UInt8) (x0 i x n : Nat), (x0 ≠ 0 ∨ l.head? ≠ some 128) → numL x0 i l = (x, n, 0) → x0 < 144115188075855872 ∧ i ≤ n ∧ num x = hi 9 x0 ++ l.take (n - i) := by
  intro l
  induction l with
  | nil => intro x0 i x n _ h; rw [numL_end] at h; split at h <;> simp at h
  | cons c r ih =>
    intro x0 i x n h0 h
    by_cases hb : 144115188075855872 ≤ x0
    · rw [numL_big _ _ _ hb] at h; simp at h
    · have hc2 := c.toNat_lt
      by_cases hc : c.toNat < 128
      · rw [numL_last _ _ _ _ (by omega) hc] at h
        simp only [Prod.mk.injEq, and_true] at h
        obtain ⟨rfl, rfl⟩ := h
        refine ⟨by omega, by omega, ?_⟩
        rw [num, show (x0 * 128 + c.toNat % 128) / 128 = x0 by omega, show (x0 * 128 + c.toNat % 128) % 128 = c.toNat by omega, ofNat_of c _ rfl]
        simp
      · rw [numL_more _ _ _ _ (by omega) (by omega)] at h
        have hne : x0 * 128 + c.toNat % 128 ≠ 0 := by
          intro hz
          have hc8 : c = 128 := UInt8.toNat_inj.1 (show c.toNat = 128 by omega)
          rcases h0 with h0 | h0
          · omega
          · exact h0 (by rw [hc8]; rfl)
        obtain ⟨h1, h2, h3⟩ := ih _ _ _ _ (.inl hne) h
        refine ⟨by omega, by omega, ?_⟩
        rw [h3, show n - i = (n - (i + 1)) + 1 by omega, List.take_succ_cons, hi_step 8 _ hne, show (x0 * 128 + c.toNat % 128) / 128 = x0 by omega,
          show (x0 * 128 + c.toNat % 128) % 128 + 128 = c.toNat by omega, ofNat_of c _ rfl, hi_fuel 8 x0 (by omega)]
        simp
theorem numR_canon (l : List UInt8) (h : (numR l).2.2 = 0) : num (numR l).1 = l.take (numR l).2.1 := by
  unfold numR at h ⊢
  split at h
  · simp at h
  · rename_i hh
    rw [if_neg hh]
    have := numL_canon l 0 0 (numL 0 0 l).1 (numL 0 0 l).2.1 (.inr hh) (by rw [← h])
    rw [this.2.2, hi_zero]
    simp
/-- Numbers, one behind the other. -/
def nums (l : List Nat) : List UInt8 := (l.map num).flatten
theorem nums_snoc (l : List Nat) (x : Nat) : nums (l ++ [x]) = nums l ++ num x := by simp [nums]
theorem nums_cons (l : List Nat) (x : Nat) : nums (x :: l) = num x ++ nums l := by simp [nums]
theorem nums_len : ∀ l : List Nat, (nums l).length ≤ 10 * l.length
  | [] => by simp [nums]
  | x :: l => by have := nums_len l; have := num_len x; rw [nums_cons, List.length_append, List.length_cons]; omega
theorem rdNum_num (x : Nat) (hx : x < 18446744073709551616) (r : List UInt8) : rdNum (num x ++ r, 0) = (x, (r, 0)) := by
  rw [rdNum_ok' _ (by rw [numR_num x hx r]), numR_num x hx r]
  simp
end Go.Proofs.YtippojkdgecblaaDoor
