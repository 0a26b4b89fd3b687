/-
  What WireBack and WireRuns say, in plain Lean: what is written is read back, no other bytes encode it, sums are joined, a byte that is turned is seen.
-/
import Derived.Test.YtclgnfgafcbhhaaRdrM
import Derived.Test.YtclgnfgafcbhhaaRFrame
namespace Go.Proofs.Ytclgnfgafcbhhaa
open Go.RowKit
/-! ### Numbers -/
theorem ofNat_toNat (x : Nat) (h : x < 256) : (UInt8.ofNat x).toNat = x := by rw [UInt8.toNat_ofNat']; exact Nat.mod_eq_of_lt h
theorem numL_hi : ∀ (f y : Nat) (s : List UInt8) (i : Nat), y < 128 ^ f → y / 128 < 144115188075855872 → numL 0 i (hi f y ++ s) = numL y (i + (hi f y).length) s := by
  intro f
  induction f with
  | zero =>
    intro y s i hy _
    obtain rfl : y = 0 := by simpa using hy
    simp [hi]
  | succ f ih =>
    intro y s i hy hb
    by_cases h0 : y = 0
    · subst h0; rw [hi_zero]; simp
    · rw [hi_step f y h0, List.append_assoc, ih (y / 128) _ i (by rw [Nat.pow_succ] at hy; exact Nat.div_lt_of_lt_mul (by rw [Nat.mul_comm]; exact hy)) (by omega)]
      show numL (y / 128) _ (UInt8.ofNat (y % 128 + 128) :: s) = _
      rw [numL_more _ _ _ _ (by omega) (by rw [ofNat_toNat _ (by omega)]; omega), ofNat_toNat _ (by omega)]
      congr 1
      · omega
      · simp; omega
theorem hi_head : ∀ (f y : Nat), y < 128 ^ f → ∀ b, (hi f y).head? = some b → b ≠ 128 := by
  intro f
  induction f with
  | zero => intro y _ b h; simp [hi] at h
  | succ f ih =>
    intro y hy b h
    by_cases h0 : y = 0
    · subst h0; rw [hi_zero] at h; simp at h
    · rw [hi_step f y h0] at h
      have hy2 : y / 128 < 128 ^ f := by rw [Nat.pow_succ] at hy; exact Nat.div_lt_of_lt_mul (by rw [Nat.mul_comm]; exact hy)
      cases hh : hi f (y / 128) with
      | nil =>
        rw [hh] at h
        have h2 : y / 128 = 0 := by
          rcases f with _ | f
          · simpa using hy2
          · rcases Nat.eq_zero_or_pos (y / 128) with h3 | h3
            · exact h3
            · rw [hi_step f _ (by omega)] at hh
              simp at hh
        simp only [List.nil_append, List.head?_cons, Option.some.injEq] at h
        subst h
        intro h4
        have h5 := congrArg UInt8.toNat h4
        rw [ofNat_toNat _ (by omega)] at h5
        have : y % 128 + 128 = 128 := h5
        omega
      | cons c t =>
        have := ih (y / 128) hy2 c (by rw [hh]; rfl)
        rw [hh] at h
        simp at h
        subst h
        exact this
/-- What is written is read back. -/
theorem numR_num (x : Nat) (hx : x < 18446744073709551616) (r : List UInt8) : numR (num x ++ r) = (x, (num x).length, 0) := by
  have h9 : x / 128 < 128 ^ 9 := by omega
  have hne : (num x ++ r).head? ≠ some 128 := by
    intro h
    unfold num at h
    cases hh : hi 9 (x / 128) with
    | nil =>
      rw [hh] at h
      simp at h
      have h5 := congrArg UInt8.toNat h
      rw [ofNat_toNat _ (by omega)] at h5
      have : x % 128 = 128 := h5
      omega
    | cons c t =>
      rw [hh] at h
      simp at h
      exact hi_head 9 _ h9 c (by rw [hh]; rfl) h
  rw [numR_no _ hne]
  unfold num
  rw [List.append_assoc, numL_hi 9 _ _ _ h9 (by omega)]
  show numL _ _ (UInt8.ofNat (x % 128) :: r) = _
  rw [numL_last _ _ _ _ (by omega) (by rw [ofNat_toNat _ (by omega)]; omega), ofNat_toNat _ (by omega)]
  simp
  omega
theorem hi_fuel : ∀ (f y : Nat), y < 128 ^ f → hi (f + 1) y = hi f y := by
  intro f
  induction f with
  | zero => intro y hy; obtain rfl : y = 0 := (by simpa using hy); rfl
  | succ f ih =>
    intro y hy
    by_cases h0 : y = 0
    · subst h0; rw [hi_zero, hi_zero]
    · rw [hi_step _ _ h0, hi_step _ _ h0, ih]
      rw [Nat.pow_succ] at hy
      exact Nat.div_lt_of_lt_mul (by rw [Nat.mul_comm]; exact hy)
theorem ofNat_of (c : UInt8) (n : Nat) (h : c.toNat = n) : UInt8.ofNat n = c := by subst h; simp
/-- No other bytes encode it. -/
theorem numL_canon : ∀ (l : List UInt8) (x0 i x n : Nat), (x0 ≠ 0 ∨ l.head? ≠ some 128) → numL x0 i l = (x, n, 0) → x0 < 144115188075855872 ∧ i ≤ n ∧ num x = hi 9 x0 ++ l.take (n - i) := by
  intro l
  induction l with
  | nil => intro x0 i x n _ h; rw [numL_end] at h; split at h <;> simp at h
  | cons c r ih =>
    intro x0 i x n h0 h
    by_cases hb : 144115188075855872 ≤ x0
    · rw [numL_big _ _ _ hb] at h; simp at h
    · have hc2 := c.toNat_lt
      by_cases hc : c.toNat < 128
      · rw [numL_last _ _ _ _ (by omega) hc] at h
        simp only [Prod.mk.injEq, and_true] at h
        obtain ⟨rfl, rfl⟩ := h
        refine ⟨by omega, by omega, ?_⟩
        rw [num, show (x0 * 128 + c.toNat % 128) / 128 = x0 by omega, show (x0 * 128 + c.toNat % 128) % 128 = c.toNat by omega, ofNat_of c _ rfl]
        simp
      · rw [numL_more _ _ _ _ (by omega) (by omega)] at h
        have hne : x0 * 128 + c.toNat % 128 ≠ 0 := by
          intro hz
          have hc8 : c = 128 := UInt8.toNat_inj.1 (show c.toNat = 128 by omega)
          rcases h0 with h0 | h0
          · omega
          · exact h0 (by rw [hc8]; rfl)
        obtain ⟨h1, h2, h3⟩ := ih _ _ _ _ (.inl hne) h
        refine ⟨by omega, by omega, ?_⟩
        rw [h3, show n - i = (n - (i + 1)) + 1 by omega, List.take_succ_cons, hi_step 8 _ hne, show (x0 * 128 + c.toNat % 128) / 128 = x0 by omega,
          show (x0 * 128 + c.toNat % 128) % 128 + 128 = c.toNat by omega, ofNat_of c _ rfl, hi_fuel 8 x0 (by omega)]
        simp
theorem numR_canon (l : List UInt8) (h : (numR l).2.2 = 0) : num (numR l).1 = l.take (numR l).2.1 := by
  unfold numR at h ⊢
  split at h
  · simp at h
  · rename_i hh
    rw [if_neg hh]
    have := numL_canon l 0 0 (numL 0 0 l).1 (numL 0 0 l).2.1 (.inr hh) (by rw [← h])
    rw [this.2.2, hi_zero]
    simp
/-! ### Sums -/
theorem foldl_adS : ∀ (q : List UInt8) (a b : Nat), a < 65521 → b < 65521 →
    (q.foldl adS (a, b)).1 = (a + (ad q).1 + 65520) % 65521 ∧ (q.foldl adS (a, b)).2 = (b + (ad q).2 + q.length * (a + 65520)) % 65521 := by
  intro q a b ha hb
  have key : ∀ (r : List UInt8), ∀ q : List UInt8, q = r.reverse → (q.foldl adS (a, b)).1 = (a + (ad q).1 + 65520) % 65521 ∧ (q.foldl adS (a, b)).2 = (b + (ad q).2 + q.length * (a + 65520)) % 65521 := by
    intro r
    induction r with
    | nil =>
      intro q hq
      subst hq
      simp [ad]
      omega
    | cons c r ih =>
      intro q hq
      subst hq
      obtain ⟨h1, h2⟩ := ih r.reverse rfl
      rw [List.reverse_cons, List.foldl_append, ad_snoc]
      simp only [List.foldl_cons, List.foldl_nil, adS, List.length_append, List.length_cons, List.length_nil]
      rw [h1, h2, show (r.reverse.length + (0 + 1)) * (a + 65520) = r.reverse.length * (a + 65520) + (a + 65520) by rw [Nat.zero_add, Nat.succ_mul]]
      generalize r.reverse.length * (a + 65520) = N
      generalize (ad r.reverse).1 = x1
      generalize (ad r.reverse).2 = y1
      generalize c.toNat = z
      omega
  exact key q.reverse q (by simp)
theorem sum_parts (l : List UInt8) : sumN l / 65536 = (ad l).2 ∧ sumN l % 65536 = (ad l).1 := by
  have := ad_lt l
  unfold sumN
  omega
theorem joinOk_sums (p q : List UInt8) (n : Int) (hn : 0 ≤ n) : joinOk (sumN p) (sumN q) n = true := by
  have h1 := ad_lt p
  have h2 := ad_lt q
  unfold joinOk
  rw [(sum_parts p).1, (sum_parts p).2, (sum_parts q).1, (sum_parts q).2]
  exact decide_eq_true ⟨h1.2, h1.1, h2.2, h2.1, hn⟩
theorem join_sums (p q : List UInt8) : joinY (sumN p) (sumN q) q.length * 65536 + joinX (sumN p) (sumN q) = sumN (p ++ q) := by
  have h1 := ad_lt p
  have h := foldl_adS q (ad p).1 (ad p).2 h1.1 h1.2
  have e : ad (p ++ q) = q.foldl adS ((ad p).1, (ad p).2) := by unfold ad; rw [List.foldl_append]
  unfold sumN joinX joinY
  rw [e, h.1, h.2]
  have hp := sum_parts p
  have hq := sum_parts q
  unfold sumN at hp hq
  rw [hp.1, hp.2, hq.1, hq.2]
  rw [Nat.add_mod ((ad p).2 + (ad q).2) (q.length * ((ad p).1 + 65520)), Nat.add_mod ((ad p).2 + (ad q).2) (q.length % 65521 * _), Nat.mod_mul_mod]
/-- The first part of a sum is a plain one. -/
theorem ad_fst (l : List UInt8) : (ad l).1 = (1 + (l.map UInt8.toNat).sum) % 65521 := by
  have key : ∀ (r : List UInt8), (ad r.reverse).1 = (1 + (r.map UInt8.toNat).sum) % 65521 := by
    intro r
    induction r with
    | nil => rfl
    | cons c r ih =>
      rw [List.reverse_cons, ad_snoc, adS]
      simp only [List.map_cons, List.sum_cons]
      rw [ih]
      omega
  have := key l.reverse
  rw [List.reverse_reverse, List.map_reverse, List.sum_reverse] at this
  exact this
theorem sum_set : ∀ (l : List UInt8) (k : Nat) (b c : UInt8), l[k]? = some b → ((l.set k c).map UInt8.toNat).sum + b.toNat = (l.map UInt8.toNat).sum + c.toNat := by
  intro l
  induction l with
  | nil => intro k b c h; simp at h
  | cons x l ih =>
    intro k b c h
    rcases k with _ | k
    · simp at h; subst h; simp; omega
    · simp at h
      have := ih k b c (by simpa using h)
      simp only [List.set_cons_succ, List.map_cons, List.sum_cons]
      omega
/-- A byte that is turned gives another sum. -/
theorem sumN_set (l : List UInt8) (k : Nat) (b c : UInt8) (hb : l[k]? = some b) (hne : c ≠ b) : sumN (l.set k c) ≠ sumN l := by
  intro h
  have h1 := sum_parts (l.set k c)
  have h2 := sum_parts l
  rw [h] at h1
  have h3 : (ad (l.set k c)).1 = (ad l).1 := by rw [← h1.2, h2.2]
  rw [ad_fst, ad_fst] at h3
  have hs := sum_set l k b c hb
  have hb2 := b.toNat_lt
  have hc2 := c.toNat_lt
  have hn : c.toNat ≠ b.toNat := fun e => hne (UInt8.toNat_inj.1 e)
  omega
end Go.Proofs.Ytclgnfgafcbhhaa
