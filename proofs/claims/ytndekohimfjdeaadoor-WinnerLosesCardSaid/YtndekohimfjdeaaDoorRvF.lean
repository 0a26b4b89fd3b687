/-
  Vectors, the reference: Order.
-/
import Derived.Test.YtndekohimfjdeaaDoorRvE
import Derived.Test.YtndekohimfjdeaaDoorTextE
namespace Go.Proofs.YtndekohimfjdeaaDoor
open Go.RowKit
/-- All values of k devices from d on. -/
def sumK (f : Int → Nat) : Nat → Int → Nat
  | 0, _ => 0
  | k + 1, d => f d + sumK f k (d + 1)
theorem sumK_ofN : ∀ (k : Nat) (d : Int) (f : Int → Nat), sumV (ofN f k d) = sumK f k d
  | 0, _, _ => rfl
  | k + 1, d, f => by
    have ih := sumK_ofN k (d + 1) f
    rw [ofN, sumK, ← ih]
    by_cases hp : 0 < f d
    · rw [if_pos hp]; simp [sumV]
    · rw [if_neg hp, List.nil_append]; omega
theorem sumV_K {a : List (Int × Nat)} (ha : okV 0 a = true) : sumV a = sumK (val a) 16 1 := by
  have := sumK_ofN 16 1 (val a)
  rw [← this]
  exact congrArg sumV (canon_V ha)
theorem sumK_snoc : ∀ (k : Nat) (d : Int) (f : Int → Nat), sumK f (k + 1) d = sumK f k d + f (d + k)
  | 0, d, f => by simp [sumK]
  | k + 1, d, f => by
    have ih := sumK_snoc k (d + 1) f
    rw [sumK, ih, sumK, show d + 1 + (k : Int) = d + ((k + 1 : Nat) : Int) by omega]
    omega
theorem cmp_words {a0 a1 b0 b1 s t : Nat} (h0 : b0 < 18446744073709551616) (h1 : b1 < 18446744073709551616) (e0 : a0 * 18446744073709551616 + b0 = s) (e1 : a1 * 18446744073709551616 + b1 = t) :
    (a0 < a1 → s < t) ∧ (a1 < a0 → t < s) ∧ (a0 = a1 → b0 < b1 → s < t) ∧ (a0 = a1 → b1 < b0 → t < s) ∧ (a0 = a1 → b0 = b1 → s = t) := by omega
theorem carry_step {a q b p x s M : Nat} (h : a * M + b = s) (e : q * M + p = b + x) : (a + q) * M + p = s + x := by rw [Nat.add_mul]; omega
end Go.Proofs.YtndekohimfjdeaaDoor
