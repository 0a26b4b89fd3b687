/-
  What a reader reads: plain Lean.
-/
import Derived.Test.YtippojkdgecblaaDoorNumM
namespace Go.Proofs.YtippojkdgecblaaDoor
open Go.RowKit
/-- A number's bytes read on, from x and place i. -/
def numL : Nat → Nat → List UInt8 → Nat × Nat × Int
  | x, _, [] => if 144115188075855872 ≤ x then (0, 0, 4) else (0, 0, 5)
  | x, i, c :: r => if 144115188075855872 ≤ x then (0, 0, 4) else if c.toNat < 128 then (x * 128 + c.toNat % 128, i + 1, 0) else numL (x * 128 + c.toNat % 128) (i + 1) r
def numR (l : List UInt8) : Nat × Nat × Int := if l.head? = some 128 then (0, 0, 4) else numL 0 0 l
theorem numL_end (x i : Nat) : numL x i [] = if 144115188075855872 ≤ x then (0, 0, 4) else (0, 0, 5) := rfl
theorem numL_big (x i : Nat) (l : List UInt8) (h : 144115188075855872 ≤ x) : numL x i l = (0, 0, 4) := by
  cases l <;> simp only [numL, if_pos h]
theorem numL_last (x i : Nat) (c : UInt8) (r : List UInt8) (h : x < 144115188075855872) (hc : c.toNat < 128) : numL x i (c :: r) = (x * 128 + c.toNat % 128, i + 1, 0) := by
  rw [numL, if_neg (by omega), if_pos hc]
theorem numL_more (x i : Nat) (c : UInt8) (r : List UInt8) (h : x < 144115188075855872) (hc : 128 ≤ c.toNat) : numL x i (c :: r) = numL (x * 128 + c.toNat % 128) (i + 1) r := by
  rw [numL, if_neg (by omega), if_neg (by omega)]
theorem numR_128 (r : List UInt8) : numR (128 :: r) = (0, 0, 4) := by simp [numR]
theorem numR_no (l : List UInt8) (h : l.head? ≠ some 128) : numR l = numL 0 0 l := by rw [numR, if_neg h]
/-- What is read is within the bytes, and fits. -/
theorem numL_bd : ∀ (l : List UInt8) (x i : Nat), (numL x i l).1 < 18446744073709551616 ∧ ((numL x i l).2.2 = 0 → (numL x i l).2.1 ≤ i + l.length) ∧ ((numL x i l).2.2 = 0 ∨ (numL x i l).2.2 = 4 ∨ (numL x i l).2.2 = 5) := by
  intro l
  induction l with
  | nil => intro x i; rw [numL_end]; split <;> simp
  | cons c r ih =>
    intro x i
    by_cases h : 144115188075855872 ≤ x
    · rw [numL_big x i _ h]; simp
    · by_cases hc : c.toNat < 128
      · rw [numL_last x i c r (by omega) hc]
        refine ⟨by simp only []; omega, fun _ => by simp, .inl rfl⟩
      · rw [numL_more x i c r (by omega) (by omega)]
        obtain ⟨h1, h2, h3⟩ := ih (x * 128 + c.toNat % 128) (i + 1)
        exact ⟨h1, fun h0 => by have := h2 h0; simp only [List.length_cons]; omega, h3⟩
theorem numR_bd (l : List UInt8) : (numR l).1 < 18446744073709551616 ∧ ((numR l).2.2 = 0 → (numR l).2.1 ≤ l.length) ∧ ((numR l).2.2 = 0 ∨ (numR l).2.2 = 4 ∨ (numR l).2.2 = 5) := by
  unfold numR
  split
  · simp
  · simpa using numL_bd l 0 0
theorem and127 (c : UInt8) : bits .and .u8 (c.toNat : Int) 127 = (((c.toNat % 128 : Nat)) : Int) := by
  have := c.toNat_lt
  rw [show (127 : Int) = ((127 : Nat) : Int) from rfl, u8_and_nat _ _ (by omega) (by decide), nat_mask7]
theorem or7 (x c : Nat) (hx : x < 144115188075855872) (hc : c < 128) : bits .or .u64 ((x : Int) * 128) (c : Int) = ((x * 128 + c : Nat) : Int) := by
  rw [show (x : Int) * 128 = ((x * 128 : Nat) : Int) by simp, u64_or_nat _ _ (by omega) (by omega), nat_join 7 _ _ (by omega) (by omega)]
/-- A reader: the bytes left, the error. -/
def rdNum (s : List UInt8 × Int) : Nat × (List UInt8 × Int) :=
  if s.2 ≠ 0 then (0, s) else if (numR s.1).2.2 ≠ 0 then (0, (s.1, (numR s.1).2.2)) else ((numR s.1).1, (s.1.drop (numR s.1).2.1, 0))
theorem rdNum_ok' (l : List UInt8) (h : (numR l).2.2 = 0) : rdNum (l, 0) = ((numR l).1, (l.drop (numR l).2.1, 0)) := by rw [rdNum, if_neg (by simp), if_neg (by simp [h])]
def pieceE (l : List UInt8) : Int :=
  if (numR l).2.2 ≠ 0 then (numR l).2.2 else if 1048576 < (numR l).1 then 3 else if l.length - (numR l).2.1 < (numR l).1 then 5 else 0
def rdPiece (s : List UInt8 × Int) : List UInt8 × (List UInt8 × Int) :=
  if s.2 ≠ 0 then ([], s) else if pieceE s.1 ≠ 0 then ([], (s.1, pieceE s.1))
  else ((s.1.drop (numR s.1).2.1).take (numR s.1).1, (s.1.drop ((numR s.1).2.1 + (numR s.1).1), 0))
def rdEnd (s : List UInt8 × Int) : Int := if s.2 ≠ 0 then s.2 else if 0 < s.1.length then 4 else 0
end Go.Proofs.YtippojkdgecblaaDoor
