/-
  Paths: marked.
-/
import Derived.Test.YtndekohimfjdeaaDoorPathD
import Derived.Lib.AtoiErrMem
namespace Go.Proofs.YtndekohimfjdeaaDoor
open Go.RowKit
def mN (s : Bl) : Nat := digitsL s
def mP (s : Bl) : Bl := s.take (s.length - mN s)
def mR (s : Bl) : Bl := Lib.trimSuffix (mP s) [45]
def mM (s : Bl) : Nat := digitsL (mR s)
def mQ (s : Bl) : Bl := (mR s).take ((mR s).length - mM s)
def mA (s : Bl) : Bl := Lib.trimSuffix (mQ s) [46, 99]
theorem marked_eq (s : Bl) : markedL s = if Lib.hasSuffix (mP s) [45] = true ∧ Lib.hasSuffix (mQ s) [46, 99] = true ∧ mN s ≠ 0 ∧ mM s ≠ 0 ∧ mN s ≤ 3 ∧ mM s ≤ 2 then some (mA s, numB ((mR s).drop ((mR s).length - mM s)), numB (s.drop (s.length - mN s))) else none := by
  have e0 : markedL s = (if ¬ [45] <:+ mP s then none else (fun r => (fun m => (fun q => if ¬ [46, 99] <:+ q then none else if mN s = 0 ∨ m = 0 ∨ 3 < mN s ∨ 2 < m then none else some (q.take (q.length - 2), numB (r.drop (r.length - m)), numB (s.drop (s.length - mN s)))) (r.take (r.length - m))) (digitsL r)) ((mP s).take ((mP s).length - 1))) := rfl
  rw [e0, suffix_lib, suffix_lib]
  by_cases h1 : [45] <:+ mP s
  · have hR : (mP s).take ((mP s).length - 1) = mR s := by unfold mR; rw [trim_lib, if_pos h1]; rfl
    rw [if_neg (Classical.not_not.2 h1), hR]
    show (if ¬ [46, 99] <:+ mQ s then none else if mN s = 0 ∨ mM s = 0 ∨ 3 < mN s ∨ 2 < mM s then none else some ((mQ s).take ((mQ s).length - 2), numB ((mR s).drop ((mR s).length - mM s)), numB (s.drop (s.length - mN s)))) = _
    by_cases h2 : [46, 99] <:+ mQ s
    · have hA : (mQ s).take ((mQ s).length - 2) = mA s := by unfold mA; rw [trim_lib, if_pos h2]; rfl
      rw [if_neg (Classical.not_not.2 h2), hA]
      by_cases h3 : mN s = 0 ∨ mM s = 0 ∨ 3 < mN s ∨ 2 < mM s
      · rw [if_pos h3, if_neg (by rintro ⟨_, _, _, _, _, _⟩; omega)]
      · rw [if_neg h3, if_pos ⟨decide_eq_true h1, decide_eq_true h2, by omega, by omega, by omega, by omega⟩]
    · rw [if_pos h2, if_neg (by rintro ⟨_, h, _⟩; rw [decide_eq_false h2] at h; cases h)]
  · rw [if_pos h1, if_neg (by rintro ⟨h, _⟩; rw [decide_eq_false h1] at h; cases h)]
theorem mR_len (s : Bl) : (mR s).length ≤ s.length := by
  unfold mR mP
  rw [trim_lib]
  split
  · rw [List.length_take, List.length_take]; omega
  · rw [List.length_take]; omega
theorem mN_le (s : Bl) : mN s ≤ s.length := (digits_tail s).2
theorem mM_le (s : Bl) : mM s ≤ (mR s).length := (digits_tail (mR s)).2
end Go.Proofs.YtndekohimfjdeaaDoor
