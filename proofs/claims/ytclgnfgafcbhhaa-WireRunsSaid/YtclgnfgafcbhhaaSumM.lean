/-
  Adler's sum in plain numbers.
-/
import Derived.Test.YtclgnfgafcbhhaaBase
namespace Go.Proofs.Ytclgnfgafcbhhaa
def adS (p : Nat × Nat) (c : UInt8) : Nat × Nat := ((p.1 + c.toNat) % 65521, (p.2 + (p.1 + c.toNat) % 65521) % 65521)
def ad (l : List UInt8) : Nat × Nat := l.foldl adS (1, 0)
def sumN (l : List UInt8) : Nat := (ad l).2 * 65536 + (ad l).1
theorem ad_lt (l : List UInt8) : (ad l).1 < 65521 ∧ (ad l).2 < 65521 := by
  unfold ad
  have : ∀ (l : List UInt8) (p : Nat × Nat), p.1 < 65521 ∧ p.2 < 65521 → (l.foldl adS p).1 < 65521 ∧ (l.foldl adS p).2 < 65521 := by
    intro l
    induction l with
    | nil => intro p h; exact h
    | cons c l ih =>
      intro p _
      exact ih _ ⟨Nat.mod_lt _ (by omega), Nat.mod_lt _ (by omega)⟩
  exact this l (1, 0) ⟨by decide, by decide⟩
theorem ad_snoc (l : List UInt8) (c : UInt8) : ad (l ++ [c]) = adS (ad l) c := by simp [ad]
theorem sumN_lt (l : List UInt8) : sumN l < 4294967296 := by have := ad_lt l; unfold sumN; omega
theorem sum_or (l : List UInt8) : bits .or .u32 (((ad l).2 : Int) * 65536) ((ad l).1 : Int) = ((sumN l : Nat) : Int) := by
  have h := ad_lt l
  have e : (((ad l).2 : Int) * 65536) = (((ad l).2 * 65536 : Nat) : Int) := by simp
  rw [e, u32_or_nat _ _ (by omega) (by omega), nat_join 16 _ _ (by omega) (by omega), sumN]
end Go.Proofs.Ytclgnfgafcbhhaa
