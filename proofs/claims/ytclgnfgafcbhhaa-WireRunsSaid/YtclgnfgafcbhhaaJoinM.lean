/-
  Joined sums, four bytes of a number: plain Lean.
-/
import Derived.Test.YtclgnfgafcbhhaaSumM
namespace Go.Proofs.Ytclgnfgafcbhhaa
def joinOk (a b : Nat) (n : Int) : Bool := decide (a / 65536 < 65521 ∧ a % 65536 < 65521 ∧ b / 65536 < 65521 ∧ b % 65536 < 65521 ∧ 0 ≤ n)
def joinX (a b : Nat) : Nat := (a % 65536 + b % 65536 + 65520) % 65521
def joinY (a b n : Nat) : Nat := (a / 65536 + b / 65536 + n % 65521 * (a % 65536 + 65520)) % 65521
def joinV (a b : Nat) (n : Int) : Nat := if joinOk a b n then joinY a b n.toNat * 65536 + joinX a b else 0
def joinE (a b : Nat) (n : Int) : Int := if joinOk a b n then 0 else 2
theorem joinX_ref (a b : Nat) : (b % 65536 + (a % 65536 + 65520) % 65521) % 65521 = joinX a b := by unfold joinX; omega
theorem mod_aux (X r s m : Nat) : (X + r % m * s) % m = (X + s * r) % m := by
  rw [Nat.add_mod X, Nat.mul_mod (r % m), Nat.mod_mod, ← Nat.mul_mod, Nat.mul_comm r s, ← Nat.add_mod]
theorem joinY_ref (a b n : Nat) : (a / 65536 + b / 65536 + (a % 65536 + 65520) % 65521 * (n % 65521)) % 65521 = joinY a b n := mod_aux _ _ _ _
/-- Four bytes, the highest first. -/
def be4 (x : Nat) : List UInt8 := [UInt8.ofNat (x / 16777216), UInt8.ofNat (x / 65536), UInt8.ofNat (x / 256), UInt8.ofNat x]
def tld (l : List UInt8) : Nat := (l.getD 0 0).toNat * 16777216 + (l.getD 1 0).toNat * 65536 + (l.getD 2 0).toNat * 256 + (l.getD 3 0).toNat
theorem tld_be4 (x : Nat) (h : x < 4294967296) (r : List UInt8) : tld (be4 x ++ r) = x := by
  simp [tld, be4]
  omega
theorem tld_lt (l : List UInt8) : tld l < 4294967296 := by
  unfold tld
  have h0 := (l.getD 0 0).toNat_lt
  have h1 := (l.getD 1 0).toNat_lt
  have h2 := (l.getD 2 0).toNat_lt
  have h3 := (l.getD 3 0).toNat_lt
  omega
theorem or4 (a b c d : Nat) (ha : a < 256) (hb : b < 256) (hc : c < 256) (hd : d < 256) :
    bits .or .u32 (bits .or .u32 (bits .or .u32 ((a : Int) * 16777216) ((b : Int) * 65536)) ((c : Int) * 256)) (d : Int) = ((a * 16777216 + b * 65536 + c * 256 + d : Nat) : Int) := by
  rw [show (a : Int) * 16777216 = ((a * 16777216 : Nat) : Int) by simp, show (b : Int) * 65536 = ((b * 65536 : Nat) : Int) by simp, show (c : Int) * 256 = ((c * 256 : Nat) : Int) by simp]
  rw [u32_or_nat _ _ (by omega) (by omega), nat_join 24 (a * 16777216) (b * 65536) (by omega) (by omega), u32_or_nat _ _ (by omega) (by omega), nat_join 16 _ (c * 256) (by omega) (by omega), u32_or_nat _ _ (by omega) (by omega), nat_join 8 _ d (by omega) (by omega)]
theorem and16 (a : Nat) (h : a < 4294967296) : bits .and .u32 (a : Int) 65535 = (a : Int) % 65536 := by
  rw [show (65535 : Int) = ((65535 : Nat) : Int) from rfl, u32_and_nat a 65535 h (by decide), nat_mask16]; omega
theorem or_join (y x : Nat) (hy : y < 65521) (hx : x < 65521) : bits .or .u64 ((y : Int) * 65536) (x : Int) = ((y * 65536 + x : Nat) : Int) := by
  rw [show (y : Int) * 65536 = ((y * 65536 : Nat) : Int) by simp, u64_or_nat _ _ (by omega) (by omega), nat_join 16 _ _ (by omega) (by omega)]
theorem join_bd (a n : Nat) : 0 ≤ (n : Int) % 65521 * ((a : Int) % 65536 + 65521 - 1) ∧ (n : Int) % 65521 * ((a : Int) % 65536 + 65521 - 1) ≤ 8589934592 ∧
    (n : Int) % 65521 * ((a : Int) % 65536 + 65521 - 1) = ((n % 65521 * (a % 65536 + 65520) : Nat) : Int) := by
  have e : (n : Int) % 65521 * ((a : Int) % 65536 + 65521 - 1) = ((n % 65521 * (a % 65536 + 65520) : Nat) : Int) := by
    rw [Int.natCast_mul, show ((n % 65521 : Nat) : Int) = (n : Int) % 65521 by omega, show ((a % 65536 + 65520 : Nat) : Int) = (a : Int) % 65536 + 65521 - 1 by omega]
  have h : n % 65521 * (a % 65536 + 65520) ≤ 65521 * 131072 := Nat.mul_le_mul (by omega) (by omega)
  have h2 : n % 65521 * (a % 65536 + 65520) ≤ 8589934592 := by omega
  refine ⟨by rw [e]; omega, by rw [e]; omega, e⟩
theorem joinY_int (a b n : Nat) : ((a : Int) / 65536 + (b : Int) / 65536 + (n : Int) % 65521 * ((a : Int) % 65536 + 65521 - 1)) % 65521 = ((joinY a b n : Nat) : Int) := by
  rw [(join_bd a n).2.2, joinY]
  omega
theorem joinX_int (a b : Nat) : ((a : Int) % 65536 + (b : Int) % 65536 + 65521 - 1) % 65521 = ((joinX a b : Nat) : Int) := by
  rw [joinX]
  omega
theorem join_fails (a b : Nat) (n : Int) (h : joinOk a b n = false) :
    decide ((65521 : Int) ≤ (a : Int) / 65536) = true ∨ (decide ((65521 : Int) ≤ (a : Int) / 65536) = false ∧ decide ((65521 : Int) ≤ (a : Int) % 65536) = true) ∨
    (decide ((65521 : Int) ≤ (a : Int) / 65536) = false ∧ decide ((65521 : Int) ≤ (a : Int) % 65536) = false ∧ decide ((65521 : Int) ≤ (b : Int) / 65536) = true) ∨
    (decide ((65521 : Int) ≤ (a : Int) / 65536) = false ∧ decide ((65521 : Int) ≤ (a : Int) % 65536) = false ∧ decide ((65521 : Int) ≤ (b : Int) / 65536) = false ∧ decide ((65521 : Int) ≤ (b : Int) % 65536) = true) ∨
    (decide ((65521 : Int) ≤ (a : Int) / 65536) = false ∧ decide ((65521 : Int) ≤ (a : Int) % 65536) = false ∧ decide ((65521 : Int) ≤ (b : Int) / 65536) = false ∧ decide ((65521 : Int) ≤ (b : Int) % 65536) = false ∧ decide (n < 0) = true) := by
  have h := of_decide_eq_false h
  simp only [decide_eq_true_eq, decide_eq_false_iff_not]
  omega
theorem rjoin_fails (a b : Nat) (n : Int) (h : joinOk a b n = false) :
    decide ((65521 : Int) ≤ (a : Int) % 65536) = true ∨ (decide ((65521 : Int) ≤ (a : Int) % 65536) = false ∧ decide ((65521 : Int) ≤ (a : Int) / 65536) = true) ∨
    (decide ((65521 : Int) ≤ (a : Int) % 65536) = false ∧ decide ((65521 : Int) ≤ (a : Int) / 65536) = false ∧ decide ((65521 : Int) ≤ (b : Int) % 65536) = true) ∨
    (decide ((65521 : Int) ≤ (a : Int) % 65536) = false ∧ decide ((65521 : Int) ≤ (a : Int) / 65536) = false ∧ decide ((65521 : Int) ≤ (b : Int) % 65536) = false ∧ decide ((65521 : Int) ≤ (b : Int) / 65536) = true) ∨
    (decide ((65521 : Int) ≤ (a : Int) % 65536) = false ∧ decide ((65521 : Int) ≤ (a : Int) / 65536) = false ∧ decide ((65521 : Int) ≤ (b : Int) % 65536) = false ∧ decide ((65521 : Int) ≤ (b : Int) / 65536) = false ∧ decide (n < 0) = true) := by
  have h := of_decide_eq_false h
  simp only [decide_eq_true_eq, decide_eq_false_iff_not]
  omega
theorem rjoin_bd (a n : Nat) : 0 ≤ ((a : Int) % 65536 + 65521 - 1) % 65521 * ((n : Int) % 65521) ∧ ((a : Int) % 65536 + 65521 - 1) % 65521 * ((n : Int) % 65521) ≤ 8589934592 := by
  have e : ((a : Int) % 65536 + 65521 - 1) % 65521 * ((n : Int) % 65521) = (((a % 65536 + 65520) % 65521 * (n % 65521) : Nat) : Int) := by
    rw [Int.natCast_mul, show ((n % 65521 : Nat) : Int) = (n : Int) % 65521 by omega, show (((a % 65536 + 65520) % 65521 : Nat) : Int) = ((a : Int) % 65536 + 65521 - 1) % 65521 by omega]
  have h : (a % 65536 + 65520) % 65521 * (n % 65521) ≤ 65521 * 131072 := Nat.mul_le_mul (by omega) (by omega)
  have h2 : (a % 65536 + 65520) % 65521 * (n % 65521) ≤ 8589934592 := by omega
  exact ⟨by rw [e]; omega, by rw [e]; omega⟩
theorem rjoinY_int (a b n : Nat) : ((a : Int) / 65536 + (b : Int) / 65536 + ((a : Int) % 65536 + 65521 - 1) % 65521 * ((n : Int) % 65521)) % 65521 = ((joinY a b n : Nat) : Int) := by
  have e : ((a : Int) % 65536 + 65521 - 1) % 65521 * ((n : Int) % 65521) = (((a % 65536 + 65520) % 65521 * (n % 65521) : Nat) : Int) := by
    rw [Int.natCast_mul, show ((n % 65521 : Nat) : Int) = (n : Int) % 65521 by omega, show (((a % 65536 + 65520) % 65521 : Nat) : Int) = ((a : Int) % 65536 + 65521 - 1) % 65521 by omega]
  rw [e, ← joinY_ref]
  omega
theorem rjoinX_int (a b : Nat) : ((b : Int) % 65536 + ((a : Int) % 65536 + 65521 - 1) % 65521) % 65521 = ((joinX a b : Nat) : Int) := by
  rw [joinX]
  omega
end Go.Proofs.Ytclgnfgafcbhhaa
