/-
  Digests: words turned, primes, roots.
-/
import Derived.Test.YtmaehbebpldpcaaShaM
import Derived.Test.YtmaehbebpldpcaaConcat
import Derived.Test.YtmaehbebpldpcaaIntRows
import Derived.Laws.MathBits
import Derived.IntWalk
import Derived.Shelf.Bits.Mul64
namespace Go.Proofs.Ytmaehbebpldpcaa
open Go.RowKit
section
variable {k : IntKind} {w w' : World} {B n : Nat} {A : Option Addr} {l : List Nat}
theorem NReads.at2 {j : Nat} (h : NReads k w B A n l) (hj : j < n) :
    ∃ (ad : Addr) (x : Nat), A = some ad ∧ ad.block < B ∧ w.cell? (ad.add j) = some (.int k (x : Int)) ∧ Hid (l[j]? = some x) ∧ Hid (l.take (j + 1) = l.take j ++ [x]) ∧ x ∈ l := by
  obtain ⟨ad, u, hA, hb, hx, hc⟩ := Reads.at_ h hj
  have hl : j < l.length := by rw [h.len]; exact hj
  refine ⟨ad, l[j], hA, hb, ?_, List.getElem?_eq_getElem hl, List.take_succ_eq_append_getElem hl, List.getElem_mem hl⟩
  rw [hc]
  rw [List.getElem?_map, List.getElem?_eq_getElem hl] at hx
  simpa using hx.symm
end
theorem rotr_lt (x n : Nat) (hx : x < 4294967296) : rotr x n < 4294967296 := by
  refine Nat.or_lt_two_pow (n := 32) (Nat.mod_lt _ (by omega)) ?_
  rw [Nat.shiftRight_eq_div_pow]
  exact Nat.lt_of_le_of_lt (Nat.div_le_self _ _) hx
theorem foldl_lt (x : Nat) (hx : x < 4294967296) : ∀ (l : List Nat) (o : Nat), o < 4294967296 → l.foldl (fun o n => o ^^^ rotr x n) o < 4294967296
  | [], _, h => h
  | n :: l, _, h => foldl_lt x hx l _ (Nat.xor_lt_two_pow (n := 32) h (rotr_lt x n hx))
theorem rightL_lt (x : Nat) (l : List Nat) (hx : x < 4294967296) : rightL x l < 4294967296 := foldl_lt x hx l 0 (by omega)
theorem rightL_snoc (x n : Nat) (l : List Nat) : rightL x (l ++ [n]) = rightL x l ^^^ rotr x n := by simp [rightL]
set_option maxHeartbeats 400000 in
theorem rot_v (x n : Nat) (w : World) (hx : x < 4294967296) (h0 : 0 < n) (h1 : n < 32) :
    Calls Try.prog 69 #[.int .u32 (x : Int), .int .i64 (-(n : Int))] w fun e w' => e = .returned (.int .u32 (rotr x n : Int)) ∧ w = w' := by
  have e1 : IntKind.u64.wrap (-(n : Int)) = ((18446744073709551616 - n : Nat) : Int) := by
    rw [show IntKind.u64.wrap (-(n : Int)) = (-(n : Int)) % 18446744073709551616 by simp [IntKind.wrap, IntKind.bits, IntKind.signed]]; omega
  have e2 : bits .and .u64 ((18446744073709551616 - n : Nat) : Int) 31 = ((32 - n : Nat) : Int) := by
    have := u64_and_nat (18446744073709551616 - n) 31 (by omega) (by omega)
    rw [show ((31 : Nat) : Int) = 31 from rfl] at this
    rw [this, nat_mask5]
    omega
  have e3 : Hid (bits .or .u32 ((x : Int) * 2 ^ (32 - n) % 4294967296) ((x : Int) / 2 ^ (32 - (32 - n))) = ((rotr x n : Nat) : Int)) := by
    have h3 : x >>> n < 4294967296 := by
      rw [Nat.shiftRight_eq_div_pow]
      exact Nat.lt_of_le_of_lt (Nat.div_le_self _ _) hx
    have := u32_or_nat ((x <<< (32 - n)) % 4294967296) (x >>> n) (Nat.mod_lt _ (by omega)) h3
    refine Lib.hid ?_
    rw [show rotr x n = (x <<< (32 - n)) % 4294967296 ||| x >>> n from rfl, ← this, Nat.shiftLeft_eq, Nat.shiftRight_eq_div_pow, show 32 - (32 - n) = n by omega]
    congr 1
    all_goals simp
  go_enter Try.func69, Try.ntmps69
  go_wp2
  go_ret
  exact ⟨ret_int e3.out, rfl⟩
set_option maxHeartbeats 400000 in
theorem right_v (x : Nat) (B : Nat) (A : Option Addr) (n c : Nat) (l : List Nat) (w : World) (hr : NReads .i64 w B A n l) (hx : x < 4294967296) (hl : ∀ y ∈ l, 0 < y ∧ y < 32) (hn : n ≤ 9223372036854775807) :
    Calls Try.prog 63 #[.int .u32 (x : Int), .slice A n c] w fun e w' => e = .returned (.int .u32 (rightL x l : Int)) ∧ w = w' := by
  go_enter Try.func63, Try.ntmps63
  go_wp2
  go_loop [5, 10] (fun o i => ∃ k : Nat, k ≤ n ∧ i = .int .i64 (k : Int) ∧ o = .int .u32 (rightL x (l.take k) : Int)) (fun _ i => n - (intOf i).toNat)
  case atStart => exact ⟨0, Nat.zero_le _, rfl, rfl⟩
  case round =>
    obtain ⟨k, hk, rfl, rfl⟩ := hrel
    by_cases hlt : k < n
    · obtain ⟨ad, y, rfl, had, hcell, _, HT, hy⟩ := NReads.at2 hr hlt
      obtain ⟨y0, y1⟩ := hl y hy
      have HN := Lib.hid (rightL_snoc x y (l.take k))
      have b1 := rightL_lt x (l.take k) hx
      have b2 := rotr_lt x y hx
      obtain ⟨r, hr0⟩ : ∃ r, rightL x (l.take k) = r := ⟨_, rfl⟩
      rw [hr0] at HN b1 ⊢
      clear hr0
      have ex := u32_xor_nat r (rotr x y) b1 b2
      go_wp2_with (go_at_call 69; refine (rot_v x y _ hx y0 y1).mono ?_; rintro e w' ⟨rfl, rfl⟩)
      go_round
      case rel => exact ⟨k + 1, by omega, by go_num, by rw [HT.out, HN.out]⟩
      case measure => simp [intOf]; omega
    · obtain rfl : k = n := by omega
      have HF := Lib.hid (show l.take k = l by rw [List.take_of_length_le (by rw [NReads.len hr]; exact Nat.le_refl _)])
      rw [HF.out]
      go_wp2
      go_ret
      exact ⟨rfl, rfl⟩
end Go.Proofs.Ytmaehbebpldpcaa
