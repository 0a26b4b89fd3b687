/-
  The walk of wire.Sum.
-/
import Derived.Test.YtclgnfgafcbhhaaSumM
import Derived.Test.YtclgnfgafcbhhaaChecked
namespace Go.Proofs.Ytclgnfgafcbhhaa
open Go.RowKit
set_option maxHeartbeats 400000 in
theorem sum_any (B : Nat) (A : Option Addr) (n c : Nat) (l : List UInt8) (w : World) (hr : BReads w B A n l) (hn : n ≤ 140737488355328) :
    Calls Try.prog 20 #[.slice A n c] w fun e w' => e = .returned (.int .u32 (sumN l : Nat)) ∧ w = w' := by
  go_enter Try.func20, Try.ntmps20
  go_wp2
  go_loop [3, 4, 9] (fun x y i => ∃ k : Nat, k ≤ n ∧ i = .int .i64 k ∧ x = .int .u32 ((ad (l.take k)).1 : Nat) ∧ y = .int .u32 ((ad (l.take k)).2 : Nat)) (fun _ _ i => n - (intOf i).toNat)
  case atStart => exact ⟨0, Nat.zero_le _, rfl, rfl, rfl⟩
  case round =>
    obtain ⟨k, hk, rfl, rfl, rfl⟩ := hrel
    have hb := ad_lt (l.take k)
    by_cases hlt : k < n
    · obtain ⟨adr, cb, rfl, _, hc, _, ht, hu⟩ := hr.at_ hlt
      go_wp2
      go_round
      case rel => exact ⟨k + 1, by omega, by go_num, by rw [ht.out, ad_snoc]; simp [adS], by rw [ht.out, ad_snoc]; simp [adS]⟩
      case measure => simp [intOf]; omega
    · obtain rfl : k = n := by omega
      go_wp2
      go_ret
      have hl : l.take k = l := List.take_of_length_le (by rw [hr.len]; exact Nat.le_refl _)
      exact ⟨ret_int (by rw [hl]; exact sum_or l), rfl⟩
end Go.Proofs.Ytclgnfgafcbhhaa
