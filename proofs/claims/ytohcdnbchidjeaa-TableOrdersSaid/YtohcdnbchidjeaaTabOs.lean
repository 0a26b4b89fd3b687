/-
  TableOrders at every input.
-/
import Derived.Test.YtohcdnbchidjeaaTabOr
namespace Go.Proofs.Ytohcdnbchidjeaa
open Go.RowKit
set_option maxHeartbeats 2000000 in
set_option maxRecDepth 100000 in
theorem orders_in (A : Option Addr) (n c : Nat) (l : List P3) (key : ByteArray) (w : World) (hin : PIn w A n c l) :
    Calls Try.prog 7 #[.slice A n c, .string key] w fun e w' => e = .returned (.bool true) ∧ Below w.heap.size w w' := by
  cases hl : lightB 200 5000 l
  · obtain ⟨hr, hnc, hcm⟩ := hin
    unfold maxLen at hcm
    have HR := Lib.hid hr
    have HLT := Lib.hid hl
    clear hr hl
    go_enter Try.func7, Try.ntmps7
    go_wp2_with fail
    refine (lives_v w).mono ?_
    rintro e w1 ⟨rfl, hb1⟩
    go_wp2_with fail
    refine (light_v w.heap.size A n c 200 5000 l w1 (Reads.below HR.out hb1) hb1.size (by omega) (by omega)).mono ?_
    rw [HLT.out]
    rintro e w2 ⟨rfl, hb2⟩
    have HB2 := Lib.hid (btwo hb1 hb2)
    clear hb1 hb2
    go_wp2
    go_ret
    exact ⟨rfl, HB2.out⟩
  · by_cases hk : key.size ≤ 5000
    · exact orders_in2 A n c l key w hin hl hk
    · obtain ⟨hr, hnc, hcm⟩ := hin
      unfold maxLen at hcm
      have HR := Lib.hid hr
      have HLT := Lib.hid hl
      have hkd : decide ((5000 : Int) < (key.size : Int)) = true := by simp; omega
      have hkd' : decide (5000 < key.size) = true := by simp; omega
      clear hr hl
      go_enter Try.func7, Try.ntmps7
      go_wp2_with fail
      refine (lives_v w).mono ?_
      rintro e w1 ⟨rfl, hb1⟩
      go_wp2_with fail
      refine (light_v w.heap.size A n c 200 5000 l w1 (Reads.below HR.out hb1) hb1.size (by omega) (by omega)).mono ?_
      rw [HLT.out]
      rintro e w2 ⟨rfl, hb2⟩
      have HB2 := Lib.hid (btwo hb1 hb2)
      clear hb1 hb2
      go_wp2
      go_ret
      exact ⟨rfl, HB2.out⟩
end Go.Proofs.Ytohcdnbchidjeaa
