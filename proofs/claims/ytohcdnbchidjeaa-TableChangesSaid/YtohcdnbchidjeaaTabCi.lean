/-
  TableChanges at every input.
-/
import Derived.Test.YtohcdnbchidjeaaTabCh
namespace Go.Proofs.Ytohcdnbchidjeaa
open Go.RowKit
set_option maxHeartbeats 2000000 in
set_option maxRecDepth 100000 in
theorem changes_in (A A' : Option Addr) (n c n' c' : Nat) (l o : List P3) (key : ByteArray) (w : World) (hin : PIn w A n c l) (hin' : PIn w A' n' c' o) :
    Calls Try.prog 6 #[.slice A n c, .slice A' n' c', .string key] w fun e w' => e = .returned (.bool true) ∧ Below w.heap.size w w' := by
  cases hl : lightB 400 300 l
  · obtain ⟨hr, hnc, hcm⟩ := hin
    unfold maxLen at hcm
    have HR := Lib.hid hr
    have HLT := Lib.hid hl
    clear hr hl hin'
    go_enter Try.func6, Try.ntmps6
    go_wp2_with fail
    refine (lives_v w).mono ?_
    rintro e w1 ⟨rfl, hb1⟩
    go_wp2_with fail
    refine (light_v w.heap.size A n c 400 300 l w1 (Reads.below HR.out hb1) hb1.size (by omega) (by omega)).mono ?_
    rw [HLT.out]
    rintro e w2 ⟨rfl, hb2⟩
    have HB2 := Lib.hid (btwo hb1 hb2)
    clear hb1 hb2
    go_wp2
    go_ret
    exact ⟨rfl, HB2.out⟩
  · cases ho : lightB 400 300 o
    · obtain ⟨hr, hnc, hcm⟩ := hin
      obtain ⟨hr', hnc', hcm'⟩ := hin'
      unfold maxLen at hcm hcm'
      have HR := Lib.hid hr
      have HR' := Lib.hid hr'
      have HLT := Lib.hid hl
      have HLT' := Lib.hid ho
      clear hr hr' hl ho
      go_enter Try.func6, Try.ntmps6
      go_wp2_with fail
      refine (lives_v w).mono ?_
      rintro e w1 ⟨rfl, hb1⟩
      go_wp2_with fail
      refine (light_v w.heap.size A n c 400 300 l w1 (Reads.below HR.out hb1) hb1.size (by omega) (by omega)).mono ?_
      rw [HLT.out]
      rintro e w2 ⟨rfl, hb2⟩
      have HB2 := Lib.hid (btwo hb1 hb2)
      clear hb1 hb2
      go_wp2_with fail
      refine (light_v w.heap.size A' n' c' 400 300 o w2 (Reads.below HR'.out HB2.out) HB2.out.size (by omega) (by omega)).mono ?_
      rw [HLT'.out]
      rintro e w3 ⟨rfl, hb3⟩
      have HB3 := Lib.hid (btrans HB2.out hb3 HB2.out.size)
      clear hb3 HB2
      go_wp2
      go_ret
      exact ⟨rfl, HB3.out⟩
    · by_cases hk : key.size ≤ 300
      · exact changes_in2 A A' n c n' c' l o key w hin hin' hl ho hk
      · obtain ⟨hr, hnc, hcm⟩ := hin
        obtain ⟨hr', hnc', hcm'⟩ := hin'
        unfold maxLen at hcm hcm'
        have HR := Lib.hid hr
        have HR' := Lib.hid hr'
        have HLT := Lib.hid hl
        have HLT' := Lib.hid ho
        have hkd : decide ((300 : Int) < (key.size : Int)) = true := by simp; omega
        have hkd' : decide (300 < key.size) = true := by simp; omega
        clear hr hr' hl ho
        go_enter Try.func6, Try.ntmps6
        go_wp2_with fail
        refine (lives_v w).mono ?_
        rintro e w1 ⟨rfl, hb1⟩
        go_wp2_with fail
        refine (light_v w.heap.size A n c 400 300 l w1 (Reads.below HR.out hb1) hb1.size (by omega) (by omega)).mono ?_
        rw [HLT.out]
        rintro e w2 ⟨rfl, hb2⟩
        have HB2 := Lib.hid (btwo hb1 hb2)
        clear hb1 hb2
        go_wp2_with fail
        refine (light_v w.heap.size A' n' c' 400 300 o w2 (Reads.below HR'.out HB2.out) HB2.out.size (by omega) (by omega)).mono ?_
        rw [HLT'.out]
        rintro e w3 ⟨rfl, hb3⟩
        have HB3 := Lib.hid (btrans HB2.out hb3 HB2.out.size)
        clear hb3 HB2
        go_wp2
        go_ret
        exact ⟨rfl, HB3.out⟩
end Go.Proofs.Ytohcdnbchidjeaa
