/-
  TableCalls at every input.
-/
import Derived.Test.YtohcdnbchidjeaaTabQg
namespace Go.Proofs.Ytohcdnbchidjeaa
open Go.RowKit
set_option maxHeartbeats 4000000 in
set_option maxRecDepth 100000 in
theorem calls_in (A A' : Option Addr) (n c n' c' : Nat) (l o : List P3) (fr tt : ByteArray) (mo : Int) (w : World) (hin : PIn w A n c l) (hin' : PIn w A' n' c' o) :
    Calls Try.prog 8 #[.slice A n c, .slice A' n' c', .string fr, .string tt, .int .i64 mo] w fun e w' => e = .returned (.bool true) ∧ Below w.heap.size w w' := by
  cases hl : lightB 200 5000 l
  · skip
    obtain ⟨hr, hnc, hcm⟩ := hin
    obtain ⟨hr', hnc', hcm'⟩ := hin'
    unfold maxLen at hcm hcm'
    have HR := Lib.hid hr
    have HR' := Lib.hid hr'
    have HLT := Lib.hid hl
    clear hr hr' hl
    go_enter Try.func8, Try.ntmps8
    go_wp2_with fail
    refine (lives_v w).mono ?_
    rintro e w1 ⟨rfl, hb1⟩
    go_wp2_with fail
    refine (light_v w.heap.size A n c 200 5000 l w1 (Reads.below HR.out hb1) hb1.size (by omega) (by omega)).mono ?_
    rw [HLT.out]
    rintro e w2 ⟨rfl, hb2⟩
    have HB2 := Lib.hid (btwo hb1 hb2)
    clear hb1 hb2
    go_wp2
    go_ret
    exact ⟨rfl, HB2.out⟩
  · cases ho : lightB 200 5000 o
    · skip
      obtain ⟨hr, hnc, hcm⟩ := hin
      obtain ⟨hr', hnc', hcm'⟩ := hin'
      unfold maxLen at hcm hcm'
      have HR := Lib.hid hr
      have HR' := Lib.hid hr'
      have HLT := Lib.hid hl
      have HLT' := Lib.hid ho
      clear hr hr' hl ho
      go_enter Try.func8, Try.ntmps8
      go_wp2_with fail
      refine (lives_v w).mono ?_
      rintro e w1 ⟨rfl, hb1⟩
      go_wp2_with fail
      refine (light_v w.heap.size A n c 200 5000 l w1 (Reads.below HR.out hb1) hb1.size (by omega) (by omega)).mono ?_
      rw [HLT.out]
      rintro e w2 ⟨rfl, hb2⟩
      have HB2 := Lib.hid (btwo hb1 hb2)
      clear hb1 hb2
      go_wp2_with fail
      refine (light_v w.heap.size A' n' c' 200 5000 o w2 (Reads.below HR'.out HB2.out) HB2.out.size (by omega) (by omega)).mono ?_
      rw [HLT'.out]
      rintro e w3 ⟨rfl, hb3⟩
      have HB3 := Lib.hid (btrans HB2.out hb3 HB2.out.size)
      clear hb3 HB2
      go_wp2
      go_ret
      exact ⟨rfl, HB3.out⟩
    · by_cases hf : fr.size ≤ 5000
      · by_cases ht : tt.size ≤ 5000
        · exact calls_in2 A A' n c n' c' l o fr tt mo w hin hin' hl ho hf ht
        · skip
          obtain ⟨hr, hnc, hcm⟩ := hin
          obtain ⟨hr', hnc', hcm'⟩ := hin'
          unfold maxLen at hcm hcm'
          have HR := Lib.hid hr
          have HR' := Lib.hid hr'
          have HLT := Lib.hid hl
          have HLT' := Lib.hid ho
          clear hr hr' hl ho
          have hkfr : decide (5000 < fr.size) = false := by simp; omega
          have hkfr' : decide ((5000 : Int) < (fr.size : Int)) = false := by simp; omega
          have hktt : decide (5000 < tt.size) = true := by simp; omega
          have hktt' : decide ((5000 : Int) < (tt.size : Int)) = true := by simp; omega
          go_enter Try.func8, Try.ntmps8
          go_wp2_with fail
          refine (lives_v w).mono ?_
          rintro e w1 ⟨rfl, hb1⟩
          go_wp2_with fail
          refine (light_v w.heap.size A n c 200 5000 l w1 (Reads.below HR.out hb1) hb1.size (by omega) (by omega)).mono ?_
          rw [HLT.out]
          rintro e w2 ⟨rfl, hb2⟩
          have HB2 := Lib.hid (btwo hb1 hb2)
          clear hb1 hb2
          go_wp2_with fail
          refine (light_v w.heap.size A' n' c' 200 5000 o w2 (Reads.below HR'.out HB2.out) HB2.out.size (by omega) (by omega)).mono ?_
          rw [HLT'.out]
          rintro e w3 ⟨rfl, hb3⟩
          have HB3 := Lib.hid (btrans HB2.out hb3 HB2.out.size)
          clear hb3 HB2
          go_wp2
          go_ret
          exact ⟨rfl, HB3.out⟩
      · skip
        obtain ⟨hr, hnc, hcm⟩ := hin
        obtain ⟨hr', hnc', hcm'⟩ := hin'
        unfold maxLen at hcm hcm'
        have HR := Lib.hid hr
        have HR' := Lib.hid hr'
        have HLT := Lib.hid hl
        have HLT' := Lib.hid ho
        clear hr hr' hl ho
        have hkfr : decide (5000 < fr.size) = true := by simp; omega
        have hkfr' : decide ((5000 : Int) < (fr.size : Int)) = true := by simp; omega
        go_enter Try.func8, Try.ntmps8
        go_wp2_with fail
        refine (lives_v w).mono ?_
        rintro e w1 ⟨rfl, hb1⟩
        go_wp2_with fail
        refine (light_v w.heap.size A n c 200 5000 l w1 (Reads.below HR.out hb1) hb1.size (by omega) (by omega)).mono ?_
        rw [HLT.out]
        rintro e w2 ⟨rfl, hb2⟩
        have HB2 := Lib.hid (btwo hb1 hb2)
        clear hb1 hb2
        go_wp2_with fail
        refine (light_v w.heap.size A' n' c' 200 5000 o w2 (Reads.below HR'.out HB2.out) HB2.out.size (by omega) (by omega)).mono ?_
        rw [HLT'.out]
        rintro e w3 ⟨rfl, hb3⟩
        have HB3 := Lib.hid (btrans HB2.out hb3 HB2.out.size)
        clear hb3 HB2
        go_wp2
        go_ret
        exact ⟨rfl, HB3.out⟩
end Go.Proofs.Ytohcdnbchidjeaa
