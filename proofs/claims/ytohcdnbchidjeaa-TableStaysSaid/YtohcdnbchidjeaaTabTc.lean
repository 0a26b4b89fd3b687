/-
  TableStays at every input.
-/
import Derived.Test.YtohcdnbchidjeaaTabTb
namespace Go.Proofs.Ytohcdnbchidjeaa
open Go.RowKit
set_option maxHeartbeats 4000000 in
set_option maxRecDepth 100000 in
theorem stays_in (A A' Ab : Option Addr) (n c n' c' nb cb : Nat) (l o : List P3) (zs : List Int) (key v : ByteArray) (w : World) (hin : PIn w A n c l) (hin' : PIn w A' n' c' o) (hrb : Reads w w.heap.size 1 Ab nb (zs.map (Value.int .i64))) (hnbm : nb ≤ 9223372036854775807) (hkm : key.size ≤ 9223372036854775807) (hvm : v.size ≤ 9223372036854775807) :
    Calls Try.prog 5 #[.slice A n c, .slice A' n' c', .slice Ab nb cb, .string key, .string v] w fun e w' => e = .returned (.bool true) ∧ Below w.heap.size w w' := by
  cases hl : lightB 200 5000 l
  · skip
    obtain ⟨hr, hnc, hcm⟩ := hin
    obtain ⟨hr', hnc', hcm'⟩ := hin'
    unfold maxLen at hcm hcm'
    have HR := Lib.hid hr
    have HR' := Lib.hid hr'
    have HLT := Lib.hid hl
    clear hr hr' hl hrb
    go_enter Try.func5, Try.ntmps5
    go_wp2_with fail
    refine (lives_v w).mono ?_
    rintro e w1 ⟨rfl, hb1⟩
    go_wp2_with fail
    refine (light_v w.heap.size A n c 200 5000 l w1 (Reads.below HR.out hb1) hb1.size (by omega) (by omega)).mono ?_
    rw [HLT.out]
    rintro e w2 ⟨rfl, hb2⟩
    have HB2 := Lib.hid (btwo hb1 hb2)
    clear hb1 hb2
    go_wp2
    go_ret
    exact ⟨rfl, HB2.out⟩
  · cases ho : lightB 200 5000 o
    · skip
      obtain ⟨hr, hnc, hcm⟩ := hin
      obtain ⟨hr', hnc', hcm'⟩ := hin'
      unfold maxLen at hcm hcm'
      have HR := Lib.hid hr
      have HR' := Lib.hid hr'
      have HLT := Lib.hid hl
      have HLT' := Lib.hid ho
      clear hr hr' hl ho hrb
      go_enter Try.func5, Try.ntmps5
      go_wp2_with fail
      refine (lives_v w).mono ?_
      rintro e w1 ⟨rfl, hb1⟩
      go_wp2_with fail
      refine (light_v w.heap.size A n c 200 5000 l w1 (Reads.below HR.out hb1) hb1.size (by omega) (by omega)).mono ?_
      rw [HLT.out]
      rintro e w2 ⟨rfl, hb2⟩
      have HB2 := Lib.hid (btwo hb1 hb2)
      clear hb1 hb2
      go_wp2_with fail
      refine (light_v w.heap.size A' n' c' 200 5000 o w2 (Reads.below HR'.out HB2.out) HB2.out.size (by omega) (by omega)).mono ?_
      rw [HLT'.out]
      rintro e w3 ⟨rfl, hb3⟩
      have HB3 := Lib.hid (btrans HB2.out hb3 HB2.out.size)
      clear hb3 HB2
      go_wp2
      go_ret
      exact ⟨rfl, HB3.out⟩
    · by_cases hk : key.size ≤ 5000
      · by_cases hv : v.size ≤ 5000
        · by_cases hb : nb ≤ 200
          · exact stays_in2 A A' Ab n c n' c' nb cb l o zs key v w hin hin' hrb hb hl ho hk hv
          · skip
            obtain ⟨hr, hnc, hcm⟩ := hin
            obtain ⟨hr', hnc', hcm'⟩ := hin'
            unfold maxLen at hcm hcm'
            have HR := Lib.hid hr
            have HR' := Lib.hid hr'
            have HLT := Lib.hid hl
            have HLT' := Lib.hid ho
            clear hr hr' hl ho hrb
            have hdke : decide (5000 < key.size) = false := by simp; omega
            have heke : decide ((5000 : Int) < (key.size : Int)) = false := by simp; omega
            have hdv : decide (5000 < v.size) = false := by simp; omega
            have hev : decide ((5000 : Int) < (v.size : Int)) = false := by simp; omega
            have hdnb : decide (200 < nb) = true := by simp; omega
            have henb : decide ((200 : Int) < (nb : Int)) = true := by simp; omega
            go_enter Try.func5, Try.ntmps5
            go_wp2_with fail
            refine (lives_v w).mono ?_
            rintro e w1 ⟨rfl, hb1⟩
            go_wp2_with fail
            refine (light_v w.heap.size A n c 200 5000 l w1 (Reads.below HR.out hb1) hb1.size (by omega) (by omega)).mono ?_
            rw [HLT.out]
            rintro e w2 ⟨rfl, hb2⟩
            have HB2 := Lib.hid (btwo hb1 hb2)
            clear hb1 hb2
            go_wp2_with fail
            refine (light_v w.heap.size A' n' c' 200 5000 o w2 (Reads.below HR'.out HB2.out) HB2.out.size (by omega) (by omega)).mono ?_
            rw [HLT'.out]
            rintro e w3 ⟨rfl, hb3⟩
            have HB3 := Lib.hid (btrans HB2.out hb3 HB2.out.size)
            clear hb3 HB2
            go_wp2
            go_ret
            exact ⟨rfl, HB3.out⟩
        · skip
          obtain ⟨hr, hnc, hcm⟩ := hin
          obtain ⟨hr', hnc', hcm'⟩ := hin'
          unfold maxLen at hcm hcm'
          have HR := Lib.hid hr
          have HR' := Lib.hid hr'
          have HLT := Lib.hid hl
          have HLT' := Lib.hid ho
          clear hr hr' hl ho hrb
          have hdke : decide (5000 < key.size) = false := by simp; omega
          have heke : decide ((5000 : Int) < (key.size : Int)) = false := by simp; omega
          have hdv : decide (5000 < v.size) = true := by simp; omega
          have hev : decide ((5000 : Int) < (v.size : Int)) = true := by simp; omega
          go_enter Try.func5, Try.ntmps5
          go_wp2_with fail
          refine (lives_v w).mono ?_
          rintro e w1 ⟨rfl, hb1⟩
          go_wp2_with fail
          refine (light_v w.heap.size A n c 200 5000 l w1 (Reads.below HR.out hb1) hb1.size (by omega) (by omega)).mono ?_
          rw [HLT.out]
          rintro e w2 ⟨rfl, hb2⟩
          have HB2 := Lib.hid (btwo hb1 hb2)
          clear hb1 hb2
          go_wp2_with fail
          refine (light_v w.heap.size A' n' c' 200 5000 o w2 (Reads.below HR'.out HB2.out) HB2.out.size (by omega) (by omega)).mono ?_
          rw [HLT'.out]
          rintro e w3 ⟨rfl, hb3⟩
          have HB3 := Lib.hid (btrans HB2.out hb3 HB2.out.size)
          clear hb3 HB2
          go_wp2
          go_ret
          exact ⟨rfl, HB3.out⟩
      · skip
        obtain ⟨hr, hnc, hcm⟩ := hin
        obtain ⟨hr', hnc', hcm'⟩ := hin'
        unfold maxLen at hcm hcm'
        have HR := Lib.hid hr
        have HR' := Lib.hid hr'
        have HLT := Lib.hid hl
        have HLT' := Lib.hid ho
        clear hr hr' hl ho hrb
        have hdke : decide (5000 < key.size) = true := by simp; omega
        have heke : decide ((5000 : Int) < (key.size : Int)) = true := by simp; omega
        go_enter Try.func5, Try.ntmps5
        go_wp2_with fail
        refine (lives_v w).mono ?_
        rintro e w1 ⟨rfl, hb1⟩
        go_wp2_with fail
        refine (light_v w.heap.size A n c 200 5000 l w1 (Reads.below HR.out hb1) hb1.size (by omega) (by omega)).mono ?_
        rw [HLT.out]
        rintro e w2 ⟨rfl, hb2⟩
        have HB2 := Lib.hid (btwo hb1 hb2)
        clear hb1 hb2
        go_wp2_with fail
        refine (light_v w.heap.size A' n' c' 200 5000 o w2 (Reads.below HR'.out HB2.out) HB2.out.size (by omega) (by omega)).mono ?_
        rw [HLT'.out]
        rintro e w3 ⟨rfl, hb3⟩
        have HB3 := Lib.hid (btrans HB2.out hb3 HB2.out.size)
        clear hb3 HB2
        go_wp2
        go_ret
        exact ⟨rfl, HB3.out⟩
end Go.Proofs.Ytohcdnbchidjeaa
