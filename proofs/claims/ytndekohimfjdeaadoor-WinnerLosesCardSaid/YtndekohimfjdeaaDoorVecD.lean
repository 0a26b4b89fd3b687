/-
  Vectors: the kit's comparison, Order.
-/
import Derived.Test.YtndekohimfjdeaaDoorVecC
namespace Go.Proofs.YtndekohimfjdeaaDoor
open Go.RowKit
set_option maxHeartbeats 2000000 in
/-- The kit's comparison. -/
theorem same_v (B : Nat) (A1 A2 : Option Addr) (n1 c1 n2 c2 : Nat) (l1 l2 : List (Int × Nat)) (w : World) (hr1 : CReads w B A1 n1 l1) (hr2 : CReads w B A2 n2 l2) (hB : B ≤ w.heap.size) (hn1 : n1 ≤ 9223372036854775807) :
    Calls Tryd.prog 20 #[.slice A1 n1 c1, .slice A2 n2 c2] w fun e w' => e = .returned (.bool (decide (l1 = l2))) ∧ Below w.heap.size w w' := by
  have L1 := Lib.hid hr1.len
  have L2 := Lib.hid hr2.len
  by_cases hl : n1 = n2
  · subst hl
    have H1 := Lib.hid hr1
    have H2 := Lib.hid hr2
    clear hr1 hr2
    go_enter Tryd.func20, Tryd.ntmps20
    go_wp2
    go_loopw [5] (fun i wr => ∃ (k : Nat), k ≤ n1 ∧ i = .int .i64 (k : Int) ∧ l1.take k = l2.take k ∧ Below w.heap.size w wr) (fun i _ => n1 - (intOf i).toNat)
    case atStart => exact ⟨0, Nat.zero_le _, rfl, rfl, Below.refl _ _⟩
    case round =>
      obtain ⟨k, hk, rfl, ht, hb⟩ := hrel
      have R1 := Lib.hid (Reads.below (show Reads w B 2 A1 n1 _ from H1.out) (hb.mono hB))
      have R2 := Lib.hid (Reads.below (show Reads w B 2 A2 n1 _ from H2.out) (hb.mono hB))
      have HT := Lib.hid ht
      clear ht
      by_cases hlt : k < n1
      · obtain ⟨ad1, x, he1, _, hx, hc1, hc2⟩ := CReads.at_ R1.out hlt
        obtain ⟨ad2, y, he2, _, hy, hd1, hd2⟩ := CReads.at_ R2.out hlt
        subst he1 he2
        have HX := Lib.hid hx
        have HY := Lib.hid hy
        clear hx hy
        by_cases hxy : x = y
        · subst hxy
          have HF := Lib.hid (show l1.take (k + 1) = l2.take (k + 1) by
            obtain ⟨a1, b1⟩ := List.getElem?_eq_some_iff.1 HX.out
            obtain ⟨a2, b2⟩ := List.getElem?_eq_some_iff.1 HY.out
            rw [List.take_succ_eq_append_getElem a1, List.take_succ_eq_append_getElem a2, b1, b2, HT.out])
          go_wp2
          go_region
          all_goals go_wp2
          go_roundw
          case rel => exact ⟨k + 1, hlt, by go_num, HF.out, hb.drew⟩
          case measure => simp [intOf]; omega
        · have HF := Lib.hid (show decide (l1 = l2) = false by
            apply decide_eq_false
            intro h
            apply hxy
            have h1 := HX.out
            rw [h, HY.out] at h1
            injection h1 with h1
            exact h1.symm)
          by_cases h1 : x.1 = y.1
          · have h2 : ¬ ((x.2 : Int) = (y.2 : Int)) := fun h => hxy (Prod.ext h1 (by omega))
            clear hxy
            go_wp2
            go_region
            all_goals go_wp2
            all_goals go_ret
            all_goals exact ⟨by rw [HF.out]; rfl, hb.drew⟩
          · clear hxy
            go_wp2
            go_region
            all_goals go_wp2
            all_goals go_ret
            all_goals exact ⟨by rw [HF.out]; rfl, hb.drew⟩
      · obtain rfl : k = n1 := by omega
        have HF := Lib.hid (show decide (l1 = l2) = true by
          apply decide_eq_true
          have := HT.out
          rwa [List.take_of_length_le (by rw [L1.out]; exact Nat.le_refl _), List.take_of_length_le (by rw [L2.out]; exact Nat.le_refl _)] at this)
        go_wp2
        go_ret
        exact ⟨by rw [HF.out]; rfl, hb⟩
  · have hb : ((n1 : Int) == (n2 : Int)) = false := by rw [beq_eq_false_iff_ne]; omega
    have HF := Lib.hid (show decide (l1 = l2) = false by
      apply decide_eq_false
      intro h
      apply hl
      rw [← L1.out, ← L2.out, h])
    go_enter Tryd.func20, Tryd.ntmps20
    go_wp2
    go_ret
    exact ⟨by rw [HF.out]; rfl, Below.refl _ _⟩
end Go.Proofs.YtndekohimfjdeaaDoor
