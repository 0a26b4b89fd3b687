/-
  Vectors, the reference: Compare.
-/
import Derived.Test.YtndekohimfjdeaaDoorRvD
namespace Go.Proofs.YtndekohimfjdeaaDoor
open Go.RowKit
set_option maxRecDepth 100000 in
set_option maxHeartbeats 4000000 in
theorem rcompare_v (B : Nat) (A1 A2 : Option Addr) (n1 c1 n2 c2 : Nat) (l1 l2 : List (Int × Nat)) (w : World) (hr1 : CReads w B A1 n1 l1) (hr2 : CReads w B A2 n2 l2) (hB : B ≤ w.heap.size) (hn1 : n1 ≤ 9223372036854775807) (hn2 : n2 ≤ 9223372036854775807)
    (hf1 : fitV l1) (hf2 : fitV l2) :
    Calls Tryd.prog 12 #[.slice A1 n1 c1, .slice A2 n2 c2] w fun e w' => e = .returned (.int .i64 (cmpV l1 l2)) ∧ Below w.heap.size w w' := by
  have HR1 := Lib.hid hr1
  have HR2 := Lib.hid hr2
  have HF1 := Lib.hid hf1
  have HF2 := Lib.hid hf2
  clear hr1 hr2 hf1 hf2
  cases ho1 : okV 0 l1
  · have HO := Lib.hid ho1
    have HC := Lib.hid (show cmpV l1 l2 = 0 by rw [cmpV, ho1]; rfl)
    clear ho1
    go_enter Tryd.func12, Tryd.ntmps12
    go_wp2_with fail
    refine (rcheck_v B A1 n1 c1 l1 w HR1.out hB hn1).mono ?_
    rw [HO.out]
    rintro e w1 ⟨rfl, hb⟩
    go_wp2_with fail
    go_ret
    exact ⟨by rw [HC.out]; rfl, hb⟩
  · have HO1 := Lib.hid ho1
    clear ho1
    cases ho2 : okV 0 l2
    · have HO := Lib.hid ho2
      have HC := Lib.hid (show cmpV l1 l2 = 0 by rw [cmpV, ho2, HO1.out]; rfl)
      clear ho2
      go_enter Tryd.func12, Tryd.ntmps12
      go_wp2_with fail
      refine (rcheck_v B A1 n1 c1 l1 w HR1.out hB hn1).mono ?_
      rw [HO1.out]
      rintro e w1 ⟨rfl, hb⟩
      go_wp2_with fail
      refine (rcheck_v B A2 n2 c2 l2 w1 (Reads.below (show Reads w B 2 A2 n2 _ from HR2.out) (hb.mono hB)) (Nat.le_trans hB hb.size) hn2).mono ?_
      rw [HO.out]
      rintro e w2 ⟨rfl, hb2⟩
      go_wp2_with fail
      go_ret
      exact ⟨by rw [HC.out]; rfl, btwo hb hb2⟩
    · have HO2 := Lib.hid ho2
      have HC := Lib.hid (show cmpV l1 l2 = cmpF (val l1) (val l2) by rw [cmpV, ho2, HO1.out]; rfl)
      clear ho2
      go_enter Tryd.func12, Tryd.ntmps12
      go_wp2_with fail
      refine (rcheck_v B A1 n1 c1 l1 w HR1.out hB hn1).mono ?_
      rw [HO1.out]
      rintro e w1 ⟨rfl, hb1⟩
      have B1 := Lib.hid hb1
      clear hb1
      go_wp2_with fail
      refine (rcheck_v B A2 n2 c2 l2 w1 (Reads.below (show Reads w B 2 A2 n2 _ from HR2.out) (B1.out.mono hB)) (Nat.le_trans hB B1.out.size) hn2).mono ?_
      rw [HO2.out]
      rintro e w2 ⟨rfl, hb2⟩
      have B2 := Lib.hid (btwo B1.out hb2)
      clear hb2 B1
      go_wp2_with fail
      refine (values_v B A1 n1 c1 l1 w2 (Reads.below (show Reads w B 2 A1 n1 _ from HR1.out) (B2.out.mono hB)) (Nat.le_trans hB B2.out.size) hn1 HO1.out HF1.out).mono ?_
      rintro e w3 ⟨rfl, hb3⟩
      have B3 := Lib.hid (btwo B2.out hb3)
      clear hb3 B2
      go_wp2_with fail
      refine (values_v B A2 n2 c2 l2 w3 (Reads.below (show Reads w B 2 A2 n2 _ from HR2.out) (B3.out.mono hB)) (Nat.le_trans hB B3.out.size) hn2 HO2.out HF2.out).mono ?_
      rintro e w4 ⟨rfl, hb4⟩
      have B4 := Lib.hid (btwo B3.out hb4)
      clear hb4 B3
      have HI1 := Lib.hid (show (Tryd.prog.info? 64).map (·.size) = some (valsL l1).length by rw [valsL_len]; kernel_rfl)
      have HI2 := Lib.hid (show (Tryd.prog.info? 64).map (·.size) = some (valsL l2).length by rw [valsL_len]; kernel_rfl)
      go_wp2_with (first
        | (refine wpList_storeN (t := 64) rfl (.tmp 5) (.tmp 19) rfl w4.heap.size (valsL l1) rfl rfl (List.replicate 17 (Value.int .u64 0)).toArray ((Below.heap_alloc _ _ _ (by simp)).trans (heap_alloc_new w4 _)) (by rw [valsL_len]; rfl) HI1.out ?_
           intro w5 n5 b5 z5 o5
           have B5 := Lib.hid (((B4.out.alloc B4.out.size (.cells (List.replicate 17 (Value.int .u64 0)).toArray 64)).alloc (by have := B4.out.size; simp; omega) (.cells (List.replicate 17 (Value.int .u64 0)).toArray 64)).trans (b5.mono B4.out.size))
           have N5 := Lib.hid n5
           have hz5 : w5.heap.size = w4.heap.size + 2 := by rw [z5]; simp
           have E5 := Lib.hid (show w5.heap[w4.heap.size + 1]? = some (.cells (List.replicate 17 (Value.int .u64 0)).toArray 64 (0, 0)) by
             rw [o5 _ (by omega)]
             have := heap_alloc_new (w4.alloc (.cells (List.replicate 17 (Value.int .u64 0)).toArray 64)) (.cells (List.replicate 17 (Value.int .u64 0)).toArray 64)
             simpa using this)
           clear n5 b5 z5 o5
           obtain ⟨g, hg⟩ : ∃ g, w4.heap.size = g := ⟨_, rfl⟩
           have hgw : w.heap.size ≤ g := by rw [← hg]; exact B4.out.size
           rw [hg] at N5 hz5 E5 ⊢
           clear hg B4)
        | (refine wpList_storeN (t := 64) rfl (.tmp 6) (.tmp 21) rfl (g + 1) (valsL l2) rfl rfl (List.replicate 17 (Value.int .u64 0)).toArray E5.out (by rw [valsL_len]; rfl) HI2.out ?_
           intro w6 n6 b6 z6 o6
           have B6 := Lib.hid (B5.out.trans (b6.mono (by omega)))
           have M6 := Lib.hid n6
           have N6 := Lib.hid (N5.out.keep (o6 g (by omega)))
           have hz6 : w6.heap.size = g + 2 := by rw [z6, hz5]
           clear n6 b6 z6 o6 hz5 N5 B5 E5)
        | fail)
      obtain ⟨xs, hxs⟩ : ∃ xs, valsL l1 = xs := ⟨_, rfl⟩
      obtain ⟨ys, hys⟩ : ∃ ys, valsL l2 = ys := ⟨_, rfl⟩
      have HX := Lib.hid (show ∀ j : Nat, j < 17 → xs[j]? = some (val l1 (j : Int)) by rw [← hxs]; exact fun j h => valsL_at l1 h)
      have HY := Lib.hid (show ∀ j : Nat, j < 17 → ys[j]? = some (val l2 (j : Int)) by rw [← hys]; exact fun j h => valsL_at l2 h)
      rw [hxs] at N6 ⊢
      rw [hys] at M6 ⊢
      clear hxs hys HI1 HI2
      go_loopw [7, 8, 9] (fun x y i wr => ∃ (k : Nat), k ≤ 16 ∧ i = .int .i64 ((k + 1 : Nat) : Int) ∧ x = .bool (ltN (val l1) (val l2) k) ∧ y = .bool (ltN (val l2) (val l1) k) ∧ Below w6.heap.size w6 wr) (fun _ _ i _ => 17 - (intOf i).toNat)
      case atStart => exact ⟨0, Nat.zero_le _, rfl, rfl, rfl, Below.refl _ _⟩
      case round =>
        obtain ⟨k, hk, rfl, rfl, rfl, hbw⟩ := hrel
        have BW := Lib.hid hbw
        clear hbw
        by_cases hlt : k < 16
        · have cx := NArr.cell (N6.out.below BW.out) (HX.out (k + 1) (by omega))
          have cy := NArr.cell (M6.out.below BW.out) (HY.out (k + 1) (by omega))
          have s1 := Lib.hid (show ltN (val l1) (val l2) (k + 1) = (ltN (val l1) (val l2) k || decide (val l1 ((k + 1 : Nat) : Int) < val l2 ((k + 1 : Nat) : Int))) from rfl)
          have s2 := Lib.hid (show ltN (val l2) (val l1) (k + 1) = (ltN (val l2) (val l1) k || decide (val l2 ((k + 1 : Nat) : Int) < val l1 ((k + 1 : Nat) : Int))) from rfl)
          obtain ⟨m, hm⟩ : ∃ m, k + 1 = m := ⟨_, rfl⟩
          have HM := Lib.hid hm
          have hm16 : m < 17 := by omega
          have hm0 : (0 : Int) ≤ (m : Int) := by omega
          have d0 : decide (m < 17) = true := by simpa using hm16
          have d0' : decide ((m : Int) < 17) = true := by simp; omega
          rw [hm] at cx cy s1 s2 ⊢
          have v1 := fit_val l1 (m : Int) HF1.out
          have v2 := fit_val l2 (m : Int) HF2.out
          clear hm
          generalize val l1 (m : Int) = x at *
          generalize val l2 (m : Int) = y at *
          obtain ⟨p, hp⟩ : ∃ p, ltN (val l1) (val l2) k = p := ⟨_, rfl⟩
          obtain ⟨q, hq⟩ : ∃ q, ltN (val l2) (val l1) k = q := ⟨_, rfl⟩
          rw [hp] at s1 ⊢
          rw [hq] at s2 ⊢
          clear hp hq
          obtain ⟨a, ha⟩ : ∃ a, decide (x < y) = a := ⟨_, rfl⟩
          obtain ⟨b, hb⟩ : ∃ b, decide (y < x) = b := ⟨_, rfl⟩
          rw [ha] at s1
          rw [hb] at s2
          cases p <;> cases q <;> cases a <;> cases b
          all_goals
            go_upto_region 8 with fail
            go_quiet (fail)
            go_upto_region 9 with fail
            go_quiet (fail)
            go_wp2_with fail
            go_roundw
            case rel => exact ⟨k + 1, by omega, by rw [HM.out]; go_num, by rw [HM.out, s1.out]; rfl, by rw [HM.out, s2.out]; rfl, by first | exact below_drewN BW.out _ | exact BW.out | exact below_drewN (below_drewN BW.out _) _⟩
            case measure => simp [intOf]; omega
        · obtain rfl : k = 16 := by omega
          have BE := Lib.hid (B6.out.trans (BW.out.mono (by omega)))
          have HCC := Lib.hid (show cmpV l1 l2 = if ltN (val l1) (val l2) 16 && ltN (val l2) (val l1) 16 then 4 else if ltN (val l1) (val l2) 16 then 2 else if ltN (val l2) (val l1) 16 then 3 else 1 from HC.out)
          obtain ⟨p, hp⟩ : ∃ p, ltN (val l1) (val l2) 16 = p := ⟨_, rfl⟩
          obtain ⟨q, hq⟩ : ∃ q, ltN (val l2) (val l1) 16 = q := ⟨_, rfl⟩
          rw [hp] at HCC ⊢
          rw [hq] at HCC ⊢
          clear hp hq HC
          cases p <;> cases q
          all_goals
            go_wp2_with fail
            go_ret
            exact ⟨by rw [HCC.out]; rfl, BE.out⟩
end Go.Proofs.YtndekohimfjdeaaDoor
