/-
  Vectors: both, Compare, the kit's comparison.
-/
import Derived.Test.YtndekohimfjdeaaDoorVecM
import Derived.Laws.Externs
namespace Go.Proofs.YtndekohimfjdeaaDoor
open Go.RowKit
theorem btwo {w w1 w2 : World} (h : Below w.heap.size w w1) (k : Below w1.heap.size w1 w2) : Below w.heap.size w w2 := h.trans (k.mono h.size)
set_option maxHeartbeats 1000000 in
theorem both_v (B : Nat) (A1 A2 : Option Addr) (n1 c1 n2 c2 : Nat) (l1 l2 : List (Int × Nat)) (w : World) (hr1 : CReads w B A1 n1 l1) (hr2 : CReads w B A2 n2 l2) (hB : B ≤ w.heap.size) (hn1 : n1 ≤ 9223372036854775807) (hn2 : n2 ≤ 9223372036854775807) :
    Calls Tryd.prog 53 #[.slice A1 n1 c1, .slice A2 n2 c2] w fun e w' => e = .returned (.bool (okV 0 l1 && okV 0 l2)) ∧ Below w.heap.size w w' := by
  cases h1 : okV 0 l1
  · have H1 := Lib.hid h1
    clear h1
    go_enter Tryd.func53, Tryd.ntmps53
    go_wp2_with fail
    refine (check_v B A1 n1 c1 l1 w hr1 hB hn1).mono ?_
    rw [H1.out]
    rintro e w1 ⟨rfl, hb⟩
    go_wp2
    go_ret
    exact ⟨rfl, hb⟩
  · cases h2 : okV 0 l2
    all_goals
      have H1 := Lib.hid h1
      have H2 := Lib.hid h2
      clear h1 h2
      go_enter Tryd.func53, Tryd.ntmps53
      go_wp2_with fail
      refine (check_v B A1 n1 c1 l1 w hr1 hB hn1).mono ?_
      rw [H1.out]
      rintro e w1 ⟨rfl, hb⟩
      go_wp2_with fail
      refine (check_v B A2 n2 c2 l2 w1 (Reads.below (show Reads w B 2 A2 n2 _ from hr2) (hb.mono hB)) (Nat.le_trans hB hb.size) hn2).mono ?_
      rw [H2.out]
      rintro e w2 ⟨rfl, hb2⟩
      go_wp2
      go_ret
      exact ⟨rfl, btwo hb hb2⟩
/-- Is the first one's value less, for one of the devices up to k? -/
def ltN (f g : Int → Nat) : Nat → Bool
  | 0 => false
  | k + 1 => ltN f g k || decide (f ((k : Int) + 1) < g ((k : Int) + 1))
def cmpF (f g : Int → Nat) : Int := if ltN f g 16 && ltN g f 16 then 4 else if ltN f g 16 then 2 else if ltN g f 16 then 3 else 1
def cmpV (l1 l2 : List (Int × Nat)) : Int := if okV 0 l1 && okV 0 l2 then cmpF (val l1) (val l2) else 0
set_option maxHeartbeats 2000000 in
theorem compare_v (B : Nat) (A1 A2 : Option Addr) (n1 c1 n2 c2 : Nat) (l1 l2 : List (Int × Nat)) (w : World) (hr1 : CReads w B A1 n1 l1) (hr2 : CReads w B A2 n2 l2) (hB : B ≤ w.heap.size) (hn1 : n1 ≤ 9223372036854775807) (hn2 : n2 ≤ 9223372036854775807)
    (hf1 : fitV l1) (hf2 : fitV l2) :
    Calls Tryd.prog 34 #[.slice A1 n1 c1, .slice A2 n2 c2] w fun e w' => e = .returned (.int .i64 (cmpV l1 l2)) ∧ Below w.heap.size w w' := by
  cases ho : okV 0 l1 && okV 0 l2
  · have HO := Lib.hid ho
    clear ho
    have HC := Lib.hid (show cmpV l1 l2 = 0 by rw [cmpV, HO.out]; rfl)
    go_enter Tryd.func34, Tryd.ntmps34
    go_wp2
    go_step3
    go_wp2_with fail
    refine (both_v B A1 A2 n1 c1 n2 c2 l1 l2 w hr1 hr2 hB hn1 hn2).mono ?_
    rw [HO.out]
    rintro e w1 ⟨rfl, hb⟩
    go_wp2
    try rw [Exit.noGoto_ret]
    go_ret
    exact ⟨by rw [HC.out]; rfl, hb⟩
  · have HO := Lib.hid ho
    clear ho
    have HC := Lib.hid (show cmpV l1 l2 = cmpF (val l1) (val l2) by rw [cmpV, HO.out]; rfl)
    go_enter Tryd.func34, Tryd.ntmps34
    go_wp2
    go_step3
    go_wp2_with fail
    refine (both_v B A1 A2 n1 c1 n2 c2 l1 l2 w hr1 hr2 hB hn1 hn2).mono ?_
    rw [HO.out]
    rintro e w1 ⟨rfl, hb⟩
    go_wp2_with fail
    go_step3
    go_wp2_with fail
    go_loopw [5, 6, 7] (fun x y i wr => ∃ (k : Nat), k ≤ 16 ∧ i = .int .i64 ((k : Int) + 1) ∧ x = .bool (ltN (val l1) (val l2) k) ∧ y = .bool (ltN (val l2) (val l1) k) ∧ Below w.heap.size w wr) (fun _ _ i _ => 17 - (intOf i).toNat)
    case atStart => exact ⟨0, Nat.zero_le _, rfl, rfl, rfl, hb⟩
    case round =>
      obtain ⟨k, hk, rfl, rfl, rfl, hbw⟩ := hrel
      have R1 := Lib.hid (Reads.below (show Reads w B 2 A1 n1 _ from hr1) (hbw.mono hB))
      have HBr : Hid (B ≤ wr.heap.size) := Lib.hid (Nat.le_trans hB hbw.size)
      by_cases hlt : k < 16
      · go_wp2_with fail
        refine (val_v B A1 n1 c1 l1 ((k : Int) + 1) wr R1.out HBr.out hn1).mono ?_
        rintro e w2 ⟨rfl, hb2⟩
        have R2 := Lib.hid (Reads.below (show Reads w B 2 A2 n2 _ from hr2) ((hbw.trans (hb2.mono hbw.size)).mono hB))
        go_wp2_with fail
        refine (val_v B A2 n2 c2 l2 ((k : Int) + 1) w2 R2.out (Nat.le_trans HBr.out hb2.size) hn2).mono ?_
        rintro e w3 ⟨rfl, hb3⟩
        have hb4 : Below w.heap.size w w3 := hbw.trans ((btwo hb2 hb3).mono hbw.size)
        have v1 := fit_val l1 ((k : Int) + 1) hf1
        have v2 := fit_val l2 ((k : Int) + 1) hf2
        have s1 := Lib.hid (show ltN (val l1) (val l2) (k + 1) = (ltN (val l1) (val l2) k || decide (val l1 ((k : Int) + 1) < val l2 ((k : Int) + 1))) from rfl)
        have s2 := Lib.hid (show ltN (val l2) (val l1) (k + 1) = (ltN (val l2) (val l1) k || decide (val l2 ((k : Int) + 1) < val l1 ((k : Int) + 1))) from rfl)
        clear hb2 hb3
        generalize val l1 ((k : Int) + 1) = x at *
        generalize val l2 ((k : Int) + 1) = y at *
        by_cases he : x = y
        · subst he
          have e1 := Lib.hid (show ltN (val l1) (val l2) (k + 1) = ltN (val l1) (val l2) k by rw [s1.out]; simp)
          have e2 := Lib.hid (show ltN (val l2) (val l1) (k + 1) = ltN (val l2) (val l1) k by rw [s2.out]; simp)
          go_wp2
          go_roundw
          case rel => exact ⟨k + 1, hlt, by go_num, by rw [e1.out], by rw [e2.out], hb4⟩
          case measure => simp [intOf]; omega
        · have d0 : ((x : Int) == (y : Int)) = false := by rw [beq_eq_false_iff_ne]; omega
          by_cases hl : x < y
          · have d1 : decide (x < y) = true := by simpa using hl
            have e1 := Lib.hid (show ltN (val l1) (val l2) (k + 1) = true by rw [s1.out]; simp [hl])
            have e2 := Lib.hid (show ltN (val l2) (val l1) (k + 1) = ltN (val l2) (val l1) k by rw [s2.out, decide_eq_false (by omega)]; simp)
            clear he
            go_wp2
            go_roundw
            case rel => exact ⟨k + 1, hlt, by go_num, by rw [e1.out], by rw [e2.out], hb4⟩
            case measure => simp [intOf]; omega
          · have d1 : decide (x < y) = false := by simpa using hl
            have e1 := Lib.hid (show ltN (val l1) (val l2) (k + 1) = ltN (val l1) (val l2) k by rw [s1.out]; simp [hl])
            have e2 := Lib.hid (show ltN (val l2) (val l1) (k + 1) = true by rw [s2.out, decide_eq_true (by omega)]; simp)
            clear he
            go_wp2
            go_roundw
            case rel => exact ⟨k + 1, hlt, by go_num, by rw [e1.out], by rw [e2.out], hb4⟩
            case measure => simp [intOf]; omega
      · obtain rfl : k = 16 := by omega
        have hcm : cmpF (val l1) (val l2) = if ltN (val l1) (val l2) 16 && ltN (val l2) (val l1) 16 then 4 else if ltN (val l1) (val l2) 16 then 2 else if ltN (val l2) (val l1) 16 then 3 else 1 := rfl
        have HCM := Lib.hid hcm
        clear hcm
        generalize ltN (val l1) (val l2) 16 = p at *
        generalize ltN (val l2) (val l1) 16 = q at *
        rcases p <;> rcases q
        all_goals go_wp2
        all_goals (try rw [Exit.noGoto_ret])
        all_goals go_ret
        all_goals exact ⟨by rw [HC.out, HCM.out]; rfl, hbw⟩
end Go.Proofs.YtndekohimfjdeaaDoor
