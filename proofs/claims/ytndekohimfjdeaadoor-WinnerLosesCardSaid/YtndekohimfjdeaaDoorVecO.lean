/-
  Vectors: Order.
-/
import Derived.Test.YtndekohimfjdeaaDoorVecD
namespace Go.Proofs.YtndekohimfjdeaaDoor
open Go.RowKit
/-- All values together. -/
def sumV (l : List (Int × Nat)) : Nat := (l.map (·.2)).sum
theorem run_add (x y : Nat) (w : World) : (callFunc 77 #[.int .u64 (x : Int), .int .u64 (y : Int), .int .u64 0]).run Tryd.prog w = .ok (.value (.tuple #[.int .u64 (((x + y) % 18446744073709551616 : Nat) : Int), .int .u64 (((x + y) / 18446744073709551616 : Nat) : Int)])) w := by
  rw [run_callFunc_extern (e := add64Entry) Tryd.func77 (by kernel_rfl) (by rfl) (by kernel_rfl) (by rfl)]
  rw [run_add64 x y 0 (by omega) (by omega) (by omega) (by omega)]
  simp [Result.andThen]
theorem sum_le : ∀ l : List (Int × Nat), fitV l → sumV l ≤ l.length * 18446744073709551615
  | [], _ => by simp [sumV]
  | x :: l, h => by
    have h1 := sum_le l fun y hy => h y (List.mem_cons_of_mem _ hy)
    have h2 := h x List.mem_cons_self
    simp only [sumV, List.map_cons, List.sum_cons, List.length_cons] at h1 ⊢
    omega
theorem sum_take (l : List (Int × Nat)) (k : Nat) (x : Int × Nat) (h : l[k]? = some x) : sumV (l.take (k + 1)) = sumV (l.take k) + x.2 := by
  obtain ⟨hk, he⟩ := List.getElem?_eq_some_iff.1 h
  rw [List.take_succ_eq_append_getElem hk, he, sumV, sumV]
  simp
set_option maxHeartbeats 2000000 in
theorem sum_v (B : Nat) (A : Option Addr) (n c : Nat) (l : List (Int × Nat)) (w : World) (hr : CReads w B A n l) (hB : B ≤ w.heap.size) (hn : n ≤ 9223372036854775807) (hl : fitV l) :
    Calls Tryd.prog 73 #[.slice A n c] w fun e w' => e = .returned (.tuple #[.int .u64 ((sumV l / 18446744073709551616 : Nat) : Int), .int .u64 ((sumV l % 18446744073709551616 : Nat) : Int)]) ∧ Below w.heap.size w w' := by
  have HLEN := Lib.hid hr.len
  go_enter Tryd.func73, Tryd.ntmps73
  go_wp2
  go_loopw [2, 3, 10] (fun h lo i wr => ∃ (k : Nat), k ≤ n ∧ i = .int .i64 (k : Int) ∧ h = .int .u64 ((sumV (l.take k) / 18446744073709551616 : Nat) : Int) ∧ lo = .int .u64 ((sumV (l.take k) % 18446744073709551616 : Nat) : Int) ∧ Below w.heap.size w wr) (fun _ _ i _ => n - (intOf i).toNat)
  case atStart => exact ⟨0, Nat.zero_le _, rfl, by simp [sumV], by simp [sumV], Below.refl _ _⟩
  case round =>
    obtain ⟨k, hk, rfl, rfl, rfl, hb⟩ := hrel
    have HR := Lib.hid (Reads.below (show Reads w B 2 A n _ from hr) (hb.mono hB))
    by_cases hlt : k < n
    · obtain ⟨ad, x, he, had, hx, hc1, hc2⟩ := CReads.at_ HR.out hlt
      subst he
      have HF := Lib.hid (sum_take l k x hx)
      have hx64 : x.2 < 18446744073709551616 := hl x (List.mem_of_getElem? hx)
      have hsm : sumV (l.take k) ≤ k * 18446744073709551615 := by
        have := sum_le (l.take k) fun y hy => hl y (List.mem_of_mem_take hy)
        rwa [List.length_take, HLEN.out, Nat.min_eq_left hk] at this
      obtain ⟨s, hs⟩ : ∃ s, sumV (l.take k) = s := ⟨_, rfl⟩
      rw [hs] at HF hsm ⊢
      clear hs hx
      obtain ⟨h, hh⟩ : ∃ h, s / 18446744073709551616 = h := ⟨_, rfl⟩
      obtain ⟨lo, hlo⟩ : ∃ lo, s % 18446744073709551616 = lo := ⟨_, rfl⟩
      rw [hh, hlo]
      have hlo64 : lo < 18446744073709551616 := by omega
      have hh63 : h ≤ 9223372036854775807 := by omega
      have HH := Lib.hid hh
      have HLO := Lib.hid hlo
      clear hh hlo hsm
      have hadd := run_add lo x.2 (wr.alloc (.cells #[.int .i64 x.1, .int .u64 (x.2 : Int)] 49))
      have h1 : (lo + x.2) / 18446744073709551616 ≤ 1 := by omega
      have h2 : (lo + x.2) % 18446744073709551616 < 18446744073709551616 := by omega
      have HQ : Hid ((s + x.2) / 18446744073709551616 = h + (lo + x.2) / 18446744073709551616) := Lib.hid (by have := HH.out; have := HLO.out; omega)
      have HP : Hid ((s + x.2) % 18446744073709551616 = (lo + x.2) % 18446744073709551616) := Lib.hid (by have := HH.out; have := HLO.out; omega)
      generalize (lo + x.2) / 18446744073709551616 = q at *
      generalize (lo + x.2) % 18446744073709551616 = p at *
      have hbn : Below w.heap.size w (wr.alloc (.cells #[.int .i64 x.1, .int .u64 (x.2 : Int)] 49)) := hb.alloc hb.size _
      go_wp2
      go_roundw
      case rel => exact ⟨k + 1, hlt, by go_num, by rw [HF.out, HQ.out]; go_num, by rw [HF.out, HP.out], hbn⟩
      case measure => simp [intOf]; omega
    · obtain rfl : k = n := by omega
      have HF := Lib.hid (show l.take k = l by rw [List.take_of_length_le (by rw [HLEN.out]; exact Nat.le_refl _)])
      rw [HF.out]
      obtain ⟨q, hq⟩ : ∃ q, sumV l / 18446744073709551616 = q := ⟨_, rfl⟩
      obtain ⟨p, hp⟩ : ∃ p, sumV l % 18446744073709551616 = p := ⟨_, rfl⟩
      rw [hq, hp]
      have HQ := Lib.hid hq
      have HP := Lib.hid hp
      clear hq hp
      go_wp2
      go_ret2
      exact ⟨by rw [HQ.out, HP.out]; rfl, hb⟩
/-- By the first device at which two differ. -/
def firstD (f g : Int → Nat) : Nat → Int → Int
  | 0, _ => 0
  | k + 1, d => if f d = g d then firstD f g k (d + 1) else if g d < f d then 1 else -1
def ordF (s t : Nat) (f g : Int → Nat) : Int := if s < t then -1 else if t < s then 1 else firstD f g 16 1
def ordV (l1 l2 : List (Int × Nat)) : Int := if okV 0 l1 && okV 0 l2 then ordF (sumV l1) (sumV l2) (val l1) (val l2) else 0
set_option maxHeartbeats 4000000 in
theorem order_v (B : Nat) (A1 A2 : Option Addr) (n1 c1 n2 c2 : Nat) (l1 l2 : List (Int × Nat)) (w : World) (hr1 : CReads w B A1 n1 l1) (hr2 : CReads w B A2 n2 l2) (hB : B ≤ w.heap.size) (hn1 : n1 ≤ 9223372036854775807) (hn2 : n2 ≤ 9223372036854775807)
    (hf1 : fitV l1) (hf2 : fitV l2) :
    Calls Tryd.prog 68 #[.slice A1 n1 c1, .slice A2 n2 c2] w fun e w' => e = .returned (.int .i64 (ordV l1 l2)) ∧ Below w.heap.size w w' := by
  cases ho : okV 0 l1 && okV 0 l2
  · have HO := Lib.hid ho
    clear ho
    have HC := Lib.hid (show ordV l1 l2 = 0 by rw [ordV, HO.out]; rfl)
    go_enter Tryd.func68, Tryd.ntmps68
    go_wp2_with fail
    refine (both_v B A1 A2 n1 c1 n2 c2 l1 l2 w hr1 hr2 hB hn1 hn2).mono ?_
    rw [HO.out]
    rintro e w1 ⟨rfl, hb⟩
    go_wp2
    go_ret
    exact ⟨by rw [HC.out]; rfl, hb⟩
  · have HO := Lib.hid ho
    clear ho
    have HC := Lib.hid (show ordV l1 l2 = ordF (sumV l1) (sumV l2) (val l1) (val l2) by rw [ordV, HO.out]; rfl)
    go_enter Tryd.func68, Tryd.ntmps68
    go_wp2_with fail
    refine (both_v B A1 A2 n1 c1 n2 c2 l1 l2 w hr1 hr2 hB hn1 hn2).mono ?_
    rw [HO.out]
    rintro e w1 ⟨rfl, hb⟩
    have R1 := Lib.hid (Reads.below (show Reads w B 2 A1 n1 _ from hr1) (hb.mono hB))
    go_wp2_with fail
    refine (sum_v B A1 n1 c1 l1 w1 R1.out (Nat.le_trans hB hb.size) hn1 hf1).mono ?_
    obtain ⟨s, hs⟩ : ∃ s, sumV l1 = s := ⟨_, rfl⟩
    obtain ⟨t, ht⟩ : ∃ t, sumV l2 = t := ⟨_, rfl⟩
    rw [hs, ht] at HC
    rw [hs]
    obtain ⟨h, hh⟩ : ∃ h, s / 18446744073709551616 = h := ⟨_, rfl⟩
    obtain ⟨lo, hlo⟩ : ∃ lo, s % 18446744073709551616 = lo := ⟨_, rfl⟩
    obtain ⟨i, hi⟩ : ∃ i, t / 18446744073709551616 = i := ⟨_, rfl⟩
    obtain ⟨m, hm⟩ : ∃ m, t % 18446744073709551616 = m := ⟨_, rfl⟩
    rw [hh, hlo]
    rintro e w2 ⟨rfl, hb2⟩
    have hb3 := hb.trans (hb2.mono hb.size)
    have R2 := Lib.hid (Reads.below (show Reads w B 2 A2 n2 _ from hr2) (hb3.mono hB))
    have HT := Lib.hid ht
    have HI := Lib.hid hi
    have HM := Lib.hid hm
    have HH := Lib.hid hh
    have HLO := Lib.hid hlo
    have HCMP : Hid ((h < i → s < t) ∧ (i < h → t < s) ∧ (h = i → lo < m → s < t) ∧ (h = i → m < lo → t < s) ∧ (h = i → lo = m → s = t)) := Lib.hid (by omega)
    clear hs ht hh hlo hi hm hb hb2
    go_wp2_with fail
    refine (sum_v B A2 n2 c2 l2 w2 R2.out (Nat.le_trans hB hb3.size) hn2 hf2).mono ?_
    rw [HT.out, HI.out, HM.out]
    rintro e w4 ⟨rfl, hb4⟩
    have hb5 := hb3.trans (hb4.mono hb3.size)
    clear hb4 hb3
    by_cases b1 : h < i
    · have d1 : decide (h < i) = true := by simpa using b1
      have HF := Lib.hid (show ordV l1 l2 = -1 by rw [HC.out, ordF, if_pos (HCMP.out.1 b1)])
      go_wp2
      go_ret
      exact ⟨by rw [HF.out]; rfl, hb5⟩
    · have d1 : decide (h < i) = false := by simpa using b1
      by_cases b2 : i < h
      · have d2 : decide (i < h) = true := by simpa using b2
        have HF := Lib.hid (show ordV l1 l2 = 1 by have := HCMP.out.2.1 b2; rw [HC.out, ordF, if_neg (by omega), if_pos this])
        have hne : ((h : Int) == (i : Int)) = false := by rw [beq_eq_false_iff_ne]; omega
        go_wp2
        go_ret
        exact ⟨by rw [HF.out]; rfl, hb5⟩
      · obtain rfl : h = i := by omega
        clear b2
        by_cases b3 : lo < m
        · have d3 : decide (lo < m) = true := by simpa using b3
          have HF := Lib.hid (show ordV l1 l2 = -1 by rw [HC.out, ordF, if_pos (HCMP.out.2.2.1 rfl b3)])
          go_wp2
          go_ret
          exact ⟨by rw [HF.out]; rfl, hb5⟩
        · have d3 : decide (lo < m) = false := by simpa using b3
          by_cases b4 : m < lo
          · have d4 : decide (m < lo) = true := by simpa using b4
            have HF := Lib.hid (show ordV l1 l2 = 1 by have := HCMP.out.2.2.2.1 rfl b4; rw [HC.out, ordF, if_neg (by omega), if_pos this])
            go_wp2
            go_ret
            exact ⟨by rw [HF.out]; rfl, hb5⟩
          · obtain rfl : lo = m := by omega
            have HF := Lib.hid (show ordV l1 l2 = firstD (val l1) (val l2) 16 1 by have := HCMP.out.2.2.2.2 rfl rfl; rw [HC.out, ordF, if_neg (by omega), if_neg (by omega)])
            clear b4 b3 d3
            go_wp2_with fail
            go_loopw [9] (fun i wr => ∃ (k : Nat), k ≤ 16 ∧ i = .int .i64 ((k : Int) + 1) ∧ ordV l1 l2 = firstD (val l1) (val l2) (16 - k) ((k : Int) + 1) ∧ Below w.heap.size w wr) (fun i _ => 17 - (intOf i).toNat)
            case atStart => exact ⟨0, Nat.zero_le _, rfl, HF.out, hb5⟩
            case round =>
              obtain ⟨k, hk, rfl, ho, hbw⟩ := hrel
              have HO2 := Lib.hid ho
              clear ho
              have R3 := Lib.hid (Reads.below (show Reads w B 2 A1 n1 _ from hr1) (hbw.mono hB))
              have HBr : Hid (B ≤ wr.heap.size) := Lib.hid (Nat.le_trans hB hbw.size)
              by_cases hlt : k < 16
              · have HS := Lib.hid (show ordV l1 l2 = if val l1 ((k : Int) + 1) = val l2 ((k : Int) + 1) then firstD (val l1) (val l2) (16 - (k + 1)) ((k : Int) + 1 + 1) else if val l2 ((k : Int) + 1) < val l1 ((k : Int) + 1) then 1 else -1 by
                  rw [HO2.out, show 16 - k = (16 - (k + 1)) + 1 by omega]; rfl)
                go_wp2_with fail
                refine (val_v B A1 n1 c1 l1 ((k : Int) + 1) wr R3.out HBr.out hn1).mono ?_
                rintro e w6 ⟨rfl, hb6⟩
                have R4 := Lib.hid (Reads.below (show Reads w B 2 A2 n2 _ from hr2) ((hbw.trans (hb6.mono hbw.size)).mono hB))
                go_wp2_with fail
                refine (val_v B A2 n2 c2 l2 ((k : Int) + 1) w6 R4.out (Nat.le_trans HBr.out hb6.size) hn2).mono ?_
                rintro e w7 ⟨rfl, hb7⟩
                have hb8 : Below w.heap.size w w7 := hbw.trans ((btwo hb6 hb7).mono hbw.size)
                have v1 := fit_val l1 ((k : Int) + 1) hf1
                have v2 := fit_val l2 ((k : Int) + 1) hf2
                clear hb6 hb7
                generalize val l1 ((k : Int) + 1) = x at *
                generalize val l2 ((k : Int) + 1) = y at *
                by_cases he : x = y
                · have HG := Lib.hid (show ordV l1 l2 = firstD (val l1) (val l2) (16 - (k + 1)) (((k + 1 : Nat) : Int) + 1) by rw [HS.out, if_pos he]; rfl)
                  subst he
                  go_wp2
                  go_roundw
                  case rel => exact ⟨k + 1, hlt, by go_num, HG.out, hb8⟩
                  case measure => simp [intOf]; omega
                · have d0 : ((x : Int) == (y : Int)) = false := by rw [beq_eq_false_iff_ne]; omega
                  by_cases hl : y < x
                  · have d5 : decide (y < x) = true := by simpa using hl
                    have HG := Lib.hid (show ordV l1 l2 = 1 by rw [HS.out, if_neg he, if_pos hl])
                    clear he
                    go_wp2
                    go_ret
                    exact ⟨by rw [HG.out]; rfl, hb8⟩
                  · have d5 : decide (y < x) = false := by simpa using hl
                    have HG := Lib.hid (show ordV l1 l2 = -1 by rw [HS.out, if_neg he, if_neg hl])
                    clear he
                    go_wp2
                    go_ret
                    exact ⟨by rw [HG.out]; rfl, hb8⟩
              · obtain rfl : k = 16 := by omega
                have HG := Lib.hid (show ordV l1 l2 = 0 by rw [HO2.out]; rfl)
                go_wp2
                go_ret
                exact ⟨by rw [HG.out]; rfl, hbw⟩
end Go.Proofs.YtndekohimfjdeaaDoor
