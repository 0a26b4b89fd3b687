/-
  Vectors, the reference: Check, Value.
-/
import Derived.Test.YtndekohimfjdeaaDoorVecO
import Derived.Deep.QuietTactic
import Derived.Deep.Cut
import Derived.Handy
namespace Go.Proofs.YtndekohimfjdeaaDoor
open Go.RowKit
theorem okV_drop {l : List (Int × Nat)} {k : Nat} {la : Int} {x : Int × Nat} (h : okV 0 l = okV la (l.drop k)) (hx : l[k]? = some x) : okV 0 l = if x.1 ≤ la ∨ 16 < x.1 ∨ x.2 = 0 then false else okV x.1 (l.drop (k + 1)) := by
  obtain ⟨hk2, he⟩ := List.getElem?_eq_some_iff.1 hx
  rw [h, List.drop_eq_getElem_cons hk2, he, okV_cons]
set_option maxRecDepth 100000 in
set_option maxHeartbeats 4000000 in
theorem rcheck_v (B : Nat) (A : Option Addr) (n c : Nat) (l : List (Int × Nat)) (w : World) (hr : CReads w B A n l) (hB : B ≤ w.heap.size) (hn : n ≤ 9223372036854775807) :
    Calls Tryd.prog 29 #[.slice A n c] w fun e w' => e = .returned (.int .i64 (if okV 0 l then 0 else 2)) ∧ Below w.heap.size w w' := by
  have HLEN := Lib.hid hr.len
  have HRR := Lib.hid hr
  clear hr
  generalize hres : (if okV 0 l = true then (0 : Int) else 2) = res
  have HRES := Lib.hid hres
  clear hres
  go_enter Tryd.func29, Tryd.ntmps29
  go_wp2_with fail
  go_loopw [3] (fun i wr => ∃ (k : Nat) (la : Int), k ≤ n ∧ i = .int .i64 (k : Int) ∧ okV 0 l = okV la (l.drop k) ∧ (k = 0 → la = 0) ∧ (∀ k', k = k' + 1 → ∃ y : Int × Nat, l[k']? = some y ∧ y.1 = la ∧ 1 ≤ la) ∧ Below w.heap.size w wr) (fun i _ => n - (intOf i).toNat)
  case atStart => exact ⟨0, 0, Nat.zero_le _, rfl, by simp, fun _ => rfl, fun k' h => by omega, Below.refl _ _⟩
  case round =>
    obtain ⟨k, la, hk, rfl, ho, hl0, hl1, hb⟩ := hrel
    have HO := Lib.hid ho
    have HL0 := Lib.hid hl0
    have HL1 := Lib.hid hl1
    have HB := Lib.hid hb
    clear ho hl0 hl1 hb
    have HR := Lib.hid (Reads.below (show Reads w B 2 A n _ from HRR.out) (HB.out.mono hB))
    by_cases hlt : k < n
    · obtain ⟨ad, x, he, had, hx, hc1, hc2⟩ := CReads.at_ HR.out hlt
      subst he
      have HX := Lib.hid hx
      have HC := Lib.hid (okV_drop HO.out hx)
      have k0 : (0 : Int) ≤ (k : Int) := by omega
      have d0 : decide (k < n) = true := by simpa using hlt
      clear hx
      by_cases b1 : x.1 < 1
      · have d1 : decide (x.1 < 1) = true := by simpa using b1
        have HF := Lib.hid (show okV 0 l = false by
          have h0 : x.1 ≤ la := by
            rcases Nat.eq_zero_or_pos k with h | h
            · rw [HL0.out h]; omega
            · obtain ⟨y, _, _, h3⟩ := HL1.out (k - 1) (by omega); omega
          rw [HC.out, if_pos (.inl h0)])
        clear b1
        go_upto_region 4 with fail
        go_quiet (fail)
        go_wp2_with fail
        go_ret
        exact ⟨by rw [← HRES.out, HF.out]; rfl, below_drewN HB.out _⟩
      · have d1 : decide (x.1 < 1) = false := by simpa using b1
        by_cases b2 : 16 < x.1
        · have d2 : decide (16 < x.1) = true := by simpa using b2
          have HF := Lib.hid (show okV 0 l = false by rw [HC.out, if_pos (.inr (.inl b2))])
          clear b1 b2
          go_upto_region 4 with fail
          go_quiet (fail)
          go_wp2_with fail
          go_ret
          exact ⟨by rw [← HRES.out, HF.out]; rfl, below_drewN HB.out _⟩
        · have d2 : decide (16 < x.1) = false := by simpa using b2
          by_cases b3 : x.2 = 0
          · have d3 : ((x.2 : Int) == 0) = true := by rw [beq_iff_eq]; omega
            have HF := Lib.hid (show okV 0 l = false by rw [HC.out, if_pos (.inr (.inr b3))])
            clear b1 b2 b3
            go_upto_region 4 with fail
            go_quiet (fail)
            go_wp2_with fail
            go_ret
            exact ⟨by rw [← HRES.out, HF.out]; rfl, below_drewN HB.out _⟩
          · have d3 : ((x.2 : Int) == 0) = false := by rw [beq_eq_false_iff_ne]; omega
            by_cases hk0 : 0 < k
            · obtain ⟨y, hy1, hy2, hy3⟩ := HL1.out (k - 1) (by omega)
              obtain ⟨k', hk'⟩ : ∃ k', k - 1 = k' := ⟨_, rfl⟩
              rw [hk'] at hy1
              have d4 : decide (0 < k) = true := by simpa using hk0
              have d4' : decide ((0 : Int) < (k : Int)) = true := by simpa using hk0
              have d7 : IntKind.i64.wrap ((k : Int) - 1) = (k' : Int) := by rw [IntWalk.i64_in _ ⟨by omega, by omega⟩]; omega
              have d7' : (k : Int) - 1 = (k' : Int) := by omega
              have d9 : (0 : Int) ≤ (k' : Int) := by omega
              have d10 : k' < n := by omega
              obtain ⟨ad', y', he', _, hy', hc3, _⟩ := CReads.at_ HR.out d10
              obtain rfl := Option.some.inj he'
              rw [hy1] at hy'
              obtain rfl := Option.some.inj hy'
              have HY2 := Lib.hid hy2
              clear hy1 hy2 hy3 hk' he'
              by_cases b4 : x.1 ≤ y.1
              · have d5 : decide (x.1 ≤ y.1) = true := by simpa using b4
                have HF := Lib.hid (show okV 0 l = false by rw [HC.out, if_pos (.inl (by rw [← HY2.out]; exact b4))])
                clear b1 b2 b3 b4 hk0
                go_upto_region 4 with fail
                go_quiet (fail)
                go_wp2_with fail
                go_ret
                exact ⟨by rw [← HRES.out, HF.out]; rfl, below_drewN HB.out _⟩
              · have d5 : decide (x.1 ≤ y.1) = false := by simpa using b4
                have HF := Lib.hid (show okV 0 l = okV x.1 (l.drop (k + 1)) by rw [HC.out, if_neg (by have := HY2.out; omega)])
                have HX1 := Lib.hid (show 1 ≤ x.1 by omega)
                clear b1 b2 b3 b4 hk0
                go_upto_region 4 with fail
                go_quiet (fail)
                go_wp2_with fail
                go_roundw
                case rel => exact ⟨k + 1, x.1, hlt, by go_num, HF.out, fun h => by omega, fun k2 h => ⟨x, by rw [show k2 = k by omega]; exact HX.out, rfl, HX1.out⟩, below_drewN HB.out _⟩
                case measure => simp [intOf]; omega
            · have d4 : decide (0 < k) = false := by simpa using hk0
              have d4' : decide ((0 : Int) < (k : Int)) = false := by simpa using hk0
              have HF := Lib.hid (show okV 0 l = okV x.1 (l.drop (k + 1)) by rw [HC.out, if_neg (by have := HL0.out (by omega); omega)])
              have HX1 := Lib.hid (show 1 ≤ x.1 by omega)
              clear b1 b2 b3 hk0
              go_upto_region 4 with fail
              go_quiet (fail)
              go_wp2_with fail
              go_roundw
              case rel => exact ⟨k + 1, x.1, hlt, by go_num, HF.out, fun h => by omega, fun k2 h => ⟨x, by rw [show k2 = k by omega]; exact HX.out, rfl, HX1.out⟩, below_drewN HB.out _⟩
              case measure => simp [intOf]; omega
    · obtain rfl : k = n := by omega
      have HF := Lib.hid (show okV 0 l = true by rw [HO.out, List.drop_of_length_le (by rw [HLEN.out]; exact Nat.le_refl _)]; rfl)
      go_wp2
      go_ret
      exact ⟨by rw [← HRES.out, HF.out]; rfl, HB.out⟩
set_option maxHeartbeats 1000000 in
theorem rvalue_v (B : Nat) (A : Option Addr) (n c : Nat) (l : List (Int × Nat)) (d : Int) (w : World) (hr : CReads w B A n l) (hB : B ≤ w.heap.size) (hn : n ≤ 9223372036854775807) :
    Calls Tryd.prog 31 #[.slice A n c, .int .i64 d] w fun e w' => e = .returned (.int .u64 (val l d : Int)) ∧ w = w' := by
  have HLEN := Lib.hid hr.len
  go_enter Tryd.func31, Tryd.ntmps31
  go_wp2
  go_loop [5] (fun i => ∃ (k : Nat), k ≤ n ∧ i = .int .i64 (k : Int) ∧ val l d = val (l.drop k) d) (fun i => n - (intOf i).toNat)
  case atStart => exact ⟨0, Nat.zero_le _, rfl, by simp⟩
  case round =>
    obtain ⟨k, hk, rfl, ho⟩ := hrel
    have HO := Lib.hid ho
    clear ho
    by_cases hlt : k < n
    · obtain ⟨ad, x, he, had, hx, hc1, hc2⟩ := CReads.at_ hr hlt
      subst he
      have HX := Lib.hid hx
      clear hx
      have HD := Lib.hid (show l.drop k = x :: l.drop (k + 1) by obtain ⟨hk2, he⟩ := List.getElem?_eq_some_iff.1 HX.out; rw [List.drop_eq_getElem_cons hk2, he])
      by_cases b1 : x.1 = d
      · have d1 : (x.1 == d) = true := by simpa using b1
        have HF := Lib.hid (show val l d = x.2 by rw [HO.out, HD.out, val_cons, if_pos b1])
        clear b1
        go_wp2
        go_ret
        exact ⟨by rw [HF.out]; rfl, rfl⟩
      · have d1 : (x.1 == d) = false := by simpa using b1
        have HF := Lib.hid (show val l d = val (l.drop (k + 1)) d by rw [HO.out, HD.out, val_cons, if_neg b1])
        clear b1
        go_wp2
        go_round
        case rel => exact ⟨k + 1, hlt, by go_num, HF.out⟩
        case measure => simp [intOf]; omega
    · obtain rfl : k = n := by omega
      have HF := Lib.hid (show val l d = 0 by rw [HO.out, List.drop_of_length_le (by rw [HLEN.out]; exact Nat.le_refl _)]; rfl)
      go_wp2
      go_ret
      exact ⟨by rw [HF.out]; rfl, rfl⟩
end Go.Proofs.YtndekohimfjdeaaDoor
