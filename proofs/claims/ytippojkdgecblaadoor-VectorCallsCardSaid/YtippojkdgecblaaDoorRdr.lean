/-
  The walks of wire's reader.
-/
import Derived.Test.YtippojkdgecblaaDoorRdrM
import Derived.Test.YtippojkdgecblaaDoorBytes
namespace Go.Proofs.YtippojkdgecblaaDoor
open Go.RowKit
/-- The loop's relation. -/
def NbRel (l : List UInt8) (n : Nat) (x i : Value) : Prop := ∃ k xk : Nat, k ≤ n ∧ i = .int .i64 (k : Int) ∧ x = .int .u64 (xk : Int) ∧ xk < 18446744073709551616 ∧ numL 0 0 l = numL xk k (l.drop k)
theorem ret3i {k1 k2 k3 : IntKind} {a a' b b' c c' : Int} (h1 : a = a') (h2 : b = b') (h3 : c = c') : Ending.returned (.tuple #[.int k1 a, .int k2 b, .int k3 c]) = .returned (.tuple #[.int k1 a', .int k2 b', .int k3 c']) := by rw [h1, h2, h3]
set_option maxHeartbeats 2000000 in
theorem numb_any (B : Nat) (A : Option Addr) (n c : Nat) (l : List UInt8) (w : World) (hr : BReads w B A n l) (hn : n ≤ 140737488355328) :
    Calls Tryd.prog 70 #[.slice A n c] w fun e w' => e = .returned (.tuple #[.int .u64 ((numR l).1 : Int), .int .i64 ((numR l).2.1 : Int), .int .i64 (numR l).2.2]) ∧ w = w' := by
  have HL := Lib.hid hr.len
  rcases l with _ | ⟨b0, r⟩
  · obtain rfl : n = 0 := HL.out.symm
    go_enter Tryd.func70, Tryd.ntmps70
    go_wp2
    go_loop [2, 18] (fun x i => x = .int .u64 0 ∧ i = .int .i64 0) (fun _ _ => 0)
    case atStart => exact ⟨rfl, rfl⟩
    case round =>
      obtain ⟨rfl, rfl⟩ := hrel
      go_wp2
      go_ret3
      exact ⟨rfl, rfl⟩
  · have hn0 : 0 < n := by have := HL.out; simp at this; omega
    obtain ⟨ad, cb, rfl, _, hc0, hcb, _, hcb2⟩ := hr.at_ hn0
    rw [add_zero] at hc0
    have hcb0 : b0 = cb := by have := hcb.out; simpa using this
    subst hcb0
    have i0 : (0 : Int) < n := by omega
    by_cases h8 : b0 = 128
    · subst h8
      rw [numR_128]
      have hb : (((128 : UInt8).toNat : Int) == 128) = true := by decide
      go_enter Tryd.func70, Tryd.ntmps70
      go_wp2
      go_ret3
      exact ⟨rfl, rfl⟩
    · have hb : ((b0.toNat : Int) == 128) = false := by
        rw [beq_eq_false_iff_ne]
        intro h
        apply h8
        apply UInt8.toNat_inj.1
        show b0.toNat = 128
        omega
      have hR : numR (b0 :: r) = numL 0 0 (b0 :: r) := numR_no _ (by simpa using h8)
      rw [hR]
      have HR := Lib.hid hr
      generalize hle : b0 :: r = l at *
      clear hr hcb hR h8
      go_enter Tryd.func70, Tryd.ntmps70
      go_wp2
      go_loop [2, 18] (fun x i => NbRel l n x i) (fun _ i => n - (intOf i).toNat)
      case atStart => exact ⟨0, 0, Nat.zero_le _, rfl, rfl, by omega, by simp⟩
      case round =>
        obtain ⟨k, xk, hk, rfl, rfl, hx, hnl⟩ := hrel
        have HN := Lib.hid hnl; clear hnl
        by_cases hlt : k < n
        · obtain ⟨ad', ck, he, _, hc, hck, _, hck2⟩ := HR.out.at_ hlt
          injection he with he; subst he
          have hd : l.drop k = ck :: l.drop (k + 1) := by
            have hkl : k < l.length := by rw [HL.out]; exact hlt
            rw [List.drop_eq_getElem_cons hkl]
            have := hck.out
            rw [List.getElem?_eq_getElem hkl] at this
            injection this with this
            rw [this]
          have HD := Lib.hid hd; clear hd
          clear hcb2 hc0
          by_cases hbig : 144115188075855872 ≤ xk
          · have hb1 : ((xk : Int) / 144115188075855872 != 0) = true := by rw [bne_iff_ne]; omega
            have HF := Lib.hid (show numL 0 0 l = (0, 0, 4) by rw [HN.out, numL_big _ _ _ hbig])
            go_wp2
            go_ret3
            exact ⟨by rw [HF.out]; rfl, rfl⟩
          · have hb1 : ((xk : Int) / 144115188075855872 != 0) = false := by rw [bne_eq_false_iff_eq]; omega
            have e1 := and127 ck
            have e2 := or7 xk (ck.toNat % 128) (by omega) (by omega)
            rw [show (((ck.toNat % 128 : Nat)) : Int) = (ck.toNat : Int) % 128 by omega] at e1 e2
            by_cases h128 : ck.toNat < 128
            · have hb2 : decide ((ck.toNat : Int) < 128) = true := by simp; omega
              have HF := Lib.hid (show numL 0 0 l = (xk * 128 + ck.toNat % 128, k + 1, 0) by rw [HN.out, HD.out, numL_last _ _ _ _ (by omega) h128])
              go_wp2
              go_ret3
              exact ⟨by rw [HF.out]; exact ret3i (by simp) (by simp) rfl, rfl⟩
            · have hb2 : decide ((ck.toNat : Int) < 128) = false := by simp; omega
              have HF := Lib.hid (show numL 0 0 l = numL (xk * 128 + ck.toNat % 128) (k + 1) (l.drop (k + 1)) by rw [HN.out, HD.out, numL_more _ _ _ _ (by omega) (by omega)])
              go_wp2
              go_round
              case rel => exact ⟨k + 1, xk * 128 + ck.toNat % 128, by omega, by go_num, by go_num, by omega, HF.out⟩
              case measure => simp [intOf]; omega
        · obtain rfl : k = n := by omega
          have hd : l.drop k = [] := List.drop_eq_nil_of_le (by rw [HL.out]; exact Nat.le_refl _)
          have HF := Lib.hid (show numL 0 0 l = if 144115188075855872 ≤ xk then (0, 0, 4) else (0, 0, 5) by rw [HN.out, hd, numL_end])
          clear hd
          by_cases hbig : 144115188075855872 ≤ xk
          · have hb1 : ((xk : Int) / 144115188075855872 != 0) = true := by rw [bne_iff_ne]; omega
            go_wp2
            go_ret3
            exact ⟨by rw [HF.out, if_pos hbig]; rfl, rfl⟩
          · have hb1 : ((xk : Int) / 144115188075855872 != 0) = false := by rw [bne_eq_false_iff_eq]; omega
            go_wp2
            go_ret3
            exact ⟨by rw [HF.out, if_neg hbig]; rfl, rfl⟩
end Go.Proofs.YtippojkdgecblaaDoor
