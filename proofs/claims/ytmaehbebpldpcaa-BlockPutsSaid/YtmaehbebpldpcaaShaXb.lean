/-
  Digests: the reference's Pad.
-/
import Derived.Test.YtmaehbebpldpcaaShaJ
namespace Go.Proofs.Ytmaehbebpldpcaa
open Go.RowKit
set_option maxHeartbeats 4000000 in
theorem rpad_v (z : Int) (w : World) (h0 : -9223372036854775808 ≤ z) (hz : z ≤ 2199023255552) :
    Calls Try.prog 52 #[.int .i64 z] w fun e w' => ∃ A c, e = .returned (.slice A (padL z.toNat).length c) ∧ BOwn w' w.heap.size A (padL z.toNat).length c (toB (padL z.toNat)) ∧ Below w.heap.size w w' := by
  obtain ⟨n, hn⟩ : ∃ n, z.toNat = n := ⟨_, rfl⟩
  have hmx : max 0 z = (n : Int) := by omega
  have hmx2 : max z 0 = (n : Int) := by omega
  have hnb : n ≤ 2199023255552 := by omega
  rw [hn]
  by_cases h1 : z ≤ 0
  · obtain rfl : n = 0 := by omega
    clear hn h0 hz hmx hmx2
    have HZ := Lib.hid (show (0 + (zerosN 0 + 1)) % 64 = 56 by unfold zerosN; omega)
    have HZ2 := Lib.hid (show ∀ m, 1 ≤ m → m ≤ zerosN 0 → (0 + m) % 64 ≠ 56 by unfold zerosN; omega)
    have HZ3 : zerosN 0 ≤ 63 := by unfold zerosN; omega
    go_enter Try.func52, Try.ntmps52
    go_wp2
    have B0 := Lib.hid (BOwn.start w 128)
    go_loopw [3] (fun o wr => ∃ (m : Nat) (A : Option Addr) (c : Nat), 1 ≤ m ∧ m ≤ zerosN 0 + 1 ∧ o = .slice A m c ∧ BOwn wr w.heap.size A m c (128 :: List.replicate (m - 1) 0) ∧ Below w.heap.size w wr) (fun o _ => 100 - sliceLen o)
    case atStart => exact ⟨1, _, _, Nat.le_refl _, Nat.le_add_left _ _, rfl, B0.out, (Below.refl _ _).alloc (Nat.le_refl _) _⟩
    case round =>
      clear B0
      obtain ⟨m, A, c, hm1, hm2, rfl, ho, hb⟩ := hrel
      by_cases hlt : m ≤ zerosN 0
      · have d1 : (((m : Int) + 8) % 64 != 0) = true := by have := HZ2.out m hm1 hlt; rw [bne_iff_ne]; omega
        have HL := Lib.hid (show (128 : UInt8) :: List.replicate (m - 1) 0 ++ [0] = 128 :: List.replicate (m + 1 - 1) 0 by rw [show m + 1 - 1 = m - 1 + 1 by omega, List.replicate_succ', List.cons_append])
        go_wp2_with (at_builtin; refine wpList_app rfl (.tmp 16) (.tmp 17) rfl w.heap.size A m c _ rfl (ho.alloc _) (wr.heap.size + 1) (some ⟨wr.heap.size, 0, none⟩) 1 1 [0] rfl (BReads.one _ _ _ rfl) (m + 1) _ rfl HL.out (by omega) (by simp; exact Nat.le_succ_of_le hb.size) ?_; intro A1 c1 w1 ho1 hg1 _)
        go_roundw
        case rel => exact ⟨m + 1, A1, c1, by omega, by omega, rfl, ho1, below_app (hb.alloc hb.size _) hg1 (ho.alloc _) (Nat.le_refl _) (by simp; exact Nat.le_succ_of_le hb.size)⟩
        case measure => simp [sliceLen]; omega
      · obtain rfl : m = zerosN 0 + 1 := by omega
        obtain ⟨m, hm⟩ : ∃ m, zerosN 0 + 1 = m := ⟨_, rfl⟩
        have hmb : m ≤ 64 := by omega
        have HB := Lib.hid (show toB (padL 0) = (128 :: List.replicate (m - 1) 0) ++ toB ((tailL 0).take 8) by rw [padL_eq, ← hm, show (tailL 0).take 8 = tailL 0 from rfl, toB, toB, List.map_cons, List.map_append, List.map_replicate]; rfl)
        have HLN := Lib.hid (show (padL 0).length = m + 8 by rw [pad_len]; omega)
        have HZ4 := HZ.out
        rw [hm] at ho HZ4
        have d1 : (((m : Int) + 8) % 64 != 0) = false := by rw [bne_eq_false_iff_eq]; omega
        have HO := Lib.hid (show BOwn wr w.heap.size A m c (128 :: List.replicate (m - 1) 0 ++ toB ((tailL 0).take 0)) by simpa [toB] using ho)
        rw [hm]
        clear hm ho hlt hm1 hm2 HZ4
        have q0 : (0 : Int) ≤ 0 * 8 ∧ 0 * 8 < 18446744073709551616 := by omega
        obtain ⟨q0, q1⟩ := q0
        go_wp2
        obtain ⟨wo, rfl⟩ : ∃ wo : World, wo = wr := ⟨_, rfl⟩
        go_loopw [3, 5] (fun o i wq => ∃ (k : Nat) (A : Option Addr) (c : Nat), k ≤ 8 ∧ i = .int .i64 (56 - 8 * (k : Int)) ∧ o = .slice A (m + k) c ∧ BOwn wq w.heap.size A (m + k) c (128 :: List.replicate (m - 1) 0 ++ toB ((tailL 0).take k)) ∧ Below w.heap.size w wq) (fun _ i _ => (intOf i + 8).toNat)
        case atStart => exact ⟨0, A, c, Nat.zero_le _, rfl, rfl, HO.out, hb⟩
        case round =>
          clear HO hb
          obtain ⟨k, A, c, hk, rfl, rfl, ho, hb⟩ := hrel
          by_cases hlt : k < 8
          · obtain ⟨x, hx, hxe, hxt⟩ := tail_take 0 k hlt
            have HT := Lib.hid (show 128 :: List.replicate (m - 1) 0 ++ toB ((tailL 0).take k) ++ [UInt8.ofNat x] = 128 :: List.replicate (m - 1) 0 ++ toB ((tailL 0).take (k + 1)) by rw [hxt, List.append_assoc])
            have HO := Lib.hid ho
            have HX := Lib.hid hxe
            clear ho hxe hxt
            rcases (show k = 0 ∨ k = 1 ∨ k = 2 ∨ k = 3 ∨ k = 4 ∨ k = 5 ∨ k = 6 ∨ k = 7 by omega) with rfl | rfl | rfl | rfl | rfl | rfl | rfl | rfl
            all_goals
              have hxv := Option.some.inj (show some _ = some x from HX.out)
              have HXV := Lib.hid hxv
              clear hxv
              first | rw [show (56 : Int) - 8 * ((0 : Nat) : Int) = 56 from rfl] | rw [show (56 : Int) - 8 * ((1 : Nat) : Int) = 48 from rfl] | rw [show (56 : Int) - 8 * ((2 : Nat) : Int) = 40 from rfl] | rw [show (56 : Int) - 8 * ((3 : Nat) : Int) = 32 from rfl] | rw [show (56 : Int) - 8 * ((4 : Nat) : Int) = 24 from rfl] | rw [show (56 : Int) - 8 * ((5 : Nat) : Int) = 16 from rfl] | rw [show (56 : Int) - 8 * ((6 : Nat) : Int) = 8 from rfl] | rw [show (56 : Int) - 8 * ((7 : Nat) : Int) = 0 from rfl]
              go_wp2_with (at_builtin; refine wpList_app rfl (.tmp 26) (.tmp 32) rfl w.heap.size A _ c _ rfl (HO.out.alloc _) (wr.heap.size + 1) (some ⟨wr.heap.size, 0, none⟩) 1 1 [UInt8.ofNat x] rfl (BReads.one _ _ _ (by have := HXV.out; simp [Nat.mod_eq_of_lt hx]; omega)) _ _ rfl HT.out (by omega) (by simp; exact Nat.le_succ_of_le hb.size) ?_; intro A1 c1 w1 ho1 hg1 _)
              go_roundw
              case rel => exact ⟨_, A1, c1, hlt, rfl, rfl, ho1, below_app (hb.alloc hb.size _) hg1 (HO.out.alloc _) (Nat.le_refl _) (by simp; exact Nat.le_succ_of_le hb.size)⟩
              case measure => simp [intOf]
          · obtain rfl : k = 8 := by omega
            have HO := Lib.hid ho
            clear ho
            rw [show (56 : Int) - 8 * ((8 : Nat) : Int) = -8 from rfl]
            go_wp2
            go_ret
            exact ⟨A, c, by rw [HLN.out]; rfl, by rw [HLN.out, HB.out]; exact HO.out, hb⟩
  · obtain rfl : z = (n : Int) := by omega
    clear hn h0 hz hmx hmx2
    have HZ := Lib.hid (show (n + (zerosN n + 1)) % 64 = 56 by unfold zerosN; omega)
    have HZ2 := Lib.hid (show ∀ m, 1 ≤ m → m ≤ zerosN n → (n + m) % 64 ≠ 56 by unfold zerosN; omega)
    have HZ3 : zerosN n ≤ 63 := by unfold zerosN; omega
    go_enter Try.func52, Try.ntmps52
    go_wp2
    have B0 := Lib.hid (BOwn.start w 128)
    go_loopw [3] (fun o wr => ∃ (m : Nat) (A : Option Addr) (c : Nat), 1 ≤ m ∧ m ≤ zerosN n + 1 ∧ o = .slice A m c ∧ BOwn wr w.heap.size A m c (128 :: List.replicate (m - 1) 0) ∧ Below w.heap.size w wr) (fun o _ => 100 - sliceLen o)
    case atStart => exact ⟨1, _, _, Nat.le_refl _, Nat.le_add_left _ _, rfl, B0.out, (Below.refl _ _).alloc (Nat.le_refl _) _⟩
    case round =>
      clear B0
      obtain ⟨m, A, c, hm1, hm2, rfl, ho, hb⟩ := hrel
      by_cases hlt : m ≤ zerosN n
      · have d1 : (((n : Int) + (m : Int) + 8) % 64 != 0) = true := by have := HZ2.out m hm1 hlt; rw [bne_iff_ne]; omega
        have HL := Lib.hid (show (128 : UInt8) :: List.replicate (m - 1) 0 ++ [0] = 128 :: List.replicate (m + 1 - 1) 0 by rw [show m + 1 - 1 = m - 1 + 1 by omega, List.replicate_succ', List.cons_append])
        go_wp2_with (at_builtin; refine wpList_app rfl (.tmp 16) (.tmp 17) rfl w.heap.size A m c _ rfl (ho.alloc _) (wr.heap.size + 1) (some ⟨wr.heap.size, 0, none⟩) 1 1 [0] rfl (BReads.one _ _ _ rfl) (m + 1) _ rfl HL.out (by omega) (by simp; exact Nat.le_succ_of_le hb.size) ?_; intro A1 c1 w1 ho1 hg1 _)
        go_roundw
        case rel => exact ⟨m + 1, A1, c1, by omega, by omega, rfl, ho1, below_app (hb.alloc hb.size _) hg1 (ho.alloc _) (Nat.le_refl _) (by simp; exact Nat.le_succ_of_le hb.size)⟩
        case measure => simp [sliceLen]; omega
      · obtain rfl : m = zerosN n + 1 := by omega
        obtain ⟨m, hm⟩ : ∃ m, zerosN n + 1 = m := ⟨_, rfl⟩
        have hmb : m ≤ 64 := by omega
        have HB := Lib.hid (show toB (padL n) = (128 :: List.replicate (m - 1) 0) ++ toB ((tailL n).take 8) by rw [padL_eq, ← hm, show (tailL n).take 8 = tailL n from rfl, toB, toB, List.map_cons, List.map_append, List.map_replicate]; rfl)
        have HLN := Lib.hid (show (padL n).length = m + 8 by rw [pad_len]; omega)
        have HZ4 := HZ.out
        rw [hm] at ho HZ4
        have d1 : (((n : Int) + (m : Int) + 8) % 64 != 0) = false := by rw [bne_eq_false_iff_eq]; omega
        have HO := Lib.hid (show BOwn wr w.heap.size A m c (128 :: List.replicate (m - 1) 0 ++ toB ((tailL n).take 0)) by simpa [toB] using ho)
        rw [hm]
        clear hm ho hlt hm1 hm2 HZ4
        have q0 : (0 : Int) ≤ (n : Int) * 8 ∧ (n : Int) * 8 < 18446744073709551616 := by omega
        obtain ⟨q0, q1⟩ := q0
        go_wp2
        obtain ⟨wo, rfl⟩ : ∃ wo : World, wo = wr := ⟨_, rfl⟩
        go_loopw [3, 5] (fun o i wq => ∃ (k : Nat) (A : Option Addr) (c : Nat), k ≤ 8 ∧ i = .int .i64 (56 - 8 * (k : Int)) ∧ o = .slice A (m + k) c ∧ BOwn wq w.heap.size A (m + k) c (128 :: List.replicate (m - 1) 0 ++ toB ((tailL n).take k)) ∧ Below w.heap.size w wq) (fun _ i _ => (intOf i + 8).toNat)
        case atStart => exact ⟨0, A, c, Nat.zero_le _, rfl, rfl, HO.out, hb⟩
        case round =>
          clear HO hb
          obtain ⟨k, A, c, hk, rfl, rfl, ho, hb⟩ := hrel
          by_cases hlt : k < 8
          · obtain ⟨x, hx, hxe, hxt⟩ := tail_take n k hlt
            have HT := Lib.hid (show 128 :: List.replicate (m - 1) 0 ++ toB ((tailL n).take k) ++ [UInt8.ofNat x] = 128 :: List.replicate (m - 1) 0 ++ toB ((tailL n).take (k + 1)) by rw [hxt, List.append_assoc])
            have HO := Lib.hid ho
            have HX := Lib.hid hxe
            clear ho hxe hxt
            rcases (show k = 0 ∨ k = 1 ∨ k = 2 ∨ k = 3 ∨ k = 4 ∨ k = 5 ∨ k = 6 ∨ k = 7 by omega) with rfl | rfl | rfl | rfl | rfl | rfl | rfl | rfl
            all_goals
              have hxv := Option.some.inj (show some _ = some x from HX.out)
              have HXV := Lib.hid hxv
              clear hxv
              first | rw [show (56 : Int) - 8 * ((0 : Nat) : Int) = 56 from rfl] | rw [show (56 : Int) - 8 * ((1 : Nat) : Int) = 48 from rfl] | rw [show (56 : Int) - 8 * ((2 : Nat) : Int) = 40 from rfl] | rw [show (56 : Int) - 8 * ((3 : Nat) : Int) = 32 from rfl] | rw [show (56 : Int) - 8 * ((4 : Nat) : Int) = 24 from rfl] | rw [show (56 : Int) - 8 * ((5 : Nat) : Int) = 16 from rfl] | rw [show (56 : Int) - 8 * ((6 : Nat) : Int) = 8 from rfl] | rw [show (56 : Int) - 8 * ((7 : Nat) : Int) = 0 from rfl]
              go_wp2_with (at_builtin; refine wpList_app rfl (.tmp 26) (.tmp 32) rfl w.heap.size A _ c _ rfl (HO.out.alloc _) (wr.heap.size + 1) (some ⟨wr.heap.size, 0, none⟩) 1 1 [UInt8.ofNat x] rfl (BReads.one _ _ _ (by have := HXV.out; simp [Nat.mod_eq_of_lt hx]; omega)) _ _ rfl HT.out (by omega) (by simp; exact Nat.le_succ_of_le hb.size) ?_; intro A1 c1 w1 ho1 hg1 _)
              go_roundw
              case rel => exact ⟨_, A1, c1, hlt, rfl, rfl, ho1, below_app (hb.alloc hb.size _) hg1 (HO.out.alloc _) (Nat.le_refl _) (by simp; exact Nat.le_succ_of_le hb.size)⟩
              case measure => simp [intOf]
          · obtain rfl : k = 8 := by omega
            have HO := Lib.hid ho
            clear ho
            rw [show (56 : Int) - 8 * ((8 : Nat) : Int) = -8 from rfl]
            go_wp2
            go_ret
            exact ⟨A, c, by rw [HLN.out]; rfl, by rw [HLN.out, HB.out]; exact HO.out, hb⟩
end Go.Proofs.Ytmaehbebpldpcaa
