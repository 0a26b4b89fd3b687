/-
  Digests: what stands behind the bytes.
-/
import Derived.Test.YtmaehbebpldpcaaShaM
import Derived.Test.YtmaehbebpldpcaaConcat
import Derived.IntWalk
namespace Go.Proofs.Ytmaehbebpldpcaa
open Go.RowKit
def zerosN (n : Nat) : Nat := (119 - n % 64) % 64
def tailL (n : Nat) : List Nat := [n*8/72057594037927936%256, n*8/281474976710656%256, n*8/1099511627776%256, n*8/4294967296%256, n*8/16777216%256, n*8/65536%256, n*8/256%256, n*8%256]
theorem padL_eq (n : Nat) : padL n = 128 :: (List.replicate (zerosN n) 0 ++ tailL n) := rfl
def toB (l : List Nat) : List UInt8 := l.map UInt8.ofNat
theorem toB_back {l : List Nat} (h : ∀ x ∈ l, x < 256) : (toB l).map UInt8.toNat = l := by
  rw [toB, List.map_map]
  refine (List.map_congr_left (g := id) fun x hx => ?_).trans (List.map_id l)
  simp [Nat.mod_eq_of_lt (h x hx)]
theorem tail_lt (n : Nat) : ∀ x ∈ tailL n, x < 256 := by
  intro x hx
  simp only [tailL, List.mem_cons, List.not_mem_nil, or_false] at hx
  omega
theorem pad_lt (n : Nat) : ∀ x ∈ padL n, x < 256 := by
  intro x hx
  rw [padL_eq] at hx
  rcases List.mem_cons.1 hx with rfl | hx
  · decide
  rcases List.mem_append.1 hx with hx | hx
  · have := List.eq_of_mem_replicate hx; omega
  · exact tail_lt n x hx
theorem pad_len (n : Nat) : (padL n).length = zerosN n + 9 := by rw [padL_eq]; simp [tailL]
theorem toB_len (l : List Nat) : (toB l).length = l.length := by simp [toB]
theorem tail_take (n k : Nat) (hk : k < 8) : ∃ x, x < 256 ∧ (tailL n)[k]? = some x ∧ toB ((tailL n).take (k + 1)) = toB ((tailL n).take k) ++ [UInt8.ofNat x] := by
  have hl : k < (tailL n).length := hk
  refine ⟨(tailL n)[k], tail_lt n _ (List.getElem_mem hl), List.getElem?_eq_getElem hl, ?_⟩
  rw [List.take_succ_eq_append_getElem hl]
  simp only [toB, List.map_append, List.map_cons, List.map_nil]
def sliceLen : Value → Nat
  | .slice _ n _ => n
  | _ => 0
theorem BOwn.start (w : World) (b : UInt8) : BOwn (w.alloc (.cells #[.int .u8 (b.toNat : Int)] 5)) w.heap.size (some ⟨w.heap.size, 0, none⟩) 1 1 [b] :=
  ⟨⟨rfl, .inr ⟨w.heap.size, 1, #[.int .u8 (b.toNat : Int)], rfl, Nat.le_refl _, heap_alloc_new w _, Nat.le_refl _, by decide, rfl, rfl⟩⟩, Nat.le_refl _⟩
set_option maxHeartbeats 4000000 in
theorem pad_v (z : Int) (w : World) (h0 : -9223372036854775808 ≤ z) (hz : z ≤ 2199023255552) :
    Calls Try.prog 48 #[.int .i64 z] w fun e w' => ∃ A c, e = .returned (.slice A (padL z.toNat).length c) ∧ BOwn w' w.heap.size A (padL z.toNat).length c (toB (padL z.toNat)) ∧ Below w.heap.size w w' := by
  obtain ⟨n, hn⟩ : ∃ n, z.toNat = n := ⟨_, rfl⟩
  have hmx : max 0 z = (n : Int) := by omega
  have hmx2 : max z 0 = (n : Int) := by omega
  have hnb : n ≤ 2199023255552 := by omega
  rw [hn]
  by_cases h1 : z ≤ 0
  · obtain rfl : n = 0 := by omega
    clear hn h0 hz hmx hmx2
    have HZ := Lib.hid (show (0 + (zerosN 0 + 1)) % 64 = 56 by unfold zerosN; omega)
    have HZ2 := Lib.hid (show ∀ m, 1 ≤ m → m ≤ zerosN 0 → (0 + m) % 64 ≠ 56 by unfold zerosN; omega)
    have HZ3 : zerosN 0 ≤ 63 := by unfold zerosN; omega
    go_enter Try.func48, Try.ntmps48
    go_wp2
    have B0 := Lib.hid (BOwn.start w 128)
    go_loopw [3] (fun o wr => ∃ (m : Nat) (A : Option Addr) (c : Nat), 1 ≤ m ∧ m ≤ zerosN 0 + 1 ∧ o = .slice A m c ∧ BOwn wr w.heap.size A m c (128 :: List.replicate (m - 1) 0) ∧ Below w.heap.size w wr) (fun o _ => 100 - sliceLen o)
    case atStart => exact ⟨1, _, _, Nat.le_refl _, Nat.le_add_left _ _, rfl, B0.out, (Below.refl _ _).alloc (Nat.le_refl _) _⟩
    case round =>
      clear B0
      obtain ⟨m, A, c, hm1, hm2, rfl, ho, hb⟩ := hrel
      by_cases hlt : m ≤ zerosN 0
      · have d1 : ((m : Int) % 64 != 56) = true := by have := HZ2.out m hm1 hlt; rw [bne_iff_ne]; omega
        have HL := Lib.hid (show (128 : UInt8) :: List.replicate (m - 1) 0 ++ [0] = 128 :: List.replicate (m + 1 - 1) 0 by rw [show m + 1 - 1 = m - 1 + 1 by omega, List.replicate_succ', List.cons_append])
        go_wp2_with (at_builtin; refine wpList_app rfl (.tmp 15) (.tmp 16) rfl w.heap.size A m c _ rfl (ho.alloc _) (wr.heap.size + 1) (some ⟨wr.heap.size, 0, none⟩) 1 1 [0] rfl (BReads.one _ _ _ rfl) (m + 1) _ rfl HL.out (by omega) (by simp; exact Nat.le_succ_of_le hb.size) ?_; intro A1 c1 w1 ho1 hg1 _)
        go_roundw
        case rel => exact ⟨m + 1, A1, c1, by omega, by omega, rfl, ho1, below_app (hb.alloc hb.size _) hg1 (ho.alloc _) (Nat.le_refl _) (by simp; exact Nat.le_succ_of_le hb.size)⟩
        case measure => simp [sliceLen]; omega
      · obtain rfl : m = zerosN 0 + 1 := by omega
        obtain ⟨m, hm⟩ : ∃ m, zerosN 0 + 1 = m := ⟨_, rfl⟩
        have hmb : m ≤ 64 := by omega
        have HB := Lib.hid (show toB (padL 0) = (128 :: List.replicate (m - 1) 0) ++ toB ((tailL 0).take 8) by rw [padL_eq, ← hm, show (tailL 0).take 8 = tailL 0 from rfl, toB, toB, List.map_cons, List.map_append, List.map_replicate]; rfl)
        have HLN := Lib.hid (show (padL 0).length = m + 8 by rw [pad_len]; omega)
        have HZ4 := HZ.out
        rw [hm] at ho HZ4
        have d1 : ((m : Int) % 64 != 56) = false := by rw [bne_eq_false_iff_eq]; omega
        have HO := Lib.hid (show BOwn wr w.heap.size A m c (128 :: List.replicate (m - 1) 0 ++ toB ((tailL 0).take 0)) by simpa [toB] using ho)
        rw [hm]
        clear hm ho hlt hm1 hm2 HZ4
        have q0 : (0 : Int) ≤ 0 * 8 ∧ 0 * 8 < 18446744073709551616 := by omega
        obtain ⟨q0, q1⟩ := q0
        go_wp2
        obtain ⟨wo, rfl⟩ : ∃ wo : World, wo = wr := ⟨_, rfl⟩
        go_loopw [3, 5] (fun o i wq => ∃ (k : Nat) (A : Option Addr) (c : Nat), k ≤ 8 ∧ i = .int .i64 (7 - (k : Int)) ∧ o = .slice A (m + k) c ∧ BOwn wq w.heap.size A (m + k) c (128 :: List.replicate (m - 1) 0 ++ toB ((tailL 0).take k)) ∧ Below w.heap.size w wq) (fun _ i _ => (intOf i + 1).toNat)
        case atStart => exact ⟨0, A, c, Nat.zero_le _, rfl, rfl, HO.out, hb⟩
        case round =>
          clear HO hb
          obtain ⟨k, A, c, hk, rfl, rfl, ho, hb⟩ := hrel
          by_cases hlt : k < 8
          · obtain ⟨x, hx, hxe, hxt⟩ := tail_take 0 k hlt
            have HT := Lib.hid (show 128 :: List.replicate (m - 1) 0 ++ toB ((tailL 0).take k) ++ [UInt8.ofNat x] = 128 :: List.replicate (m - 1) 0 ++ toB ((tailL 0).take (k + 1)) by rw [hxt, List.append_assoc])
            have HO := Lib.hid ho
            have HX := Lib.hid hxe
            clear ho hxe hxt
            rcases (show k = 0 ∨ k = 1 ∨ k = 2 ∨ k = 3 ∨ k = 4 ∨ k = 5 ∨ k = 6 ∨ k = 7 by omega) with rfl | rfl | rfl | rfl | rfl | rfl | rfl | rfl
            all_goals
              have hxv := Option.some.inj (show some _ = some x from HX.out)
              have HXV := Lib.hid hxv
              clear hxv
              first | rw [show (7 : Int) - ((0 : Nat) : Int) = 7 from rfl] | rw [show (7 : Int) - ((1 : Nat) : Int) = 6 from rfl] | rw [show (7 : Int) - ((2 : Nat) : Int) = 5 from rfl] | rw [show (7 : Int) - ((3 : Nat) : Int) = 4 from rfl] | rw [show (7 : Int) - ((4 : Nat) : Int) = 3 from rfl] | rw [show (7 : Int) - ((5 : Nat) : Int) = 2 from rfl] | rw [show (7 : Int) - ((6 : Nat) : Int) = 1 from rfl] | rw [show (7 : Int) - ((7 : Nat) : Int) = 0 from rfl]
              go_wp2_with (at_builtin; refine wpList_app rfl (.tmp 25) (.tmp 31) rfl w.heap.size A _ c _ rfl (HO.out.alloc _) (wr.heap.size + 1) (some ⟨wr.heap.size, 0, none⟩) 1 1 [UInt8.ofNat x] rfl (BReads.one _ _ _ (by have := HXV.out; simp [Nat.mod_eq_of_lt hx]; omega)) _ _ rfl HT.out (by omega) (by simp; exact Nat.le_succ_of_le hb.size) ?_; intro A1 c1 w1 ho1 hg1 _)
              go_roundw
              case rel => exact ⟨_, A1, c1, hlt, rfl, rfl, ho1, below_app (hb.alloc hb.size _) hg1 (HO.out.alloc _) (Nat.le_refl _) (by simp; exact Nat.le_succ_of_le hb.size)⟩
              case measure => simp [intOf]
          · obtain rfl : k = 8 := by omega
            have HO := Lib.hid ho
            clear ho
            rw [show (7 : Int) - ((8 : Nat) : Int) = -1 from rfl]
            go_wp2
            go_ret
            exact ⟨A, c, by rw [HLN.out]; rfl, by rw [HLN.out, HB.out]; exact HO.out, hb⟩
  · obtain rfl : z = (n : Int) := by omega
    clear hn h0 hz hmx hmx2
    have HZ := Lib.hid (show (n + (zerosN n + 1)) % 64 = 56 by unfold zerosN; omega)
    have HZ2 := Lib.hid (show ∀ m, 1 ≤ m → m ≤ zerosN n → (n + m) % 64 ≠ 56 by unfold zerosN; omega)
    have HZ3 : zerosN n ≤ 63 := by unfold zerosN; omega
    go_enter Try.func48, Try.ntmps48
    go_wp2
    have B0 := Lib.hid (BOwn.start w 128)
    go_loopw [3] (fun o wr => ∃ (m : Nat) (A : Option Addr) (c : Nat), 1 ≤ m ∧ m ≤ zerosN n + 1 ∧ o = .slice A m c ∧ BOwn wr w.heap.size A m c (128 :: List.replicate (m - 1) 0) ∧ Below w.heap.size w wr) (fun o _ => 100 - sliceLen o)
    case atStart => exact ⟨1, _, _, Nat.le_refl _, Nat.le_add_left _ _, rfl, B0.out, (Below.refl _ _).alloc (Nat.le_refl _) _⟩
    case round =>
      clear B0
      obtain ⟨m, A, c, hm1, hm2, rfl, ho, hb⟩ := hrel
      by_cases hlt : m ≤ zerosN n
      · have d1 : (((n : Int) + (m : Int)) % 64 != 56) = true := by have := HZ2.out m hm1 hlt; rw [bne_iff_ne]; omega
        have HL := Lib.hid (show (128 : UInt8) :: List.replicate (m - 1) 0 ++ [0] = 128 :: List.replicate (m + 1 - 1) 0 by rw [show m + 1 - 1 = m - 1 + 1 by omega, List.replicate_succ', List.cons_append])
        go_wp2_with (at_builtin; refine wpList_app rfl (.tmp 15) (.tmp 16) rfl w.heap.size A m c _ rfl (ho.alloc _) (wr.heap.size + 1) (some ⟨wr.heap.size, 0, none⟩) 1 1 [0] rfl (BReads.one _ _ _ rfl) (m + 1) _ rfl HL.out (by omega) (by simp; exact Nat.le_succ_of_le hb.size) ?_; intro A1 c1 w1 ho1 hg1 _)
        go_roundw
        case rel => exact ⟨m + 1, A1, c1, by omega, by omega, rfl, ho1, below_app (hb.alloc hb.size _) hg1 (ho.alloc _) (Nat.le_refl _) (by simp; exact Nat.le_succ_of_le hb.size)⟩
        case measure => simp [sliceLen]; omega
      · obtain rfl : m = zerosN n + 1 := by omega
        obtain ⟨m, hm⟩ : ∃ m, zerosN n + 1 = m := ⟨_, rfl⟩
        have hmb : m ≤ 64 := by omega
        have HB := Lib.hid (show toB (padL n) = (128 :: List.replicate (m - 1) 0) ++ toB ((tailL n).take 8) by rw [padL_eq, ← hm, show (tailL n).take 8 = tailL n from rfl, toB, toB, List.map_cons, List.map_append, List.map_replicate]; rfl)
        have HLN := Lib.hid (show (padL n).length = m + 8 by rw [pad_len]; omega)
        have HZ4 := HZ.out
        rw [hm] at ho HZ4
        have d1 : (((n : Int) + (m : Int)) % 64 != 56) = false := by rw [bne_eq_false_iff_eq]; omega
        have HO := Lib.hid (show BOwn wr w.heap.size A m c (128 :: List.replicate (m - 1) 0 ++ toB ((tailL n).take 0)) by simpa [toB] using ho)
        rw [hm]
        clear hm ho hlt hm1 hm2 HZ4
        have q0 : (0 : Int) ≤ (n : Int) * 8 ∧ (n : Int) * 8 < 18446744073709551616 := by omega
        obtain ⟨q0, q1⟩ := q0
        go_wp2
        obtain ⟨wo, rfl⟩ : ∃ wo : World, wo = wr := ⟨_, rfl⟩
        go_loopw [3, 5] (fun o i wq => ∃ (k : Nat) (A : Option Addr) (c : Nat), k ≤ 8 ∧ i = .int .i64 (7 - (k : Int)) ∧ o = .slice A (m + k) c ∧ BOwn wq w.heap.size A (m + k) c (128 :: List.replicate (m - 1) 0 ++ toB ((tailL n).take k)) ∧ Below w.heap.size w wq) (fun _ i _ => (intOf i + 1).toNat)
        case atStart => exact ⟨0, A, c, Nat.zero_le _, rfl, rfl, HO.out, hb⟩
        case round =>
          clear HO hb
          obtain ⟨k, A, c, hk, rfl, rfl, ho, hb⟩ := hrel
          by_cases hlt : k < 8
          · obtain ⟨x, hx, hxe, hxt⟩ := tail_take n k hlt
            have HT := Lib.hid (show 128 :: List.replicate (m - 1) 0 ++ toB ((tailL n).take k) ++ [UInt8.ofNat x] = 128 :: List.replicate (m - 1) 0 ++ toB ((tailL n).take (k + 1)) by rw [hxt, List.append_assoc])
            have HO := Lib.hid ho
            have HX := Lib.hid hxe
            clear ho hxe hxt
            rcases (show k = 0 ∨ k = 1 ∨ k = 2 ∨ k = 3 ∨ k = 4 ∨ k = 5 ∨ k = 6 ∨ k = 7 by omega) with rfl | rfl | rfl | rfl | rfl | rfl | rfl | rfl
            all_goals
              have hxv := Option.some.inj (show some _ = some x from HX.out)
              have HXV := Lib.hid hxv
              clear hxv
              first | rw [show (7 : Int) - ((0 : Nat) : Int) = 7 from rfl] | rw [show (7 : Int) - ((1 : Nat) : Int) = 6 from rfl] | rw [show (7 : Int) - ((2 : Nat) : Int) = 5 from rfl] | rw [show (7 : Int) - ((3 : Nat) : Int) = 4 from rfl] | rw [show (7 : Int) - ((4 : Nat) : Int) = 3 from rfl] | rw [show (7 : Int) - ((5 : Nat) : Int) = 2 from rfl] | rw [show (7 : Int) - ((6 : Nat) : Int) = 1 from rfl] | rw [show (7 : Int) - ((7 : Nat) : Int) = 0 from rfl]
              go_wp2_with (at_builtin; refine wpList_app rfl (.tmp 25) (.tmp 31) rfl w.heap.size A _ c _ rfl (HO.out.alloc _) (wr.heap.size + 1) (some ⟨wr.heap.size, 0, none⟩) 1 1 [UInt8.ofNat x] rfl (BReads.one _ _ _ (by have := HXV.out; simp [Nat.mod_eq_of_lt hx]; omega)) _ _ rfl HT.out (by omega) (by simp; exact Nat.le_succ_of_le hb.size) ?_; intro A1 c1 w1 ho1 hg1 _)
              go_roundw
              case rel => exact ⟨_, A1, c1, hlt, rfl, rfl, ho1, below_app (hb.alloc hb.size _) hg1 (HO.out.alloc _) (Nat.le_refl _) (by simp; exact Nat.le_succ_of_le hb.size)⟩
              case measure => simp [intOf]
          · obtain rfl : k = 8 := by omega
            have HO := Lib.hid ho
            clear ho
            rw [show (7 : Int) - ((8 : Nat) : Int) = -1 from rfl]
            go_wp2
            go_ret
            exact ⟨A, c, by rw [HLN.out]; rfl, by rw [HLN.out, HB.out]; exact HO.out, hb⟩
end Go.Proofs.Ytmaehbebpldpcaa
