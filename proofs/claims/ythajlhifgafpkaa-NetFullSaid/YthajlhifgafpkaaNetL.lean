/-
  Nets: NetFull.
-/
import Derived.Test.YthajlhifgafpkaaNetJ
import Derived.Test.YthajlhifgafpkaaNetK
import Derived.OwnWalk
import Derived.Laws.OwnMore
namespace Go.Proofs.Ythajlhifgafpkaa
open Go.RowKit Go.Shelf
set_option maxRecDepth 100000 in
set_option maxHeartbeats 8000000 in
theorem full_v (a0 : Option Addr) (len0 cap0 : Nat) (l : List UInt8) (w : World) (hr : BReads w w.heap.size a0 len0 l) :
    Calls Try.prog 3 #[.slice a0 len0 cap0] w fun e w' => e = .returned (.bool true) ∧ Below w.heap.size w w' := by
  have HR := Lib.hid hr
  have hll : l.length = len0 := by have := hr.1; simpa using this
  have HLL := Lib.hid hll
  clear hr hll
  by_cases hbig : len0 ≤ 20
  · have hlen : len0 ≤ 140737488355328 := by omega
    have d1 : decide ((20 : Int) < (len0 : Int)) = false := by simp; omega
    go_enter Try.func3, Try.ntmps3
    go_wp2_with fail
    refine (lives_v w).mono ?_
    rintro e w1 ⟨rfl, b1⟩
    have B1 := Lib.hid b1
    clear b1
    go_wp2_with fail
    refine (new_v w1).mono ?_
    rintro e w2 ⟨g, mb, rfl, h2, b2⟩
    have hz1 := B1.out.size
    have H2 := Lib.hid h2
    have B2 := Lib.hid (B1.out.trans (b2.mono hz1))
    clear h2 b2 B1
    go_wp2_with fail
    refine (up_is H2.out (by decide) (by decide) 0 NS.small.new (by omega) 0 (F l 0) rfl (F0 l)).mono ?_
    rintro e w3 ⟨rfl, h3, b3⟩
    have H3 := Lib.hid h3
    have B3 := Lib.hid (B2.out.trans (b3.mono hz1))
    clear h3 b3 B2 H2
    go_wp2_with fail
    go_loopw [4, 5] (fun ee i wr => ∃ (k n c : Nat) (A : Option Addr) (vs : List PkV), k ≤ 4096 ∧ i = .int .i64 (k : Int) ∧ ee = .int .i64 0 ∧ NetIs wr w1.heap.size g mb A n c vs (F l k) ∧ Below w.heap.size w wr) (fun _ i _ => 4096 - (intOf i).toNat)
    case atStart => exact ⟨0, 0, 0, none, [], Nat.zero_le _, rfl, rfl, H3.out, B3.out⟩
    case round =>
      obtain ⟨k, n, c, A, vs, hk, rfl, rfl, h4, b4⟩ := hrel
      have hn : n = k := by rw [← h4.len, F_len]
      have H4 := Lib.hid h4
      have B4 := Lib.hid b4
      have hz4 := b4.size
      clear h4 b4
      have HFS := Lib.hid (fun h1 h2 => F_send l k h1 h2)
      by_cases hlt : k < 4096
      · go_wp2_with fail
        refine (own_any w.heap.size a0 len0 cap0 l wr (Reads.below HR.out B4.out) hz4 hlen).mono ?_
        rintro e w5 ⟨A5, c5, rfl, ho5, b5⟩
        have H5 := Lib.hid (H4.out.below b5)
        have B5 := Lib.hid (B4.out.trans (b5.mono hz4))
        have R5 := Lib.hid ho5.reads
        clear b5 ho5
        go_wp2_with fail
        refine (send_is H5.out (by decide) (by decide) (by rw [F_last]; omega) R5.out (Nat.le_refl _) hlen (by omega) ((k + 1 : Nat) : Int) 0 (F l (k + 1)) (by rw [F_send l k hlt (by rw [HLL.out]; omega)]) (by rw [F_send l k hlt (by rw [HLL.out]; omega)]; rfl) (by rw [F_send l k hlt (by rw [HLL.out]; omega)])).mono ?_
        rintro e w6 ⟨A6, n6, c6, v6, rfl, h6, b6⟩
        have H6 := Lib.hid h6
        have B6 := Lib.hid (B5.out.trans (b6.mono hz1))
        clear h6 b6 H5 B5 R5
        go_wp2
        go_roundw
        case rel => exact ⟨k + 1, n6, c6, A6, v6, hlt, by go_num, rfl, H6.out, B6.out⟩
        case measure => simp [intOf]; omega
      · obtain rfl : k = 4096 := by omega
        have hFs := Lib.hid (F_full 1 2 l (F l 4096) rfl (by rw [F_len]; exact Nat.le_refl _) (by decide) (by decide))
        go_wp2_with fail
        refine (own_any w.heap.size a0 len0 cap0 l wr (Reads.below HR.out B4.out) hz4 hlen).mono ?_
        rintro e w5 ⟨A5, c5, rfl, ho5, b5⟩
        have H5 := Lib.hid (H4.out.below b5)
        have B5 := Lib.hid (B4.out.trans (b5.mono hz4))
        have R5 := Lib.hid ho5.reads
        clear b5 ho5 H4 B4
        go_wp2_with fail
        refine (send_is H5.out (by decide) (by decide) (by rw [F_last]; omega) R5.out (Nat.le_refl _) hlen (by omega) 0 3 (F l 4096) (by rw [hFs.out]; rfl) (by rw [hFs.out]; rfl) (by rw [hFs.out])).mono ?_
        rintro e w6 ⟨A6, n6, c6, v6, rfl, h6, b6⟩
        have H6 := Lib.hid h6
        have B6 := Lib.hid (B5.out.trans (b6.mono hz1))
        have hn6 : n6 ≤ 4096 := by rw [← h6.len, F_len]; exact Nat.le_refl _
        clear h6 b6 H5 B5 R5
        have HT := Lib.hid (F_twice l 4096 (Nat.le_refl _))
        go_wp2_with fail
        refine (twice_is (num := 7) H6.out hn6 (by rw [F_last]; omega) 0 3 7 (F l 4096) rfl (by rw [HT.out]; rfl) (by rw [HT.out]; rfl) (by rw [HT.out])).mono ?_
        rintro e w7 ⟨A7, n7, c7, v7, rfl, h7, b7⟩
        have H7 := Lib.hid h7
        have B7 := Lib.hid (B6.out.trans (b7.mono hz1))
        have hn7 : n7 ≤ 4096 := by rw [← h7.len, F_len]; exact Nat.le_refl _
        clear h7 b7 H6 B6 HT
        have HK := Lib.hid (F_take l 4096 (by omega))
        go_wp2_with fail
        refine (take_is (num := 7) H7.out hn7 0 7 7 2 1 1 l (G l 4096) rfl (by rw [HK.out]; rfl) (by rw [HK.out]) (by rw [HK.out]) (by rw [HK.out]; rfl) (by rw [HK.out]) (by rw [HK.out]; rfl) (by rw [HK.out])).mono ?_
        rintro e w8 ⟨va, vl, vc, n8, v8, rfl, _, _, h8, b8⟩
        have BA := Lib.hid ((Below.refl w8.heap.size w8).alloc (Nat.le_refl _) (.cells #[.int .u64 7, .int .i64 2, .int .i64 1, .int .u64 1, .slice va vl vc] 34))
        have H8 := Lib.hid (h8.below BA.out)
        have B8 := Lib.hid (B7.out.trans (b8.mono hz1))
        have B9 := Lib.hid (B8.out.alloc B8.out.size (.cells #[.int .u64 7, .int .i64 2, .int .i64 1, .int .u64 1, .slice va vl vc] 34))
        have hn8 : n8 ≤ 4096 := by rw [← h8.len, G_len l 4096 (by omega)]; omega
        clear h8 b8 H7 B7 HK BA B8
        obtain ⟨t1, t2, t3, t4⟩ := G_twice l 4096 (by omega) (Nat.le_refl _)
        have HT := Lib.hid t1
        have HL2 := Lib.hid t2
        have HL3 := Lib.hid t3
        have HL4 := Lib.hid t4
        clear t1 t2 t3 t4
        go_wp2_with fail
        generalize w8.alloc (.cells #[.int .u64 7, .int .i64 2, .int .i64 1, .int .u64 1, .slice va vl vc] 34) = w9 at *
        refine (twice_is (num := 8) H8.out hn8 (by show 4096 < 1000000000; omega) 4097 0 8 (H l 4096) rfl (by rw [HT.out]; rfl) (by rw [HT.out]; rfl) (by rw [HT.out])).mono ?_
        rintro e w10 ⟨A10, n10, c10, v10, rfl, h10, b10⟩
        have H10 := Lib.hid h10
        have B10 := Lib.hid (B9.out.trans (b10.mono hz1))
        have hn10 : n10 ≤ 4096 := by rw [← h10.len, HL3.out]; exact Nat.le_refl _
        clear h10 b10 H8 B9 HT
        obtain ⟨i0, hi, hy0, hy1, hy2⟩ := info_parts info_u8
        obtain ⟨N, hN⟩ : ∃ N : Nat, N = 262145 := ⟨_, rfl⟩
        have HN := Lib.hid hN
        have hzs := toList_madeCells_one (.int .u8 0) (N * 1)
        have hz10 := B10.out.size
        clear hN
        go_wp2_with (first
          | (refine wpList_make_full w10 rfl _ _ 22 rfl w10.heap.size 5 i0 (.int .u8 0) 1 Try.underlying22 hi hy0 hy1 .i64 .i64 262145 262145 N rfl rfl (by rw [HN.out]; rfl) (by rw [HN.out]; rfl) (by rw [hy2, HN.out]; decide) (by rw [HN.out]; decide) (Nat.le_refl _) ?_; intro w11 ho11 hg11)
          | fail)
        have HO : Hid (BOwn w11 w10.heap.size (some ⟨w10.heap.size, 0, none⟩) N N (List.replicate N 0)) := Lib.hid ⟨by
          rw [show (Value.int .u8 0).cells = #[.int .u8 0] from rfl, hzs, Nat.mul_one] at ho11
          rw [List.map_replicate]
          exact ho11, Nat.le_refl _⟩
        have BM := Lib.hid (show Below w10.heap.size w10 w11 from ⟨hg11.os, hg11.tape, hg11.output, hg11.size, fun j hj => hg11.block j hj (by simp)⟩)
        have H11 := Lib.hid (H10.out.below BM.out)
        have B11 := Lib.hid (B10.out.trans (BM.out.mono hz10))
        have hFs2 := Lib.hid (F_full 1 2 (List.replicate N 0) (H l 4096) HL2.out (by rw [HL3.out]; exact Nat.le_refl _) (by decide) (by decide))
        have hla : (H l 4096).last < 1000000000 := by
          have := HL4.out; omega
        clear hzs ho11 hg11 H10 B10
        refine (send_is H11.out (by decide) (by decide) hla HO.out.reads (Nat.le_refl _) (by rw [HN.out]; decide) hn10 0 3 (H l 4096) (by rw [hFs2.out]; rfl) (by rw [hFs2.out]; rfl) (by rw [hFs2.out])).mono ?_
        rintro e w12 ⟨A12, n12, c12, v12, rfl, _, b12⟩
        have B12 := Lib.hid (B11.out.trans (b12.mono hz1))
        clear b12
        go_wp2
        go_ret
        exact ⟨rfl, B12.out⟩
  · have d1 : decide ((20 : Int) < (len0 : Int)) = true := by simp; omega
    go_enter Try.func3, Try.ntmps3
    go_wp2_with fail
    refine (lives_v w).mono ?_
    rintro e w1 ⟨rfl, hb1⟩
    go_wp2
    go_ret
    exact ⟨rfl, hb1⟩
end Go.Proofs.Ythajlhifgafpkaa
