/-
  MatrixParts: the parts of a folder are what the document says.
-/
import Derived.Test.YtikegnnlmfidfaaMatPa
import Derived.Test.YtikegnnlmfidfaaMatV
namespace Go.Proofs.Ytikegnnlmfidfaa
open Go.RowKit
theorem info_M : (Try.prog.info? 27).map (fun i => (i.zero, i.size, i.bytes)) = some (some (.agg #[.int .i64 0, .slice none 0 0]), 2, 32) := by kernel_rfl
theorem mat1 (ms : List Mx) : ∀ u ∈ ms.flatMap Mx.cells, u.oneCell' = true := fun u hu => by
  obtain ⟨r, _, hr⟩ := List.mem_flatMap.1 hu
  simp only [Mx.cells, List.mem_cons, List.not_mem_nil, or_false] at hr
  rcases hr with rfl | rfl <;> rfl
set_option maxRecDepth 100000 in
set_option maxHeartbeats 16000000 in
theorem mparts_v (A : Option Addr) (n c B : Nat) (ms : List Mx) (f : ByteArray) (w : World) (hr : MatsR w B A n ms) (hB : B ≤ w.heap.size) (hn : n ≤ 9223372036854775807) (hfs : f.size ≤ 9223372036854775807) :
    Calls Try.prog 3 #[.slice A n c, .string f] w fun e w' => e = .returned (.bool true) ∧ Below w.heap.size w w' := by
  have HIM := Lib.hid (show (Try.prog.info? 27).map (·.size) = some 2 by kernel_rfl)
  have HM := Lib.hid hr
  have HSZ := Lib.hid (show ∀ V, Below w.heap.size w V → w.heap.size ≤ V.heap.size from fun V h => h.size)
  clear hr
  go_enter Try.func3, Try.ntmps3
  go_wp2_with fail
  refine (lives_v w).mono ?_
  rintro e w1 ⟨rfl, b1⟩
  have T1 := Lib.hid b1
  clear b1
  generalize hg : w.heap.size = g at *
  have HG := Lib.hid hg
  clear hg
  by_cases h40 : n ≤ 40
  case neg =>
    go_wp2_with fail
    go_ret
    exact ⟨rfl, HG.out ▸ T1.out⟩
  by_cases hf40 : f.size ≤ 40
  case neg =>
    go_wp2_with fail
    go_ret
    exact ⟨rfl, HG.out ▸ T1.out⟩
  go_wp2_with fail
  go_loopw [5] (fun i V => ∃ k : Nat, k ≤ n ∧ i = .int .i64 (k : Int) ∧ Below g w V) (fun i _ => n - (intOf i).toNat)
  case atStart => exact ⟨0, Nat.zero_le _, rfl, T1.out⟩
  case round =>
    obtain ⟨i, hi, rfl, hb⟩ := hrel
    have T2 := Lib.hid hb
    clear hb T1
    by_cases hlt : i < n
    · obtain ⟨ad, oi, ai, mi, qi, ri, rfl, hxi, hri, hmi, hcsi, hci⟩ := HM.out.at_ hlt
      have HCS := Lib.hid (hcsi wr (T2.out.mono hB))
      have HRI := Lib.hid hri
      have i0 : (0 : Int) ≤ (i : Int) := by omega
      have i1 : (i : Int) < (n : Int) := by omega
      clear hxi hri hcsi hci
      have LV := light_v oi ai mi qi B 40 ri wr (HRI.out.below (T2.out.mono hB)) (Nat.le_trans hB (HSZ.out _ T2.out)) hmi (by omega)
      go_wp2_with (first
        | (refine wpList_load_slot rfl 27 (.tmp 24) rfl (ad.add (i * 2)) rfl [.int .i64 oi, .slice ai mi qi] _ HCS.out Try.underlying27 rfl HIM.out ?_)
        | fail)
      cases hl : lightM ri 40 with
      | false =>
        rw [hl] at LV
        refine LV.mono ?_
        rintro e w2 ⟨rfl, b2⟩
        have T3 := Lib.hid (T2.out.trans (b2.mono (HSZ.out _ T2.out)))
        clear b2 LV hl T2 HCS
        go_wp2_with fail
        go_ret
        exact ⟨rfl, HG.out ▸ T3.out⟩
      | true =>
      rw [hl] at LV
      refine LV.mono ?_
      rintro e w2 ⟨rfl, b2⟩
      have T3 := Lib.hid (T2.out.trans (b2.mono (HSZ.out _ T2.out)))
      clear b2 LV hl T2 HCS
      go_wp2_with fail
      go_roundw
      case rel => exact ⟨i + 1, hlt, by go_num, T3.out⟩
      case measure => simp [intOf]; omega
    · have hzr := HSZ.out _ T2.out
      obtain ⟨zi, hi1, hi2, hi3, hi4⟩ := info_parts info_M
      go_upto_region 10 with fail
      have T4 := Lib.hid (T2.out.alloc hzr (.cells #[] 27))
      have OE := Lib.hid (own_empty wr 27 2)
      have hS2 : g ≤ (wr.alloc (.cells #[] 27)).heap.size := by simp; omega
      have HRW := Lib.hid (HM.out.row.below (T4.out.mono hB))
      go_wp2_with (first
        | (at_builtin; go_loud (refine wpList_append_any (wr.alloc (.cells #[] 27)) rfl (.tmp 28) (.tmp 29) 22 rfl wr.heap.size 27 zi _ 2 32 Try.underlying22 hi1 hi2 hi3 hi4 rfl (by decide) (.slice (some ⟨wr.heap.size, 0, none⟩) 0 0) 0 [] rfl OE.out B A n c _ rfl HRW.out (mat1 ms) (by simp only [maxLen]; omega) (by omega) (by simp) ?_); intro v' w4 hown hg4 _; obtain ⟨A4, c4, rfl, hc4⟩ := own_shape hown; simp only [Nat.zero_add, List.nil_append] at hown hc4 ⊢)
        | fail)
      have T5 := Lib.hid (T4.out.grown hg4 hS2 (fun j e => by have := (OE.out.lt j e).1; omega))
      have hS3 : g ≤ w4.heap.size := by have := hg4.size; omega
      have M4 := Lib.hid (show MatsR w4 w4.heap.size A4 n ms from ⟨Reads.of_own hown, fun m hm => ⟨((HM.out.each m hm).i.below (T5.out.mono hB)).more (by omega), (HM.out.each m hm).cm⟩⟩)
      clear hS2 hown hg4 T4 OE HRW
      refine (parts_v A4 n c4 w4.heap.size ms f w4 M4.out (Nat.le_refl _) hn).mono ?_
      rintro e w5 ⟨A5, n5, c5, l5, rfl, ⟨base, hbase, ho5⟩, hp5, hn5, hl5, b5⟩
      have T6 := Lib.hid (T5.out.trans (b5.mono hS3))
      have hS5 : g ≤ w5.heap.size := by have := b5.size; omega
      have L5 := Lib.hid (ho5.reads (fun l hl => by have := hl5 l hl; omega))
      have P5 := Lib.hid hp5
      clear M4 ho5 hp5 hl5 b5 hbase T5 hS3
      go_wp2_with fail
      refine (rparts_v A n c B ms f w5 (HM.out.below (T6.out.mono hB)) (by omega) hn).mono ?_
      rintro e w6 ⟨A6, n6, c6, l6, rfl, hl6, hp6, hn6, b6⟩
      have T7 := Lib.hid (T6.out.trans (b6.mono hS5))
      have hz6 := b6.size
      have hS6 : g ≤ w6.heap.size := by omega
      have L6 := Lib.hid (L5.out.below b6)
      have R6 := Lib.hid hl6
      have P6 := Lib.hid hp6
      clear hl6 hp6 b6 L5 T6 hS5
      have LV := lists_v A5 A6 n5 c5 n6 c6 w6.heap.size l5 l6 w6 (L6.out.more hz6) R6.out (Nat.le_refl _) (by omega) (by omega)
      rw [P5.out, P6.out, decide_eq_true rfl] at LV
      go_wp2_with fail
      refine LV.mono ?_
      rintro e w7 ⟨rfl, b7⟩
      have T8 := Lib.hid (T7.out.trans (b7.mono hS6))
      clear LV b7 L6 R6 T7 hz6 hS6
      go_wp2_with fail
      go_ret
      exact ⟨rfl, HG.out ▸ T8.out⟩
end Go.Proofs.Ytikegnnlmfidfaa
