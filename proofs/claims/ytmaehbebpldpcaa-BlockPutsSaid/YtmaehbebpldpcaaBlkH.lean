/-
  Blocks: Whole.
-/
import Derived.Test.YtmaehbebpldpcaaBlkG
namespace Go.Proofs.Ytmaehbebpldpcaa
open Go.RowKit Go.Shelf
theorem cutP_ok {s l : Int} {n : Nat} {L : List UInt8} (h : chk s l n = 0) (hl : (L.length : Int) = l) : cutP L s = (0, s, (L.length : Int), cutL L s.toNat) := by
  obtain ⟨h1, h2, h3, h4, h5, h6⟩ := chk_ok h
  unfold cutP
  rw [if_neg (by omega), if_neg (by omega), if_neg (by omega), hl, h6, if_neg (by omega)]
theorem DReads.of_own {w : World} {base n c : Nat} {A : Option Addr} {ds : List Dg} (h : w.ownsRow base 59 32 (.slice A n c) n (ds.flatMap Dg.cells)) : DReads w w.heap.size A n ds := Reads.of_own h

set_option maxRecDepth 100000 in
set_option maxHeartbeats 8000000 in
theorem whole_v (s l : Int) (A A' : Option Addr) (n c m c' B : Nat) (ds : List Dg) (L : List UInt8) (w : World) (hd : DReads w B A n ds) (hr : BReads w B A' m L) (hB : B ≤ w.heap.size) (hn : n ≤ 9007199254740992) (hm : m ≤ 1000000) (hmc : m ≤ c') :
    Calls Try.prog 20 #[.agg #[.int .i64 s, .int .i64 l, .slice A n c], .slice A' m c'] w fun e w' => e = .returned (.bool (wholeP s l ds L)) ∧ Below w.heap.size w w' := by
  have HI := Lib.hid (show (Try.prog.info? 24).map (·.size) = some 3 by kernel_rfl)
  have BA := Lib.hid ((Below.refl w.heap.size w).alloc (Nat.le_refl _) (.cells #[.int .i64 s, .int .i64 l, .slice A n c] 24))
  have X0 := Lib.hid (heap_alloc_new w (.cells #[.int .i64 s, .int .i64 l, .slice A n c] 24))
  have CV := Lib.hid (check_v s l A n c (w.alloc (.cells #[.int .i64 s, .int .i64 l, .slice A n c] 24)) hn)
  have hz : (w.alloc (.cells #[.int .i64 s, .int .i64 l, .slice A n c] 24)).heap.size = w.heap.size + 1 := by simp
  have HD := Lib.hid hd
  have HR := Lib.hid hr
  have hdl := hd.len
  have hml := hr.len
  clear hd hr
  go_enter Try.func20, Try.ntmps20
  go_wp2_with (first
    | (refine wpList_load_row rfl 24 (.tmp 2) rfl w.heap.size rfl 24 _ (0, 0) _ X0.out Try.underlying24 rfl HI.out ?_)
    | fail)
  generalize w.alloc (.cells #[.int .i64 s, .int .i64 l, .slice A n c] 24) = w1 at *
  refine CV.out.mono ?_
  rintro e w2 ⟨rfl, b2⟩
  have X2 := Lib.hid ((b2.block w.heap.size (by omega)).trans X0.out)
  have B2 := Lib.hid (BA.out.trans (b2.mono (by omega)))
  have hz2 : w.heap.size + 1 ≤ w2.heap.size := by have := b2.size; omega
  clear X0 BA b2 CV
  have c0 : w2.cell? ⟨w.heap.size, 0, none⟩ = some (.int .i64 s) := by rw [cell_of_row _ _ 0 _ _ _ X2.out]; rfl
  have c1 : w2.cell? ⟨w.heap.size, 1, none⟩ = some (.int .i64 l) := by rw [cell_of_row _ _ 1 _ _ _ X2.out]; rfl
  by_cases h1 : chk s l n = 0
  case neg =>
    have d1 : ((chk s l n : Int) != 0) = true := by rw [bne_iff_ne]; omega
    have HQ := Lib.hid (show wholeP s l ds L = false by unfold wholeP; rw [hdl]; exact decide_eq_false (fun h => h1 h.1))
    clear h1
    generalize chk s l n = q at *
    go_wp2
    go_ret
    exact ⟨by rw [HQ.out]; rfl, B2.out⟩
  have HC := Lib.hid h1
  rw [h1]
  by_cases h2 : (m : Int) = l
  case neg =>
    have d1 : ((m : Int) != l) = true := by rw [bne_iff_ne]; exact h2
    have HQ := Lib.hid (show wholeP s l ds L = false by unfold wholeP; exact decide_eq_false (fun h => h2 (by rw [← hml]; exact h.2.1)))
    clear h1 h2
    go_wp2
    go_ret
    exact ⟨by rw [HQ.out]; rfl, B2.out⟩
  have d1 : ((m : Int) != l) = false := by rw [bne_eq_false_iff_eq]; exact h2
  have HCP := Lib.hid (show cutP L s = (0, s, (m : Int), cutL L s.toNat) by have := cutP_ok (L := L) h1 (by rw [hml]; exact h2); rwa [hml] at this)
  have HQ := Lib.hid (show wholeP s l ds L = decide (cutL L s.toNat = ds) by
    unfold wholeP
    rw [hdl, hml]
    simp [h1, h2])
  have HML := Lib.hid h2
  clear h1 h2
  go_wp2_with fail
  refine (cut_v A' m c' L s w2 (Reads.more (Reads.below HR.out (B2.out.mono hB)) (by omega)) hm hmc).mono ?_
  rw [HCP.out]
  rintro e w3 ⟨A4, c4, rfl, ho, b3⟩
  have D3 := Lib.hid (DReads.of_own ho)
  have X3 := Lib.hid ((b3.block w.heap.size (by omega)).trans X2.out)
  have B3 := Lib.hid (B2.out.trans (b3.mono (by omega)))
  have hcl : (cutL L s.toNat).length = n ∨ ¬ (cutL L s.toNat).length = n := by omega
  have HCL := Lib.hid (show (cutL L s.toNat).length ≤ 9007199254740992 by
    obtain ⟨_, _, _, _, h5, h6⟩ := chk_ok HC.out
    unfold cutL
    rw [List.length_map, List.length_range]
    unfold chunkN
    have : (L.length + s.toNat - 1) / s.toNat ≤ L.length + s.toNat - 1 := Nat.div_le_self _ _
    omega)
  clear ho b3 X2 B2 c0 c1
  have Z3 := Lib.hid (heap_alloc_new w3 (.cells #[.int .i64 s, .int .i64 (m : Int), .slice A4 (cutL L s.toNat).length c4] 24))
  have B4 := Lib.hid (B3.out.alloc B3.out.size (.cells #[.int .i64 s, .int .i64 (m : Int), .slice A4 (cutL L s.toNat).length c4] 24))
  have hz3 : w.heap.size < w3.heap.size := (Array.getElem?_eq_some_iff.1 X3.out).1
  have X4 := Lib.hid ((Below.heap_alloc w3 (.cells #[.int .i64 s, .int .i64 (m : Int), .slice A4 (cutL L s.toNat).length c4] 24) w.heap.size hz3).trans X3.out)
  have D4 := Lib.hid (D3.out.below ((Below.refl w3.heap.size w3).alloc (Nat.le_refl _) (.cells #[.int .i64 s, .int .i64 (m : Int), .slice A4 (cutL L s.toNat).length c4] 24)))
  have hz4 : w3.heap.size ≤ (w3.alloc (.cells #[.int .i64 s, .int .i64 (m : Int), .slice A4 (cutL L s.toNat).length c4] 24)).heap.size := by simp
  clear X3 D3 hcl
  go_upto_region 4 with fail
  generalize w3.alloc (.cells #[.int .i64 s, .int .i64 (m : Int), .slice A4 (cutL L s.toNat).length c4] 24) = w4 at *
  generalize w3.heap.size = g5 at *
  go_wp2_with (first
    | (refine wpList_load_slot rfl 24 (.tmp 5) rfl ⟨g5, 0, none⟩ rfl [.int .i64 s, .int .i64 (m : Int), .slice A4 (cutL L s.toNat).length c4] _ (row_cells Z3.out) Try.underlying24 rfl HI.out ?_)
    | (refine wpList_load_slot rfl 24 (.tmp 2) rfl ⟨w.heap.size, 0, none⟩ rfl [.int .i64 s, .int .i64 l, .slice A n c] _ (row_cells X4.out) Try.underlying24 rfl HI.out ?_)
    | fail)
  have D5 := Lib.hid (show DReads w4 w4.heap.size A n ds from Reads.more (HD.out.below (B4.out.mono hB)) (Nat.le_trans hB B4.out.size))
  have D6 := Lib.hid (show DReads w4 w4.heap.size A4 (cutL L s.toNat).length (cutL L s.toNat) from Reads.more D4.out hz4)
  refine (same_v s (m : Int) s l A4 A (cutL L s.toNat).length c4 n c w4.heap.size (cutL L s.toNat) ds w4 D6.out D5.out (Nat.le_refl _) HCL.out).mono ?_
  rintro e w5 ⟨rfl, b5⟩
  have B5 := Lib.hid (B4.out.trans (b5.mono B4.out.size))
  have HS := Lib.hid (show sameP s (m : Int) s l (cutL L s.toNat) ds = decide (cutL L s.toNat = ds) by
    rw [HML.out]
    simp [sameP])
  rw [HS.out]
  clear b5
  go_wp2
  go_ret
  exact ⟨by rw [HQ.out]; rfl, B5.out⟩

set_option maxRecDepth 100000 in
set_option maxHeartbeats 8000000 in
theorem rwhole_v (s l : Int) (A A' : Option Addr) (n c m c' B : Nat) (ds : List Dg) (L : List UInt8) (w : World) (hd : DReads w B A n ds) (hr : BReads w B A' m L) (hB : B ≤ w.heap.size) (hn : n ≤ 9007199254740992) (hm : m ≤ 1000000) (hmc : m ≤ c') :
    Calls Try.prog 21 #[.agg #[.int .i64 s, .int .i64 l, .slice A n c], .slice A' m c'] w fun e w' => e = .returned (.bool (wholeP s l ds L)) ∧ Below w.heap.size w w' := by
  have HI := Lib.hid (show (Try.prog.info? 24).map (·.size) = some 3 by kernel_rfl)
  have BA := Lib.hid ((Below.refl w.heap.size w).alloc (Nat.le_refl _) (.cells #[.int .i64 s, .int .i64 l, .slice A n c] 24))
  have X0 := Lib.hid (heap_alloc_new w (.cells #[.int .i64 s, .int .i64 l, .slice A n c] 24))
  have CV := Lib.hid (rcheck_v s l A n c (w.alloc (.cells #[.int .i64 s, .int .i64 l, .slice A n c] 24)) hn)
  have hz : (w.alloc (.cells #[.int .i64 s, .int .i64 l, .slice A n c] 24)).heap.size = w.heap.size + 1 := by simp
  have HD := Lib.hid hd
  have HR := Lib.hid hr
  have hdl := hd.len
  have hml := hr.len
  clear hd hr
  go_enter Try.func21, Try.ntmps21
  go_wp2_with (first
    | (refine wpList_load_row rfl 24 (.tmp 2) rfl w.heap.size rfl 24 _ (0, 0) _ X0.out Try.underlying24 rfl HI.out ?_)
    | fail)
  generalize w.alloc (.cells #[.int .i64 s, .int .i64 l, .slice A n c] 24) = w1 at *
  refine CV.out.mono ?_
  rintro e w2 ⟨rfl, b2⟩
  have X2 := Lib.hid ((b2.block w.heap.size (by omega)).trans X0.out)
  have B2 := Lib.hid (BA.out.trans (b2.mono (by omega)))
  have hz2 : w.heap.size + 1 ≤ w2.heap.size := by have := b2.size; omega
  clear X0 BA b2 CV
  have c0 : w2.cell? ⟨w.heap.size, 0, none⟩ = some (.int .i64 s) := by rw [cell_of_row _ _ 0 _ _ _ X2.out]; rfl
  have c1 : w2.cell? ⟨w.heap.size, 1, none⟩ = some (.int .i64 l) := by rw [cell_of_row _ _ 1 _ _ _ X2.out]; rfl
  by_cases h1 : chk s l n = 0
  case neg =>
    have d1 : ((chk s l n : Int) != 0) = true := by rw [bne_iff_ne]; omega
    have HQ := Lib.hid (show wholeP s l ds L = false by unfold wholeP; rw [hdl]; exact decide_eq_false (fun h => h1 h.1))
    clear h1
    generalize chk s l n = q at *
    go_wp2
    go_ret
    exact ⟨by rw [HQ.out]; rfl, B2.out⟩
  have HC := Lib.hid h1
  rw [h1]
  by_cases h2 : (m : Int) = l
  case neg =>
    have d1 : ((m : Int) != l) = true := by rw [bne_iff_ne]; exact h2
    have HQ := Lib.hid (show wholeP s l ds L = false by unfold wholeP; exact decide_eq_false (fun h => h2 (by rw [← hml]; exact h.2.1)))
    clear h1 h2
    go_wp2
    go_ret
    exact ⟨by rw [HQ.out]; rfl, B2.out⟩
  have d1 : ((m : Int) != l) = false := by rw [bne_eq_false_iff_eq]; exact h2
  have HCP := Lib.hid (show cutP L s = (0, s, (m : Int), cutL L s.toNat) by have := cutP_ok (L := L) h1 (by rw [hml]; exact h2); rwa [hml] at this)
  have HQ := Lib.hid (show wholeP s l ds L = decide (cutL L s.toNat = ds) by
    unfold wholeP
    rw [hdl, hml]
    simp [h1, h2])
  have HML := Lib.hid h2
  clear h1 h2
  go_wp2_with fail
  refine (rcut_v A' m c' L s w2 (Reads.more (Reads.below HR.out (B2.out.mono hB)) (by omega)) hm hmc).mono ?_
  rw [HCP.out]
  rintro e w3 ⟨A4, c4, rfl, ho, b3⟩
  have D3 := Lib.hid (DReads.of_own ho)
  have X3 := Lib.hid ((b3.block w.heap.size (by omega)).trans X2.out)
  have B3 := Lib.hid (B2.out.trans (b3.mono (by omega)))
  have hcl : (cutL L s.toNat).length = n ∨ ¬ (cutL L s.toNat).length = n := by omega
  have HCL := Lib.hid (show (cutL L s.toNat).length ≤ 9007199254740992 by
    obtain ⟨_, _, _, _, h5, h6⟩ := chk_ok HC.out
    unfold cutL
    rw [List.length_map, List.length_range]
    unfold chunkN
    have : (L.length + s.toNat - 1) / s.toNat ≤ L.length + s.toNat - 1 := Nat.div_le_self _ _
    omega)
  clear ho b3 X2 B2 c0 c1
  have Z3 := Lib.hid (heap_alloc_new w3 (.cells #[.int .i64 s, .int .i64 (m : Int), .slice A4 (cutL L s.toNat).length c4] 24))
  have B4 := Lib.hid (B3.out.alloc B3.out.size (.cells #[.int .i64 s, .int .i64 (m : Int), .slice A4 (cutL L s.toNat).length c4] 24))
  have hz3 : w.heap.size < w3.heap.size := (Array.getElem?_eq_some_iff.1 X3.out).1
  have X4 := Lib.hid ((Below.heap_alloc w3 (.cells #[.int .i64 s, .int .i64 (m : Int), .slice A4 (cutL L s.toNat).length c4] 24) w.heap.size hz3).trans X3.out)
  have D4 := Lib.hid (D3.out.below ((Below.refl w3.heap.size w3).alloc (Nat.le_refl _) (.cells #[.int .i64 s, .int .i64 (m : Int), .slice A4 (cutL L s.toNat).length c4] 24)))
  have hz4 : w3.heap.size ≤ (w3.alloc (.cells #[.int .i64 s, .int .i64 (m : Int), .slice A4 (cutL L s.toNat).length c4] 24)).heap.size := by simp
  clear X3 D3 hcl
  go_upto_region 4 with fail
  generalize w3.alloc (.cells #[.int .i64 s, .int .i64 (m : Int), .slice A4 (cutL L s.toNat).length c4] 24) = w4 at *
  generalize w3.heap.size = g5 at *
  go_wp2_with (first
    | (refine wpList_load_slot rfl 24 (.tmp 5) rfl ⟨g5, 0, none⟩ rfl [.int .i64 s, .int .i64 (m : Int), .slice A4 (cutL L s.toNat).length c4] _ (row_cells Z3.out) Try.underlying24 rfl HI.out ?_)
    | (refine wpList_load_slot rfl 24 (.tmp 2) rfl ⟨w.heap.size, 0, none⟩ rfl [.int .i64 s, .int .i64 l, .slice A n c] _ (row_cells X4.out) Try.underlying24 rfl HI.out ?_)
    | fail)
  have D5 := Lib.hid (show DReads w4 w4.heap.size A n ds from Reads.more (HD.out.below (B4.out.mono hB)) (Nat.le_trans hB B4.out.size))
  have D6 := Lib.hid (show DReads w4 w4.heap.size A4 (cutL L s.toNat).length (cutL L s.toNat) from Reads.more D4.out hz4)
  refine (rsame_v s l s (m : Int) A A4 n c (cutL L s.toNat).length c4 w4.heap.size ds (cutL L s.toNat) w4 D5.out D6.out (Nat.le_refl _) hn).mono ?_
  rintro e w5 ⟨rfl, b5⟩
  have B5 := Lib.hid (B4.out.trans (b5.mono B4.out.size))
  have HS := Lib.hid (show sameP s l s (m : Int) ds (cutL L s.toNat) = decide (cutL L s.toNat = ds) by
    rw [HML.out]
    simp [sameP, eq_comm])
  rw [HS.out]
  clear b5
  go_wp2
  go_ret
  exact ⟨by rw [HQ.out]; rfl, B5.out⟩

end Go.Proofs.Ytmaehbebpldpcaa
