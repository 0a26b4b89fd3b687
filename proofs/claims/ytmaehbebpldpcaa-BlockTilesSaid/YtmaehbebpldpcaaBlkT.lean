/-
  Blocks: BlockTiles, walked.
-/
import Derived.Test.YtmaehbebpldpcaaBlkJ
import Derived.Deep.Cut
namespace Go.Proofs.Ytmaehbebpldpcaa
open Go.RowKit Go.Shelf
set_option maxRecDepth 100000 in
set_option maxHeartbeats 16000000 in
theorem tiles_v (A : Option Addr) (m c : Nat) (L : List UInt8) (sz nn : Int) (w : World) (hr : BReads w w.heap.size A m L) (hmc : m ≤ c) (hc : c ≤ 9223372036854775807) :
    Calls Try.prog 4 #[.slice A m c, .int .i64 sz, .int .i64 nn] w fun e w' => e = .returned (.bool true) ∧ Below w.heap.size w w' := by
  have HI := Lib.hid (show (Try.prog.info? 24).map (·.size) = some 3 by kernel_rfl)
  have HR := Lib.hid hr
  have HLL := Lib.hid hr.len
  clear hr
  go_enter Try.func4, Try.ntmps4
  go_wp2_with fail
  refine (lives_v w).mono ?_
  rintro e w1 ⟨rfl, b1⟩
  have B1 := Lib.hid b1
  clear b1
  by_cases h1 : 2000 < m
  · have d1 : decide (2000 < m) = true := by simpa using h1
    go_wp2
    go_ret
    exact ⟨rfl, B1.out⟩
  have d1 : decide (2000 < m) = false := by simpa using h1
  by_cases h2 : sz < 1
  · have d2 : decide (sz < 1) = true := by simpa using h2
    go_wp2
    go_ret
    exact ⟨rfl, B1.out⟩
  have d2 : decide (sz < 1) = false := by simpa using h2
  by_cases h3 : 3000 < sz
  · have d3 : decide (3000 < sz) = true := by simpa using h3
    go_wp2
    go_ret
    exact ⟨rfl, B1.out⟩
  have d3 : decide (3000 < sz) = false := by simpa using h3
  obtain ⟨Z, rfl⟩ : ∃ Z : Nat, sz = (Z : Int) := ⟨sz.toNat, by omega⟩
  have hZ : 0 < Z := by omega
  have hZ2 : Z ≤ 3000 := by omega
  have hm2 : m ≤ 2000 := by omega
  have HCP := Lib.hid (cutP_of HLL.out hZ (by omega) (by omega))
  go_wp2_with fail
  refine (own_any w.heap.size A m c L w1 (Reads.below HR.out B1.out) B1.out.size (by omega)).mono ?_
  rintro e w2 ⟨A2, c2, rfl, ho2, b2⟩
  have B2 := Lib.hid (B1.out.trans (b2.mono B1.out.size))
  have O2 := Lib.hid ho2.reads
  have hc2 := ho2.2
  clear b2 ho2
  go_wp2_with fail
  by_cases hN : 1024 < chunkN m Z
  · rw [if_pos hN] at HCP
    have hq := (chunkN_many hZ).1 hN
    refine (cut_is O2.out (by omega) hc2 3 0 3 0 0 [] HCP.out rfl rfl).mono ?_
    rintro e w3 ⟨A3, c3, rfl, _, b3⟩
    have B3 := Lib.hid ((B2.out.trans (b3.mono B2.out.size)).alloc (by have := b3.size; have := B2.out.size; omega) (.cells #[.int .i64 0, .int .i64 0, .slice A3 0 c3] 24))
    have e1 : IntKind.i64.wrap ((Z : Int) * 1024) = ((Z * 1024 : Nat) : Int) := by rw [IntWalk.i64_in _ ⟨by omega, by omega⟩]; omega
    have d4 : decide (Z * 1024 < m) = true := by simp; omega
    have d5 : decide ((Z : Int) * 1024 < (m : Int)) = true := by simp; omega
    clear b3
    go_wp2
    go_ret
    exact ⟨rfl, B3.out⟩
  rw [if_neg hN] at HCP
  obtain ⟨N, hNN⟩ : ∃ N, chunkN m Z = N := ⟨_, rfl⟩
  have HNN := Lib.hid hNN
  have hN4 : N ≤ 1024 := by omega
  refine (cut_is O2.out (by omega) hc2 0 N 0 (Z : Int) (m : Int) (cutL L Z) HCP.out (by rw [cutL_len HLL.out, hNN]) rfl).mono ?_
  rintro e w5 ⟨A5, c5, rfl, d5, b5⟩
  have B5 := Lib.hid (B2.out.trans (b5.mono B2.out.size))
  have X7 := Lib.hid (heap_alloc_new w5 (.cells #[.int .i64 (Z : Int), .int .i64 (m : Int), .slice A5 N c5] 24))
  have B7B := Lib.hid (B5.out.alloc B5.out.size (.cells #[.int .i64 (Z : Int), .int .i64 (m : Int), .slice A5 N c5] 24))
  have D7 := Lib.hid (d5.below ((Below.refl w5.heap.size w5).alloc (Nat.le_refl _) (.cells #[.int .i64 (Z : Int), .int .i64 (m : Int), .slice A5 N c5] 24)))
  have hz7 : (w5.alloc (.cells #[.int .i64 (Z : Int), .int .i64 (m : Int), .slice A5 N c5] 24)).heap.size = w5.heap.size + 1 := by simp
  have hz5 := B5.out.size
  clear b5 d5 O2 hN hNN
  go_wp2_with fail
  generalize w5.alloc (.cells #[.int .i64 (Z : Int), .int .i64 (m : Int), .slice A5 N c5] 24) = w7 at *
  generalize w5.heap.size = g7 at *
  have hB7 : g7 ≤ w7.heap.size := by omega
  go_loopw [9, 10] (fun at_ i wr => ∃ k : Nat, k ≤ N ∧ i = .int .i64 (k : Int) ∧ at_ = .int .i64 ((min m (k * Z) : Nat) : Int) ∧ Below w7.heap.size w7 wr) (fun _ i _ => N - (intOf i).toNat)
  case atStart => exact ⟨0, Nat.zero_le _, rfl, by simp, Below.refl _ _⟩
  case round =>
    obtain ⟨k, hk, rfl, rfl, bb⟩ := hrel
    have BB := Lib.hid bb
    clear bb
    have XR := Lib.hid ((BB.out.block g7 (by omega)).trans X7.out)
    have c72 : wr.cell? ⟨g7, 2, none⟩ = some (.slice A5 N c5) := by rw [cell_of_row _ _ 2 _ _ _ XR.out]; rfl
    by_cases hlt : k < N
    · have hkN : k < chunkN m Z := by rw [HNN.out]; exact hlt
      have hkz := (chunk_lt hZ).1 hkN
      have AP := Lib.hid (atP_of hZ (by omega) (show m ≤ 4194304 by omega) (by rw [HNN.out]; exact hN4) hkN)
      rw [HNN.out] at AP
      have FC := Lib.hid (fits_cut HLL.out hZ (by omega) (show m ≤ 4194304 by omega) (by rw [HNN.out]; exact hN4) hkN)
      have HCL := Lib.hid (chunkB_len HLL.out hkz)
      go_wp2_with (first
        | (refine wpList_load_row rfl 24 (.tmp 7) rfl g7 rfl 24 _ (0, 0) _ XR.out Try.underlying24 rfl HI.out ?_)
        | fail)
      refine (at_v (Z : Int) (m : Int) (k : Int) A5 N c5 wr (by omega)).mono ?_
      rw [AP.out]
      rintro e w8 ⟨rfl, b8⟩
      have B8 := Lib.hid (BB.out.trans (b8.mono BB.out.size))
      have X8 := Lib.hid ((b8.block g7 (by have := BB.out.size; omega)).trans XR.out)
      have c72 : w8.cell? ⟨g7, 2, none⟩ = some (.slice A5 N c5) := by rw [cell_of_row _ _ 2 _ _ _ X8.out]; rfl
      obtain ⟨ad, rfl, _, _⟩ := HR.out.2 (by omega)
      have RD := Lib.hid (fun (V : World) (hV : Below w.heap.size w V) => chunkB_reads (Reads.below HR.out hV) hV.size hkz)
      have HRR := Lib.hid (show min m ((k + 1) * Z) = min m (k * Z + Z) by rw [Nat.succ_mul])
      have HK2 := Lib.hid (show k + 1 < N → k * Z + Z < m by
        intro h
        have := (chunk_lt hZ).1 (show k + 1 < chunkN m Z by rw [HNN.out]; exact h)
        rwa [Nat.succ_mul] at this)
      rw [HRR.out]
      obtain ⟨q, hq⟩ : ∃ q, k * Z = q := ⟨_, rfl⟩
      obtain ⟨r, hr⟩ : ∃ r, min m (q + Z) = r := ⟨_, rfl⟩
      have HC2 := Lib.hid (show chunkL m Z k = r - q by unfold chunkL; omega)
      rw [HC2.out, hq] at RD
      rw [hq, hr] at HRR
      rw [hq] at HK2 hkz ⊢
      rw [hr]
      have HQM := Lib.hid (show min m q = q by omega)
      rw [HQM.out]
      obtain ⟨e, he⟩ : ∃ e, r - q = e := ⟨_, rfl⟩
      have hw : IntKind.i64.wrap ((r : Int) - (q : Int)) = (e : Int) := by rw [IntWalk.i64_in _ ⟨by omega, by omega⟩]; omega
      have hw2 : IntKind.i64.wrap ((k : Int) + 1) = (k : Int) + 1 := IntWalk.i64_in _ ⟨by omega, by omega⟩
      have f1 : decide (r ≤ q) = false := by simp; omega
      have f2 : decide (Z < e) = false := by simp; omega
      have u1 : (0 : Int) ≤ (q : Int) := by omega
      have u2 : q ≤ m := by omega
      have u3 : ¬ (c = q) := by omega
      have u6 : q ≤ r := by omega
      have u7 : r ≤ c := by omega
      have u8 : ¬ (r = q) := by omega
      have hem : e ≤ 2000 := by omega
      have hrq : r - q ≤ 2000 := by omega
      clear AP HCL hkN b8 BB XR hq HC2 HQM
      go_upto_region 13 with fail
      by_cases hez : e < Z
      · have f3 : decide (e < Z) = true := by simpa using hez
        have hk1 : ¬ k + 1 < N := fun h => by have := HK2.out h; omega
        have f4 : decide (k + 1 < N) = false := by simpa using hk1
        have f5 : decide ((k : Int) + 1 < (N : Int)) = false := by simp; omega
        clear he hr hez hk1 HK2
        refine wp_region_tree (SK.one 0 false <| .one 1 false <| .one 2 false <| .one 3 false <| .one 4 false <| .one 5 false <| .one 6 false <| .one 7 false <| .one 8 false <| .one 9 false <| .one 10 false <| .one 11 false <| .one 12 false <| .one 13 false <| .one 14 false <| .one 15 false <| .one 16 false <| .one 17 false <| .one 18 false <| .one 19 false <| .one 20 false <| .one 21 false <| .one 22 false <| .one 23 false <| .one 24 false <| .one 25 false <| .one 26 false <| .one 27 false <| .one 28 false <| .one 29 false <| .one 30 false <| .one 31 false <| .one 32 false <| .one 33 false <| .one 34 false <| .one 35 false <| .one 36 false <| .one 37 false <| .one 38 false <| .one 39 false <| .one 40 false <| .one 41 true <| .one 42 true <| .one 43 false <| .one 44 false .done) (fun V => V.cell? ⟨g7, 2, none⟩ = some (.slice A5 N c5) ∧ V.heap[g7]? = some (.cells #[.int .i64 (Z : Int), .int .i64 (m : Int), .slice A5 N c5] 24 (0, 0))) (by kernel_rfl) (by kernel_rfl) (by kernel_rfl) (by kernel_rfl) ?_
        have hS : w8.drew.cell? ⟨g7, 2, none⟩ = some (.slice A5 N c5) ∧ w8.drew.heap[g7]? = some (.cells #[.int .i64 (Z : Int), .int .i64 (m : Int), .slice A5 N c5] 24 (0, 0)) := ⟨c72, X8.out⟩
        have BR := Lib.hid B8.out.drew
        generalize w8.drew = w9 at *
        clear c72 X8 B8
        ((first | (refine TR.val2 (v := ?_) _ (by simp only [List.getElem?_toArray, List.getElem?_cons_zero]; rfl) ?_ ?_ ?_ ?_ ?_; rotate_left; (focus rfl); (focus (intro W hSW; (try dsimp only at hSW); (try (obtain ⟨hS1, hSW⟩ := hSW)); (try (obtain ⟨hS2, hSW⟩ := hSW)); (try (obtain ⟨hS3, hSW⟩ := hSW)); (try (obtain ⟨hS4, hSW⟩ := hSW)); (try (obtain ⟨hS5, hSW⟩ := hSW)); go_simp; (try with_reducible rfl); done)); (focus exact fun _ _ _ h => h); (focus assumption)) | (refine TR.skip _ (by simp only [List.getElem?_toArray, List.getElem?_cons_zero]; rfl) ?_ ?_ ?_ ?_; (focus rfl); (focus exact fun _ _ _ h => h); (focus assumption))); simp only [Act.put, List.setIfInBounds_toArray, List.set_cons_zero, List.set_cons_succ])
        iterate 34 ((first | (refine TR.val2 (v := ?_) _ (by simp only [List.getElem?_toArray, List.getElem?_cons_succ, List.getElem?_cons_zero]; rfl) ?_ ?_ ?_ ?_ ?_; rotate_left; (focus rfl); (focus (intro W hSW; (try dsimp only at hSW); (try (obtain ⟨hS1, hSW⟩ := hSW)); (try (obtain ⟨hS2, hSW⟩ := hSW)); (try (obtain ⟨hS3, hSW⟩ := hSW)); (try (obtain ⟨hS4, hSW⟩ := hSW)); (try (obtain ⟨hS5, hSW⟩ := hSW)); go_simp; (try with_reducible rfl); done)); (focus exact fun _ _ _ h => h); (focus assumption)) | (refine TR.skip _ (by simp only [List.getElem?_toArray, List.getElem?_cons_succ, List.getElem?_cons_zero]; rfl) ?_ ?_ ?_ ?_; (focus rfl); (focus exact fun _ _ _ h => h); (focus assumption))); simp only [Act.put, List.setIfInBounds_toArray, List.set_cons_zero, List.set_cons_succ])
        refine TR.val2 (v := .agg #[.int .i64 (Z : Int), .int .i64 (m : Int), .slice A5 N c5]) _ (by simp only [List.getElem?_toArray, List.getElem?_cons_succ, List.getElem?_cons_zero]; rfl) ?_ ?_ ?_ ?_ ?_
        (focus rfl)
        (focus exact fun V hV => exec_load_slot 24 (.tmp 7) rfl ⟨g7, 0, none⟩ rfl [.int .i64 (Z : Int), .int .i64 (m : Int), .slice A5 N c5] _ (row_cells hV.2) Try.underlying24 rfl HI.out)
        (focus exact fun _ _ _ h => h)
        (focus exact hS)
        simp only [Act.put, List.setIfInBounds_toArray, List.set_cons_zero, List.set_cons_succ]
        iterate 5 ((first | (refine TR.val2 (v := ?_) _ (by simp only [List.getElem?_toArray, List.getElem?_cons_succ, List.getElem?_cons_zero]; rfl) ?_ ?_ ?_ ?_ ?_; rotate_left; (focus rfl); (focus (intro W hSW; (try dsimp only at hSW); (try (obtain ⟨hS1, hSW⟩ := hSW)); (try (obtain ⟨hS2, hSW⟩ := hSW)); (try (obtain ⟨hS3, hSW⟩ := hSW)); (try (obtain ⟨hS4, hSW⟩ := hSW)); (try (obtain ⟨hS5, hSW⟩ := hSW)); go_simp; (try with_reducible rfl); done)); (focus exact fun _ _ _ h => h); (focus assumption)) | (refine TR.skip _ (by simp only [List.getElem?_toArray, List.getElem?_cons_succ, List.getElem?_cons_zero]; rfl) ?_ ?_ ?_ ?_; (focus rfl); (focus exact fun _ _ _ h => h); (focus assumption))); simp only [Act.put, List.setIfInBounds_toArray, List.set_cons_zero, List.set_cons_succ])
        refine TR.eff _ (by simp only [List.getElem?_toArray, List.getElem?_cons_succ, List.getElem?_cons_zero]; rfl) (by rfl) (fun K hK => ?_); go_simp
        refine (own_any w9.heap.size _ _ _ (chunkB L Z k) w9 (RD.out w9 (B7B.out.trans (BR.out.mono (by omega)))) (Nat.le_refl _) (by omega)).mono ?_
        rintro e w10 ⟨A10, c10, rfl, ho10, b10⟩
        have B10 := Lib.hid (BR.out.trans (b10.mono BR.out.size))
        have O10 := Lib.hid ho10.reads
        have X10 := (b10.block g7 (by have := BR.out.size; omega)).trans hS.2
        have hS2 : w10.cell? ⟨g7, 2, none⟩ = some (.slice A5 N c5) ∧ w10.heap[g7]? = some (.cells #[.int .i64 (Z : Int), .int .i64 (m : Int), .slice A5 N c5] 24 (0, 0)) := ⟨by rw [cell_of_row _ _ 2 _ _ _ X10]; rfl, X10⟩
        refine hK.out _ _ hS2 ?_
        clear hK hS X10 BR b10 ho10
        have hS := hS2
        clear hS2
        (try simp only [Act.put, List.setIfInBounds_toArray, List.set_cons_zero, List.set_cons_succ])
        refine TR.eff _ (by simp only [List.getElem?_toArray, List.getElem?_cons_succ, List.getElem?_cons_zero]; rfl) (by rfl) (fun K hK => ?_); go_simp
        refine (fits_v (Z : Int) (m : Int) (k : Int) A5 A10 N c5 _ c10 w10.heap.size (cutL L Z) (chunkB L Z k) w10 (Reads.more (D7.out.below (B10.out.mono hB7)) (by have := B10.out.size; omega)) O10.out (Nat.le_refl _) (by omega) (by omega)).mono ?_
        rw [FC.out]
        rintro e w11 ⟨rfl, b11⟩
        have B11 := Lib.hid (B10.out.trans (b11.mono B10.out.size))
        have X11 := (b11.block g7 (by have := B10.out.size; omega)).trans hS.2
        have hS2 : w11.cell? ⟨g7, 2, none⟩ = some (.slice A5 N c5) ∧ w11.heap[g7]? = some (.cells #[.int .i64 (Z : Int), .int .i64 (m : Int), .slice A5 N c5] 24 (0, 0)) := ⟨by rw [cell_of_row _ _ 2 _ _ _ X11]; rfl, X11⟩
        refine hK.out _ _ hS2 ?_
        clear hK hS X11 b11 B10 O10
        have hS := hS2
        clear hS2
        (try simp only [Act.put, List.setIfInBounds_toArray, List.set_cons_zero, List.set_cons_succ])
        iterate 2 ((first | (refine TR.val2 (v := ?_) _ (by simp only [List.getElem?_toArray, List.getElem?_cons_succ, List.getElem?_cons_zero]; rfl) ?_ ?_ ?_ ?_ ?_; rotate_left; (focus rfl); (focus (intro W hSW; (try dsimp only at hSW); (try (obtain ⟨hS1, hSW⟩ := hSW)); (try (obtain ⟨hS2, hSW⟩ := hSW)); (try (obtain ⟨hS3, hSW⟩ := hSW)); (try (obtain ⟨hS4, hSW⟩ := hSW)); (try (obtain ⟨hS5, hSW⟩ := hSW)); go_simp; (try with_reducible rfl); done)); (focus exact fun _ _ _ h => h); (focus assumption)) | (refine TR.skip _ (by simp only [List.getElem?_toArray, List.getElem?_cons_succ, List.getElem?_cons_zero]; rfl) ?_ ?_ ?_ ?_; (focus rfl); (focus exact fun _ _ _ h => h); (focus assumption))); simp only [Act.put, List.setIfInBounds_toArray, List.set_cons_zero, List.set_cons_succ])
        refine TR.done ?_
        clear hS
        go_wp2
        go_roundw
        case rel => exact ⟨k + 1, hlt, by go_num, by rw [HRR.out], B11.out⟩
        case measure => simp [intOf]; omega
      · have f3 : decide (e < Z) = false := by simpa using hez
        clear he hr hez HK2
        refine wp_region_tree (SK.one 0 false <| .one 1 false <| .one 2 false <| .one 3 false <| .one 4 false <| .one 5 false <| .one 6 false <| .one 7 false <| .one 8 false <| .one 9 false <| .one 10 false <| .one 11 false <| .one 12 false <| .one 13 false <| .one 14 false <| .one 15 false <| .one 16 false <| .one 17 false <| .one 18 false <| .one 19 false <| .one 20 false <| .one 21 false <| .one 22 false <| .one 23 false <| .one 24 false <| .one 25 false <| .one 26 false <| .one 27 false <| .one 28 false <| .one 29 false <| .one 30 false <| .one 31 false <| .one 32 false <| .one 33 false <| .one 34 false <| .one 35 false <| .one 36 false <| .one 37 false <| .one 38 false <| .one 39 false <| .one 40 false <| .one 41 true <| .one 42 true <| .one 43 false <| .one 44 false .done) (fun V => V.cell? ⟨g7, 2, none⟩ = some (.slice A5 N c5) ∧ V.heap[g7]? = some (.cells #[.int .i64 (Z : Int), .int .i64 (m : Int), .slice A5 N c5] 24 (0, 0))) (by kernel_rfl) (by kernel_rfl) (by kernel_rfl) (by kernel_rfl) ?_
        have hS : w8.drew.cell? ⟨g7, 2, none⟩ = some (.slice A5 N c5) ∧ w8.drew.heap[g7]? = some (.cells #[.int .i64 (Z : Int), .int .i64 (m : Int), .slice A5 N c5] 24 (0, 0)) := ⟨c72, X8.out⟩
        have BR := Lib.hid B8.out.drew
        generalize w8.drew = w9 at *
        clear c72 X8 B8
        ((first | (refine TR.val2 (v := ?_) _ (by simp only [List.getElem?_toArray, List.getElem?_cons_zero]; rfl) ?_ ?_ ?_ ?_ ?_; rotate_left; (focus rfl); (focus (intro W hSW; (try dsimp only at hSW); (try (obtain ⟨hS1, hSW⟩ := hSW)); (try (obtain ⟨hS2, hSW⟩ := hSW)); (try (obtain ⟨hS3, hSW⟩ := hSW)); (try (obtain ⟨hS4, hSW⟩ := hSW)); (try (obtain ⟨hS5, hSW⟩ := hSW)); go_simp; (try with_reducible rfl); done)); (focus exact fun _ _ _ h => h); (focus assumption)) | (refine TR.skip _ (by simp only [List.getElem?_toArray, List.getElem?_cons_zero]; rfl) ?_ ?_ ?_ ?_; (focus rfl); (focus exact fun _ _ _ h => h); (focus assumption))); simp only [Act.put, List.setIfInBounds_toArray, List.set_cons_zero, List.set_cons_succ])
        iterate 34 ((first | (refine TR.val2 (v := ?_) _ (by simp only [List.getElem?_toArray, List.getElem?_cons_succ, List.getElem?_cons_zero]; rfl) ?_ ?_ ?_ ?_ ?_; rotate_left; (focus rfl); (focus (intro W hSW; (try dsimp only at hSW); (try (obtain ⟨hS1, hSW⟩ := hSW)); (try (obtain ⟨hS2, hSW⟩ := hSW)); (try (obtain ⟨hS3, hSW⟩ := hSW)); (try (obtain ⟨hS4, hSW⟩ := hSW)); (try (obtain ⟨hS5, hSW⟩ := hSW)); go_simp; (try with_reducible rfl); done)); (focus exact fun _ _ _ h => h); (focus assumption)) | (refine TR.skip _ (by simp only [List.getElem?_toArray, List.getElem?_cons_succ, List.getElem?_cons_zero]; rfl) ?_ ?_ ?_ ?_; (focus rfl); (focus exact fun _ _ _ h => h); (focus assumption))); simp only [Act.put, List.setIfInBounds_toArray, List.set_cons_zero, List.set_cons_succ])
        refine TR.val2 (v := .agg #[.int .i64 (Z : Int), .int .i64 (m : Int), .slice A5 N c5]) _ (by simp only [List.getElem?_toArray, List.getElem?_cons_succ, List.getElem?_cons_zero]; rfl) ?_ ?_ ?_ ?_ ?_
        (focus rfl)
        (focus exact fun V hV => exec_load_slot 24 (.tmp 7) rfl ⟨g7, 0, none⟩ rfl [.int .i64 (Z : Int), .int .i64 (m : Int), .slice A5 N c5] _ (row_cells hV.2) Try.underlying24 rfl HI.out)
        (focus exact fun _ _ _ h => h)
        (focus exact hS)
        simp only [Act.put, List.setIfInBounds_toArray, List.set_cons_zero, List.set_cons_succ]
        iterate 5 ((first | (refine TR.val2 (v := ?_) _ (by simp only [List.getElem?_toArray, List.getElem?_cons_succ, List.getElem?_cons_zero]; rfl) ?_ ?_ ?_ ?_ ?_; rotate_left; (focus rfl); (focus (intro W hSW; (try dsimp only at hSW); (try (obtain ⟨hS1, hSW⟩ := hSW)); (try (obtain ⟨hS2, hSW⟩ := hSW)); (try (obtain ⟨hS3, hSW⟩ := hSW)); (try (obtain ⟨hS4, hSW⟩ := hSW)); (try (obtain ⟨hS5, hSW⟩ := hSW)); go_simp; (try with_reducible rfl); done)); (focus exact fun _ _ _ h => h); (focus assumption)) | (refine TR.skip _ (by simp only [List.getElem?_toArray, List.getElem?_cons_succ, List.getElem?_cons_zero]; rfl) ?_ ?_ ?_ ?_; (focus rfl); (focus exact fun _ _ _ h => h); (focus assumption))); simp only [Act.put, List.setIfInBounds_toArray, List.set_cons_zero, List.set_cons_succ])
        refine TR.eff _ (by simp only [List.getElem?_toArray, List.getElem?_cons_succ, List.getElem?_cons_zero]; rfl) (by rfl) (fun K hK => ?_); go_simp
        refine (own_any w9.heap.size _ _ _ (chunkB L Z k) w9 (RD.out w9 (B7B.out.trans (BR.out.mono (by omega)))) (Nat.le_refl _) (by omega)).mono ?_
        rintro e w10 ⟨A10, c10, rfl, ho10, b10⟩
        have B10 := Lib.hid (BR.out.trans (b10.mono BR.out.size))
        have O10 := Lib.hid ho10.reads
        have X10 := (b10.block g7 (by have := BR.out.size; omega)).trans hS.2
        have hS2 : w10.cell? ⟨g7, 2, none⟩ = some (.slice A5 N c5) ∧ w10.heap[g7]? = some (.cells #[.int .i64 (Z : Int), .int .i64 (m : Int), .slice A5 N c5] 24 (0, 0)) := ⟨by rw [cell_of_row _ _ 2 _ _ _ X10]; rfl, X10⟩
        refine hK.out _ _ hS2 ?_
        clear hK hS X10 BR b10 ho10
        have hS := hS2
        clear hS2
        (try simp only [Act.put, List.setIfInBounds_toArray, List.set_cons_zero, List.set_cons_succ])
        refine TR.eff _ (by simp only [List.getElem?_toArray, List.getElem?_cons_succ, List.getElem?_cons_zero]; rfl) (by rfl) (fun K hK => ?_); go_simp
        refine (fits_v (Z : Int) (m : Int) (k : Int) A5 A10 N c5 _ c10 w10.heap.size (cutL L Z) (chunkB L Z k) w10 (Reads.more (D7.out.below (B10.out.mono hB7)) (by have := B10.out.size; omega)) O10.out (Nat.le_refl _) (by omega) (by omega)).mono ?_
        rw [FC.out]
        rintro e w11 ⟨rfl, b11⟩
        have B11 := Lib.hid (B10.out.trans (b11.mono B10.out.size))
        have X11 := (b11.block g7 (by have := B10.out.size; omega)).trans hS.2
        have hS2 : w11.cell? ⟨g7, 2, none⟩ = some (.slice A5 N c5) ∧ w11.heap[g7]? = some (.cells #[.int .i64 (Z : Int), .int .i64 (m : Int), .slice A5 N c5] 24 (0, 0)) := ⟨by rw [cell_of_row _ _ 2 _ _ _ X11]; rfl, X11⟩
        refine hK.out _ _ hS2 ?_
        clear hK hS X11 b11 B10 O10
        have hS := hS2
        clear hS2
        (try simp only [Act.put, List.setIfInBounds_toArray, List.set_cons_zero, List.set_cons_succ])
        iterate 2 ((first | (refine TR.val2 (v := ?_) _ (by simp only [List.getElem?_toArray, List.getElem?_cons_succ, List.getElem?_cons_zero]; rfl) ?_ ?_ ?_ ?_ ?_; rotate_left; (focus rfl); (focus (intro W hSW; (try dsimp only at hSW); (try (obtain ⟨hS1, hSW⟩ := hSW)); (try (obtain ⟨hS2, hSW⟩ := hSW)); (try (obtain ⟨hS3, hSW⟩ := hSW)); (try (obtain ⟨hS4, hSW⟩ := hSW)); (try (obtain ⟨hS5, hSW⟩ := hSW)); go_simp; (try with_reducible rfl); done)); (focus exact fun _ _ _ h => h); (focus assumption)) | (refine TR.skip _ (by simp only [List.getElem?_toArray, List.getElem?_cons_succ, List.getElem?_cons_zero]; rfl) ?_ ?_ ?_ ?_; (focus rfl); (focus exact fun _ _ _ h => h); (focus assumption))); simp only [Act.put, List.setIfInBounds_toArray, List.set_cons_zero, List.set_cons_succ])
        refine TR.done ?_
        clear hS
        go_wp2
        go_roundw
        case rel => exact ⟨k + 1, hlt, by go_num, by rw [HRR.out], B11.out⟩
        case measure => simp [intOf]; omega
    · obtain rfl : k = N := by omega
      have HEN := Lib.hid (show min m (k * Z) = m by have := chunkN_end (m := m) hZ; rw [HNN.out] at this; omega)
      rw [HEN.out]
      have HWH := Lib.hid (whole_cut HLL.out hZ (show Z ≤ 65536 by omega) (show m ≤ 4194304 by omega) (by rw [HNN.out]; exact hN4))
      have AE := Lib.hid (show atP (Z : Int) (m : Int) k (k : Int) = (0, 0, false) by have := atP_end (m := m) (Z := Z); rwa [HNN.out] at this)
      obtain ⟨M, hM⟩ : ∃ M, m / Z = M := ⟨_, rfl⟩
      have hMm : M ≤ m := by rw [← hM]; exact Nat.div_le_self _ _
      have hMZ : M * Z ≤ m := by rw [← hM]; exact Nat.div_mul_le_self _ _
      have hq1 : (m : Int).tdiv (Z : Int) = (M : Int) := by rw [Int.tdiv_eq_ediv_of_nonneg (by omega), ← hM]; rfl
      have hq2 : (m : Int) / (Z : Int) = (M : Int) := by rw [← hM]; rfl
      have hq3 : IntKind.i64.wrap ((M : Int) + 1) = ((M + 1 : Nat) : Int) := by rw [IntWalk.i64_in _ ⟨by omega, by omega⟩]; rfl
      have hz0 : (Z : Int) ≠ 0 := by omega
      have hz1 : (Z : Int) ≠ -1 := by omega
      clear hM
      go_wp2_with (first
        | (refine wpList_load_row rfl 24 (.tmp 7) rfl g7 rfl 24 _ (0, 0) _ XR.out Try.underlying24 rfl HI.out ?_)
        | fail)
      refine (at_v (Z : Int) (m : Int) (k : Int) A5 k c5 wr (by omega)).mono ?_
      rw [AE.out]
      rintro e w8 ⟨rfl, b8⟩
      have B8 := Lib.hid (BB.out.trans (b8.mono BB.out.size))
      have X8 := Lib.hid ((b8.block g7 (by have := BB.out.size; omega)).trans XR.out)
      clear b8 BB XR c72 AE
      go_wp2_with fail
      have PV := pick_any nn (M + 1) w8 (by omega) (by omega)
      refine PV.mono ?_
      rintro e _ ⟨rfl, rfl⟩
      have hp0 := Int.emod_nonneg nn (show ((M + 1 : Nat) : Int) ≠ 0 by omega)
      have hp1 := Int.emod_lt_of_pos nn (show (0 : Int) < ((M + 1 : Nat) : Int) by omega)
      obtain ⟨pz, hpz⟩ : ∃ pz : Int, nn % ((M + 1 : Nat) : Int) = pz := ⟨_, rfl⟩
      rw [hpz] at hp0 hp1 ⊢
      obtain ⟨p, rfl⟩ : ∃ p : Nat, pz = (p : Int) := ⟨pz.toNat, by omega⟩
      have hpM : p ≤ M := by omega
      have hpZ : p * Z ≤ m := Nat.le_trans (Nat.mul_le_mul_right Z hpM) hMZ
      have HAP := Lib.hid (cutL_append HLL.out hZ hpZ)
      have HSP := Lib.hid (chunkN_split hZ hpZ)
      rw [HNN.out] at HSP
      have HFU := Lib.hid (chunkN_full (q := p) hZ)
      obtain ⟨KB, hK⟩ : ∃ KB, p * Z = KB := ⟨_, rfl⟩
      have hw3 : IntKind.i64.wrap ((p : Int) * (Z : Int)) = (KB : Int) := by rw [← hK, IntWalk.i64_in _ ⟨by have := Int.mul_nonneg hp0 (show (0 : Int) ≤ (Z : Int) by omega); omega, by rw [← Int.natCast_mul]; omega⟩, Int.natCast_mul]
      rw [hK] at hpZ HAP HSP HFU
      clear hK hpz hp0 hp1 hMZ hMm PV hpM
      have hKc : KB ≤ c := by omega
      have k0 : (0 : Int) ≤ (KB : Int) := by omega
      have RT := Lib.hid (show ∀ V, Below w.heap.size w V → BReads V w.heap.size A KB (L.take KB) from fun V hV => by
        have h1 := Reads.take (Reads.below HR.out hV) hpZ
        rwa [← List.map_take] at h1)
      have RC := Lib.hid (show ∀ V, Below w.heap.size w V → BReads V w.heap.size (if c = KB then A else Option.map (fun x => x.add KB) A) (m - KB) (L.drop KB) from fun V hV => by
        have h1 := Reads.cut (Reads.below HR.out hV) (k := KB) (cap := c) hpZ hmc
        rw [← List.map_drop] at h1
        simp only [Nat.mul_one] at h1
        exact h1)
      obtain ⟨N2, hN2⟩ : ∃ N2, chunkN (m - KB) Z = N2 := ⟨_, rfl⟩
      rw [hN2] at HSP
      obtain ⟨A', hif⟩ : ∃ A', (if c = KB then A else Option.map (fun x => x.add KB) A) = A' := ⟨_, rfl⟩
      rw [hif] at RC
      have hLT : (L.take KB).length = KB := by rw [List.length_take, HLL.out]; omega
      have hLD : (L.drop KB).length = m - KB := by rw [List.length_drop, HLL.out]
      have C1 := Lib.hid (show cutP (L.take KB) (Z : Int) = (0, (Z : Int), (KB : Int), cutL (L.take KB) Z) by
        have := cutP_of hLT hZ (show Z ≤ 65536 by omega) (show KB ≤ 4194304 by omega)
        rwa [HFU.out, if_neg (by have := HSP.out; omega)] at this)
      have C2 := Lib.hid (show cutP (L.drop KB) (Z : Int) = (0, (Z : Int), ((m - KB : Nat) : Int), cutL (L.drop KB) Z) by
        have := cutP_of hLD hZ (show Z ≤ 65536 by omega) (show m - KB ≤ 4194304 by omega)
        rwa [hN2, if_neg (by have := HSP.out; omega)] at this)
      have L1 := Lib.hid (show (cutL (L.take KB) Z).length = p by rw [cutL_len hLT, HFU.out])
      have L2 := Lib.hid (show (cutL (L.drop KB) Z).length = N2 by rw [cutL_len hLD, hN2])
      have W7 := Lib.hid (fun V (hV : Below w7.heap.size w7 V) => B7B.out.trans (hV.mono (by omega)))
      have hp4 : p ≤ 1024 := by have := HSP.out; omega
      have hn24 : N2 ≤ 1024 := by have := HSP.out; omega
      have hmK : m - KB ≤ 2000 := by omega
      have hw7 : w.heap.size ≤ w7.heap.size := by omega
      clear hN2 hLT hLD HFU
      go_wp2_with fail
      refine (own_any w.heap.size A KB c (L.take KB) w8 (RT.out w8 (W7.out _ B8.out)) (by have := B8.out.size; omega) (by omega)).mono ?_
      rintro e w9 ⟨A9, c9, rfl, ho9, b9⟩
      have B9 := Lib.hid (B8.out.trans (b9.mono B8.out.size))
      have O9 := Lib.hid ho9.reads
      have hc9 := ho9.2
      clear b9 ho9
      go_wp2_with fail
      refine (cut_is O9.out (by omega) hc9 0 p 0 (Z : Int) (KB : Int) (cutL (L.take KB) Z) C1.out L1.out rfl).mono ?_
      rintro e w10 ⟨A10, c10, rfl, d10, b10⟩
      have B10 := Lib.hid (B9.out.trans (b10.mono B9.out.size))
      have B11 := Lib.hid (B10.out.alloc B10.out.size (.cells #[.int .i64 (Z : Int), .int .i64 (KB : Int), .slice A10 p c10] 24))
      have Y11 := Lib.hid (heap_alloc_new w10 (.cells #[.int .i64 (Z : Int), .int .i64 (KB : Int), .slice A10 p c10] 24))
      have D11 := Lib.hid (d10.below ((Below.refl w10.heap.size w10).alloc (Nat.le_refl _) (.cells #[.int .i64 (Z : Int), .int .i64 (KB : Int), .slice A10 p c10] 24)))
      have z11 : (w10.alloc (.cells #[.int .i64 (Z : Int), .int .i64 (KB : Int), .slice A10 p c10] 24)).heap.size = w10.heap.size + 1 := by simp
      have z10 := B10.out.size
      clear b10 d10 O9
      go_wp2_with fail
      generalize w10.alloc (.cells #[.int .i64 (Z : Int), .int .i64 (KB : Int), .slice A10 p c10] 24) = w11 at *
      generalize w10.heap.size = g18 at *
      refine (own_any w.heap.size A' (m - KB) (c - KB) (L.drop KB) w11 (RC.out w11 (W7.out _ B11.out)) (by have := B11.out.size; omega) (by omega)).mono ?_
      rintro e w12 ⟨A12, c12, rfl, ho12, b12⟩
      have B12 := Lib.hid (B11.out.trans (b12.mono B11.out.size))
      have O12 := Lib.hid ho12.reads
      have hc12 := ho12.2
      have Y12 := Lib.hid ((b12.block g18 (by omega)).trans Y11.out)
      have D12 := Lib.hid (D11.out.below (b12.mono (by omega)))
      have z12 := b12.size
      clear b12 ho12 Y11 D11
      go_wp2_with fail
      refine (cut_is O12.out (by omega) hc12 0 N2 0 (Z : Int) ((m - KB : Nat) : Int) (cutL (L.drop KB) Z) C2.out L2.out rfl).mono ?_
      rintro e w13 ⟨A13, c13, rfl, d13, b13⟩
      have B13 := Lib.hid (B12.out.trans (b13.mono B12.out.size))
      have z13 := b13.size
      have BA := (Below.refl w13.heap.size w13).alloc (Nat.le_refl _) (.cells #[.int .i64 (Z : Int), .int .i64 ((m - KB : Nat) : Int), .slice A13 N2 c13] 24)
      have B14 := Lib.hid (B13.out.trans (BA.mono B13.out.size))
      have Y14 := Lib.hid ((BA.block g18 (by omega)).trans ((b13.block g18 (by omega)).trans Y12.out))
      have Z14 := Lib.hid (heap_alloc_new w13 (.cells #[.int .i64 (Z : Int), .int .i64 ((m - KB : Nat) : Int), .slice A13 N2 c13] 24))
      have X14 := Lib.hid ((B14.out.block g7 (by omega)).trans X7.out)
      have D14 := Lib.hid ((D12.out.below (b13.mono (by omega))).below (BA.mono (by omega)))
      have E14 := Lib.hid (d13.below BA)
      have F14 := Lib.hid (D7.out.below (B14.out.mono hB7))
      have z14 : (w13.alloc (.cells #[.int .i64 (Z : Int), .int .i64 ((m - KB : Nat) : Int), .slice A13 N2 c13] 24)).heap.size = w13.heap.size + 1 := by simp
      clear b13 d13 O12 BA Y12 D12
      go_upto_region 20 with fail
      generalize w13.alloc (.cells #[.int .i64 (Z : Int), .int .i64 ((m - KB : Nat) : Int), .slice A13 N2 c13] 24) = w14 at *
      generalize w13.heap.size = g20 at *
      have KS := Lib.hid (show ∀ V : World, Below w14.heap.size w14 V → V.cell? ⟨g7, 2, none⟩ = some (.slice A5 k c5) ∧ V.cell? ⟨g18, 2, none⟩ = some (.slice A10 p c10) ∧ V.cell? ⟨g20, 2, none⟩ = some (.slice A13 N2 c13) ∧ V.heap[g7]? = some (.cells #[.int .i64 (Z : Int), .int .i64 (m : Int), .slice A5 k c5] 24 (0, 0)) from fun V hV => by
        have x1 := (hV.block g7 (by omega)).trans X14.out
        have y1 := (hV.block g18 (by omega)).trans Y14.out
        have t1 := (hV.block g20 (by omega)).trans Z14.out
        exact ⟨by rw [cell_of_row _ _ 2 _ _ _ x1]; rfl, by rw [cell_of_row _ _ 2 _ _ _ y1]; rfl, by rw [cell_of_row _ _ 2 _ _ _ t1]; rfl, x1⟩)
      have RF := Lib.hid (Reads.below HR.out (W7.out _ B14.out))
      clear X14 Y14 Z14 RT RC
      refine wp_region_tree (SK.one 0 false <| .one 1 false <| .one 2 false <| .one 3 false <| .one 4 false <| .one 5 false <| .one 6 false <| .one 7 false <| .one 8 false <| .one 9 false <| .one 10 false <| .one 11 true <| .one 12 true <| .one 13 false <| .one 14 false <| .one 15 false <| .one 16 false <| .one 17 false <| .one 18 false <| .one 19 false <| .one 20 false <| .one 21 false <| .one 22 false <| .one 24 false <| .one 25 false <| .one 27 false <| .one 28 false <| .one 30 false <| .one 31 false <| .one 23 true <| .one 26 true <| .one 29 true <| .one 32 true <| .one 33 false <| .one 34 false .done) (fun V => V.cell? ⟨g7, 2, none⟩ = some (.slice A5 k c5) ∧ V.cell? ⟨g18, 2, none⟩ = some (.slice A10 p c10) ∧ V.cell? ⟨g20, 2, none⟩ = some (.slice A13 N2 c13) ∧ V.heap[g7]? = some (.cells #[.int .i64 (Z : Int), .int .i64 (m : Int), .slice A5 k c5] 24 (0, 0))) (by kernel_rfl) (by kernel_rfl) (by kernel_rfl) (by kernel_rfl) ?_
      have BW := Lib.hid ((Below.refl w14.heap.size w14).drew)
      have hS := KS.out _ BW.out
      generalize w14.drew = w15 at *
      ((first | (refine TR.val2 (v := ?_) _ (by simp only [List.getElem?_toArray, List.getElem?_cons_zero]; rfl) ?_ ?_ ?_ ?_ ?_; rotate_left; (focus rfl); (focus (intro W hSW; (try dsimp only at hSW); (try (obtain ⟨hS1, hSW⟩ := hSW)); (try (obtain ⟨hS2, hSW⟩ := hSW)); (try (obtain ⟨hS3, hSW⟩ := hSW)); (try (obtain ⟨hS4, hSW⟩ := hSW)); (try (obtain ⟨hS5, hSW⟩ := hSW)); go_simp; (try with_reducible rfl); done)); (focus exact fun _ _ _ h => h); (focus assumption)) | (refine TR.skip _ (by simp only [List.getElem?_toArray, List.getElem?_cons_zero]; rfl) ?_ ?_ ?_ ?_; (focus rfl); (focus exact fun _ _ _ h => h); (focus assumption))); simp only [Act.put, List.setIfInBounds_toArray, List.set_cons_zero, List.set_cons_succ])
      iterate 8 ((first | (refine TR.val2 (v := ?_) _ (by simp only [List.getElem?_toArray, List.getElem?_cons_succ, List.getElem?_cons_zero]; rfl) ?_ ?_ ?_ ?_ ?_; rotate_left; (focus rfl); (focus (intro W hSW; (try dsimp only at hSW); (try (obtain ⟨hS1, hSW⟩ := hSW)); (try (obtain ⟨hS2, hSW⟩ := hSW)); (try (obtain ⟨hS3, hSW⟩ := hSW)); (try (obtain ⟨hS4, hSW⟩ := hSW)); (try (obtain ⟨hS5, hSW⟩ := hSW)); go_simp; (try with_reducible rfl); done)); (focus exact fun _ _ _ h => h); (focus assumption)) | (refine TR.skip _ (by simp only [List.getElem?_toArray, List.getElem?_cons_succ, List.getElem?_cons_zero]; rfl) ?_ ?_ ?_ ?_; (focus rfl); (focus exact fun _ _ _ h => h); (focus assumption))); simp only [Act.put, List.setIfInBounds_toArray, List.set_cons_zero, List.set_cons_succ])
      refine TR.val2 (v := .agg #[.int .i64 (Z : Int), .int .i64 (m : Int), .slice A5 k c5]) _ (by simp only [List.getElem?_toArray, List.getElem?_cons_succ, List.getElem?_cons_zero]; rfl) ?_ ?_ ?_ ?_ ?_
      (focus rfl)
      (focus exact fun V hV => exec_load_slot 24 (.tmp 7) rfl ⟨g7, 0, none⟩ rfl [.int .i64 (Z : Int), .int .i64 (m : Int), .slice A5 k c5] _ (row_cells hV.2.2.2) Try.underlying24 rfl HI.out)
      (focus exact fun _ _ _ h => h)
      (focus exact hS)
      simp only [Act.put, List.setIfInBounds_toArray, List.set_cons_zero, List.set_cons_succ]
      iterate 1 ((first | (refine TR.val2 (v := ?_) _ (by simp only [List.getElem?_toArray, List.getElem?_cons_succ, List.getElem?_cons_zero]; rfl) ?_ ?_ ?_ ?_ ?_; rotate_left; (focus rfl); (focus (intro W hSW; (try dsimp only at hSW); (try (obtain ⟨hS1, hSW⟩ := hSW)); (try (obtain ⟨hS2, hSW⟩ := hSW)); (try (obtain ⟨hS3, hSW⟩ := hSW)); (try (obtain ⟨hS4, hSW⟩ := hSW)); (try (obtain ⟨hS5, hSW⟩ := hSW)); go_simp; (try with_reducible rfl); done)); (focus exact fun _ _ _ h => h); (focus assumption)) | (refine TR.skip _ (by simp only [List.getElem?_toArray, List.getElem?_cons_succ, List.getElem?_cons_zero]; rfl) ?_ ?_ ?_ ?_; (focus rfl); (focus exact fun _ _ _ h => h); (focus assumption))); simp only [Act.put, List.setIfInBounds_toArray, List.set_cons_zero, List.set_cons_succ])
      refine TR.eff _ (by simp only [List.getElem?_toArray, List.getElem?_cons_succ, List.getElem?_cons_zero]; rfl) (by rfl) (fun K hK => ?_); go_simp
      refine (own_any w.heap.size A m c L w15 (Reads.below RF.out (BW.out.mono (by omega))) (by have := BW.out.size; omega) (by omega)).mono ?_
      rintro e w16 ⟨A16, c16, rfl, ho16, b16⟩
      have BW2 := Lib.hid (BW.out.trans (b16.mono BW.out.size))
      have O16 := Lib.hid ho16.reads
      have hc16 := ho16.2
      have hS2 := KS.out _ BW2.out
      refine hK.out _ _ hS2 ?_
      clear hK hS b16 ho16 BW
      have hS := hS2
      clear hS2
      (try simp only [Act.put, List.setIfInBounds_toArray, List.set_cons_zero, List.set_cons_succ])
      refine TR.eff _ (by simp only [List.getElem?_toArray, List.getElem?_cons_succ, List.getElem?_cons_zero]; rfl) (by rfl) (fun K hK => ?_); go_simp
      refine (whole_v (Z : Int) (m : Int) A5 A16 k c5 m c16 w16.heap.size (cutL L Z) L w16 (Reads.more (F14.out.below (BW2.out.mono (by omega))) (by have := BW2.out.size; omega)) O16.out (Nat.le_refl _) (by omega) (by omega) hc16).mono ?_
      rw [HWH.out]
      rintro e w17 ⟨rfl, b17⟩
      have BW3 := Lib.hid (BW2.out.trans (b17.mono BW2.out.size))
      have hS2 := KS.out _ BW3.out
      refine hK.out _ _ hS2 ?_
      clear hK hS b17 O16 BW2
      have hS := hS2
      clear hS2
      (try simp only [Act.put, List.setIfInBounds_toArray, List.set_cons_zero, List.set_cons_succ])
      iterate 16 ((first | (refine TR.val2 (v := ?_) _ (by simp only [List.getElem?_toArray, List.getElem?_cons_succ, List.getElem?_cons_zero]; rfl) ?_ ?_ ?_ ?_ ?_; rotate_left; (focus rfl); (focus (intro W hSW; (try dsimp only at hSW); (try (obtain ⟨hS1, hSW⟩ := hSW)); (try (obtain ⟨hS2, hSW⟩ := hSW)); (try (obtain ⟨hS3, hSW⟩ := hSW)); (try (obtain ⟨hS4, hSW⟩ := hSW)); (try (obtain ⟨hS5, hSW⟩ := hSW)); go_simp; (try with_reducible rfl); done)); (focus exact fun _ _ _ h => h); (focus assumption)) | (refine TR.skip _ (by simp only [List.getElem?_toArray, List.getElem?_cons_succ, List.getElem?_cons_zero]; rfl) ?_ ?_ ?_ ?_; (focus rfl); (focus exact fun _ _ _ h => h); (focus assumption))); simp only [Act.put, List.setIfInBounds_toArray, List.set_cons_zero, List.set_cons_succ])
      refine TR.eff _ (by simp only [List.getElem?_toArray, List.getElem?_cons_succ, List.getElem?_cons_zero]; rfl) (by rfl) (fun K hK => ?_); go_simp
      have BW4 := Lib.hid (BW3.out.alloc BW3.out.size (.cells #[] 59))
      have hS2 := KS.out _ BW4.out
      refine hK.out _ _ hS2 ?_
      clear hK hS
      have hS := hS2
      clear hS2
      (try simp only [Act.put, List.setIfInBounds_toArray, List.set_cons_zero, List.set_cons_succ])
      have OE := Lib.hid (DOwn.empty w17)
      have z18 : (w17.alloc (.cells #[] 59)).heap.size = w17.heap.size + 1 := by simp
      have z17 := BW3.out.size
      generalize w17.alloc (.cells #[] 59) = w18 at *
      refine TR.eff _ (by simp only [List.getElem?_toArray, List.getElem?_cons_succ, List.getElem?_cons_zero]; rfl) (by rfl) (fun K hK => ?_)
      refine wp_dapp (.tmp 168) (.tmp 170) rfl w17.heap.size (some ⟨w17.heap.size, 0, none⟩) 0 0 [] rfl OE.out w18.heap.size A10 p c10 (cutL (L.take KB) Z) rfl (Reads.more (D14.out.below (BW4.out.mono (by omega))) (by omega)) (by omega) (by omega) ?_
      intro A19 c19 w19 ho19 hg19
      have BW5 := Lib.hid (below_dapp BW4.out hg19 OE.out (by omega) (by omega))
      have z19 := (below_dapp (Below.refl w17.heap.size w18) hg19 OE.out (Nat.le_refl _) (by omega)).size
      have O19 := Lib.hid ho19
      have hS2 := KS.out _ BW5.out
      refine hK.out _ _ hS2 ?_
      clear hK hS hg19 ho19 OE BW3 BW4
      have hS := hS2
      clear hS2
      (try simp only [Act.put, List.setIfInBounds_toArray, List.set_cons_zero, List.set_cons_succ])
      refine TR.eff _ (by simp only [List.getElem?_toArray, List.getElem?_cons_succ, List.getElem?_cons_zero]; rfl) (by rfl) (fun K hK => ?_)
      refine wp_dapp (.tmp 171) (.tmp 173) rfl w17.heap.size A19 (0 + p) c19 ([] ++ cutL (L.take KB) Z) rfl O19.out w19.heap.size A13 N2 c13 (cutL (L.drop KB) Z) rfl (Reads.more (E14.out.below (BW5.out.mono (by omega))) (by have := BW5.out.size; omega)) (by omega) (by have := BW5.out.size; omega) ?_
      intro A20 c20 w20 ho20 hg20
      have BW6 := Lib.hid (below_dapp BW5.out hg20 O19.out (by omega) BW5.out.size)
      have O20 := Lib.hid (show DReads w20 w20.heap.size A20 (p + N2) ([] ++ cutL (L.take KB) Z ++ cutL (L.drop KB) Z) by have h := ho20.reads; rwa [Nat.zero_add] at h)
      have hS2 := KS.out _ BW6.out
      refine hK.out _ _ hS2 ?_
      clear hK hS hg20 ho20 O19 BW5
      have hS := hS2
      clear hS2
      (try simp only [Act.put, List.setIfInBounds_toArray, List.set_cons_zero, List.set_cons_succ])
      refine TR.eff _ (by simp only [List.getElem?_toArray, List.getElem?_cons_succ, List.getElem?_cons_zero]; rfl) (by rfl) (fun K hK => ?_); go_simp
      refine (digests_v A20 A5 (p + N2) c20 k c5 w20.heap.size ([] ++ cutL (L.take KB) Z ++ cutL (L.drop KB) Z) (cutL L Z) w20 O20.out (Reads.more (F14.out.below (BW6.out.mono (by omega))) (by have := BW6.out.size; omega)) (Nat.le_refl _) (by omega)).mono ?_
      rw [List.nil_append, HAP.out, decide_eq_true rfl]
      rintro e w21 ⟨rfl, b21⟩
      have BW7 := Lib.hid (BW6.out.trans (b21.mono BW6.out.size))
      have hS2 := KS.out _ BW7.out
      refine hK.out _ _ hS2 ?_
      clear hK hS b21 O20 BW6
      have hS := hS2
      clear hS2
      (try simp only [Act.put, List.setIfInBounds_toArray, List.set_cons_zero, List.set_cons_succ])
      iterate 2 ((first | (refine TR.val2 (v := ?_) _ (by simp only [List.getElem?_toArray, List.getElem?_cons_succ, List.getElem?_cons_zero]; rfl) ?_ ?_ ?_ ?_ ?_; rotate_left; (focus rfl); (focus (intro W hSW; (try dsimp only at hSW); (try (obtain ⟨hS1, hSW⟩ := hSW)); (try (obtain ⟨hS2, hSW⟩ := hSW)); (try (obtain ⟨hS3, hSW⟩ := hSW)); (try (obtain ⟨hS4, hSW⟩ := hSW)); (try (obtain ⟨hS5, hSW⟩ := hSW)); go_simp; (try with_reducible rfl); done)); (focus exact fun _ _ _ h => h); (focus assumption)) | (refine TR.skip _ (by simp only [List.getElem?_toArray, List.getElem?_cons_succ, List.getElem?_cons_zero]; rfl) ?_ ?_ ?_ ?_; (focus rfl); (focus exact fun _ _ _ h => h); (focus assumption))); simp only [Act.put, List.setIfInBounds_toArray, List.set_cons_zero, List.set_cons_succ])
      refine TR.done ?_
      clear hS
      go_wp2
      go_ret
      exact ⟨rfl, W7.out _ (B14.out.trans (BW7.out.mono B14.out.size))⟩
end Go.Proofs.Ytmaehbebpldpcaa
