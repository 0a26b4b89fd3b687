/-
  The walk of TableOrders (under way).
-/
import Derived.Test.YtohcdnbchidjeaaTabOm
namespace Go.Proofs.Ytohcdnbchidjeaa
open Go.RowKit
theorem range_more {X : Tr} (hX : good X) (hc : X.cnt ≤ 1000000) (V : World) (q : Option Addr) (h : Rep V V.heap.size X q) :
    Calls Try.prog 22 #[.agg #[.pointer q], .string ⟨#[]⟩, .string ⟨#[]⟩, .int .i64 ((X.cnt : Int) + 1)] V fun e w' => ∃ A c, e = .returned (.slice A X.cnt c) ∧ POwn w' V.heap.size A X.cnt c (pvs X.flat) ∧ Below V.heap.size V w' := by
  have := range_f hX ⟨#[]⟩ ⟨#[]⟩ ((X.cnt + 1 : Nat) : Int) V.heap.size q V h (Nat.le_refl _) hc
  rw [range_all (by rw [flat_len]; exact Nat.le_succ _)] at this
  refine this.mono ?_
  rintro e w' ⟨A, c, h1, h2, h3⟩
  rw [show (pvs X.flat).length = X.cnt by rw [pvs_len, flat_len]] at h1 h2
  exact ⟨A, c, h1, h2, h3⟩
set_option maxHeartbeats 8000000 in
set_option maxRecDepth 100000 in
theorem orders_in2 (A : Option Addr) (n c : Nat) (l : List P3) (key : ByteArray) (w : World) (hin : PIn w A n c l) (hl : lightB 200 5000 l = true) (hk : key.size ≤ 5000) :
    Calls Try.prog 7 #[.slice A n c, .string key] w fun e w' => e = .returned (.bool true) ∧ Below w.heap.size w w' := by
  obtain ⟨hr, hnc, hcm⟩ := hin
  unfold maxLen at hcm
  have HR := Lib.hid hr
  have hn4 : n ≤ 200 := by rw [← hr.len]; exact (lightB_spec hl).1
  have HLT := Lib.hid hl
  have HSK := Lib.hid (smallK_of (by omega) hl)
  have M1 := Lib.hid (made_of (by omega) hl)
  clear hr hl
  generalize hT : doneT .nil l = T at *
  have HT := Lib.hid hT
  clear hT
  generalize hN : T.cnt = N at *
  have HN := Lib.hid hN
  have hN4 : N ≤ 400 := by rw [← hN]; exact M1.out.2.1
  clear hN
  have hkd : decide (5000 < key.size) = false := by simp; omega
  have hkd' : decide ((5000 : Int) < (key.size : Int)) = false := by simp; omega
  go_enter Try.func7, Try.ntmps7
  go_wp2_with fail
  refine (lives_v w).mono ?_
  rintro e w1 ⟨rfl, hb1⟩
  go_wp2_with fail
  refine (light_v w.heap.size A n c 200 5000 l w1 (Reads.below HR.out hb1) hb1.size (by omega) (by omega)).mono ?_
  rw [HLT.out]
  rintro e w2 ⟨rfl, hb2⟩
  have HB2 := Lib.hid (btwo hb1 hb2)
  clear hb1 hb2
  go_wp2_with fail
  refine (made_v w.heap.size A n c l w2 (Reads.below HR.out HB2.out) HB2.out.size (by omega) HSK.out).mono ?_
  rw [HT.out]
  rintro e w3 ⟨q, A3, n3, c3, rfl, r3, _, hb3⟩
  have hz3 := Nat.le_trans HB2.out.size hb3.size
  have TA := Lib.hid ((TCell.box w3 r3).alloc (.cells #[.slice A3 n3 c3] 44))
  have HB4 := Lib.hid (((btrans HB2.out hb3 HB2.out.size).alloc hz3 (.cells #[.pointer q] 24)).alloc (Nat.le_trans hz3 (by simp)) (.cells #[.slice A3 n3 c3] 44))
  clear hb3 r3 hz3 HB2
  go_wp2_with fail
  generalize (w3.alloc (.cells #[.pointer q] 24)).alloc (.cells #[.slice A3 n3 c3] 44) = w4 at *
  generalize w3.heap.size = ga at *
  have q1 : ∀ V, Below w4.heap.size w4 V → V.cell? ⟨ga, 0, none⟩ = some (.pointer q) := fun V h => keepC h TA.out.1 TA.out.2.2.2.2
  have RM : Hid (∀ V, Rep V V.heap.size T q → Calls Try.prog 22 #[.agg #[.pointer q], .string ⟨#[]⟩, .string ⟨#[]⟩, .int .i64 ((N : Int) + 1)] V fun e w' => ∃ A c, e = .returned (.slice A N c) ∧ POwn w' V.heap.size A N c (pvs T.flat) ∧ Below V.heap.size V w') := Lib.hid (by rw [← HN.out]; exact fun V h => range_more M1.out.1 (by have := M1.out.2.1; omega) V q h)
  (try dsimp only [List.append])
  refine wp_region_text [(0, false), (1, false), (2, true), (3, false), (4, true), (5, false)] (fun V => Below w4.heap.size w4 V) (by kernel_rfl) (by kernel_rfl) (by kernel_rfl) (by kernel_rfl) (by kernel_rfl) (fun _ => ?_)
  simp only [outOf, List.getElem?_cons_zero, List.getElem?_cons_succ, Option.getD_some]
  have hS := (Below.refl w4.heap.size w4).drew
  iterate 2 ((first | (refine TW.val2 (v := ?_) ?_ ?_ ?_ ?_ ?_; rotate_left; (focus rfl); (focus (intro W hSW; (try dsimp only at hSW); go_simp; (try with_reducible rfl); done)); (focus exact fun _ _ _ h => h); (focus assumption)) | (refine TW.skip (e := false) ?_ ?_ ?_ ?_; (focus rfl); (focus exact fun _ _ _ h => h); (focus assumption))); simp only [Act.put, List.setIfInBounds_toArray, List.set_cons_zero, List.set_cons_succ])
  refine TW.eff (by rfl) (fun K hK => ?_); go_simp
  refine (size_v T w4.drew.heap.size q w4.drew (TA.out.below hS).2.2.2.1 (Nat.le_refl _)).mono ?_
  rw [HN.out]
  rintro e w5 ⟨rfl, hb5⟩
  have hS5 := hS.trans hb5
  clear hb5
  go_wp2_with fail; refine hK.out _ _ hS5 ?_; clear hK; (try simp only [Act.put, List.setIfInBounds_toArray, List.set_cons_zero, List.set_cons_succ])
  have hwr : IntKind.i64.wrap ((N : Int) + 1) = (N : Int) + 1 := IntWalk.i64_in _ (by omega)
  iterate 1 ((first | (refine TW.val2 (v := ?_) ?_ ?_ ?_ ?_ ?_; rotate_left; (focus rfl); (focus (intro W hSW; (try dsimp only at hSW); go_simp; (try with_reducible rfl); done)); (focus exact fun _ _ _ h => h); (focus assumption)) | (refine TW.skip (e := false) ?_ ?_ ?_ ?_; (focus rfl); (focus exact fun _ _ _ h => h); (focus assumption))); simp only [Act.put, List.setIfInBounds_toArray, List.set_cons_zero, List.set_cons_succ])
  clear hwr
  refine TW.eff (by rfl) (fun K hK => ?_); go_simp
  refine (RM.out w5 (TA.out.below hS5).2.2.2.1).mono ?_
  rintro e w6 ⟨A6, c6, rfl, ho6, hb6⟩
  have hS6 := btwo hS5 hb6
  have HO6 := Lib.hid ho6
  clear hb6 ho6
  go_wp2_with fail; refine hK.out _ _ hS6 ?_; clear hK; (try simp only [Act.put, List.setIfInBounds_toArray, List.set_cons_zero, List.set_cons_succ])
  iterate 1 ((first | (refine TW.val2 (v := ?_) ?_ ?_ ?_ ?_ ?_; rotate_left; (focus rfl); (focus (intro W hSW; (try dsimp only at hSW); go_simp; (try with_reducible rfl); done)); (focus exact fun _ _ _ h => h); (focus assumption)) | (refine TW.skip (e := false) ?_ ?_ ?_ ?_; (focus rfl); (focus exact fun _ _ _ h => h); (focus assumption))); simp only [Act.put, List.setIfInBounds_toArray, List.set_cons_zero, List.set_cons_succ])
  refine TW.done ?_
  have TA6 := Lib.hid (TA.out.below hS6)
  have HB6 := Lib.hid (btrans HB4.out hS6 HB4.out.size)
  have HG6 : Hid (ga < w5.heap.size) := Lib.hid (Nat.lt_of_lt_of_le TA.out.2.2.2.2 hS5.size)
  clear q1 hS hS5 hS6 TA HB4
  generalize w5.heap.size = b6 at *
  go_wp2
  go_loopw [8] (fun i wr => ∃ j : Nat, j ≤ N ∧ i = .int .i64 (j : Int) ∧ TCell wr ga T q ∧ POwn wr b6 A6 N c6 (pvs T.flat) ∧ Below w.heap.size w wr) (fun i _ => N - (intOf i).toNat)
  case atStart => exact ⟨0, Nat.zero_le _, rfl, TA6.out, HO6.out, HB6.out⟩
  case round =>
    obtain ⟨j, hjN, rfl, ht, ho, hb⟩ := hrel
    have TT := Lib.hid ht
    have HO := Lib.hid ho
    have HB := Lib.hid hb
    clear ht ho hb TA6 HO6 HB6
    by_cases hlt : j < N
    · obtain ⟨ad, x, hA, had, hx, d0, _, _⟩ := PReads.at_ HO.out.reads hlt
      subst hA
      obtain ⟨y, hy, rfl⟩ := pvs_at hx
      have CP : Hid (∀ V, Rep V V.heap.size T q → Calls Try.prog 26 #[.agg #[.pointer q], .string y.1] V fun e w' => e = .returned (.int .i64 (j : Int)) ∧ Below V.heap.size V w') := Lib.hid fun V h => by
        have := place_v y.1 T V.heap.size q V h (Nat.le_refl _) (by rw [HN.out]; omega)
        rwa [place_of M1.out.1, place_at M1.out.1.1 hy] at this
      have hadb : (ad.add (j * 3)).block < wr.heap.size := by rw [block_of_add]; exact had
      have q0 : ∀ V, Below wr.heap.size wr V → V.cell? ⟨ga, 0, none⟩ = some (.pointer q) := fun V h => keepC h TT.out.1 TT.out.2.2.2.2
      have q1 : ∀ V, Below wr.heap.size wr V → V.cell? (ad.add (j * 3)) = some (.string y.1) := fun V h => (h.cell hadb).trans d0
      have hj0 : (0 : Int) ≤ (j : Int) := by omega
      have hj1 : (j : Int) < (N : Int) := by omega
      have hS := (Below.refl wr.heap.size wr).drew
      by_cases hj : 0 < j
      · obtain ⟨ad', x, hA', _, hx', e0, _, _⟩ := PReads.at_ HO.out.reads (show j - 1 < N by omega)
        obtain rfl : ad = ad' := by injection hA'
        obtain ⟨z, hz, rfl⟩ := pvs_at hx'
        have g1 : Op.bytesLess z.1.toList y.1.toList = true := asc_at M1.out.1.1 (show j - 1 < j by omega) hz hy
        have hada : (ad.add ((j - 1) * 3)).block < wr.heap.size := by rw [block_of_add]; exact had
        have q2 : ∀ V, Below wr.heap.size wr V → V.cell? (ad.add ((j - 1) * 3)) = some (.string z.1) := fun V h => (h.cell hada).trans e0
        have hjd : decide (0 < j) = true := by simpa using hj
        have hm3 : (1 : Int) ≤ (j : Int) := by omega
        have hm0 : (0 : Int) ≤ (j : Int) - 1 := by omega
        have hm1 : (j : Int) - 1 < (N : Int) := by omega
        have hm2 : ((j : Int) - 1).toNat = j - 1 := by omega
        clear hx hx' hy hz d0 e0 hA'
        go_wp2_with fail
        (try dsimp only [List.append])
        refine wp_region_text [(0, false), (1, false), (2, false), (3, false), (4, false), (5, false), (6, false), (7, false), (8, false), (9, false), (10, false), (11, false), (12, false), (13, false), (14, false), (15, false), (16, false), (17, false), (18, false), (19, false), (20, false), (21, false), (22, false), (24, false), (23, true), (25, false), (26, false)] (fun V => Below wr.heap.size wr V) (by kernel_rfl) (by kernel_rfl) (by kernel_rfl) (by kernel_rfl) (by kernel_rfl) (fun _ => ?_)
        simp only [outOf, List.getElem?_cons_zero, List.getElem?_cons_succ, Option.getD_some]
        iterate 5 ((first | (refine TW.val2 (v := ?_) ?_ ?_ ?_ ?_ ?_; rotate_left; (focus rfl); (focus (intro W hSW; (try dsimp only at hSW); go_simp; (try with_reducible rfl); done)); (focus exact fun _ _ _ h => h); (focus assumption)) | (refine TW.skip (e := false) ?_ ?_ ?_ ?_; (focus rfl); (focus exact fun _ _ _ h => h); (focus assumption))); simp only [Act.put, List.setIfInBounds_toArray, List.set_cons_zero, List.set_cons_succ])
        have hwr : IntKind.i64.wrap ((j : Int) - 1) = (j : Int) - 1 := IntWalk.i64_in _ (by omega)
        iterate 1 ((first | (refine TW.val2 (v := ?_) ?_ ?_ ?_ ?_ ?_; rotate_left; (focus rfl); (focus (intro W hSW; (try dsimp only at hSW); go_simp; (try with_reducible rfl); done)); (focus exact fun _ _ _ h => h); (focus assumption)) | (refine TW.skip (e := false) ?_ ?_ ?_ ?_; (focus rfl); (focus exact fun _ _ _ h => h); (focus assumption))); simp only [Act.put, List.setIfInBounds_toArray, List.set_cons_zero, List.set_cons_succ])
        clear hwr
        iterate 18 ((first | (refine TW.val2 (v := ?_) ?_ ?_ ?_ ?_ ?_; rotate_left; (focus rfl); (focus (intro W hSW; (try dsimp only at hSW); go_simp; (try with_reducible rfl); done)); (focus exact fun _ _ _ h => h); (focus assumption)) | (refine TW.skip (e := false) ?_ ?_ ?_ ?_; (focus rfl); (focus exact fun _ _ _ h => h); (focus assumption))); simp only [Act.put, List.setIfInBounds_toArray, List.set_cons_zero, List.set_cons_succ])
        refine TW.eff (by rfl) (fun K hK => ?_); go_simp
        refine (CP.out _ (TT.out.below hS).2.2.2.1).mono ?_
        rintro e w9 ⟨rfl, hb9⟩
        have hS9 : Below wr.heap.size wr w9 := hS.trans hb9
        have TT9 := Lib.hid (TT.out.below hS9)
        have HO9 := Lib.hid (HO.out.below hS9)
        have HB9 := Lib.hid (btrans HB.out hS9 HB.out.size)
        clear hb9
        go_wp2_with fail; refine hK.out _ _ hS9 ?_; clear hK; (try simp only [Act.put, List.setIfInBounds_toArray, List.set_cons_zero, List.set_cons_succ])
        iterate 2 ((first | (refine TW.val2 (v := ?_) ?_ ?_ ?_ ?_ ?_; rotate_left; (focus rfl); (focus (intro W hSW; (try dsimp only at hSW); go_simp; (try with_reducible rfl); done)); (focus exact fun _ _ _ h => h); (focus assumption)) | (refine TW.skip (e := false) ?_ ?_ ?_ ?_; (focus rfl); (focus exact fun _ _ _ h => h); (focus assumption))); simp only [Act.put, List.setIfInBounds_toArray, List.set_cons_zero, List.set_cons_succ])
        refine TW.done ?_
        clear q0 q1 q2 hS hS9
        go_wp2
        go_roundw
        case rel => exact ⟨j + 1, by omega, by go_num, TT9.out, HO9.out, HB9.out⟩
        case measure => simp [intOf]; omega
      · have hjd : decide (0 < j) = false := by simpa using hj
        clear hx hy d0
        go_wp2_with fail
        (try dsimp only [List.append])
        refine wp_region_text [(0, false), (1, false), (2, false), (3, false), (4, false), (5, false), (6, false), (7, false), (8, false), (9, false), (10, false), (11, false), (12, false), (13, false), (14, false), (15, false), (16, false), (17, false), (18, false), (19, false), (20, false), (21, false), (22, false), (24, false), (23, true), (25, false), (26, false)] (fun V => Below wr.heap.size wr V) (by kernel_rfl) (by kernel_rfl) (by kernel_rfl) (by kernel_rfl) (by kernel_rfl) (fun _ => ?_)
        simp only [outOf, List.getElem?_cons_zero, List.getElem?_cons_succ, Option.getD_some]
        iterate 5 ((first | (refine TW.val2 (v := ?_) ?_ ?_ ?_ ?_ ?_; rotate_left; (focus rfl); (focus (intro W hSW; (try dsimp only at hSW); go_simp; (try with_reducible rfl); done)); (focus exact fun _ _ _ h => h); (focus assumption)) | (refine TW.skip (e := false) ?_ ?_ ?_ ?_; (focus rfl); (focus exact fun _ _ _ h => h); (focus assumption))); simp only [Act.put, List.setIfInBounds_toArray, List.set_cons_zero, List.set_cons_succ])
        iterate 1 ((first | (refine TW.val2 (v := ?_) ?_ ?_ ?_ ?_ ?_; rotate_left; (focus rfl); (focus (intro W hSW; (try dsimp only at hSW); go_simp; (try with_reducible rfl); done)); (focus exact fun _ _ _ h => h); (focus assumption)) | (refine TW.skip (e := false) ?_ ?_ ?_ ?_; (focus rfl); (focus exact fun _ _ _ h => h); (focus assumption))); simp only [Act.put, List.setIfInBounds_toArray, List.set_cons_zero, List.set_cons_succ])
        iterate 18 ((first | (refine TW.val2 (v := ?_) ?_ ?_ ?_ ?_ ?_; rotate_left; (focus rfl); (focus (intro W hSW; (try dsimp only at hSW); go_simp; (try with_reducible rfl); done)); (focus exact fun _ _ _ h => h); (focus assumption)) | (refine TW.skip (e := false) ?_ ?_ ?_ ?_; (focus rfl); (focus exact fun _ _ _ h => h); (focus assumption))); simp only [Act.put, List.setIfInBounds_toArray, List.set_cons_zero, List.set_cons_succ])
        refine TW.eff (by rfl) (fun K hK => ?_); go_simp
        refine (CP.out _ (TT.out.below hS).2.2.2.1).mono ?_
        rintro e w9 ⟨rfl, hb9⟩
        have hS9 : Below wr.heap.size wr w9 := hS.trans hb9
        have TT9 := Lib.hid (TT.out.below hS9)
        have HO9 := Lib.hid (HO.out.below hS9)
        have HB9 := Lib.hid (btrans HB.out hS9 HB.out.size)
        clear hb9
        go_wp2_with fail; refine hK.out _ _ hS9 ?_; clear hK; (try simp only [Act.put, List.setIfInBounds_toArray, List.set_cons_zero, List.set_cons_succ])
        iterate 2 ((first | (refine TW.val2 (v := ?_) ?_ ?_ ?_ ?_ ?_; rotate_left; (focus rfl); (focus (intro W hSW; (try dsimp only at hSW); go_simp; (try with_reducible rfl); done)); (focus exact fun _ _ _ h => h); (focus assumption)) | (refine TW.skip (e := false) ?_ ?_ ?_ ?_; (focus rfl); (focus exact fun _ _ _ h => h); (focus assumption))); simp only [Act.put, List.setIfInBounds_toArray, List.set_cons_zero, List.set_cons_succ])
        refine TW.done ?_
        clear q0 q1 hS hS9
        go_wp2
        go_roundw
        case rel => exact ⟨j + 1, by omega, by go_num, TT9.out, HO9.out, HB9.out⟩
        case measure => simp [intOf]; omega
    · obtain rfl : j = N := by omega
      have ct := TT.out.1
      go_wp2_with fail
      clear ct
      obtain ⟨m, hm⟩ : ∃ m, m = (lo key T.flat).length := ⟨_, rfl⟩
      have hmj : m ≤ j := by have := lo_len key T.flat; rw [flat_len, HN.out] at this; omega
      have CPK : Hid (∀ V, Rep V V.heap.size T q → Calls Try.prog 26 #[.agg #[.pointer q], .string key] V fun e w' => e = .returned (.int .i64 (m : Int)) ∧ Below V.heap.size V w') := Lib.hid fun V h => by
        have := place_v key T V.heap.size q V h (Nat.le_refl _) (by rw [HN.out]; omega)
        rwa [place_of M1.out.1, ← hm] at this
      have RK : Hid (∀ V, Rep V V.heap.size T q → Calls Try.prog 22 #[.agg #[.pointer q], .string key, .string ⟨#[]⟩, .int .i64 (j : Int)] V fun e w' => ∃ A c, e = .returned (.slice A (j - m) c) ∧ POwn w' V.heap.size A (j - m) c (pvs (T.flat.drop m)) ∧ Below V.heap.size V w') := Lib.hid fun V h => by
        have := range_f M1.out.1 key ⟨#[]⟩ (j : Int) V.heap.size q V h (Nat.le_refl _) (by rw [HN.out]; omega)
        rw [range_from (by rw [flat_len, HN.out]; exact Nat.le_refl _), ← drop_lo key M1.out.1.1, ← hm] at this
        refine this.mono ?_
        rintro e w' ⟨A, c, h1, h2, h3⟩
        rw [show (pvs (T.flat.drop m)).length = j - m by rw [pvs_len, List.length_drop, flat_len, HN.out]] at h1 h2
        exact ⟨A, c, h1, h2, h3⟩
      have HM := Lib.hid hm
      clear hm
      refine (CPK.out wr TT.out.2.2.2.1).mono ?_
      rintro e w10 ⟨rfl, hb10⟩
      have TT10 := Lib.hid (TT.out.below hb10)
      have HO10 := Lib.hid (HO.out.below hb10)
      have HB10 := Lib.hid (btrans HB.out hb10 HB.out.size)
      clear hb10 TT HO HB
      go_wp2_with fail
      have q0 : ∀ V, Below w10.heap.size w10 V → V.cell? ⟨ga, 0, none⟩ = some (.pointer q) := fun V h => keepC h TT10.out.1 TT10.out.2.2.2.2
      (try dsimp only [List.append])
      refine wp_region_text [(0, false), (1, false), (2, false), (3, true), (4, true), (5, false)] (fun V => Below w10.heap.size w10 V) (by kernel_rfl) (by kernel_rfl) (by kernel_rfl) (by kernel_rfl) (by kernel_rfl) (fun _ => ?_)
      simp only [outOf, List.getElem?_cons_zero, List.getElem?_cons_succ, Option.getD_some]
      have hS := (Below.refl w10.heap.size w10).drew
      iterate 3 ((first | (refine TW.val2 (v := ?_) ?_ ?_ ?_ ?_ ?_; rotate_left; (focus rfl); (focus (intro W hSW; (try dsimp only at hSW); go_simp; (try with_reducible rfl); done)); (focus exact fun _ _ _ h => h); (focus assumption)) | (refine TW.skip (e := false) ?_ ?_ ?_ ?_; (focus rfl); (focus exact fun _ _ _ h => h); (focus assumption))); simp only [Act.put, List.setIfInBounds_toArray, List.set_cons_zero, List.set_cons_succ])
      refine TW.eff (by rfl) (fun K hK => ?_); go_simp
      refine (size_v T w10.drew.heap.size q w10.drew (TT10.out.below hS).2.2.2.1 (Nat.le_refl _)).mono ?_
      rw [HN.out]
      rintro e w11 ⟨rfl, hb11⟩
      have hS11 := hS.trans hb11
      clear hb11
      go_wp2_with fail; refine hK.out _ _ hS11 ?_; clear hK; (try simp only [Act.put, List.setIfInBounds_toArray, List.set_cons_zero, List.set_cons_succ])
      refine TW.eff (by rfl) (fun K hK => ?_); go_simp
      refine (RK.out w11 (TT10.out.below hS11).2.2.2.1).mono ?_
      rintro e w12 ⟨A12, c12, rfl, ho12, hb12⟩
      have hS12 := btwo hS11 hb12
      have HQ12 := Lib.hid ho12
      clear hb12 ho12
      go_wp2_with fail; refine hK.out _ _ hS12 ?_; clear hK; (try simp only [Act.put, List.setIfInBounds_toArray, List.set_cons_zero, List.set_cons_succ])
      iterate 1 ((first | (refine TW.val2 (v := ?_) ?_ ?_ ?_ ?_ ?_; rotate_left; (focus rfl); (focus (intro W hSW; (try dsimp only at hSW); go_simp; (try with_reducible rfl); done)); (focus exact fun _ _ _ h => h); (focus assumption)) | (refine TW.skip (e := false) ?_ ?_ ?_ ?_; (focus rfl); (focus exact fun _ _ _ h => h); (focus assumption))); simp only [Act.put, List.setIfInBounds_toArray, List.set_cons_zero, List.set_cons_succ])
      refine TW.done ?_
      have TT12 := Lib.hid (TT10.out.below hS12)
      have HO12 := Lib.hid (HO10.out.below hS12)
      have HB12 := Lib.hid (btrans HB10.out hS12 HB10.out.size)
      clear q0 hS hS11 hS12 TT10 HO10 HB10
      have ct := TT12.out.1
      go_wp2_with fail
      obtain ⟨d, nk, nv, gv, there, is, hnx, hgt, hcs, his, hni⟩ := next_get M1.out.1 key
      rw [← HM.out] at hcs his hni
      have HGT := Lib.hid hgt
      have HCS := Lib.hid hcs
      have HIS := Lib.hid his
      have HNI := Lib.hid hni
      clear hgt hcs his hni
      refine (next_v key T w12.heap.size q w12 TT12.out.2.2.2.1 (Nat.le_refl _) (by rw [HN.out]; omega) (by omega)).mono ?_
      rw [hnx]
      clear hnx
      rintro e w13 ⟨rfl, hb13⟩
      have TT14 := Lib.hid ((TT12.out.below hb13).alloc (.cells #[.string nk, .string nv, .bool false] 39))
      have HO14 := Lib.hid ((HO12.out.below hb13).alloc (.cells #[.string nk, .string nv, .bool false] 39))
      have HQ13 := Lib.hid (HQ12.out.below hb13)
      have hz13 := Nat.le_trans HB12.out.size hb13.size
      have HB14 := Lib.hid ((btrans HB12.out hb13 HB12.out.size).alloc hz13 (.cells #[.string nk, .string nv, .bool false] 39))
      have HQ14 := Lib.hid (HQ13.out.alloc (.cells #[.string nk, .string nv, .bool false] 39))
      have PC := Lib.hid (show (w13.alloc (.cells #[.string nk, .string nv, .bool false] 39)).cell? ⟨w13.heap.size, 0, none⟩ = some (.string nk) ∧ (w13.alloc (.cells #[.string nk, .string nv, .bool false] 39)).cell? ⟨w13.heap.size, 1, none⟩ = some (.string nv) ∧ (w13.alloc (.cells #[.string nk, .string nv, .bool false] 39)).cell? ⟨w13.heap.size, 2, none⟩ = some (.bool false) ∧ w13.heap.size < (w13.alloc (.cells #[.string nk, .string nv, .bool false] 39)).heap.size from
        ⟨by rw [World.cell?_alloc_at _ _ _ _ rfl]; rfl, by rw [World.cell?_alloc_at _ _ _ _ rfl]; rfl, by rw [World.cell?_alloc_at _ _ _ _ rfl]; rfl, by simp⟩)
      clear hb13 TT12 HO12 HQ12 HQ13 HB12 ct hz13
      have ct := TT14.out.1
      go_wp2_with fail
      generalize w13.alloc (.cells #[.string nk, .string nv, .bool false] 39) = w14 at *
      generalize w13.heap.size = gp at *
      refine (get_v key T w14.heap.size q w14 TT14.out.2.2.2.1 (Nat.le_refl _)).mono ?_
      rw [HGT.out]
      rintro e w15 ⟨rfl, hb15⟩
      have TT15 := Lib.hid (TT14.out.below hb15)
      have HO15 := Lib.hid (HO14.out.below hb15)
      have HQ15 := Lib.hid (HQ14.out.below hb15)
      have HB15 := Lib.hid (btrans HB14.out hb15 HB14.out.size)
      have PC15 := Lib.hid (show w15.cell? ⟨gp, 0, none⟩ = some (.string nk) ∧ w15.cell? ⟨gp, 1, none⟩ = some (.string nv) ∧ w15.cell? ⟨gp, 2, none⟩ = some (.bool false) ∧ gp < w15.heap.size from
        ⟨keepC hb15 PC.out.1 PC.out.2.2.2, keepC hb15 PC.out.2.1 PC.out.2.2.2, keepC hb15 PC.out.2.2.1 PC.out.2.2.2, Nat.lt_of_lt_of_le PC.out.2.2.2 hb15.size⟩)
      clear PC hb15 TT14 HO14 HQ14 HB14 ct HGT
      have ct := TT15.out.1
      go_wp2_with fail
      have hc6 : j ≤ c6 := HO15.out.2
      have hcm6 : c6 ≤ 9223372036854775807 := by
        rcases HO15.out.1.2 with ⟨hv, _⟩ | ⟨g, cap, cur, hv, _, _, _, hcap, _⟩
        · injection hv with _ _ e; omega
        · injection hv with _ _ e; unfold maxLen at hcap; omega
      have hm0 : (0 : Int) ≤ (m : Int) := by omega
      have hm1 : (m : Int) ≤ (j : Int) := by omega
      have hm2 : (m : Int) ≤ (c6 : Int) := by omega
      have HCU : Hid (∀ W, POwn W b6 A6 j c6 (pvs T.flat) → PReads W W.heap.size (if c6 = m then A6 else A6.map (·.add (m * 3))) (j - m) (pvs (T.flat.drop m))) := Lib.hid fun W h => by
        have h2 := PReads.cut h.reads (k := m) hmj (cap := c6) hc6
        rwa [show (pvs T.flat).drop m = pvs (T.flat.drop m) by rw [pvs, pvs, List.map_drop]] at h2
      rcases HCS.out with ⟨rfl, rfl, y, hy, hyk⟩ | ⟨rfl, rfl, hno⟩
      · obtain ⟨yv, hyv⟩ : ∃ yv, T.flat[m]? = some (key, yv) := ⟨y.2, by rw [hy, ← hyk]⟩
        clear hy hyk HCS
        have HYA := Lib.hid hyv
        have hml : m < j := by have := (List.getElem?_eq_some_iff.1 hyv).1; rw [flat_len, HN.out] at this; exact this
        clear hyv
        have hmc : ¬ c6 = m := by omega
        have hmd : decide (c6 = m) = false := by simpa using hmc
        refine (size_v T w15.heap.size q w15 TT15.out.2.2.2.1 (Nat.le_refl _)).mono ?_
        rw [HN.out]
        rintro e w16 ⟨rfl, hb16⟩
        have TT16 := Lib.hid (TT15.out.below hb16)
        have HO16 := Lib.hid (HO15.out.below hb16)
        have HQ16 := Lib.hid (HQ15.out.below hb16)
        have HB16 := Lib.hid (btrans HB15.out hb16 HB15.out.size)
        have PC16 := Lib.hid (show w16.cell? ⟨gp, 0, none⟩ = some (.string nk) ∧ w16.cell? ⟨gp, 1, none⟩ = some (.string nv) ∧ w16.cell? ⟨gp, 2, none⟩ = some (.bool false) ∧ gp < w16.heap.size from
          ⟨keepC hb16 PC15.out.1 PC15.out.2.2.2, keepC hb16 PC15.out.2.1 PC15.out.2.2.2, keepC hb16 PC15.out.2.2.1 PC15.out.2.2.2, Nat.lt_of_lt_of_le PC15.out.2.2.2 hb16.size⟩)
        clear PC15 hb16 TT15 HO15 HQ15 HB15 ct
        have HMC := Lib.hid hmc
        clear hmc
        go_wp2_with fail
        have hcut := HCU.out w16 HO16.out
        rw [if_neg HMC.out] at hcut
        refine (pairs_v w16.heap.size w16.heap.size A12 (A6.map (·.add (m * 3))) (j - m) (j - m) _ _ (pvs (T.flat.drop m)) w16 HQ16.out.reads hcut (Nat.le_refl _) (Nat.le_refl _) (by omega)).mono ?_
        rintro e w17 ⟨rfl, hb17⟩
        have TT17 := Lib.hid (TT16.out.below hb17)
        have HO17 := Lib.hid (HO16.out.below hb17)
        have HB17 := Lib.hid (btrans HB16.out hb17 HB16.out.size)
        have PC17 := Lib.hid (show w17.cell? ⟨gp, 0, none⟩ = some (.string nk) ∧ w17.cell? ⟨gp, 1, none⟩ = some (.string nv) ∧ w17.cell? ⟨gp, 2, none⟩ = some (.bool false) ∧ gp < w17.heap.size from
          ⟨keepC hb17 PC16.out.1 PC16.out.2.2.2, keepC hb17 PC16.out.2.1 PC16.out.2.2.2, keepC hb17 PC16.out.2.2.1 PC16.out.2.2.2, Nat.lt_of_lt_of_le PC16.out.2.2.2 hb17.size⟩)
        clear PC16 hb17 TT16 HO16 HQ16 HB16 hcut HCU
        obtain ⟨ad, x, hA, had, hx, d0, d1, d2⟩ := PReads.at_ HO17.out.reads hml
        subst hA
        obtain ⟨y', hy', rfl⟩ := pvs_at hx
        rw [HYA.out] at hy'
        injection hy' with hy'
        subst hy'
        have c0 : w17.cell? (ad.add (m * 3)) = some (.string key) := d0
        clear hx d0 d1 d2 had
        have hmld : decide (m < j) = true := by simpa using hml
        have hml1 : (m : Int) < (j : Int) := by omega
        have hj0 : 0 < j := by omega
        go_wp2_with fail
        clear c0
        cases is
        · have hkj := HNI.out rfl
          rw [flat_len, HN.out] at hkj
          have hkd : decide ((m + 1) < j) = false := by simp; omega
          have hkd' : decide (((m : Int) + 1) < (j : Int)) = false := by simp; omega
          go_quiet (fail)
          have ct := TT17.out.1
          go_wp2_with fail
          refine (nodes_v T w17.heap.size q _ (Rep.drewN TT17.out.2.2.2.1 _) (Nat.le_refl _) (by rw [HN.out]; omega)).mono ?_
          rintro e w19 ⟨A19, c19, he, ho19, hb19⟩
          rw [show (pvs T.pre).length = j by rw [pvs_len, pre_len, HN.out]] at he ho19
          subst he
          have HO19 := Lib.hid ho19
          have HB19 := Lib.hid (btrans (below_drewN HB17.out _) hb19 HB17.out.size)
          clear ct hb19 ho19
          by_cases hz : j = 0
          · have hz1 : ((j : Int) == 0) = true := by rw [beq_iff_eq]; omega
            have hz2 : decide (j = 0) = true := by simpa using hz
            have HZ := Lib.hid hz
            clear hz
            go_wp2
            go_ret
            exact ⟨rfl, HB19.out⟩
          · have hz1 : ((j : Int) == 0) = false := by rw [beq_eq_false_iff_ne]; omega
            have hz2 : decide (j = 0) = false := by simpa using hz
            go_wp2_with fail
            obtain ⟨y0, hy0⟩ : ∃ y0, T.pre[0]? = some y0 := ⟨_, List.getElem?_eq_getElem (by rw [pre_len, HN.out]; omega)⟩
            refine (highest_v T.pre y0 hy0 (fun i y hi hy => pre_high M1.out.1 hy0 hi hy) (fun x hx => by have := M1.out.2.2 x ((mem_pre T x).1 hx); omega) w19.heap.size A19 j c19 w19 HO19.out.reads (Nat.le_refl _) (by omega)).mono ?_
            rintro e w20 ⟨rfl, hb20⟩
            have HB20 := Lib.hid (btrans HB19.out hb20 HB19.out.size)
            clear hb20
            go_wp2
            go_ret
            exact ⟨rfl, HB20.out⟩
        · have HY := Lib.hid (HIS.out rfl)
          have hkj : (m + 1) < j := by have := (List.getElem?_eq_some_iff.1 HY.out).1; rw [flat_len, HN.out] at this; exact this
          have hkd : decide ((m + 1) < j) = true := by simp; omega
          have hkd' : decide (((m : Int) + 1) < (j : Int)) = true := by simp; omega
          have hk0 : (0 : Int) ≤ ((m : Int) + 1) := by omega
          have hk1 : ((m : Int) + 1) < (j : Int) := by omega
          have hk2 : (((m : Int) + 1)).toNat = (m + 1) := by omega
          have hj0' : 0 < j := by omega
          obtain ⟨ad', x, hA, had, hx, e0, e1, e2⟩ := PReads.at_ HO17.out.reads hkj
          obtain rfl : ad = ad' := by injection hA
          obtain ⟨y', hy', rfl⟩ := pvs_at hx
          rw [HY.out] at hy'
          injection hy' with hy'
          subst hy'
          have k0 : w17.cell? (ad.add ((m + 1) * 3)) = some (.string nk) := e0
          have k1 : w17.cell? ⟨(ad.add ((m + 1) * 3)).block, (ad.add ((m + 1) * 3)).off + 1, none⟩ = some (.string nv) := e1
          have k2 : w17.cell? ⟨(ad.add ((m + 1) * 3)).block, (ad.add ((m + 1) * 3)).off + 2, none⟩ = some (.bool false) := e2
          clear e0 e1 e2 hx had hA
          obtain ⟨p0, p1, p2, _⟩ := PC17.out
          go_quiet (fail)
          have ct := TT17.out.1
          go_wp2_with fail
          refine (nodes_v T w17.heap.size q _ (Rep.drewN TT17.out.2.2.2.1 _) (Nat.le_refl _) (by rw [HN.out]; omega)).mono ?_
          rintro e w19 ⟨A19, c19, he, ho19, hb19⟩
          rw [show (pvs T.pre).length = j by rw [pvs_len, pre_len, HN.out]] at he ho19
          subst he
          have HO19 := Lib.hid ho19
          have HB19 := Lib.hid (btrans (below_drewN HB17.out _) hb19 HB17.out.size)
          clear ct hb19 ho19
          by_cases hz : j = 0
          · have hz1 : ((j : Int) == 0) = true := by rw [beq_iff_eq]; omega
            have hz2 : decide (j = 0) = true := by simpa using hz
            have HZ := Lib.hid hz
            clear hz
            go_wp2
            go_ret
            exact ⟨rfl, HB19.out⟩
          · have hz1 : ((j : Int) == 0) = false := by rw [beq_eq_false_iff_ne]; omega
            have hz2 : decide (j = 0) = false := by simpa using hz
            go_wp2_with fail
            obtain ⟨y0, hy0⟩ : ∃ y0, T.pre[0]? = some y0 := ⟨_, List.getElem?_eq_getElem (by rw [pre_len, HN.out]; omega)⟩
            refine (highest_v T.pre y0 hy0 (fun i y hi hy => pre_high M1.out.1 hy0 hi hy) (fun x hx => by have := M1.out.2.2 x ((mem_pre T x).1 hx); omega) w19.heap.size A19 j c19 w19 HO19.out.reads (Nat.le_refl _) (by omega)).mono ?_
            rintro e w20 ⟨rfl, hb20⟩
            have HB20 := Lib.hid (btrans HB19.out hb20 HB19.out.size)
            clear hb20
            go_wp2
            go_ret
            exact ⟨rfl, HB20.out⟩
      · replace HIS : Hid (is = true → T.flat[m]? = some (nk, nv)) := Lib.hid HIS.out
        replace HNI : Hid (is = false → T.flat.length ≤ m) := Lib.hid HNI.out
        have HNO := Lib.hid hno
        clear hno HCS
        by_cases hml : m < j
        · have hmc : ¬ c6 = m := by omega
          have hmd : decide (c6 = m) = false := by simpa using hmc
          refine (size_v T w15.heap.size q w15 TT15.out.2.2.2.1 (Nat.le_refl _)).mono ?_
          rw [HN.out]
          rintro e w16 ⟨rfl, hb16⟩
          have TT16 := Lib.hid (TT15.out.below hb16)
          have HO16 := Lib.hid (HO15.out.below hb16)
          have HQ16 := Lib.hid (HQ15.out.below hb16)
          have HB16 := Lib.hid (btrans HB15.out hb16 HB15.out.size)
          have PC16 := Lib.hid (show w16.cell? ⟨gp, 0, none⟩ = some (.string nk) ∧ w16.cell? ⟨gp, 1, none⟩ = some (.string nv) ∧ w16.cell? ⟨gp, 2, none⟩ = some (.bool false) ∧ gp < w16.heap.size from
            ⟨keepC hb16 PC15.out.1 PC15.out.2.2.2, keepC hb16 PC15.out.2.1 PC15.out.2.2.2, keepC hb16 PC15.out.2.2.1 PC15.out.2.2.2, Nat.lt_of_lt_of_le PC15.out.2.2.2 hb16.size⟩)
          clear PC15 hb16 TT15 HO15 HQ15 HB15 ct
          have HMC := Lib.hid hmc
          clear hmc
          go_wp2_with fail
          have hcut := HCU.out w16 HO16.out
          rw [if_neg HMC.out] at hcut
          refine (pairs_v w16.heap.size w16.heap.size A12 (A6.map (·.add (m * 3))) (j - m) (j - m) _ _ (pvs (T.flat.drop m)) w16 HQ16.out.reads hcut (Nat.le_refl _) (Nat.le_refl _) (by omega)).mono ?_
          rintro e w17 ⟨rfl, hb17⟩
          have TT17 := Lib.hid (TT16.out.below hb17)
          have HO17 := Lib.hid (HO16.out.below hb17)
          have HB17 := Lib.hid (btrans HB16.out hb17 HB16.out.size)
          have PC17 := Lib.hid (show w17.cell? ⟨gp, 0, none⟩ = some (.string nk) ∧ w17.cell? ⟨gp, 1, none⟩ = some (.string nv) ∧ w17.cell? ⟨gp, 2, none⟩ = some (.bool false) ∧ gp < w17.heap.size from
            ⟨keepC hb17 PC16.out.1 PC16.out.2.2.2, keepC hb17 PC16.out.2.1 PC16.out.2.2.2, keepC hb17 PC16.out.2.2.1 PC16.out.2.2.2, Nat.lt_of_lt_of_le PC16.out.2.2.2 hb17.size⟩)
          clear PC16 hb17 TT16 HO16 HQ16 HB16 hcut HCU
          obtain ⟨ad, x, hA, had, hx, d0, d1, d2⟩ := PReads.at_ HO17.out.reads hml
          subst hA
          obtain ⟨y, hy, rfl⟩ := pvs_at hx
          have g1 : (y.1.toList == key.toList) = false := (kbeq_false _ _).2 (HNO.out y hy)
          have c0 : w17.cell? (ad.add (m * 3)) = some (.string y.1) := d0
          clear hx hy d0 d1 d2 had
          have hmld : decide (m < j) = true := by simpa using hml
          have hml1 : (m : Int) < (j : Int) := by omega
          have hj0 : 0 < j := by omega
          go_wp2_with fail
          clear c0
          cases is
          · have hkj := HNI.out rfl
            rw [flat_len, HN.out] at hkj
            exact absurd hkj (by omega)
          · have HY := Lib.hid (HIS.out rfl)
            have hkj : m < j := by have := (List.getElem?_eq_some_iff.1 HY.out).1; rw [flat_len, HN.out] at this; exact this
            have hkd : decide (m < j) = true := by simp; omega
            have hkd' : decide ((m : Int) < (j : Int)) = true := by simp; omega
            have hk0 : (0 : Int) ≤ (m : Int) := by omega
            have hk1 : (m : Int) < (j : Int) := by omega
            have hk0x : True := trivial
            have hj0' : 0 < j := by omega
            obtain ⟨ad', x, hA, had, hx, e0, e1, e2⟩ := PReads.at_ HO17.out.reads hkj
            obtain rfl : ad = ad' := by injection hA
            obtain ⟨y', hy', rfl⟩ := pvs_at hx
            rw [HY.out] at hy'
            injection hy' with hy'
            subst hy'
            have k0 : w17.cell? (ad.add (m * 3)) = some (.string nk) := e0
            have k1 : w17.cell? ⟨(ad.add (m * 3)).block, (ad.add (m * 3)).off + 1, none⟩ = some (.string nv) := e1
            have k2 : w17.cell? ⟨(ad.add (m * 3)).block, (ad.add (m * 3)).off + 2, none⟩ = some (.bool false) := e2
            clear e0 e1 e2 hx had hA
            obtain ⟨p0, p1, p2, _⟩ := PC17.out
            go_quiet (fail)
            have ct := TT17.out.1
            go_wp2_with fail
            refine (nodes_v T w17.heap.size q _ (Rep.drewN TT17.out.2.2.2.1 _) (Nat.le_refl _) (by rw [HN.out]; omega)).mono ?_
            rintro e w19 ⟨A19, c19, he, ho19, hb19⟩
            rw [show (pvs T.pre).length = j by rw [pvs_len, pre_len, HN.out]] at he ho19
            subst he
            have HO19 := Lib.hid ho19
            have HB19 := Lib.hid (btrans (below_drewN HB17.out _) hb19 HB17.out.size)
            clear ct hb19 ho19
            by_cases hz : j = 0
            · have hz1 : ((j : Int) == 0) = true := by rw [beq_iff_eq]; omega
              have hz2 : decide (j = 0) = true := by simpa using hz
              have HZ := Lib.hid hz
              clear hz
              go_wp2
              go_ret
              exact ⟨rfl, HB19.out⟩
            · have hz1 : ((j : Int) == 0) = false := by rw [beq_eq_false_iff_ne]; omega
              have hz2 : decide (j = 0) = false := by simpa using hz
              go_wp2_with fail
              obtain ⟨y0, hy0⟩ : ∃ y0, T.pre[0]? = some y0 := ⟨_, List.getElem?_eq_getElem (by rw [pre_len, HN.out]; omega)⟩
              refine (highest_v T.pre y0 hy0 (fun i y hi hy => pre_high M1.out.1 hy0 hi hy) (fun x hx => by have := M1.out.2.2 x ((mem_pre T x).1 hx); omega) w19.heap.size A19 j c19 w19 HO19.out.reads (Nat.le_refl _) (by omega)).mono ?_
              rintro e w20 ⟨rfl, hb20⟩
              have HB20 := Lib.hid (btrans HB19.out hb20 HB19.out.size)
              clear hb20
              go_wp2
              go_ret
              exact ⟨rfl, HB20.out⟩
        · have hmld : decide (m < j) = false := by simpa using hml
          obtain rfl : is = false := by
            cases is
            · rfl
            · have := (List.getElem?_eq_some_iff.1 (HIS.out rfl)).1
              rw [flat_len, HN.out] at this
              exact absurd this hml
          have hmld' : decide ((m : Int) < (j : Int)) = false := by simp; omega
          by_cases hmc : c6 = m
          · skip
            have hmd : decide (c6 = m) = true := by simpa using hmc
            refine (size_v T w15.heap.size q w15 TT15.out.2.2.2.1 (Nat.le_refl _)).mono ?_
            rw [HN.out]
            rintro e w16 ⟨rfl, hb16⟩
            have TT16 := Lib.hid (TT15.out.below hb16)
            have HO16 := Lib.hid (HO15.out.below hb16)
            have HQ16 := Lib.hid (HQ15.out.below hb16)
            have HB16 := Lib.hid (btrans HB15.out hb16 HB15.out.size)
            have PC16 := Lib.hid (show w16.cell? ⟨gp, 0, none⟩ = some (.string nk) ∧ w16.cell? ⟨gp, 1, none⟩ = some (.string nv) ∧ w16.cell? ⟨gp, 2, none⟩ = some (.bool false) ∧ gp < w16.heap.size from
              ⟨keepC hb16 PC15.out.1 PC15.out.2.2.2, keepC hb16 PC15.out.2.1 PC15.out.2.2.2, keepC hb16 PC15.out.2.2.1 PC15.out.2.2.2, Nat.lt_of_lt_of_le PC15.out.2.2.2 hb16.size⟩)
            clear PC15 hb16 TT15 HO15 HQ15 HB15 ct
            have HMC := Lib.hid hmc
            clear hmc
            go_wp2_with fail
            have hcut := HCU.out w16 HO16.out
            rw [if_pos HMC.out] at hcut
            refine (pairs_v w16.heap.size w16.heap.size A12 A6 (j - m) (j - m) _ _ (pvs (T.flat.drop m)) w16 HQ16.out.reads hcut (Nat.le_refl _) (Nat.le_refl _) (by omega)).mono ?_
            rintro e w17 ⟨rfl, hb17⟩
            have TT17 := Lib.hid (TT16.out.below hb17)
            have HO17 := Lib.hid (HO16.out.below hb17)
            have HB17 := Lib.hid (btrans HB16.out hb17 HB16.out.size)
            have PC17 := Lib.hid (show w17.cell? ⟨gp, 0, none⟩ = some (.string nk) ∧ w17.cell? ⟨gp, 1, none⟩ = some (.string nv) ∧ w17.cell? ⟨gp, 2, none⟩ = some (.bool false) ∧ gp < w17.heap.size from
              ⟨keepC hb17 PC16.out.1 PC16.out.2.2.2, keepC hb17 PC16.out.2.1 PC16.out.2.2.2, keepC hb17 PC16.out.2.2.1 PC16.out.2.2.2, Nat.lt_of_lt_of_le PC16.out.2.2.2 hb17.size⟩)
            clear PC16 hb17 TT16 HO16 HQ16 HB16 hcut HCU
            go_wp2_with fail
            go_quiet (fail)
            have ct := TT17.out.1
            go_wp2_with fail
            refine (nodes_v T w17.heap.size q _ (Rep.drewN TT17.out.2.2.2.1 _) (Nat.le_refl _) (by rw [HN.out]; omega)).mono ?_
            rintro e w19 ⟨A19, c19, he, ho19, hb19⟩
            rw [show (pvs T.pre).length = j by rw [pvs_len, pre_len, HN.out]] at he ho19
            subst he
            have HO19 := Lib.hid ho19
            have HB19 := Lib.hid (btrans (below_drewN HB17.out _) hb19 HB17.out.size)
            clear ct hb19 ho19
            by_cases hz : j = 0
            · have hz1 : ((j : Int) == 0) = true := by rw [beq_iff_eq]; omega
              have hz2 : decide (j = 0) = true := by simpa using hz
              have HZ := Lib.hid hz
              clear hz
              go_wp2
              go_ret
              exact ⟨rfl, HB19.out⟩
            · have hz1 : ((j : Int) == 0) = false := by rw [beq_eq_false_iff_ne]; omega
              have hz2 : decide (j = 0) = false := by simpa using hz
              go_wp2_with fail
              obtain ⟨y0, hy0⟩ : ∃ y0, T.pre[0]? = some y0 := ⟨_, List.getElem?_eq_getElem (by rw [pre_len, HN.out]; omega)⟩
              refine (highest_v T.pre y0 hy0 (fun i y hi hy => pre_high M1.out.1 hy0 hi hy) (fun x hx => by have := M1.out.2.2 x ((mem_pre T x).1 hx); omega) w19.heap.size A19 j c19 w19 HO19.out.reads (Nat.le_refl _) (by omega)).mono ?_
              rintro e w20 ⟨rfl, hb20⟩
              have HB20 := Lib.hid (btrans HB19.out hb20 HB19.out.size)
              clear hb20
              go_wp2
              go_ret
              exact ⟨rfl, HB20.out⟩
          · skip
            have hmd : decide (c6 = m) = false := by simpa using hmc
            refine (size_v T w15.heap.size q w15 TT15.out.2.2.2.1 (Nat.le_refl _)).mono ?_
            rw [HN.out]
            rintro e w16 ⟨rfl, hb16⟩
            have TT16 := Lib.hid (TT15.out.below hb16)
            have HO16 := Lib.hid (HO15.out.below hb16)
            have HQ16 := Lib.hid (HQ15.out.below hb16)
            have HB16 := Lib.hid (btrans HB15.out hb16 HB15.out.size)
            have PC16 := Lib.hid (show w16.cell? ⟨gp, 0, none⟩ = some (.string nk) ∧ w16.cell? ⟨gp, 1, none⟩ = some (.string nv) ∧ w16.cell? ⟨gp, 2, none⟩ = some (.bool false) ∧ gp < w16.heap.size from
              ⟨keepC hb16 PC15.out.1 PC15.out.2.2.2, keepC hb16 PC15.out.2.1 PC15.out.2.2.2, keepC hb16 PC15.out.2.2.1 PC15.out.2.2.2, Nat.lt_of_lt_of_le PC15.out.2.2.2 hb16.size⟩)
            clear PC15 hb16 TT15 HO15 HQ15 HB15 ct
            have HMC := Lib.hid hmc
            clear hmc
            go_wp2_with fail
            have hcut := HCU.out w16 HO16.out
            rw [if_neg HMC.out] at hcut
            refine (pairs_v w16.heap.size w16.heap.size A12 (A6.map (·.add (m * 3))) (j - m) (j - m) _ _ (pvs (T.flat.drop m)) w16 HQ16.out.reads hcut (Nat.le_refl _) (Nat.le_refl _) (by omega)).mono ?_
            rintro e w17 ⟨rfl, hb17⟩
            have TT17 := Lib.hid (TT16.out.below hb17)
            have HO17 := Lib.hid (HO16.out.below hb17)
            have HB17 := Lib.hid (btrans HB16.out hb17 HB16.out.size)
            have PC17 := Lib.hid (show w17.cell? ⟨gp, 0, none⟩ = some (.string nk) ∧ w17.cell? ⟨gp, 1, none⟩ = some (.string nv) ∧ w17.cell? ⟨gp, 2, none⟩ = some (.bool false) ∧ gp < w17.heap.size from
              ⟨keepC hb17 PC16.out.1 PC16.out.2.2.2, keepC hb17 PC16.out.2.1 PC16.out.2.2.2, keepC hb17 PC16.out.2.2.1 PC16.out.2.2.2, Nat.lt_of_lt_of_le PC16.out.2.2.2 hb17.size⟩)
            clear PC16 hb17 TT16 HO16 HQ16 HB16 hcut HCU
            go_wp2_with fail
            go_quiet (fail)
            have ct := TT17.out.1
            go_wp2_with fail
            refine (nodes_v T w17.heap.size q _ (Rep.drewN TT17.out.2.2.2.1 _) (Nat.le_refl _) (by rw [HN.out]; omega)).mono ?_
            rintro e w19 ⟨A19, c19, he, ho19, hb19⟩
            rw [show (pvs T.pre).length = j by rw [pvs_len, pre_len, HN.out]] at he ho19
            subst he
            have HO19 := Lib.hid ho19
            have HB19 := Lib.hid (btrans (below_drewN HB17.out _) hb19 HB17.out.size)
            clear ct hb19 ho19
            by_cases hz : j = 0
            · have hz1 : ((j : Int) == 0) = true := by rw [beq_iff_eq]; omega
              have hz2 : decide (j = 0) = true := by simpa using hz
              have HZ := Lib.hid hz
              clear hz
              go_wp2
              go_ret
              exact ⟨rfl, HB19.out⟩
            · have hz1 : ((j : Int) == 0) = false := by rw [beq_eq_false_iff_ne]; omega
              have hz2 : decide (j = 0) = false := by simpa using hz
              go_wp2_with fail
              obtain ⟨y0, hy0⟩ : ∃ y0, T.pre[0]? = some y0 := ⟨_, List.getElem?_eq_getElem (by rw [pre_len, HN.out]; omega)⟩
              refine (highest_v T.pre y0 hy0 (fun i y hi hy => pre_high M1.out.1 hy0 hi hy) (fun x hx => by have := M1.out.2.2 x ((mem_pre T x).1 hx); omega) w19.heap.size A19 j c19 w19 HO19.out.reads (Nat.le_refl _) (by omega)).mono ?_
              rintro e w20 ⟨rfl, hb20⟩
              have HB20 := Lib.hid (btrans HB19.out hb20 HB19.out.size)
              clear hb20
              go_wp2
              go_ret
              exact ⟨rfl, HB20.out⟩
end Go.Proofs.Ytohcdnbchidjeaa
