/-
  The reference's table: Drop, where the key is there.
-/
import Derived.Test.YtohcdnbchidjeaaTabRd
import Derived.IntWalk
namespace Go.Proofs.Ytohcdnbchidjeaa
open Go.RowKit
set_option maxHeartbeats 4000000 in
theorem rdrop_cut2 (key : ByteArray) (L : List KV) (B : Nat) (ad : Addr) (n c : Nat) (w : World) (hr : RTab w B (some ad) n c L) (hB : B ≤ w.heap.size) (ha : asc L) (hn : n ≤ 1000000)
    (y : KV) (hy : L[(lo key L).length]? = some y) (hye : y.1 = key) (hcc0 : c ≠ (lo key L).length + 1) :
    Calls Try.prog 42 #[.agg #[.slice (some ad) n c], .string key] w (RPost w (dropL key L)) := by
  obtain ⟨hr, hnc, hcm, _⟩ := hr
  have HN := Lib.hid (show L.length = n by rw [← hr.len, pvs_len])
  have b0 : Below w.heap.size w ((w.alloc (.cells #[.slice (some ad) n c] 44)).alloc (.cells #[.slice none 0 0] 44)) := ((Below.refl _ _).alloc (Nat.le_refl _) _).alloc (by simp) _
  have HR := Lib.hid (Reads.below hr (b0.mono hB))
  have HB := Lib.hid b0
  have CT := Lib.hid (show ((w.alloc (.cells #[.slice (some ad) n c] 44)).alloc (.cells #[.slice none 0 0] 44)).cell? ⟨w.heap.size, 0, none⟩ = some (.slice (some ad) n c) by rw [World.cell?_alloc_lt _ _ _ (by simp)]; exact box1 w _ _)
  have CR := Lib.hid (show ((w.alloc (.cells #[.slice (some ad) n c] 44)).alloc (.cells #[.slice none 0 0] 44)).cell? ⟨w.heap.size + 1, 0, none⟩ = some (.slice none 0 0) by rw [World.cell?_alloc_at _ _ _ _ (by simp)]; rfl)
  have FR := Lib.hid (show ((w.alloc (.cells #[.slice (some ad) n c] 44)).alloc (.cells #[.slice none 0 0] 44)).frozen? ⟨w.heap.size + 1, 0, none⟩ = false from World.frozen?_alloc_at _ _ _ _ (by simp))
  have NR := Lib.hid (fun (j : Nat) (hj : 1 ≤ j) => show ((w.alloc (.cells #[.slice (some ad) n c] 44)).alloc (.cells #[.slice none 0 0] 44)).cell? ⟨w.heap.size + 1, j, none⟩ = none by rw [World.cell?_alloc_at _ _ _ _ (by simp)]; simp; omega)
  have HSZ := Lib.hid (show ((w.alloc (.cells #[.slice (some ad) n c] 44)).alloc (.cells #[.slice none 0 0] 44)).heap.size = w.heap.size + 1 + 1 by simp)
  have HP := Lib.hid (fun V (hV : Below w.heap.size w V) => rplace_v key L B (some ad) n c V (Reads.below hr (hV.mono hB)) (Nat.le_trans hB hV.size) ha hn)
  have HTL := Lib.hid (take_lo key ha)
  have HGH := Lib.hid (gt_head ha hy hye)
  have HDL := Lib.hid (has_key ha hy hye)
  have hkl : (lo key L).length < n := by have := (List.getElem?_eq_some_iff.1 hy).1; rw [HN.out] at this; exact this
  have HY := Lib.hid hy
  have g1 : (y.1.toList == key.toList) = true := (kbeq_iff _ _).2 hye
  clear hr b0 hy hye
  generalize hk : (lo key L).length = k at *
  clear hk
  have hccd : decide (c = k + 1) = false := by simpa using hcc0
  have ge : ((k : Int) == (n : Int)) = false := by rw [beq_eq_false_iff_ne]; omega
  have hk0 : (0 : Int) ≤ (k : Int) := by omega
  have hk1 : (k : Int) < (n : Int) := by omega
  have hkc : (k : Int) ≤ (c : Int) := by omega
  have hkc' : k ≤ c := by omega
  have hkk1 : (k : Int) + 1 ≤ (n : Int) := by omega
  have hkk2 : (k : Int) + 1 ≤ (c : Int) := by omega
  have hkk3 : ((k : Int) + 1).toNat = k + 1 := by omega
  go_enter Try.func42, Try.ntmps42
  go_wp2_with fail
  generalize (w.alloc (.cells #[.slice (some ad) n c] 44)).alloc (.cells #[.slice none 0 0] 44) = w0 at *
  refine (HP.out w0 HB.out).mono ?_
  rintro e w1 ⟨rfl, hb1⟩
  have hlt0 : w.heap.size < w0.heap.size := by have := HSZ.out; omega
  have hlt1 : w.heap.size + 1 < w0.heap.size := by have := HSZ.out; omega
  have c1 := keepC hb1 CT.out hlt0
  have CR1 := Lib.hid (keepC hb1 CR.out hlt1)
  have FR1 := Lib.hid (keepF hb1 FR.out hlt1)
  have NR1 := Lib.hid (fun j hj => keepC hb1 (NR.out j hj) hlt1)
  have HB1 := Lib.hid (btrans HB.out hb1 HB.out.size)
  have hz1 : w.heap.size + 1 < w1.heap.size := Nat.lt_of_lt_of_le hlt1 hb1.size
  have HR1 := Lib.hid (Reads.below HR.out (hb1.mono (by omega)))
  have d1 : w1.cell? (ad.add (k * 3)) = some (.string y.1) := PReads.key HR1.out HY.out
  clear hb1 HR HB CT CR FR NR HSZ HP hlt0 hlt1
  go_wp2_with fail
  refine wp_region_text [(1, false), (2, false), (3, false), (4, false), (6, false), (7, false), (8, false), (9, false), (10, false), (0, true), (5, true), (11, true), (12, false), (13, true)] (fun V => V.cell? ⟨w.heap.size, 0, none⟩ = some (.slice (some ad) n c)) (by kernel_rfl) (by kernel_rfl) (by kernel_rfl) (by kernel_rfl) (by kernel_rfl) (fun _ => ?_)
  simp only [outOf, List.getElem?_cons_zero, List.getElem?_cons_succ, Option.getD_some]
  have hS : w1.drew.cell? ⟨w.heap.size, 0, none⟩ = some (.slice (some ad) n c) := c1
  clear d1
  iterate 7 ((first | (refine TW.val2 (v := ?_) ?_ ?_ ?_ ?_ ?_; rotate_left; (focus rfl); (focus (intro W hSW; (try dsimp only at hSW); go_simp; (try with_reducible rfl); done)); (focus exact fun _ _ _ h => h); (focus assumption)) | (refine TW.skip (e := false) ?_ ?_ ?_ ?_; (focus rfl); (focus exact fun _ _ _ h => h); (focus assumption))); simp only [Act.put, List.setIfInBounds_toArray, List.set_cons_zero, List.set_cons_succ])
  have hwr : IntKind.i64.wrap ((k : Int) + 1) = (k : Int) + 1 := IntWalk.i64_in _ (by omega)
  iterate 1 ((first | (refine TW.val2 (v := ?_) ?_ ?_ ?_ ?_ ?_; rotate_left; (focus rfl); (focus (intro W hSW; (try dsimp only at hSW); go_simp; (try with_reducible rfl); done)); (focus exact fun _ _ _ h => h); (focus assumption)) | (refine TW.skip (e := false) ?_ ?_ ?_ ?_; (focus rfl); (focus exact fun _ _ _ h => h); (focus assumption))); simp only [Act.put, List.setIfInBounds_toArray, List.set_cons_zero, List.set_cons_succ])
  clear hwr
  have hccn : ¬ c = k + 1 := by simpa using hccd
  have hkk0 : (0 : Int) ≤ (k : Int) + 1 := by omega
  iterate 1 ((first | (refine TW.val2 (v := ?_) ?_ ?_ ?_ ?_ ?_; rotate_left; (focus rfl); (focus (intro W hSW; (try dsimp only at hSW); go_simp; (try with_reducible rfl); done)); (focus exact fun _ _ _ h => h); (focus assumption)) | (refine TW.skip (e := false) ?_ ?_ ?_ ?_; (focus rfl); (focus exact fun _ _ _ h => h); (focus assumption))); simp only [Act.put, List.setIfInBounds_toArray, List.set_cons_zero, List.set_cons_succ])
  clear hccn
  refine TW.eff (by rfl) (fun K hK => ?_); go_simp
  have c1a : (w1.alloc (.cells #[] 39)).drew.cell? ⟨w.heap.size, 0, none⟩ = some (.slice (some ad) n c) := (World.cell?_alloc_lt w1 _ _ (show w.heap.size < w1.heap.size by omega)).trans c1
  refine hK.out _ _ c1a ?_
  clear hK
  have HE : Hid (POwn (w1.alloc (.cells #[] 39)).drew w1.heap.size (some ⟨w1.heap.size, 0, none⟩) 0 0 []) := Lib.hid (POwn.empty w1)
  have HRA : Hid (PReads (w1.alloc (.cells #[] 39)).drew B (some ad) n (pvs L)) := Lib.hid (Reads.alloc HR1.out (show B ≤ w1.heap.size by omega) (.cells #[] 39))
  have HS1 := Lib.hid (show w1.heap.size + 1 ≤ (w1.alloc (.cells #[] 39)).drew.heap.size by show w1.heap.size + 1 ≤ (w1.alloc _).heap.size; simp)
  have CRA : Hid ((w1.alloc (.cells #[] 39)).drew.cell? ⟨w.heap.size + 1, 0, none⟩ = some (.slice none 0 0)) := Lib.hid ((World.cell?_alloc_lt w1 (.cells #[] 39) ⟨w.heap.size + 1, 0, none⟩ hz1).trans CR1.out)
  have FRA : Hid ((w1.alloc (.cells #[] 39)).drew.frozen? ⟨w.heap.size + 1, 0, none⟩ = false) := Lib.hid ((World.frozen?_alloc_past (.cells #[] 39) (w.heap.size + 1) 0 hz1).trans FR1.out)
  have NRA : Hid (∀ j, 1 ≤ j → (w1.alloc (.cells #[] 39)).drew.cell? ⟨w.heap.size + 1, j, none⟩ = none) := Lib.hid (fun j hj => (World.cell?_alloc_lt w1 (.cells #[] 39) ⟨w.heap.size + 1, j, none⟩ hz1).trans (NR1.out j hj))
  have BA : Hid (Below w.heap.size w (w1.alloc (.cells #[] 39)).drew) := Lib.hid (HB1.out.alloc (show w.heap.size ≤ w1.heap.size by omega) (.cells #[] 39)).drew
  generalize (w1.alloc (.cells #[] 39)).drew = wa at *
  generalize hgz : w1.heap.size = gz at *
  clear HR1 CR1 FR1 NR1 HB1 c1
  have hza : gz + 1 ≤ wa.heap.size := HS1.out
  have R1 := Lib.hid (show PReads wa B (some ad) k (pvs (lo key L)) by
    have h := PReads.take HRA.out (show k ≤ n by omega)
    rwa [show (pvs L).take k = pvs (lo key L) by rw [← HTL.out, pvs, pvs, List.map_take]] at h)
  have HL1 : Hid (0 + k ≤ 3000000000000) := Lib.hid (by omega)
  have HL2 : Hid (k + (n - (k + 1)) ≤ 3000000000000) := Lib.hid (by omega)
  refine TW.eff (by rfl) (fun K hK => ?_)
  refine wp_papp (.tmp 25) (.tmp 29) rfl gz (some ⟨gz, 0, none⟩) 0 0 [] rfl HE.out B (some ad) k c (pvs (lo key L)) rfl R1.out HL1.out (by omega) ?_
  intro A2 c2 w2 ho2 hg2
  rw [Nat.zero_add, List.nil_append] at ho2
  have hz2 : wa.heap.size ≤ w2.heap.size := hg2.size
  have c2a := gb_cell hg2 HE.out c1a (show w.heap.size < gz by omega) (by omega)
  refine hK.out _ _ c2a ?_
  clear hK
  (try simp only [Act.put, List.setIfInBounds_toArray, List.set_cons_zero, List.set_cons_succ, Nat.zero_add])
  have CR2 := Lib.hid (gb_cell hg2 HE.out CRA.out hz1 (by omega))
  have FR2 := Lib.hid (gb_frozen hg2 HE.out FRA.out hz1 (by omega))
  have NR2 := Lib.hid (fun j hj => gb_cell hg2 HE.out (NRA.out j hj) hz1 (by omega))
  have HR2 := Lib.hid (Reads.grown HRA.out hg2 (by omega) (fun g hg => by have := (HE.out.base_le g hg).1; omega))
  have HB2 := Lib.hid (below_papp BA.out hg2 HE.out (by omega) (by omega))
  have HO2 := Lib.hid ho2
  have R3 : Hid (PReads w2 B (some (ad.add ((k + 1) * 3))) (n - (k + 1)) (pvs (gt key L))) := Lib.hid (by have h := PReads.cut HR2.out (k := k + 1) (by omega) hnc; rw [show (pvs L).drop (k + 1) = pvs (gt key L) by rw [← HGH.out, pvs, pvs, List.map_drop], if_neg hcc0, Option.map_some] at h; exact h)
  clear ho2 hg2 CRA FRA NRA HRA BA R1 HE
  refine TW.eff (by rfl) (fun K hK => ?_)
  refine wp_papp (.tmp 30) (.tmp 35) rfl gz A2 k c2 (pvs (lo key L)) rfl HO2.out B (some (ad.add ((k + 1) * 3))) (n - (k + 1)) (c - (k + 1)) (pvs (gt key L)) rfl R3.out HL2.out (by omega) ?_
  intro A4 c4 w4 ho4 hg4
  have c4a := gb_cell hg4 HO2.out c2a (show w.heap.size < gz by omega) (by omega)
  refine hK.out _ _ c4a ?_
  clear hK
  (try simp only [Act.put, List.setIfInBounds_toArray, List.set_cons_zero, List.set_cons_succ])
  have kc := gb_cell hg4 HO2.out CR2.out hz1 (by omega)
  have kf := gb_frozen hg4 HO2.out FR2.out hz1 (by omega)
  have NR4 := Lib.hid (fun j hj => gb_cell hg4 HO2.out (NR2.out j hj) hz1 (by omega))
  have HB4 := Lib.hid (below_papp HB2.out hg4 HO2.out (by omega) (by omega))
  have HO4 := Lib.hid ho4
  have hz4 : w2.heap.size ≤ w4.heap.size := hg4.size
  clear ho4 hg4 HO2 HB2 NR2 CR2 FR2
  iterate 1 ((first | (refine TW.val2 (v := ?_) ?_ ?_ ?_ ?_ ?_; rotate_left; (focus rfl); (focus (intro W hSW; (try dsimp only at hSW); go_simp; (try with_reducible rfl); done)); (focus exact fun _ _ _ h => h); (focus assumption)) | (refine TW.skip (e := false) ?_ ?_ ?_ ?_; (focus rfl); (focus exact fun _ _ _ h => h); (focus assumption))); simp only [Act.put, List.setIfInBounds_toArray, List.set_cons_zero, List.set_cons_succ])
  refine TW.eff (by rfl) (fun K hK => ?_); go_simp
  refine hK.out _ _ ((World.cell?_setCell_other w4 _ _ _ (by intro e; injection e; omega)).trans c4a) ?_
  clear hK
  refine TW.done ?_
  go_wp2_with fail
  refine bodyPost_ret (v := .agg #[.slice A4 (k + (n - (k + 1))) c4]) (by simp [results, Try.results42, go_sem, kc]) rfl ?_
  have hfin : POwn w4 gz A4 (k + (n - (k + 1))) c4 (pvs (dropL key L)) := by
    have := HO4.out
    rw [HDL.out, pvs_app]
    exact this
  have hrt := RTab.of_own hfin
  exact ⟨A4, _, c4, rfl, ⟨by have := PReads.set1 hrt.1 NR4.out (.slice A4 (k + (n - (k + 1))) c4); simpa using this, hrt.2⟩, HB4.out.setCell (by simp) _⟩
set_option maxHeartbeats 4000000 in
theorem rdrop_cut1 (key : ByteArray) (L : List KV) (B : Nat) (ad : Addr) (n c : Nat) (w : World) (hr : RTab w B (some ad) n c L) (hB : B ≤ w.heap.size) (ha : asc L) (hn : n ≤ 1000000)
    (y : KV) (hy : L[(lo key L).length]? = some y) (hye : y.1 = key) (hcc0 : c = (lo key L).length + 1) :
    Calls Try.prog 42 #[.agg #[.slice (some ad) n c], .string key] w (RPost w (dropL key L)) := by
  obtain ⟨hr, hnc, hcm, _⟩ := hr
  have HN := Lib.hid (show L.length = n by rw [← hr.len, pvs_len])
  have b0 : Below w.heap.size w ((w.alloc (.cells #[.slice (some ad) n c] 44)).alloc (.cells #[.slice none 0 0] 44)) := ((Below.refl _ _).alloc (Nat.le_refl _) _).alloc (by simp) _
  have HR := Lib.hid (Reads.below hr (b0.mono hB))
  have HB := Lib.hid b0
  have CT := Lib.hid (show ((w.alloc (.cells #[.slice (some ad) n c] 44)).alloc (.cells #[.slice none 0 0] 44)).cell? ⟨w.heap.size, 0, none⟩ = some (.slice (some ad) n c) by rw [World.cell?_alloc_lt _ _ _ (by simp)]; exact box1 w _ _)
  have CR := Lib.hid (show ((w.alloc (.cells #[.slice (some ad) n c] 44)).alloc (.cells #[.slice none 0 0] 44)).cell? ⟨w.heap.size + 1, 0, none⟩ = some (.slice none 0 0) by rw [World.cell?_alloc_at _ _ _ _ (by simp)]; rfl)
  have FR := Lib.hid (show ((w.alloc (.cells #[.slice (some ad) n c] 44)).alloc (.cells #[.slice none 0 0] 44)).frozen? ⟨w.heap.size + 1, 0, none⟩ = false from World.frozen?_alloc_at _ _ _ _ (by simp))
  have NR := Lib.hid (fun (j : Nat) (hj : 1 ≤ j) => show ((w.alloc (.cells #[.slice (some ad) n c] 44)).alloc (.cells #[.slice none 0 0] 44)).cell? ⟨w.heap.size + 1, j, none⟩ = none by rw [World.cell?_alloc_at _ _ _ _ (by simp)]; simp; omega)
  have HSZ := Lib.hid (show ((w.alloc (.cells #[.slice (some ad) n c] 44)).alloc (.cells #[.slice none 0 0] 44)).heap.size = w.heap.size + 1 + 1 by simp)
  have HP := Lib.hid (fun V (hV : Below w.heap.size w V) => rplace_v key L B (some ad) n c V (Reads.below hr (hV.mono hB)) (Nat.le_trans hB hV.size) ha hn)
  have HTL := Lib.hid (take_lo key ha)
  have HGH := Lib.hid (gt_head ha hy hye)
  have HDL := Lib.hid (has_key ha hy hye)
  have hkl : (lo key L).length < n := by have := (List.getElem?_eq_some_iff.1 hy).1; rw [HN.out] at this; exact this
  have HY := Lib.hid hy
  have g1 : (y.1.toList == key.toList) = true := (kbeq_iff _ _).2 hye
  clear hr b0 hy hye
  generalize hk : (lo key L).length = k at *
  clear hk
  have hn1 : n = k + 1 := by omega
  have HGN := Lib.hid (show (gt key L).length = 0 by rw [← HGH.out, List.length_drop, HN.out]; omega)
  subst hcc0
  subst hn1
  have ge : ((k : Int) == ((k + 1) : Int)) = false := by rw [beq_eq_false_iff_ne]; omega
  have hk0 : (0 : Int) ≤ (k : Int) := by omega
  have hk1 : (k : Int) < ((k + 1) : Int) := by omega
  have hkc : (k : Int) ≤ ((k + 1) : Int) := by omega
  have hkc' : k ≤ (k + 1) := by omega
  have hkk1 : (k : Int) + 1 ≤ ((k + 1) : Int) := by omega
  have hkk2 : (k : Int) + 1 ≤ ((k + 1) : Int) := by omega
  have hkk3 : ((k : Int) + 1).toNat = k + 1 := by omega
  go_enter Try.func42, Try.ntmps42
  go_wp2_with fail
  generalize (w.alloc (.cells #[.slice (some ad) (k + 1) (k + 1)] 44)).alloc (.cells #[.slice none 0 0] 44) = w0 at *
  refine (HP.out w0 HB.out).mono ?_
  rintro e w1 ⟨rfl, hb1⟩
  have hlt0 : w.heap.size < w0.heap.size := by have := HSZ.out; omega
  have hlt1 : w.heap.size + 1 < w0.heap.size := by have := HSZ.out; omega
  have c1 := keepC hb1 CT.out hlt0
  have CR1 := Lib.hid (keepC hb1 CR.out hlt1)
  have FR1 := Lib.hid (keepF hb1 FR.out hlt1)
  have NR1 := Lib.hid (fun j hj => keepC hb1 (NR.out j hj) hlt1)
  have HB1 := Lib.hid (btrans HB.out hb1 HB.out.size)
  have hz1 : w.heap.size + 1 < w1.heap.size := Nat.lt_of_lt_of_le hlt1 hb1.size
  have HR1 := Lib.hid (Reads.below HR.out (hb1.mono (by omega)))
  have d1 : w1.cell? (ad.add (k * 3)) = some (.string y.1) := PReads.key HR1.out HY.out
  clear hb1 HR HB CT CR FR NR HSZ HP hlt0 hlt1
  go_wp2_with fail
  refine wp_region_text [(1, false), (2, false), (3, false), (4, false), (6, false), (7, false), (8, false), (9, false), (10, false), (0, true), (5, true), (11, true), (12, false), (13, true)] (fun V => V.cell? ⟨w.heap.size, 0, none⟩ = some (.slice (some ad) (k + 1) (k + 1))) (by kernel_rfl) (by kernel_rfl) (by kernel_rfl) (by kernel_rfl) (by kernel_rfl) (fun _ => ?_)
  simp only [outOf, List.getElem?_cons_zero, List.getElem?_cons_succ, Option.getD_some]
  have hS : w1.drew.cell? ⟨w.heap.size, 0, none⟩ = some (.slice (some ad) (k + 1) (k + 1)) := c1
  clear d1
  iterate 7 ((first | (refine TW.val2 (v := ?_) ?_ ?_ ?_ ?_ ?_; rotate_left; (focus rfl); (focus (intro W hSW; (try dsimp only at hSW); go_simp; (try with_reducible rfl); done)); (focus exact fun _ _ _ h => h); (focus assumption)) | (refine TW.skip (e := false) ?_ ?_ ?_ ?_; (focus rfl); (focus exact fun _ _ _ h => h); (focus assumption))); simp only [Act.put, List.setIfInBounds_toArray, List.set_cons_zero, List.set_cons_succ])
  have hwr : IntKind.i64.wrap ((k : Int) + 1) = (k : Int) + 1 := IntWalk.i64_in _ (by omega)
  iterate 1 ((first | (refine TW.val2 (v := ?_) ?_ ?_ ?_ ?_ ?_; rotate_left; (focus rfl); (focus (intro W hSW; (try dsimp only at hSW); go_simp; (try with_reducible rfl); done)); (focus exact fun _ _ _ h => h); (focus assumption)) | (refine TW.skip (e := false) ?_ ?_ ?_ ?_; (focus rfl); (focus exact fun _ _ _ h => h); (focus assumption))); simp only [Act.put, List.setIfInBounds_toArray, List.set_cons_zero, List.set_cons_succ])
  clear hwr
  have hkk0 : (0 : Int) ≤ (k : Int) + 1 := by omega
  iterate 1 ((first | (refine TW.val2 (v := ?_) ?_ ?_ ?_ ?_ ?_; rotate_left; (focus rfl); (focus (intro W hSW; (try dsimp only at hSW); go_simp; (try with_reducible rfl); done)); (focus exact fun _ _ _ h => h); (focus assumption)) | (refine TW.skip (e := false) ?_ ?_ ?_ ?_; (focus rfl); (focus exact fun _ _ _ h => h); (focus assumption))); simp only [Act.put, List.setIfInBounds_toArray, List.set_cons_zero, List.set_cons_succ])
  refine TW.eff (by rfl) (fun K hK => ?_); go_simp
  have c1a : (w1.alloc (.cells #[] 39)).drew.cell? ⟨w.heap.size, 0, none⟩ = some (.slice (some ad) (k + 1) (k + 1)) := (World.cell?_alloc_lt w1 _ _ (show w.heap.size < w1.heap.size by omega)).trans c1
  refine hK.out _ _ c1a ?_
  clear hK
  have HE : Hid (POwn (w1.alloc (.cells #[] 39)).drew w1.heap.size (some ⟨w1.heap.size, 0, none⟩) 0 0 []) := Lib.hid (POwn.empty w1)
  have HRA : Hid (PReads (w1.alloc (.cells #[] 39)).drew B (some ad) (k + 1) (pvs L)) := Lib.hid (Reads.alloc HR1.out (show B ≤ w1.heap.size by omega) (.cells #[] 39))
  have HS1 := Lib.hid (show w1.heap.size + 1 ≤ (w1.alloc (.cells #[] 39)).drew.heap.size by show w1.heap.size + 1 ≤ (w1.alloc _).heap.size; simp)
  have CRA : Hid ((w1.alloc (.cells #[] 39)).drew.cell? ⟨w.heap.size + 1, 0, none⟩ = some (.slice none 0 0)) := Lib.hid ((World.cell?_alloc_lt w1 (.cells #[] 39) ⟨w.heap.size + 1, 0, none⟩ hz1).trans CR1.out)
  have FRA : Hid ((w1.alloc (.cells #[] 39)).drew.frozen? ⟨w.heap.size + 1, 0, none⟩ = false) := Lib.hid ((World.frozen?_alloc_past (.cells #[] 39) (w.heap.size + 1) 0 hz1).trans FR1.out)
  have NRA : Hid (∀ j, 1 ≤ j → (w1.alloc (.cells #[] 39)).drew.cell? ⟨w.heap.size + 1, j, none⟩ = none) := Lib.hid (fun j hj => (World.cell?_alloc_lt w1 (.cells #[] 39) ⟨w.heap.size + 1, j, none⟩ hz1).trans (NR1.out j hj))
  have BA : Hid (Below w.heap.size w (w1.alloc (.cells #[] 39)).drew) := Lib.hid (HB1.out.alloc (show w.heap.size ≤ w1.heap.size by omega) (.cells #[] 39)).drew
  generalize (w1.alloc (.cells #[] 39)).drew = wa at *
  generalize hgz : w1.heap.size = gz at *
  clear HR1 CR1 FR1 NR1 HB1 c1
  have hza : gz + 1 ≤ wa.heap.size := HS1.out
  have R1 := Lib.hid (show PReads wa B (some ad) k (pvs (lo key L)) by
    have h := PReads.take HRA.out (show k ≤ (k + 1) by omega)
    rwa [show (pvs L).take k = pvs (lo key L) by rw [← HTL.out, pvs, pvs, List.map_take]] at h)
  have HL1 : Hid (0 + k ≤ 3000000000000) := Lib.hid (by omega)
  have HL2 : Hid (k + 0 ≤ 3000000000000) := Lib.hid (by omega)
  refine TW.eff (by rfl) (fun K hK => ?_)
  refine wp_papp (.tmp 25) (.tmp 29) rfl gz (some ⟨gz, 0, none⟩) 0 0 [] rfl HE.out B (some ad) k (k + 1) (pvs (lo key L)) rfl R1.out HL1.out (by omega) ?_
  intro A2 c2 w2 ho2 hg2
  rw [Nat.zero_add, List.nil_append] at ho2
  have hz2 : wa.heap.size ≤ w2.heap.size := hg2.size
  have c2a := gb_cell hg2 HE.out c1a (show w.heap.size < gz by omega) (by omega)
  refine hK.out _ _ c2a ?_
  clear hK
  (try simp only [Act.put, List.setIfInBounds_toArray, List.set_cons_zero, List.set_cons_succ, Nat.zero_add])
  have CR2 := Lib.hid (gb_cell hg2 HE.out CRA.out hz1 (by omega))
  have FR2 := Lib.hid (gb_frozen hg2 HE.out FRA.out hz1 (by omega))
  have NR2 := Lib.hid (fun j hj => gb_cell hg2 HE.out (NRA.out j hj) hz1 (by omega))
  have HR2 := Lib.hid (Reads.grown HRA.out hg2 (by omega) (fun g hg => by have := (HE.out.base_le g hg).1; omega))
  have HB2 := Lib.hid (below_papp BA.out hg2 HE.out (by omega) (by omega))
  have HO2 := Lib.hid ho2
  have R3 : Hid (∀ D, PReads w2 B D 0 (pvs (gt key L))) := Lib.hid (fun D => ⟨by rw [p3sC_len, pvs_len, HGN.out], fun h => absurd h (by omega)⟩)
  clear ho2 hg2 CRA FRA NRA HRA BA R1 HE
  refine TW.eff (by rfl) (fun K hK => ?_)
  refine wp_papp (.tmp 30) (.tmp 35) rfl gz A2 k c2 (pvs (lo key L)) rfl HO2.out B _ 0 _ (pvs (gt key L)) rfl (R3.out _) HL2.out (by omega) ?_
  intro A4 c4 w4 ho4 hg4
  have c4a := gb_cell hg4 HO2.out c2a (show w.heap.size < gz by omega) (by omega)
  refine hK.out _ _ c4a ?_
  clear hK
  (try simp only [Act.put, List.setIfInBounds_toArray, List.set_cons_zero, List.set_cons_succ])
  have kc := gb_cell hg4 HO2.out CR2.out hz1 (by omega)
  have kf := gb_frozen hg4 HO2.out FR2.out hz1 (by omega)
  have NR4 := Lib.hid (fun j hj => gb_cell hg4 HO2.out (NR2.out j hj) hz1 (by omega))
  have HB4 := Lib.hid (below_papp HB2.out hg4 HO2.out (by omega) (by omega))
  have HO4 := Lib.hid ho4
  have hz4 : w2.heap.size ≤ w4.heap.size := hg4.size
  clear ho4 hg4 HO2 HB2 NR2 CR2 FR2
  iterate 1 ((first | (refine TW.val2 (v := ?_) ?_ ?_ ?_ ?_ ?_; rotate_left; (focus rfl); (focus (intro W hSW; (try dsimp only at hSW); go_simp; (try with_reducible rfl); done)); (focus exact fun _ _ _ h => h); (focus assumption)) | (refine TW.skip (e := false) ?_ ?_ ?_ ?_; (focus rfl); (focus exact fun _ _ _ h => h); (focus assumption))); simp only [Act.put, List.setIfInBounds_toArray, List.set_cons_zero, List.set_cons_succ])
  refine TW.eff (by rfl) (fun K hK => ?_); go_simp
  refine hK.out _ _ ((World.cell?_setCell_other w4 _ _ _ (by intro e; injection e; omega)).trans c4a) ?_
  clear hK
  refine TW.done ?_
  go_wp2_with fail
  refine bodyPost_ret (v := .agg #[.slice A4 (k + 0) c4]) (by simp [results, Try.results42, go_sem, kc]) rfl ?_
  have hfin : POwn w4 gz A4 (k + 0) c4 (pvs (dropL key L)) := by
    have := HO4.out
    rw [HDL.out, pvs_app]
    exact this
  have hrt := RTab.of_own hfin
  exact ⟨A4, _, c4, rfl, ⟨by have := PReads.set1 hrt.1 NR4.out (.slice A4 (k + 0) c4); simpa using this, hrt.2⟩, HB4.out.setCell (by simp) _⟩
theorem rdrop_v (key : ByteArray) (L : List KV) (B : Nat) (A : Option Addr) (n c : Nat) (w : World) (hr : RTab w B A n c L) (hB : B ≤ w.heap.size) (ha : asc L) (hn : n ≤ 1000000) :
    Calls Try.prog 42 #[.agg #[.slice A n c], .string key] w (RPost w (dropL key L)) := by
  have hl : L.length = n := by rw [← hr.1.len, pvs_len]
  by_cases hx : ∀ x, L[(lo key L).length]? = some x → x.1 ≠ key
  · exact rdrop_same key L B A n c w hr hB ha hn hx
  · have hx' : ∃ y, L[(lo key L).length]? = some y ∧ y.1 = key := by
      refine Classical.byContradiction fun hh => hx fun x h e => hh ⟨x, h, e⟩
    obtain ⟨y, hy, hye⟩ := hx'
    cases A with
    | none =>
      have hc0 : c = 0 := hr.2.2.2 rfl
      have hn0 : n = 0 := by have := hr.2.1; omega
      have := (List.getElem?_eq_some_iff.1 hy).1
      omega
    | some ad =>
      by_cases hcc : c = (lo key L).length + 1
      · exact rdrop_cut1 key L B ad n c w hr hB ha hn y hy hye hcc
      · exact rdrop_cut2 key L B ad n c w hr hB ha hn y hy hye hcc
end Go.Proofs.Ytohcdnbchidjeaa
