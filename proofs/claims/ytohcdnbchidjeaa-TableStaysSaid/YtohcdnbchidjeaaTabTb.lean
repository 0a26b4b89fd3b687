/-
  The walk of TableStays (light lists, short texts).
-/
import Derived.Test.YtohcdnbchidjeaaTabTa
import Derived.Test.YtohcdnbchidjeaaTabCh
import Derived.Test.YtohcdnbchidjeaaIntRows
namespace Go.Proofs.Ytohcdnbchidjeaa
open Go.RowKit
theorem RCell.box' (w : World) {L : List KV} {A : Option Addr} {n c : Nat} (h : RTab w w.heap.size A n c L) : RCell (w.alloc (.cells #[.slice A n c] 44)) w.heap.size L A n c :=
  ⟨box1 w _ _, World.frozen?_alloc_at _ _ _ _ rfl, OneC.new w _ _, h.step ((Below.refl _ _).alloc (Nat.le_refl _) _), by simp⟩
theorem range_n {X : Tr} {N : Nat} (hX : good X) (hN : X.cnt = N) (hc : N ≤ 1000000) (V : World) (q : Option Addr) (h : Rep V V.heap.size X q) :
    Calls Try.prog 22 #[.agg #[.pointer q], .string ⟨#[]⟩, .string ⟨#[]⟩, .int .i64 (N : Int)] V fun e w' => ∃ A c, e = .returned (.slice A N c) ∧ POwn w' V.heap.size A N c (pvs X.flat) ∧ Below V.heap.size V w' := by
  subst hN
  have := range_f hX ⟨#[]⟩ ⟨#[]⟩ (X.cnt : Int) V.heap.size q V h (Nat.le_refl _) hc
  rw [range_all (by rw [flat_len]; exact Nat.le_refl _)] at this
  refine this.mono ?_
  rintro e w' ⟨A, c, h1, h2, h3⟩
  rw [show (pvs X.flat).length = X.cnt by rw [pvs_len, flat_len]] at h1 h2
  exact ⟨A, c, h1, h2, h3⟩
theorem get_put {T : Tr} (h : good T) (k v : ByteArray) : (T.put k v).get k = some v :=
  get_mem (good_put h k v) (x := (k, v)) (by rw [put_flat T k v h.1]; exact mem_putL.2 (Or.inl rfl))
/-- The slice 'left' while it is shuffled. -/
def LeftI (b : Nat) (A : Option Addr) (N c : Nat) (L : List KV) (wr : World) : Prop := ∃ l : List KV, Shuf l L ∧ POwn wr b A N c (pvs l)
set_option maxHeartbeats 16000000 in
set_option maxRecDepth 100000 in
theorem stays_in2 (A A' Ab : Option Addr) (n c n' c' nb cb : Nat) (l o : List P3) (zs : List Int) (key v : ByteArray) (w : World) (hin : PIn w A n c l) (hin' : PIn w A' n' c' o) (hrb : Reads w w.heap.size 1 Ab nb (zs.map (Value.int .i64))) (hnb : nb ≤ 200)
    (hl : lightB 200 5000 l = true) (ho : lightB 200 5000 o = true) (hkey : key.size ≤ 5000) (hv : v.size ≤ 5000) :
    Calls Try.prog 5 #[.slice A n c, .slice A' n' c', .slice Ab nb cb, .string key, .string v] w fun e w' => e = .returned (.bool true) ∧ Below w.heap.size w w' := by
  obtain ⟨hr, hnc, hcm⟩ := hin
  obtain ⟨hr', hnc', hcm'⟩ := hin'
  unfold maxLen at hcm hcm'
  have HR := Lib.hid hr
  have HR' := Lib.hid hr'
  have HRB := Lib.hid hrb
  have hn4 : n ≤ 200 := by rw [← hr.len]; exact (lightB_spec hl).1
  have hn4' : n' ≤ 200 := by rw [← hr'.len]; exact (lightB_spec ho).1
  have HLT := Lib.hid hl
  have HLT' := Lib.hid ho
  have HSK := Lib.hid (smallK_of (by omega) hl)
  have HSK' := Lib.hid (smallK_of (by omega) ho)
  have M1 := Lib.hid (made_of (by omega) hl)
  have M2 := Lib.hid (made_of (by omega) ho)
  clear hr hr' hl ho hrb
  generalize hT : doneT .nil l = T at *
  have HT := Lib.hid hT
  clear hT
  generalize hU : doneT .nil o = U at *
  have HU := Lib.hid hU
  clear hU
  generalize hN : T.cnt = N at *
  have HN := Lib.hid hN
  have hN4 : N ≤ 400 := by rw [← hN]; exact M1.out.2.1
  clear hN
  have HCG := Lib.hid (made_chg M1.out M2.out (by omega))
  obtain ⟨CH, hCH⟩ : ∃ CH, CH = chg T.flat U.flat := ⟨_, rfl⟩
  rw [← hCH] at HCG
  have HCH := Lib.hid hCH
  clear hCH
  obtain ⟨NP, hNP⟩ : ∃ NP, NP = pvs T.pre := ⟨_, rfl⟩
  have HNP := Lib.hid hNP
  have HNPn : NP.length ≤ 1000000 := by rw [hNP, pvs_len, pre_len, HN.out]; omega
  clear hNP
  have hkd : decide (5000 < key.size) = false := by simp; omega
  have hkd' : decide ((5000 : Int) < (key.size : Int)) = false := by simp; omega
  have hke : decide (5000 < v.size) = false := by simp; omega
  have hke' : decide ((5000 : Int) < (v.size : Int)) = false := by simp; omega
  have hkf : decide (200 < nb) = false := by simp; omega
  have hkf' : decide ((200 : Int) < (nb : Int)) = false := by simp; omega
  go_enter Try.func5, Try.ntmps5
  go_wp2_with fail
  refine (lives_v w).mono ?_
  rintro e w1 ⟨rfl, hb1⟩
  go_wp2_with fail
  refine (light_v w.heap.size A n c 200 5000 l w1 (Reads.below HR.out hb1) hb1.size (by omega) (by omega)).mono ?_
  rw [HLT.out]
  rintro e w2 ⟨rfl, hb2⟩
  have HB2 := Lib.hid (btwo hb1 hb2)
  clear hb1 hb2
  go_wp2_with fail
  refine (light_v w.heap.size A' n' c' 200 5000 o w2 (Reads.below HR'.out HB2.out) HB2.out.size (by omega) (by omega)).mono ?_
  rw [HLT'.out]
  rintro e w3 ⟨rfl, hb3⟩
  have HB3 := Lib.hid (btrans HB2.out hb3 HB2.out.size)
  clear hb3 HB2
  go_wp2_with fail
  refine (made_v w.heap.size A n c l w3 (Reads.below HR.out HB3.out) HB3.out.size (by omega) HSK.out).mono ?_
  rw [HT.out]
  rintro e w4 ⟨q, A3, n3, c3, rfl, r4, rr4, hb4⟩
  have hbx : Below w3.heap.size w3 ((w4.alloc (.cells #[.pointer q] 24)).alloc (.cells #[.slice A3 n3 c3] 44)) := (hb4.alloc hb4.size _).alloc (Nat.le_trans hb4.size (by simp)) _
  have TT5 : Hid (TCell ((w4.alloc (.cells #[.pointer q] 24)).alloc (.cells #[.slice A3 n3 c3] 44)) w4.heap.size T q) := Lib.hid ((TCell.box w4 r4).alloc _)
  have HB5 := Lib.hid (btrans HB3.out hbx HB3.out.size)
  clear HB3
  clear hbx hb4 r4 rr4
  have ct := TT5.out.1
  go_wp2_with fail
  generalize ((w4.alloc (.cells #[.pointer q] 24)).alloc (.cells #[.slice A3 n3 c3] 44)) = w5 at *
  generalize w4.heap.size = ga at *
  refine (nodes_v T w5.heap.size q w5 TT5.out.2.2.2.1 (Nat.le_refl _) (by rw [HN.out]; omega)).mono ?_
  rw [← HNP.out]
  rintro e w6 ⟨A6, c6, rfl, ho6, hb6⟩
  have WS6 := Lib.hid ho6
  have HB6 := Lib.hid (btrans HB5.out hb6 HB5.out.size)
  have TT6 := Lib.hid (TT5.out.below hb6)
  clear HB5 TT5
  clear hb6 ho6 ct
  have ct := TT6.out.1
  go_wp2_with fail
  refine wp_region_text [(0, false), (1, false), (2, true), (3, true), (4, false)] (fun V => Below w6.heap.size w6 V) (by kernel_rfl) (by kernel_rfl) (by kernel_rfl) (by kernel_rfl) (by kernel_rfl) (fun _ => ?_)
  simp only [outOf, List.getElem?_cons_zero, List.getElem?_cons_succ, Option.getD_some]
  have q1 : ∀ V, Below w6.heap.size w6 V → V.cell? ⟨ga, 0, none⟩ = some (.pointer q) := fun V h => keepC h TT6.out.1 TT6.out.2.2.2.2
  have hS := (Below.refl w6.heap.size w6).drew
  iterate 2 ((first | (refine TW.val2 (v := ?_) ?_ ?_ ?_ ?_ ?_; rotate_left; (focus rfl); (focus (intro W hSW; (try dsimp only at hSW); go_simp; (try with_reducible rfl); done)); (focus exact fun _ _ _ h => h); (focus assumption)) | (refine TW.skip (e := false) ?_ ?_ ?_ ?_; (focus rfl); (focus exact fun _ _ _ h => h); (focus assumption))); simp only [Act.put, List.setIfInBounds_toArray, List.set_cons_zero, List.set_cons_succ])
  refine TW.eff (by rfl) (fun K hK => ?_); go_simp
  refine (size_v T w6.drew.heap.size q w6.drew (TT6.out.below hS).2.2.2.1 (Nat.le_refl _)).mono ?_
  rw [HN.out]
  rintro e w7 ⟨rfl, hb7⟩
  have hS7 := hS.trans hb7
  clear hb7
  go_wp2_with fail; refine hK.out _ _ hS7 ?_; clear hK; (try simp only [Act.put, List.setIfInBounds_toArray, List.set_cons_zero, List.set_cons_succ])
  refine TW.eff (by rfl) (fun K hK => ?_); go_simp
  refine (range_n M1.out.1 HN.out (by omega) w7 q (TT6.out.below hS7).2.2.2.1).mono ?_
  rintro e w8 ⟨A8, c8, rfl, ho8, hb8⟩
  have hS8 := btwo hS7 hb8
  have hb0 := hb8
  clear hb8
  go_wp2_with fail; refine hK.out _ _ hS8 ?_; clear hK; (try simp only [Act.put, List.setIfInBounds_toArray, List.set_cons_zero, List.set_cons_succ])
  iterate 1 ((first | (refine TW.val2 (v := ?_) ?_ ?_ ?_ ?_ ?_; rotate_left; (focus rfl); (focus (intro W hSW; (try dsimp only at hSW); go_simp; (try with_reducible rfl); done)); (focus exact fun _ _ _ h => h); (focus assumption)) | (refine TW.skip (e := false) ?_ ?_ ?_ ?_; (focus rfl); (focus exact fun _ _ _ h => h); (focus assumption))); simp only [Act.put, List.setIfInBounds_toArray, List.set_cons_zero, List.set_cons_succ])
  refine TW.done ?_
  have TT7 := Lib.hid (TT6.out.below hS7)
  have WS7 := Lib.hid (WS6.out.below hS7)
  have HB7 := Lib.hid (btrans HB6.out hS7 HB6.out.size)
  clear q1 hS hS7 hS8 TT6 WS6 HB6 ct
  have L8 := Lib.hid (show LeftI w7.heap.size A8 N c8 T.flat w8 from ⟨T.flat, Shuf.refl M1.out.1.1, ho8⟩)
  have HB8 := Lib.hid hb0
  have HRB7 := Lib.hid (Reads.below HRB.out HB7.out)
  clear ho8 hb0
  have hwz7 : w.heap.size ≤ w7.heap.size := HB7.out.size
  go_wp2
  go_loopw [15] (fun i wr => ∃ j : Nat, j ≤ N ∧ i = .int .i64 (j : Int) ∧ LeftI w7.heap.size A8 N c8 T.flat wr ∧ Below w7.heap.size w7 wr) (fun i _ => N - (intOf i).toNat)
  case atStart => exact ⟨0, Nat.zero_le _, rfl, L8.out, HB8.out⟩
  case round =>
    obtain ⟨j, hjN, rfl, hlf, hb⟩ := hrel
    have BR := Lib.hid hb
    have LF := Lib.hid hlf
    clear hb hlf L8 HB8
    by_cases hlt : j < N ∧ j < nb
    · obtain ⟨h1, h2⟩ := hlt
      obtain ⟨ll, hsh, hown⟩ := LF.out
      have SH := Lib.hid hsh
      have OW := Lib.hid hown
      obtain ⟨ab, ub, hAb, _, hub, d0⟩ := Reads.at_ (Reads.below HRB7.out (BR.out.mono hwz7)) h2
      rw [List.getElem?_map] at hub
      obtain ⟨z, hz, rfl⟩ : ∃ z, zs[j]? = some z ∧ ub = .int .i64 z := by
        cases hzj : zs[j]? with
        | none => rw [hzj] at hub; cases hub
        | some z => rw [hzj] at hub; injection hub with hub; exact ⟨z, rfl, hub.symm⟩
      subst hAb
      have g1 : decide (j < N) = true := by simpa using h1
      have g2 : decide (j < nb) = true := by simpa using h2
      have hj0 : (0 : Int) ≤ (j : Int) := by omega
      have hj1 : (j : Int) < (nb : Int) := by omega
      have hj2 : (j : Int) < (N : Int) := by omega
      have hjm : (1 : Int) ≤ (N : Int) - (j : Int) := by omega
      have hjm2 : (N : Int) - (j : Int) ≤ 1000000 := by omega
      have PK := Lib.hid (fun W => pick_v z ((N : Int) - (j : Int)) W hjm hjm2)
      clear hsh hown hub hz LF
      go_wp2_with fail
      refine (PK.out wr).mono ?_
      rintro e _ ⟨p, hp, rfl, rfl⟩
      obtain ⟨x, hx⟩ : ∃ x, ll[j]? = some x := ⟨_, List.getElem?_eq_getElem (by rw [SH.out.1, flat_len, HN.out]; exact h1)⟩
      obtain ⟨y, hy⟩ : ∃ y, ll[j + p]? = some y := ⟨_, List.getElem?_eq_getElem (by rw [SH.out.1, flat_len, HN.out]; omega)⟩
      have hjp : j + p < N := by omega
      have hk0 : (0 : Int) ≤ (j : Int) + (p : Int) := by omega
      have hk1 : (j : Int) + (p : Int) < (N : Int) := by omega
      have hk2 : ((j : Int) + (p : Int)).toNat = j + p := by omega
      obtain ⟨ad, u, hA, _, hu, e0, e1, e2⟩ := PReads.at_ OW.out.reads h1
      subst hA
      obtain ⟨ad', u', hA', _, hu', f0, f1, f2⟩ := PReads.at_ OW.out.reads hjp
      obtain rfl : ad = ad' := by injection hA'
      obtain rfl : u = pv x := by unfold pvs at hu; rw [List.getElem?_map, hx] at hu; injection hu with hu; exact hu.symm
      obtain rfl : u' = pv y := by unfold pvs at hu'; rw [List.getElem?_map, hy] at hu'; injection hu' with hu'; exact hu'.symm
      have SH2 := Lib.hid (SH.out.swap hx hy)
      have S1 := Lib.hid (OW.out.drew.store3 h1 (pv y))
      have S2 := Lib.hid (S1.out.1.store3 hjp (pv x))
      obtain ⟨z0, z1, z2⟩ := OW.out.frozen3 h1
      obtain ⟨y0, y1, y2⟩ := S1.out.1.frozen3 hjp
      have hG : wr.drew.cell? (ad.add (j * 3)) = some (.string x.1) ∧ wr.drew.cell? ⟨(ad.add (j * 3)).block, (ad.add (j * 3)).off + 1, none⟩ = some (.string x.2) ∧ wr.drew.cell? ⟨(ad.add (j * 3)).block, (ad.add (j * 3)).off + 2, none⟩ = some (.bool false) ∧
          wr.drew.cell? (ad.add ((j + p) * 3)) = some (.string y.1) ∧ wr.drew.cell? ⟨(ad.add ((j + p) * 3)).block, (ad.add ((j + p) * 3)).off + 1, none⟩ = some (.string y.2) ∧ wr.drew.cell? ⟨(ad.add ((j + p) * 3)).block, (ad.add ((j + p) * 3)).off + 2, none⟩ = some (.bool false) := ⟨e0, e1, e2, f0, f1, f2⟩
      have hF : True := trivial
      clear hx hy hu hu' hA' d0 e0 e1 e2 f0 f1 f2
      go_wp2_with fail
      refine wp_region_E 13 [(0, 1), (1, 1), (2, 1), (3, 1), (4, 1), (5, 1), (6, 1), (7, 2), (8, 1), (9, 1), (10, 1), (11, 2), (12, 1), (13, 4), (14, 3), (15, 4)] (fun _ => True) (fun V => V.cell? (ad.add (j * 3)) = some (.string x.1) ∧ V.cell? ⟨(ad.add (j * 3)).block, (ad.add (j * 3)).off + 1, none⟩ = some (.string x.2) ∧ V.cell? ⟨(ad.add (j * 3)).block, (ad.add (j * 3)).off + 2, none⟩ = some (.bool false) ∧
          V.cell? (ad.add ((j + p) * 3)) = some (.string y.1) ∧ V.cell? ⟨(ad.add ((j + p) * 3)).block, (ad.add ((j + p) * 3)).off + 1, none⟩ = some (.string y.2) ∧ V.cell? ⟨(ad.add ((j + p) * 3)).block, (ad.add ((j + p) * 3)).off + 2, none⟩ = some (.bool false)) (by kernel_rfl) (by kernel_rfl) (by kernel_rfl) (by kernel_rfl) (by kernel_rfl) (fun _ => ?_)
      simp only [outE, List.getElem?_cons_zero, List.getElem?_cons_succ, Option.getD_some]
      iterate 7 (refine TE.val1 (v := ?_) ?_ ?_ ?_ ?_ ?_ ?_; rotate_left; (focus rfl); (focus (intro W hSW; (try dsimp only at hSW); (try (obtain ⟨hS1, hSW⟩ := hSW)); (try (obtain ⟨hS2, hSW⟩ := hSW)); (try (obtain ⟨hS3, hSW⟩ := hSW)); (try (obtain ⟨hS4, hSW⟩ := hSW)); (try (obtain ⟨hS5, hSW⟩ := hSW)); go_simp; (try with_reducible rfl); done)); (focus exact fun _ _ _ h => h); (focus exact hF); (focus exact hG); simp only [Act.put, List.setIfInBounds_toArray, List.set_cons_zero, List.set_cons_succ])
      iterate 1 (refine TE.val2 (v := ?_) ?_ ?_ ?_ ?_ ?_ ?_; rotate_left; (focus rfl); (focus (intro W hSW; (try dsimp only at hSW); (try (obtain ⟨hS1, hSW⟩ := hSW)); (try (obtain ⟨hS2, hSW⟩ := hSW)); (try (obtain ⟨hS3, hSW⟩ := hSW)); (try (obtain ⟨hS4, hSW⟩ := hSW)); (try (obtain ⟨hS5, hSW⟩ := hSW)); go_simp; (try with_reducible rfl); done)); (focus exact fun _ _ _ h => h); (focus exact hF); (focus exact hG); simp only [Act.put, List.setIfInBounds_toArray, List.set_cons_zero, List.set_cons_succ])
      iterate 3 (refine TE.val1 (v := ?_) ?_ ?_ ?_ ?_ ?_ ?_; rotate_left; (focus rfl); (focus (intro W hSW; (try dsimp only at hSW); (try (obtain ⟨hS1, hSW⟩ := hSW)); (try (obtain ⟨hS2, hSW⟩ := hSW)); (try (obtain ⟨hS3, hSW⟩ := hSW)); (try (obtain ⟨hS4, hSW⟩ := hSW)); (try (obtain ⟨hS5, hSW⟩ := hSW)); go_simp; (try with_reducible rfl); done)); (focus exact fun _ _ _ h => h); (focus exact hF); (focus exact hG); simp only [Act.put, List.setIfInBounds_toArray, List.set_cons_zero, List.set_cons_succ])
      iterate 1 (refine TE.val2 (v := ?_) ?_ ?_ ?_ ?_ ?_ ?_; rotate_left; (focus rfl); (focus (intro W hSW; (try dsimp only at hSW); (try (obtain ⟨hS1, hSW⟩ := hSW)); (try (obtain ⟨hS2, hSW⟩ := hSW)); (try (obtain ⟨hS3, hSW⟩ := hSW)); (try (obtain ⟨hS4, hSW⟩ := hSW)); (try (obtain ⟨hS5, hSW⟩ := hSW)); go_simp; (try with_reducible rfl); done)); (focus exact fun _ _ _ h => h); (focus exact hF); (focus exact hG); simp only [Act.put, List.setIfInBounds_toArray, List.set_cons_zero, List.set_cons_succ])
      iterate 1 (refine TE.val1 (v := ?_) ?_ ?_ ?_ ?_ ?_ ?_; rotate_left; (focus rfl); (focus (intro W hSW; (try dsimp only at hSW); (try (obtain ⟨hS1, hSW⟩ := hSW)); (try (obtain ⟨hS2, hSW⟩ := hSW)); (try (obtain ⟨hS3, hSW⟩ := hSW)); (try (obtain ⟨hS4, hSW⟩ := hSW)); (try (obtain ⟨hS5, hSW⟩ := hSW)); go_simp; (try with_reducible rfl); done)); (focus exact fun _ _ _ h => h); (focus exact hF); (focus exact hG); simp only [Act.put, List.setIfInBounds_toArray, List.set_cons_zero, List.set_cons_succ])
      obtain ⟨a0', a1, a2, _, _, _⟩ := hG
      have a0 : wr.cell? (ad.add (j * 3)) = some (.string x.1) := a0'
      clear a0'
      have m1 : (wr.setCell (ad.add (j * 3)) (.string y.1)).cell? ⟨(ad.add (j * 3)).block, (ad.add (j * 3)).off + 1, none⟩ = some (.string x.2) := (kv1 _ _ _).trans a1
      have m2 : ((wr.setCell (ad.add (j * 3)) (.string y.1)).setCell ⟨(ad.add (j * 3)).block, (ad.add (j * 3)).off + 1, none⟩ (.string y.2)).cell? ⟨(ad.add (j * 3)).block, (ad.add (j * 3)).off + 2, none⟩ = some (.bool false) := (kv2 _ _ _ _).trans a2
      obtain ⟨ad', u, hA, _, hu, b0, b1, b2⟩ := PReads.at_ S1.out.1.reads hjp
      obtain rfl : ad = ad' := by injection hA
      clear hA hu
      refine TE.eff4 (by rfl) (fun K hK => ?_); go_simp
      refine hK.out _ (kvCells wr.drew ad j (pv y)) trivial ?_
      clear hK m1 m2 a0 a1 a2 z0 z1 z2
      (try simp only [Act.put, List.setIfInBounds_toArray, List.set_cons_zero, List.set_cons_succ])
      generalize kvCells wr.drew ad j (pv y) = wb at *
      iterate 1 (refine TE.val3 (v := ?_) ?_ ?_ ?_ ?_ ?_; rotate_left; (focus rfl); (focus (intro W hSW; (try dsimp only at hSW); (try (obtain ⟨hS1, hSW⟩ := hSW)); (try (obtain ⟨hS2, hSW⟩ := hSW)); (try (obtain ⟨hS3, hSW⟩ := hSW)); (try (obtain ⟨hS4, hSW⟩ := hSW)); (try (obtain ⟨hS5, hSW⟩ := hSW)); go_simp; (try with_reducible rfl); done)); (focus exact fun _ _ _ h => h); (focus exact hF); simp only [Act.put, List.setIfInBounds_toArray, List.set_cons_zero, List.set_cons_succ])
      have m1 : (wb.setCell (ad.add ((j + p) * 3)) (.string x.1)).cell? ⟨(ad.add ((j + p) * 3)).block, (ad.add ((j + p) * 3)).off + 1, none⟩ = some (.string u.2.1) := (kv1 _ _ _).trans b1
      have m2 : ((wb.setCell (ad.add ((j + p) * 3)) (.string x.1)).setCell ⟨(ad.add ((j + p) * 3)).block, (ad.add ((j + p) * 3)).off + 1, none⟩ (.string x.2)).cell? ⟨(ad.add ((j + p) * 3)).block, (ad.add ((j + p) * 3)).off + 2, none⟩ = some (.bool u.2.2) := (kv2 _ _ _ _).trans b2
      refine TE.eff4 (by rfl) (fun K hK => ?_); go_simp
      refine hK.out _ (kvCells wb ad (j + p) (pv x)) trivial ?_
      clear hK m1 m2 b0 b1 b2 y0 y1 y2
      (try simp only [Act.put, List.setIfInBounds_toArray, List.set_cons_zero, List.set_cons_succ])
      refine TE.done ?_
      have LN := Lib.hid (show LeftI w7.heap.size (some ad) N c8 T.flat (kvCells wb ad (j + p) (pv x)) from ⟨_, SH2.out, by have := S2.out.1; rwa [pvs_set, pvs_set] at this⟩)
      have BN := Lib.hid (show Below w7.heap.size w7 (kvCells wb ad (j + p) (pv x)) from (BR.out.drew.trans S1.out.2.1).trans S2.out.2.1)
      clear S1 S2 SH2 SH OW BR
      generalize kvCells wb ad (j + p) (pv x) = wc at *
      go_wp2
      go_roundw
      case rel => exact ⟨j + 1, by omega, by go_num, LN.out, BN.out⟩
      case measure => simp [intOf]; omega
    · by_cases h1 : j < N
      · have g1 : decide (j < N) = true := by simpa using h1
        have g2 : decide (j < nb) = false := by simp; omega
        clear hlt
        have TT9 := Lib.hid (TT7.out.below BR.out)
        have WS9 := Lib.hid (WS7.out.below BR.out)
        have HB9 := Lib.hid (btrans HB7.out BR.out HB7.out.size)
        obtain ⟨ll, hsh, hown⟩ := LF.out
        have SH := Lib.hid hsh
        have OW := Lib.hid hown
        clear hsh hown BR LF TT7 WS7 HB7 HRB7 HRB hwz7
        go_wp2_with fail
        refine (of_v wr.heap.size A8 N c8 (pvs ll) wr OW.out.reads (Nat.le_refl _) (by omega) (smallK_pvs (M := 5000) (by omega) fun x hx => M1.out.2.2 x ((SH.out.2.2 x).1 hx))).mono ?_
        rw [SH.out.of M1.out.1]
        rintro e w10 ⟨p10, rfl, r10, hb10⟩
        have R10 := Lib.hid r10
        clear OW SH r10
        generalize wr = w9 at *
        have HB10 := Lib.hid (btrans HB9.out hb10 HB9.out.size)
        have TT10 := Lib.hid (TT9.out.below hb10)
        have WS10 := Lib.hid (WS9.out.below hb10)
        clear HB9 TT9 WS9
        clear hb10
        go_wp2_with fail
        refine (nodes_v T w10.heap.size p10 w10 R10.out (Nat.le_refl _) (by rw [HN.out]; omega)).mono ?_
        rw [← HNP.out]
        rintro e w11 ⟨A11, c11, rfl, ho11, hb11⟩
        have O11 := Lib.hid ho11
        have HB11 := Lib.hid (btrans HB10.out hb11 HB10.out.size)
        have TT11 := Lib.hid (TT10.out.below hb11)
        have WS11 := Lib.hid (WS10.out.below hb11)
        clear HB10 TT10 WS10
        clear hb11 ho11 R10
        go_wp2_with fail
        refine (pairs_v w11.heap.size w11.heap.size A11 A6 NP.length NP.length c11 c6 NP w11 O11.out.reads WS11.out.reads (Nat.le_refl _) (Nat.le_refl _) (by omega)).mono ?_
        rintro e w12 ⟨rfl, hb12⟩
        have HB12 := Lib.hid (btrans HB11.out hb12 HB11.out.size)
        have TT12 := Lib.hid (TT11.out.below hb12)
        have WS12 := Lib.hid (WS11.out.below hb12)
        clear HB11 TT11 WS11
        clear hb12 O11
        go_wp2_with fail
        refine (made_v w.heap.size A' n' c' o w12 (Reads.below HR'.out HB12.out) HB12.out.size (by omega) HSK'.out).mono ?_
        rw [HU.out]
        rintro e w13 ⟨p, A4, n4, c4, rfl, r13, rr13, hb13⟩
        have hbx : Below w12.heap.size w12 ((w13.alloc (.cells #[.pointer p] 24)).alloc (.cells #[.slice A4 n4 c4] 44)) := (hb13.alloc hb13.size _).alloc (Nat.le_trans hb13.size (by simp)) _
        have UU14 : Hid (TCell ((w13.alloc (.cells #[.pointer p] 24)).alloc (.cells #[.slice A4 n4 c4] 44)) w13.heap.size U p) := Lib.hid ((TCell.box w13 r13).alloc _)
        have HB14 := Lib.hid (btrans HB12.out hbx HB12.out.size)
        have TT14 := Lib.hid (TT12.out.below hbx)
        have WS14 := Lib.hid (WS12.out.below hbx)
        clear HB12 TT12 WS12
        clear hbx hb13 r13 rr13
        have ct := TT14.out.1
        have cu := UU14.out.1
        go_wp2_with fail
        generalize ((w13.alloc (.cells #[.pointer p] 24)).alloc (.cells #[.slice A4 n4 c4] 44)) = w14 at *
        generalize w13.heap.size = gu at *
        refine (changes_v T U w14.heap.size q p w14 TT14.out.2.2.2.1 UU14.out.2.2.2.1 (Nat.le_refl _) M1.out.1.1 (by rw [HN.out]; omega) (by have := M2.out.2.1; omega)).mono ?_
        rw [← HCH.out]
        rintro e w16 ⟨A16, c16, rfl, ho16, hb16⟩
        have CR16 := Lib.hid ho16
        have HB16 := Lib.hid (btrans HB14.out hb16 HB14.out.size)
        have TT16 := Lib.hid (TT14.out.below hb16)
        have WS16 := Lib.hid (WS14.out.below hb16)
        have UU16 := Lib.hid (UU14.out.below hb16)
        clear HB14 TT14 WS14 UU14
        clear hb16 ho16 ct cu
        have ct := TT16.out.1
        have VV0 := Lib.hid (TCell.box w16 TT16.out.2.2.2.1)
        have BV0 := Lib.hid ((Below.refl w16.heap.size w16).alloc (Nat.le_refl _) (.cells #[.pointer q] 24))
        have hz16 : w.heap.size ≤ w16.heap.size := HB16.out.size
        have HCL := Lib.hid HCG.out.1
        have hcl : CH.length ≤ 800 := HCG.out.1
        go_wp2
        generalize hcn : CH.length = m at *
        have HCN := Lib.hid hcn
        clear hcn ct
        go_loopw [21] (fun i wr => ∃ (j : Nat) (qv : Option Addr), j ≤ m ∧ i = .int .i64 (j : Int) ∧ TCell wr w16.heap.size ((CH.take j).foldl doneStep T) qv ∧ Below w16.heap.size w16 wr) (fun i _ => m - (intOf i).toNat)
        case atStart => exact ⟨0, q, Nat.zero_le _, rfl, VV0.out, BV0.out⟩
        case round =>
          obtain ⟨j, qv, hjm, rfl, hvv, hb⟩ := hrel
          have VV := Lib.hid hvv
          have BR := Lib.hid hb
          have ct := hvv.1
          clear hvv hb VV0 BV0
          by_cases hlt : j < m
          · obtain ⟨ad, x, he, had, hx, c0, c1, c2⟩ := PReads.at_ (Reads.below CR16.out.reads BR.out) hlt
            subst he
            have HKX := Lib.hid (HCG.out.2.1.at_ hx)
            have HTK := Lib.hid (take_snoc' hx)
            have HCD := Lib.hid (cnt_done (CH.take j) T)
            have HLE := Lib.hid (show (CH.take j).length ≤ m by rw [List.length_take, HCN.out]; omega)
            clear hx
            obtain ⟨xk, xv, xg⟩ := x
            simp only [] at c0 c1 c2
            have hk0 : (0 : Int) ≤ (j : Int) := by omega
            have hk1 : (j : Int) < (m : Int) := by omega
            cases xg with
            | true =>
              have HST : Hid ((CH.take (j + 1)).foldl doneStep T = ((CH.take j).foldl doneStep T).drop xk) := Lib.hid (by rw [HTK.out, List.foldl_append]; simp [doneStep])
              go_wp2_with fail
              go_still_tail 6, (by kernel_rfl)
              go_wp2_with fail
              refine (drop_v xk _ wr.drew.heap.size qv wr.drew VV.out.2.2.2.1.drew (Nat.le_refl _) (by have := HCD.out; have := HLE.out; rw [HN.out] at *; omega) HKX.out).mono ?_
              rintro e w1 ⟨q1, rfl, r1, hb1⟩
              have hb1' : Below wr.heap.size wr w1 := ((Below.refl _ _).drew).trans hb1
              have K0 := Lib.hid (VV.out.below hb1')
              have R1 := Lib.hid r1
              have kf := K0.out.2.1
              have kc := K0.out.1
              have BB := Lib.hid (btrans BR.out hb1' BR.out.size)
              clear hb1 hb1' r1 ct
              go_wp2
              go_roundw
              case rel => exact ⟨j + 1, q1, by omega, by go_num, by rw [HST.out]; exact K0.out.store R1.out, BB.out.setCell (by simp) _⟩
              case measure => simp [intOf]; omega
            | false =>
              have HST : Hid ((CH.take (j + 1)).foldl doneStep T = ((CH.take j).foldl doneStep T).put xk xv) := Lib.hid (by rw [HTK.out, List.foldl_append]; simp [doneStep])
              go_wp2_with fail
              go_still_tail 11, (by kernel_rfl)
              go_wp2_with fail
              refine (put_v xk xv _ wr.drew.heap.size qv wr.drew VV.out.2.2.2.1.drew (Nat.le_refl _) (by have := HCD.out; have := HLE.out; rw [HN.out] at *; omega) HKX.out).mono ?_
              rintro e w1 ⟨q1, rfl, r1, hb1⟩
              have hb1' : Below wr.heap.size wr w1 := ((Below.refl _ _).drew).trans hb1
              have K0 := Lib.hid (VV.out.below hb1')
              have R1 := Lib.hid r1
              have kf := K0.out.2.1
              have kc := K0.out.1
              have BB := Lib.hid (btrans BR.out hb1' BR.out.size)
              clear hb1 hb1' r1 ct
              go_wp2
              go_roundw
              case rel => exact ⟨j + 1, q1, by omega, by go_num, by rw [HST.out]; exact K0.out.store R1.out, BB.out.setCell (by simp) _⟩
              case measure => simp [intOf]; omega
          · obtain rfl : j = m := by omega
            have VV20 : Hid (TCell wr w16.heap.size U qv) := Lib.hid (by have := VV.out; rw [List.take_of_length_le (by rw [HCN.out]; exact Nat.le_refl _)] at this; have h2 := HCG.out.2.2.2; unfold doneT at h2; rwa [h2] at this)
            have TT20 := Lib.hid (TT16.out.below BR.out)
            have UU20 := Lib.hid (UU16.out.below BR.out)
            have WS20 := Lib.hid (WS16.out.below BR.out)
            have HB20 := Lib.hid (btrans HB16.out BR.out HB16.out.size)
            clear VV ct BR CR16 TT16 UU16 WS16 HB16 HCL HCN HCG HCH hcl hz16
            generalize w16.heap.size = gv at *
            generalize wr = w20 at *
            have ct := TT20.out.1
            have HCU := Lib.hid (cutOf M1.out.1 key)
            have hcut := cutT_v key T w20.heap.size q w20 TT20.out.2.2.2.1 (Nat.le_refl _) (by rw [HN.out]; omega)
            generalize (T.cut key).1 = L at *
            generalize (T.cut key).2 = R at *
            have HCT := Lib.hid hcut
            clear hcut
            go_wp2_with fail
            refine HCT.out.mono ?_
            rintro e w21 ⟨pL, pR, rfl, rL, rR, hb21⟩
            have TL := Lib.hid ((TCell.box w21 rL).alloc (.cells #[.pointer pR] 24))
            have TR := Lib.hid (by have := TCell.box (w21.alloc (.cells #[.pointer pL] 24)) (t := R) (p := pR) (rR.step ((Below.refl _ _).alloc (Nat.le_refl _) _)); rwa [World.size_alloc] at this : TCell ((w21.alloc (.cells #[.pointer pL] 24)).alloc (.cells #[.pointer pR] 24)) (w21.heap.size + 1) R pR)
            have hbx : Below w20.heap.size w20 ((w21.alloc (.cells #[.pointer pL] 24)).alloc (.cells #[.pointer pR] 24)) := (hb21.alloc hb21.size _).alloc (Nat.le_trans hb21.size (by simp)) _
            have TT22 := Lib.hid (TT20.out.below hbx)
            have UU22 := Lib.hid (UU20.out.below hbx)
            have VV22 := Lib.hid (VV20.out.below hbx)
            have WS22 := Lib.hid (WS20.out.below hbx)
            have HB22 := Lib.hid (btrans HB20.out hbx HB20.out.size)
            clear hb21 rL rR TT20 UU20 VV20 WS20 HB20 ct HCT hbx
            go_wp2_with fail
            generalize (w21.alloc (.cells #[.pointer pL] 24)).alloc (.cells #[.pointer pR] 24) = w22 at *
            generalize w21.heap.size = gl at *
            have hcl : L.cnt ≤ 400 := by have := HCU.out.cn; rw [HN.out] at this; omega
            have hcr : R.cnt ≤ 400 := by have := HCU.out.cn; rw [HN.out] at this; omega
            have q1 : ∀ V, Below w22.heap.size w22 V → V.cell? ⟨gl, 0, none⟩ = some (.pointer pL) := fun V h => keepC h TL.out.1 TL.out.2.2.2.2
            have q2 : ∀ V, Below w22.heap.size w22 V → V.cell? ⟨gl + 1, 0, none⟩ = some (.pointer pR) := fun V h => keepC h TR.out.1 TR.out.2.2.2.2
            (try dsimp only [List.append])
            refine wp_region_text [(0, false), (1, false), (4, false), (5, false), (2, true), (3, true), (6, true), (7, true), (8, true), (9, false)] (fun V => Below w22.heap.size w22 V) (by kernel_rfl) (by kernel_rfl) (by kernel_rfl) (by kernel_rfl) (by kernel_rfl) (fun _ => ?_)
            simp only [outOf, List.getElem?_cons_zero, List.getElem?_cons_succ, Option.getD_some]
            have hS := (Below.refl w22.heap.size w22).drew
            iterate 4 ((first | (refine TW.val2 (v := ?_) ?_ ?_ ?_ ?_ ?_; rotate_left; (focus rfl); (focus (intro W hSW; (try dsimp only at hSW); go_simp; (try with_reducible rfl); done)); (focus exact fun _ _ _ h => h); (focus assumption)) | (refine TW.skip (e := false) ?_ ?_ ?_ ?_; (focus rfl); (focus exact fun _ _ _ h => h); (focus assumption))); simp only [Act.put, List.setIfInBounds_toArray, List.set_cons_zero, List.set_cons_succ])
            refine TW.eff (by rfl) (fun K hK => ?_); go_simp
            refine (size_v L w22.drew.heap.size pL w22.drew (TL.out.below hS).2.2.2.1 (Nat.le_refl _)).mono ?_
            rintro e w23 ⟨rfl, hb23⟩
            have hS23 := hS.trans hb23
            clear hb23
            go_wp2_with fail; refine hK.out _ _ hS23 ?_; clear hK; (try simp only [Act.put, List.setIfInBounds_toArray, List.set_cons_zero, List.set_cons_succ])
            refine TW.eff (by rfl) (fun K hK => ?_); go_simp
            refine (range_whole HCU.out.gl (by omega) w23 pL (TL.out.below hS23).2.2.2.1).mono ?_
            rintro e w24 ⟨A24, c24, rfl, ho24, hb24⟩
            have hS24 := btwo hS23 hb24
            have hz23 := Lib.hid hS23.size
            have HO24 := Lib.hid ho24
            have hz24 := Lib.hid hb24.size
            clear hb24 ho24
            go_wp2_with fail; refine hK.out _ _ hS24 ?_; clear hK; (try simp only [Act.put, List.setIfInBounds_toArray, List.set_cons_zero, List.set_cons_succ])
            refine TW.eff (by rfl) (fun K hK => ?_); go_simp
            refine (size_v R w24.heap.size pR w24 (TR.out.below hS24).2.2.2.1 (Nat.le_refl _)).mono ?_
            rintro e w25 ⟨rfl, hb25⟩
            have hS25 := btwo hS24 hb25
            have HO25 := Lib.hid (HO24.out.below hb25)
            have hz25 := Lib.hid (show w23.heap.size ≤ w25.heap.size from Nat.le_trans hz24.out hb25.size)
            clear hb25 HO24
            go_wp2_with fail; refine hK.out _ _ hS25 ?_; clear hK; (try simp only [Act.put, List.setIfInBounds_toArray, List.set_cons_zero, List.set_cons_succ])
            refine TW.eff (by rfl) (fun K hK => ?_); go_simp
            refine (range_whole HCU.out.gr (by omega) w25 pR (TR.out.below hS25).2.2.2.1).mono ?_
            rintro e w26 ⟨A26, c26, rfl, ho26, hb26⟩
            have hS26 := btwo hS25 hb26
            have HO26 := Lib.hid (HO25.out.below hb26)
            have hz26 := Lib.hid (Nat.le_trans hz25.out hb26.size)
            have HQ26 := Lib.hid ho26
            clear hb26 ho26 HO25
            go_wp2_with fail; refine hK.out _ _ hS26 ?_; clear hK; (try simp only [Act.put, List.setIfInBounds_toArray, List.set_cons_zero, List.set_cons_succ])
            refine TW.eff (by rfl) (fun K hK => ?_)
            refine wp_papp (.tmp 154) (.tmp 158) rfl w23.heap.size A24 L.cnt c24 (pvs L.flat) rfl HO26.out w26.heap.size A26 R.cnt c26 (pvs R.flat) rfl HQ26.out.reads (by omega) hz26.out ?_
            intro A27 c27 w27 ho27 hg27
            have hS27 : Below w22.heap.size w22 w27 := below_papp hS26 hg27 HO26.out hz23.out hS26.size
            rw [show pvs L.flat ++ pvs R.flat = pvs T.flat by rw [← HCU.out.fl]; simp [pvs], show L.cnt + R.cnt = N by rw [HCU.out.cn, HN.out]] at ho27
            rw [show L.cnt + R.cnt = N by rw [HCU.out.cn, HN.out]]
            have HO27 := Lib.hid ho27
            clear ho27 hg27 HO26
            refine hK.out _ _ hS27 ?_
            clear hK
            (try simp only [Act.put, List.setIfInBounds_toArray, List.set_cons_zero, List.set_cons_succ])
            iterate 1 ((first | (refine TW.val2 (v := ?_) ?_ ?_ ?_ ?_ ?_; rotate_left; (focus rfl); (focus (intro W hSW; (try dsimp only at hSW); go_simp; (try with_reducible rfl); done)); (focus exact fun _ _ _ h => h); (focus assumption)) | (refine TW.skip (e := false) ?_ ?_ ?_ ?_; (focus rfl); (focus exact fun _ _ _ h => h); (focus assumption))); simp only [Act.put, List.setIfInBounds_toArray, List.set_cons_zero, List.set_cons_succ])
            refine TW.done ?_
            have TT27 := Lib.hid (TT22.out.below hS27)
            have UU27 := Lib.hid (UU22.out.below hS27)
            have VV27 := Lib.hid (VV22.out.below hS27)
            have WS27 := Lib.hid (WS22.out.below hS27)
            have HB27 := Lib.hid (btrans HB22.out hS27 HB22.out.size)
            clear q1 q2 hS hS23 hS24 hS25 hS26 hS27 hz23 hz24 hz25 hz26 TT22 UU22 VV22 WS22 HB22 TL TR HCU hcl hcr HQ26
            have ct := TT27.out.1
            go_wp2_with fail
            refine (put_v key v T w27.heap.size q w27 TT27.out.2.2.2.1 (Nat.le_refl _) (by rw [HN.out]; omega) (by omega)).mono ?_
            rintro e w28 ⟨p28, rfl, r28, hb28⟩
            have TT28 := Lib.hid (TT27.out.below hb28)
            have UU28 := Lib.hid (UU27.out.below hb28)
            have VV28 := Lib.hid (VV27.out.below hb28)
            have WS28 := Lib.hid (WS27.out.below hb28)
            have HO28 := Lib.hid (HO27.out.below hb28)
            have HB28 := Lib.hid (btrans HB27.out hb28 HB27.out.size)
            clear hb28 r28 ct TT27 UU27 VV27 WS27 HO27 HB27
            have ct := TT28.out.1
            go_wp2_with fail
            refine (drop_v key T w28.heap.size q w28 TT28.out.2.2.2.1 (Nat.le_refl _) (by rw [HN.out]; omega) (by omega)).mono ?_
            rintro e w29 ⟨p29, rfl, r29, hb29⟩
            have TT29 := Lib.hid (TT28.out.below hb29)
            have UU29 := Lib.hid (UU28.out.below hb29)
            have VV29 := Lib.hid (VV28.out.below hb29)
            have WS29 := Lib.hid (WS28.out.below hb29)
            have HO29 := Lib.hid (HO28.out.below hb29)
            have HB29 := Lib.hid (btrans HB28.out hb29 HB28.out.size)
            clear hb29 r29 ct TT28 UU28 VV28 WS28 HO28 HB28
            have ct := TT29.out.1
            go_wp2_with fail
            refine (put_v key v T w29.heap.size q w29 TT29.out.2.2.2.1 (Nat.le_refl _) (by rw [HN.out]; omega) (by omega)).mono ?_
            rintro e w30 ⟨p30, rfl, r30, hb30⟩
            have TT30 := Lib.hid (TT29.out.below hb30)
            have UU30 := Lib.hid (UU29.out.below hb30)
            have VV30 := Lib.hid (VV29.out.below hb30)
            have WS30 := Lib.hid (WS29.out.below hb30)
            have HO30 := Lib.hid (HO29.out.below hb30)
            have HB30 := Lib.hid (btrans HB29.out hb30 HB29.out.size)
            have R30 := Lib.hid r30
            clear hb30 r30 ct TT29 UU29 VV29 WS29 HO29 HB29
            have HGP := Lib.hid (get_put M1.out.1 key v)
            have ct := TT30.out.1
            go_wp2_with fail
            refine (get_v key _ w30.heap.size p30 w30 R30.out (Nat.le_refl _)).mono ?_
            rw [HGP.out]
            unfold getR
            rintro e w31 ⟨rfl, hb31⟩
            have TT31 := Lib.hid (TT30.out.below hb31)
            have UU31 := Lib.hid (UU30.out.below hb31)
            have VV31 := Lib.hid (VV30.out.below hb31)
            have WS31 := Lib.hid (WS30.out.below hb31)
            have HO31 := Lib.hid (HO30.out.below hb31)
            have HB31 := Lib.hid (btrans HB30.out hb31 HB30.out.size)
            clear hb31 ct TT30 UU30 VV30 WS30 HO30 HB30 R30 HGP
            have q1 : ∀ V, Below w31.heap.size w31 V → V.cell? ⟨ga, 0, none⟩ = some (.pointer q) := fun V h => keepC h TT31.out.1 TT31.out.2.2.2.2
            have q2 : ∀ V, Below w31.heap.size w31 V → V.cell? ⟨gu, 0, none⟩ = some (.pointer p) := fun V h => keepC h UU31.out.1 UU31.out.2.2.2.2
            have q3 : ∀ V, Below w31.heap.size w31 V → V.cell? ⟨gv, 0, none⟩ = some (.pointer qv) := fun V h => keepC h VV31.out.1 VV31.out.2.2.2.2
            have hcu : U.cnt ≤ 400 := M2.out.2.1
            obtain ⟨UP, hUP⟩ : ∃ UP, UP = pvs U.pre := ⟨_, rfl⟩
            have HUPn : UP.length ≤ 1000000 := by rw [hUP, pvs_len, pre_len]; omega
            have HUP := Lib.hid hUP
            clear hUP
            go_wp2_with fail
            (try dsimp only [List.append])
            refine wp_region_text [(0, false), (2, false), (1, true), (3, true), (4, true), (5, false), (6, false), (7, false), (8, false), (9, true), (10, true), (11, true), (12, false), (13, false), (14, false), (16, false), (15, true), (17, true), (18, false), (19, false), (20, false), (21, false), (22, false), (23, false), (24, false), (25, false), (26, false), (27, false)] (fun V => Below w31.heap.size w31 V) (by kernel_rfl) (by kernel_rfl) (by kernel_rfl) (by kernel_rfl) (by kernel_rfl) (fun _ => ?_)
            simp only [outOf, List.getElem?_cons_zero, List.getElem?_cons_succ, Option.getD_some]
            have hS := (Below.refl w31.heap.size w31).drew
            iterate 2 ((first | (refine TW.val2 (v := ?_) ?_ ?_ ?_ ?_ ?_; rotate_left; (focus rfl); (focus (intro W hSW; (try dsimp only at hSW); go_simp; (try with_reducible rfl); done)); (focus exact fun _ _ _ h => h); (focus assumption)) | (refine TW.skip (e := false) ?_ ?_ ?_ ?_; (focus rfl); (focus exact fun _ _ _ h => h); (focus assumption))); simp only [Act.put, List.setIfInBounds_toArray, List.set_cons_zero, List.set_cons_succ])
            refine TW.eff (by rfl) (fun K hK => ?_); go_simp
            refine (nodes_v U w31.drew.heap.size qv w31.drew (VV31.out.below hS).2.2.2.1 (Nat.le_refl _) (by omega)).mono ?_
            rw [← HUP.out]
            rintro e w32 ⟨A32, c32, rfl, ho32, hb32⟩
            have hS32 := hS.trans hb32
            have O32 := Lib.hid ho32
            clear hb32 ho32
            go_wp2_with fail; refine hK.out _ _ hS32 ?_; clear hK; (try simp only [Act.put, List.setIfInBounds_toArray, List.set_cons_zero, List.set_cons_succ])
            refine TW.eff (by rfl) (fun K hK => ?_); go_simp
            refine (nodes_v U w32.heap.size p w32 (UU31.out.below hS32).2.2.2.1 (Nat.le_refl _) (by omega)).mono ?_
            rw [← HUP.out]
            rintro e w33 ⟨A33, c33, rfl, ho33, hb33⟩
            have hS33 := btwo hS32 hb33
            have O33 := Lib.hid ho33
            replace O32 := Lib.hid (O32.out.below hb33)
            clear hb33 ho33
            go_wp2_with fail; refine hK.out _ _ hS33 ?_; clear hK; (try simp only [Act.put, List.setIfInBounds_toArray, List.set_cons_zero, List.set_cons_succ])
            refine TW.eff (by rfl) (fun K hK => ?_); go_simp
            refine (pairs_v w33.heap.size w33.heap.size A32 A33 UP.length UP.length c32 c33 UP w33 O32.out.reads O33.out.reads (Nat.le_refl _) (Nat.le_refl _) (by omega)).mono ?_
            rintro e w34 ⟨rfl, hb34⟩
            have hS34 := btwo hS33 hb34
            clear hb34 O32 O33
            go_wp2_with fail; refine hK.out _ _ hS34 ?_; clear hK; (try simp only [Act.put, List.setIfInBounds_toArray, List.set_cons_zero, List.set_cons_succ])
            iterate 4 ((first | (refine TW.val2 (v := ?_) ?_ ?_ ?_ ?_ ?_; rotate_left; (focus rfl); (focus (intro W hSW; (try dsimp only at hSW); go_simp; (try with_reducible rfl); done)); (focus exact fun _ _ _ h => h); (focus assumption)) | (refine TW.skip (e := false) ?_ ?_ ?_ ?_; (focus rfl); (focus exact fun _ _ _ h => h); (focus assumption))); simp only [Act.put, List.setIfInBounds_toArray, List.set_cons_zero, List.set_cons_succ])
            refine TW.eff (by rfl) (fun K hK => ?_); go_simp
            refine (size_v T w34.heap.size q w34 (TT31.out.below hS34).2.2.2.1 (Nat.le_refl _)).mono ?_
            rw [HN.out]
            rintro e w35 ⟨rfl, hb35⟩
            have hS35 := btwo hS34 hb35
            clear hb35
            go_wp2_with fail; refine hK.out _ _ hS35 ?_; clear hK; (try simp only [Act.put, List.setIfInBounds_toArray, List.set_cons_zero, List.set_cons_succ])
            refine TW.eff (by rfl) (fun K hK => ?_); go_simp
            refine (range_n M1.out.1 HN.out (by omega) w35 q (TT31.out.below hS35).2.2.2.1).mono ?_
            rintro e w36 ⟨A36, c36, rfl, ho36, hb36⟩
            have hS36 := btwo hS35 hb36
            have O36 := Lib.hid ho36
            have O37 := Lib.hid (HO31.out.below hS36)
            clear hb36 ho36
            go_wp2_with fail; refine hK.out _ _ hS36 ?_; clear hK; (try simp only [Act.put, List.setIfInBounds_toArray, List.set_cons_zero, List.set_cons_succ])
            refine TW.eff (by rfl) (fun K hK => ?_); go_simp
            refine (pairs_v w36.heap.size w36.heap.size A27 A36 N N c27 c36 (pvs T.flat) w36 O37.out.reads O36.out.reads (Nat.le_refl _) (Nat.le_refl _) (by omega)).mono ?_
            rintro e w37 ⟨rfl, hb37⟩
            have hS37 := btwo hS36 hb37
            clear hb37 O36 O37
            go_wp2_with fail; refine hK.out _ _ hS37 ?_; clear hK; (try simp only [Act.put, List.setIfInBounds_toArray, List.set_cons_zero, List.set_cons_succ])
            iterate 4 ((first | (refine TW.val2 (v := ?_) ?_ ?_ ?_ ?_ ?_; rotate_left; (focus rfl); (focus (intro W hSW; (try dsimp only at hSW); go_simp; (try with_reducible rfl); done)); (focus exact fun _ _ _ h => h); (focus assumption)) | (refine TW.skip (e := false) ?_ ?_ ?_ ?_; (focus rfl); (focus exact fun _ _ _ h => h); (focus assumption))); simp only [Act.put, List.setIfInBounds_toArray, List.set_cons_zero, List.set_cons_succ])
            refine TW.eff (by rfl) (fun K hK => ?_); go_simp
            refine (nodes_v T w37.heap.size q w37 (TT31.out.below hS37).2.2.2.1 (Nat.le_refl _) (by rw [HN.out]; omega)).mono ?_
            rw [← HNP.out]
            rintro e w38 ⟨A38, c38, rfl, ho38, hb38⟩
            have hS38 := btwo hS37 hb38
            have O38 := Lib.hid ho38
            have O39 := Lib.hid (WS31.out.below hS38)
            clear hb38 ho38
            go_wp2_with fail; refine hK.out _ _ hS38 ?_; clear hK; (try simp only [Act.put, List.setIfInBounds_toArray, List.set_cons_zero, List.set_cons_succ])
            refine TW.eff (by rfl) (fun K hK => ?_); go_simp
            refine (pairs_v w38.heap.size w38.heap.size A38 A6 NP.length NP.length c38 c6 NP w38 O38.out.reads O39.out.reads (Nat.le_refl _) (Nat.le_refl _) (by omega)).mono ?_
            rintro e w39 ⟨rfl, hb39⟩
            have hS39 := btwo hS38 hb39
            clear hb39 O38 O39
            go_wp2_with fail; refine hK.out _ _ hS39 ?_; clear hK; (try simp only [Act.put, List.setIfInBounds_toArray, List.set_cons_zero, List.set_cons_succ])
            iterate 10 ((first | (refine TW.val2 (v := ?_) ?_ ?_ ?_ ?_ ?_; rotate_left; (focus rfl); (focus (intro W hSW; (try dsimp only at hSW); go_simp; (try with_reducible rfl); done)); (focus exact fun _ _ _ h => h); (focus assumption)) | (refine TW.skip (e := false) ?_ ?_ ?_ ?_; (focus rfl); (focus exact fun _ _ _ h => h); (focus assumption))); simp only [Act.put, List.setIfInBounds_toArray, List.set_cons_zero, List.set_cons_succ])
            refine TW.done ?_
            have HBz := Lib.hid (btrans HB31.out hS39 HB31.out.size)
            clear q1 q2 q3
            go_wp2
            go_ret
            exact ⟨rfl, HBz.out⟩
      · have g1 : decide (j < N) = false := by simpa using h1
        clear hlt
        have TT9 := Lib.hid (TT7.out.below BR.out)
        have WS9 := Lib.hid (WS7.out.below BR.out)
        have HB9 := Lib.hid (btrans HB7.out BR.out HB7.out.size)
        obtain ⟨ll, hsh, hown⟩ := LF.out
        have SH := Lib.hid hsh
        have OW := Lib.hid hown
        clear hsh hown BR LF TT7 WS7 HB7 HRB7 HRB hwz7
        go_wp2_with fail
        refine (of_v wr.heap.size A8 N c8 (pvs ll) wr OW.out.reads (Nat.le_refl _) (by omega) (smallK_pvs (M := 5000) (by omega) fun x hx => M1.out.2.2 x ((SH.out.2.2 x).1 hx))).mono ?_
        rw [SH.out.of M1.out.1]
        rintro e w10 ⟨p10, rfl, r10, hb10⟩
        have R10 := Lib.hid r10
        clear OW SH r10
        generalize wr = w9 at *
        have HB10 := Lib.hid (btrans HB9.out hb10 HB9.out.size)
        have TT10 := Lib.hid (TT9.out.below hb10)
        have WS10 := Lib.hid (WS9.out.below hb10)
        clear HB9 TT9 WS9
        clear hb10
        go_wp2_with fail
        refine (nodes_v T w10.heap.size p10 w10 R10.out (Nat.le_refl _) (by rw [HN.out]; omega)).mono ?_
        rw [← HNP.out]
        rintro e w11 ⟨A11, c11, rfl, ho11, hb11⟩
        have O11 := Lib.hid ho11
        have HB11 := Lib.hid (btrans HB10.out hb11 HB10.out.size)
        have TT11 := Lib.hid (TT10.out.below hb11)
        have WS11 := Lib.hid (WS10.out.below hb11)
        clear HB10 TT10 WS10
        clear hb11 ho11 R10
        go_wp2_with fail
        refine (pairs_v w11.heap.size w11.heap.size A11 A6 NP.length NP.length c11 c6 NP w11 O11.out.reads WS11.out.reads (Nat.le_refl _) (Nat.le_refl _) (by omega)).mono ?_
        rintro e w12 ⟨rfl, hb12⟩
        have HB12 := Lib.hid (btrans HB11.out hb12 HB11.out.size)
        have TT12 := Lib.hid (TT11.out.below hb12)
        have WS12 := Lib.hid (WS11.out.below hb12)
        clear HB11 TT11 WS11
        clear hb12 O11
        go_wp2_with fail
        refine (made_v w.heap.size A' n' c' o w12 (Reads.below HR'.out HB12.out) HB12.out.size (by omega) HSK'.out).mono ?_
        rw [HU.out]
        rintro e w13 ⟨p, A4, n4, c4, rfl, r13, rr13, hb13⟩
        have hbx : Below w12.heap.size w12 ((w13.alloc (.cells #[.pointer p] 24)).alloc (.cells #[.slice A4 n4 c4] 44)) := (hb13.alloc hb13.size _).alloc (Nat.le_trans hb13.size (by simp)) _
        have UU14 : Hid (TCell ((w13.alloc (.cells #[.pointer p] 24)).alloc (.cells #[.slice A4 n4 c4] 44)) w13.heap.size U p) := Lib.hid ((TCell.box w13 r13).alloc _)
        have HB14 := Lib.hid (btrans HB12.out hbx HB12.out.size)
        have TT14 := Lib.hid (TT12.out.below hbx)
        have WS14 := Lib.hid (WS12.out.below hbx)
        clear HB12 TT12 WS12
        clear hbx hb13 r13 rr13
        have ct := TT14.out.1
        have cu := UU14.out.1
        go_wp2_with fail
        generalize ((w13.alloc (.cells #[.pointer p] 24)).alloc (.cells #[.slice A4 n4 c4] 44)) = w14 at *
        generalize w13.heap.size = gu at *
        refine (changes_v T U w14.heap.size q p w14 TT14.out.2.2.2.1 UU14.out.2.2.2.1 (Nat.le_refl _) M1.out.1.1 (by rw [HN.out]; omega) (by have := M2.out.2.1; omega)).mono ?_
        rw [← HCH.out]
        rintro e w16 ⟨A16, c16, rfl, ho16, hb16⟩
        have CR16 := Lib.hid ho16
        have HB16 := Lib.hid (btrans HB14.out hb16 HB14.out.size)
        have TT16 := Lib.hid (TT14.out.below hb16)
        have WS16 := Lib.hid (WS14.out.below hb16)
        have UU16 := Lib.hid (UU14.out.below hb16)
        clear HB14 TT14 WS14 UU14
        clear hb16 ho16 ct cu
        have ct := TT16.out.1
        have VV0 := Lib.hid (TCell.box w16 TT16.out.2.2.2.1)
        have BV0 := Lib.hid ((Below.refl w16.heap.size w16).alloc (Nat.le_refl _) (.cells #[.pointer q] 24))
        have hz16 : w.heap.size ≤ w16.heap.size := HB16.out.size
        have HCL := Lib.hid HCG.out.1
        have hcl : CH.length ≤ 800 := HCG.out.1
        go_wp2
        generalize hcn : CH.length = m at *
        have HCN := Lib.hid hcn
        clear hcn ct
        go_loopw [21] (fun i wr => ∃ (j : Nat) (qv : Option Addr), j ≤ m ∧ i = .int .i64 (j : Int) ∧ TCell wr w16.heap.size ((CH.take j).foldl doneStep T) qv ∧ Below w16.heap.size w16 wr) (fun i _ => m - (intOf i).toNat)
        case atStart => exact ⟨0, q, Nat.zero_le _, rfl, VV0.out, BV0.out⟩
        case round =>
          obtain ⟨j, qv, hjm, rfl, hvv, hb⟩ := hrel
          have VV := Lib.hid hvv
          have BR := Lib.hid hb
          have ct := hvv.1
          clear hvv hb VV0 BV0
          by_cases hlt : j < m
          · obtain ⟨ad, x, he, had, hx, c0, c1, c2⟩ := PReads.at_ (Reads.below CR16.out.reads BR.out) hlt
            subst he
            have HKX := Lib.hid (HCG.out.2.1.at_ hx)
            have HTK := Lib.hid (take_snoc' hx)
            have HCD := Lib.hid (cnt_done (CH.take j) T)
            have HLE := Lib.hid (show (CH.take j).length ≤ m by rw [List.length_take, HCN.out]; omega)
            clear hx
            obtain ⟨xk, xv, xg⟩ := x
            simp only [] at c0 c1 c2
            have hk0 : (0 : Int) ≤ (j : Int) := by omega
            have hk1 : (j : Int) < (m : Int) := by omega
            cases xg with
            | true =>
              have HST : Hid ((CH.take (j + 1)).foldl doneStep T = ((CH.take j).foldl doneStep T).drop xk) := Lib.hid (by rw [HTK.out, List.foldl_append]; simp [doneStep])
              go_wp2_with fail
              go_still_tail 6, (by kernel_rfl)
              go_wp2_with fail
              refine (drop_v xk _ wr.drew.heap.size qv wr.drew VV.out.2.2.2.1.drew (Nat.le_refl _) (by have := HCD.out; have := HLE.out; rw [HN.out] at *; omega) HKX.out).mono ?_
              rintro e w1 ⟨q1, rfl, r1, hb1⟩
              have hb1' : Below wr.heap.size wr w1 := ((Below.refl _ _).drew).trans hb1
              have K0 := Lib.hid (VV.out.below hb1')
              have R1 := Lib.hid r1
              have kf := K0.out.2.1
              have kc := K0.out.1
              have BB := Lib.hid (btrans BR.out hb1' BR.out.size)
              clear hb1 hb1' r1 ct
              go_wp2
              go_roundw
              case rel => exact ⟨j + 1, q1, by omega, by go_num, by rw [HST.out]; exact K0.out.store R1.out, BB.out.setCell (by simp) _⟩
              case measure => simp [intOf]; omega
            | false =>
              have HST : Hid ((CH.take (j + 1)).foldl doneStep T = ((CH.take j).foldl doneStep T).put xk xv) := Lib.hid (by rw [HTK.out, List.foldl_append]; simp [doneStep])
              go_wp2_with fail
              go_still_tail 11, (by kernel_rfl)
              go_wp2_with fail
              refine (put_v xk xv _ wr.drew.heap.size qv wr.drew VV.out.2.2.2.1.drew (Nat.le_refl _) (by have := HCD.out; have := HLE.out; rw [HN.out] at *; omega) HKX.out).mono ?_
              rintro e w1 ⟨q1, rfl, r1, hb1⟩
              have hb1' : Below wr.heap.size wr w1 := ((Below.refl _ _).drew).trans hb1
              have K0 := Lib.hid (VV.out.below hb1')
              have R1 := Lib.hid r1
              have kf := K0.out.2.1
              have kc := K0.out.1
              have BB := Lib.hid (btrans BR.out hb1' BR.out.size)
              clear hb1 hb1' r1 ct
              go_wp2
              go_roundw
              case rel => exact ⟨j + 1, q1, by omega, by go_num, by rw [HST.out]; exact K0.out.store R1.out, BB.out.setCell (by simp) _⟩
              case measure => simp [intOf]; omega
          · obtain rfl : j = m := by omega
            have VV20 : Hid (TCell wr w16.heap.size U qv) := Lib.hid (by have := VV.out; rw [List.take_of_length_le (by rw [HCN.out]; exact Nat.le_refl _)] at this; have h2 := HCG.out.2.2.2; unfold doneT at h2; rwa [h2] at this)
            have TT20 := Lib.hid (TT16.out.below BR.out)
            have UU20 := Lib.hid (UU16.out.below BR.out)
            have WS20 := Lib.hid (WS16.out.below BR.out)
            have HB20 := Lib.hid (btrans HB16.out BR.out HB16.out.size)
            clear VV ct BR CR16 TT16 UU16 WS16 HB16 HCL HCN HCG HCH hcl hz16
            generalize w16.heap.size = gv at *
            generalize wr = w20 at *
            have ct := TT20.out.1
            have HCU := Lib.hid (cutOf M1.out.1 key)
            have hcut := cutT_v key T w20.heap.size q w20 TT20.out.2.2.2.1 (Nat.le_refl _) (by rw [HN.out]; omega)
            generalize (T.cut key).1 = L at *
            generalize (T.cut key).2 = R at *
            have HCT := Lib.hid hcut
            clear hcut
            go_wp2_with fail
            refine HCT.out.mono ?_
            rintro e w21 ⟨pL, pR, rfl, rL, rR, hb21⟩
            have TL := Lib.hid ((TCell.box w21 rL).alloc (.cells #[.pointer pR] 24))
            have TR := Lib.hid (by have := TCell.box (w21.alloc (.cells #[.pointer pL] 24)) (t := R) (p := pR) (rR.step ((Below.refl _ _).alloc (Nat.le_refl _) _)); rwa [World.size_alloc] at this : TCell ((w21.alloc (.cells #[.pointer pL] 24)).alloc (.cells #[.pointer pR] 24)) (w21.heap.size + 1) R pR)
            have hbx : Below w20.heap.size w20 ((w21.alloc (.cells #[.pointer pL] 24)).alloc (.cells #[.pointer pR] 24)) := (hb21.alloc hb21.size _).alloc (Nat.le_trans hb21.size (by simp)) _
            have TT22 := Lib.hid (TT20.out.below hbx)
            have UU22 := Lib.hid (UU20.out.below hbx)
            have VV22 := Lib.hid (VV20.out.below hbx)
            have WS22 := Lib.hid (WS20.out.below hbx)
            have HB22 := Lib.hid (btrans HB20.out hbx HB20.out.size)
            clear hb21 rL rR TT20 UU20 VV20 WS20 HB20 ct HCT hbx
            go_wp2_with fail
            generalize (w21.alloc (.cells #[.pointer pL] 24)).alloc (.cells #[.pointer pR] 24) = w22 at *
            generalize w21.heap.size = gl at *
            have hcl : L.cnt ≤ 400 := by have := HCU.out.cn; rw [HN.out] at this; omega
            have hcr : R.cnt ≤ 400 := by have := HCU.out.cn; rw [HN.out] at this; omega
            have q1 : ∀ V, Below w22.heap.size w22 V → V.cell? ⟨gl, 0, none⟩ = some (.pointer pL) := fun V h => keepC h TL.out.1 TL.out.2.2.2.2
            have q2 : ∀ V, Below w22.heap.size w22 V → V.cell? ⟨gl + 1, 0, none⟩ = some (.pointer pR) := fun V h => keepC h TR.out.1 TR.out.2.2.2.2
            (try dsimp only [List.append])
            refine wp_region_text [(0, false), (1, false), (4, false), (5, false), (2, true), (3, true), (6, true), (7, true), (8, true), (9, false)] (fun V => Below w22.heap.size w22 V) (by kernel_rfl) (by kernel_rfl) (by kernel_rfl) (by kernel_rfl) (by kernel_rfl) (fun _ => ?_)
            simp only [outOf, List.getElem?_cons_zero, List.getElem?_cons_succ, Option.getD_some]
            have hS := (Below.refl w22.heap.size w22).drew
            iterate 4 ((first | (refine TW.val2 (v := ?_) ?_ ?_ ?_ ?_ ?_; rotate_left; (focus rfl); (focus (intro W hSW; (try dsimp only at hSW); go_simp; (try with_reducible rfl); done)); (focus exact fun _ _ _ h => h); (focus assumption)) | (refine TW.skip (e := false) ?_ ?_ ?_ ?_; (focus rfl); (focus exact fun _ _ _ h => h); (focus assumption))); simp only [Act.put, List.setIfInBounds_toArray, List.set_cons_zero, List.set_cons_succ])
            refine TW.eff (by rfl) (fun K hK => ?_); go_simp
            refine (size_v L w22.drew.heap.size pL w22.drew (TL.out.below hS).2.2.2.1 (Nat.le_refl _)).mono ?_
            rintro e w23 ⟨rfl, hb23⟩
            have hS23 := hS.trans hb23
            clear hb23
            go_wp2_with fail; refine hK.out _ _ hS23 ?_; clear hK; (try simp only [Act.put, List.setIfInBounds_toArray, List.set_cons_zero, List.set_cons_succ])
            refine TW.eff (by rfl) (fun K hK => ?_); go_simp
            refine (range_whole HCU.out.gl (by omega) w23 pL (TL.out.below hS23).2.2.2.1).mono ?_
            rintro e w24 ⟨A24, c24, rfl, ho24, hb24⟩
            have hS24 := btwo hS23 hb24
            have hz23 := Lib.hid hS23.size
            have HO24 := Lib.hid ho24
            have hz24 := Lib.hid hb24.size
            clear hb24 ho24
            go_wp2_with fail; refine hK.out _ _ hS24 ?_; clear hK; (try simp only [Act.put, List.setIfInBounds_toArray, List.set_cons_zero, List.set_cons_succ])
            refine TW.eff (by rfl) (fun K hK => ?_); go_simp
            refine (size_v R w24.heap.size pR w24 (TR.out.below hS24).2.2.2.1 (Nat.le_refl _)).mono ?_
            rintro e w25 ⟨rfl, hb25⟩
            have hS25 := btwo hS24 hb25
            have HO25 := Lib.hid (HO24.out.below hb25)
            have hz25 := Lib.hid (show w23.heap.size ≤ w25.heap.size from Nat.le_trans hz24.out hb25.size)
            clear hb25 HO24
            go_wp2_with fail; refine hK.out _ _ hS25 ?_; clear hK; (try simp only [Act.put, List.setIfInBounds_toArray, List.set_cons_zero, List.set_cons_succ])
            refine TW.eff (by rfl) (fun K hK => ?_); go_simp
            refine (range_whole HCU.out.gr (by omega) w25 pR (TR.out.below hS25).2.2.2.1).mono ?_
            rintro e w26 ⟨A26, c26, rfl, ho26, hb26⟩
            have hS26 := btwo hS25 hb26
            have HO26 := Lib.hid (HO25.out.below hb26)
            have hz26 := Lib.hid (Nat.le_trans hz25.out hb26.size)
            have HQ26 := Lib.hid ho26
            clear hb26 ho26 HO25
            go_wp2_with fail; refine hK.out _ _ hS26 ?_; clear hK; (try simp only [Act.put, List.setIfInBounds_toArray, List.set_cons_zero, List.set_cons_succ])
            refine TW.eff (by rfl) (fun K hK => ?_)
            refine wp_papp (.tmp 154) (.tmp 158) rfl w23.heap.size A24 L.cnt c24 (pvs L.flat) rfl HO26.out w26.heap.size A26 R.cnt c26 (pvs R.flat) rfl HQ26.out.reads (by omega) hz26.out ?_
            intro A27 c27 w27 ho27 hg27
            have hS27 : Below w22.heap.size w22 w27 := below_papp hS26 hg27 HO26.out hz23.out hS26.size
            rw [show pvs L.flat ++ pvs R.flat = pvs T.flat by rw [← HCU.out.fl]; simp [pvs], show L.cnt + R.cnt = N by rw [HCU.out.cn, HN.out]] at ho27
            rw [show L.cnt + R.cnt = N by rw [HCU.out.cn, HN.out]]
            have HO27 := Lib.hid ho27
            clear ho27 hg27 HO26
            refine hK.out _ _ hS27 ?_
            clear hK
            (try simp only [Act.put, List.setIfInBounds_toArray, List.set_cons_zero, List.set_cons_succ])
            iterate 1 ((first | (refine TW.val2 (v := ?_) ?_ ?_ ?_ ?_ ?_; rotate_left; (focus rfl); (focus (intro W hSW; (try dsimp only at hSW); go_simp; (try with_reducible rfl); done)); (focus exact fun _ _ _ h => h); (focus assumption)) | (refine TW.skip (e := false) ?_ ?_ ?_ ?_; (focus rfl); (focus exact fun _ _ _ h => h); (focus assumption))); simp only [Act.put, List.setIfInBounds_toArray, List.set_cons_zero, List.set_cons_succ])
            refine TW.done ?_
            have TT27 := Lib.hid (TT22.out.below hS27)
            have UU27 := Lib.hid (UU22.out.below hS27)
            have VV27 := Lib.hid (VV22.out.below hS27)
            have WS27 := Lib.hid (WS22.out.below hS27)
            have HB27 := Lib.hid (btrans HB22.out hS27 HB22.out.size)
            clear q1 q2 hS hS23 hS24 hS25 hS26 hS27 hz23 hz24 hz25 hz26 TT22 UU22 VV22 WS22 HB22 TL TR HCU hcl hcr HQ26
            have ct := TT27.out.1
            go_wp2_with fail
            refine (put_v key v T w27.heap.size q w27 TT27.out.2.2.2.1 (Nat.le_refl _) (by rw [HN.out]; omega) (by omega)).mono ?_
            rintro e w28 ⟨p28, rfl, r28, hb28⟩
            have TT28 := Lib.hid (TT27.out.below hb28)
            have UU28 := Lib.hid (UU27.out.below hb28)
            have VV28 := Lib.hid (VV27.out.below hb28)
            have WS28 := Lib.hid (WS27.out.below hb28)
            have HO28 := Lib.hid (HO27.out.below hb28)
            have HB28 := Lib.hid (btrans HB27.out hb28 HB27.out.size)
            clear hb28 r28 ct TT27 UU27 VV27 WS27 HO27 HB27
            have ct := TT28.out.1
            go_wp2_with fail
            refine (drop_v key T w28.heap.size q w28 TT28.out.2.2.2.1 (Nat.le_refl _) (by rw [HN.out]; omega) (by omega)).mono ?_
            rintro e w29 ⟨p29, rfl, r29, hb29⟩
            have TT29 := Lib.hid (TT28.out.below hb29)
            have UU29 := Lib.hid (UU28.out.below hb29)
            have VV29 := Lib.hid (VV28.out.below hb29)
            have WS29 := Lib.hid (WS28.out.below hb29)
            have HO29 := Lib.hid (HO28.out.below hb29)
            have HB29 := Lib.hid (btrans HB28.out hb29 HB28.out.size)
            clear hb29 r29 ct TT28 UU28 VV28 WS28 HO28 HB28
            have ct := TT29.out.1
            go_wp2_with fail
            refine (put_v key v T w29.heap.size q w29 TT29.out.2.2.2.1 (Nat.le_refl _) (by rw [HN.out]; omega) (by omega)).mono ?_
            rintro e w30 ⟨p30, rfl, r30, hb30⟩
            have TT30 := Lib.hid (TT29.out.below hb30)
            have UU30 := Lib.hid (UU29.out.below hb30)
            have VV30 := Lib.hid (VV29.out.below hb30)
            have WS30 := Lib.hid (WS29.out.below hb30)
            have HO30 := Lib.hid (HO29.out.below hb30)
            have HB30 := Lib.hid (btrans HB29.out hb30 HB29.out.size)
            have R30 := Lib.hid r30
            clear hb30 r30 ct TT29 UU29 VV29 WS29 HO29 HB29
            have HGP := Lib.hid (get_put M1.out.1 key v)
            have ct := TT30.out.1
            go_wp2_with fail
            refine (get_v key _ w30.heap.size p30 w30 R30.out (Nat.le_refl _)).mono ?_
            rw [HGP.out]
            unfold getR
            rintro e w31 ⟨rfl, hb31⟩
            have TT31 := Lib.hid (TT30.out.below hb31)
            have UU31 := Lib.hid (UU30.out.below hb31)
            have VV31 := Lib.hid (VV30.out.below hb31)
            have WS31 := Lib.hid (WS30.out.below hb31)
            have HO31 := Lib.hid (HO30.out.below hb31)
            have HB31 := Lib.hid (btrans HB30.out hb31 HB30.out.size)
            clear hb31 ct TT30 UU30 VV30 WS30 HO30 HB30 R30 HGP
            have q1 : ∀ V, Below w31.heap.size w31 V → V.cell? ⟨ga, 0, none⟩ = some (.pointer q) := fun V h => keepC h TT31.out.1 TT31.out.2.2.2.2
            have q2 : ∀ V, Below w31.heap.size w31 V → V.cell? ⟨gu, 0, none⟩ = some (.pointer p) := fun V h => keepC h UU31.out.1 UU31.out.2.2.2.2
            have q3 : ∀ V, Below w31.heap.size w31 V → V.cell? ⟨gv, 0, none⟩ = some (.pointer qv) := fun V h => keepC h VV31.out.1 VV31.out.2.2.2.2
            have hcu : U.cnt ≤ 400 := M2.out.2.1
            obtain ⟨UP, hUP⟩ : ∃ UP, UP = pvs U.pre := ⟨_, rfl⟩
            have HUPn : UP.length ≤ 1000000 := by rw [hUP, pvs_len, pre_len]; omega
            have HUP := Lib.hid hUP
            clear hUP
            go_wp2_with fail
            (try dsimp only [List.append])
            refine wp_region_text [(0, false), (2, false), (1, true), (3, true), (4, true), (5, false), (6, false), (7, false), (8, false), (9, true), (10, true), (11, true), (12, false), (13, false), (14, false), (16, false), (15, true), (17, true), (18, false), (19, false), (20, false), (21, false), (22, false), (23, false), (24, false), (25, false), (26, false), (27, false)] (fun V => Below w31.heap.size w31 V) (by kernel_rfl) (by kernel_rfl) (by kernel_rfl) (by kernel_rfl) (by kernel_rfl) (fun _ => ?_)
            simp only [outOf, List.getElem?_cons_zero, List.getElem?_cons_succ, Option.getD_some]
            have hS := (Below.refl w31.heap.size w31).drew
            iterate 2 ((first | (refine TW.val2 (v := ?_) ?_ ?_ ?_ ?_ ?_; rotate_left; (focus rfl); (focus (intro W hSW; (try dsimp only at hSW); go_simp; (try with_reducible rfl); done)); (focus exact fun _ _ _ h => h); (focus assumption)) | (refine TW.skip (e := false) ?_ ?_ ?_ ?_; (focus rfl); (focus exact fun _ _ _ h => h); (focus assumption))); simp only [Act.put, List.setIfInBounds_toArray, List.set_cons_zero, List.set_cons_succ])
            refine TW.eff (by rfl) (fun K hK => ?_); go_simp
            refine (nodes_v U w31.drew.heap.size qv w31.drew (VV31.out.below hS).2.2.2.1 (Nat.le_refl _) (by omega)).mono ?_
            rw [← HUP.out]
            rintro e w32 ⟨A32, c32, rfl, ho32, hb32⟩
            have hS32 := hS.trans hb32
            have O32 := Lib.hid ho32
            clear hb32 ho32
            go_wp2_with fail; refine hK.out _ _ hS32 ?_; clear hK; (try simp only [Act.put, List.setIfInBounds_toArray, List.set_cons_zero, List.set_cons_succ])
            refine TW.eff (by rfl) (fun K hK => ?_); go_simp
            refine (nodes_v U w32.heap.size p w32 (UU31.out.below hS32).2.2.2.1 (Nat.le_refl _) (by omega)).mono ?_
            rw [← HUP.out]
            rintro e w33 ⟨A33, c33, rfl, ho33, hb33⟩
            have hS33 := btwo hS32 hb33
            have O33 := Lib.hid ho33
            replace O32 := Lib.hid (O32.out.below hb33)
            clear hb33 ho33
            go_wp2_with fail; refine hK.out _ _ hS33 ?_; clear hK; (try simp only [Act.put, List.setIfInBounds_toArray, List.set_cons_zero, List.set_cons_succ])
            refine TW.eff (by rfl) (fun K hK => ?_); go_simp
            refine (pairs_v w33.heap.size w33.heap.size A32 A33 UP.length UP.length c32 c33 UP w33 O32.out.reads O33.out.reads (Nat.le_refl _) (Nat.le_refl _) (by omega)).mono ?_
            rintro e w34 ⟨rfl, hb34⟩
            have hS34 := btwo hS33 hb34
            clear hb34 O32 O33
            go_wp2_with fail; refine hK.out _ _ hS34 ?_; clear hK; (try simp only [Act.put, List.setIfInBounds_toArray, List.set_cons_zero, List.set_cons_succ])
            iterate 4 ((first | (refine TW.val2 (v := ?_) ?_ ?_ ?_ ?_ ?_; rotate_left; (focus rfl); (focus (intro W hSW; (try dsimp only at hSW); go_simp; (try with_reducible rfl); done)); (focus exact fun _ _ _ h => h); (focus assumption)) | (refine TW.skip (e := false) ?_ ?_ ?_ ?_; (focus rfl); (focus exact fun _ _ _ h => h); (focus assumption))); simp only [Act.put, List.setIfInBounds_toArray, List.set_cons_zero, List.set_cons_succ])
            refine TW.eff (by rfl) (fun K hK => ?_); go_simp
            refine (size_v T w34.heap.size q w34 (TT31.out.below hS34).2.2.2.1 (Nat.le_refl _)).mono ?_
            rw [HN.out]
            rintro e w35 ⟨rfl, hb35⟩
            have hS35 := btwo hS34 hb35
            clear hb35
            go_wp2_with fail; refine hK.out _ _ hS35 ?_; clear hK; (try simp only [Act.put, List.setIfInBounds_toArray, List.set_cons_zero, List.set_cons_succ])
            refine TW.eff (by rfl) (fun K hK => ?_); go_simp
            refine (range_n M1.out.1 HN.out (by omega) w35 q (TT31.out.below hS35).2.2.2.1).mono ?_
            rintro e w36 ⟨A36, c36, rfl, ho36, hb36⟩
            have hS36 := btwo hS35 hb36
            have O36 := Lib.hid ho36
            have O37 := Lib.hid (HO31.out.below hS36)
            clear hb36 ho36
            go_wp2_with fail; refine hK.out _ _ hS36 ?_; clear hK; (try simp only [Act.put, List.setIfInBounds_toArray, List.set_cons_zero, List.set_cons_succ])
            refine TW.eff (by rfl) (fun K hK => ?_); go_simp
            refine (pairs_v w36.heap.size w36.heap.size A27 A36 N N c27 c36 (pvs T.flat) w36 O37.out.reads O36.out.reads (Nat.le_refl _) (Nat.le_refl _) (by omega)).mono ?_
            rintro e w37 ⟨rfl, hb37⟩
            have hS37 := btwo hS36 hb37
            clear hb37 O36 O37
            go_wp2_with fail; refine hK.out _ _ hS37 ?_; clear hK; (try simp only [Act.put, List.setIfInBounds_toArray, List.set_cons_zero, List.set_cons_succ])
            iterate 4 ((first | (refine TW.val2 (v := ?_) ?_ ?_ ?_ ?_ ?_; rotate_left; (focus rfl); (focus (intro W hSW; (try dsimp only at hSW); go_simp; (try with_reducible rfl); done)); (focus exact fun _ _ _ h => h); (focus assumption)) | (refine TW.skip (e := false) ?_ ?_ ?_ ?_; (focus rfl); (focus exact fun _ _ _ h => h); (focus assumption))); simp only [Act.put, List.setIfInBounds_toArray, List.set_cons_zero, List.set_cons_succ])
            refine TW.eff (by rfl) (fun K hK => ?_); go_simp
            refine (nodes_v T w37.heap.size q w37 (TT31.out.below hS37).2.2.2.1 (Nat.le_refl _) (by rw [HN.out]; omega)).mono ?_
            rw [← HNP.out]
            rintro e w38 ⟨A38, c38, rfl, ho38, hb38⟩
            have hS38 := btwo hS37 hb38
            have O38 := Lib.hid ho38
            have O39 := Lib.hid (WS31.out.below hS38)
            clear hb38 ho38
            go_wp2_with fail; refine hK.out _ _ hS38 ?_; clear hK; (try simp only [Act.put, List.setIfInBounds_toArray, List.set_cons_zero, List.set_cons_succ])
            refine TW.eff (by rfl) (fun K hK => ?_); go_simp
            refine (pairs_v w38.heap.size w38.heap.size A38 A6 NP.length NP.length c38 c6 NP w38 O38.out.reads O39.out.reads (Nat.le_refl _) (Nat.le_refl _) (by omega)).mono ?_
            rintro e w39 ⟨rfl, hb39⟩
            have hS39 := btwo hS38 hb39
            clear hb39 O38 O39
            go_wp2_with fail; refine hK.out _ _ hS39 ?_; clear hK; (try simp only [Act.put, List.setIfInBounds_toArray, List.set_cons_zero, List.set_cons_succ])
            iterate 10 ((first | (refine TW.val2 (v := ?_) ?_ ?_ ?_ ?_ ?_; rotate_left; (focus rfl); (focus (intro W hSW; (try dsimp only at hSW); go_simp; (try with_reducible rfl); done)); (focus exact fun _ _ _ h => h); (focus assumption)) | (refine TW.skip (e := false) ?_ ?_ ?_ ?_; (focus rfl); (focus exact fun _ _ _ h => h); (focus assumption))); simp only [Act.put, List.setIfInBounds_toArray, List.set_cons_zero, List.set_cons_succ])
            refine TW.done ?_
            have HBz := Lib.hid (btrans HB31.out hS39 HB31.out.size)
            clear q1 q2 q3
            go_wp2
            go_ret
            exact ⟨rfl, HBz.out⟩
end Go.Proofs.Ytohcdnbchidjeaa
