/-
  The walk of TableChanges.
-/
import Derived.Test.YtohcdnbchidjeaaTabRk
import Derived.Test.YtohcdnbchidjeaaTabM3
import Derived.Test.YtohcdnbchidjeaaTextF
import Derived.IntWalk
namespace Go.Proofs.Ytohcdnbchidjeaa
open Go.RowKit
/-- What the walk knows of a table that puts and drops made. -/
def Made (M : Nat) (T : Tr) : Prop := good T ∧ T.cnt ≤ 400 ∧ ∀ x ∈ T.flat, x.1.size ≤ M
theorem made_of {n M : Nat} (hn : n ≤ 400) {l : List P3} (h : lightB n M l = true) : Made M (doneT .nil l) :=
  ⟨(doneT_good l good_nil).1, by have := cnt_done l .nil; have h2 := (lightB_spec h).1; simp only [Tr.cnt] at this; unfold doneT; omega,
    by rw [(doneT_good l good_nil).2]; exact keys_done l [] (fun x hx => by simp at hx) fun x hx => ((lightB_spec h).2 x hx).1⟩
theorem chg_len : ∀ (n : Nat) (l m : List KV), l.length + m.length ≤ n → (chg l m).length ≤ l.length + m.length
  | _, [], [], _ => by rw [chg]; simp
  | 0, x :: l, m, h => by simp at h
  | 0, [], y :: m, h => by simp at h
  | n + 1, [], y :: m, h => by
    have := chg_len n [] m (by simp at h ⊢; omega)
    rw [chg_nil_cons]; simp at this ⊢; omega
  | n + 1, x :: l, [], h => by
    have := chg_len n l [] (by simp at h ⊢; omega)
    rw [chg_cons_nil]; simp at this ⊢; omega
  | n + 1, x :: l, y :: m, h => by
    have i1 := chg_len n l (y :: m) (by simp at h ⊢; omega)
    have i2 := chg_len n l m (by simp at h ⊢; omega)
    have i3 := chg_len n (x :: l) m (by simp at h ⊢; omega)
    by_cases h1 : klt x.1 y.1 = true
    · rw [chg_lt h1]; simp at *; omega
    · by_cases h2 : x.1 = y.1
      · by_cases h3 : x.2 = y.2
        · rw [chg_same h2 h3]; simp at *; omega
        · rw [chg_new h2 h3]; simp at *; omega
      · rw [chg_gt (klt_total h2 (by simpa using h1))]; simp at *; omega
theorem made_chg {T U : Tr} {M : Nat} (hT : Made M T) (hU : Made M U) (hM : M ≤ 100000) : (chg T.flat U.flat).length ≤ 800 ∧ smallK (chg T.flat U.flat) ∧ asc3 (chg T.flat U.flat) ∧ doneT T (chg T.flat U.flat) = U := by
  refine ⟨?_, ?_, asc3_chg hT.1.1 hU.1.1, ?_⟩
  · have := chg_len _ T.flat U.flat (Nat.le_refl _)
    rw [flat_len, flat_len] at this
    have := hT.2.1
    have := hU.2.1
    omega
  · intro z hz
    rcases mem_chg _ _ _ (Nat.le_refl _) z hz with ⟨x, hx, e⟩ | ⟨x, hx, e⟩
    · have := hT.2.2 x hx; rw [e]; omega
    · have := hU.2.2 x hx; rw [e]; omega
  · have h := doneT_good (chg T.flat U.flat) hT.1
    exact good_unique h.1 hU.1 (h.2.trans (doneL_chg hT.1.1 hU.1.1))
/-- What a cut leaves. -/
theorem POwn.empty (w : World) : POwn (w.alloc (.cells #[] 39)) w.heap.size (some ⟨w.heap.size, 0, none⟩) 0 0 [] :=
  ⟨⟨by simp [p3sC], .inr ⟨w.heap.size, 0, #[], rfl, Nat.le_refl _, heap_alloc_new w _, Nat.le_refl _, by decide, rfl, rfl⟩⟩, Nat.le_refl _⟩
structure CutOf (T : Tr) (key : ByteArray) (L R : Tr) : Prop where
  gl : good L
  gr : good R
  fl : L.flat ++ R.flat = T.flat
  bl : ∀ x ∈ L.flat, klt x.1 key = true
  br : ∀ x ∈ R.flat, klt x.1 key = false
  cn : L.cnt + R.cnt = T.cnt
theorem cutOf {T : Tr} (h : good T) (key : ByteArray) : CutOf T key (T.cut key).1 (T.cut key).2 := by
  have h1 := good_cut h key
  have h2 := cut_flat T key h.1
  exact ⟨h1.1, h1.2, by rw [h2.1, h2.2]; exact lo_hi h.1, fun x hx => by rw [h2.1] at hx; exact (mem_lo.1 hx).2, fun x hx => by rw [h2.2] at hx; exact (mem_hi.1 hx).2, cut_cnt T key⟩
theorem range_whole {X : Tr} (hX : good X) (hc : X.cnt ≤ 1000000) (V : World) (q : Option Addr) (h : Rep V V.heap.size X q) :
    Calls Try.prog 22 #[.agg #[.pointer q], .string ⟨#[]⟩, .string ⟨#[]⟩, .int .i64 (X.cnt : Int)] V fun e w' => ∃ A c, e = .returned (.slice A X.cnt c) ∧ POwn w' V.heap.size A X.cnt c (pvs X.flat) ∧ Below V.heap.size V w' := by
  have := range_f hX ⟨#[]⟩ ⟨#[]⟩ (X.cnt : Int) V.heap.size q V h (Nat.le_refl _) hc
  rw [range_all (by rw [flat_len]; exact Nat.le_refl _)] at this
  refine this.mono ?_
  rintro e w' ⟨A, c, h1, h2, h3⟩
  rw [show (pvs X.flat).length = X.cnt by rw [pvs_len, flat_len]] at h1 h2
  exact ⟨A, c, h1, h2, h3⟩
set_option maxHeartbeats 8000000 in
set_option maxRecDepth 100000 in
theorem changes_in2 (A A' : Option Addr) (n c n' c' : Nat) (l o : List P3) (key : ByteArray) (w : World) (hin : PIn w A n c l) (hin' : PIn w A' n' c' o) (hl : lightB 400 300 l = true) (ho : lightB 400 300 o = true) (hk : key.size ≤ 300) :
    Calls Try.prog 6 #[.slice A n c, .slice A' n' c', .string key] w fun e w' => e = .returned (.bool true) ∧ Below w.heap.size w w' := by
  obtain ⟨hr, hnc, hcm⟩ := hin
  obtain ⟨hr', hnc', hcm'⟩ := hin'
  unfold maxLen at hcm hcm'
  have HR := Lib.hid hr
  have HR' := Lib.hid hr'
  have hn4 : n ≤ 400 := by rw [← hr.len]; exact (lightB_spec hl).1
  have hn4' : n' ≤ 400 := by rw [← hr'.len]; exact (lightB_spec ho).1
  have HLT := Lib.hid hl
  have HLT' := Lib.hid ho
  have HSK := Lib.hid (smallK_of (by omega) hl)
  have HSK' := Lib.hid (smallK_of (by omega) ho)
  have M1 := Lib.hid (made_of (Nat.le_refl _) hl)
  have M2 := Lib.hid (made_of (Nat.le_refl _) ho)
  clear hr hr' hl ho
  generalize hT : doneT .nil l = T at *
  generalize hU : doneT .nil o = U at *
  have HT := Lib.hid hT
  have HU := Lib.hid hU
  clear hT hU
  have hkd : decide (300 < key.size) = false := by simp; omega
  have hkd' : decide ((300 : Int) < (key.size : Int)) = false := by simp; omega
  go_enter Try.func6, Try.ntmps6
  go_wp2_with fail
  refine (lives_v w).mono ?_
  rintro e w1 ⟨rfl, hb1⟩
  go_wp2_with fail
  refine (light_v w.heap.size A n c 400 300 l w1 (Reads.below HR.out hb1) hb1.size (by omega) (by omega)).mono ?_
  rw [HLT.out]
  rintro e w2 ⟨rfl, hb2⟩
  have HB2 := Lib.hid (btwo hb1 hb2)
  clear hb1 hb2
  go_wp2_with fail
  refine (light_v w.heap.size A' n' c' 400 300 o w2 (Reads.below HR'.out HB2.out) HB2.out.size (by omega) (by omega)).mono ?_
  rw [HLT'.out]
  rintro e w3 ⟨rfl, hb3⟩
  have HB3 := Lib.hid (btrans HB2.out hb3 HB2.out.size)
  clear hb3 HB2
  have TA := Lib.hid ((TCell.new w3).alloc (.cells #[.pointer none] 24))
  have TB := Lib.hid (by have := TCell.new (w3.alloc (.cells #[.pointer none] 24)); rwa [World.size_alloc] at this : TCell ((w3.alloc (.cells #[.pointer none] 24)).alloc (.cells #[.pointer none] 24)) (w3.heap.size + 1) .nil none)
  have HB4 := Lib.hid ((HB3.out.alloc HB3.out.size (.cells #[.pointer none] 24)).alloc (Nat.le_trans HB3.out.size (by simp)) (.cells #[.pointer none] 24))
  go_wp2_with fail
  generalize (w3.alloc (.cells #[.pointer none] 24)).alloc (.cells #[.pointer none] 24) = w4 at *
  obtain ⟨ga, hga⟩ : ∃ ga, ga = w3.heap.size := ⟨_, rfl⟩
  rw [← hga] at TA TB ⊢
  have HGA : Hid (w.heap.size ≤ ga) := Lib.hid (by rw [hga]; exact HB3.out.size)
  clear HB3 hga
  have HR4 := Lib.hid (Reads.below HR.out HB4.out)
  have HR4' := Lib.hid (Reads.below HR'.out HB4.out)
  refine wp_region_F 6 [(0, 2), (1, 1), (3, 2), (4, 1), (2, 0), (5, 0), (6, 4), (7, 4)] (fun _ => True) (fun V => V.cell? ⟨ga, 0, none⟩ = some (.pointer none) ∧ V.cell? ⟨ga + 1, 0, none⟩ = some (.pointer none)) (by kernel_rfl) (by kernel_rfl) (by kernel_rfl) (by kernel_rfl) (by kernel_rfl) (fun _ => ?_)
  simp only [outE, List.getElem?_cons_zero, List.getElem?_cons_succ, Option.getD_some]
  have hF : True := trivial
  have hG : w4.drew.cell? ⟨ga, 0, none⟩ = some (.pointer none) ∧ w4.drew.cell? ⟨ga + 1, 0, none⟩ = some (.pointer none) := ⟨TA.out.1, TB.out.1⟩
  iterate 1 (refine TF.val2 (v := ?_) ?_ ?_ ?_ ?_ ?_ ?_; rotate_left; (focus rfl); (focus (intro W hSW; (try dsimp only at hSW); (try (obtain ⟨hS1, hSW⟩ := hSW)); (try (obtain ⟨hS2, hSW⟩ := hSW)); (try (obtain ⟨hS3, hSW⟩ := hSW)); (try (obtain ⟨hS4, hSW⟩ := hSW)); (try (obtain ⟨hS5, hSW⟩ := hSW)); go_simp; (try with_reducible rfl); done)); (focus exact fun _ _ _ h => h); (focus exact hF); (focus exact hG); simp only [Act.put, List.setIfInBounds_toArray, List.set_cons_zero, List.set_cons_succ])
  iterate 1 (refine TF.val1 (v := ?_) ?_ ?_ ?_ ?_ ?_ ?_; rotate_left; (focus rfl); (focus (intro W hSW; (try dsimp only at hSW); (try (obtain ⟨hS1, hSW⟩ := hSW)); (try (obtain ⟨hS2, hSW⟩ := hSW)); (try (obtain ⟨hS3, hSW⟩ := hSW)); (try (obtain ⟨hS4, hSW⟩ := hSW)); (try (obtain ⟨hS5, hSW⟩ := hSW)); go_simp; (try with_reducible rfl); done)); (focus exact fun _ _ _ h => h); (focus exact hF); (focus exact hG); simp only [Act.put, List.setIfInBounds_toArray, List.set_cons_zero, List.set_cons_succ])
  iterate 1 (refine TF.val2 (v := ?_) ?_ ?_ ?_ ?_ ?_ ?_; rotate_left; (focus rfl); (focus (intro W hSW; (try dsimp only at hSW); (try (obtain ⟨hS1, hSW⟩ := hSW)); (try (obtain ⟨hS2, hSW⟩ := hSW)); (try (obtain ⟨hS3, hSW⟩ := hSW)); (try (obtain ⟨hS4, hSW⟩ := hSW)); (try (obtain ⟨hS5, hSW⟩ := hSW)); go_simp; (try with_reducible rfl); done)); (focus exact fun _ _ _ h => h); (focus exact hF); (focus exact hG); simp only [Act.put, List.setIfInBounds_toArray, List.set_cons_zero, List.set_cons_succ])
  iterate 1 (refine TF.val1 (v := ?_) ?_ ?_ ?_ ?_ ?_ ?_; rotate_left; (focus rfl); (focus (intro W hSW; (try dsimp only at hSW); (try (obtain ⟨hS1, hSW⟩ := hSW)); (try (obtain ⟨hS2, hSW⟩ := hSW)); (try (obtain ⟨hS3, hSW⟩ := hSW)); (try (obtain ⟨hS4, hSW⟩ := hSW)); (try (obtain ⟨hS5, hSW⟩ := hSW)); go_simp; (try with_reducible rfl); done)); (focus exact fun _ _ _ h => h); (focus exact hF); (focus exact hG); simp only [Act.put, List.setIfInBounds_toArray, List.set_cons_zero, List.set_cons_succ])
  refine TF.eff0 (by rfl) (fun K hK => ?_); go_simp
  refine (done_v w.heap.size .nil none A n c l w4.drew (Rep.nil_ _ _) (Reads.drew HR4.out) HB4.out.size (by omega) (by simp [Tr.cnt]) HSK.out).mono ?_
  rw [HT.out]
  rintro e w5 ⟨pA, rfl, r5, hb5⟩
  have hb5' : Below w4.heap.size w4 w5 := ((Below.refl _ _).drew).trans hb5
  have TA5 := Lib.hid (TA.out.below hb5')
  have TB5 := Lib.hid (TB.out.below hb5')
  have RA5 := Lib.hid r5
  have HR5' := Lib.hid (Reads.below HR4'.out (hb5'.mono HB4.out.size))
  have HB5 := Lib.hid (btrans HB4.out hb5' HB4.out.size)
  clear hb5 hb5' r5 TA TB HR4 HR4' HB4
  (try (go_wp2_with fail)); refine hK.out _ _ trivial ⟨TA5.out.1, TB5.out.1⟩ ?_; clear hK; (try simp only [Act.put, List.setIfInBounds_toArray, List.set_cons_zero, List.set_cons_succ])
  clear hG
  refine TF.eff0 (by rfl) (fun K hK => ?_); go_simp
  refine (done_v w.heap.size .nil none A' n' c' o w5 (Rep.nil_ _ _) HR5'.out HB5.out.size (by omega) (by simp [Tr.cnt]) HSK'.out).mono ?_
  rw [HU.out]
  rintro e w6 ⟨pB, rfl, r6, hb6⟩
  have TA6 := Lib.hid (TA5.out.below hb6)
  have TB6 := Lib.hid (TB5.out.below hb6)
  have RA6 := Lib.hid (RA5.out.step hb6)
  have RB6 := Lib.hid r6
  have HB6 := Lib.hid (btrans HB5.out hb6 HB5.out.size)
  clear hb6 r6 TA5 TB5 RA5 HR5' HB5
  (try (go_wp2_with fail)); refine hK.out _ _ trivial ⟨TA6.out.1, TB6.out.1⟩ ?_; clear hK; (try simp only [Act.put, List.setIfInBounds_toArray, List.set_cons_zero, List.set_cons_succ])
  have ca := TA6.out.1
  have fa := TA6.out.2.1
  have TA7 := Lib.hid (TA6.out.store RA6.out)
  have TB7 := Lib.hid (TB6.out.other TA6.out.2.2.1 (show ga ≠ ga + 1 by omega) (.pointer pA))
  have RB7 := Lib.hid (show Rep (w6.setCell ⟨ga, 0, none⟩ (.pointer pA)) (w6.setCell ⟨ga, 0, none⟩ (.pointer pA)).heap.size U pB by simpa using Rep.set1 TA6.out.2.2.1 0 (.pointer pA) RB6.out)
  have HB7 := Lib.hid (HB6.out.setCell (p := ⟨ga, 0, none⟩) HGA.out (.pointer pA))
  refine TF.eff4 (by rfl) (fun K hK => ?_); go_simp
  refine hK.out _ _ trivial ?_
  clear hK
  (try simp only [Act.put, List.setIfInBounds_toArray, List.set_cons_zero, List.set_cons_succ])
  generalize w6.setCell ⟨ga, 0, none⟩ (.pointer pA) = w7 at *
  clear ca fa TA6 TB6 RA6 RB6 HB6
  have cb := TB7.out.1
  have fb := TB7.out.2.1
  have TB8 := Lib.hid (TB7.out.store RB7.out)
  have TA8 := Lib.hid (TA7.out.other TB7.out.2.2.1 (show ga + 1 ≠ ga by omega) (.pointer pB))
  have HB8 := Lib.hid (HB7.out.setCell (p := ⟨ga + 1, 0, none⟩) (Nat.le_trans HGA.out (Nat.le_succ ga)) (.pointer pB))
  refine TF.eff4 (by rfl) (fun K hK => ?_); go_simp
  refine hK.out _ _ trivial ?_
  clear hK
  (try simp only [Act.put, List.setIfInBounds_toArray, List.set_cons_zero, List.set_cons_succ])
  refine TF.done ?_
  generalize w7.setCell ⟨ga + 1, 0, none⟩ (.pointer pB) = w8 at *
  clear cb fb TA7 TB7 RB7 HB7
  have ca := TA8.out.1
  have cb := TB8.out.1
  have HMC := Lib.hid (made_chg M1.out M2.out (by omega))
  go_wp2_with fail
  refine (changes_v T U w8.heap.size pA pB w8 TA8.out.2.2.2.1 TB8.out.2.2.2.1 (Nat.le_refl _) M1.out.1.1 (by have := M1.out.2.1; omega) (by have := M2.out.2.1; omega)).mono ?_
  rintro e w9 ⟨A9, c9, rfl, ho9, hb9⟩
  have TA9 := Lib.hid (TA8.out.below hb9)
  have TB9 := Lib.hid (TB8.out.below hb9)
  have HB9 := Lib.hid (btrans HB8.out hb9 HB8.out.size)
  have HO9 := Lib.hid ho9
  clear hb9 ho9 TA8 TB8 HB8 ca cb
  have hnc : (chg T.flat U.flat).length ≤ 800 := HMC.out.1
  generalize hC : chg T.flat U.flat = C at *
  have HC := Lib.hid hC
  clear hC
  generalize hm : C.length = m at *
  have HM := Lib.hid hm
  clear hm
  go_wp2
  go_loopw [10] (fun i wr => ∃ j : Nat, i = .int .i64 ((j : Int) + 1) ∧ j ≤ m ∧ Below w9.heap.size w9 wr) (fun i _ => m + 1 - (intOf i).toNat)
  case atStart => exact ⟨0, rfl, Nat.zero_le _, Below.refl _ _⟩
  case round =>
    obtain ⟨j, rfl, hjm, hb⟩ := hrel
    have HB := Lib.hid hb
    clear hb
    by_cases hlt : j + 1 < m
    · have HOr := Lib.hid (HO9.out.below HB.out)
      obtain ⟨ad, x, hA, _, hx, d0, _, _⟩ := PReads.at_ HOr.out.reads (show j < m by omega)
      subst hA
      obtain ⟨ad', y, hA, _, hy, e0, _, _⟩ := PReads.at_ HOr.out.reads hlt
      obtain rfl : ad = ad' := by injection hA
      have g1 : Op.bytesLess x.1.toList y.1.toList = true := asc3_at HMC.out.2.2.1 (Nat.lt_succ_self j) hx hy
      have hj0 : (0 : Int) ≤ (j : Int) := by omega
      have hj1 : (j : Int) < (m : Int) := by omega
      have hj2 : (0 : Int) ≤ (j : Int) + 1 := by omega
      have hj3 : (j : Int) + 1 < (m : Int) := by omega
      have hj4 : ((j : Int) + 1).toNat = j + 1 := by omega
      clear hx hy hA
      go_wp2
      go_quiet (fail)
      go_wp2
      go_roundw
      case rel => exact ⟨j + 1, by go_num, by omega, below_drewN HB.out _⟩
      case measure => simp [intOf]; omega
    · have hge : decide ((j : Int) + 1 < (m : Int)) = false := by simp; omega
      have TA := Lib.hid (TA9.out.below HB.out)
      have TB := Lib.hid (TB9.out.below HB.out)
      have HOr := Lib.hid (HO9.out.below HB.out)
      have HBr := Lib.hid (btrans HB9.out HB.out HB9.out.size)
      clear TA9 TB9 HO9 HB9 HB
      have ca := TA.out.1
      go_wp2_with fail
      refine (done_v wr.heap.size T pA A9 m c9 C wr TA.out.2.2.2.1 HOr.out.reads (Nat.le_refl _) (by omega) (by have := M1.out.2.1; omega) HMC.out.2.1).mono ?_
      rw [HMC.out.2.2.2]
      rintro e w10 ⟨pN, rfl, r10, hb10⟩
      have TN11 := Lib.hid (TCell.box w10 r10)
      have TA11 := Lib.hid ((TA.out.below hb10).alloc (.cells #[.pointer pN] 24))
      have TB11 := Lib.hid ((TB.out.below hb10).alloc (.cells #[.pointer pN] 24))
      have hsz10 := Nat.le_trans HBr.out.size hb10.size
      have HB11 := Lib.hid ((btrans HBr.out hb10 HBr.out.size).alloc hsz10 (.cells #[.pointer pN] 24))
      clear hb10 r10 TA TB HOr HBr ca hsz10 hge
      go_wp2_with fail
      generalize w10.alloc (.cells #[.pointer pN] 24) = w11 at *
      generalize w10.heap.size = gn at *
      have HSU := Lib.hid (show (pvs U.pre).length = U.cnt by rw [pvs_len, pre_len])
      have CN : Hid (∀ V q, Rep V V.heap.size U q → Calls Try.prog 17 #[.agg #[.pointer q]] V fun e w' => ∃ A c, e = .returned (.slice A U.cnt c) ∧ POwn w' V.heap.size A U.cnt c (pvs U.pre) ∧ Below V.heap.size V w') := Lib.hid fun V q h => by
        have := nodes_v U V.heap.size q V h (Nat.le_refl _) (by have := M2.out.2.1; omega)
        refine this.mono ?_
        rintro e w' ⟨A, c, h1, h2, h3⟩
        rw [HSU.out] at h1 h2
        exact ⟨A, c, h1, h2, h3⟩
      have CC : Hid (∀ V q q' X, good X → X.cnt ≤ 400 → Rep V V.heap.size X q → Rep V V.heap.size X q' → Calls Try.prog 24 #[.agg #[.pointer q], .agg #[.pointer q']] V fun e w' => ∃ A c, e = .returned (.slice A 0 c) ∧ Below V.heap.size V w') := Lib.hid fun V q q' X hX hc h h' => by
        have := changes_v X X V.heap.size q q' V h h' (Nat.le_refl _) hX.1 (by omega) (by omega)
        rw [chg_self] at this
        refine this.mono ?_
        rintro e w' ⟨A, c, h1, h2, h3⟩
        exact ⟨A, c, h1, h3⟩
      have q1 : ∀ V, Below w11.heap.size w11 V → V.cell? ⟨ga, 0, none⟩ = some (.pointer pA) := fun V h => keepC h TA11.out.1 TA11.out.2.2.2.2
      have q2 : ∀ V, Below w11.heap.size w11 V → V.cell? ⟨ga + 1, 0, none⟩ = some (.pointer pB) := fun V h => keepC h TB11.out.1 TB11.out.2.2.2.2
      have q3 : ∀ V, Below w11.heap.size w11 V → V.cell? ⟨gn, 0, none⟩ = some (.pointer pN) := fun V h => keepC h TN11.out.1 TN11.out.2.2.2.2
      (try dsimp only [List.append])
      refine wp_region_text [(0, false), (2, false), (1, true), (3, true), (4, true), (5, false), (6, false), (7, false), (8, false), (9, true), (10, false), (11, false), (12, false), (13, false), (14, false), (15, false), (16, true), (17, false), (18, false), (19, false)] (fun V => Below w11.heap.size w11 V) (by kernel_rfl) (by kernel_rfl) (by kernel_rfl) (by kernel_rfl) (by kernel_rfl) (fun _ => ?_)
      simp only [outOf, List.getElem?_cons_zero, List.getElem?_cons_succ, Option.getD_some]
      have hS := (Below.refl w11.heap.size w11).drew
      iterate 2 ((first | (refine TW.val2 (v := ?_) ?_ ?_ ?_ ?_ ?_; rotate_left; (focus rfl); (focus (intro W hSW; (try dsimp only at hSW); go_simp; (try with_reducible rfl); done)); (focus exact fun _ _ _ h => h); (focus assumption)) | (refine TW.skip (e := false) ?_ ?_ ?_ ?_; (focus rfl); (focus exact fun _ _ _ h => h); (focus assumption))); simp only [Act.put, List.setIfInBounds_toArray, List.set_cons_zero, List.set_cons_succ])
      refine TW.eff (by rfl) (fun K hK => ?_); go_simp
      refine (CN.out _ _ (TN11.out.below hS).2.2.2.1).mono ?_
      rintro e w12 ⟨A12, c12, rfl, ho12, hb12⟩
      have hS12 := hS.trans hb12
      go_wp2_with fail; refine hK.out _ _ hS12 ?_; clear hK; (try simp only [Act.put, List.setIfInBounds_toArray, List.set_cons_zero, List.set_cons_succ])
      refine TW.eff (by rfl) (fun K hK => ?_); go_simp
      refine (CN.out _ _ (TB11.out.below hS12).2.2.2.1).mono ?_
      rintro e w13 ⟨A13, c13, rfl, ho13, hb13⟩
      have hS13 := btwo hS12 hb13
      have HO12 := Lib.hid (ho12.below hb13)
      have HO13 := Lib.hid ho13
      clear ho12 ho13 hb12 hb13
      go_wp2_with fail; refine hK.out _ _ hS13 ?_; clear hK; (try simp only [Act.put, List.setIfInBounds_toArray, List.set_cons_zero, List.set_cons_succ])
      refine TW.eff (by rfl) (fun K hK => ?_); go_simp
      refine (pairs_v w13.heap.size w13.heap.size A12 A13 U.cnt U.cnt c12 c13 (pvs U.pre) w13 HO12.out.reads HO13.out.reads (Nat.le_refl _) (Nat.le_refl _) (by have := M2.out.2.1; omega)).mono ?_
      rintro e w14 ⟨rfl, hb14⟩
      have hS14 := btwo hS13 hb14
      clear hb14 HO12 HO13 hS12 hS13
      go_wp2_with fail; refine hK.out _ _ hS14 ?_; clear hK; (try simp only [Act.put, List.setIfInBounds_toArray, List.set_cons_zero, List.set_cons_succ])
      iterate 4 ((first | (refine TW.val2 (v := ?_) ?_ ?_ ?_ ?_ ?_; rotate_left; (focus rfl); (focus (intro W hSW; (try dsimp only at hSW); go_simp; (try with_reducible rfl); done)); (focus exact fun _ _ _ h => h); (focus assumption)) | (refine TW.skip (e := false) ?_ ?_ ?_ ?_; (focus rfl); (focus exact fun _ _ _ h => h); (focus assumption))); simp only [Act.put, List.setIfInBounds_toArray, List.set_cons_zero, List.set_cons_succ])
      refine TW.eff (by rfl) (fun K hK => ?_); go_simp
      refine (CC.out _ _ _ T M1.out.1 M1.out.2.1 (TA11.out.below hS14).2.2.2.1 (TA11.out.below hS14).2.2.2.1).mono ?_
      rintro e w15 ⟨A15, c15, rfl, hb15⟩
      have hS15 := btwo hS14 hb15
      clear hb15 hS14
      go_wp2_with fail; refine hK.out _ _ hS15 ?_; clear hK; (try simp only [Act.put, List.setIfInBounds_toArray, List.set_cons_zero, List.set_cons_succ])
      iterate 6 ((first | (refine TW.val2 (v := ?_) ?_ ?_ ?_ ?_ ?_; rotate_left; (focus rfl); (focus (intro W hSW; (try dsimp only at hSW); go_simp; (try with_reducible rfl); done)); (focus exact fun _ _ _ h => h); (focus assumption)) | (refine TW.skip (e := false) ?_ ?_ ?_ ?_; (focus rfl); (focus exact fun _ _ _ h => h); (focus assumption))); simp only [Act.put, List.setIfInBounds_toArray, List.set_cons_zero, List.set_cons_succ])
      refine TW.eff (by rfl) (fun K hK => ?_); go_simp
      refine (CC.out _ _ _ U M2.out.1 M2.out.2.1 (TN11.out.below hS15).2.2.2.1 (TB11.out.below hS15).2.2.2.1).mono ?_
      rintro e w16 ⟨A16, c16, rfl, hb16⟩
      have hS16 := btwo hS15 hb16
      clear hb16 hS15
      go_wp2_with fail; refine hK.out _ _ hS16 ?_; clear hK; (try simp only [Act.put, List.setIfInBounds_toArray, List.set_cons_zero, List.set_cons_succ])
      iterate 3 ((first | (refine TW.val2 (v := ?_) ?_ ?_ ?_ ?_ ?_; rotate_left; (focus rfl); (focus (intro W hSW; (try dsimp only at hSW); go_simp; (try with_reducible rfl); done)); (focus exact fun _ _ _ h => h); (focus assumption)) | (refine TW.skip (e := false) ?_ ?_ ?_ ?_; (focus rfl); (focus exact fun _ _ _ h => h); (focus assumption))); simp only [Act.put, List.setIfInBounds_toArray, List.set_cons_zero, List.set_cons_succ])
      refine TW.done ?_
      have TA16 := Lib.hid (TA11.out.below hS16)
      have HB16 := Lib.hid (btrans HB11.out hS16 HB11.out.size)
      clear q1 q2 q3 hS hS16 TA11 TB11 TN11 HB11 CN CC
      have ca := TA16.out.1
      have HCU := Lib.hid (cutOf M1.out.1 key)
      have hcut := cutT_v key T w16.heap.size pA w16 TA16.out.2.2.2.1 (Nat.le_refl _) (by have := M1.out.2.1; omega)
      have CP : Hid (∀ V q, Rep V V.heap.size T q → Calls Try.prog 26 #[.agg #[.pointer q], .string key] V fun e w' => e = .returned (.int .i64 ((T.cut key).1.cnt : Int)) ∧ Below V.heap.size V w') := Lib.hid fun V q h => place_v key T V.heap.size q V h (Nat.le_refl _) (by have := M1.out.2.1; omega)
      generalize (T.cut key).1 = L at *
      generalize (T.cut key).2 = R at *
      have HCT := Lib.hid hcut
      clear hcut
      go_wp2_with fail
      refine HCT.out.mono ?_
      rintro e w17 ⟨pL, pR, rfl, rL, rR, hb17⟩
      have TL := Lib.hid ((TCell.box w17 rL).alloc (.cells #[.pointer pR] 24))
      have TR := Lib.hid (by have := TCell.box (w17.alloc (.cells #[.pointer pL] 24)) (t := R) (p := pR) (rR.step ((Below.refl _ _).alloc (Nat.le_refl _) _)); rwa [World.size_alloc] at this : TCell ((w17.alloc (.cells #[.pointer pL] 24)).alloc (.cells #[.pointer pR] 24)) (w17.heap.size + 1) R pR)
      have TA18 := Lib.hid (((TA16.out.below hb17).alloc (.cells #[.pointer pL] 24)).alloc (.cells #[.pointer pR] 24))
      have hz17 := Nat.le_trans HB16.out.size hb17.size
      have HB18 := Lib.hid (((btrans HB16.out hb17 HB16.out.size).alloc hz17 (.cells #[.pointer pL] 24)).alloc (Nat.le_trans hz17 (by simp)) (.cells #[.pointer pR] 24))
      clear hb17 rL rR TA16 HB16 ca hz17 HCT
      go_wp2_with fail
      generalize (w17.alloc (.cells #[.pointer pL] 24)).alloc (.cells #[.pointer pR] 24) = w18 at *
      generalize w17.heap.size = gl at *
      have hcl : L.cnt ≤ 400 := by have := HCU.out.cn; have := M1.out.2.1; omega
      have hcr : R.cnt ≤ 400 := by have := HCU.out.cn; have := M1.out.2.1; omega
      have q1 : ∀ V, Below w18.heap.size w18 V → V.cell? ⟨gl, 0, none⟩ = some (.pointer pL) := fun V h => keepC h TL.out.1 TL.out.2.2.2.2
      have q2 : ∀ V, Below w18.heap.size w18 V → V.cell? ⟨gl + 1, 0, none⟩ = some (.pointer pR) := fun V h => keepC h TR.out.1 TR.out.2.2.2.2
      (try dsimp only [List.append])
      refine wp_region_text [(0, false), (1, false), (4, false), (5, false), (2, true), (3, true), (6, true), (7, true), (8, false), (9, false)] (fun V => Below w18.heap.size w18 V) (by kernel_rfl) (by kernel_rfl) (by kernel_rfl) (by kernel_rfl) (by kernel_rfl) (fun _ => ?_)
      simp only [outOf, List.getElem?_cons_zero, List.getElem?_cons_succ, Option.getD_some]
      have hS := (Below.refl w18.heap.size w18).drew
      iterate 4 ((first | (refine TW.val2 (v := ?_) ?_ ?_ ?_ ?_ ?_; rotate_left; (focus rfl); (focus (intro W hSW; (try dsimp only at hSW); go_simp; (try with_reducible rfl); done)); (focus exact fun _ _ _ h => h); (focus assumption)) | (refine TW.skip (e := false) ?_ ?_ ?_ ?_; (focus rfl); (focus exact fun _ _ _ h => h); (focus assumption))); simp only [Act.put, List.setIfInBounds_toArray, List.set_cons_zero, List.set_cons_succ])
      refine TW.eff (by rfl) (fun K hK => ?_); go_simp
      refine (size_v L w18.drew.heap.size pL w18.drew (TL.out.below hS).2.2.2.1 (Nat.le_refl _)).mono ?_
      rintro e w19 ⟨rfl, hb19⟩
      have hS19 := hS.trans hb19
      clear hb19
      go_wp2_with fail; refine hK.out _ _ hS19 ?_; clear hK; (try simp only [Act.put, List.setIfInBounds_toArray, List.set_cons_zero, List.set_cons_succ])
      refine TW.eff (by rfl) (fun K hK => ?_); go_simp
      refine (range_whole HCU.out.gl (by omega) w19 pL (TL.out.below hS19).2.2.2.1).mono ?_
      rintro e w20 ⟨A20, c20, rfl, ho20, hb20⟩
      have hS20 := btwo hS19 hb20
      have HO20 := Lib.hid ho20
      clear hb20 ho20
      go_wp2_with fail; refine hK.out _ _ hS20 ?_; clear hK; (try simp only [Act.put, List.setIfInBounds_toArray, List.set_cons_zero, List.set_cons_succ])
      refine TW.eff (by rfl) (fun K hK => ?_); go_simp
      refine (size_v R w20.heap.size pR w20 (TR.out.below hS20).2.2.2.1 (Nat.le_refl _)).mono ?_
      rintro e w21 ⟨rfl, hb21⟩
      have hS21 := btwo hS20 hb21
      have HO21 := Lib.hid (HO20.out.below hb21)
      clear hb21 HO20
      go_wp2_with fail; refine hK.out _ _ hS21 ?_; clear hK; (try simp only [Act.put, List.setIfInBounds_toArray, List.set_cons_zero, List.set_cons_succ])
      refine TW.eff (by rfl) (fun K hK => ?_); go_simp
      refine (range_whole HCU.out.gr (by omega) w21 pR (TR.out.below hS21).2.2.2.1).mono ?_
      rintro e w22 ⟨A22, c22, rfl, ho22, hb22⟩
      have hS22 := btwo hS21 hb22
      have HO22 := Lib.hid (HO21.out.below hb22)
      have HQ22 := Lib.hid ho22
      clear hb22 ho22 HO21
      go_wp2_with fail; refine hK.out _ _ hS22 ?_; clear hK; (try simp only [Act.put, List.setIfInBounds_toArray, List.set_cons_zero, List.set_cons_succ])
      iterate 2 ((first | (refine TW.val2 (v := ?_) ?_ ?_ ?_ ?_ ?_; rotate_left; (focus rfl); (focus (intro W hSW; (try dsimp only at hSW); go_simp; (try with_reducible rfl); done)); (focus exact fun _ _ _ h => h); (focus assumption)) | (refine TW.skip (e := false) ?_ ?_ ?_ ?_; (focus rfl); (focus exact fun _ _ _ h => h); (focus assumption))); simp only [Act.put, List.setIfInBounds_toArray, List.set_cons_zero, List.set_cons_succ])
      refine TW.done ?_
      have TA22 := Lib.hid (TA18.out.below hS22)
      have TL22 := Lib.hid (TL.out.below hS22)
      have TR22 := Lib.hid (TR.out.below hS22)
      have HB22 := Lib.hid (btrans HB18.out hS22 HB18.out.size)
      clear q1 q2 hS hS19 hS20 hS21 hS22 TA18 TL TR HB18
      generalize hnl : L.cnt = nl at *
      generalize hnr : R.cnt = nr at *
      have HNL := Lib.hid hnl
      have HNR := Lib.hid hnr
      clear hnl hnr
      go_wp2
      go_loopw [16] (fun i wr => ∃ k : Nat, k ≤ nl ∧ i = .int .i64 (k : Int) ∧ w22 = wr) (fun i _ => nl - (intOf i).toNat)
      case atStart => exact ⟨0, Nat.zero_le _, rfl, rfl⟩
      case round =>
        obtain ⟨k, hk, rfl, rfl⟩ := hrel
        by_cases hlt : k < nl
        · obtain ⟨ad, x, hA, _, hx, d0, _, _⟩ := PReads.at_ HO22.out.reads hlt
          subst hA
          obtain ⟨y, hy, rfl⟩ := pvs_at hx
          have g1 : Op.bytesLess y.1.toList key.toList = true := HCU.out.bl y (List.mem_of_getElem? hy)
          have d0' : w22.cell? (ad.add (k * 3)) = some (.string y.1) := d0
          have hk0 : (0 : Int) ≤ (k : Int) := by omega
          have hk1 : (k : Int) < (nl : Int) := by omega
          clear hx hy d0
          go_wp2
          go_roundw
          case rel => exact ⟨k + 1, by omega, by go_num, trivial⟩
          case measure => simp [intOf]; omega
        · obtain rfl : k = nl := by omega
          go_wp2
          go_loopw [17] (fun i wr => ∃ j : Nat, j ≤ nr ∧ i = .int .i64 (j : Int) ∧ w22 = wr) (fun i _ => nr - (intOf i).toNat)
          case atStart => exact ⟨0, Nat.zero_le _, rfl, rfl⟩
          case round =>
            obtain ⟨j2, hj2, rfl, rfl⟩ := hrel
            by_cases hlt : j2 < nr
            · obtain ⟨ad, x, hA, _, hx, d0, _, _⟩ := PReads.at_ HQ22.out.reads hlt
              subst hA
              obtain ⟨y, hy, rfl⟩ := pvs_at hx
              have g1 : Op.bytesLess y.1.toList key.toList = false := HCU.out.br y (List.mem_of_getElem? hy)
              have d0' : w22.cell? (ad.add (j2 * 3)) = some (.string y.1) := d0
              have hk0 : (0 : Int) ≤ (j2 : Int) := by omega
              have hk1 : (j2 : Int) < (nr : Int) := by omega
              clear hx hy d0
              go_wp2
              go_roundw
              case rel => exact ⟨j2 + 1, by omega, by go_num, trivial⟩
              case measure => simp [intOf]; omega
            · obtain rfl : j2 = nr := by omega
              have hTc : (T.cnt : Int) = (k : Int) + (j2 : Int) := by have := HCU.out.cn; have := HNL.out; have := HNR.out; omega
              have HTC := Lib.hid hTc
              have HTN : Hid (T.cnt ≤ 400) := Lib.hid M1.out.2.1
              clear hTc
              have q1 : ∀ V, Below w22.heap.size w22 V → V.cell? ⟨gl, 0, none⟩ = some (.pointer pL) := fun V h => keepC h TL22.out.1 TL22.out.2.2.2.2
              have q2 : ∀ V, Below w22.heap.size w22 V → V.cell? ⟨gl + 1, 0, none⟩ = some (.pointer pR) := fun V h => keepC h TR22.out.1 TR22.out.2.2.2.2
              have q3 : ∀ V, Below w22.heap.size w22 V → V.cell? ⟨ga, 0, none⟩ = some (.pointer pA) := fun V h => keepC h TA22.out.1 TA22.out.2.2.2.2
              go_wp2_with fail
              (try dsimp only [List.append])
              refine wp_region_text [(0, false), (2, false), (3, false), (1, true), (4, true), (5, false), (6, false), (7, false), (9, false), (12, false), (8, true), (10, true), (11, false), (13, true), (14, false), (15, false), (16, false), (18, false), (20, false), (22, false), (23, false), (17, true), (19, true), (21, true), (24, true), (25, true), (26, true), (27, false), (28, false)] (fun V => Below w22.heap.size w22 V) (by kernel_rfl) (by kernel_rfl) (by kernel_rfl) (by kernel_rfl) (by kernel_rfl) (fun _ => ?_)
              simp only [outOf, List.getElem?_cons_zero, List.getElem?_cons_succ, Option.getD_some]
              have hS := (Below.refl w22.heap.size w22).drew
              iterate 3 ((first | (refine TW.val2 (v := ?_) ?_ ?_ ?_ ?_ ?_; rotate_left; (focus rfl); (focus (intro W hSW; (try dsimp only at hSW); go_simp; (try with_reducible rfl); done)); (focus exact fun _ _ _ h => h); (focus assumption)) | (refine TW.skip (e := false) ?_ ?_ ?_ ?_; (focus rfl); (focus exact fun _ _ _ h => h); (focus assumption))); simp only [Act.put, List.setIfInBounds_toArray, List.set_cons_zero, List.set_cons_succ])
              refine TW.eff (by rfl) (fun K hK => ?_); go_simp
              refine (size_v L w22.drew.heap.size pL w22.drew (TL22.out.below hS).2.2.2.1 (Nat.le_refl _)).mono ?_
              rw [HNL.out]
              rintro e w23 ⟨rfl, hb23⟩
              have hS23 := hS.trans hb23
              clear hb23
              go_wp2_with fail; refine hK.out _ _ hS23 ?_; clear hK; (try simp only [Act.put, List.setIfInBounds_toArray, List.set_cons_zero, List.set_cons_succ])
              refine TW.eff (by rfl) (fun K hK => ?_); go_simp
              refine (CP.out w23 pA (TA22.out.below hS23).2.2.2.1).mono ?_
              rintro e w24 ⟨rfl, hb24⟩
              have hS24 := btwo hS23 hb24
              clear hb24
              go_wp2_with fail; refine hK.out _ _ hS24 ?_; clear hK; (try simp only [Act.put, List.setIfInBounds_toArray, List.set_cons_zero, List.set_cons_succ])
              iterate 5 ((first | (refine TW.val2 (v := ?_) ?_ ?_ ?_ ?_ ?_; rotate_left; (focus rfl); (focus (intro W hSW; (try dsimp only at hSW); go_simp; (try with_reducible rfl); done)); (focus exact fun _ _ _ h => h); (focus assumption)) | (refine TW.skip (e := false) ?_ ?_ ?_ ?_; (focus rfl); (focus exact fun _ _ _ h => h); (focus assumption))); simp only [Act.put, List.setIfInBounds_toArray, List.set_cons_zero, List.set_cons_succ])
              refine TW.eff (by rfl) (fun K hK => ?_); go_simp
              refine (size_v L w24.heap.size pL w24 (TL22.out.below hS24).2.2.2.1 (Nat.le_refl _)).mono ?_
              rw [HNL.out]
              rintro e w25 ⟨rfl, hb25⟩
              have hS25 := btwo hS24 hb25
              clear hb25
              go_wp2_with fail; refine hK.out _ _ hS25 ?_; clear hK; (try simp only [Act.put, List.setIfInBounds_toArray, List.set_cons_zero, List.set_cons_succ])
              refine TW.eff (by rfl) (fun K hK => ?_); go_simp
              refine (size_v R w25.heap.size pR w25 (TR22.out.below hS25).2.2.2.1 (Nat.le_refl _)).mono ?_
              rw [HNR.out]
              rintro e w26 ⟨rfl, hb26⟩
              have hS26 := btwo hS25 hb26
              clear hb26
              go_wp2_with fail; refine hK.out _ _ hS26 ?_; clear hK; (try simp only [Act.put, List.setIfInBounds_toArray, List.set_cons_zero, List.set_cons_succ])
              have hwr : IntKind.i64.wrap ((k : Int) + (j2 : Int)) = (k : Int) + (j2 : Int) := IntWalk.i64_in _ (by omega)
              iterate 1 ((first | (refine TW.val2 (v := ?_) ?_ ?_ ?_ ?_ ?_; rotate_left; (focus rfl); (focus (intro W hSW; (try dsimp only at hSW); go_simp; (try with_reducible rfl); done)); (focus exact fun _ _ _ h => h); (focus assumption)) | (refine TW.skip (e := false) ?_ ?_ ?_ ?_; (focus rfl); (focus exact fun _ _ _ h => h); (focus assumption))); simp only [Act.put, List.setIfInBounds_toArray, List.set_cons_zero, List.set_cons_succ])
              clear hwr
              refine TW.eff (by rfl) (fun K hK => ?_); go_simp
              refine (size_v T w26.heap.size pA w26 (TA22.out.below hS26).2.2.2.1 (Nat.le_refl _)).mono ?_
              rw [HTC.out]
              rintro e w27 ⟨rfl, hb27⟩
              have hS27 := btwo hS26 hb27
              clear hb27 hS hS23 hS24 hS25 hS26
              go_wp2_with fail; refine hK.out _ _ hS27 ?_; clear hK; (try simp only [Act.put, List.setIfInBounds_toArray, List.set_cons_zero, List.set_cons_succ])
              iterate 7 ((first | (refine TW.val2 (v := ?_) ?_ ?_ ?_ ?_ ?_; rotate_left; (focus rfl); (focus (intro W hSW; (try dsimp only at hSW); go_simp; (try with_reducible rfl); done)); (focus exact fun _ _ _ h => h); (focus assumption)) | (refine TW.skip (e := false) ?_ ?_ ?_ ?_; (focus rfl); (focus exact fun _ _ _ h => h); (focus assumption))); simp only [Act.put, List.setIfInBounds_toArray, List.set_cons_zero, List.set_cons_succ])
              refine TW.eff (by rfl) (fun K hK => ?_); go_simp
              have hS28 : Below w22.heap.size w22 (w27.alloc (.cells #[] 39)) := hS27.alloc hS27.size _
              have HE := Lib.hid (POwn.empty w27)
              have HO28 := Lib.hid ((HO22.out.below hS27).alloc (.cells #[] 39))
              have HQ28 := Lib.hid ((HQ22.out.below hS27).alloc (.cells #[] 39))
              have hz27 := Lib.hid hS27.size
              refine hK.out _ _ hS28 ?_
              clear hK
              (try simp only [Act.put, List.setIfInBounds_toArray, List.set_cons_zero, List.set_cons_succ])
              refine TW.eff (by rfl) (fun K hK => ?_)
              refine wp_papp (.tmp 140) (.tmp 141) rfl w27.heap.size (some ⟨w27.heap.size, 0, none⟩) 0 0 [] rfl HE.out (w27.alloc (.cells #[] 39)).heap.size A20 k c20 (pvs L.flat) rfl HO28.out.reads (by omega) (by simp) ?_
              intro A29 c29 w29 ho29 hg29
              rw [Nat.zero_add, List.nil_append] at ho29
              rw [Nat.zero_add]
              have hS29 : Below w22.heap.size w22 w29 := below_papp hS28 hg29 HE.out hz27.out (Nat.le_trans hz27.out (by simp))
              have HO29 := Lib.hid ho29
              have hz29 := Lib.hid (show w27.heap.size ≤ w29.heap.size from Nat.le_trans (by simp) hg29.size)
              clear ho29 hg29 HO28 HQ28
              refine hK.out _ _ hS29 ?_
              clear hK
              (try simp only [Act.put, List.setIfInBounds_toArray, List.set_cons_zero, List.set_cons_succ])
              refine TW.eff (by rfl) (fun K hK => ?_)
              refine wp_papp (.tmp 142) (.tmp 143) rfl w27.heap.size A29 k c29 (pvs L.flat) rfl HO29.out w22.heap.size A22 j2 c22 (pvs R.flat) rfl (Reads.below HQ22.out.reads hS29) (by omega) hz29.out ?_
              intro A30 c30 w30 ho30 hg30
              have hS30 : Below w22.heap.size w22 w30 := below_papp hS29 hg30 HO29.out hz27.out hS29.size
              rw [show pvs L.flat ++ pvs R.flat = pvs T.flat by rw [← HCU.out.fl]; simp [pvs]] at ho30
              have HO30 := Lib.hid ho30
              clear ho30 hg30 HO29
              refine hK.out _ _ hS30 ?_
              clear hK
              (try simp only [Act.put, List.setIfInBounds_toArray, List.set_cons_zero, List.set_cons_succ])
              refine TW.eff (by rfl) (fun K hK => ?_); go_simp
              refine (size_v T w30.heap.size pA w30 (TA22.out.below hS30).2.2.2.1 (Nat.le_refl _)).mono ?_
              rintro e w31 ⟨rfl, hb31⟩
              have hS31 := btwo hS30 hb31
              have HO31 := Lib.hid (HO30.out.below hb31)
              clear hb31 HO30 hS27 hS28 hS29 hS30
              go_wp2_with fail; refine hK.out _ _ hS31 ?_; clear hK; (try simp only [Act.put, List.setIfInBounds_toArray, List.set_cons_zero, List.set_cons_succ])
              refine TW.eff (by rfl) (fun K hK => ?_); go_simp
              refine (range_whole M1.out.1 (by have := HTN.out; omega) w31 pA (TA22.out.below hS31).2.2.2.1).mono ?_
              rintro e w32 ⟨A32, c32, rfl, ho32, hb32⟩
              have hS32 := btwo hS31 hb32
              have HO32 := Lib.hid (HO31.out.below hb32)
              have HP32 := Lib.hid ho32
              clear hb32 ho32 HO31 hS31
              go_wp2_with fail; refine hK.out _ _ hS32 ?_; clear hK; (try simp only [Act.put, List.setIfInBounds_toArray, List.set_cons_zero, List.set_cons_succ])
              refine TW.eff (by rfl) (fun K hK => ?_); go_simp
              refine (pairs_v w32.heap.size w32.heap.size A30 A32 (k + j2) T.cnt c30 c32 (pvs T.flat) w32 HO32.out.reads HP32.out.reads (Nat.le_refl _) (Nat.le_refl _) (by omega)).mono ?_
              rintro e w33 ⟨rfl, hb33⟩
              have hS33 := btwo hS32 hb33
              clear hb33 HO32 HP32 hS32
              go_wp2_with fail; refine hK.out _ _ hS33 ?_; clear hK; (try simp only [Act.put, List.setIfInBounds_toArray, List.set_cons_zero, List.set_cons_succ])
              iterate 2 ((first | (refine TW.val2 (v := ?_) ?_ ?_ ?_ ?_ ?_; rotate_left; (focus rfl); (focus (intro W hSW; (try dsimp only at hSW); go_simp; (try with_reducible rfl); done)); (focus exact fun _ _ _ h => h); (focus assumption)) | (refine TW.skip (e := false) ?_ ?_ ?_ ?_; (focus rfl); (focus exact fun _ _ _ h => h); (focus assumption))); simp only [Act.put, List.setIfInBounds_toArray, List.set_cons_zero, List.set_cons_succ])
              refine TW.done ?_
              clear q1 q2 q3
              go_wp2
              go_ret
              exact ⟨rfl, btrans HB22.out hS33 HB22.out.size⟩
end Go.Proofs.Ytohcdnbchidjeaa
