/-
  Vectors, the reference: Order.
-/
import Derived.Test.YtippojkdgecblaaDoorRvE
import Derived.Test.YtippojkdgecblaaDoorTextE
namespace Go.Proofs.YtippojkdgecblaaDoor
open Go.RowKit
/-- All values of k devices from d on. -/
def sumK (f : Int → Nat) : Nat → Int → Nat
  | 0, _ => 0
  | k + 1, d => f d + sumK f k (d + 1)
theorem sumK_ofN : ∀ (k : Nat) (d : Int) (f : Int → Nat), sumV (ofN f k d) = sumK f k d
  | 0, _, _ => rfl
  | k + 1, d, f => by
    have ih := sumK_ofN k (d + 1) f
    rw [ofN, sumK, ← ih]
    by_cases hp : 0 < f d
    · rw [if_pos hp]; simp [sumV]
    · rw [if_neg hp, List.nil_append]; omega
theorem sumV_K {a : List (Int × Nat)} (ha : okV 0 a = true) : sumV a = sumK (val a) 16 1 := by
  have := sumK_ofN 16 1 (val a)
  rw [← this]
  exact congrArg sumV (canon_V ha)
theorem sumK_snoc : ∀ (k : Nat) (d : Int) (f : Int → Nat), sumK f (k + 1) d = sumK f k d + f (d + k)
  | 0, d, f => by simp [sumK]
  | k + 1, d, f => by
    have ih := sumK_snoc k (d + 1) f
    rw [sumK, ih, sumK, show d + 1 + (k : Int) = d + ((k + 1 : Nat) : Int) by omega]
    omega
theorem cmp_words {a0 a1 b0 b1 s t : Nat} (h0 : b0 < 18446744073709551616) (h1 : b1 < 18446744073709551616) (e0 : a0 * 18446744073709551616 + b0 = s) (e1 : a1 * 18446744073709551616 + b1 = t) :
    (a0 < a1 → s < t) ∧ (a1 < a0 → t < s) ∧ (a0 = a1 → b0 < b1 → s < t) ∧ (a0 = a1 → b1 < b0 → t < s) ∧ (a0 = a1 → b0 = b1 → s = t) := by omega
theorem carry_step {a q b p x s M : Nat} (h : a * M + b = s) (e : q * M + p = b + x) : (a + q) * M + p = s + x := by rw [Nat.add_mul]; omega
set_option maxRecDepth 100000 in
set_option maxHeartbeats 4000000 in
theorem rorder_v (B : Nat) (A1 A2 : Option Addr) (n1 c1 n2 c2 : Nat) (l1 l2 : List (Int × Nat)) (w : World) (hr1 : CReads w B A1 n1 l1) (hr2 : CReads w B A2 n2 l2) (hB : B ≤ w.heap.size) (hn1 : n1 ≤ 9223372036854775807) (hn2 : n2 ≤ 9223372036854775807)
    (hf1 : fitV l1) (hf2 : fitV l2) :
    Calls Tryd.prog 25 #[.slice A1 n1 c1, .slice A2 n2 c2] w fun e w' => e = .returned (.int .i64 (ordV l1 l2)) ∧ Below w.heap.size w w' := by
  have HR1 := Lib.hid hr1
  have HR2 := Lib.hid hr2
  have HF1 := Lib.hid hf1
  have HF2 := Lib.hid hf2
  clear hr1 hr2 hf1 hf2
  cases ho1 : okV 0 l1
  · have HO := Lib.hid ho1
    have HC := Lib.hid (show ordV l1 l2 = 0 by rw [ordV, ho1]; rfl)
    clear ho1
    go_enter Tryd.func25, Tryd.ntmps25
    go_wp2_with fail
    refine (rcheck_v B A1 n1 c1 l1 w HR1.out hB hn1).mono ?_
    rw [HO.out]
    rintro e w1 ⟨rfl, hb⟩
    go_wp2_with fail
    go_ret
    exact ⟨by rw [HC.out]; rfl, hb⟩
  · have HO1 := Lib.hid ho1
    clear ho1
    cases ho2 : okV 0 l2
    · have HO := Lib.hid ho2
      have HC := Lib.hid (show ordV l1 l2 = 0 by rw [ordV, ho2, HO1.out]; rfl)
      clear ho2
      go_enter Tryd.func25, Tryd.ntmps25
      go_wp2_with fail
      refine (rcheck_v B A1 n1 c1 l1 w HR1.out hB hn1).mono ?_
      rw [HO1.out]
      rintro e w1 ⟨rfl, hb⟩
      go_wp2_with fail
      refine (rcheck_v B A2 n2 c2 l2 w1 (Reads.below (show Reads w B 2 A2 n2 _ from HR2.out) (hb.mono hB)) (Nat.le_trans hB hb.size) hn2).mono ?_
      rw [HO.out]
      rintro e w2 ⟨rfl, hb2⟩
      go_wp2_with fail
      go_ret
      exact ⟨by rw [HC.out]; rfl, btwo hb hb2⟩
    · have HO2 := Lib.hid ho2
      have HC := Lib.hid (show ordV l1 l2 = ordF (sumV l1) (sumV l2) (val l1) (val l2) by rw [ordV, ho2, HO1.out]; rfl)
      clear ho2
      go_enter Tryd.func25, Tryd.ntmps25
      go_wp2_with fail
      refine (rcheck_v B A1 n1 c1 l1 w HR1.out hB hn1).mono ?_
      rw [HO1.out]
      rintro e w1 ⟨rfl, hb1⟩
      have B1 := Lib.hid hb1
      clear hb1
      go_wp2_with fail
      refine (rcheck_v B A2 n2 c2 l2 w1 (Reads.below (show Reads w B 2 A2 n2 _ from HR2.out) (B1.out.mono hB)) (Nat.le_trans hB B1.out.size) hn2).mono ?_
      rw [HO2.out]
      rintro e w2 ⟨rfl, hb2⟩
      have B2 := Lib.hid (btwo B1.out hb2)
      clear hb2 B1
      go_wp2_with fail
      refine (values_v B A1 n1 c1 l1 w2 (Reads.below (show Reads w B 2 A1 n1 _ from HR1.out) (B2.out.mono hB)) (Nat.le_trans hB B2.out.size) hn1 HO1.out HF1.out).mono ?_
      rintro e w3 ⟨rfl, hb3⟩
      have B3 := Lib.hid (btwo B2.out hb3)
      clear hb3 B2
      go_wp2_with fail
      refine (values_v B A2 n2 c2 l2 w3 (Reads.below (show Reads w B 2 A2 n2 _ from HR2.out) (B3.out.mono hB)) (Nat.le_trans hB B3.out.size) hn2 HO2.out HF2.out).mono ?_
      rintro e w4 ⟨rfl, hb4⟩
      have B4 := Lib.hid (btwo B3.out hb4)
      clear hb4 B3
      have HI1 := Lib.hid (show (Tryd.prog.info? 52).map (·.size) = some (valsL l1).length by rw [valsL_len]; kernel_rfl)
      have HI2 := Lib.hid (show (Tryd.prog.info? 52).map (·.size) = some (valsL l2).length by rw [valsL_len]; kernel_rfl)
      go_wp2_with (first
        | (refine wpList_storeN (t := 52) rfl (.tmp 5) (.tmp 21) rfl w4.heap.size (valsL l1) rfl rfl (List.replicate 17 (Value.int .u64 0)).toArray ((Below.heap_alloc _ _ _ (by simp)).trans (heap_alloc_new w4 _)) (by rw [valsL_len]; rfl) HI1.out ?_
           intro w5 n5 b5 z5 o5
           have B5 := Lib.hid (((B4.out.alloc B4.out.size (.cells (List.replicate 17 (Value.int .u64 0)).toArray 52)).alloc (by have := B4.out.size; simp; omega) (.cells (List.replicate 17 (Value.int .u64 0)).toArray 52)).trans (b5.mono B4.out.size))
           have N5 := Lib.hid n5
           have hz5 : w5.heap.size = w4.heap.size + 2 := by rw [z5]; simp
           have E5 := Lib.hid (show w5.heap[w4.heap.size + 1]? = some (.cells (List.replicate 17 (Value.int .u64 0)).toArray 52 (0, 0)) by
             rw [o5 _ (by omega)]
             have := heap_alloc_new (w4.alloc (.cells (List.replicate 17 (Value.int .u64 0)).toArray 52)) (.cells (List.replicate 17 (Value.int .u64 0)).toArray 52)
             simpa using this)
           clear n5 b5 z5 o5
           obtain ⟨g, hg⟩ : ∃ g, w4.heap.size = g := ⟨_, rfl⟩
           have hgw : w.heap.size ≤ g := by rw [← hg]; exact B4.out.size
           rw [hg] at N5 hz5 E5 ⊢
           clear hg B4)
        | (refine wpList_storeN (t := 52) rfl (.tmp 6) (.tmp 23) rfl (g + 1) (valsL l2) rfl rfl (List.replicate 17 (Value.int .u64 0)).toArray E5.out (by rw [valsL_len]; rfl) HI2.out ?_
           intro w6 n6 b6 z6 o6
           have B6 := Lib.hid (B5.out.trans (b6.mono (by omega)))
           have M6 := Lib.hid n6
           have N6 := Lib.hid (N5.out.keep (o6 g (by omega)))
           have hz6 : w6.heap.size = g + 2 := by rw [z6, hz5]
           clear n6 b6 z6 o6 hz5 N5 B5 E5)
        | fail)
      obtain ⟨xs, hxs⟩ : ∃ xs, valsL l1 = xs := ⟨_, rfl⟩
      obtain ⟨ys, hys⟩ : ∃ ys, valsL l2 = ys := ⟨_, rfl⟩
      have HX := Lib.hid (show ∀ j : Nat, j < 17 → xs[j]? = some (val l1 (j : Int)) by rw [← hxs]; exact fun j h => valsL_at l1 h)
      have HY := Lib.hid (show ∀ j : Nat, j < 17 → ys[j]? = some (val l2 (j : Int)) by rw [← hys]; exact fun j h => valsL_at l2 h)
      rw [hxs] at N6 ⊢
      rw [hys] at M6 ⊢
      clear hxs hys HI1 HI2
      have BV := Lib.hid ((B6.out.alloc (by omega) (.cells #[.int .u64 0, .int .u64 0] 64)).alloc (by simp; omega) (.cells #[.int .u64 0, .int .u64 0] 64))
      have P7 := Lib.hid (show NArr 64 ((w6.alloc (.cells #[.int .u64 0, .int .u64 0] 64)).alloc (.cells #[.int .u64 0, .int .u64 0] 64)) (g + 2) [0, 0] by
        have := NArr.new (t := 64) w6 #[.int .u64 0, .int .u64 0] [0, 0] rfl
        rw [hz6] at this
        exact this.alloc _)
      have Q7 := Lib.hid (show NArr 64 ((w6.alloc (.cells #[.int .u64 0, .int .u64 0] 64)).alloc (.cells #[.int .u64 0, .int .u64 0] 64)) (g + 2 + 1) [0, 0] by
        have := NArr.new (t := 64) (w6.alloc (.cells #[.int .u64 0, .int .u64 0] 64)) #[.int .u64 0, .int .u64 0] [0, 0] rfl
        have e : (w6.alloc (.cells #[.int .u64 0, .int .u64 0] 64)).heap.size = g + 2 + 1 := by simp [hz6]
        rw [e] at this
        exact this)
      have N7 := Lib.hid ((N6.out.alloc (.cells #[.int .u64 0, .int .u64 0] 64)).alloc (.cells #[.int .u64 0, .int .u64 0] 64))
      have M7 := Lib.hid ((M6.out.alloc (.cells #[.int .u64 0, .int .u64 0] 64)).alloc (.cells #[.int .u64 0, .int .u64 0] 64))
      clear N6 M6 B6 hz6
      obtain ⟨gl, hgl⟩ : ∃ x, g + 2 + 1 = x := ⟨_, rfl⟩
      obtain ⟨gh, hgh⟩ : ∃ x, g + 2 = x := ⟨_, rfl⟩
      obtain ⟨gy, hgy⟩ : ∃ x, g + 1 = x := ⟨_, rfl⟩
      have hne1 : gl ≠ gh := by omega
      have hne2 : g ≠ gh ∧ g ≠ gl ∧ gy ≠ gh ∧ gy ≠ gl := by omega
      have hle : w.heap.size ≤ gh ∧ w.heap.size ≤ gl := by omega
      rw [hgl] at Q7 ⊢
      rw [hgh] at P7 ⊢
      rw [hgy] at M7 ⊢
      clear hgl hgh hgy hgw
      generalize ((w6.alloc (.cells #[.int .u64 0, .int .u64 0] 64)).alloc (.cells #[.int .u64 0, .int .u64 0] 64)) = w7 at *
      go_loopw [9] (fun i wr => ∃ (k a0 a1 b0 b1 : Nat), k ≤ 16 ∧ i = .int .i64 ((k + 1 : Nat) : Int) ∧ NArr 64 wr gh [a0, a1] ∧ NArr 64 wr gl [b0, b1] ∧ NArr 52 wr g xs ∧ NArr 52 wr gy ys ∧
        a0 ≤ k ∧ a1 ≤ k ∧ b0 < 18446744073709551616 ∧ b1 < 18446744073709551616 ∧ a0 * 18446744073709551616 + b0 = sumK (val l1) k 1 ∧ a1 * 18446744073709551616 + b1 = sumK (val l2) k 1 ∧ Below w.heap.size w wr) (fun i _ => 17 - (intOf i).toNat)
      case atStart => exact ⟨0, 0, 0, 0, 0, Nat.zero_le _, rfl, P7.out, Q7.out, N7.out, M7.out, Nat.le_refl _, Nat.le_refl _, by omega, by omega, rfl, rfl, BV.out⟩
      case round =>
        obtain ⟨k, a0, a1, b0, b1, hk, rfl, hp, hq, hx, hy, ha0, ha1, hb0, hb1, hs0, hs1, hbw⟩ := hrel
        have PW := Lib.hid hp
        have QW := Lib.hid hq
        have XW := Lib.hid hx
        have YW := Lib.hid hy
        have BW := Lib.hid hbw
        have S0 := Lib.hid hs0
        have S1 := Lib.hid hs1
        clear hp hq hx hy hbw hs0 hs1 P7 Q7 N7 M7 BV
        by_cases hlt : k < 16
        · have HXV := Lib.hid (HX.out (k + 1) (by omega))
          have r0 := Lib.hid (show sumK (val l1) (k + 1) 1 = sumK (val l1) k 1 + val l1 ((k + 1 : Nat) : Int) by rw [sumK_snoc]; congr 2; omega)
          have r1 := Lib.hid (show sumK (val l2) (k + 1) 1 = sumK (val l2) k 1 + val l2 ((k + 1 : Nat) : Int) by rw [sumK_snoc]; congr 2; omega)
          have YV := Lib.hid (HY.out (k + 1) (by omega))
          obtain ⟨m, hm⟩ : ∃ m, k + 1 = m := ⟨_, rfl⟩
          have HM := Lib.hid hm
          have hm16 : m < 17 := by omega
          have hm0 : (0 : Int) ≤ (m : Int) := by omega
          have hm17 : (m : Int) < 17 := by omega
          have d0 : decide (m < 17) = true := by simpa using hm16
          have d0' : decide ((m : Int) < 17) = true := by simp; omega
          rw [hm] at HXV YV r0 r1 ⊢
          have v1 := fit_val l1 (m : Int) HF1.out
          have v2 := fit_val l2 (m : Int) HF2.out
          clear hm
          generalize val l1 (m : Int) = x at *
          generalize val l2 (m : Int) = y at *
          obtain ⟨q0, hq⟩ : ∃ q, (b0 + x) / 18446744073709551616 = q := ⟨_, rfl⟩
          obtain ⟨p0, hp⟩ : ∃ p, (b0 + x) % 18446744073709551616 = p := ⟨_, rfl⟩
          have hadd := run_add b0 x wr.drew
          rw [hq, hp] at hadd
          have hq0 : q0 ≤ 1 := by omega
          have hp0 : p0 < 18446744073709551616 := by omega
          have E0 := Lib.hid (show q0 * 18446744073709551616 + p0 = b0 + x by omega)
          have aq0 : a0 + q0 ≤ 17 := by omega
          have cx := NArr.cell XW.out (HXV.out)
          have cl := NArr.cell QW.out (show [b0, b1][0]? = some b0 from rfl)
          have fl := NArr.frozen QW.out 0
          clear hq hp
          go_upto_region 9 with fail
          refine wp_region_E 10 [(0, 1), (1, 2), (2, 1), (3, 1), (4, 1), (5, 0), (6, 1), (7, 1), (8, 1), (9, 1), (10, 4), (11, 3)] (fun V => V.cell? ⟨g, m, none⟩ = some (.int .u64 (x : Int))) (fun V => V.cell? ⟨gl, 0, none⟩ = some (.int .u64 (b0 : Int))) (by kernel_rfl) (by kernel_rfl) (by kernel_rfl) (by kernel_rfl) (by kernel_rfl) (fun _ => ?_)
          simp only [outE, List.getElem?_cons_zero, List.getElem?_cons_succ, Option.getD_some]
          have hF : wr.drew.cell? ⟨g, m, none⟩ = some (.int .u64 (x : Int)) := cx
          have hG : wr.drew.cell? ⟨gl, 0, none⟩ = some (.int .u64 (b0 : Int)) := cl
          have hfl : wr.drew.frozen? ⟨gl, 0, none⟩ = false := fl
          iterate 1 (refine TE.val1 (v := ?_) ?_ ?_ ?_ ?_ ?_ ?_; rotate_left; (focus rfl); (focus (intro W hSW; (try dsimp only at hSW); (try (obtain ⟨hS1, hSW⟩ := hSW)); (try (obtain ⟨hS2, hSW⟩ := hSW)); (try (obtain ⟨hS3, hSW⟩ := hSW)); (try (obtain ⟨hS4, hSW⟩ := hSW)); (try (obtain ⟨hS5, hSW⟩ := hSW)); (try (obtain ⟨hS6, hSW⟩ := hSW)); (try (obtain ⟨hS7, hSW⟩ := hSW)); (try (obtain ⟨hS8, hSW⟩ := hSW)); go_simp; (try with_reducible rfl); done)); (focus exact fun _ _ _ h => h); (focus exact hF); (focus exact hG); simp only [Act.put, List.setIfInBounds_toArray, List.set_cons_zero, List.set_cons_succ])
          iterate 1 (refine TE.val2 (v := ?_) ?_ ?_ ?_ ?_ ?_ ?_; rotate_left; (focus rfl); (focus (intro W hSW; (try dsimp only at hSW); (try (obtain ⟨hS1, hSW⟩ := hSW)); (try (obtain ⟨hS2, hSW⟩ := hSW)); (try (obtain ⟨hS3, hSW⟩ := hSW)); (try (obtain ⟨hS4, hSW⟩ := hSW)); (try (obtain ⟨hS5, hSW⟩ := hSW)); (try (obtain ⟨hS6, hSW⟩ := hSW)); (try (obtain ⟨hS7, hSW⟩ := hSW)); (try (obtain ⟨hS8, hSW⟩ := hSW)); go_simp; (try with_reducible rfl); done)); (focus exact fun _ _ _ h => h); (focus exact hF); (focus exact hG); simp only [Act.put, List.setIfInBounds_toArray, List.set_cons_zero, List.set_cons_succ])
          iterate 3 (refine TE.val1 (v := ?_) ?_ ?_ ?_ ?_ ?_ ?_; rotate_left; (focus rfl); (focus (intro W hSW; (try dsimp only at hSW); (try (obtain ⟨hS1, hSW⟩ := hSW)); (try (obtain ⟨hS2, hSW⟩ := hSW)); (try (obtain ⟨hS3, hSW⟩ := hSW)); (try (obtain ⟨hS4, hSW⟩ := hSW)); (try (obtain ⟨hS5, hSW⟩ := hSW)); (try (obtain ⟨hS6, hSW⟩ := hSW)); (try (obtain ⟨hS7, hSW⟩ := hSW)); (try (obtain ⟨hS8, hSW⟩ := hSW)); go_simp; (try with_reducible rfl); done)); (focus exact fun _ _ _ h => h); (focus exact hF); (focus exact hG); simp only [Act.put, List.setIfInBounds_toArray, List.set_cons_zero, List.set_cons_succ])
          refine TE.eff0 (by rfl) (fun K hK => ?_); go_simp
          (try (go_wp2_with fail)); refine hK.out _ _ hF hG ?_; clear hK; (try simp only [Act.put, List.setIfInBounds_toArray, List.set_cons_zero, List.set_cons_succ])
          iterate 4 (refine TE.val1 (v := ?_) ?_ ?_ ?_ ?_ ?_ ?_; rotate_left; (focus rfl); (focus (intro W hSW; (try dsimp only at hSW); (try (obtain ⟨hS1, hSW⟩ := hSW)); (try (obtain ⟨hS2, hSW⟩ := hSW)); (try (obtain ⟨hS3, hSW⟩ := hSW)); (try (obtain ⟨hS4, hSW⟩ := hSW)); (try (obtain ⟨hS5, hSW⟩ := hSW)); (try (obtain ⟨hS6, hSW⟩ := hSW)); (try (obtain ⟨hS7, hSW⟩ := hSW)); (try (obtain ⟨hS8, hSW⟩ := hSW)); go_simp; (try with_reducible rfl); done)); (focus exact fun _ _ _ h => h); (focus exact hF); (focus exact hG); simp only [Act.put, List.setIfInBounds_toArray, List.set_cons_zero, List.set_cons_succ])
          refine TE.eff4 (by rfl) (fun K hK => ?_); go_simp
          have QN0 := Lib.hid (QW.out.set_ 0 (p0 : Int) p0 rfl).drew
          have PN0 := Lib.hid (PW.out.setOther (p := ⟨gl, 0, none⟩) (by simpa using Ne.symm hne1) (.int .u64 (p0 : Int))).drew
          have XN0 := Lib.hid (XW.out.setOther (p := ⟨gl, 0, none⟩) (by simpa using hne2.2.1) (.int .u64 (p0 : Int))).drew
          have YN0 := Lib.hid (YW.out.setOther (p := ⟨gl, 0, none⟩) (by simpa using hne2.2.2.2) (.int .u64 (p0 : Int))).drew
          have BN0 := Lib.hid (BW.out.setCell (p := ⟨gl, 0, none⟩) hle.2 (.int .u64 (p0 : Int))).drew
          refine hK.out _ _ (NArr.cell XN0.out (HXV.out)) ?_
          have hF := NArr.cell XN0.out (HXV.out)
          clear hK cx cl fl hG hfl hadd PW QW XW YW BW
          (try simp only [Act.put, List.setIfInBounds_toArray, List.set_cons_zero, List.set_cons_succ])
          iterate 1 (refine TE.val3 (v := ?_) ?_ ?_ ?_ ?_ ?_; rotate_left; (focus rfl); (focus (intro W hSW; (try dsimp only at hSW); (try (obtain ⟨hS1, hSW⟩ := hSW)); (try (obtain ⟨hS2, hSW⟩ := hSW)); (try (obtain ⟨hS3, hSW⟩ := hSW)); (try (obtain ⟨hS4, hSW⟩ := hSW)); (try (obtain ⟨hS5, hSW⟩ := hSW)); (try (obtain ⟨hS6, hSW⟩ := hSW)); (try (obtain ⟨hS7, hSW⟩ := hSW)); (try (obtain ⟨hS8, hSW⟩ := hSW)); go_simp; (try with_reducible rfl); done)); (focus exact fun _ _ _ h => h); (focus exact hF); simp only [Act.put, List.setIfInBounds_toArray, List.set_cons_zero, List.set_cons_succ])
          refine TE.done ?_
          clear hF
          generalize (wr.setCell ⟨gl, 0, none⟩ (.int .u64 (p0 : Int))).drew = wn0 at *
          have ch := NArr.cell PN0.out (show [a0, a1][0]? = some a0 from rfl)
          have fh := NArr.frozen PN0.out 0
          have PM0 := Lib.hid (PN0.out.set_ 0 ((a0 : Int) + (q0 : Int)) (a0 + q0) (by simp))
          have QM0 := Lib.hid (QN0.out.setOther (p := ⟨gh, 0, none⟩) (by simpa using hne1) (.int .u64 ((a0 : Int) + (q0 : Int))))
          have XM0 := Lib.hid (XN0.out.setOther (p := ⟨gh, 0, none⟩) (by simpa using hne2.1) (.int .u64 ((a0 : Int) + (q0 : Int))))
          have YM0 := Lib.hid (YN0.out.setOther (p := ⟨gh, 0, none⟩) (by simpa using hne2.2.2.1) (.int .u64 ((a0 : Int) + (q0 : Int))))
          have BM0 := Lib.hid (BN0.out.setCell (p := ⟨gh, 0, none⟩) hle.1 (.int .u64 ((a0 : Int) + (q0 : Int))))
          go_upto_region 11 with fail
          clear ch fh PN0 QN0 XN0 YN0 BN0
          generalize wn0.setCell ⟨gh, 0, none⟩ (.int .u64 ((a0 : Int) + (q0 : Int))) = wm0 at *
          obtain ⟨q1, hq⟩ : ∃ q, (b1 + y) / 18446744073709551616 = q := ⟨_, rfl⟩
          obtain ⟨p1, hp⟩ : ∃ p, (b1 + y) % 18446744073709551616 = p := ⟨_, rfl⟩
          have hadd := run_add b1 y wm0.drew
          rw [hq, hp] at hadd
          have hq1 : q1 ≤ 1 := by omega
          have hp1 : p1 < 18446744073709551616 := by omega
          have E1 := Lib.hid (show q1 * 18446744073709551616 + p1 = b1 + y by omega)
          have aq1 : a1 + q1 ≤ 17 := by omega
          have cy := NArr.cell YM0.out (YV.out)
          have cl := NArr.cell QM0.out (show [p0, b1][1]? = some b1 from rfl)
          have fl := NArr.frozen QM0.out 1
          clear hq hp
          go_upto_region 11 with fail
          refine wp_region_E 10 [(0, 1), (1, 2), (2, 1), (3, 1), (4, 1), (5, 0), (6, 1), (7, 1), (8, 1), (9, 1), (10, 4), (11, 3)] (fun V => V.cell? ⟨gy, m, none⟩ = some (.int .u64 (y : Int))) (fun V => V.cell? ⟨gl, 1, none⟩ = some (.int .u64 (b1 : Int))) (by kernel_rfl) (by kernel_rfl) (by kernel_rfl) (by kernel_rfl) (by kernel_rfl) (fun _ => ?_)
          simp only [outE, List.getElem?_cons_zero, List.getElem?_cons_succ, Option.getD_some]
          have hF : wm0.drew.cell? ⟨gy, m, none⟩ = some (.int .u64 (y : Int)) := cy
          have hG : wm0.drew.cell? ⟨gl, 1, none⟩ = some (.int .u64 (b1 : Int)) := cl
          have hfl : wm0.drew.frozen? ⟨gl, 1, none⟩ = false := fl
          iterate 1 (refine TE.val1 (v := ?_) ?_ ?_ ?_ ?_ ?_ ?_; rotate_left; (focus rfl); (focus (intro W hSW; (try dsimp only at hSW); (try (obtain ⟨hS1, hSW⟩ := hSW)); (try (obtain ⟨hS2, hSW⟩ := hSW)); (try (obtain ⟨hS3, hSW⟩ := hSW)); (try (obtain ⟨hS4, hSW⟩ := hSW)); (try (obtain ⟨hS5, hSW⟩ := hSW)); (try (obtain ⟨hS6, hSW⟩ := hSW)); (try (obtain ⟨hS7, hSW⟩ := hSW)); (try (obtain ⟨hS8, hSW⟩ := hSW)); go_simp; (try with_reducible rfl); done)); (focus exact fun _ _ _ h => h); (focus exact hF); (focus exact hG); simp only [Act.put, List.setIfInBounds_toArray, List.set_cons_zero, List.set_cons_succ])
          iterate 1 (refine TE.val2 (v := ?_) ?_ ?_ ?_ ?_ ?_ ?_; rotate_left; (focus rfl); (focus (intro W hSW; (try dsimp only at hSW); (try (obtain ⟨hS1, hSW⟩ := hSW)); (try (obtain ⟨hS2, hSW⟩ := hSW)); (try (obtain ⟨hS3, hSW⟩ := hSW)); (try (obtain ⟨hS4, hSW⟩ := hSW)); (try (obtain ⟨hS5, hSW⟩ := hSW)); (try (obtain ⟨hS6, hSW⟩ := hSW)); (try (obtain ⟨hS7, hSW⟩ := hSW)); (try (obtain ⟨hS8, hSW⟩ := hSW)); go_simp; (try with_reducible rfl); done)); (focus exact fun _ _ _ h => h); (focus exact hF); (focus exact hG); simp only [Act.put, List.setIfInBounds_toArray, List.set_cons_zero, List.set_cons_succ])
          iterate 3 (refine TE.val1 (v := ?_) ?_ ?_ ?_ ?_ ?_ ?_; rotate_left; (focus rfl); (focus (intro W hSW; (try dsimp only at hSW); (try (obtain ⟨hS1, hSW⟩ := hSW)); (try (obtain ⟨hS2, hSW⟩ := hSW)); (try (obtain ⟨hS3, hSW⟩ := hSW)); (try (obtain ⟨hS4, hSW⟩ := hSW)); (try (obtain ⟨hS5, hSW⟩ := hSW)); (try (obtain ⟨hS6, hSW⟩ := hSW)); (try (obtain ⟨hS7, hSW⟩ := hSW)); (try (obtain ⟨hS8, hSW⟩ := hSW)); go_simp; (try with_reducible rfl); done)); (focus exact fun _ _ _ h => h); (focus exact hF); (focus exact hG); simp only [Act.put, List.setIfInBounds_toArray, List.set_cons_zero, List.set_cons_succ])
          refine TE.eff0 (by rfl) (fun K hK => ?_); go_simp
          (try (go_wp2_with fail)); refine hK.out _ _ hF hG ?_; clear hK; (try simp only [Act.put, List.setIfInBounds_toArray, List.set_cons_zero, List.set_cons_succ])
          iterate 4 (refine TE.val1 (v := ?_) ?_ ?_ ?_ ?_ ?_ ?_; rotate_left; (focus rfl); (focus (intro W hSW; (try dsimp only at hSW); (try (obtain ⟨hS1, hSW⟩ := hSW)); (try (obtain ⟨hS2, hSW⟩ := hSW)); (try (obtain ⟨hS3, hSW⟩ := hSW)); (try (obtain ⟨hS4, hSW⟩ := hSW)); (try (obtain ⟨hS5, hSW⟩ := hSW)); (try (obtain ⟨hS6, hSW⟩ := hSW)); (try (obtain ⟨hS7, hSW⟩ := hSW)); (try (obtain ⟨hS8, hSW⟩ := hSW)); go_simp; (try with_reducible rfl); done)); (focus exact fun _ _ _ h => h); (focus exact hF); (focus exact hG); simp only [Act.put, List.setIfInBounds_toArray, List.set_cons_zero, List.set_cons_succ])
          refine TE.eff4 (by rfl) (fun K hK => ?_); go_simp
          have QN1 := Lib.hid (QM0.out.set_ 1 (p1 : Int) p1 rfl).drew
          have PN1 := Lib.hid (PM0.out.setOther (p := ⟨gl, 1, none⟩) (by simpa using Ne.symm hne1) (.int .u64 (p1 : Int))).drew
          have XN1 := Lib.hid (XM0.out.setOther (p := ⟨gl, 1, none⟩) (by simpa using hne2.2.1) (.int .u64 (p1 : Int))).drew
          have YN1 := Lib.hid (YM0.out.setOther (p := ⟨gl, 1, none⟩) (by simpa using hne2.2.2.2) (.int .u64 (p1 : Int))).drew
          have BN1 := Lib.hid (BM0.out.setCell (p := ⟨gl, 1, none⟩) hle.2 (.int .u64 (p1 : Int))).drew
          refine hK.out _ _ (NArr.cell YN1.out (YV.out)) ?_
          have hF := NArr.cell YN1.out (YV.out)
          clear hK cy cl fl hG hfl hadd PM0 QM0 XM0 YM0 BM0
          (try simp only [Act.put, List.setIfInBounds_toArray, List.set_cons_zero, List.set_cons_succ])
          iterate 1 (refine TE.val3 (v := ?_) ?_ ?_ ?_ ?_ ?_; rotate_left; (focus rfl); (focus (intro W hSW; (try dsimp only at hSW); (try (obtain ⟨hS1, hSW⟩ := hSW)); (try (obtain ⟨hS2, hSW⟩ := hSW)); (try (obtain ⟨hS3, hSW⟩ := hSW)); (try (obtain ⟨hS4, hSW⟩ := hSW)); (try (obtain ⟨hS5, hSW⟩ := hSW)); (try (obtain ⟨hS6, hSW⟩ := hSW)); (try (obtain ⟨hS7, hSW⟩ := hSW)); (try (obtain ⟨hS8, hSW⟩ := hSW)); go_simp; (try with_reducible rfl); done)); (focus exact fun _ _ _ h => h); (focus exact hF); simp only [Act.put, List.setIfInBounds_toArray, List.set_cons_zero, List.set_cons_succ])
          refine TE.done ?_
          clear hF
          generalize (wm0.setCell ⟨gl, 1, none⟩ (.int .u64 (p1 : Int))).drew = wn1 at *
          have ch := NArr.cell PN1.out (show [a0 + q0, a1][1]? = some a1 from rfl)
          have fh := NArr.frozen PN1.out 1
          have PM1 := Lib.hid (PN1.out.set_ 1 ((a1 : Int) + (q1 : Int)) (a1 + q1) (by simp))
          have QM1 := Lib.hid (QN1.out.setOther (p := ⟨gh, 1, none⟩) (by simpa using hne1) (.int .u64 ((a1 : Int) + (q1 : Int))))
          have XM1 := Lib.hid (XN1.out.setOther (p := ⟨gh, 1, none⟩) (by simpa using hne2.1) (.int .u64 ((a1 : Int) + (q1 : Int))))
          have YM1 := Lib.hid (YN1.out.setOther (p := ⟨gh, 1, none⟩) (by simpa using hne2.2.2.1) (.int .u64 ((a1 : Int) + (q1 : Int))))
          have BM1 := Lib.hid (BN1.out.setCell (p := ⟨gh, 1, none⟩) hle.1 (.int .u64 ((a1 : Int) + (q1 : Int))))
          go_wp2_with fail
          clear ch fh PN1 QN1 XN1 YN1 BN1
          generalize wn1.setCell ⟨gh, 1, none⟩ (.int .u64 ((a1 : Int) + (q1 : Int))) = wm1 at *
          go_roundw
          case rel => exact ⟨k + 1, a0 + q0, a1 + q1, p0, p1, hlt, by rw [HM.out]; go_num, PM1.out, QM1.out, XM1.out, YM1.out, by omega, by omega, hp0, hp1, (carry_step S0.out E0.out).trans (by rw [HM.out, r0.out]), (carry_step S1.out E1.out).trans (by rw [HM.out, r1.out]), BM1.out⟩
          case measure => simp [intOf]; omega
        · obtain rfl : k = 16 := by omega
          have HSV := Lib.hid (show sumV l1 = sumK (val l1) 16 1 ∧ sumV l2 = sumK (val l2) 16 1 from ⟨sumV_K HO1.out, sumV_K HO2.out⟩)
          have HW := Lib.hid (cmp_words hb0 hb1 (S0.out.trans HSV.out.1.symm) (S1.out.trans HSV.out.2.symm))
          have c0 := NArr.cell PW.out (show [a0, a1][0]? = some a0 from rfl)
          have c1 := NArr.cell PW.out (show [a0, a1][1]? = some a1 from rfl)
          have c2 := NArr.cell QW.out (show [b0, b1][0]? = some b0 from rfl)
          have c3 := NArr.cell QW.out (show [b0, b1][1]? = some b1 from rfl)
          by_cases h1 : a0 < a1
          · have d1 : ((a0 : Int) != (a1 : Int)) = true := by rw [bne_iff_ne]; omega
            have d2 : decide (a0 < a1) = true := by simpa using h1
            have HF := Lib.hid (show ordV l1 l2 = -1 by rw [HC.out, ordF, if_pos (HW.out.1 h1)])
            clear h1
            go_wp2_with fail
            go_ret
            exact ⟨by rw [HF.out]; rfl, BW.out⟩
          · have d2 : decide (a0 < a1) = false := by simpa using h1
            by_cases h2 : a1 < a0
            · have d1 : ((a0 : Int) != (a1 : Int)) = true := by rw [bne_iff_ne]; omega
              have d3 : ((a0 : Int) == (a1 : Int)) = false := by rw [beq_eq_false_iff_ne]; omega
              have HF := Lib.hid (show ordV l1 l2 = 1 by have := HW.out.2.1 h2; rw [HC.out, ordF, if_neg (by omega), if_pos this])
              clear h1 h2
              go_wp2_with fail
              go_ret
              exact ⟨by rw [HF.out]; rfl, BW.out⟩
            · obtain rfl : a0 = a1 := by omega
              clear h1 h2
              by_cases h3 : b0 < b1
              · have d1 : ((b0 : Int) != (b1 : Int)) = true := by rw [bne_iff_ne]; omega
                have d3 : decide (b0 < b1) = true := by simpa using h3
                have HF := Lib.hid (show ordV l1 l2 = -1 by rw [HC.out, ordF, if_pos (HW.out.2.2.1 rfl h3)])
                clear h3
                go_wp2_with fail
                go_ret
                exact ⟨by rw [HF.out]; rfl, BW.out⟩
              · have d3 : decide (b0 < b1) = false := by simpa using h3
                by_cases h4 : b1 < b0
                · have d1 : ((b0 : Int) != (b1 : Int)) = true := by rw [bne_iff_ne]; omega
                  have HF := Lib.hid (show ordV l1 l2 = 1 by have := HW.out.2.2.2.1 rfl h4; rw [HC.out, ordF, if_neg (by omega), if_pos this])
                  clear h3 h4
                  go_wp2_with fail
                  go_ret
                  exact ⟨by rw [HF.out]; rfl, BW.out⟩
                · obtain rfl : b0 = b1 := by omega
                  clear h3 h4 d3 d2
                  have HG := Lib.hid (show ordV l1 l2 = firstD (val l1) (val l2) 16 1 by have := HW.out.2.2.2.2 rfl rfl; rw [HC.out, ordF, if_neg (by omega), if_neg (by omega)])
                  clear HC HW S0 S1
                  go_wp2_with fail
                  generalize wr = wo at *
                  go_loopw [11] (fun i wx => ∃ (k : Nat), k ≤ 16 ∧ i = .int .i64 ((k + 1 : Nat) : Int) ∧ ordV l1 l2 = firstD (val l1) (val l2) (16 - k) ((k : Int) + 1) ∧ Below wo.heap.size wo wx) (fun i _ => 17 - (intOf i).toNat)
                  case atStart => exact ⟨0, Nat.zero_le _, rfl, HG.out, Below.refl _ _⟩
                  case round =>
                    obtain ⟨k, hk, rfl, ho, hbq⟩ := hrel
                    have HO3 := Lib.hid ho
                    have BQ := Lib.hid hbq
                    clear ho hbq HG
                    by_cases hlt : k < 16
                    · have HS := Lib.hid (show ordV l1 l2 = if val l1 ((k + 1 : Nat) : Int) = val l2 ((k + 1 : Nat) : Int) then firstD (val l1) (val l2) (16 - (k + 1)) (((k + 1 : Nat) : Int) + 1) else if val l2 ((k + 1 : Nat) : Int) < val l1 ((k + 1 : Nat) : Int) then 1 else -1 by
                        rw [HO3.out, show 16 - k = (16 - (k + 1)) + 1 by omega]; rfl)
                      have cx := NArr.cell (XW.out.below BQ.out) (HX.out (k + 1) (by omega))
                      have cy := NArr.cell (YW.out.below BQ.out) (HY.out (k + 1) (by omega))
                      obtain ⟨m, hm⟩ : ∃ m, k + 1 = m := ⟨_, rfl⟩
                      have HM := Lib.hid hm
                      have hm16 : m < 17 := by omega
                      have hm0 : (0 : Int) ≤ (m : Int) := by omega
                      have hm17 : (m : Int) < 17 := by omega
                      have d0 : decide (m < 17) = true := by simpa using hm16
                      have d0' : decide ((m : Int) < 17) = true := by simp; omega
                      rw [hm] at cx cy HS ⊢
                      have v1 := fit_val l1 (m : Int) HF1.out
                      have v2 := fit_val l2 (m : Int) HF2.out
                      clear hm
                      generalize val l1 (m : Int) = x at *
                      generalize val l2 (m : Int) = y at *
                      by_cases h1 : x < y
                      · have e1 : decide (x < y) = true := by simpa using h1
                        have HF := Lib.hid (show ordV l1 l2 = -1 by rw [HS.out, if_neg (by omega), if_neg (by omega)])
                        clear h1
                        go_upto_region 20 with fail
                        go_quiet (fail)
                        go_wp2_with fail
                        go_ret
                        exact ⟨by rw [HF.out]; rfl, by first | exact below_drewN (BW.out.trans (BQ.out.mono BW.out.size)) _ | exact below_drewN (below_drewN (BW.out.trans (BQ.out.mono BW.out.size)) _) _⟩
                      · have e1 : decide (x < y) = false := by simpa using h1
                        by_cases h2 : y < x
                        · have e2 : decide (y < x) = true := by simpa using h2
                          have HF := Lib.hid (show ordV l1 l2 = 1 by rw [HS.out, if_neg (by omega), if_pos h2])
                          clear h1 h2
                          go_upto_region 20 with fail
                          go_quiet (fail)
                          go_upto_region 22 with fail
                          go_quiet (fail)
                          go_wp2_with fail
                          go_ret
                          exact ⟨by rw [HF.out]; rfl, by first | exact below_drewN (BW.out.trans (BQ.out.mono BW.out.size)) _ | exact below_drewN (below_drewN (BW.out.trans (BQ.out.mono BW.out.size)) _) _⟩
                        · have e2 : decide (y < x) = false := by simpa using h2
                          have HF := Lib.hid (show ordV l1 l2 = firstD (val l1) (val l2) (16 - (k + 1)) (((k + 1 : Nat) : Int) + 1) by rw [HS.out, if_pos (by omega), HM.out])
                          clear h1 h2
                          go_upto_region 20 with fail
                          go_quiet (fail)
                          go_upto_region 22 with fail
                          go_quiet (fail)
                          go_wp2_with fail
                          go_roundw
                          case rel => exact ⟨k + 1, hlt, by rw [HM.out]; go_num, HF.out, by first | exact below_drewN BQ.out _ | exact below_drewN (below_drewN BQ.out _) _⟩
                          case measure => simp [intOf]; omega
                    · obtain rfl : k = 16 := by omega
                      have HF := Lib.hid (show ordV l1 l2 = 0 by rw [HO3.out]; rfl)
                      go_wp2_with fail
                      go_ret
                      exact ⟨by rw [HF.out]; rfl, BW.out.trans (BQ.out.mono BW.out.size)⟩
end Go.Proofs.YtippojkdgecblaaDoor
