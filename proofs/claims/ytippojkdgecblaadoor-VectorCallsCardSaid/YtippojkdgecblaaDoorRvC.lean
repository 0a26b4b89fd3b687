/-
  Vectors, the reference: Bump.
-/
import Derived.Test.YtippojkdgecblaaDoorRvB
namespace Go.Proofs.YtippojkdgecblaaDoor
open Go.RowKit
theorem uF_vals (l : List (Int × Nat)) (e : Int) (h1 : 0 ≤ e) (h2 : e ≤ 16) : uF (valsL l) e = val l e := by
  unfold uF
  rw [List.getD_eq_getElem?_getD, valsL_at _ (show e.toNat < 17 by omega), Int.toNat_of_nonneg h1]
  rfl
theorem valsL_64 {l : List (Int × Nat)} (hf : fitV l) : ∀ x ∈ valsL l, x < 18446744073709551616 := fun x hx => by
  obtain ⟨d, _, rfl⟩ := List.mem_map.1 hx
  exact fit_val l _ hf
theorem uF_set (us : List Nat) (hl : us.length = 17) (d : Nat) (hd : d < 17) (y : Nat) (e : Int) (h1 : 0 ≤ e) : uF (us.set d y) e = if e = (d : Int) then y else uF us e := by
  unfold uF
  rw [List.getD_eq_getElem?_getD, List.getD_eq_getElem?_getD, List.getElem?_set, hl]
  by_cases h : e = (d : Int)
  · subst h
    simp [hd]
  · rw [if_neg (by omega), if_neg h]
set_option maxRecDepth 100000 in
set_option maxHeartbeats 4000000 in
theorem rbump_v (B : Nat) (A : Option Addr) (n c : Nat) (l : List (Int × Nat)) (dev : Int) (w : World) (hr : CReads w B A n l) (hB : B ≤ w.heap.size) (hn : n ≤ 9223372036854775807) (hl : fitV l) :
    Calls Tryd.prog 12 #[.slice A n c, .int .i64 dev] w fun e w' => ∃ A' n' c', e = .returned (.tuple #[.slice A' n' c', .int .i64 (bumpE l dev)]) ∧ COwn w' w.heap.size A' n' c' (bumpV l dev) ∧ Below w.heap.size w w' := by
  have HR := Lib.hid hr
  have HFI := Lib.hid hl
  clear hr hl
  cases ho : okV 0 l
  · have HE := Lib.hid (show bumpE l dev = 2 by rw [bumpE, if_pos ho])
    have HO := Lib.hid ho
    clear ho
    go_enter Tryd.func12, Tryd.ntmps12
    go_wp2_with fail
    refine (rcheck_v B A n c l w HR.out hB hn).mono ?_
    rw [HO.out]
    rintro e w1 ⟨rfl, hb⟩
    go_wp2_with fail
    go_ret2
    exact ⟨none, 0, 0, by rw [HE.out]; rfl, by rw [bumpV, if_neg (by rw [HE.out]; decide)]; exact COwn.nil_ _ _, hb⟩
  · by_cases b1 : dev < 1
    · have HE := Lib.hid (show bumpE l dev = 2 by rw [bumpE, if_neg (by simp [ho]), if_pos (.inl b1)])
      have HO := Lib.hid ho
      have d1 : decide (dev < 1) = true := by simpa using b1
      clear ho b1
      go_enter Tryd.func12, Tryd.ntmps12
      go_wp2_with fail
      refine (rcheck_v B A n c l w HR.out hB hn).mono ?_
      rw [HO.out]
      rintro e w1 ⟨rfl, hb⟩
      go_wp2_with fail
      go_ret2
      exact ⟨none, 0, 0, by rw [HE.out]; rfl, by rw [bumpV, if_neg (by rw [HE.out]; decide)]; exact COwn.nil_ _ _, hb⟩
    · have d1 : decide (dev < 1) = false := by simpa using b1
      by_cases b2 : 16 < dev
      · have HE := Lib.hid (show bumpE l dev = 2 by rw [bumpE, if_neg (by simp [ho]), if_pos (.inr b2)])
        have HO := Lib.hid ho
        have d2 : decide (16 < dev) = true := by simpa using b2
        clear ho b1 b2
        go_enter Tryd.func12, Tryd.ntmps12
        go_wp2_with fail
        refine (rcheck_v B A n c l w HR.out hB hn).mono ?_
        rw [HO.out]
        rintro e w1 ⟨rfl, hb⟩
        go_wp2_with fail
        go_ret2
        exact ⟨none, 0, 0, by rw [HE.out]; rfl, by rw [bumpV, if_neg (by rw [HE.out]; decide)]; exact COwn.nil_ _ _, hb⟩
      · have d2 : decide (16 < dev) = false := by simpa using b2
        obtain ⟨dv, rfl⟩ := Int.eq_ofNat_of_zero_le (show 0 ≤ dev by omega)
        have hd1 : 1 ≤ dv := by omega
        have hd2 : dv ≤ 16 := by omega
        have HO := Lib.hid ho
        clear ho b1 b2
        go_enter Tryd.func12, Tryd.ntmps12
        go_wp2_with fail
        refine (rcheck_v B A n c l w HR.out hB hn).mono ?_
        rw [HO.out]
        rintro e w1 ⟨rfl, hb1⟩
        have B1 := Lib.hid hb1
        clear hb1
        go_wp2_with fail
        refine (values_v B A n c l w1 (Reads.below (show Reads w B 2 A n _ from HR.out) (B1.out.mono hB)) (Nat.le_trans hB B1.out.size) hn HO.out HFI.out).mono ?_
        rintro e w2 ⟨rfl, hb2⟩
        have B2 := Lib.hid (btwo B1.out hb2)
        clear hb2 B1
        have HI := Lib.hid (show (Tryd.prog.info? 52).map (·.size) = some (valsL l).length by rw [valsL_len]; kernel_rfl)
        have v64 := fit_val l (dv : Int) HFI.out
        have k0 : (0 : Int) ≤ (dv : Int) := by omega
        have k1 : dv < 17 := by omega
        by_cases hv : val l (dv : Int) = 18446744073709551615
        · have HE := Lib.hid (show bumpE l (dv : Int) = 3 by rw [bumpE, if_neg (by simp [HO.out]), if_neg (by omega), if_pos hv])
          clear v64
          go_wp2_with (first
          | (refine wpList_storeN (t := 52) rfl (.tmp 6) (.tmp 19) rfl w2.heap.size (valsL l) rfl rfl _ (heap_alloc_new w2 _) (by rw [valsL_len]; rfl) HI.out ?_
             intro w3 n3 b3 z3 _
             have N3 := Lib.hid n3
             have B3 := Lib.hid ((B2.out.alloc B2.out.size _).trans (b3.mono (by have := B2.out.size; omega)))
             have hz3 : w3.heap.size = w2.heap.size + 1 := by rw [z3]; simp
             clear n3 b3 z3
             obtain ⟨g3, hg3⟩ : ∃ g3, w2.heap.size = g3 := ⟨_, rfl⟩
             have hw3 : w.heap.size ≤ g3 := by rw [← hg3]; exact B2.out.size
             rw [hg3] at N3 hz3 ⊢
             clear hg3 B2
             have c3 := NArr.cell N3.out (valsL_at l (show dv < 17 by omega))
             have f3 := NArr.frozen N3.out dv
             rw [hv] at c3
             clear hv)
          | fail)
          go_ret2
          exact ⟨none, 0, 0, by rw [HE.out]; rfl, by rw [bumpV, if_neg (by rw [HE.out]; decide)]; exact COwn.nil_ _ _, (B3.out.setCell hw3 _)⟩
        · have HE := Lib.hid (show bumpE l (dv : Int) = 0 by rw [bumpE, if_neg (by simp [HO.out]), if_neg (by omega), if_neg hv])
          have HOF := Lib.hid (show ofV (uF ((valsL l).set dv (val l (dv : Int) + 1))) = bumpV l (dv : Int) by
            rw [bumpV, if_pos HE.out]
            refine ofV_congr fun e h1 h2 => ?_
            rw [uF_set _ (valsL_len l) _ (by omega) _ _ (by omega), uF_vals l e (by omega) h2, bumpF]
            by_cases h : e = (dv : Int)
            · rw [if_pos h, if_pos h, h]
            · rw [if_neg h, if_neg h])
          have HI2 := Lib.hid (show (Tryd.prog.info? 52).map (·.size) = some ((valsL l).set dv (val l (dv : Int) + 1)).length by rw [List.length_set]; exact HI.out)
          have H64 := Lib.hid (show ∀ x ∈ (valsL l).set dv (val l (dv : Int) + 1), x < 18446744073709551616 from fun x hx => by
            rcases List.mem_or_eq_of_mem_set hx with h | h
            · exact valsL_64 HFI.out x h
            · omega)
          obtain ⟨v, hvv⟩ : ∃ v, val l (dv : Int) = v := ⟨_, rfl⟩
          rw [hvv] at HOF v64 hv HI2 H64
          obtain ⟨us, hus⟩ : ∃ us, (valsL l).set dv (v + 1) = us := ⟨_, rfl⟩
          have HUL := Lib.hid (show us.length = 17 by rw [← hus, List.length_set, valsL_len])
          rw [hus] at HOF HI2 H64
          have HUS := Lib.hid hus
          clear hus
          have d3 : ((v : Int) + 1 == 0) = false := by rw [beq_eq_false_iff_ne]; omega
          have v65 : v + 1 < 18446744073709551616 := by omega
          clear hv
          go_wp2_with (first
          | (refine wpList_storeN (t := 52) rfl (.tmp 6) (.tmp 19) rfl w2.heap.size (valsL l) rfl rfl _ (heap_alloc_new w2 _) (by rw [valsL_len]; rfl) HI.out ?_
             intro w3 n3 b3 z3 _
             have N3 := Lib.hid n3
             have B3 := Lib.hid ((B2.out.alloc B2.out.size _).trans (b3.mono (by have := B2.out.size; omega)))
             have hz3 : w3.heap.size = w2.heap.size + 1 := by rw [z3]; simp
             clear n3 b3 z3
             obtain ⟨g3, hg3⟩ : ∃ g3, w2.heap.size = g3 := ⟨_, rfl⟩
             have hw3 : w.heap.size ≤ g3 := by rw [← hg3]; exact B2.out.size
             rw [hg3] at N3 hz3 ⊢
             clear hg3 B2
             have c3 := NArr.cell N3.out (valsL_at l (show dv < 17 by omega))
             have f3 := NArr.frozen N3.out dv
             have n4 := NArr.set_ N3.out dv ((v : Int) + 1) (v + 1) (by simp)
             rw [HUS.out] at n4
             have N4 := Lib.hid n4
             clear n4
             rw [hvv] at c3
             clear hvv)
          | (refine wpList_loadN (t := 52) rfl (.tmp 6) rfl g3 us rfl N4.out Tryd.underlying52 rfl HI2.out ?_)
          | fail)
          refine (made_v us _ HUL.out H64.out).mono ?_
          rw [HOF.out]
          rintro e w5 ⟨A5, n5, c5, rfl, ho5, hb5⟩
          have HO5 := Lib.hid ho5
          have BB := Lib.hid (B3.out.setCell hw3 (p := ⟨g3, dv, none⟩) (.int .u64 ((v : Int) + 1)))
          clear ho5
          go_wp2_with fail
          go_ret2
          exact ⟨A5, n5, c5, by rw [HE.out]; rfl, HO5.out.down BB.out.size, BB.out.trans (hb5.mono BB.out.size)⟩
end Go.Proofs.YtippojkdgecblaaDoor
