/-
  Vectors, the reference: Merge.
-/
import Derived.Test.YtippojkdgecblaaDoorRvC
import Derived.Test.YtippojkdgecblaaDoorVecM
namespace Go.Proofs.YtippojkdgecblaaDoor
open Go.RowKit
/-- The greatest values by device. -/
def mrgL (vs : List (List (Int × Nat))) : List Nat := (List.range 17).map fun d : Nat => if d = 0 then 0 else mergeF vs (d : Int)
theorem mrgL_len (vs : List (List (Int × Nat))) : (mrgL vs).length = 17 := by simp [mrgL]
theorem mrgL_at (vs : List (List (Int × Nat))) {d : Nat} (h : d < 17) : (mrgL vs)[d]? = some (if d = 0 then 0 else mergeF vs (d : Int)) := by simp [mrgL, h]
theorem mrgL_nil : mrgL [] = List.replicate 17 0 := by decide
/-- The first e of two arrays put together. -/
def mixL (us xs : List Nat) (e : Nat) : List Nat := (List.range 17).map fun d : Nat => if 1 ≤ d ∧ d < e then max (us.getD d 0) (xs.getD d 0) else us.getD d 0
theorem mixL_len (us xs : List Nat) (e : Nat) : (mixL us xs e).length = 17 := by simp [mixL]
theorem mixL_at (us xs : List Nat) (e : Nat) {d : Nat} (h : d < 17) : (mixL us xs e)[d]? = some (if 1 ≤ d ∧ d < e then max (us.getD d 0) (xs.getD d 0) else us.getD d 0) := by simp [mixL, h]
theorem mixL_one (us xs : List Nat) (h : us.length = 17) : mixL us xs 1 = us := by
  apply List.ext_getElem?
  intro j
  by_cases hj : j < 17
  · rw [mixL_at _ _ _ hj, if_neg (by omega), List.getD_eq_getElem?_getD, List.getElem?_eq_getElem (by omega)]
    rfl
  · rw [List.getElem?_eq_none (by rw [mixL_len]; omega), List.getElem?_eq_none (by omega)]
theorem mixL_step (us xs : List Nat) (e : Nat) (h1 : 1 ≤ e) : (mixL us xs e).set e (max (us.getD e 0) (xs.getD e 0)) = mixL us xs (e + 1) := by
  apply List.ext_getElem?
  intro j
  rw [List.getElem?_set, mixL_len]
  by_cases hj : j < 17
  · rw [mixL_at _ _ _ hj, mixL_at _ _ _ hj]
    by_cases he : e = j
    · subst he
      rw [if_pos rfl, if_pos hj, if_pos (by omega)]
    · rw [if_neg he]
      by_cases h2 : 1 ≤ j ∧ j < e
      · rw [if_pos h2, if_pos (by omega)]
      · rw [if_neg h2, if_neg (by omega)]
  · rw [List.getElem?_eq_none (by rw [mixL_len]; omega), List.getElem?_eq_none (by rw [mixL_len]; omega)]
    split
    · rw [if_neg (by omega)]
    · rfl
theorem mixL_all (vs : List (List (Int × Nat))) (k : Nat) (v : List (Int × Nat)) (h : vs[k]? = some v) : mixL (mrgL (vs.take k)) (valsL v) 17 = mrgL (vs.take (k + 1)) := by
  apply List.ext_getElem?
  intro j
  by_cases hj : j < 17
  · rw [mixL_at _ _ _ hj, mrgL_at _ hj, List.getD_eq_getElem?_getD, List.getD_eq_getElem?_getD, mrgL_at _ hj, valsL_at _ hj, fold_take vs (j : Int) k v h]
    by_cases h0 : j = 0
    · subst h0; simp
    · rw [if_pos (by omega)]; simp [h0]
  · rw [List.getElem?_eq_none (by rw [mixL_len]; omega), List.getElem?_eq_none (by rw [mrgL_len]; omega)]
theorem mrgL_64 {vs : List (List (Int × Nat))} (h : ∀ v ∈ vs, fitV v) : ∀ x ∈ mrgL vs, x < 18446744073709551616 := fun x hx => by
  obtain ⟨d, _, rfl⟩ := List.mem_map.1 hx
  split
  · omega
  · exact fit_merge vs _ h
theorem ofV_mrg (vs : List (List (Int × Nat))) : ofV (uF (mrgL vs)) = ofV (mergeF vs) := ofV_congr fun e h1 h2 => by
  unfold uF
  rw [List.getD_eq_getElem?_getD, mrgL_at _ (show e.toNat < 17 by omega), if_neg (by omega), Int.toNat_of_nonneg (by omega)]
  rfl
theorem allOk_step {vs : List (List (Int × Nat))} {k : Nat} {v : List (Int × Nat)} (ho : allOk (vs.take k) = true) (hv : vs[k]? = some v) : allOk (vs.take (k + 1)) = okV 0 v := by
  obtain ⟨hk2, he2⟩ := List.getElem?_eq_some_iff.1 hv
  unfold allOk at ho ⊢
  rw [List.take_succ_eq_append_getElem hk2, he2, List.all_append, ho]
  simp
theorem allOk_no {vs : List (List (Int × Nat))} {k : Nat} {v : List (Int × Nat)} (hv : vs[k]? = some v) (h : okV 0 v = false) : allOk vs = false := by
  rw [← Bool.not_eq_true]
  intro ha
  unfold allOk at ha
  rw [List.all_eq_true] at ha
  have := ha v (List.mem_of_getElem? hv)
  rw [h] at this
  cases this
set_option maxRecDepth 100000 in
set_option maxHeartbeats 4000000 in
theorem rmerge_v (B : Nat) (A : Option Addr) (n c : Nat) (vs : List Vec) (w : World) (hr : MReads w B A n vs) (hB : B ≤ w.heap.size) (hn : n ≤ 9223372036854775807) (hl : ∀ v ∈ vs, fitV v.l) :
    Calls Tryd.prog 14 #[.slice A n c] w fun e w' => ∃ A' n' c', e = .returned (.tuple #[.slice A' n' c', .int .i64 (mergeE (vs.map Vec.l))]) ∧ COwn w' w.heap.size A' n' c' (mergeV (vs.map Vec.l)) ∧ Below w.heap.size w w' := by
  have HLEN := Lib.hid hr.len
  have HR := Lib.hid hr
  have HFI := Lib.hid hl
  have HFIT := Lib.hid (show ∀ k, ∀ v ∈ (vs.map Vec.l).take k, fitV v from fun k v hv => by
    obtain ⟨u, hu, rfl⟩ := List.mem_map.1 (List.mem_of_mem_take hv)
    exact hl u hu)
  clear hr hl
  have z0 : NArr 52 (w.alloc (.cells (List.replicate 17 (Value.int .u64 0)).toArray 52)) w.heap.size (mrgL ((vs.map Vec.l).take 0)) := by
    have := NArr.new (t := 52) w (List.replicate 17 (Value.int .u64 0)).toArray (List.replicate 17 0) (by rfl)
    simpa [mrgL_nil] using this
  have zb : Below w.heap.size w (w.alloc (.cells (List.replicate 17 (Value.int .u64 0)).toArray 52)) := (Below.refl _ _).alloc (Nat.le_refl _) _
  have hI17 : (Tryd.prog.info? 52).map (·.size) = some 17 := by kernel_rfl
  have HI17 := Lib.hid hI17
  clear hI17
  go_enter Tryd.func14, Tryd.ntmps14
  go_wp2_with fail
  go_loopw [5] (fun i wr => ∃ k : Nat, k ≤ n ∧ i = .int .i64 (k : Int) ∧ NArr 52 wr w.heap.size (mrgL ((vs.map Vec.l).take k)) ∧ allOk ((vs.map Vec.l).take k) = true ∧ w.heap.size < wr.heap.size ∧ Below w.heap.size w wr) (fun i _ => n - (intOf i).toNat)
  case atStart => exact ⟨0, Nat.zero_le _, rfl, z0, rfl, by simp, zb⟩
  case round =>
    obtain ⟨k, hk, rfl, h0, ho, hz, hb⟩ := hrel
    have HB := Lib.hid hb
    have H0 := Lib.hid h0
    have HO := Lib.hid ho
    clear hb h0 ho z0 zb
    by_cases hlt : k < n
    · obtain ⟨ad, v, rfl, had, hv, hc, hcr, hvn⟩ := (HR.out.below (HB.out.mono hB)).at_ hlt
      have HV := Lib.hid (show (vs.map Vec.l)[k]? = some v.l by rw [List.getElem?_map, hv]; rfl)
      have HFV := Lib.hid (HFI.out v (List.mem_of_getElem? hv))
      have HCR := Lib.hid hcr
      have k0 : (0 : Int) ≤ (k : Int) := by omega
      have hBr : B ≤ wr.heap.size := Nat.le_trans hB HB.out.size
      clear hv hcr
      cases hov : okV 0 v.l
      · have HA := Lib.hid (allOk_no HV.out hov)
        have HOV := Lib.hid hov
        clear hov
        go_wp2_with fail
        refine (rcheck_v B v.A v.n v.c v.l wr HCR.out hBr hvn).mono ?_
        rw [HOV.out]
        rintro e w1 ⟨rfl, hb1⟩
        have B1 := Lib.hid (HB.out.trans (hb1.mono HB.out.size))
        clear hb1
        go_wp2_with fail
        go_ret2
        exact ⟨none, 0, 0, by rw [mergeE, if_neg (by rw [HA.out]; decide)]; rfl, by rw [mergeV, if_neg (by rw [HA.out]; decide)]; exact COwn.nil_ _ _, B1.out⟩
      · have HOV := Lib.hid hov
        clear hov
        go_wp2_with fail
        refine (rcheck_v B v.A v.n v.c v.l wr HCR.out hBr hvn).mono ?_
        rw [HOV.out]
        rintro e w1 ⟨rfl, hb1⟩
        have B1 := Lib.hid (HB.out.trans (hb1.mono HB.out.size))
        have H1 := Lib.hid (H0.out.below hb1)
        have c1 := (hb1.cell (p := ad.add k) (by rw [block_of_add]; omega)).trans hc
        have HCR1 := Lib.hid (Reads.below (show Reads wr B 2 _ _ _ from HCR.out) (hb1.mono hBr))
        have hz1 : w.heap.size < w1.heap.size := Nat.lt_of_lt_of_le hz hb1.size
        have hB1 : B ≤ w1.heap.size := Nat.le_trans hBr hb1.size
        clear hb1 hc HCR H0
        go_wp2_with fail
        refine (values_v B v.A v.n v.c v.l w1 HCR1.out hB1 hvn HOV.out HFV.out).mono ?_
        rintro e w2 ⟨rfl, hb2⟩
        have B2 := Lib.hid (B1.out.trans (hb2.mono B1.out.size))
        have H2 := Lib.hid (H1.out.below hb2)
        have hz2 : w.heap.size < w2.heap.size := Nat.lt_of_lt_of_le hz1 hb2.size
        have HI := Lib.hid (show (Tryd.prog.info? 52).map (·.size) = some (valsL v.l).length by rw [valsL_len]; exact HI17.out)
        clear hb2 B1 H1 HCR1
        go_wp2_with (first
          | (refine wpList_storeN (t := 52) rfl (.tmp 6) (.tmp 24) rfl w2.heap.size (valsL v.l) rfl rfl _ (heap_alloc_new w2 _) (by rw [valsL_len]; rfl) HI.out ?_
             intro w3 n3 b3 z3 o3
             have N3 := Lib.hid n3
             have B3 := Lib.hid ((B2.out.alloc (by omega) _).trans (b3.mono (by omega)))
             have H3 := Lib.hid ((H2.out.alloc (.cells #[.int .u64 0, .int .u64 0, .int .u64 0, .int .u64 0, .int .u64 0, .int .u64 0, .int .u64 0, .int .u64 0, .int .u64 0, .int .u64 0, .int .u64 0, .int .u64 0, .int .u64 0, .int .u64 0, .int .u64 0, .int .u64 0, .int .u64 0] 52)).keep (o3 w.heap.size (by omega)))
             have hz3 : w3.heap.size = w2.heap.size + 1 := by rw [z3]; simp
             clear n3 b3 z3 o3
             obtain ⟨g3, hg3⟩ : ∃ g3, w2.heap.size = g3 := ⟨_, rfl⟩
             rw [hg3] at N3 hz3 hz2 ⊢
             clear hg3 B2 H2)
          | fail)
        obtain ⟨us, hus⟩ : ∃ us, mrgL ((vs.map Vec.l).take k) = us := ⟨_, rfl⟩
        obtain ⟨xs, hxs⟩ : ∃ xs, valsL v.l = xs := ⟨_, rfl⟩
        have HUL := Lib.hid (show us.length = 17 by rw [← hus, mrgL_len])
        have HXL := Lib.hid (show xs.length = 17 by rw [← hxs, valsL_len])
        have HU64 := Lib.hid (show ∀ x ∈ us, x < 18446744073709551616 by rw [← hus]; exact mrgL_64 (HFIT.out k))
        have HX64 := Lib.hid (show ∀ x ∈ xs, x < 18446744073709551616 by rw [← hxs]; exact valsL_64 HFV.out)
        have HALL := Lib.hid (mixL_all _ k _ HV.out)
        have HAO := Lib.hid (show allOk ((vs.map Vec.l).take (k + 1)) = true by rw [allOk_step HO.out HV.out]; exact HOV.out)
        rw [hus] at H3 HALL
        rw [hxs] at N3 HALL ⊢
        clear hus hxs
        go_loopw [7] (fun i wr => ∃ e : Nat, 1 ≤ e ∧ e ≤ 17 ∧ i = .int .i64 (e : Int) ∧ NArr 52 wr w.heap.size (mixL us xs e) ∧ NArr 52 wr g3 xs ∧ w.heap.size < wr.heap.size ∧ Below w.heap.size w wr) (fun i _ => 17 - (intOf i).toNat)
        case atStart => exact ⟨1, Nat.le_refl _, by omega, rfl, by rw [mixL_one _ _ HUL.out]; exact H3.out, N3.out, by omega, B3.out⟩
        case round =>
          obtain ⟨e, he1, he2, rfl, h4, n4, hz4, hb4⟩ := hrel
          have H4 := Lib.hid h4
          have N4 := Lib.hid n4
          have B4 := Lib.hid hb4
          clear h4 n4 hb4
          by_cases hlt2 : e < 17
          · obtain ⟨x, hx⟩ : ∃ x, xs[e]? = some x := ⟨_, List.getElem?_eq_getElem (by rw [HXL.out]; exact hlt2)⟩
            obtain ⟨y, hy⟩ : ∃ y, us[e]? = some y := ⟨_, List.getElem?_eq_getElem (by rw [HUL.out]; exact hlt2)⟩
            have c4 := NArr.cell H4.out (mixL_at us xs e hlt2)
            rw [if_neg (by omega), List.getD_eq_getElem?_getD, hy] at c4
            simp only [Option.getD_some] at c4
            have f4 := NArr.frozen H4.out e
            have c5 := NArr.cell N4.out hx
            have x64 := HX64.out x (List.mem_of_getElem? hx)
            have y64 := HU64.out y (List.mem_of_getElem? hy)
            have HST := Lib.hid (mixL_step us xs e he1)
            rw [List.getD_eq_getElem?_getD, List.getD_eq_getElem?_getD, hx, hy] at HST
            simp only [Option.getD_some] at HST
            have k1 : (0 : Int) ≤ (e : Int) := by omega
            have d1 : decide (e < 17) = true := by simpa using hlt2
            clear hx hy
            go_upto_region 11 with fail
            go_region
            all_goals
              go_wp2_with fail
              go_roundw
              case rel => exact ⟨e + 1, by omega, by omega, by go_num, by have := (H4.out.set_ e _ (max y x) (max_if y x)).drew; rwa [HST.out] at this, (N4.out.setOther (by simp; omega) _).drew, by simpa [World.setCell] using hz4, (B4.out.setCell (Nat.le_refl _) _).drew⟩
              case measure => simp [intOf]; omega
          · obtain rfl : e = 17 := by omega
            rw [HALL.out] at H4
            go_wp2_with fail
            go_roundw
            case rel => exact ⟨k + 1, hlt, by go_num, H4.out, HAO.out, hz4, B4.out⟩
            case measure => simp [intOf]; omega
    · obtain rfl : k = n := by omega
      have HT := Lib.hid (show (vs.map Vec.l).take k = vs.map Vec.l by rw [List.take_of_length_le (by rw [List.length_map, HLEN.out]; exact Nat.le_refl _)])
      rw [HT.out] at H0 HO
      have HI := Lib.hid (show (Tryd.prog.info? 52).map (·.size) = some (mrgL (vs.map Vec.l)).length by rw [mrgL_len]; exact HI17.out)
      have HM := Lib.hid (show ofV (uF (mrgL (vs.map Vec.l))) = mergeV (vs.map Vec.l) by rw [mergeV, if_pos HO.out]; exact ofV_mrg _)
      have HE := Lib.hid (show mergeE (vs.map Vec.l) = 0 by rw [mergeE, if_pos HO.out])
      have H64 := Lib.hid (show ∀ x ∈ mrgL (vs.map Vec.l), x < 18446744073709551616 from mrgL_64 fun v hv => HFIT.out k v (by rw [HT.out]; exact hv))
      have HLL := Lib.hid (mrgL_len (vs.map Vec.l))
      obtain ⟨us, hus⟩ : ∃ us, mrgL (vs.map Vec.l) = us := ⟨_, rfl⟩
      rw [hus] at H0 HI HM H64 HLL
      clear hus
      go_wp2_with (first
        | (refine wpList_loadN (t := 52) rfl (.tmp 4) rfl w.heap.size us rfl H0.out Tryd.underlying52 rfl HI.out ?_)
        | fail)
      refine (made_v us wr HLL.out H64.out).mono ?_
      rw [HM.out]
      rintro e w5 ⟨A5, n5, c5, rfl, ho5, hb5⟩
      have HO5 := Lib.hid ho5
      clear ho5
      go_wp2_with fail
      go_ret2
      exact ⟨A5, n5, c5, by rw [HE.out]; rfl, HO5.out.down HB.out.size, HB.out.trans (hb5.mono HB.out.size)⟩
end Go.Proofs.YtippojkdgecblaaDoor
