/-
  Digests, the reference: Begin, Constants.
-/
import Derived.Test.YtmaehbebpldpcaaShaU
namespace Go.Proofs.Ytmaehbebpldpcaa
open Go.RowKit
theorem sq36 (p : Nat) (hp : p ≤ 255) : sqOk p 68719476736 = false := by
  rw [sqOk, show 68719476736 * 68719476736 / 18446744073709551616 = 256 from rfl, show 68719476736 * 68719476736 % 18446744073709551616 = 0 from rfl]
  simp; omega
theorem cube36 (p : Nat) (hp : p ≤ 2048) : cubeOk p 68719476736 = false := by
  rw [cubeOk, show cubeHi 68719476736 = 17592186044416 from rfl]
  simp
  omega
set_option maxRecDepth 100000 in
set_option maxHeartbeats 2000000 in
theorem rbegin_v (w : World) :
    Calls Try.prog 51 #[] w fun e w' => e = .returned (.agg (H8.map fun x : Nat => Value.int .u32 (x : Int)).toArray) ∧ Below w.heap.size w w' := by
  go_enter Try.func51, Try.ntmps51
  go_wp2_with (go_at_call 64; refine (rprimes_v 8 18 _ len_p8 (fun k hk => by have := prs_mono' (show k ≤ 17 by omega); rw [len_p8'] at this; omega) (by omega) (by omega)).mono ?_; rintro e w1 ⟨A, c, rfl, hown, hb⟩)
  have hsz : w.heap.size + 2 ≤ w1.heap.size := by have := hb.size; simpa using this
  have hown1 : NOwn .u64 93 w1 (w.heap.size + 2) A 8 c (prs 18) := by simpa using hown
  have a0 : Arr .u32 80 w1 w.heap.size (List.replicate 8 0) :=
    (Arr.new w _ _ (by rfl)).alloc _ |>.keep (hb.block _ (by simp; omega))
  have a1 : Arr .u32 80 w1 (w.heap.size + 1) (H8.take 0 ++ List.replicate (8 - 0) 0) := by
    refine Arr.keep ?_ (hb.block _ (by simp))
    have := Arr.new (k := .u32) (t := 80) (w.alloc (.cells (List.replicate 8 (Value.int .u32 0)).toArray 80)) (List.replicate 8 (Value.int .u32 0)).toArray (List.replicate 8 0) (by rfl)
    simpa using this
  have hb1 : Below w.heap.size w w1 := (((Below.refl _ _).alloc (Nat.le_refl _) _).alloc (by simp) _).trans (hb.mono (by simp; omega))
  clear hb hown
  go_loopw [3] (fun i wr => ∃ k : Nat, k ≤ 8 ∧ i = .int .i64 (k : Int) ∧ NOwn .u64 93 wr (w.heap.size + 2) A 8 c (prs 18) ∧ Arr .u32 80 wr w.heap.size (List.replicate 8 0) ∧
      Arr .u32 80 wr (w.heap.size + 1) (H8.take k ++ List.replicate (8 - k) 0) ∧ w.heap.size + 2 ≤ wr.heap.size ∧ Below w.heap.size w wr) (fun i _ => 8 - (intOf i).toNat)
  case atStart => exact ⟨0, Nat.zero_le _, rfl, hown1, a0, a1, hsz, hb1⟩
  case round =>
    obtain ⟨k, hk, rfl, ho, b0, b1, hz, hb⟩ := hrel
    by_cases hlt : k < 8
    · obtain ⟨ad, p, rfl, had, hcell, HX, _, hp⟩ := NReads.at2 ho.reads hlt
      have hpb := prs_bd 18 p hp
      have HV := Lib.hid (show H8[k]? = some (bis (sqOk p) 36 0 68719476736 % 4294967296) by rw [H8, List.getElem?_map, HX.out]; rfl)
      have C := Lib.hid (rroot_v p false (sqOk p) wr (fun x hx => lessS_v p x _ (by omega) hx) (sq36 p (by omega)))
      have hcu := Arr.cell b1 (fill_at H8 8 k len_H8 hlt)
      have hfu := Arr.frozen b1 k
      have d1 := dec_lt hlt
      generalize bis (sqOk p) 36 0 68719476736 % 4294967296 = x at *
      go_wp2_with (go_at_call 65; refine C.out.mono ?_; rintro e w' ⟨rfl, rfl⟩)
      go_roundw
      case rel =>
        refine ⟨k + 1, hlt, by go_num, ho.setCell (fun j hj => by have := (ho.base_le j hj).1; show j ≠ w.heap.size + 1; omega) _, b0.setOther (by simp) _, ?_, by simp [World.setCell]; omega, hb.setCell (by simp) _⟩
        have := b1.set_ k (x : Int) x rfl
        rwa [fill_set H8 8 k x HV.out hlt] at this
      case measure => simp [intOf]; omega
    · obtain rfl : k = 8 := by omega
      have HT := Lib.hid (show H8.take 8 ++ List.replicate (8 - 8) 0 = H8 by rw [List.take_of_length_le (by rw [len_H8]; exact Nat.le_refl _)]; simp)
      rw [HT.out] at b1
      have HSZ := Lib.hid (show (H8.map fun x : Nat => Value.int .u32 (x : Int)).toArray.size = 8 by rw [List.size_toArray, List.length_map, len_H8])
      have HI := Lib.hid (show (Try.prog.info? 80).map (·.size) = some 8 by kernel_rfl)
      have HB0 := Lib.hid b0
      have HB1 := Lib.hid b1
      clear b0 b1
      go_wp2_with (first
        | (refine wpList_load_row rfl 80 (.tmp 1) rfl (w.heap.size + 1) rfl 80 _ (0, 0) _ HB1.out Try.underlying80 rfl (HI.out.trans (by rw [HSZ.out])) ?_)
        | (refine wpList_store_row rfl 80 (.tmp 0) (.tmp 16) rfl w.heap.size (H8.map fun x : Nat => Value.int .u32 (x : Int)).toArray rfl rfl 80 _ HB0.out (HI.out.trans (by rw [HSZ.out])) (by rw [HSZ.out]; simp) (by simp [Value.oneCell']) ?_))
      have HW := Lib.hid (setRow_heap wr w.heap.size _ (H8.map fun x : Nat => Value.int .u32 (x : Int)).toArray _ _ HB0.out)
      exact bodyPost_ret (results_cell_row Try.results51 _ _ w.heap.size _ _ _ _ rfl HW.out Try.underlying80 rfl (HI.out.trans (by rw [HSZ.out]))) rfl ⟨rfl, below_setRow hb (Nat.le_refl _) _⟩
set_option maxRecDepth 100000 in
set_option maxHeartbeats 2000000 in
theorem rconst_v (w : World) :
    Calls Try.prog 50 #[] w fun e w' => e = .returned (.agg (K64.map fun x : Nat => Value.int .u32 (x : Int)).toArray) ∧ Below w.heap.size w w' := by
  go_enter Try.func50, Try.ntmps50
  go_wp2_with (go_at_call 64; refine (rprimes_v 64 310 _ len_p64 (fun k hk => by have := prs_mono' (show k ≤ 309 by omega); rw [len_p64'] at this; omega) (by omega) (by omega)).mono ?_; rintro e w1 ⟨A, c, rfl, hown, hb⟩)
  have hsz : w.heap.size + 2 ≤ w1.heap.size := by have := hb.size; simpa using this
  have hown1 : NOwn .u64 93 w1 (w.heap.size + 2) A 64 c (prs 310) := by simpa using hown
  have a0 : Arr .u32 78 w1 w.heap.size (List.replicate 64 0) :=
    (Arr.new w _ _ (by rfl)).alloc _ |>.keep (hb.block _ (by simp; omega))
  have a1 : Arr .u32 78 w1 (w.heap.size + 1) (K64.take 0 ++ List.replicate (64 - 0) 0) := by
    refine Arr.keep ?_ (hb.block _ (by simp))
    have := Arr.new (k := .u32) (t := 78) (w.alloc (.cells (List.replicate 64 (Value.int .u32 0)).toArray 78)) (List.replicate 64 (Value.int .u32 0)).toArray (List.replicate 64 0) (by rfl)
    simpa using this
  have hb1 : Below w.heap.size w w1 := (((Below.refl _ _).alloc (Nat.le_refl _) _).alloc (by simp) _).trans (hb.mono (by simp; omega))
  clear hb hown
  go_loopw [3] (fun i wr => ∃ k : Nat, k ≤ 64 ∧ i = .int .i64 (k : Int) ∧ NOwn .u64 93 wr (w.heap.size + 2) A 64 c (prs 310) ∧ Arr .u32 78 wr w.heap.size (List.replicate 64 0) ∧
      Arr .u32 78 wr (w.heap.size + 1) (K64.take k ++ List.replicate (64 - k) 0) ∧ w.heap.size + 2 ≤ wr.heap.size ∧ Below w.heap.size w wr) (fun i _ => 64 - (intOf i).toNat)
  case atStart => exact ⟨0, Nat.zero_le _, rfl, hown1, a0, a1, hsz, hb1⟩
  case round =>
    obtain ⟨k, hk, rfl, ho, b0, b1, hz, hb⟩ := hrel
    by_cases hlt : k < 64
    · obtain ⟨ad, p, rfl, had, hcell, HX, _, hp⟩ := NReads.at2 ho.reads hlt
      have hpb := prs_bd 310 p hp
      have HV := Lib.hid (show K64[k]? = some (bis (cubeOk p) 36 0 68719476736 % 4294967296) by rw [K64, List.getElem?_map, HX.out]; rfl)
      have C := Lib.hid (rroot_v p true (cubeOk p) wr (fun x hx => lessC_v p x _ (by omega) hx) (cube36 p (by omega)))
      have hcu := Arr.cell b1 (fill_at K64 64 k len_K64 hlt)
      have hfu := Arr.frozen b1 k
      have d1 := dec_lt hlt
      generalize bis (cubeOk p) 36 0 68719476736 % 4294967296 = x at *
      go_wp2_with (go_at_call 65; refine C.out.mono ?_; rintro e w' ⟨rfl, rfl⟩)
      go_roundw
      case rel =>
        refine ⟨k + 1, hlt, by go_num, ho.setCell (fun j hj => by have := (ho.base_le j hj).1; show j ≠ w.heap.size + 1; omega) _, b0.setOther (by simp) _, ?_, by simp [World.setCell]; omega, hb.setCell (by simp) _⟩
        have := b1.set_ k (x : Int) x rfl
        rwa [fill_set K64 64 k x HV.out hlt] at this
      case measure => simp [intOf]; omega
    · obtain rfl : k = 64 := by omega
      have HT := Lib.hid (show K64.take 64 ++ List.replicate (64 - 64) 0 = K64 by rw [List.take_of_length_le (by rw [len_K64]; exact Nat.le_refl _)]; simp)
      rw [HT.out] at b1
      have HSZ := Lib.hid (show (K64.map fun x : Nat => Value.int .u32 (x : Int)).toArray.size = 64 by rw [List.size_toArray, List.length_map, len_K64])
      have HI := Lib.hid (show (Try.prog.info? 78).map (·.size) = some 64 by kernel_rfl)
      have HB0 := Lib.hid b0
      have HB1 := Lib.hid b1
      clear b0 b1
      go_wp2_with (first
        | (refine wpList_load_row rfl 78 (.tmp 1) rfl (w.heap.size + 1) rfl 78 _ (0, 0) _ HB1.out Try.underlying78 rfl (HI.out.trans (by rw [HSZ.out])) ?_)
        | (refine wpList_store_row rfl 78 (.tmp 0) (.tmp 16) rfl w.heap.size (K64.map fun x : Nat => Value.int .u32 (x : Int)).toArray rfl rfl 78 _ HB0.out (HI.out.trans (by rw [HSZ.out])) (by rw [HSZ.out]; simp) (by simp [Value.oneCell']) ?_))
      have HW := Lib.hid (setRow_heap wr w.heap.size _ (K64.map fun x : Nat => Value.int .u32 (x : Int)).toArray _ _ HB0.out)
      exact bodyPost_ret (results_cell_row Try.results50 _ _ w.heap.size _ _ _ _ rfl HW.out Try.underlying78 rfl (HI.out.trans (by rw [HSZ.out]))) rfl ⟨rfl, below_setRow hb (Nat.le_refl _) _⟩
end Go.Proofs.Ytmaehbebpldpcaa
