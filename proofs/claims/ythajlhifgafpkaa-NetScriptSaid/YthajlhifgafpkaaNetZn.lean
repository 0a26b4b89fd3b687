/-
  Nets: the packets in flight, yielded one by one, with their bytes.
-/
import Derived.Test.YthajlhifgafpkaaRngY
namespace Go.Proofs.Ythajlhifgafpkaa
open Go.RowKit Go.Shelf
attribute [local go_sem] Oper.semAt_some
set_option maxRecDepth 100000 in
set_option maxHeartbeats 4000000 in
theorem packs_all (b g n c base : Nat) (A : Option Addr) (vs : List PkV) (w : World) (m : Nat) (hb : b < w.heap.size) (hg : g < w.heap.size) (cb : w.cell? ⟨b, 0, none⟩ = some (.pointer (some ⟨g, 0, none⟩))) (cg : w.cell? ⟨g, 1, none⟩ = some (.slice A n c))
    (hrow : PkRow w base A n c vs) (hn : n ≤ 4096) :
    SeqAll Fence.wide m Try.prog 59 #[.pointer (some ⟨b, 0, none⟩)] (fun x : PkV => #[.agg x.cells.toArray]) (fun W W' => Below w.heap.size W W') (fun x W => BOwn W (w.heap.size + 1) x.a x.len x.cap x.pk.bytes ∧ x.len ≤ 262144) (fun xs => xs.map (·.pk) = vs.map (·.pk)) n w := fun l J W hW hJ hY h0 => by
  have wcb : W.cell? ⟨b, 0, none⟩ = some (.pointer (some ⟨g, 0, none⟩)) := (hW.cell (p := ⟨b, 0, none⟩) hb).trans cb
  have wcg : W.cell? ⟨g, 1, none⟩ = some (.slice A n c) := (hW.cell (p := ⟨g, 1, none⟩) hg).trans cg
  have HI := Lib.hid (show (Try.prog.info? 34).map (·.size) = some 5 by kernel_rfl)
  have HR := Lib.hid hrow
  have HLN := Lib.hid hrow.len
  have HW := Lib.hid hW
  have hzw := hW.size
  clear cb cg hrow hW
  refine callsIn_of_wp Try.func59 rfl trivial ?_ rfl
  simp only [Try.ntmps59, List.size_toArray, List.length_cons, List.length_nil, Nat.reduceAdd, Nat.reduceSub, Array.replicate_succ, Array.replicate_zero, List.push_toArray, List.append_toArray, List.nil_append, List.cons_append]
  gi_wp2
  clear wcb wcg
  gi_loopw [10] (fun i wr => ∃ (k : Nat) (pre : List PkV), k ≤ n ∧ i = .int .i64 (k : Int) ∧ pre.map (·.pk) = (vs.take k).map (·.pk) ∧ J pre wr ∧ Below w.heap.size w wr) (fun i _ => n - (intOf i).toNat)
  case atStart => exact ⟨0, [], Nat.zero_le _, rfl, by simp, h0, HW.out⟩
  case round =>
    obtain ⟨k, pre, hk, rfl, hpre, hJs, hbw⟩ := hrel
    have HPRE := Lib.hid hpre
    have HJS := Lib.hid hJs
    have HB := Lib.hid hbw
    have hplen : pre.length = k := by
      have := congrArg List.length hpre
      simp at this
      rw [HLN.out] at this
      omega
    clear hpre hJs hbw
    by_cases hlt : k < n
    · have R1 := Lib.hid (HR.out.below HB.out)
      obtain ⟨ga, v, rfl, hbg, hgal, hv, hc⟩ := R1.out.at_ hlt
      have HC := Lib.hid (hc wr rfl)
      have HV := Lib.hid hv
      have HBV := Lib.hid (R1.out.bytes v (List.mem_of_getElem? hv))
      have k0 : (0 : Int) ≤ (k : Int) := by omega
      have d1 : decide (k < n) = true := by simpa using hlt
      clear hv hc hbg hgal
      have Z0 := Lib.hid (heap_alloc_new wr (.cells #[.int .u64 0, .int .i64 0, .int .i64 0, .int .u64 0, .slice none 0 0] 34))
      have Z1 := Lib.hid (setRow_heap _ wr.heap.size _ v.cells.toArray _ _ Z0.out)
      have BZ := Lib.hid (below_setRow ((Below.refl wr.heap.size wr).alloc (Nat.le_refl _) (.cells #[.int .u64 0, .int .i64 0, .int .i64 0, .int .u64 0, .slice none 0 0] 34)) (Nat.le_refl _) v.cells.toArray)
      have HBV2 := Lib.hid (HBV.out.1.below BZ.out)
      have c4 : ((wr.alloc (.cells #[.int .u64 0, .int .i64 0, .int .i64 0, .int .u64 0, .slice none 0 0] 34)).setRow wr.heap.size v.cells.toArray).cell? ⟨wr.heap.size, 4, none⟩ = some (.slice v.a v.len v.cap) := by rw [cell_of_row _ _ 4 _ _ _ Z1.out]; rfl
      have hz2 : wr.heap.size < ((wr.alloc (.cells #[.int .u64 0, .int .i64 0, .int .i64 0, .int .u64 0, .slice none 0 0] 34)).setRow wr.heap.size v.cells.toArray).heap.size := by simp
      gi_wp2_with (first
        | (refine wpListIn_load_slot rfl 34 (.tmp 12) rfl ⟨ga, k * 5, none⟩ rfl v.cells _ HC.out Try.underlying34 rfl HI.out ?_)
        | (refine wpListIn_store_row rfl 34 (.tmp 4) (.tmp 13) rfl wr.heap.size v.cells.toArray rfl rfl 34 _ Z0.out HI.out rfl (PkV.all1 v) ?_)
        | fail)
      clear Z0 HC
      generalize (wr.alloc (.cells #[.int .u64 0, .int .i64 0, .int .i64 0, .int .u64 0, .slice none 0 0] 34)).setRow wr.heap.size v.cells.toArray = w2 at *
      refine ⟨trivial, fun h => by simp [Fence.wide] at h, (callsIn_wide.2 (clone_any w2.heap.size v.a v.len v.cap v.pk.bytes w2 HBV2.out.reads (Nat.le_refl _) (by have := HBV.out.2; omega))).mono ?_⟩
      rintro e w3 ⟨A3, c3, rfl, ho3, hb3⟩
      have Z3 := Lib.hid ((hb3.block wr.heap.size hz2).trans Z1.out)
      have B3 := Lib.hid (BZ.out.trans (hb3.mono BZ.out.size))
      have hz3 : wr.heap.size < w3.heap.size := Nat.lt_of_lt_of_le hz2 hb3.size
      have c4 : w3.cell? ⟨wr.heap.size, 4, none⟩ = some (.slice v.a v.len v.cap) := by rw [cell_of_row _ _ 4 _ _ _ Z3.out]; rfl
      have f4 : w3.frozen? ⟨wr.heap.size, 4, none⟩ = false := frozen_of_row w3 _ 4 _ _ Z3.out
      have Z4 := Lib.hid (heap_setCell_same w3 wr.heap.size 4 _ _ (.slice A3 v.len c3) Z3.out)
      have B4 := Lib.hid (B3.out.setCell (p := ⟨wr.heap.size, 4, none⟩) (Nat.le_refl _) (.slice A3 v.len c3))
      have hJ4 : J pre (w3.setCell ⟨wr.heap.size, 4, none⟩ (.slice A3 v.len c3)) := hJ _ _ _ none HJS.out (below_grown B4.out) (fun r e => by cases e)
      have hY4 : BOwn (w3.setCell ⟨wr.heap.size, 4, none⟩ (.slice A3 v.len c3)) (w.heap.size + 1) A3 v.len c3 v.pk.bytes := (ho3.keep (fun j hj => Below.heap_setCell w3 _ _ j (by have := (ho3.base_le j hj).1; show j ≠ wr.heap.size; omega))).down (by have := HB.out.size; omega)
      obtain ⟨fn, tmps, assign, body, hy, hR⟩ := hY pre (v.with_ A3 c3) _ hJ4 (by omega) ⟨hY4, HBV.out.2⟩
      rw [show (v.with_ A3 c3).cells.toArray = (v.cells.set 4 (.slice A3 v.len c3)).toArray from rfl] at hy
      have HB4 := Lib.hid (HB.out.trans (B4.out.mono HB.out.size))
      clear ho3 hb3 Z1 HBV2 BZ B3 B4
      gi_wp2_with (first
        | (refine wpListIn_load_row rfl 34 (.tmp 4) rfl wr.heap.size rfl 34 _ (0, 0) _ Z4.out Try.underlying34 rfl HI.out ?_)
        | fail)
      refine ⟨fun h => by simp [Fence.wide] at h, hR.mono ?_⟩
      rintro e1 W3 ⟨rfl, hJ3, hk3⟩
      · have HB5 := Lib.hid (HB4.out.trans hk3)
        gi_wp2
        go_roundw
        case rel => exact ⟨k + 1, pre ++ [v.with_ A3 c3], hlt, by go_num, by rw [List.map_append, HPRE.out, List.take_add_one, HV.out, List.map_append]; rfl, hJ3, HB5.out⟩
        case measure => simp [intOf]; omega
    · obtain rfl : k = n := by omega
      gi_wp2
      go_end0
      exact ⟨⟨_, rfl⟩, ⟨pre, by rw [HPRE.out, List.take_of_length_le (by rw [HLN.out]; exact Nat.le_refl _)], HJS.out⟩⟩
end Go.Proofs.Ythajlhifgafpkaa
