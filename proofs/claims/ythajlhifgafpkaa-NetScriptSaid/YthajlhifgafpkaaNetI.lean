/-
  Nets: Twice.
-/
import Derived.Test.YthajlhifgafpkaaNetH
namespace Go.Proofs.Ythajlhifgafpkaa
open Go.RowKit Go.Shelf
set_option maxRecDepth 100000 in
set_option maxHeartbeats 4000000 in
theorem twice_v {base g mb n c : Nat} {A : Option Addr} {vs : List PkV} {s : NS} (num : Nat) (w : World) (h : NetIs w base g mb A n c vs s) (hn : n ≤ 4096) (hl : s.last < 1000000000) :
    Calls Try.prog 14 #[.pointer (some ⟨g, 0, none⟩), .int .u64 (num : Int)] w fun e w' => ∃ A' n' c' vs', e = .returned (.tuple #[.int .u64 ((s.twice num).1.1 : Int), .int .i64 ((s.twice num).1.2 : Int)]) ∧ NetIs w' base g mb A' n' c' vs' (s.twice num).2 ∧ n' ≤ n + 1 ∧ Below base w w' ∧ NetCh g mb A n c A' n' c' w w' := by
  have H := Lib.hid h
  have hbs : base ≤ w.heap.size := Nat.le_of_lt (Nat.lt_of_le_of_lt h.b1 h.lt)
  have HFL := Lib.hid h.len
  have HI := Lib.hid (show (Try.prog.info? 34).map (·.size) = some 5 by kernel_rfl)
  clear h
  go_enter Try.func14, Try.ntmps14
  go_wp2_with fail
  refine (right_v w H.out).mono ?_
  rintro e _ ⟨rfl, rfl⟩
  go_wp2_with fail
  refine (find_v num w H.out hn).mono ?_
  rintro e w1 ⟨rfl, hb1⟩
  have H1 := Lib.hid (H.out.below hb1)
  have B1 := Lib.hid hb1
  have hz1 := hb1.size
  clear hb1 H
  cases hf : s.fl.findIdx? (fun p => p.num == num) with
  | none =>
    have HID := Lib.hid (show idxI (fun p => p.num == num) s.fl = -1 by rw [idxI, hf])
    have HT := Lib.hid (show s.twice num = ((0, 6), s) by rw [NS.twice, NS.find, hf])
    clear hf
    rw [HID.out]
    go_wp2
    go_ret2
    exact ⟨A, n, c, vs, by rw [HT.out]; rfl, by rw [HT.out]; exact H1.out, Nat.le_succ n, B1.out.mono hbs, NetCh.below B1.out g mb A n c⟩
  | some i =>
    have HID := Lib.hid (show idxI (fun p => p.num == num) s.fl = (i : Int) by rw [idxI, hf])
    have hin : i < n := by
      have := (List.findIdx?_eq_some_iff_getElem.1 hf).1
      rwa [H1.out.len] at this
    have HFI := Lib.hid (show s.find num = some i from hf)
    clear hf
    rw [HID.out]
    obtain ⟨ga, v, rfl, hbg, hgal, hv, hc⟩ := H1.out.hf.at_ hin
    have g1 := H1.out.c1
    have i0 : (0 : Int) ≤ (i : Int) := by omega
    by_cases hn4 : 4096 ≤ n
    · have HT := Lib.hid (show s.twice num = ((0, 3), s) by rw [NS.twice, HFI.out]; simp only [HFL.out, if_pos hn4])
      have q1 : decide ((4096 : Int) ≤ (n : Int)) = true := by simp; omega
      clear hv hc
      go_wp2
      go_ret2
      exact ⟨_, n, c, vs, by rw [HT.out]; rfl, by rw [HT.out]; exact H1.out, Nat.le_succ n, B1.out.mono hbs, NetCh.below B1.out g mb _ n c⟩
    have HC := Lib.hid (hc w1 rfl)
    have HPK := Lib.hid (show s.fl.getD i zeroPk = v.pk by rw [← H1.out.hv, List.getD_eq_getElem?_getD, List.getElem?_map, hv]; rfl)
    have hmem := List.mem_of_getElem? hv
    have HBV := Lib.hid (H1.out.hf.bytes v hmem)
    have HT := Lib.hid (show s.twice num = ((s.last + 1, 0), s.put v.pk.frm v.pk.too v.pk.run v.pk.bytes) by rw [NS.twice, HFI.out]; simp only [HFL.out, if_neg hn4, HPK.out])
    have HGL := Lib.hid (show g < w1.heap.size ∧ mb < w1.heap.size ∧ ga < w1.heap.size from ⟨H1.out.lt, H1.out.mlt, hgal⟩)
    have hbl := Lib.hid H1.out.hf.blt
    clear hv hc hmem hgal hbg
    have q1 : decide ((4096 : Int) ≤ (n : Int)) = false := by simp; omega
    have Z0 := Lib.hid (heap_alloc_new w1 (.cells #[.int .u64 0, .int .i64 0, .int .i64 0, .int .u64 0, .slice none 0 0] 34))
    have Z1 := Lib.hid (setRow_heap _ w1.heap.size _ v.cells.toArray _ _ Z0.out)
    have BZ := Lib.hid (below_setRow ((Below.refl w1.heap.size w1).alloc (Nat.le_refl _) (.cells #[.int .u64 0, .int .i64 0, .int .i64 0, .int .u64 0, .slice none 0 0] 34)) (Nat.le_refl _) v.cells.toArray)
    have H2 := Lib.hid (H1.out.below BZ.out)
    have B2 := Lib.hid (B1.out.trans (BZ.out.mono hz1))
    have HBV2 := Lib.hid (HBV.out.1.below BZ.out)
    have c4 : ((w1.alloc (.cells #[.int .u64 0, .int .i64 0, .int .i64 0, .int .u64 0, .slice none 0 0] 34)).setRow w1.heap.size v.cells.toArray).cell? ⟨w1.heap.size, 4, none⟩ = some (.slice v.a v.len v.cap) := by rw [cell_of_row _ _ 4 _ _ _ Z1.out]; rfl
    have hz2 : w1.heap.size < ((w1.alloc (.cells #[.int .u64 0, .int .i64 0, .int .i64 0, .int .u64 0, .slice none 0 0] 34)).setRow w1.heap.size v.cells.toArray).heap.size := by simp
    clear BZ B1
    go_wp2_with (first
      | (refine wpList_load_slot rfl 34 (.tmp 29) rfl ⟨ga, i * 5, none⟩ rfl v.cells _ HC.out Try.underlying34 rfl HI.out ?_)
      | (refine wpList_store_row rfl 34 (.tmp 7) (.tmp 30) rfl w1.heap.size v.cells.toArray rfl rfl 34 _ Z0.out HI.out rfl (PkV.all1 v) ?_)
      | fail)
    clear Z0 HC g1
    generalize (w1.alloc (.cells #[.int .u64 0, .int .i64 0, .int .i64 0, .int .u64 0, .slice none 0 0] 34)).setRow w1.heap.size v.cells.toArray = w2 at *
    refine (clone_any w2.heap.size v.a v.len v.cap v.pk.bytes w2 HBV2.out.reads (Nat.le_refl _) (by have := HBV.out.2; omega)).mono ?_
    rintro e w3 ⟨A3, c3, rfl, ho3, hb3⟩
    have Z3 := Lib.hid ((hb3.block w1.heap.size hz2).trans Z1.out)
    have H3 := Lib.hid (H2.out.below hb3)
    have B3 := Lib.hid (B2.out.trans (hb3.mono B2.out.size))
    have V3 := Lib.hid (ho3.down (show base ≤ w2.heap.size from Nat.le_trans hbs B2.out.size))
    have hVg := Lib.hid (show ∀ j, (Value.slice A3 v.len c3).ownBlock = some j → w2.heap.size ≤ j from fun j hj => (ho3.base_le j hj).1)
    have hz3 : w1.heap.size < w3.heap.size := Nat.lt_of_lt_of_le hz2 hb3.size
    have c4 : w3.cell? ⟨w1.heap.size, 4, none⟩ = some (.slice v.a v.len v.cap) := by rw [cell_of_row _ _ 4 _ _ _ Z3.out]; rfl
    have f4 : w3.frozen? ⟨w1.heap.size, 4, none⟩ = false := frozen_of_row w3 _ 4 _ _ Z3.out
    have Z4 := Lib.hid (heap_setCell_same w3 w1.heap.size 4 _ _ (.slice A3 v.len c3) Z3.out)
    clear ho3 hb3 H2 B2 Z1 HBV2
    go_wp2_with (first
      | (refine wpList_load_row rfl 34 (.tmp 7) rfl w1.heap.size rfl 34 _ (0, 0) _ Z4.out Try.underlying34 rfl HI.out ?_)
      | fail)
    have hk : ∀ j, j ≠ w1.heap.size → (w3.setCell ⟨w1.heap.size, 4, none⟩ (.slice A3 v.len c3)).heap[j]? = w3.heap[j]? := fun j hj => heap_setCell_other w3 ⟨w1.heap.size, 4, none⟩ j _ hj
    have H4 := Lib.hid (H3.out.aside w1.heap.size hk (by have := HGL.out.1; omega) (by have := HGL.out.2.1; omega) (fun e => by have := HGL.out.2.2; have := Option.some.inj e; simp at this; omega) (fun u hu j hj => by have := (hbl.out u hu j hj).2; omega))
    have V4 := Lib.hid (V3.out.keep (W' := w3.setCell ⟨w1.heap.size, 4, none⟩ (.slice A3 v.len c3)) (fun j hj => hk j (by have := hVg.out j hj; omega)))
    have B4 := Lib.hid (B3.out.setCell (p := ⟨w1.heap.size, 4, none⟩) hz1 (.slice A3 v.len c3))
    clear hk
    refine (put_v v.pk.num v.pk.frm v.pk.too v.pk.run v.pk.bytes A3 v.len c3 _ H4.out (by omega) hl V4.out HBV.out.2).mono ?_
    rintro e w6 ⟨A6, c6, v6, rfl, h6, b6, n6⟩
    have H6 := Lib.hid h6
    have B6 := Lib.hid ((B4.out.mono hbs).trans b6)
    have N6 := Lib.hid ((NetCh.below B4.out g mb (some ⟨ga, 0, none⟩) n c).trans n6)
    clear h6 b6 n6
    go_wp2
    go_ret2
    exact ⟨A6, n + 1, c6, v6, by rw [HT.out]; rfl, by rw [HT.out]; exact H6.out, Nat.le_refl _, B6.out, N6.out⟩
end Go.Proofs.Ythajlhifgafpkaa
