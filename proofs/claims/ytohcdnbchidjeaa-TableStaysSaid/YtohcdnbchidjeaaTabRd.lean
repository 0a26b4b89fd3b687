/-
  The reference's table: Drop.
-/
import Derived.Test.YtohcdnbchidjeaaTabRp
namespace Go.Proofs.Ytohcdnbchidjeaa
open Go.RowKit
theorem no_key {L : List KV} {key : ByteArray} (h : asc L) (hx : ∀ x, L[(lo key L).length]? = some x → x.1 ≠ key) : dropL key L = L := by
  have hn : getL key L = none := getL_none fun x hm => by
    rw [← lo_hi (q := key) h] at hm
    rcases List.mem_append.1 hm with hm | hm
    · exact klt_ne (mem_lo.1 hm).2
    · rw [← drop_lo key h, gt_else h hx] at hm
      exact (klt_ne (mem_gt.1 hm).2).symm
  rw [dropL, hn]
  rfl
theorem has_key {L : List KV} {key : ByteArray} (h : asc L) {y : KV} {k : Nat} (hy : L[k]? = some y) (he : y.1 = key) : dropL key L = lo key L ++ gt key L := by
  have := getL_mem (once_asc h) (List.mem_of_getElem? hy)
  rw [he] at this
  rw [dropL, this]
  rfl
theorem RTab.same {w w' : World} {B n c : Nat} {A : Option Addr} {L : List KV} (h : RTab w B A n c L) (hB : B ≤ w.heap.size) (hb : Below w.heap.size w w') : RTab w' w'.heap.size A n c L := ⟨Reads.more (Reads.below h.1 (hb.mono hB)) (Nat.le_trans hB hb.size), h.2⟩
set_option maxHeartbeats 4000000 in
theorem rdrop_same (key : ByteArray) (L : List KV) (B : Nat) (A : Option Addr) (n c : Nat) (w : World) (hr : RTab w B A n c L) (hB : B ≤ w.heap.size) (ha : asc L) (hn : n ≤ 1000000)
    (hx : ∀ x, L[(lo key L).length]? = some x → x.1 ≠ key) :
    Calls Try.prog 42 #[.agg #[.slice A n c], .string key] w (RPost w (dropL key L)) := by
  have HRT := Lib.hid hr
  obtain ⟨hr, hnc, hcm, hA⟩ := hr
  have HN := Lib.hid (show L.length = n by rw [← hr.len, pvs_len])
  have b0 : Below w.heap.size w ((w.alloc (.cells #[.slice A n c] 44)).alloc (.cells #[.slice none 0 0] 44)) := ((Below.refl _ _).alloc (Nat.le_refl _) _).alloc (by simp) _
  have HR := Lib.hid (Reads.below hr (b0.mono hB))
  have HB := Lib.hid b0
  have CT := Lib.hid (show ((w.alloc (.cells #[.slice A n c] 44)).alloc (.cells #[.slice none 0 0] 44)).cell? ⟨w.heap.size, 0, none⟩ = some (.slice A n c) by rw [World.cell?_alloc_lt _ _ _ (by simp)]; exact box1 w _ _)
  have CR := Lib.hid (show ((w.alloc (.cells #[.slice A n c] 44)).alloc (.cells #[.slice none 0 0] 44)).cell? ⟨w.heap.size + 1, 0, none⟩ = some (.slice none 0 0) by rw [World.cell?_alloc_at _ _ _ _ (by simp)]; rfl)
  have FR := Lib.hid (show ((w.alloc (.cells #[.slice A n c] 44)).alloc (.cells #[.slice none 0 0] 44)).frozen? ⟨w.heap.size + 1, 0, none⟩ = false from World.frozen?_alloc_at _ _ _ _ (by simp))
  have HSZ := Lib.hid (show ((w.alloc (.cells #[.slice A n c] 44)).alloc (.cells #[.slice none 0 0] 44)).heap.size = w.heap.size + 1 + 1 by simp)
  have HP := Lib.hid (fun V (hV : Below w.heap.size w V) => rplace_v key L B A n c V (Reads.below hr (hV.mono hB)) (Nat.le_trans hB hV.size) ha hn)
  have hlen := lo_len key L
  rw [HN.out] at hlen
  have HDL := Lib.hid (no_key ha hx)
  have HX := Lib.hid hx
  clear hr b0 hx
  generalize hk : (lo key L).length = k at *
  clear hk
  by_cases hkl : k < n
  · obtain ⟨y, hy⟩ : ∃ y, L[k]? = some y := ⟨_, List.getElem?_eq_getElem (by rw [HN.out]; exact hkl)⟩
    have HY := Lib.hid hy
    have g1 : (y.1.toList == key.toList) = false := (kbeq_false _ _).2 (HX.out y hy)
    have ge : ((k : Int) == (n : Int)) = false := by rw [beq_eq_false_iff_ne]; omega
    have hk0 : (0 : Int) ≤ (k : Int) := by omega
    have hk1 : (k : Int) < (n : Int) := by omega
    clear hy
    cases A with
    | none => exact absurd (hA rfl) (by omega)
    | some ad =>
      go_enter Try.func42, Try.ntmps42
      go_wp2_with fail
      generalize (w.alloc (.cells #[.slice (some ad) n c] 44)).alloc (.cells #[.slice none 0 0] 44) = w0 at *
      refine (HP.out w0 HB.out).mono ?_
      rintro e w1 ⟨rfl, hb1⟩
      have c1 := keepC hb1 CT.out (by have := HSZ.out; omega)
      have cr := keepC hb1 CR.out (by have := HSZ.out; omega)
      have fr := keepF hb1 FR.out (by have := HSZ.out; omega)
      have HB1 := Lib.hid (btrans HB.out hb1 HB.out.size)
      have d1 : w1.cell? (ad.add (k * 3)) = some (.string y.1) := PReads.key (Reads.below HR.out (hb1.mono (by have := HSZ.out; omega))) HY.out
      clear hb1 HR HB CT CR FR HSZ HP
      go_wp2
      refine bodyPost_ret (v := .agg #[.slice (some ad) n c]) (by simp [results, Try.results42, go_sem, cr]) rfl ?_
      rw [HDL.out]
      have hbf := HB1.out.setCell (p := ⟨w.heap.size + 1, 0, none⟩) (show w.heap.size ≤ w.heap.size + 1 by omega) (.slice (some ad) n c)
      exact ⟨some ad, n, c, rfl, HRT.out.same hB hbf, hbf⟩
  · obtain rfl : k = n := by omega
    go_enter Try.func42, Try.ntmps42
    go_wp2_with fail
    generalize (w.alloc (.cells #[.slice A k c] 44)).alloc (.cells #[.slice none 0 0] 44) = w0 at *
    refine (HP.out w0 HB.out).mono ?_
    rintro e w1 ⟨rfl, hb1⟩
    have c1 := keepC hb1 CT.out (by have := HSZ.out; omega)
    have cr := keepC hb1 CR.out (by have := HSZ.out; omega)
    have fr := keepF hb1 FR.out (by have := HSZ.out; omega)
    have HB1 := Lib.hid (btrans HB.out hb1 HB.out.size)
    clear hb1 HR HB CT CR FR HSZ HP
    go_wp2
    refine bodyPost_ret (v := .agg #[.slice A k c]) (by simp [results, Try.results42, go_sem, cr]) rfl ?_
    rw [HDL.out]
    have hbf := HB1.out.setCell (p := ⟨w.heap.size + 1, 0, none⟩) (show w.heap.size ≤ w.heap.size + 1 by omega) (.slice A k c)
    exact ⟨A, k, c, rfl, HRT.out.same hB hbf, hbf⟩
end Go.Proofs.Ytohcdnbchidjeaa
