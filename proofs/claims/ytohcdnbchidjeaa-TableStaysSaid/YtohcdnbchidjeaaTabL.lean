/-
  The chapter's examples: lives.
-/
import Derived.Test.YtohcdnbchidjeaaTabG
import Derived.Test.YtohcdnbchidjeaaTabK
namespace Go.Proofs.Ytohcdnbchidjeaa
open Go.RowKit
theorem PReads.new (w : World) (l : List P3) (T : TypeId) : PReads (w.alloc (.cells (p3sC l).toArray T)) (w.heap.size + 1) (some ⟨w.heap.size, 0, none⟩) l.length l := by
  refine ⟨p3sC_len l, fun _ => ⟨_, rfl, Nat.lt_succ_self _, fun j u hu => ?_⟩⟩
  have hp : (⟨w.heap.size, 0, none⟩ : Addr).add j = ⟨w.heap.size, j, none⟩ := by unfold Addr.add; split <;> simp_all
  rw [hp, World.cell?_alloc_at _ _ _ _ rfl]
  simpa using hu
theorem range_f {t : Tr} (hg : good t) (fr tt : ByteArray) (most : Int) (B : Nat) (p : Option Addr) (w : World) (h : Rep w B t p) (hB : B ≤ w.heap.size) (hn : t.cnt ≤ 1000000) :
    Calls Try.prog 22 #[.agg #[.pointer p], .string fr, .string tt, .int .i64 most] w (SlPost w (pvs (rangeL fr tt most t.flat))) := by
  have := range_v fr tt most t B p w h hB hn
  rwa [range_flat t _ _ _ hg.1] at this
theorem TCell.box (w : World) {t : Tr} {p : Option Addr} (h : Rep w w.heap.size t p) : TCell (w.alloc (.cells #[.pointer p] 24)) w.heap.size t p :=
  ⟨box1 w _ _, World.frozen?_alloc_at _ _ _ _ rfl, by rw [World.cell?_alloc_at _ _ _ _ rfl]; rfl, Rep.more (by simp) (h.alloc (Nat.le_refl _) _), by simp⟩
def sb (l : List UInt8) : ByteArray := ⟨l.toArray⟩
def lv1 : List P3 := [(sb [98], sb [50], false), (sb [97], sb [49], false), (sb [98], sb [51], false)]
def lv2 : List P3 := [(sb [98], sb [52], false), (sb [99], sb [53], false)]
def lw1 : List KV := [(sb [97], sb [49]), (sb [98], sb [51])]
def lw2 : List KV := [(sb [98], sb [52]), (sb [99], sb [53])]
def lw3 : List P3 := [(sb [97], sb [], true), (sb [98], sb [52], false), (sb [99], sb [53], false)]
theorem sb_list (l : List UInt8) : (sb l).toList = l := ByteArray.toList_mk l
theorem lv1_of : ofL lv1 = lw1 := by
  simp [ofL, lv1, lw1, putL, lo, gt, klt, sb_list, Op.bytesLess]
theorem lv2_of : ofL lv2 = lw2 := by
  simp [ofL, lv2, lw2, putL, lo, gt, klt, sb_list, Op.bytesLess]
theorem lw_chg : chg lw1 lw2 = lw3 := by
  simp [chg, lw1, lw2, lw3, klt, kbeq, sb_list, Op.bytesLess, gonep, pv]
  rfl
theorem btrans {w w1 w2 : World} {B : Nat} (h : Below B w w1) (k : Below w1.heap.size w1 w2) (hB : B ≤ w1.heap.size) : Below B w w2 := h.trans (k.mono hB)
set_option maxHeartbeats 2000000 in
theorem lives_v (w : World) : Calls Try.prog 11 #[] w fun e w' => e = .returned (.bool true) ∧ Below w.heap.size w w' := by
  have F1 := Lib.hid (show good (ofT lv1) ∧ (ofT lv1).flat = lw1 from ⟨(ofT_good lv1).1, (ofT_good lv1).2.trans lv1_of⟩)
  have F2 := Lib.hid (show good (ofT lv2) ∧ (ofT lv2).flat = lw2 from ⟨(ofT_good lv2).1, (ofT_good lv2).2.trans lv2_of⟩)
  have C1 := Lib.hid (show (ofT lv1).cnt ≤ 3 by rw [← flat_len, F1.out.2]; simp [lw1])
  have C2 := Lib.hid (show (ofT lv2).cnt ≤ 3 by rw [← flat_len, F2.out.2]; simp [lw2])
  go_enter Try.func11, Try.ntmps11
  go_wp2_with fail
  refine (of_v (w.heap.size + 1) (some ⟨w.heap.size, 0, none⟩) 3 3 lv1 _ (PReads.new w lv1 _) (by simp) (by omega) (by intro x hx; simp [lv1] at hx; rcases hx with rfl | rfl | rfl <;> decide)).mono ?_
  rintro e w1 ⟨p1, rfl, r1, hb1⟩
  have T1 := Lib.hid (TCell.box w1 r1)
  have hB1 := Lib.hid (show Below w.heap.size w w1 from ((Below.refl _ _).alloc (Nat.le_refl _) _).trans (hb1.mono (by simp)))
  clear hb1 r1
  go_wp2_with fail
  generalize hW2 : w1.alloc (.cells #[.pointer p1] 24) = w2 at *
  have hB2 := Lib.hid (show Below w.heap.size w w2 from by rw [← hW2]; exact hB1.out.alloc hB1.out.size _)
  have hz2 : w2.heap.size = w1.heap.size + 1 := by rw [← hW2]; simp
  rw [← hz2]
  have HW2 := Lib.hid hW2
  have HZ2 := Lib.hid hz2
  clear hW2 hz2
  refine (of_v (w2.heap.size + 1) (some ⟨w2.heap.size, 0, none⟩) 2 2 lv2 _ (PReads.new w2 lv2 _) (by simp) (by omega) (by intro x hx; simp [lv2] at hx; rcases hx with rfl | rfl <;> decide)).mono ?_
  rintro e w3 ⟨p2, rfl, r2, hb3⟩
  have hb23 : Below w2.heap.size w2 w3 := ((Below.refl _ _).alloc (Nat.le_refl _) _).trans (hb3.mono (by simp))
  have T13 := Lib.hid (T1.out.below hb23)
  have T2 := Lib.hid (TCell.box w3 r2)
  have T14 := Lib.hid (T13.out.alloc (.cells #[.pointer p2] 24))
  have hB4 := Lib.hid (show Below w.heap.size w (w3.alloc (.cells #[.pointer p2] 24)) from (btrans hB2.out hb23 hB2.out.size).alloc (Nat.le_trans hB2.out.size hb23.size) _)
  have c14 := T14.out.1
  clear hb3 hb23 r2 T1 T13
  go_wp2_with fail
  have T2' := T2
  generalize hW4 : w3.alloc (.cells #[.pointer p2] 24) = w4 at *
  clear hW4 c14 T2'
  have HR9 := Lib.hid (show rangeL ⟨#[]⟩ ⟨#[]⟩ 9 (ofT lv1).flat = lw1 by rw [F1.out.2]; exact range_all (n := 9) (by simp [lw1]))
  refine (range_f F1.out.1 ⟨#[]⟩ ⟨#[]⟩ 9 w4.heap.size p1 w4 T14.out.2.2.2.1 (Nat.le_refl _) (by have := C1.out; omega)).mono ?_
  rintro e w5 ⟨A5, c5, he, ho5, hb5⟩
  rw [HR9.out] at he ho5
  rw [show (pvs lw1).length = 2 from rfl] at he ho5
  subst he
  have HO5 := Lib.hid ho5
  have T15 := Lib.hid (T14.out.below hb5)
  have T25 := Lib.hid (T2.out.below hb5)
  have hB5 := Lib.hid (btrans hB4.out hb5 hB4.out.size)
  clear ho5 hb5
  go_wp2_with fail
  refine (pairs_v w5.heap.size (w5.heap.size + 1) A5 (some ⟨w5.heap.size, 0, none⟩) 2 2 c5 2 (pvs lw1) _ (Reads.alloc HO5.out.reads (Nat.le_refl _) _) (PReads.new w5 (pvs lw1) _) (by simp) (by simp) (by omega)).mono ?_
  rintro e w6 ⟨rfl, hb6⟩
  have hb56 : Below w5.heap.size w5 w6 := ((Below.refl _ _).alloc (Nat.le_refl _) _).trans (hb6.mono (by simp))
  have T16 := Lib.hid (T15.out.below hb56)
  have T26 := Lib.hid (T25.out.below hb56)
  have hB6 := Lib.hid (btrans hB5.out hb56 hB5.out.size)
  have c16 := T16.out.1
  have c26 := T26.out.1
  clear hb6 hb56 HO5 T15 T25 T14 T2
  go_wp2_with fail
  refine (changes_v (ofT lv1) (ofT lv2) w6.heap.size p1 p2 w6 T16.out.2.2.2.1 T26.out.2.2.2.1 (Nat.le_refl _) F1.out.1.1 (by have := C1.out; omega) (by have := C2.out; omega)).mono ?_
  rintro e w7 ⟨A7, c7, he, ho7, hb7⟩
  rw [F1.out.2, F2.out.2, lw_chg] at he ho7
  rw [show lw3.length = 3 from rfl] at he ho7
  subst he
  have HO7 := Lib.hid ho7
  have hB7 := Lib.hid (btrans hB6.out hb7 hB6.out.size)
  clear ho7 hb7 c16 c26
  go_wp2_with fail
  refine (pairs_v w7.heap.size (w7.heap.size + 1) A7 (some ⟨w7.heap.size, 0, none⟩) 3 3 c7 3 lw3 _ (Reads.alloc HO7.out.reads (Nat.le_refl _) _) (PReads.new w7 lw3 _) (by simp) (by simp) (by omega)).mono ?_
  rintro e w8 ⟨rfl, hb8⟩
  have hB8 := Lib.hid (show Below w.heap.size w w8 from btrans hB7.out (((Below.refl _ _).alloc (Nat.le_refl _) _).trans (hb8.mono (by simp))) hB7.out.size)
  clear hb8
  go_wp2
  go_ret
  exact ⟨rfl, hB8.out⟩
end Go.Proofs.Ytohcdnbchidjeaa
