/-
  The reference's table: Of.
-/
import Derived.Test.YtohcdnbchidjeaaTabQc
namespace Go.Proofs.Ytohcdnbchidjeaa
open Go.RowKit
def ofStepL (t : List KV) (x : P3) : List KV := putL x.1 x.2.1 t
theorem ofL_asc : ∀ (l : List P3) (t : List KV), asc t → asc (l.foldl ofStepL t)
  | [], _, h => h
  | _ :: l, _, h => ofL_asc l _ (asc_putL h)
theorem ofL_len : ∀ (l : List P3) (t : List KV), (l.foldl ofStepL t).length ≤ t.length + l.length
  | [], t => Nat.le_refl _
  | x :: l, t => by
    have h := ofL_len l (ofStepL t x)
    have h2 := len_putL x.1 x.2.1 t
    have h3 : (ofStepL t x).length ≤ t.length + 1 := h2
    simp only [List.foldl_cons, List.length_cons]
    omega
set_option maxHeartbeats 4000000 in
theorem rof_v (B : Nat) (A : Option Addr) (n c : Nat) (l : List P3) (w : World) (hr : PReads w B A n l) (hB : B ≤ w.heap.size) (hn : n ≤ 400000) :
    Calls Try.prog 37 #[.slice A n c] w (RPost w (ofL l)) := by
  have HN : Hid (l.length = n) := Lib.hid hr.len
  have R0 := Lib.hid ((RCell.new w).alloc (.cells #[.slice none 0 0] 44))
  have R1 := Lib.hid (by have := RCell.new (w.alloc (.cells #[.slice none 0 0] 44)); rwa [World.size_alloc] at this : RCell ((w.alloc (.cells #[.slice none 0 0] 44)).alloc (.cells #[.slice none 0 0] 44)) (w.heap.size + 1) [] none 0 0)
  have E1 := Lib.hid (show Below w.heap.size w ((w.alloc (.cells #[.slice none 0 0] 44)).alloc (.cells #[.slice none 0 0] 44)) from ((Below.refl _ _).alloc (Nat.le_refl _) _).alloc (by simp) _)
  have HR := Lib.hid hr
  clear hr
  go_enter Try.func37, Try.ntmps37
  go_wp2
  go_loopw [4] (fun i wr => ∃ (k : Nat) (A' : Option Addr) (n' c' : Nat), k ≤ n ∧ i = .int .i64 (k : Int) ∧ RCell wr (w.heap.size + 1) ((l.take k).foldl ofStepL []) A' n' c' ∧ RCell wr w.heap.size [] none 0 0 ∧ Below w.heap.size w wr) (fun i _ => n - (intOf i).toNat)
  case atStart => exact ⟨0, none, 0, 0, Nat.zero_le _, rfl, R1.out, R0.out, E1.out⟩
  case round =>
    obtain ⟨k, A', n', c', hkn, rfl, h1, h0, hb⟩ := hrel
    have H1 := Lib.hid h1
    have H0 := Lib.hid h0
    have HB := Lib.hid hb
    have hgs : w.heap.size + 1 < wr.heap.size := h1.2.2.2.2
    have ct := h1.1
    have HLT := Lib.hid (show (l.take k).length ≤ n by rw [List.length_take, HN.out]; omega)
    have HNL := Lib.hid (show n' ≤ 400000 by
      have h := ofL_len (l.take k) []
      have h2 : ((l.take k).foldl ofStepL []).length = n' := by rw [← h1.2.2.2.1.1.len, pvs_len]
      have := HLT.out
      simp at h
      omega)
    have GA := Lib.hid (ofL_asc (l.take k) [] trivial)
    clear h1 h0 hb
    by_cases hlt : k < n
    · obtain ⟨ad, x, he, had, hx, c0, c1, c2⟩ := PReads.at_ (Reads.below (show Reads w B 3 A n _ from HR.out) (HB.out.mono hB)) hlt
      subst he
      have HT := Lib.hid (show (l.take (k + 1)).foldl ofStepL [] = putL x.1 x.2.1 ((l.take k).foldl ofStepL []) by rw [take_snoc' hx, List.foldl_append]; rfl)
      clear hx
      obtain ⟨xk, xv, xg⟩ := x
      simp only [] at c0 c1 c2
      have hk0 : (0 : Int) ≤ (k : Int) := by omega
      have hk1 : (k : Int) < (n : Int) := by omega
      go_wp2_with fail
      go_still_tail 11, (by kernel_rfl)
      go_wp2_with fail
      refine (rput_v xk xv _ wr.drew.heap.size A' n' c' wr.drew H1.out.2.2.2.1 (Nat.le_refl _) GA.out (by have := HNL.out; omega)).mono ?_
      rintro e w1 ⟨A2, n2, c2, rfl, r1, hb1⟩
      have hb1' : Below wr.heap.size wr w1 := ((Below.refl _ _).drew).trans hb1
      have K1 := Lib.hid (H1.out.below hb1')
      have K0 := Lib.hid (H0.out.below hb1')
      have Q1 := Lib.hid r1
      have kf := K1.out.2.1
      have kc := K1.out.1
      have BB := Lib.hid hb1'
      clear hb1 hb1' r1 ct
      go_wp2
      go_roundw
      case rel => exact ⟨k + 1, A2, n2, c2, by omega, by go_num, by rw [HT.out]; exact K1.out.store Q1.out, K0.out.other K1.out.2.2.1 (by omega) _, (HB.out.trans (BB.out.mono HB.out.size)).setCell (by simp) _⟩
      case measure => simp [intOf]; omega
    · obtain rfl : k = n := by omega
      have HT := Lib.hid (show (l.take k).foldl ofStepL [] = ofL l by rw [List.take_of_length_le (by rw [HN.out]; exact Nat.le_refl _)]; rfl)
      have c1 := H1.out.1
      have c0 := H0.out.1
      have f0 := H0.out.2.1
      go_wp2
      refine bodyPost_ret (v := .agg #[.slice A' n' c']) (by simp [results, Try.results37, go_sem, c0]) rfl ?_
      have := (H0.out.store H1.out.2.2.2.1).2.2.2.1
      rw [HT.out] at this
      exact ⟨A', n', c', rfl, this, HB.out.setCell (by simp) _⟩
end Go.Proofs.Ytohcdnbchidjeaa
