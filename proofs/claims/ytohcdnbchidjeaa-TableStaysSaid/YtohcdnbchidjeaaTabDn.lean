/-
  The law's own: done (puts and drops in a row).
-/
import Derived.Test.YtohcdnbchidjeaaTabL
import Derived.StillTailTactics
namespace Go.Proofs.Ytohcdnbchidjeaa
open Go.RowKit
theorem cnt_done (l : List P3) : ∀ t : Tr, (l.foldl doneStep t).cnt ≤ t.cnt + l.length := by
  induction l with
  | nil => intro t; exact Nat.le_refl _
  | cons x l ih =>
    intro t
    have h := ih (doneStep t x)
    have h2 : (doneStep t x).cnt ≤ t.cnt + 1 := by
      unfold doneStep; split
      · have := cnt_drop t x.1; omega
      · exact cnt_put _ _ _
    simp only [List.foldl_cons, List.length_cons]
    omega
set_option maxHeartbeats 2000000 in
theorem done_v (B : Nat) (t : Tr) (p : Option Addr) (A : Option Addr) (n c : Nat) (l : List P3) (w : World) (ht : Rep w B t p) (hr : PReads w B A n l) (hB : B ≤ w.heap.size) (hn : n ≤ 400000) (htc : t.cnt ≤ 400000) (hk : smallK l) :
    Calls Try.prog 16 #[.agg #[.pointer p], .slice A n c] w (TabPost w (doneT t l)) := by
  have HN : Hid (l.length = n) := Lib.hid hr.len
  have T0 := Lib.hid ((TCell.box w (Rep.more hB ht)).alloc (.cells #[.pointer none] 24))
  have T1 := Lib.hid (by have := TCell.new (w.alloc (.cells #[.pointer p] 24)); rwa [World.size_alloc] at this : TCell ((w.alloc (.cells #[.pointer p] 24)).alloc (.cells #[.pointer none] 24)) (w.heap.size + 1) .nil none)
  have E1 := Lib.hid (show Below w.heap.size w ((w.alloc (.cells #[.pointer p] 24)).alloc (.cells #[.pointer none] 24)) from ((Below.refl _ _).alloc (Nat.le_refl _) _).alloc (by simp) _)
  have HR := Lib.hid hr
  have HK := Lib.hid hk
  clear hr hk ht
  go_enter Try.func16, Try.ntmps16
  go_wp2
  go_loopw [5] (fun i wr => ∃ (k : Nat) (q : Option Addr), k ≤ n ∧ i = .int .i64 (k : Int) ∧ TCell wr w.heap.size ((l.take k).foldl doneStep t) q ∧ TCell wr (w.heap.size + 1) .nil none ∧ Below w.heap.size w wr) (fun i _ => n - (intOf i).toNat)
  case atStart => exact ⟨0, p, Nat.zero_le _, rfl, T0.out, T1.out, E1.out⟩
  case round =>
    obtain ⟨k, q, hkn, rfl, ht0, ht1, hb⟩ := hrel
    have H1 := Lib.hid ht1
    have H0 := Lib.hid ht0
    have HB := Lib.hid hb
    have hgs : w.heap.size + 1 < wr.heap.size := ht1.2.2.2.2
    clear ht1 ht0 hb
    by_cases hlt : k < n
    · obtain ⟨ad, x, he, had, hx, c0, c1, c2⟩ := PReads.at_ (Reads.below (show Reads w B 3 A n _ from HR.out) (HB.out.mono hB)) hlt
      subst he
      have HKX := Lib.hid (HK.out.at_ hx)
      have HT := Lib.hid (take_snoc' hx)
      have HCN := Lib.hid (cnt_done (l.take k) t)
      have HLT := Lib.hid (show (l.take k).length ≤ n by rw [List.length_take, HN.out]; omega)
      clear hx
      obtain ⟨xk, xv, xg⟩ := x
      simp only [] at c0 c1 c2
      have ct := H0.out.1
      have hk0 : (0 : Int) ≤ (k : Int) := by omega
      have hk1 : (k : Int) < (n : Int) := by omega
      cases xg with
      | true =>
        have HST : Hid ((l.take (k + 1)).foldl doneStep t = ((l.take k).foldl doneStep t).drop xk) := Lib.hid (by rw [HT.out, List.foldl_append]; simp [doneStep])
        go_wp2_with fail
        go_still_tail 6, (by kernel_rfl)
        go_wp2_with fail
        refine (drop_v xk _ wr.drew.heap.size q wr.drew H0.out.2.2.2.1.drew (Nat.le_refl _) (by have := HCN.out; have := HLT.out; omega) HKX.out).mono ?_
        rintro e w1 ⟨q1, rfl, r1, hb1⟩
        have hb1' : Below wr.heap.size wr w1 := ((Below.refl _ _).drew).trans hb1
        have K0 := Lib.hid (H0.out.below hb1')
        have K1 := Lib.hid (H1.out.below hb1')
        have R1 := Lib.hid r1
        have kf := K0.out.2.1
        have kc := K0.out.1
        have BB := Lib.hid hb1'
        clear hb1 hb1' r1 ct
        go_wp2
        go_roundw
        case rel => exact ⟨k + 1, q1, by omega, by go_num, by rw [HST.out]; exact K0.out.store R1.out, K1.out.other K0.out.2.2.1 (by omega) _, (HB.out.trans (BB.out.mono HB.out.size)).setCell (by simp) _⟩
        case measure => simp [intOf]; omega
      | false =>
        have HST : Hid ((l.take (k + 1)).foldl doneStep t = ((l.take k).foldl doneStep t).put xk xv) := Lib.hid (by rw [HT.out, List.foldl_append]; simp [doneStep])
        go_wp2_with fail
        go_still_tail 11, (by kernel_rfl)
        go_wp2_with fail
        refine (put_v xk xv _ wr.drew.heap.size q wr.drew H0.out.2.2.2.1.drew (Nat.le_refl _) (by have := HCN.out; have := HLT.out; omega) HKX.out).mono ?_
        rintro e w1 ⟨q1, rfl, r1, hb1⟩
        have hb1' : Below wr.heap.size wr w1 := ((Below.refl _ _).drew).trans hb1
        have K0 := Lib.hid (H0.out.below hb1')
        have K1 := Lib.hid (H1.out.below hb1')
        have R1 := Lib.hid r1
        have kf := K0.out.2.1
        have kc := K0.out.1
        have BB := Lib.hid hb1'
        clear hb1 hb1' r1 ct
        go_wp2
        go_roundw
        case rel => exact ⟨k + 1, q1, by omega, by go_num, by rw [HST.out]; exact K0.out.store R1.out, K1.out.other K0.out.2.2.1 (by omega) _, (HB.out.trans (BB.out.mono HB.out.size)).setCell (by simp) _⟩
        case measure => simp [intOf]; omega
    · obtain rfl : k = n := by omega
      have HT := Lib.hid (show (l.take k).foldl doneStep t = doneT t l by rw [List.take_of_length_le (by rw [HN.out]; exact Nat.le_refl _)]; rfl)
      have c1 := H0.out.1
      have c0 := H1.out.1
      have f0 := H1.out.2.1
      go_wp2
      refine bodyPost_ret (v := .agg #[.pointer q]) (by simp [results, Try.results16, go_sem, c0]) rfl ?_
      have := (H1.out.store H0.out.2.2.2.1).2.2.2.1
      rw [HT.out] at this
      exact ⟨q, rfl, this, HB.out.setCell (by simp) _⟩
end Go.Proofs.Ytohcdnbchidjeaa
