/-
  Vectors: From, of the bytes of a vector that may be.
-/
import Derived.Test.YtippojkdgecblaaVecY
import Derived.Test.YtippojkdgecblaaCount
namespace Go.Proofs.Ytippojkdgecblaa
open Go.RowKit
theorem COwn.other {w w' : World} {base n c g : Nat} {A : Option Addr} {l : List (Int × Nat)} (h : COwn w base A n c l) (hg : w.grownBy w' (some g)) (hb : g < base) : COwn w' base A n c l := by
  refine ⟨⟨h.1.1, ?_⟩, h.2⟩
  rcases h.1.2 with hn | ⟨k, cap, cur, e, hk, hh, rest⟩
  · exact .inl hn
  · exact .inr ⟨k, cap, cur, e, hk, (hg.block k (Array.getElem?_eq_some_iff.1 hh).1 (by intro q; injection q with q; omega)).trans hh, rest⟩
theorem vecB_count (l : List (Int × Nat)) (h : l.length ≤ 16) : numR (vecB l) = (l.length, (num l.length).length, 0) := by
  rw [vecB, numR_num _ (by omega)]
theorem take_succ_of' {α : Type} {l : List α} {k : Nat} {x : α} (h : l[k]? = some x) : l.take (k + 1) = l.take k ++ [x] := by
  obtain ⟨hk, he⟩ := List.getElem?_eq_some_iff.1 h
  rw [List.take_succ_eq_append_getElem hk, he]
set_option maxHeartbeats 4000000 in
theorem from_v {lo : Nat} (w : World) (gp gr n c : Nat) (A : Option Addr) (l : List (Int × Nat)) (h : Rdr lo w gp gr A n c (vecB l) 0) (ho : okV 0 l = true) (hf : fitV l) :
    Calls Try.prog 27 #[.pointer (some ⟨gr, 0, none⟩)] w fun r w' => ∃ A' n' c', r = .returned (.slice A' n' c') ∧ VR w' A' n' l ∧ (∃ A2 n2 c2, Rdr lo w' gp gr A2 n2 c2 [] 0) ∧ Below gp w w' := by
  have hl16 : l.length ≤ 16 := by have := ok_len l 0 ho (by omega); omega
  have hgp := h.gplt
  have hgr := h.grlt
  have HALL := Lib.hid (ok_all l 0 ho)
  have HF := Lib.hid hf
  have HC := Lib.hid (vecB_count l hl16)
  have H := Lib.hid h
  clear h ho hf
  go_enter Try.func27, Try.ntmps27
  go_wp2_with fail
  refine (count_ok w gp gr n c A (vecB l) H.out (by rw [HC.out]) (by rw [HC.out]; exact hl16)).mono ?_
  rw [HC.out, show (vecB l).drop (num l.length).length = (l.map cntB).flatten by rw [vecB, List.drop_left]]
  rintro e w1 ⟨rfl, ⟨A1, n1, c1, hR1⟩, hg1⟩
  have hb1 : Below gp w w1 := below_gb (Below.refl gp w) hg1 (Nat.le_of_lt hgp) (Nat.le_refl _)
  have HR1 := Lib.hid hR1
  have hs1 := hg1.size
  obtain ⟨len, hlen⟩ : ∃ len, l.length = len := ⟨_, rfl⟩
  rw [hlen] at hl16 ⊢
  have HLEN := Lib.hid hlen
  clear hR1 hg1 hlen
  go_wp2_with fail
  go_loopw [3, 4] (fun v i wr => ∃ (k m c' : Nat) (A' : Option Addr), k ≤ len ∧ i = .int .i64 ((len - k : Nat) : Int) ∧ v = .slice A' m c' ∧ m = k ∧ COwn wr w.heap.size A' m c' (l.take k) ∧ (∃ A2 n2 c2, Rdr lo wr gp gr A2 n2 c2 ((l.drop k).map cntB).flatten 0) ∧ Below gp w wr) (fun _ i _ => (intOf i).toNat)
  case atStart => exact ⟨0, 0, 0, none, Nat.zero_le _, rfl, rfl, rfl, COwn.nil_ _ _, ⟨_, _, _, HR1.out⟩, hb1⟩
  case round =>
    obtain ⟨k, m, c', A', hk, rfl, rfl, rfl, hown, ⟨A2, n2, c2, hR⟩, hs⟩ := hrel
    have HO := Lib.hid hown
    have HR := Lib.hid hR
    clear hown hR
    by_cases hlt : m < len
    · obtain ⟨x, hx⟩ : ∃ x, l[m]? = some x := ⟨_, List.getElem?_eq_getElem (by rw [HLEN.out]; exact hlt)⟩
      have hx1 := HALL.out x (List.mem_of_getElem? hx)
      have hx64 : x.2 < 18446744073709551616 := HF.out x (List.mem_of_getElem? hx)
      have HX := Lib.hid hx
      clear hx
      obtain ⟨z, v⟩ := x
      obtain ⟨d, rfl⟩ := Int.eq_ofNat_of_zero_le (show 0 ≤ z by have := hx1.1; simp only at this; omega)
      simp only at hx1 hx64
      have hd16 : d ≤ 16 := by omega
      clear hx1
      have hdr : ((l.drop m).map cntB).flatten = num d ++ (num v ++ ((l.drop (m + 1)).map cntB).flatten) := by
        obtain ⟨hk2, he⟩ := List.getElem?_eq_some_iff.1 HX.out
        rw [List.drop_eq_getElem_cons hk2, he]
        simp [cntB]
      have hd1 := rdNum_num d (by omega) (num v ++ ((l.drop (m + 1)).map cntB).flatten)
      have hd2 := rdNum_num v hx64 ((l.drop (m + 1)).map cntB).flatten
      have HDR := Lib.hid hdr
      have HD1 := Lib.hid hd1
      have HD2 := Lib.hid hd2
      clear hdr hd1 hd2
      have g0 : decide ((0 : Int) < ((len - m : Nat) : Int)) = true := by simp; omega
      go_wp2_with fail
      refine (rnum_any wr gp gr n2 c2 A2 _ 0 HR.out).mono ?_
      rw [HDR.out, HD1.out]
      rintro e w3 ⟨rfl, ⟨A3, n3, c3, hR3⟩, hg3⟩
      have hs3 := below_gb hs hg3 (by have := hs.size; omega) (Nat.le_refl _)
      have HO3 := Lib.hid (HO.out.other hg3 hgp)
      have HR3 := Lib.hid hR3
      clear hR3 hg3
      go_wp2_with fail
      refine (rnum_any w3 gp gr n3 c3 A3 _ 0 HR3.out).mono ?_
      rw [HD2.out]
      rintro e w4 ⟨rfl, ⟨A4, n4, c4, hR4⟩, hg4⟩
      have hs4 := below_gb hs3 hg4 (by have := hs3.size; omega) (Nat.le_refl _)
      have HO4 := Lib.hid (HO3.out.other hg4 hgp)
      have HR4 := Lib.hid hR4
      have hw4 : w.heap.size ≤ w4.heap.size := hs4.size
      clear hR4 hg4
      go_wp2_with (at_builtin; refine wpList_capp rfl (.tmp 14) (.tmp 21) 22 Try.underlying22 rfl w.heap.size A' m c' (l.take m) rfl (HO4.out.alloc _) (w4.heap.size + 1) (some ⟨w4.heap.size, 0, none⟩) 1 1 [((d : Int), v)] rfl (CReads.one w4 _ _ _) (by omega) (by simp; omega) ?_; intro A5 c5 w5 ho5 hg5)
      have hs5 : Below gp w w5 := below_capp (hs4.alloc (by omega) _) hg5 (HO4.out.alloc _) (Nat.le_of_lt hgp) (by simp; omega)
      have hs6 : Below w.heap.size w4 w5 := below_capp ((Below.refl _ _).alloc hw4 _) hg5 (HO4.out.alloc _) (Nat.le_refl _) (by simp; omega)
      have HR5 := Lib.hid (HR4.out.below hs6 hgr)
      have HT := Lib.hid (take_succ_of' HX.out)
      have HO5 := Lib.hid ho5
      clear hg5 ho5 hs6
      go_roundw
      case rel => exact ⟨m + 1, m + 1, c5, A5, hlt, by go_num, rfl, rfl, by rw [HT.out]; exact HO5.out, ⟨_, _, _, HR5.out⟩, hs5⟩
      case measure => simp [intOf]; omega
    · obtain rfl : m = len := by omega
      have HT := Lib.hid (show l.take m = l by rw [List.take_of_length_le (by rw [HLEN.out]; exact Nat.le_refl _)])
      have HDD := Lib.hid (show ((l.drop m).map cntB).flatten = [] by rw [List.drop_of_length_le (by rw [HLEN.out]; exact Nat.le_refl _)]; rfl)
      have g0 : ((m - m : Nat) : Int) = 0 := by omega
      rw [g0]
      clear g0
      go_wp2
      go_ret
      exact ⟨A', m, c', rfl, by rw [← HT.out]; exact ⟨HO.out.reads, by omega, by rw [HT.out]; exact HF.out⟩, ⟨A2, n2, c2, by rw [← HDD.out]; exact HR.out⟩, hs⟩
end Go.Proofs.Ytippojkdgecblaa
