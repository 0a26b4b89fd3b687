/-
  Vectors: Read of any bytes, the program's side.
-/
import Derived.Test.YtippojkdgecblaaDoorCount
import Derived.Test.YtippojkdgecblaaDoorVecY
namespace Go.Proofs.YtippojkdgecblaaDoor
open Go.RowKit
/-- Reader.Count of at most 16. -/
def rdCnt (s : List UInt8 × Int) : Nat × (List UInt8 × Int) :=
  if s.2 ≠ 0 then (0, s) else if (numR s.1).2.2 ≠ 0 then (0, (s.1, (numR s.1).2.2)) else if 16 < (numR s.1).1 then (0, (s.1, 3)) else ((numR s.1).1, (s.1.drop (numR s.1).2.1, 0))
theorem rdCnt_bad (l : List UInt8) (h : (numR l).2.2 ≠ 0) : rdCnt (l, 0) = (0, (l, (numR l).2.2)) := by rw [rdCnt, if_neg (by simp), if_pos h]
theorem rdCnt_long (l : List UInt8) (h : (numR l).2.2 = 0) (h2 : 16 < (numR l).1) : rdCnt (l, 0) = (0, (l, 3)) := by rw [rdCnt, if_neg (by simp), if_neg (by simp [h]), if_pos h2]
theorem rdCnt_ok (l : List UInt8) (h : (numR l).2.2 = 0) (h2 : (numR l).1 ≤ 16) : rdCnt (l, 0) = ((numR l).1, (l.drop (numR l).2.1, 0)) := by rw [rdCnt, if_neg (by simp), if_neg (by simp [h]), if_neg (by simp only; omega)]
theorem rdCnt_le (s : List UInt8 × Int) : (rdCnt s).1 ≤ 16 := by
  unfold rdCnt
  split
  · simp
  · split
    · simp
    · split
      · simp
      · simp only; omega
theorem rdNum_64 (s : List UInt8 × Int) : (rdNum s).1 < 18446744073709551616 := by
  unfold rdNum
  split
  · simp
  · split
    · simp
    · exact (numR_bd s.1).1
/-- So many counts are read. -/
def fromN : Nat → List UInt8 × Int → List (Int × Nat) × (List UInt8 × Int)
  | 0, s => ([], s)
  | k + 1, s => ((((min (rdNum s).1 17 : Nat) : Int), (rdNum (rdNum s).2).1) :: (fromN k (rdNum (rdNum s).2).2).1, (fromN k (rdNum (rdNum s).2).2).2)
def fromB (l : List UInt8) : List (Int × Nat) × (List UInt8 × Int) := fromN (rdCnt (l, 0)).1 (rdCnt (l, 0)).2
theorem fromN_len : ∀ (k : Nat) (s : List UInt8 × Int), (fromN k s).1.length = k
  | 0, _ => rfl
  | k + 1, s => by rw [fromN, List.length_cons, fromN_len k]
theorem fromN_fit : ∀ (k : Nat) (s : List UInt8 × Int), fitV (fromN k s).1
  | 0, _ => fun x hx => by cases hx
  | k + 1, s => fun x hx => by
    rw [fromN] at hx
    rcases List.mem_cons.1 hx with rfl | hx
    · exact rdNum_64 _
    · exact fromN_fit k _ x hx
def readE (l : List UInt8) : Bool := decide (rdEnd (fromB l).2 ≠ 0) || !okV 0 (fromB l).1
def readC (l : List UInt8) : Int := if readE l = true then 4 else 0
def readV (l : List UInt8) : List (Int × Nat) := if readE l = true then [] else (fromB l).1
set_option maxHeartbeats 4000000 in
theorem count_any {lo : Nat} (w : World) (gp gr n c : Nat) (A : Option Addr) (l : List UInt8) (h : Rdr lo w gp gr A n c l 0) :
    Calls Tryd.prog 56 #[.pointer (some ⟨gr, 0, none⟩), .int .i64 16] w fun r w' => r = .returned (.int .i64 ((rdCnt (l, 0)).1 : Int)) ∧ (∃ A' n' c', Rdr lo w' gp gr A' n' c' (rdCnt (l, 0)).2.1 (rdCnt (l, 0)).2.2) ∧ w.grownBy w' (some gp) := by
  have hbd := numR_bd l
  by_cases hk : (numR l).2.2 = 0
  · by_cases hx16 : (numR l).1 ≤ 16
    · rw [rdCnt_ok l hk hx16]
      exact count_ok w gp gr n c A l h hk hx16
    · rw [rdCnt_long l hk (by omega)]
      have h1 := h.ptr
      have h2 := h.b
      generalize hx : (numR l).1 = x at *
      generalize hm : (numR l).2.1 = m at *
      have hcall : Hid (Calls Tryd.prog 70 #[.slice A n c] w fun e w' => e = .returned (.tuple #[.int .u64 (x : Int), .int .i64 (m : Int), .int .i64 0]) ∧ w = w') := by
        have := numb_any gp A n c l w h.reads h.small
        rw [hx, hm, hk] at this
        exact this
      have g1 : decide (16 < x) = true := decide_eq_true (by omega)
      have g2 : decide ((16 : Int) < (x : Int)) = true := by simp; omega
      have H := Lib.hid h
      have hx64 := hbd.1
      clear h hbd hx hm hk hx16
      go_enter Tryd.func56, Tryd.ntmps56
      go_wp2_with (first | (go_at_call 69; refine (right_any w gp gr n c A l 0 H.out).mono ?_; rintro e _ ⟨rfl, rfl⟩) | (go_at_call 70; refine hcall.out.mono ?_; rintro e _ ⟨rfl, rfl⟩) | (go_at_call 71; refine (fail_any w gp gr n c A l 0 3 H.out).mono ?_; rintro e w2 ⟨rfl, hr2, hg2⟩))
      go_ret
      exact ⟨rfl, ⟨_, _, _, hr2⟩, hg2⟩
  · rw [rdCnt_bad l hk]
    have h1 := h.ptr
    have h2 := h.b
    generalize hx : (numR l).1 = x at *
    generalize hm : (numR l).2.1 = m at *
    generalize hke : (numR l).2.2 = k at *
    have hb : (k != 0) = true := by rw [bne_iff_ne]; exact hk
    have hb2 : (k == 0) = false := by rw [beq_eq_false_iff_ne]; exact hk
    have hcall : Hid (Calls Tryd.prog 70 #[.slice A n c] w fun e w' => e = .returned (.tuple #[.int .u64 (x : Int), .int .i64 (m : Int), .int .i64 k]) ∧ w = w') := by
      have := numb_any gp A n c l w h.reads h.small
      rw [hx, hm, hke] at this
      exact this
    have H := Lib.hid h
    clear h hbd hx hm hke hk
    go_enter Tryd.func56, Tryd.ntmps56
    go_wp2_with (first | (go_at_call 69; refine (right_any w gp gr n c A l 0 H.out).mono ?_; rintro e _ ⟨rfl, rfl⟩) | (go_at_call 70; refine hcall.out.mono ?_; rintro e _ ⟨rfl, rfl⟩) | (go_at_call 71; refine (fail_any w gp gr n c A l 0 k H.out).mono ?_; rintro e w2 ⟨rfl, hr2, hg2⟩))
    go_ret
    exact ⟨rfl, ⟨_, _, _, hr2⟩, hg2⟩
theorem COwn.otherg {w w' : World} {base n c g : Nat} {A : Option Addr} {l : List (Int × Nat)} (h : COwn w base A n c l) (hg : w.grownBy w' (some g)) (hb : g < base) : COwn w' base A n c l := by
  refine ⟨⟨h.1.1, ?_⟩, h.2⟩
  rcases h.1.2 with hn | ⟨k, cap, cur, e, hk, hh, rest⟩
  · exact .inl hn
  · exact .inr ⟨k, cap, cur, e, hk, (hg.block k (Array.getElem?_eq_some_iff.1 hh).1 (by intro q; injection q with q; omega)).trans hh, rest⟩
theorem min17 (d : Nat) : (if 17 < d then (17 : Int) else (d : Int)) = ((min d 17 : Nat) : Int) := by split <;> omega
set_option maxHeartbeats 4000000 in
theorem from_any {lo : Nat} (w : World) (gp gr n c : Nat) (A : Option Addr) (l : List UInt8) (h : Rdr lo w gp gr A n c l 0) :
    Calls Tryd.prog 41 #[.pointer (some ⟨gr, 0, none⟩)] w fun r w' => ∃ A' n' c', r = .returned (.slice A' n' c') ∧ VR w' A' n' (fromB l).1 ∧ (∃ A2 n2 c2, Rdr lo w' gp gr A2 n2 c2 (fromB l).2.1 (fromB l).2.2) ∧ Below gp w w' := by
  have hgp := h.gplt
  have hgr := h.grlt
  have H := Lib.hid h
  clear h
  go_enter Tryd.func41, Tryd.ntmps41
  go_wp2_with fail
  refine (count_any w gp gr n c A l H.out).mono ?_
  obtain ⟨len, hlen⟩ : ∃ len, (rdCnt (l, 0)).1 = len := ⟨_, rfl⟩
  obtain ⟨s0, hs0⟩ : ∃ s, (rdCnt (l, 0)).2 = s := ⟨_, rfl⟩
  have hl16 : len ≤ 16 := by rw [← hlen]; exact rdCnt_le _
  have HFB := Lib.hid (show fromB l = fromN len s0 by rw [fromB, hlen, hs0])
  have HFT := Lib.hid (show fitV (fromN len s0).1 from fromN_fit _ _)
  rw [hlen, hs0]
  clear hlen hs0
  rintro e w1 ⟨rfl, ⟨A1, n1, c1, hR1⟩, hg1⟩
  have hb1 : Below gp w w1 := below_gb (Below.refl gp w) hg1 (Nat.le_of_lt hgp) (Nat.le_refl _)
  have HR1 := Lib.hid hR1
  have hs1 := hg1.size
  clear hR1 hg1
  go_wp2_with fail
  go_loopw [3, 4] (fun v i wr => ∃ (k m c' : Nat) (A' : Option Addr) (acc : List (Int × Nat)) (s : List UInt8 × Int), k ≤ len ∧ i = .int .i64 ((len - k : Nat) : Int) ∧ v = .slice A' m c' ∧ m = k ∧ COwn wr w.heap.size A' m c' acc ∧ (∃ A2 n2 c2, Rdr lo wr gp gr A2 n2 c2 s.1 s.2) ∧ acc ++ (fromN (len - k) s).1 = (fromN len s0).1 ∧ (fromN (len - k) s).2 = (fromN len s0).2 ∧ Below gp w wr) (fun _ i _ => (intOf i).toNat)
  case atStart => exact ⟨0, 0, 0, none, [], s0, Nat.zero_le _, rfl, rfl, rfl, COwn.nil_ _ _, ⟨_, _, _, HR1.out⟩, rfl, rfl, hb1⟩
  case round =>
    obtain ⟨k, m, c', A', acc, s, hk, rfl, rfl, rfl, hown, ⟨A2, n2, c2, hR⟩, ha, hs2, hs⟩ := hrel
    have HO := Lib.hid hown
    have HR := Lib.hid hR
    have HA := Lib.hid ha
    have HS2 := Lib.hid hs2
    clear hown hR ha hs2
    by_cases hlt : m < len
    · have hst : fromN (len - m) s = ((((min (rdNum s).1 17 : Nat) : Int), (rdNum (rdNum s).2).1) :: (fromN (len - (m + 1)) (rdNum (rdNum s).2).2).1, (fromN (len - (m + 1)) (rdNum (rdNum s).2).2).2) := by
        rw [show len - m = (len - (m + 1)) + 1 by omega, fromN]
      have g0 : decide ((0 : Int) < ((len - m : Nat) : Int)) = true := by simp; omega
      obtain ⟨d, hd⟩ : ∃ d, (rdNum s).1 = d := ⟨_, rfl⟩
      obtain ⟨s1, hs1'⟩ : ∃ t, (rdNum s).2 = t := ⟨_, rfl⟩
      obtain ⟨v, hv⟩ : ∃ d, (rdNum s1).1 = d := ⟨_, rfl⟩
      obtain ⟨s2, hs2'⟩ : ∃ t, (rdNum s1).2 = t := ⟨_, rfl⟩
      have hd64 : d < 18446744073709551616 := by rw [← hd]; exact rdNum_64 _
      have hv64 : v < 18446744073709551616 := by rw [← hv]; exact rdNum_64 _
      rw [hd, hs1', hv, hs2'] at hst
      have HST := Lib.hid hst
      have HD := Lib.hid (show (rdNum (s.1, s.2)).1 = d ∧ (rdNum (s.1, s.2)).2 = s1 from ⟨hd, hs1'⟩)
      have HV := Lib.hid (show (rdNum (s1.1, s1.2)).1 = v ∧ (rdNum (s1.1, s1.2)).2 = s2 from ⟨hv, hs2'⟩)
      clear hst hd hs1' hv hs2'
      go_wp2_with fail
      refine (rnum_any wr gp gr n2 c2 A2 s.1 s.2 HR.out).mono ?_
      rw [HD.out.1, HD.out.2]
      rintro e w3 ⟨rfl, ⟨A3, n3, c3, hR3⟩, hg3⟩
      have hs3 := below_gb hs hg3 (by have := hs.size; omega) (Nat.le_refl _)
      have HO3 := Lib.hid (HO.out.otherg hg3 hgp)
      have HR3 := Lib.hid hR3
      clear hR3 hg3
      by_cases h17 : 17 < d
      · rw [show ((min d 17 : Nat) : Int) = 17 by omega] at HST
        have d17 : decide (17 < d) = true := by simpa using h17
        go_wp2_with fail
        refine (rnum_any w3 gp gr n3 c3 A3 s1.1 s1.2 HR3.out).mono ?_
        rw [HV.out.1, HV.out.2]
        rintro e w4 ⟨rfl, ⟨A4, n4, c4, hR4⟩, hg4⟩
        have hs4 := below_gb hs3 hg4 (by have := hs3.size; omega) (Nat.le_refl _)
        have HO4 := Lib.hid (HO3.out.otherg hg4 hgp)
        have HR4 := Lib.hid hR4
        have hw4 : w.heap.size ≤ w4.heap.size := hs4.size
        clear hR4 hg4
        go_wp2_with (at_builtin; refine wpList_capp rfl (.tmp 14) (.tmp 21) 23 Tryd.underlying23 rfl w.heap.size A' m c' acc rfl (HO4.out.alloc _) (w4.heap.size + 1) (some ⟨w4.heap.size, 0, none⟩) 1 1 [((17 : Int), v)] rfl (CReads.one w4 _ _ _) (by omega) (by simp; omega) ?_; intro A5 c5 w5 ho5 hg5)
        have hs5 : Below gp w w5 := below_capp (hs4.alloc (by omega) _) hg5 (HO4.out.alloc _) (Nat.le_of_lt hgp) (by simp; omega)
        have hs6 : Below w.heap.size w4 w5 := below_capp ((Below.refl _ _).alloc hw4 _) hg5 (HO4.out.alloc _) (Nat.le_refl _) (by simp; omega)
        have HR5 := Lib.hid (HR4.out.below hs6 hgr)
        have HO5 := Lib.hid ho5
        clear hg5 ho5 hs6
        go_roundw
        case rel => exact ⟨m + 1, m + 1, c5, A5, _, s2, hlt, by go_num, rfl, rfl, HO5.out, ⟨_, _, _, HR5.out⟩, by have := HA.out; rw [HST.out] at this; rw [← this]; simp, by have := HS2.out; rw [HST.out] at this; exact this, hs5⟩
        case measure => simp [intOf]; omega
      · rw [show ((min d 17 : Nat) : Int) = (d : Int) by omega] at HST
        have d17 : decide (17 < d) = false := by simpa using h17
        go_wp2_with fail
        refine (rnum_any w3 gp gr n3 c3 A3 s1.1 s1.2 HR3.out).mono ?_
        rw [HV.out.1, HV.out.2]
        rintro e w4 ⟨rfl, ⟨A4, n4, c4, hR4⟩, hg4⟩
        have hs4 := below_gb hs3 hg4 (by have := hs3.size; omega) (Nat.le_refl _)
        have HO4 := Lib.hid (HO3.out.otherg hg4 hgp)
        have HR4 := Lib.hid hR4
        have hw4 : w.heap.size ≤ w4.heap.size := hs4.size
        clear hR4 hg4
        go_wp2_with (at_builtin; refine wpList_capp rfl (.tmp 14) (.tmp 21) 23 Tryd.underlying23 rfl w.heap.size A' m c' acc rfl (HO4.out.alloc _) (w4.heap.size + 1) (some ⟨w4.heap.size, 0, none⟩) 1 1 [((d : Int), v)] rfl (CReads.one w4 _ _ _) (by omega) (by simp; omega) ?_; intro A5 c5 w5 ho5 hg5)
        have hs5 : Below gp w w5 := below_capp (hs4.alloc (by omega) _) hg5 (HO4.out.alloc _) (Nat.le_of_lt hgp) (by simp; omega)
        have hs6 : Below w.heap.size w4 w5 := below_capp ((Below.refl _ _).alloc hw4 _) hg5 (HO4.out.alloc _) (Nat.le_refl _) (by simp; omega)
        have HR5 := Lib.hid (HR4.out.below hs6 hgr)
        have HO5 := Lib.hid ho5
        clear hg5 ho5 hs6
        go_roundw
        case rel => exact ⟨m + 1, m + 1, c5, A5, _, s2, hlt, by go_num, rfl, rfl, HO5.out, ⟨_, _, _, HR5.out⟩, by have := HA.out; rw [HST.out] at this; rw [← this]; simp, by have := HS2.out; rw [HST.out] at this; exact this, hs5⟩
        case measure => simp [intOf]; omega
    · obtain rfl : m = len := by omega
      have g0 : ((m - m : Nat) : Int) = 0 := by omega
      have HAE := Lib.hid (show acc = (fromB l).1 by have := HA.out; rw [Nat.sub_self] at this; rw [HFB.out, ← this]; simp [fromN])
      have HSE := Lib.hid (show s = (fromB l).2 by have := HS2.out; rw [Nat.sub_self] at this; rw [HFB.out, ← this]; rfl)
      rw [g0]
      clear g0
      go_wp2
      go_ret
      exact ⟨A', m, c', rfl, by rw [← HAE.out]; exact ⟨HO.out.reads, by omega, by rw [HAE.out, HFB.out]; exact HFT.out⟩, ⟨A2, n2, c2, by rw [← HSE.out]; exact HR.out⟩, hs⟩
set_option maxHeartbeats 2000000 in
theorem read_any (w : World) (A : Option Addr) (n c : Nat) (l : List UInt8) (hr : BReads w w.heap.size A n l) (hn : n ≤ 1000) :
    Calls Tryd.prog 17 #[.slice A n c] w fun e w' => ∃ A' n' c', e = .returned (.tuple #[.slice A' n' c', .int .i64 (readC l)]) ∧ VR w' A' n' (readV l) ∧ Below w.heap.size w w' := by
  go_enter Tryd.func17, Tryd.ntmps17
  go_wp2_with fail
  refine (new_any w.heap.size A n c l w hr (Nat.le_refl _) (by omega)).mono ?_
  rintro e w1 ⟨gp, gr, A1, c1, rfl, hgp, hR, hb1⟩
  have HR := Lib.hid hR
  clear hR
  go_wp2_with fail
  refine (from_any w1 gp gr n c1 A1 l HR.out).mono ?_
  rintro e w2 ⟨A2, n2, c2, rfl, hv2, ⟨A3, n3, c3, hR3⟩, hb2⟩
  have hs2 : Below w.heap.size w w2 := hb1.trans (hb2.mono hgp)
  have HV2 := Lib.hid hv2
  have HR3 := Lib.hid hR3
  clear hv2 hR3 hb1 hb2
  have EA := Lib.hid (end_any w2 gp gr n3 c3 A3 _ _ HR3.out)
  have HE := Lib.hid (show readE l = (decide (rdEnd ((fromB l).2.1, (fromB l).2.2) ≠ 0) || !okV 0 (fromB l).1) from rfl)
  have HVV := Lib.hid (show readV l = if readE l = true then [] else (fromB l).1 from rfl)
  generalize rdEnd ((fromB l).2.1, (fromB l).2.2) = en at *
  by_cases hen : en = 0
  · subst hen
    cases hok : okV 0 (fromB l).1
    · have HOK := Lib.hid hok
      have HRE := Lib.hid (show readE l = true by rw [HE.out, hok]; rfl)
      clear hok
      go_wp2_with fail
      refine EA.out.mono ?_
      rintro e _ ⟨rfl, rfl⟩
      go_wp2_with fail
      refine (check_r HV2.out).mono ?_
      rw [HOK.out]
      rintro e w3 ⟨rfl, hb3⟩
      have HV3 := Lib.hid (HV2.out.step hb3)
      have hs3 := hs2.trans (hb3.mono hs2.size)
      go_wp2_with fail
      go_ret2
      exact ⟨none, 0, 0, by rw [readC, HRE.out]; rfl, by rw [HVV.out, HRE.out]; exact ⟨Reads.none_, by omega, fun x hx => by cases hx⟩, hs3⟩
    · have HOK := Lib.hid hok
      have HRE := Lib.hid (show readE l = false by rw [HE.out, hok]; rfl)
      clear hok
      go_wp2_with fail
      refine EA.out.mono ?_
      rintro e _ ⟨rfl, rfl⟩
      go_wp2_with fail
      refine (check_r HV2.out).mono ?_
      rw [HOK.out]
      rintro e w3 ⟨rfl, hb3⟩
      have HV3 := Lib.hid (HV2.out.step hb3)
      have hs3 := hs2.trans (hb3.mono hs2.size)
      go_wp2_with fail
      go_ret2
      exact ⟨A2, n2, c2, by rw [readC, HRE.out]; rfl, by rw [HVV.out, HRE.out]; exact HV3.out, hs3⟩
  · have hb : (en != 0) = true := by rw [bne_iff_ne]; exact hen
    have HRE := Lib.hid (show readE l = true by rw [HE.out]; simp [hen])
    clear hen
    go_wp2_with fail
    refine EA.out.mono ?_
    rintro e _ ⟨rfl, rfl⟩
    go_wp2_with fail
    go_ret2
    exact ⟨none, 0, 0, by rw [readC, HRE.out]; rfl, by rw [HVV.out, HRE.out]; exact ⟨Reads.none_, by omega, fun x hx => by cases hx⟩, hs2⟩
end Go.Proofs.YtippojkdgecblaaDoor
