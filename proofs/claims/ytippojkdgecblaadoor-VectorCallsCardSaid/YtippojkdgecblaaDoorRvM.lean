/-
  Vectors, the reference: Get, Read.
-/
import Derived.Test.YtippojkdgecblaaDoorRvL
namespace Go.Proofs.YtippojkdgecblaaDoor
open Go.RowKit
set_option maxHeartbeats 4000000 in
theorem rget_v {lo : Nat} (w : World) (gr n c i : Nat) (A : Option Addr) (L l : List UInt8) (h : RRdr lo w gr A n c L i l 0) :
    Calls Tryd.prog 44 #[.pointer (some ⟨gr, 0, none⟩)] w fun r w' => ∃ A' n' c', r = .returned (.slice A' n' c') ∧ VR w' A' n' (getB l).1 ∧ (∃ i2, RRdr lo w' gr A n c L i2 (getB l).2.1 (getB l).2.2) ∧ Below gr w w' := by
  have hgr := h.lt
  have H := Lib.hid h
  clear h
  go_enter Tryd.func44, Tryd.ntmps44
  go_wp2_with fail
  refine (rrcnt_v w gr n c i A L l H.out).mono ?_
  obtain ⟨len, hlen⟩ : ∃ len, (rdCnt (l, 0)).1 = len := ⟨_, rfl⟩
  obtain ⟨s0, hs0⟩ : ∃ s, (rdCnt (l, 0)).2 = s := ⟨_, rfl⟩
  have hl16 : len ≤ 16 := by rw [← hlen]; exact rdCnt_le _
  have HFB := Lib.hid (show getB l = getN len s0 by rw [getB, hlen, hs0])
  have HFT := Lib.hid (show fitV (getN len s0).1 from getN_fit _ _)
  rw [hlen, hs0]
  clear hlen hs0
  rintro e w1 ⟨rfl, ⟨i1, hR1⟩, hg1⟩
  have hb1 : Below gr w w1 := below_gb (Below.refl gr w) hg1 (Nat.le_of_lt hgr) (Nat.le_refl _)
  have HR1 := Lib.hid hR1
  clear hR1 hg1
  go_wp2_with fail
  go_loopw [3, 4] (fun v i wr => ∃ (k m c' j : Nat) (A' : Option Addr) (acc : List (Int × Nat)) (s : List UInt8 × Int), k ≤ len ∧ i = .int .i64 ((len - k : Nat) : Int) ∧ v = .slice A' m c' ∧ m = k ∧ COwn wr w.heap.size A' m c' acc ∧ RRdr lo wr gr A n c L j s.1 s.2 ∧ acc ++ (getN (len - k) s).1 = (getN len s0).1 ∧ (getN (len - k) s).2 = (getN len s0).2 ∧ Below gr w wr) (fun _ i _ => (intOf i).toNat)
  case atStart => exact ⟨0, 0, 0, i1, none, [], s0, Nat.zero_le _, rfl, rfl, rfl, COwn.nil_ _ _, HR1.out, rfl, rfl, hb1⟩
  case round =>
    obtain ⟨k, m, c', j, A', acc, s, hk, rfl, rfl, rfl, hown, hR, ha, hs2, hs⟩ := hrel
    have HO := Lib.hid hown
    have HR := Lib.hid hR
    have HA := Lib.hid ha
    have HS2 := Lib.hid hs2
    have ce := hR.err
    clear hown hR ha hs2
    by_cases hlt : m < len
    · have g0 : decide ((0 : Int) < ((len - m : Nat) : Int)) = true := by simp; omega
      by_cases he : s.2 = 0
      · have hst : getN (len - m) s = ((((min (rdNum s).1 17 : Nat) : Int), (rdNum (rdNum s).2).1) :: (getN (len - (m + 1)) (rdNum (rdNum s).2).2).1, (getN (len - (m + 1)) (rdNum (rdNum s).2).2).2) := by
          rw [show len - m = (len - (m + 1)) + 1 by omega, getN, if_neg (by simp [he])]
        rw [he] at ce
        obtain ⟨d, hd⟩ : ∃ d, (rdNum s).1 = d := ⟨_, rfl⟩
        obtain ⟨s1, hs1'⟩ : ∃ t, (rdNum s).2 = t := ⟨_, rfl⟩
        obtain ⟨v, hv⟩ : ∃ d, (rdNum s1).1 = d := ⟨_, rfl⟩
        obtain ⟨s2, hs2'⟩ : ∃ t, (rdNum s1).2 = t := ⟨_, rfl⟩
        have hd64 : d < 18446744073709551616 := by rw [← hd]; exact rdNum_64 _
        have hv64 : v < 18446744073709551616 := by rw [← hv]; exact rdNum_64 _
        rw [hd, hs1', hv, hs2'] at hst
        have HST := Lib.hid hst
        have HD := Lib.hid (show (rdNum (s.1, s.2)).1 = d ∧ (rdNum (s.1, s.2)).2 = s1 from ⟨hd, hs1'⟩)
        have HV := Lib.hid (show (rdNum (s1.1, s1.2)).1 = v ∧ (rdNum (s1.1, s1.2)).2 = s2 from ⟨hv, hs2'⟩)
        clear hst hd hs1' hv hs2' he
        go_wp2_with fail
        refine (rrnum_v wr gr n c j A L s.1 s.2 HR.out).mono ?_
        rw [HD.out.1, HD.out.2]
        rintro e w3 ⟨rfl, ⟨i3, hR3⟩, hg3⟩
        have hs3 := below_gb hs hg3 (by have := hs.size; omega) (Nat.le_refl _)
        have HO3 := Lib.hid (HO.out.otherg hg3 hgr)
        have HR3 := Lib.hid hR3
        clear hR3 hg3
        by_cases h17 : 17 < d
        · rw [show ((min d 17 : Nat) : Int) = 17 by omega] at HST
          have d17 : decide (17 < d) = true := by simpa using h17
          go_wp2_with fail
          refine (rrnum_v w3 gr n c i3 A L s1.1 s1.2 HR3.out).mono ?_
          rw [HV.out.1, HV.out.2]
          rintro e w4 ⟨rfl, ⟨i4, hR4⟩, hg4⟩
          have hs4 := below_gb hs3 hg4 (by have := hs3.size; omega) (Nat.le_refl _)
          have HO4 := Lib.hid (HO3.out.otherg hg4 hgr)
          have HR4 := Lib.hid hR4
          have hw4 : w.heap.size ≤ w4.heap.size := hs4.size
          clear hR4 hg4
          go_wp2_with (at_builtin; refine wpList_capp rfl (.tmp 21) (.tmp 28) 23 Tryd.underlying23 rfl w.heap.size A' m c' acc rfl (HO4.out.alloc _) (w4.heap.size + 1) (some ⟨w4.heap.size, 0, none⟩) 1 1 [((17 : Int), v)] rfl (CReads.one w4 _ _ _) (by omega) (by simp; omega) ?_; intro A5 c5 w5 ho5 hg5)
          have hs5 : Below gr w w5 := below_capp (hs4.alloc (by omega) _) hg5 (HO4.out.alloc _) (Nat.le_of_lt hgr) (by simp; omega)
          have hs6 : Below w.heap.size w4 w5 := below_capp ((Below.refl _ _).alloc hw4 _) hg5 (HO4.out.alloc _) (Nat.le_refl _) (by simp; omega)
          have HR5 := Lib.hid (HR4.out.below hs6 hgr)
          have HO5 := Lib.hid ho5
          clear hg5 ho5 hs6
          go_roundw
          case rel => exact ⟨m + 1, m + 1, c5, i4, A5, _, s2, hlt, by go_num, rfl, rfl, HO5.out, HR5.out, by have := HA.out; rw [HST.out] at this; rw [← this]; simp, by have := HS2.out; rw [HST.out] at this; exact this, hs5⟩
          case measure => simp [intOf]; omega
        · rw [show ((min d 17 : Nat) : Int) = (d : Int) by omega] at HST
          have d17 : decide (17 < d) = false := by simpa using h17
          go_wp2_with fail
          refine (rrnum_v w3 gr n c i3 A L s1.1 s1.2 HR3.out).mono ?_
          rw [HV.out.1, HV.out.2]
          rintro e w4 ⟨rfl, ⟨i4, hR4⟩, hg4⟩
          have hs4 := below_gb hs3 hg4 (by have := hs3.size; omega) (Nat.le_refl _)
          have HO4 := Lib.hid (HO3.out.otherg hg4 hgr)
          have HR4 := Lib.hid hR4
          have hw4 : w.heap.size ≤ w4.heap.size := hs4.size
          clear hR4 hg4
          go_wp2_with (at_builtin; refine wpList_capp rfl (.tmp 21) (.tmp 28) 23 Tryd.underlying23 rfl w.heap.size A' m c' acc rfl (HO4.out.alloc _) (w4.heap.size + 1) (some ⟨w4.heap.size, 0, none⟩) 1 1 [((d : Int), v)] rfl (CReads.one w4 _ _ _) (by omega) (by simp; omega) ?_; intro A5 c5 w5 ho5 hg5)
          have hs5 : Below gr w w5 := below_capp (hs4.alloc (by omega) _) hg5 (HO4.out.alloc _) (Nat.le_of_lt hgr) (by simp; omega)
          have hs6 : Below w.heap.size w4 w5 := below_capp ((Below.refl _ _).alloc hw4 _) hg5 (HO4.out.alloc _) (Nat.le_refl _) (by simp; omega)
          have HR5 := Lib.hid (HR4.out.below hs6 hgr)
          have HO5 := Lib.hid ho5
          clear hg5 ho5 hs6
          go_roundw
          case rel => exact ⟨m + 1, m + 1, c5, i4, A5, _, s2, hlt, by go_num, rfl, rfl, HO5.out, HR5.out, by have := HA.out; rw [HST.out] at this; rw [← this]; simp, by have := HS2.out; rw [HST.out] at this; exact this, hs5⟩
          case measure => simp [intOf]; omega
      · have hst : getN (len - m) s = ([], s) := by rw [show len - m = (len - (m + 1)) + 1 by omega, getN, if_pos he]
        have d1 : (s.2 == 0) = false := by rw [beq_eq_false_iff_ne]; exact he
        have HAE := Lib.hid (show acc = (getB l).1 by have := HA.out; rw [hst] at this; rw [HFB.out, ← this]; simp)
        have HSE := Lib.hid (show s = (getB l).2 by have := HS2.out; rw [hst] at this; rw [HFB.out, ← this])
        clear hst he
        go_wp2_with fail
        go_ret
        exact ⟨A', m, c', rfl, by rw [← HAE.out]; exact ⟨HO.out.reads, by omega, by rw [HAE.out, HFB.out]; exact HFT.out⟩, ⟨j, by rw [← HSE.out]; exact HR.out⟩, hs⟩
    · obtain rfl : m = len := by omega
      have g0 : ((m - m : Nat) : Int) = 0 := by omega
      have HAE := Lib.hid (show acc = (getB l).1 by have := HA.out; rw [Nat.sub_self] at this; rw [HFB.out, ← this]; simp [getN])
      have HSE := Lib.hid (show s = (getB l).2 by have := HS2.out; rw [Nat.sub_self] at this; rw [HFB.out, ← this]; rfl)
      rw [g0]
      clear g0
      go_wp2_with fail
      go_ret
      exact ⟨A', m, c', rfl, by rw [← HAE.out]; exact ⟨HO.out.reads, by omega, by rw [HAE.out, HFB.out]; exact HFT.out⟩, ⟨j, by rw [← HSE.out]; exact HR.out⟩, hs⟩
set_option maxHeartbeats 2000000 in
theorem rread_v (w : World) (A : Option Addr) (n c : Nat) (l : List UInt8) (hr : BReads w w.heap.size A n l) (hn : n ≤ 1000) :
    Calls Tryd.prog 19 #[.slice A n c] w fun e w' => ∃ A' n' c', e = .returned (.tuple #[.slice A' n' c', .int .i64 (readC l)]) ∧ VR w' A' n' (readV l) ∧ Below w.heap.size w w' := by
  go_enter Tryd.func19, Tryd.ntmps19
  go_wp2_with fail
  refine (rnew_v w.heap.size A n c l w hr (Nat.le_refl _) (by omega)).mono ?_
  rintro e w1 ⟨gr, A1, c1, rfl, hR, hb1⟩
  have HR := Lib.hid hR
  have hgp := hR.low
  clear hR
  go_wp2_with fail
  refine (rget_v w1 gr n c1 0 A1 l l HR.out).mono ?_
  rintro e w2 ⟨A2, n2, c2, rfl, hv2, ⟨i3, hR3⟩, hb2⟩
  have hs2 : Below w.heap.size w w2 := hb1.trans (hb2.mono hgp)
  have HV2 := Lib.hid hv2
  have HR3 := Lib.hid hR3
  clear hv2 hR3 hb1 hb2
  have EA := Lib.hid (rrend_v w2 gr n c1 i3 A1 l _ _ HR3.out)
  have HE := Lib.hid (show readE l = (decide (rdEnd ((getB l).2.1, (getB l).2.2) ≠ 0) || !okV 0 (getB l).1) from (readE_get l).1)
  have HVV := Lib.hid (readE_get l).2
  generalize rdEnd ((getB l).2.1, (getB l).2.2) = en at *
  by_cases hen : en = 0
  · subst hen
    cases hok : okV 0 (getB l).1
    · have HOK := Lib.hid hok
      have HRE := Lib.hid (show readE l = true by rw [HE.out, hok]; rfl)
      clear hok
      go_wp2_with fail
      refine EA.out.mono ?_
      rintro e w4 ⟨rfl, hb4⟩
      have HV4 := Lib.hid (HV2.out.step hb4)
      have hs4 := hs2.trans (hb4.mono hs2.size)
      go_wp2_with fail
      refine (rcheck_v w4.heap.size A2 n2 c2 _ w4 HV4.out.r (Nat.le_refl _) (by have := HV4.out.n; omega)).mono ?_
      rw [HOK.out]
      rintro e w3 ⟨rfl, hb3⟩
      have hs3 := hs4.trans (hb3.mono hs4.size)
      go_wp2_with fail
      go_ret2
      exact ⟨none, 0, 0, by rw [readC, HRE.out]; rfl, by rw [HVV.out, HRE.out]; exact ⟨Reads.none_, by omega, fun x hx => by cases hx⟩, hs3⟩
    · have HOK := Lib.hid hok
      have HRE := Lib.hid (show readE l = false by rw [HE.out, hok]; rfl)
      clear hok
      go_wp2_with fail
      refine EA.out.mono ?_
      rintro e w4 ⟨rfl, hb4⟩
      have HV4 := Lib.hid (HV2.out.step hb4)
      have hs4 := hs2.trans (hb4.mono hs2.size)
      go_wp2_with fail
      refine (rcheck_v w4.heap.size A2 n2 c2 _ w4 HV4.out.r (Nat.le_refl _) (by have := HV4.out.n; omega)).mono ?_
      rw [HOK.out]
      rintro e w3 ⟨rfl, hb3⟩
      have HV3 := Lib.hid (HV4.out.step hb3)
      have hs3 := hs4.trans (hb3.mono hs4.size)
      go_wp2_with fail
      go_ret2
      exact ⟨A2, n2, c2, by rw [readC, HRE.out]; rfl, by rw [HVV.out, HRE.out]; exact HV3.out, hs3⟩
  · have hb : (en != 0) = true := by rw [bne_iff_ne]; exact hen
    have HRE := Lib.hid (show readE l = true by rw [HE.out]; simp [hen])
    clear hen
    go_wp2_with fail
    refine EA.out.mono ?_
    rintro e w4 ⟨rfl, hb4⟩
    have hs4 := hs2.trans (hb4.mono hs2.size)
    go_wp2_with fail
    go_ret2
    exact ⟨none, 0, 0, by rw [readC, HRE.out]; rfl, by rw [HVV.out, HRE.out]; exact ⟨Reads.none_, by omega, fun x hx => by cases hx⟩, hs4⟩
end Go.Proofs.YtippojkdgecblaaDoor
