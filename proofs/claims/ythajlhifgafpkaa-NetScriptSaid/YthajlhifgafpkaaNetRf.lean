/-
  Nets, the reference: Send, Twice.
-/
import Derived.Test.YthajlhifgafpkaaNetRe
namespace Go.Proofs.Ythajlhifgafpkaa
open Go.RowKit Go.Shelf
theorem BOwn.readsB {w : World} {base n c : Nat} {A : Option Addr} {l : List UInt8} (h : BOwn w base A n c l) (B : Nat) (hB : ∀ j, (Value.slice A n c).ownBlock = some j → j < B) : BReads w B A n l := by
  have r := h.reads
  refine ⟨r.1, fun hn => ?_⟩
  obtain ⟨ad, e, hb, hc⟩ := r.2 hn
  subst e
  exact ⟨ad, rfl, hB _ rfl, hc⟩
set_option maxRecDepth 100000 in
set_option maxHeartbeats 4000000 in
theorem rsend_v {base g nl cl n c : Nat} {AL A : Option Addr} {s : NS} (a b : Int) (va : Option Addr) (vl vc B : Nat) (pb : List UInt8) (w : World) (h : RNy w base g AL nl cl A n c s) (hnl : nl ≤ 1000000) (hn : n ≤ 4096) (hl : s.last < 1000000000) (hb : BReads w B va vl pb) (hB : B ≤ base) (hbl : vl ≤ 140737488355328) :
    Calls Try.prog 51 #[.pointer (some ⟨g, 0, none⟩), .int .i64 a, .int .i64 b, .slice va vl vc] w fun e w' => e = .returned (.tuple #[.int .u64 ((s.send a b pb).1.1 : Int), .int .i64 ((s.send a b pb).1.2 : Int)]) ∧ ∃ nl' : Nat, nl' ≤ nl + 1 ∧ ∃ cl' AL' n' c' A',
      RNy w' base g AL' nl' cl' A' n' c' (s.send a b pb).2 ∧ Below base w w' ∧ RCh g AL nl cl A n c AL' nl' cl' A' n' c' w w' := by
  obtain ⟨vs, h⟩ := h
  have H := Lib.hid h
  have HB := Lib.hid hb
  have hpl := HB.out.len
  have HIS := Lib.hid (ris_v a b w h hnl)
  have HFI := Lib.hid (fun W : World => fine_v a b W)
  have hgb : base ≤ g ∧ g < w.heap.size ∧ s.fl.length = n := by
    obtain ⟨LL, h⟩ := h
    exact ⟨h.b1, h.lt, h.len⟩
  obtain ⟨r, hr⟩ : ∃ r, s.send a b pb = r := ⟨_, rfl⟩
  have HU := Lib.hid (show r = if okDev a b = false then ((0, 2), s) else if (s.link (keyI a b)).1 = false then ((0, 9), s) else if 4096 ≤ n ∨ 262144 < vl then ((0, 3), s) else ((s.last + 1, 0), s.put a b (s.link (keyI a b)).2 pb) from by rw [← hr, NS.send, hgb.2.2, hpl])
  rw [hr]
  clear h hb hr hpl
  go_enter Try.func51, Try.ntmps51
  go_wp2_with fail
  refine (HFI.out _).mono ?_
  rintro e _ ⟨rfl, rfl⟩
  cases hok : okDev a b with
  | false =>
    go_wp2_with fail
    go_ret2
    have HR := Lib.hid (show r = ((0, 2), s) by rw [HU.out, hok]; rfl)
    rw [HR.out]
    exact ⟨rfl, nl, Nat.le_succ _, cl, AL, n, c, A, ⟨vs, H.out⟩, Below.refl _ _, RCh.refl _ _ _ _ _ _ _ _⟩
  | true =>
    go_wp2_with fail
    have his : s.is a b = s.link (keyI a b) := by rw [NS.is, hok]; rfl
    have H2 := HIS.out
    rw [his] at H2
    obtain ⟨up, hup⟩ : ∃ u, (s.link (keyI a b)).1 = u := ⟨_, rfl⟩
    obtain ⟨rn, hrn⟩ : ∃ u, (s.link (keyI a b)).2 = u := ⟨_, rfl⟩
    have HUR := Lib.hid (And.intro hup hrn)
    rw [hup, hrn] at H2
    clear hup hrn
    refine H2.mono ?_
    rintro e w1 ⟨rfl, nl1, hn1, cl1, AL1, ⟨LL1, h1⟩, b1, r1⟩
    have H1 := Lib.hid h1
    have B1 := Lib.hid b1
    have R1 := Lib.hid r1
    have c1 := h1.c1
    clear h1 b1 r1 H2
    cases up with
    | false =>
      go_wp2_with fail
      go_ret2
      have HR := Lib.hid (show r = ((0, 9), s) by rw [HU.out, hok, HUR.out.1]; rfl)
      rw [HR.out]
      exact ⟨rfl, nl1, hn1, cl1, AL1, n, c, A, ⟨vs, LL1, H1.out⟩, B1.out, R1.out⟩
    | true =>
      by_cases hn4 : 4096 ≤ n
      · have q1 : decide ((4096 : Int) ≤ (n : Int)) = true := by simp; omega
        go_wp2_with fail
        go_ret2
        have HR := Lib.hid (show r = ((0, 3), s) by rw [HU.out, hok, HUR.out.1, if_neg (by decide), if_neg (by decide), if_pos (Or.inl hn4)])
        rw [HR.out]
        exact ⟨rfl, nl1, hn1, cl1, AL1, n, c, A, ⟨vs, LL1, H1.out⟩, B1.out, R1.out⟩
      · have q1 : decide ((4096 : Int) ≤ (n : Int)) = false := by simp; omega
        by_cases hv4 : 262144 < vl
        · have q2 : decide ((262144 : Int) < (vl : Int)) = true := by simp; omega
          go_wp2_with fail
          go_ret2
          have HR := Lib.hid (show r = ((0, 3), s) by rw [HU.out, hok, HUR.out.1, if_neg (by decide), if_neg (by decide), if_pos (Or.inr hv4)])
          rw [HR.out]
          exact ⟨rfl, nl1, hn1, cl1, AL1, n, c, A, ⟨vs, LL1, H1.out⟩, B1.out, R1.out⟩
        · have q2 : decide ((262144 : Int) < (vl : Int)) = false := by simp; omega
          go_wp2_with fail
          have hr1 : BReads w1 B va vl pb := Reads.below HB.out (B1.out.mono hB)
          refine (rput_v 0 a b rn pb va vl vc B w1 ⟨LL1, H1.out⟩ (by omega) hl (fun W' hW => hr1.keep fun p hp => World.cell?_of_block (hW p.block (by have := B1.out.size; omega) (by omega))) (by have := B1.out.size; omega) (by omega)).mono ?_
          rintro e w2 ⟨rfl, A2, c2, h2, b2, r2⟩
          have HR := Lib.hid (show r = ((s.last + 1, 0), s.put a b rn pb) by rw [HU.out, hok, HUR.out.1, HUR.out.2, if_neg (by decide), if_neg (by decide), if_neg (by omega)])
          have H2 := Lib.hid h2
          have B2 := Lib.hid (B1.out.trans b2)
          have R2 := Lib.hid (R1.out.trans r2)
          clear h2 b2 r2 c1
          go_wp2_with fail
          go_ret2
          rw [HR.out]
          exact ⟨rfl, nl1, hn1, cl1, AL1, n + 1, c2, A2, H2.out, B2.out, R2.out⟩
set_option maxRecDepth 100000 in
set_option maxHeartbeats 4000000 in
theorem rtwice_v {base g nl cl n c : Nat} {AL A : Option Addr} {s : NS} (num : Nat) (w : World) (h : RNy w base g AL nl cl A n c s) (hn : n ≤ 4096) (hl : s.last < 1000000000) :
    Calls Try.prog 50 #[.pointer (some ⟨g, 0, none⟩), .int .u64 (num : Int)] w fun e w' => e = .returned (.tuple #[.int .u64 ((s.twice num).1.1 : Int), .int .i64 ((s.twice num).1.2 : Int)]) ∧ ∃ n' c' A',
      RNy w' base g AL nl cl A' n' c' (s.twice num).2 ∧ Below base w w' ∧ RCh g AL nl cl A n c AL nl cl A' n' c' w w' := by
  obtain ⟨vs, LL, h⟩ := h
  have H := Lib.hid h
  have HFL := Lib.hid h.len
  have HI := Lib.hid (show (Try.prog.info? 34).map (·.size) = some 5 by kernel_rfl)
  have g1 := h.c1
  obtain ⟨r, hr⟩ : ∃ r, s.twice num = r := ⟨_, rfl⟩
  have HRR := Lib.hid hr
  rw [hr]
  clear h hr
  go_enter Try.func50, Try.ntmps50
  go_wp2_with fail
  refine (rfind_v num w ⟨LL, H.out⟩ hn).mono ?_
  rintro e _ ⟨rfl, rfl⟩
  cases hf : s.fl.findIdx? (fun p => p.num == num) with
  | none =>
    have HID := Lib.hid (show idxI (fun p => p.num == num) s.fl = -1 by rw [idxI, hf])
    have HT := Lib.hid (show r = ((0, 6), s) by rw [← HRR.out, NS.twice, NS.find, hf])
    clear hf
    rw [HID.out]
    go_wp2_with fail
    go_ret2
    rw [HT.out]
    exact ⟨rfl, n, c, A, ⟨vs, LL, H.out⟩, Below.refl _ _, RCh.refl _ _ _ _ _ _ _ _⟩
  | some i =>
    have HID := Lib.hid (show idxI (fun p => p.num == num) s.fl = (i : Int) by rw [idxI, hf])
    have hin : i < n := by
      have := (List.findIdx?_eq_some_iff_getElem.1 hf).1
      rwa [HFL.out] at this
    have HFI := Lib.hid (show s.find num = some i from hf)
    clear hf
    rw [HID.out]
    obtain ⟨ga, v, rfl, hbg, hgal, hv, hc⟩ := H.out.hf.at_ hin
    have i0 : (0 : Int) ≤ (i : Int) := by omega
    by_cases hn4 : 4096 ≤ n
    · have HT := Lib.hid (show r = ((0, 3), s) by rw [← HRR.out, NS.twice, HFI.out]; simp only [HFL.out, if_pos hn4])
      have q1 : decide ((4096 : Int) ≤ (n : Int)) = true := by simp; omega
      clear hv hc
      go_wp2_with fail
      go_ret2
      rw [HT.out]
      exact ⟨rfl, n, c, _, ⟨vs, LL, H.out⟩, Below.refl _ _, RCh.refl _ _ _ _ _ _ _ _⟩
    have q1 : decide ((4096 : Int) ≤ (n : Int)) = false := by simp; omega
    have HC := Lib.hid (hc w rfl)
    have HPK := Lib.hid (show s.fl.getD i zeroPk = v.pk by rw [← H.out.hv, List.getD_eq_getElem?_getD, List.getElem?_map, hv]; rfl)
    have hmem := List.mem_of_getElem? hv
    have HBV := Lib.hid (H.out.hf.bytes v hmem)
    have HT := Lib.hid (show r = ((s.last + 1, 0), s.put v.pk.frm v.pk.too v.pk.run v.pk.bytes) by rw [← HRR.out, NS.twice, HFI.out]; simp only [HFL.out, if_neg hn4, HPK.out])
    have HNE := Lib.hid (fun j hj => (H.out.apart.2.2.2 v hmem j hj).1)
    clear hv hc hmem hbg hgal
    go_wp2_with (first
      | (refine wpList_load_slot rfl 34 (.tmp 24) rfl ⟨ga, i * 5, none⟩ rfl v.cells _ HC.out Try.underlying34 rfl HI.out ?_)
      | fail)
    refine (rput_v v.pk.num v.pk.frm v.pk.too v.pk.run v.pk.bytes v.a v.len v.cap w.heap.size w ⟨LL, H.out⟩ (by omega) hl (fun W' hW => (HBV.out.1.keep (W' := W') fun j hj => hW j (HBV.out.1.base_le j hj).2 (HNE.out j hj)).readsB _ fun j hj => (HBV.out.1.base_le j hj).2) (Nat.le_refl _) HBV.out.2).mono ?_
    rintro e w2 ⟨rfl, A2, c2, h2, b2, r2⟩
    have H2 := Lib.hid h2
    have B2 := Lib.hid b2
    have R2 := Lib.hid r2
    clear h2 b2 r2 g1
    go_wp2_with fail
    go_ret2
    rw [HT.out]
    exact ⟨rfl, n + 1, c2, A2, H2.out, B2.out, R2.out⟩
end Go.Proofs.Ythajlhifgafpkaa
