/-
  The reference's table: Changes.
-/
import Derived.Test.YtohcdnbchidjeaaTabQe
namespace Go.Proofs.Ytohcdnbchidjeaa
open Go.RowKit
structure RChS (w : World) (B : Nat) (A : Option Addr) (n c : Nat) (L : List KV) (A' : Option Addr) (n' c' : Nat) (M : List KV) (A1 : Option Addr) (c1 : Nat) (out : List P3) (V : World) : Prop where
  t : V.cell? ⟨w.heap.size, 0, none⟩ = some (.slice A n c)
  u : V.cell? ⟨w.heap.size + 1, 0, none⟩ = some (.slice A' n' c')
  p : PReads V B A n (pvs L)
  q : PReads V B A' n' (pvs M)
  o : POwn V (w.heap.size + 1 + 1) A1 out.length c1 out
  b : Below w.heap.size w V
  z : w.heap.size + 1 + 1 ≤ V.heap.size
section
variable {w V V' : World} {B n c n' c' c1 : Nat} {A A' A1 : Option Addr} {L M : List KV} {out : List P3}
theorem RChS.below (h : RChS w B A n c L A' n' c' M A1 c1 out V) (hB : B ≤ w.heap.size) (hb : Below V.heap.size V V') : RChS w B A n c L A' n' c' M A1 c1 out V' :=
  ⟨keepC hb h.t (by have := h.z; omega), keepC hb h.u (by have := h.z; omega), Reads.below h.p (hb.mono (by have := h.z; omega)), Reads.below h.q (hb.mono (by have := h.z; omega)), h.o.below hb, btrans h.b hb h.b.size, Nat.le_trans h.z hb.size⟩
theorem RChS.app {x : P3} {A3 : Option Addr} {c3 : Nat} (h : RChS w B A n c L A' n' c' M A1 c1 out V) (hB : B ≤ w.heap.size) (ho : POwn V' (w.heap.size + 1 + 1) A3 (out.length + 1) c3 (out ++ [x])) (hg : V.grownBy V' (Value.slice A1 out.length c1).ownBlock) :
    RChS w B A n c L A' n' c' M A3 c3 (out ++ [x]) V' := by
  have hb := below_papp (Below.refl (w.heap.size + 1 + 1) V) hg h.o (Nat.le_refl _) h.z
  exact ⟨(hb.cell (p := ⟨w.heap.size, 0, none⟩) (by show w.heap.size < _; omega)).trans h.t, (hb.cell (p := ⟨w.heap.size + 1, 0, none⟩) (by show w.heap.size + 1 < _; omega)).trans h.u, Reads.below h.p (hb.mono (by omega)), Reads.below h.q (hb.mono (by omega)),
    by simpa using ho, h.b.trans (hb.mono (by omega)), Nat.le_trans h.z hg.size⟩
end
theorem drop_at {α : Type} {L : List α} {j : Nat} {y : α} (h : L[j]? = some y) : L.drop j = y :: L.drop (j + 1) := by
  obtain ⟨h1, rfl⟩ := List.getElem?_eq_some_iff.1 h
  exact List.drop_eq_getElem_cons h1
set_option maxHeartbeats 8000000 in
set_option maxRecDepth 100000 in
theorem rchanges_v (L M : List KV) (B : Nat) (A A' : Option Addr) (n c n' c' : Nat) (w : World) (hr : PReads w B A n (pvs L)) (hr' : PReads w B A' n' (pvs M)) (hB : B ≤ w.heap.size) (hn : n ≤ 1000000) (hn' : n' ≤ 1000000) :
    Calls Try.prog 34 #[.agg #[.slice A n c], .agg #[.slice A' n' c']] w (SlPost w (chg L M)) := by
  have HN := Lib.hid (show L.length = n by rw [← hr.len, pvs_len])
  have HN' := Lib.hid (show M.length = n' by rw [← hr'.len, pvs_len])
  have C0 : Hid (RChS w B A n c L A' n' c' M none 0 [] ((w.alloc (.cells #[.slice A n c] 44)).alloc (.cells #[.slice A' n' c'] 44))) := Lib.hid (by
    have b0 : Below w.heap.size w ((w.alloc (.cells #[.slice A n c] 44)).alloc (.cells #[.slice A' n' c'] 44)) := ((Below.refl _ _).alloc (Nat.le_refl _) _).alloc (by simp) _
    exact ⟨by rw [World.cell?_alloc_lt _ _ _ (by simp)]; exact box1 w _ _, by rw [World.cell?_alloc_at _ _ _ _ (by simp)]; rfl, Reads.below hr (b0.mono hB), Reads.below hr' (b0.mono hB), POwn.nil_ _ _, b0, by simp⟩)
  clear hr hr'
  go_enter Try.func34, Try.ntmps34
  go_wp2
  generalize (w.alloc (.cells #[.slice A n c] 44)).alloc (.cells #[.slice A' n' c'] 44) = w0 at *
  go_loopw [5, 6, 7] (fun so si sk wr => ∃ (i k : Nat) (out : List P3) (A1 : Option Addr) (c1 : Nat), i ≤ n ∧ k ≤ n' ∧ so = .slice A1 out.length c1 ∧ si = .int .i64 (i : Int) ∧ sk = .int .i64 (k : Int) ∧ RChS w B A n c L A' n' c' M A1 c1 out wr ∧ Hid (out.length ≤ i + k ∧ chg L M = out ++ chg (L.drop i) (M.drop k))) (fun _ si sk _ => (n - (intOf si).toNat) + (n' - (intOf sk).toNat))
  case atStart => exact ⟨0, 0, [], none, 0, Nat.zero_le _, Nat.zero_le _, rfl, rfl, rfl, C0.out, Lib.hid ⟨Nat.le_refl _, rfl⟩⟩
  case round =>
    obtain ⟨i, k, out, A1, c1, hi, hk, rfl, rfl, rfl, hcs, HO⟩ := hrel
    have CW := Lib.hid hcs
    have ct := hcs.t
    have cu := hcs.u
    clear hcs C0
    by_cases hil : i < n
    · skip
      obtain ⟨ad, z, hA, _, hz, dd0, dd1, dd2⟩ := PReads.at_ CW.out.p hil
      clear dd0 dd1 dd2
      subst hA
      obtain ⟨x, hx, rfl⟩ := pvs_at hz
      have HX := Lib.hid hx
      have HP : Hid (∀ V, PReads V B (some ad) n (pvs L) → V.cell? (ad.add (i * 3)) = some (.string x.1) ∧ V.cell? ⟨(ad.add (i * 3)).block, (ad.add (i * 3)).off + 1, none⟩ = some (.string x.2) ∧ V.cell? ⟨(ad.add (i * 3)).block, (ad.add (i * 3)).off + 2, none⟩ = some (.bool false)) := Lib.hid fun V h => by
        obtain ⟨a2, z2, hA2, _, hz2, d0, d1, d2⟩ := PReads.at_ h hil
        obtain rfl : ad = a2 := by injection hA2
        obtain ⟨y2, hy2, rfl⟩ := pvs_at hz2
        rw [HX.out] at hy2
        injection hy2 with hy2
        subst hy2
        exact ⟨d0, d1, d2⟩
      have hi0 : (0 : Int) ≤ (i : Int) := by omega
      have hi1 : (i : Int) < (n : Int) := by omega
      clear hz hx
      
      by_cases hkl : k < n'
      · skip
        obtain ⟨ae, z, hA, _, hz, dd0, dd1, dd2⟩ := PReads.at_ CW.out.q hkl
        clear dd0 dd1 dd2
        subst hA
        obtain ⟨y, hy, rfl⟩ := pvs_at hz
        have HY := Lib.hid hy
        have HQ : Hid (∀ V, PReads V B (some ae) n' (pvs M) → V.cell? (ae.add (k * 3)) = some (.string y.1) ∧ V.cell? ⟨(ae.add (k * 3)).block, (ae.add (k * 3)).off + 1, none⟩ = some (.string y.2) ∧ V.cell? ⟨(ae.add (k * 3)).block, (ae.add (k * 3)).off + 2, none⟩ = some (.bool false)) := Lib.hid fun V h => by
          obtain ⟨a2, z2, hA2, _, hz2, d0, d1, d2⟩ := PReads.at_ h hkl
          obtain rfl : ae = a2 := by injection hA2
          obtain ⟨y2, hy2, rfl⟩ := pvs_at hz2
          rw [HY.out] at hy2
          injection hy2 with hy2
          subst hy2
          exact ⟨d0, d1, d2⟩
        have hk0 : (0 : Int) ≤ (k : Int) := by omega
        have hk1 : (k : Int) < (n' : Int) := by omega
        clear hz hy
        
        have hkd : ((k : Int) == (n' : Int)) = false := by rw [beq_eq_false_iff_ne]; omega
        have hid : ((i : Int) == (n : Int)) = false := by rw [beq_eq_false_iff_ne]; omega
        have e0 : wr.cell? (ad.add (i * 3)) = some (.string x.1) := (HP.out _ CW.out.p).1
        have f0 : wr.cell? (ae.add (k * 3)) = some (.string y.1) := (HQ.out _ CW.out.q).1
        cases hlt : klt x.1 y.1
        · have g1 : Op.bytesLess x.1.toList y.1.toList = false := hlt
          have HLT := Lib.hid hlt
          clear hlt
          cases heq : kbeq x.1 y.1
          · have g2 : (x.1.toList == y.1.toList) = false := heq
            have HEQ := Lib.hid heq
            clear heq
            go_wp2_with fail
            go_quiet (fail)

            have CV := Lib.hid (CW.out.below hB (below_drewN (Below.refl _ wr) nq))
            clear ct cu e0 f0
            generalize wr.drewN nq = wa at *
            have ct := CV.out.t
            have cu := CV.out.u
            have e0 : wa.cell? (ad.add (i * 3)) = some (.string x.1) := (HP.out _ CV.out.p).1
            have e1 : wa.cell? ⟨(ad.add (i * 3)).block, (ad.add (i * 3)).off + 1, none⟩ = some (.string x.2) := (HP.out _ CV.out.p).2.1
            have f0 : wa.cell? (ae.add (k * 3)) = some (.string y.1) := (HQ.out _ CV.out.q).1
            have f1 : wa.cell? ⟨(ae.add (k * 3)).block, (ae.add (k * 3)).off + 1, none⟩ = some (.string y.2) := (HQ.out _ CV.out.q).2.1
            have f2 : wa.cell? ⟨(ae.add (k * 3)).block, (ae.add (k * 3)).off + 2, none⟩ = some (.bool false) := (HQ.out _ CV.out.q).2.2
            
            go_wp2_with fail
            go_quiet (fail)

            have CU := Lib.hid (CV.out.below hB (below_drewN (Below.refl _ wa) nq))
            clear ct cu e0 e1 f0 f1 f2
            generalize wa.drewN nq = wb at *
            have ct := CU.out.t
            have cu := CU.out.u
            have e0 : wb.cell? (ad.add (i * 3)) = some (.string x.1) := (HP.out _ CU.out.p).1
            have e1 : wb.cell? ⟨(ad.add (i * 3)).block, (ad.add (i * 3)).off + 1, none⟩ = some (.string x.2) := (HP.out _ CU.out.p).2.1
            have f0 : wb.cell? (ae.add (k * 3)) = some (.string y.1) := (HQ.out _ CU.out.q).1
            have f1 : wb.cell? ⟨(ae.add (k * 3)).block, (ae.add (k * 3)).off + 1, none⟩ = some (.string y.2) := (HQ.out _ CU.out.q).2.1
            have f2 : wb.cell? ⟨(ae.add (k * 3)).block, (ae.add (k * 3)).off + 2, none⟩ = some (.bool false) := (HQ.out _ CU.out.q).2.2
            
            have HST := Lib.hid (show chg L M = (out ++ [pv y]) ++ chg (L.drop (i + 0)) (M.drop (k + 1)) by rw [HO.out.2, drop_at HX.out, drop_at HY.out, chg_gt (klt_total (fun e => by have := HEQ.out; rw [e, kbeq_self] at this; cases this) HLT.out)]; simp [← drop_at HX.out])
            have OA := Lib.hid (CU.out.below hB ((Below.refl _ wb).alloc (Nat.le_refl _) (.cells #[.string y.1, .string y.2, .bool false] 39)))
            have RA : Hid (PReads (wb.alloc (.cells #[.string y.1, .string y.2, .bool false] 39)) (wb.heap.size + 1) (some ⟨wb.heap.size, 0, none⟩) 1 [pv y]) := Lib.hid (PReads.one wb (pv y) 39)
            have HLJ := Lib.hid (show out.length + 1 ≤ 3000000000000 by have := HO.out.1; omega)
            have HOJ := Lib.hid HO.out.1
            clear HO
            go_wp2_with (at_builtin; refine wpList_papp rfl (.tmp 106) (.tmp 112) rfl (w.heap.size + 1 + 1) A1 out.length c1 out rfl OA.out.o (wb.heap.size + 1) (some ⟨wb.heap.size, 0, none⟩) 1 1 [pv y] rfl RA.out HLJ.out OA.out.z ?_; intro A3 c3 w3 ho3 hg3; have OB := Lib.hid (OA.out.app hB ho3 hg3); clear ho3 hg3 OA RA ct cu)
            go_roundw
            case rel => exact ⟨i + 0, k + 1, out ++ [pv y], A3, c3, by omega, by omega, by simp, by go_num, by go_num, OB.out, Lib.hid ⟨by have := HOJ.out; simp; omega, HST.out⟩⟩
            case measure => simp [intOf]; omega
            
          · have HXY := Lib.hid ((kbeq_iff _ _).1 heq)
            have g2 : (x.1.toList == y.1.toList) = true := heq
            clear heq
            go_wp2_with fail
            go_quiet (fail)

            have CV := Lib.hid (CW.out.below hB (below_drewN (Below.refl _ wr) nq))
            clear ct cu e0 f0
            generalize wr.drewN nq = wa at *
            have ct := CV.out.t
            have cu := CV.out.u
            have e0 : wa.cell? (ad.add (i * 3)) = some (.string x.1) := (HP.out _ CV.out.p).1
            have e1 : wa.cell? ⟨(ad.add (i * 3)).block, (ad.add (i * 3)).off + 1, none⟩ = some (.string x.2) := (HP.out _ CV.out.p).2.1
            have f0 : wa.cell? (ae.add (k * 3)) = some (.string y.1) := (HQ.out _ CV.out.q).1
            have f1 : wa.cell? ⟨(ae.add (k * 3)).block, (ae.add (k * 3)).off + 1, none⟩ = some (.string y.2) := (HQ.out _ CV.out.q).2.1
            have f2 : wa.cell? ⟨(ae.add (k * 3)).block, (ae.add (k * 3)).off + 2, none⟩ = some (.bool false) := (HQ.out _ CV.out.q).2.2
            
            go_wp2_with fail
            go_quiet (fail)

            have CU := Lib.hid (CV.out.below hB (below_drewN (Below.refl _ wa) nq))
            clear ct cu e0 e1 f0 f1 f2
            generalize wa.drewN nq = wb at *
            have ct := CU.out.t
            have cu := CU.out.u
            have e0 : wb.cell? (ad.add (i * 3)) = some (.string x.1) := (HP.out _ CU.out.p).1
            have e1 : wb.cell? ⟨(ad.add (i * 3)).block, (ad.add (i * 3)).off + 1, none⟩ = some (.string x.2) := (HP.out _ CU.out.p).2.1
            have f0 : wb.cell? (ae.add (k * 3)) = some (.string y.1) := (HQ.out _ CU.out.q).1
            have f1 : wb.cell? ⟨(ae.add (k * 3)).block, (ae.add (k * 3)).off + 1, none⟩ = some (.string y.2) := (HQ.out _ CU.out.q).2.1
            have f2 : wb.cell? ⟨(ae.add (k * 3)).block, (ae.add (k * 3)).off + 2, none⟩ = some (.bool false) := (HQ.out _ CU.out.q).2.2
            
            cases hev : kbeq x.2 y.2
            · have g3 : (x.2.toList == y.2.toList) = false := hev
              have HEV := Lib.hid ((kbeq_false _ _).1 hev)
              clear hev
              go_wp2_with fail
              go_quiet (fail)

              have CZ := Lib.hid (CU.out.below hB (below_drewN (Below.refl _ wb) nq))
              clear ct cu e0 e1 f0 f1 f2
              generalize wb.drewN nq = wc at *
              have ct := CZ.out.t
              have cu := CZ.out.u
              have e0 : wc.cell? (ad.add (i * 3)) = some (.string x.1) := (HP.out _ CZ.out.p).1
              have e1 : wc.cell? ⟨(ad.add (i * 3)).block, (ad.add (i * 3)).off + 1, none⟩ = some (.string x.2) := (HP.out _ CZ.out.p).2.1
              have f0 : wc.cell? (ae.add (k * 3)) = some (.string y.1) := (HQ.out _ CZ.out.q).1
              have f1 : wc.cell? ⟨(ae.add (k * 3)).block, (ae.add (k * 3)).off + 1, none⟩ = some (.string y.2) := (HQ.out _ CZ.out.q).2.1
              have f2 : wc.cell? ⟨(ae.add (k * 3)).block, (ae.add (k * 3)).off + 2, none⟩ = some (.bool false) := (HQ.out _ CZ.out.q).2.2
              
              have HST := Lib.hid (show chg L M = (out ++ [pv y]) ++ chg (L.drop (i + 1)) (M.drop (k + 1)) by rw [HO.out.2, drop_at HX.out, drop_at HY.out, chg_new HXY.out HEV.out]; simp)
              have OA := Lib.hid (CZ.out.below hB ((Below.refl _ wc).alloc (Nat.le_refl _) (.cells #[.string y.1, .string y.2, .bool false] 39)))
              have RA : Hid (PReads (wc.alloc (.cells #[.string y.1, .string y.2, .bool false] 39)) (wc.heap.size + 1) (some ⟨wc.heap.size, 0, none⟩) 1 [pv y]) := Lib.hid (PReads.one wc (pv y) 39)
              have HLJ := Lib.hid (show out.length + 1 ≤ 3000000000000 by have := HO.out.1; omega)
              have HOJ := Lib.hid HO.out.1
              clear HO
              go_wp2_with (at_builtin; refine wpList_papp rfl (.tmp 33) (.tmp 39) rfl (w.heap.size + 1 + 1) A1 out.length c1 out rfl OA.out.o (wc.heap.size + 1) (some ⟨wc.heap.size, 0, none⟩) 1 1 [pv y] rfl RA.out HLJ.out OA.out.z ?_; intro A3 c3 w3 ho3 hg3; have OB := Lib.hid (OA.out.app hB ho3 hg3); clear ho3 hg3 OA RA ct cu)
              go_roundw
              case rel => exact ⟨i + 1, k + 1, out ++ [pv y], A3, c3, by omega, by omega, by simp, by go_num, by go_num, OB.out, Lib.hid ⟨by have := HOJ.out; simp; omega, HST.out⟩⟩
              case measure => simp [intOf]; omega
              
            · have g3 : (x.2.toList == y.2.toList) = true := hev
              have HEV := Lib.hid ((kbeq_iff _ _).1 hev)
              have HST := Lib.hid (show chg L M = out ++ chg (L.drop (i + 1)) (M.drop (k + 1)) by rw [HO.out.2, drop_at HX.out, drop_at HY.out, chg_same HXY.out HEV.out])
              clear hev
              go_wp2_with fail
              go_quiet (fail)

              have CZ := Lib.hid (CU.out.below hB (below_drewN (Below.refl _ wb) nq))
              clear ct cu e0 e1 f0 f1 f2
              generalize wb.drewN nq = wc at *
              have ct := CZ.out.t
              have cu := CZ.out.u
              
              have HOJ := Lib.hid HO.out.1
              clear ct cu HO
              go_wp2
              go_roundw
              case rel => exact ⟨i + 1, k + 1, out, A1, c1, by omega, by omega, rfl, by go_num, by go_num, CZ.out, Lib.hid ⟨by have := HOJ.out; omega, HST.out⟩⟩
              case measure => simp [intOf]; omega
        · have g1 : Op.bytesLess x.1.toList y.1.toList = true := hlt
          have HLT := Lib.hid hlt
          clear hlt
          go_wp2_with fail
          go_quiet (fail)

          have CV := Lib.hid (CW.out.below hB (below_drewN (Below.refl _ wr) nq))
          clear ct cu e0 f0
          generalize wr.drewN nq = wa at *
          have ct := CV.out.t
          have cu := CV.out.u
          have e0 : wa.cell? (ad.add (i * 3)) = some (.string x.1) := (HP.out _ CV.out.p).1
          have e1 : wa.cell? ⟨(ad.add (i * 3)).block, (ad.add (i * 3)).off + 1, none⟩ = some (.string x.2) := (HP.out _ CV.out.p).2.1
          have f0 : wa.cell? (ae.add (k * 3)) = some (.string y.1) := (HQ.out _ CV.out.q).1
          have f1 : wa.cell? ⟨(ae.add (k * 3)).block, (ae.add (k * 3)).off + 1, none⟩ = some (.string y.2) := (HQ.out _ CV.out.q).2.1
          have f2 : wa.cell? ⟨(ae.add (k * 3)).block, (ae.add (k * 3)).off + 2, none⟩ = some (.bool false) := (HQ.out _ CV.out.q).2.2
          
          have HST := Lib.hid (show chg L M = (out ++ [gonep x]) ++ chg (L.drop (i + 1)) (M.drop (k + 0)) by rw [HO.out.2, drop_at HX.out, drop_at HY.out, chg_lt HLT.out]; simp [← drop_at HY.out])
          have OA := Lib.hid (CV.out.below hB ((Below.refl _ wa).alloc (Nat.le_refl _) (.cells #[.string x.1, .string ⟨#[]⟩, .bool true] 39)))
          have RA : Hid (PReads (wa.alloc (.cells #[.string x.1, .string ⟨#[]⟩, .bool true] 39)) (wa.heap.size + 1) (some ⟨wa.heap.size, 0, none⟩) 1 [gonep x]) := Lib.hid (PReads.one wa (gonep x) 39)
          have HLJ := Lib.hid (show out.length + 1 ≤ 3000000000000 by have := HO.out.1; omega)
          have HOJ := Lib.hid HO.out.1
          clear HO
          go_wp2_with (at_builtin; refine wpList_papp rfl (.tmp 73) (.tmp 81) rfl (w.heap.size + 1 + 1) A1 out.length c1 out rfl OA.out.o (wa.heap.size + 1) (some ⟨wa.heap.size, 0, none⟩) 1 1 [gonep x] rfl RA.out HLJ.out OA.out.z ?_; intro A3 c3 w3 ho3 hg3; have OB := Lib.hid (OA.out.app hB ho3 hg3); clear ho3 hg3 OA RA ct cu)
          go_roundw
          case rel => exact ⟨i + 1, k + 0, out ++ [gonep x], A3, c3, by omega, by omega, by simp, by go_num, by go_num, OB.out, Lib.hid ⟨by have := HOJ.out; simp; omega, HST.out⟩⟩
          case measure => simp [intOf]; omega
          
      · obtain rfl : k = n' := by omega
        have hid : ((i : Int) == (n : Int)) = false := by rw [beq_eq_false_iff_ne]; omega
        have e0 : wr.cell? (ad.add (i * 3)) = some (.string x.1) := (HP.out _ CW.out.p).1
        go_wp2_with fail
        go_quiet (fail)

        have CV := Lib.hid (CW.out.below hB (below_drewN (Below.refl _ wr) nq))
        clear ct cu e0
        generalize wr.drewN nq = wa at *
        have ct := CV.out.t
        have cu := CV.out.u
        
        have e0 : wa.cell? (ad.add (i * 3)) = some (.string x.1) := (HP.out _ CV.out.p).1

        have HST := Lib.hid (show chg L M = (out ++ [gonep x]) ++ chg (L.drop (i + 1)) (M.drop (k + 0)) by rw [HO.out.2, drop_at HX.out, List.drop_eq_nil_of_le (show M.length ≤ k by rw [HN'.out]; exact Nat.le_refl _), chg_cons_nil]; simp [List.drop_eq_nil_of_le (show M.length ≤ k by rw [HN'.out]; exact Nat.le_refl _)])
        have OA := Lib.hid (CV.out.below hB ((Below.refl _ wa).alloc (Nat.le_refl _) (.cells #[.string x.1, .string ⟨#[]⟩, .bool true] 39)))
        have RA : Hid (PReads (wa.alloc (.cells #[.string x.1, .string ⟨#[]⟩, .bool true] 39)) (wa.heap.size + 1) (some ⟨wa.heap.size, 0, none⟩) 1 [gonep x]) := Lib.hid (PReads.one wa (gonep x) 39)
        have HLJ := Lib.hid (show out.length + 1 ≤ 3000000000000 by have := HO.out.1; omega)
        have HOJ := Lib.hid HO.out.1
        clear HO
        go_wp2_with (at_builtin; refine wpList_papp rfl (.tmp 73) (.tmp 81) rfl (w.heap.size + 1 + 1) A1 out.length c1 out rfl OA.out.o (wa.heap.size + 1) (some ⟨wa.heap.size, 0, none⟩) 1 1 [gonep x] rfl RA.out HLJ.out OA.out.z ?_; intro A3 c3 w3 ho3 hg3; have OB := Lib.hid (OA.out.app hB ho3 hg3); clear ho3 hg3 OA RA ct cu)
        go_roundw
        case rel => exact ⟨i + 1, k + 0, out ++ [gonep x], A3, c3, by omega, by omega, by simp, by go_num, by go_num, OB.out, Lib.hid ⟨by have := HOJ.out; simp; omega, HST.out⟩⟩
        case measure => simp [intOf]; omega
        
    · obtain rfl : i = n := by omega
      by_cases hkl : k < n'
      · skip
        obtain ⟨ae, z, hA, _, hz, dd0, dd1, dd2⟩ := PReads.at_ CW.out.q hkl
        clear dd0 dd1 dd2
        subst hA
        obtain ⟨y, hy, rfl⟩ := pvs_at hz
        have HY := Lib.hid hy
        have HQ : Hid (∀ V, PReads V B (some ae) n' (pvs M) → V.cell? (ae.add (k * 3)) = some (.string y.1) ∧ V.cell? ⟨(ae.add (k * 3)).block, (ae.add (k * 3)).off + 1, none⟩ = some (.string y.2) ∧ V.cell? ⟨(ae.add (k * 3)).block, (ae.add (k * 3)).off + 2, none⟩ = some (.bool false)) := Lib.hid fun V h => by
          obtain ⟨a2, z2, hA2, _, hz2, d0, d1, d2⟩ := PReads.at_ h hkl
          obtain rfl : ae = a2 := by injection hA2
          obtain ⟨y2, hy2, rfl⟩ := pvs_at hz2
          rw [HY.out] at hy2
          injection hy2 with hy2
          subst hy2
          exact ⟨d0, d1, d2⟩
        have hk0 : (0 : Int) ≤ (k : Int) := by omega
        have hk1 : (k : Int) < (n' : Int) := by omega
        clear hz hy
        
        have hkd : ((k : Int) == (n' : Int)) = false := by rw [beq_eq_false_iff_ne]; omega
        go_wp2_with fail
        go_quiet (fail)

        have CV := Lib.hid (CW.out.below hB (below_drewN (Below.refl _ wr) nq))
        clear ct cu 
        generalize wr.drewN nq = wa at *
        have ct := CV.out.t
        have cu := CV.out.u
        
        go_wp2_with fail
        go_quiet (fail)

        have CU := Lib.hid (CV.out.below hB (below_drewN (Below.refl _ wa) nq))
        clear ct cu 
        generalize wa.drewN nq = wb at *
        have ct := CU.out.t
        have cu := CU.out.u
        
        have f0 : wb.cell? (ae.add (k * 3)) = some (.string y.1) := (HQ.out _ CU.out.q).1
        have f1 : wb.cell? ⟨(ae.add (k * 3)).block, (ae.add (k * 3)).off + 1, none⟩ = some (.string y.2) := (HQ.out _ CU.out.q).2.1
        have f2 : wb.cell? ⟨(ae.add (k * 3)).block, (ae.add (k * 3)).off + 2, none⟩ = some (.bool false) := (HQ.out _ CU.out.q).2.2

        have HST := Lib.hid (show chg L M = (out ++ [pv y]) ++ chg (L.drop (i + 0)) (M.drop (k + 1)) by rw [HO.out.2, drop_at HY.out, List.drop_eq_nil_of_le (show L.length ≤ i by rw [HN.out]; exact Nat.le_refl _), chg_nil_cons]; simp [List.drop_eq_nil_of_le (show L.length ≤ i by rw [HN.out]; exact Nat.le_refl _)])
        have OA := Lib.hid (CU.out.below hB ((Below.refl _ wb).alloc (Nat.le_refl _) (.cells #[.string y.1, .string y.2, .bool false] 39)))
        have RA : Hid (PReads (wb.alloc (.cells #[.string y.1, .string y.2, .bool false] 39)) (wb.heap.size + 1) (some ⟨wb.heap.size, 0, none⟩) 1 [pv y]) := Lib.hid (PReads.one wb (pv y) 39)
        have HLJ := Lib.hid (show out.length + 1 ≤ 3000000000000 by have := HO.out.1; omega)
        have HOJ := Lib.hid HO.out.1
        clear HO
        go_wp2_with (at_builtin; refine wpList_papp rfl (.tmp 106) (.tmp 112) rfl (w.heap.size + 1 + 1) A1 out.length c1 out rfl OA.out.o (wb.heap.size + 1) (some ⟨wb.heap.size, 0, none⟩) 1 1 [pv y] rfl RA.out HLJ.out OA.out.z ?_; intro A3 c3 w3 ho3 hg3; have OB := Lib.hid (OA.out.app hB ho3 hg3); clear ho3 hg3 OA RA ct cu)
        go_roundw
        case rel => exact ⟨i + 0, k + 1, out ++ [pv y], A3, c3, by omega, by omega, by simp, by go_num, by go_num, OB.out, Lib.hid ⟨by have := HOJ.out; simp; omega, HST.out⟩⟩
        case measure => simp [intOf]; omega
        
      · obtain rfl : k = n' := by omega
        have HF := Lib.hid (show chg L M = out by rw [HO.out.2, List.drop_eq_nil_of_le (show L.length ≤ i by rw [HN.out]; exact Nat.le_refl _), List.drop_eq_nil_of_le (show M.length ≤ k by rw [HN'.out]; exact Nat.le_refl _)]; simp [chg])
        clear HO
        go_wp2
        go_ret
        rw [HF.out]
        exact ⟨A1, c1, rfl, CW.out.o.down (by omega), CW.out.b⟩
end Go.Proofs.Ytohcdnbchidjeaa
