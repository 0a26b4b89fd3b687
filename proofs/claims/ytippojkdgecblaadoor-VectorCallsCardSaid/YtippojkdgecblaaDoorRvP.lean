/-
  Vectors: VectorCalls, walked.
-/
import Derived.Test.YtippojkdgecblaaDoorRvO
namespace Go.Proofs.YtippojkdgecblaaDoor
open Go.RowKit
theorem BReads.stepB {w w' : World} {A : Option Addr} {n : Nat} {l : List UInt8} (h : BReads w w.heap.size A n l) (hb : Below w.heap.size w w') : BReads w' w'.heap.size A n l := Reads.more (Reads.below h hb) hb.size
set_option maxRecDepth 100000 in
set_option maxHeartbeats 8000000 in
theorem calls_in (Aa Ab Ac Al : Option Addr) (na nb nc nl ca cb cc cl : Nat) (a b c : List (Int × Nat)) (d : Int) (l : List UInt8) (w : World) (va : VR w Aa na a) (vb : VR w Ab nb b) (vc : VR w Ac nc c) (vl : BReads w w.heap.size Al nl l)
    (ha : na ≤ 200) (hb : nb ≤ 200) (hc : nc ≤ 200) (hl : nl ≤ 200) (ht : Lib.TabIs Tryd.prog w "internal/strconv.uint64pow10" .u64 Lib.pow10Tab) :
    Calls Tryd.prog 4 #[.slice Aa na ca, .slice Ab nb cb, .slice Ac nc cc, .int .i64 d, .slice Al nl cl] w fun e w' => e = .returned (.bool true) ∧ Below w.heap.size w w' := by
  have HT := Lib.hid ht
  have g1 : decide (200 < na) = false := decide_eq_false (by omega)
  have g2 : decide (200 < nb) = false := decide_eq_false (by omega)
  have g3 : decide (200 < nc) = false := decide_eq_false (by omega)
  have g4 : decide (200 < nl) = false := decide_eq_false (by omega)
  go_enter Tryd.func4, Tryd.ntmps4
  go_wp2_with fail
  refine (lives_v w).mono ?_
  rintro e w1 ⟨rfl, b1⟩
  have S1 := Lib.hid b1
  have VA1 := Lib.hid (va.step b1)
  have VB1 := Lib.hid (vb.step b1)
  have VC1 := Lib.hid (vc.step b1)
  have VL1 := Lib.hid (BReads.stepB vl b1)
  clear va vb vc vl b1 ht
  go_wp2_with fail
  refine (bump_r VA1.out d).mono ?_
  rintro e w2 ⟨A2, n2, c2, rfl, v2, b2⟩
  have S2 := Lib.hid (btwo S1.out b2)
  have VA2 := Lib.hid (VA1.out.step b2)
  have VB2 := Lib.hid (VB1.out.step b2)
  have VC2 := Lib.hid (VC1.out.step b2)
  have VL2 := Lib.hid (BReads.stepB VL1.out b2)
  have X2 := Lib.hid v2
  clear S1 VA1 VB1 VC1 VL1 v2 b2
  go_wp2_with fail
  refine (rbump_r VA2.out d).mono ?_
  rintro e w3 ⟨A3, n3, c3, rfl, v3, b3⟩
  have S3 := Lib.hid (btwo S2.out b3)
  have VA3 := Lib.hid (VA2.out.step b3)
  have VB3 := Lib.hid (VB2.out.step b3)
  have VC3 := Lib.hid (VC2.out.step b3)
  have VL3 := Lib.hid (BReads.stepB VL2.out b3)
  have X3 := Lib.hid (X2.out.step b3)
  have Y3 := Lib.hid v3
  clear S2 VA2 VB2 VC2 VL2 X2 v3 b3
  go_wp2_with fail
  refine (merge3 VA3.out VB3.out VC3.out).mono ?_
  rintro e w4 ⟨A4, n4, c4, rfl, v4, b4⟩
  have S4 := Lib.hid (btwo S3.out b4)
  have VA4 := Lib.hid (VA3.out.step b4)
  have VB4 := Lib.hid (VB3.out.step b4)
  have VC4 := Lib.hid (VC3.out.step b4)
  have VL4 := Lib.hid (BReads.stepB VL3.out b4)
  have X4 := Lib.hid (X3.out.step b4)
  have Y4 := Lib.hid (Y3.out.step b4)
  have M4 := Lib.hid v4
  clear S3 VA3 VB3 VC3 VL3 X3 Y3 v4 b4
  go_wp2_with fail
  refine (rmerge3 VA4.out VB4.out VC4.out).mono ?_
  rintro e w5 ⟨A5, n5, c5, rfl, v5, b5⟩
  have S5 := Lib.hid (btwo S4.out b5)
  have VA5 := Lib.hid (VA4.out.step b5)
  have VB5 := Lib.hid (VB4.out.step b5)
  have VL5 := Lib.hid (BReads.stepB VL4.out b5)
  have X5 := Lib.hid (X4.out.step b5)
  have Y5 := Lib.hid (Y4.out.step b5)
  have M5 := Lib.hid (M4.out.step b5)
  have N5 := Lib.hid v5
  clear S4 VA4 VB4 VC4 VL4 X4 Y4 M4 v5 b5
  go_wp2_with fail
  refine (bytes_b VA5.out).mono ?_
  rintro e w6 ⟨A6, n6, c6, rfl, r6, b6⟩
  have S6 := Lib.hid (btwo S5.out b6)
  have VA6 := Lib.hid (VA5.out.step b6)
  have VB6 := Lib.hid (VB5.out.step b6)
  have VL6 := Lib.hid (BReads.stepB VL5.out b6)
  have X6 := Lib.hid (X5.out.step b6)
  have Y6 := Lib.hid (Y5.out.step b6)
  have M6 := Lib.hid (M5.out.step b6)
  have N6 := Lib.hid (N5.out.step b6)
  have P6 := Lib.hid r6
  clear S5 VA5 VB5 VL5 X5 Y5 M5 N5 r6 b6
  go_wp2_with fail
  refine (rbytes_b VA6.out).mono ?_
  rintro e w7 ⟨A7, n7, c7, rfl, r7, b7⟩
  have S7 := Lib.hid (btwo S6.out b7)
  have VA7 := Lib.hid (VA6.out.step b7)
  have VB7 := Lib.hid (VB6.out.step b7)
  have VL7 := Lib.hid (BReads.stepB VL6.out b7)
  have X7 := Lib.hid (X6.out.step b7)
  have Y7 := Lib.hid (Y6.out.step b7)
  have M7 := Lib.hid (M6.out.step b7)
  have N7 := Lib.hid (N6.out.step b7)
  have P7 := Lib.hid (BReads.stepB P6.out b7)
  have Q7 := Lib.hid r7
  clear S6 VA6 VB6 VL6 X6 Y6 M6 N6 P6 r7 b7
  go_wp2_with fail
  refine (own_any w7.heap.size Al nl cl l w7 VL7.out (Nat.le_refl _) (by omega)).mono ?_
  rintro e w8 ⟨A8, c8, rfl, o8, b8⟩
  have S8 := Lib.hid (btwo S7.out b8)
  have VA8 := Lib.hid (VA7.out.step b8)
  have VB8 := Lib.hid (VB7.out.step b8)
  have VL8 := Lib.hid (BReads.stepB VL7.out b8)
  have X8 := Lib.hid (X7.out.step b8)
  have Y8 := Lib.hid (Y7.out.step b8)
  have M8 := Lib.hid (M7.out.step b8)
  have N8 := Lib.hid (N7.out.step b8)
  have P8 := Lib.hid (BReads.stepB P7.out b8)
  have Q8 := Lib.hid (BReads.stepB Q7.out b8)
  have L8 := Lib.hid o8.reads
  clear S7 VA7 VB7 VL7 X7 Y7 M7 N7 P7 Q7 o8 b8
  go_wp2_with fail
  refine (read_any w8 A8 nl c8 l L8.out (by omega)).mono ?_
  rintro e w9 ⟨A9, n9, c9, rfl, v9, b9⟩
  have S9 := Lib.hid (btwo S8.out b9)
  have VA9 := Lib.hid (VA8.out.step b9)
  have VB9 := Lib.hid (VB8.out.step b9)
  have VL9 := Lib.hid (BReads.stepB VL8.out b9)
  have X9 := Lib.hid (X8.out.step b9)
  have Y9 := Lib.hid (Y8.out.step b9)
  have M9 := Lib.hid (M8.out.step b9)
  have N9 := Lib.hid (N8.out.step b9)
  have P9 := Lib.hid (BReads.stepB P8.out b9)
  have Q9 := Lib.hid (BReads.stepB Q8.out b9)
  have U9 := Lib.hid v9
  clear S8 VA8 VB8 VL8 X8 Y8 M8 N8 P8 Q8 L8 v9 b9
  go_wp2_with fail
  refine (rread_v w9 Al nl cl l VL9.out (by omega)).mono ?_
  rintro e wa ⟨Aa', na', ca', rfl, va', ba⟩
  have Sa := Lib.hid (btwo S9.out ba)
  have VAa := Lib.hid (VA9.out.step ba)
  have VBa := Lib.hid (VB9.out.step ba)
  have Xa := Lib.hid (X9.out.step ba)
  have Ya := Lib.hid (Y9.out.step ba)
  have Ma := Lib.hid (M9.out.step ba)
  have Na := Lib.hid (N9.out.step ba)
  have Pa := Lib.hid (BReads.stepB P9.out ba)
  have Qa := Lib.hid (BReads.stepB Q9.out ba)
  have Ua := Lib.hid (U9.out.step ba)
  have Ra := Lib.hid va'
  clear S9 VA9 VB9 VL9 X9 Y9 M9 N9 P9 Q9 U9 va' ba
  go_wp2_with fail
  refine (same_r Xa.out Ya.out).mono ?_
  rw [decide_eq_true (rfl : bumpV a d = bumpV a d)]
  rintro e wb ⟨rfl, bb⟩
  clear Xa Ya
  have Sb := Lib.hid (btwo Sa.out bb)
  have VAb := Lib.hid (VAa.out.step bb)
  have VBb := Lib.hid (VBa.out.step bb)
  have Mb := Lib.hid (Ma.out.step bb)
  have Nb := Lib.hid (Na.out.step bb)
  have Pb := Lib.hid (BReads.stepB Pa.out bb)
  have Qb := Lib.hid (BReads.stepB Qa.out bb)
  have Ub := Lib.hid (Ua.out.step bb)
  have Rb := Lib.hid (Ra.out.step bb)
  clear Sa VAa VBa Ma Na Pa Qa Ua Ra bb
  go_wp2_with fail
  refine (same_r Mb.out Nb.out).mono ?_
  rw [decide_eq_true (rfl : mergeV [a, b, c] = mergeV [a, b, c])]
  rintro e wc ⟨rfl, bc⟩
  clear Mb Nb
  have Sc := Lib.hid (btwo Sb.out bc)
  have VAc := Lib.hid (VAb.out.step bc)
  have VBc := Lib.hid (VBb.out.step bc)
  have Pc := Lib.hid (BReads.stepB Pb.out bc)
  have Qc := Lib.hid (BReads.stepB Qb.out bc)
  have Uc := Lib.hid (Ub.out.step bc)
  have Rc := Lib.hid (Rb.out.step bc)
  clear Sb VAb VBb Pb Qb Ub Rb bc
  have q6 : (convert 34 9 (.slice A6 n6 c6)).run Tryd.prog wc = .ok (.string ⟨(bytesL a).toArray⟩) wc := run_str Pc.out
  have q7 : (convert 34 9 (.slice A7 n7 c7)).run Tryd.prog wc = .ok (.string ⟨(bytesL a).toArray⟩) wc := run_str Qc.out
  generalize (⟨(bytesL a).toArray⟩ : ByteArray) = sb at q6 q7
  go_wp2_with fail
  clear q6 q7 Pc Qc
  refine (same_r Uc.out Rc.out).mono ?_
  rw [decide_eq_true (rfl : readV l = readV l)]
  rintro e wd ⟨rfl, bd⟩
  clear Uc Rc
  have Sd := Lib.hid (btwo Sc.out bd)
  have VAd := Lib.hid (VAc.out.step bd)
  have VBd := Lib.hid (VBc.out.step bd)
  clear Sc VAc VBc bd
  go_wp2_with fail
  refine (check_r VAd.out).mono ?_
  rw [show (if okV 0 a = true then (0 : Int) else 2) = bytesC a from rfl]
  rintro e we ⟨rfl, be⟩
  have Se := Lib.hid (btwo Sd.out be)
  have VAe := Lib.hid (VAd.out.step be)
  have VBe := Lib.hid (VBd.out.step be)
  clear Sd VAd VBd be
  go_wp2_with fail
  refine (rcheck_r VAe.out).mono ?_
  rw [show (if okV 0 a = true then (0 : Int) else 2) = bytesC a from rfl]
  rintro e wf ⟨rfl, bf⟩
  have Sf := Lib.hid (btwo Se.out bf)
  have VAf := Lib.hid (VAe.out.step bf)
  have VBf := Lib.hid (VBe.out.step bf)
  clear Se VAe VBe bf
  have hv := fit_val a d VAf.out.f
  go_wp2_with fail
  refine (val_r VAf.out d).mono ?_
  rintro e wg ⟨rfl, bg⟩
  have Sg := Lib.hid (btwo Sf.out bg)
  have VAg := Lib.hid (VAf.out.step bg)
  have VBg := Lib.hid (VBf.out.step bg)
  clear Sf VAf VBf bg
  go_wp2_with fail
  refine (rval_r VAg.out d).mono ?_
  rintro e _ ⟨rfl, rfl⟩
  go_wp2_with fail
  refine (compare_r VAg.out VBg.out).mono ?_
  rintro e wh ⟨rfl, bh⟩
  have Sh := Lib.hid (btwo Sg.out bh)
  have VAh := Lib.hid (VAg.out.step bh)
  have VBh := Lib.hid (VBg.out.step bh)
  clear Sg VAg VBg bh
  go_wp2_with fail
  refine (rcompare_r VAh.out VBh.out).mono ?_
  rintro e wi ⟨rfl, bi⟩
  have Si := Lib.hid (btwo Sh.out bi)
  have VAi := Lib.hid (VAh.out.step bi)
  have VBi := Lib.hid (VBh.out.step bi)
  clear Sh VAh VBh bi
  go_wp2_with fail
  refine (order_r VAi.out VBi.out).mono ?_
  rintro e wj ⟨rfl, bj⟩
  have Sj := Lib.hid (btwo Si.out bj)
  have VAj := Lib.hid (VAi.out.step bj)
  have VBj := Lib.hid (VBi.out.step bj)
  clear Si VAi VBi bj
  go_wp2_with fail
  refine (rorder_r VAj.out VBj.out).mono ?_
  rintro e wk ⟨rfl, bk⟩
  have Sk := Lib.hid (btwo Sj.out bk)
  have VAk := Lib.hid (VAj.out.step bk)
  have VBk := Lib.hid (VBj.out.step bk)
  clear Sj VAj VBj bk
  go_wp2_with fail
  refine (text_b VAk.out (tab_below HT.out Sk.out)).mono ?_
  rintro e wl ⟨rfl, bl⟩
  have Sl := Lib.hid (btwo Sk.out bl)
  have VAl := Lib.hid (VAk.out.step bl)
  clear Sk VAk bl
  go_wp2_with fail
  refine (rtext_b VAl.out).mono ?_
  rintro e wm ⟨rfl, bm⟩
  have Sm := Lib.hid (btwo Sl.out bm)
  have VAm := Lib.hid (VAl.out.step bm)
  clear Sl VAl bm
  go_wp2_with fail
  go_ret
  exact ⟨rfl, Sm.out⟩
set_option maxRecDepth 100000 in
set_option maxHeartbeats 8000000 in
theorem calls_v (Aa Ab Ac Al : Option Addr) (na nb nc nl ca cb cc cl : Nat) (a b c : List (Int × Nat)) (d : Int) (l : List UInt8) (w : World) (va : VR w Aa na a) (vb : VR w Ab nb b) (vc : VR w Ac nc c) (vl : BReads w w.heap.size Al nl l) (hnl : nl ≤ 9223372036854775807)
    (ht : Lib.TabIs Tryd.prog w "internal/strconv.uint64pow10" .u64 Lib.pow10Tab) :
    Calls Tryd.prog 4 #[.slice Aa na ca, .slice Ab nb cb, .slice Ac nc cc, .int .i64 d, .slice Al nl cl] w fun e w' => e = .returned (.bool true) ∧ Below w.heap.size w w' := by
  by_cases ha : na ≤ 200
  · by_cases hb : nb ≤ 200
    · by_cases hc : nc ≤ 200
      · by_cases hl : nl ≤ 200
        · exact calls_in Aa Ab Ac Al na nb nc nl ca cb cc cl a b c d l w va vb vc vl ha hb hc hl ht
        · have g1 : decide (200 < na) = false := decide_eq_false (by omega)
          have g2 : decide (200 < nb) = false := decide_eq_false (by omega)
          have g3 : decide (200 < nc) = false := decide_eq_false (by omega)
          have g4 : decide (200 < nl) = true := decide_eq_true (by omega)
          clear va vb vc vl ht
          go_enter Tryd.func4, Tryd.ntmps4
          go_wp2_with fail
          refine (lives_v w).mono ?_
          rintro e w1 ⟨rfl, b1⟩
          go_wp2_with fail
          go_ret
          exact ⟨rfl, b1⟩
      · have g1 : decide (200 < na) = false := decide_eq_false (by omega)
        have g2 : decide (200 < nb) = false := decide_eq_false (by omega)
        have g3 : decide (200 < nc) = true := decide_eq_true (by omega)
        have hcn := vc.n
        clear va vb vc vl ht
        go_enter Tryd.func4, Tryd.ntmps4
        go_wp2_with fail
        refine (lives_v w).mono ?_
        rintro e w1 ⟨rfl, b1⟩
        go_wp2_with fail
        go_ret
        exact ⟨rfl, b1⟩
    · have g1 : decide (200 < na) = false := decide_eq_false (by omega)
      have g2 : decide (200 < nb) = true := decide_eq_true (by omega)
      have hbn := vb.n
      clear va vb vc vl ht
      go_enter Tryd.func4, Tryd.ntmps4
      go_wp2_with fail
      refine (lives_v w).mono ?_
      rintro e w1 ⟨rfl, b1⟩
      go_wp2_with fail
      go_ret
      exact ⟨rfl, b1⟩
  · have g1 : decide (200 < na) = true := decide_eq_true (by omega)
    have han := va.n
    clear va vb vc vl ht
    go_enter Tryd.func4, Tryd.ntmps4
    go_wp2_with fail
    refine (lives_v w).mono ?_
    rintro e w1 ⟨rfl, b1⟩
    go_wp2_with fail
    go_ret
    exact ⟨rfl, b1⟩
end Go.Proofs.YtippojkdgecblaaDoor
