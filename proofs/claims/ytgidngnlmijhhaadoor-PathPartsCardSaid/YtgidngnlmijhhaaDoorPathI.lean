/-
  PathParts: a path consists of its parts; what is within a folder; conflict copies.
-/
import Derived.Test.YtgidngnlmijhhaaDoorPathH
namespace Go.Proofs.YtgidngnlmijhhaaDoor
open Go.RowKit
theorem beqs (l : Bl) : ((st l).toList == (st l).toList) = true := by rw [st_beq]; exact decide_eq_true rfl
theorem emp0 : (st []).toList.isEmpty = true := by rw [str_empty]; rfl
set_option maxRecDepth 100000 in
set_option maxHeartbeats 2000000 in
theorem parts_v (s t u : Bl) (d n : Int) (w : World) (he : Env w) : Calls Tryd.prog 3 #[.string (st s), .string (st t), .string (st u), .int .i64 d, .int .i64 n] w fun e w' => e = .returned (.bool true) ∧ Below w.heap.size w w' := by
  go_enter Tryd.func3, Tryd.ntmps3
  go_wp2_with fail
  refine (lives_v w he).mono ?_
  rintro e w1 ⟨rfl, b1⟩
  have E1 := Lib.hid (he.below b1)
  have B1 := Lib.hid b1
  clear b1
  by_cases hs : s.length ≤ 200
  case neg =>
    have d1 : decide ((200 : Int) < ((st s).size : Int)) = true := decide_eq_true (by rw [st_size]; omega)
    clear hs
    go_wp2_with fail
    go_ret
    exact ⟨rfl, B1.out⟩
  have d1 : decide ((200 : Int) < ((st s).size : Int)) = false := decide_eq_false (by rw [st_size]; omega)
  by_cases ht : t.length ≤ 200
  case neg =>
    have d2 : decide ((200 : Int) < ((st t).size : Int)) = true := decide_eq_true (by rw [st_size]; omega)
    clear ht
    go_wp2_with fail
    go_ret
    exact ⟨rfl, B1.out⟩
  have d2 : decide ((200 : Int) < ((st t).size : Int)) = false := decide_eq_false (by rw [st_size]; omega)
  by_cases hu : u.length ≤ 200
  case neg =>
    have d3 : decide ((200 : Int) < ((st u).size : Int)) = true := decide_eq_true (by rw [st_size]; omega)
    clear hu
    go_wp2_with fail
    go_ret
    exact ⟨rfl, B1.out⟩
  have d3 : decide ((200 : Int) < ((st u).size : Int)) = false := decide_eq_false (by rw [st_size]; omega)
  clear hs ht hu
  have HWT := Lib.hid (fun h1 h2 => within_trans (s := s) (t := t) (u := u) h1 h2)
  go_upto_region 5 with fail
  go_cut [56] from 43 (fun v wx => v = .bool false ∧ Below w.heap.size w wx ∧ Env wx)
  case first =>
    have V1 := within_v s t w1 E1.out
    have V2 := Lib.hid (fun w he => within_v t u w he)
    have V3 := Lib.hid (fun w he => within_v s u w he)
    obtain ⟨a, ha⟩ : ∃ a, withinL s t = a := ⟨_, rfl⟩
    obtain ⟨b, hb⟩ : ∃ a, withinL t u = a := ⟨_, rfl⟩
    rw [ha] at V1 HWT
    rw [hb] at V2 HWT
    clear ha hb
    go_wp2_with fail
    refine V1.mono ?_
    rintro e w2 ⟨rfl, b2⟩
    have B2 := Lib.hid (B1.out.trans (b2.mono B1.out.size))
    have E2 := Lib.hid (E1.out.below b2)
    clear b2 B1 E1 V1
    cases a with
    | false =>
      go_wp2_with fail
      go_meet
      exact ⟨rfl, B2.out, E2.out⟩
    | true =>
    go_wp2_with fail
    refine (V2.out w2 E2.out).mono ?_
    rintro e w3 ⟨rfl, b3⟩
    have B3 := Lib.hid (B2.out.trans (b3.mono B2.out.size))
    have E3 := Lib.hid (E2.out.below b3)
    clear b3 B2 E2
    cases b with
    | false =>
      go_wp2_with fail
      go_meet
      exact ⟨rfl, B3.out, E3.out⟩
    | true =>
    rw [HWT.out (by trivial) (by trivial)] at V3
    go_wp2_with fail
    refine (V3.out w3 E3.out).mono ?_
    rintro e w4 ⟨rfl, b4⟩
    have B4 := Lib.hid (B3.out.trans (b4.mono B3.out.size))
    have E4 := Lib.hid (E3.out.below b4)
    clear b4 B3 E3
    go_wp2_with fail
    go_meet
    exact ⟨rfl, B4.out, E4.out⟩
  obtain ⟨rfl, b2, e2⟩ := hcut
  have B2 := Lib.hid b2
  have E2 := Lib.hid e2
  clear b2 e2 B1 E1 HWT d1 d2 d3
  have VS := Lib.hid (fun w he => psplit_v s w he)
  have VE := Lib.hid (fun w he => pend_v s w he)
  have VC := Lib.hid (fun w he => check_v s w he)
  have VW := Lib.hid (fun w he => within_v [] s w he)
  by_cases hc : checkL s = 0
  case neg =>
    rw [show splitP s = ([], []) by unfold splitP; rw [if_neg hc]] at VS
    rw [show endP s = ([], []) by unfold endP; rw [if_neg hc]] at VE
    rw [show withinL [] s = false by rw [within_nil]; exact decide_eq_false hc] at VW
    obtain ⟨k, hk⟩ : ∃ k, checkL s = k := ⟨_, rfl⟩
    rw [hk] at VC hc
    have c1 : ((k : Int) != 0) = true := by simp; omega
    have q0 := emp0
    clear hk hc
    go_wp2_with fail
    refine (VS.out wc E2.out).mono ?_
    rintro e w3 ⟨rfl, b3⟩
    have B3 := Lib.hid (B2.out.trans (b3.mono B2.out.size))
    have E3 := Lib.hid (E2.out.below b3)
    clear b3 B2 E2
    go_wp2_with fail
    refine (VE.out w3 E3.out).mono ?_
    rintro e w4 ⟨rfl, b4⟩
    have B4 := Lib.hid (B3.out.trans (b4.mono B3.out.size))
    have E4 := Lib.hid (E3.out.below b4)
    clear b4 B3 E3
    go_wp2_with fail
    refine (VC.out w4 E4.out).mono ?_
    rintro e w5 ⟨rfl, b5⟩
    have B5 := Lib.hid (B4.out.trans (b5.mono B4.out.size))
    have E5 := Lib.hid (E4.out.below b5)
    clear b5 B4 E4
    go_wp2_with fail
    refine (VW.out w5 E5.out).mono ?_
    rintro e w6 ⟨rfl, b6⟩
    have B6 := Lib.hid (B5.out.trans (b6.mono B5.out.size))
    clear b6 B5 E5
    go_wp2_with fail
    go_ret
    exact ⟨rfl, B6.out⟩
  have HC := Lib.hid hc
  rw [show splitP s = (folderL s, baseL s) by unfold splitP; rw [if_pos hc]] at VS
  rw [show endP s = (stemB (baseL s), endB (baseL s)) by unfold endP; rw [if_pos hc]] at VE
  rw [show withinL [] s = true by rw [within_nil]; exact decide_eq_true hc] at VW
  rw [hc] at VC
  have VX := Lib.hid (fun w he => within_v s s w he)
  rw [within_self hc] at VX
  have HN := Lib.hid (path_parts hc).1
  have HJ := Lib.hid (path_parts hc).2.1
  have HF := Lib.hid (fun hf => within_folder (l := s) hc hf)
  have HSE := Lib.hid (stem_end (baseL s))
  have HBL := Lib.hid (base_len s)
  have HSL := Lib.hid (check_len hc)
  have VCF := Lib.hid (fun w he => check_v (folderL s) w he)
  have VWF := Lib.hid (fun w he => within_v (folderL s) s w he)
  have VN := Lib.hid (fun w => name_v (st (baseL s)) w (by rw [st_size]; have := HBL.out; have := HSL.out; omega))
  rw [st_data] at VN
  rw [HN.out] at VN
  have HCP := Lib.hid (fun (c : Bl) (h : copyL s d n = (c, 0)) => And.intro (copied_copy h) (And.intro (copy_end h) (copy_len h)))
  obtain ⟨f, hf⟩ : ∃ x, folderL s = x := ⟨_, rfl⟩
  obtain ⟨b, hb⟩ : ∃ x, baseL s = x := ⟨_, rfl⟩
  rw [hf, hb] at VS HJ HBL HCP
  rw [hb] at VE HSE VN
  rw [hf] at HF VCF VWF
  clear hf hb hc
  obtain ⟨sm, hsm⟩ : ∃ x, stemB b = x := ⟨_, rfl⟩
  obtain ⟨en, hen⟩ : ∃ x, endB b = x := ⟨_, rfl⟩
  rw [hsm, hen] at VE HSE HBL
  rw [hen] at HCP
  clear hsm hen
  have z0 : (((0 : Nat) : Int) != 0) = false := rfl
  go_wp2_with fail
  refine (VS.out wc E2.out).mono ?_
  rintro e w3 ⟨rfl, b3⟩
  have B3 := Lib.hid (B2.out.trans (b3.mono B2.out.size))
  have E3 := Lib.hid (E2.out.below b3)
  clear b3 B2 E2
  go_wp2_with fail
  refine (VE.out w3 E3.out).mono ?_
  rintro e w4 ⟨rfl, b4⟩
  have B4 := Lib.hid (B3.out.trans (b4.mono B3.out.size))
  have E4 := Lib.hid (E3.out.below b4)
  clear b4 B3 E3
  go_wp2_with fail
  refine (VC.out w4 E4.out).mono ?_
  rintro e w5 ⟨rfl, b5⟩
  have B5 := Lib.hid (B4.out.trans (b5.mono B4.out.size))
  have E5 := Lib.hid (E4.out.below b5)
  clear b5 B4 E4
  have q1 := beqs s
  have q2 := beqs b
  have g1 : st sm ++ st en = st b := by rw [st_app, HSE.out]
  have y1 : (st sm).size ≤ 1000 := by rw [st_size]; have := HBL.out; have := HSL.out; omega
  have y2 : (st en).size ≤ 1000 := by rw [st_size]; have := HBL.out; have := HSL.out; omega
  by_cases hfe : f = []
  · have q0 : (st f).toList.isEmpty = true := by rw [str_empty]; exact decide_eq_true hfe
    have hbs : b = s := by have h := HJ.out; unfold joinF at h; rw [if_pos hfe] at h; exact h.symm
    clear hfe
    have q3 : ((st b).toList == (st s).toList) = true := by rw [st_beq]; exact decide_eq_true hbs
    clear hbs
    go_wp2_with fail
    refine (VN.out w5).mono ?_
    rintro e _ ⟨rfl, rfl⟩
    go_wp2_with fail
    refine (VW.out w5 E5.out).mono ?_
    rintro e w6 ⟨rfl, b6⟩
    have B6 := Lib.hid (B5.out.trans (b6.mono B5.out.size))
    have E6 := Lib.hid (E5.out.below b6)
    clear b6 B5 E5
    go_wp2_with fail
    refine (VX.out w6 E6.out).mono ?_
    rintro e w7 ⟨rfl, b7⟩
    have B7 := Lib.hid (B6.out.trans (b7.mono B6.out.size))
    have E7 := Lib.hid (E6.out.below b7)
    clear b7 B6 E6
    have CV := copy_v s d n w7 E7.out
    obtain ⟨c, hcc⟩ : ∃ c, copyL s d n = c := ⟨_, rfl⟩
    have HER := Lib.hid (fun h => copyL_err (l := s) (d := d) (n := n) h)
    have HOK := Lib.hid (fun c h => copyL_ok (l := s) (c := c) (d := d) (n := n) h)
    rw [hcc] at CV HER
    have HCC := Lib.hid hcc
    clear hcc
    obtain ⟨co, ce⟩ := c
    simp only at CV HER
    go_wp2_with fail
    refine CV.mono ?_
    rintro e w8 ⟨rfl, b8⟩
    have B8 := Lib.hid (B7.out.trans (b8.mono B7.out.size))
    have E8 := Lib.hid (E7.out.below b8)
    clear b8 B7 E7 CV
    by_cases hce : ce = 0
    case neg =>
      obtain ⟨rfl, _⟩ := HER.out hce
      have z1 : ((ce : Int) != 0) = true := by simp; omega
      have q5 := emp0
      clear hce
      go_wp2_with fail
      go_ret
      exact ⟨rfl, B8.out⟩
    subst hce
    obtain ⟨⟨hcd, hck⟩, ⟨hcf, hce2⟩, hcl⟩ := HCP.out co HCC.out
    obtain ⟨h1, h2, h3, h4, h5, h6, h7⟩ := HOK.out co HCC.out
    obtain ⟨dk, rfl⟩ : ∃ k : Nat, d = (k : Int) := ⟨d.toNat, by omega⟩
    obtain ⟨nk, rfl⟩ : ∃ k : Nat, n = (k : Int) := ⟨n.toNat, by omega⟩
    rw [Int.toNat_natCast, Int.toNat_natCast] at hcd
    have U1 := Lib.hid (fun w he => psplit_v co w he)
    rw [show splitP co = (f, baseL co) by unfold splitP; rw [if_pos hck, hcf]] at U1
    have U2 := Lib.hid (fun w he => pend_v co w he)
    rw [show endP co = (stemB (baseL co), endB (baseL co)) by unfold endP; rw [if_pos hck]] at U2
    have U3 := Lib.hid (fun w he => copied_v co w he)
    rw [hcd] at U3
    unfold resV at U3
    simp only [Option.getD_some, Option.isSome_some] at U3
    have U4 := Lib.hid (fun w he => copy_v s (dk : Int) (nk : Int) w he)
    rw [HCC.out] at U4
    have HE2 := Lib.hid hce2
    have q6 : ((st co).toList == (st s).toList) = false := by rw [st_beq]; exact decide_eq_false fun e => by rw [e] at hcl; omega
    have q7 := beqs f
    have q8 := beqs co
    have i1 : ((dk : Int) == (dk : Int)) = true := by simp
    have i2 : ((nk : Int) == (nk : Int)) = true := by simp
    clear hcd hck hcf hce2 hcl h1 h2 h3 h4 h5 h6 h7 HER HOK HCP
    obtain ⟨cb, hcb⟩ : ∃ x, baseL co = x := ⟨_, rfl⟩
    rw [hcb] at U1 U2 HE2
    clear hcb
    obtain ⟨cs, hcs⟩ : ∃ x, stemB cb = x := ⟨_, rfl⟩
    obtain ⟨cn, hcn⟩ : ∃ x, endB cb = x := ⟨_, rfl⟩
    rw [hcs, hcn] at U2
    rw [hcn] at HE2
    clear hcs hcn
    go_wp2_with fail
    refine (U1.out w8 E8.out).mono ?_
    rintro e w9 ⟨rfl, b9⟩
    have B9 := Lib.hid (B8.out.trans (b9.mono B8.out.size))
    have E9 := Lib.hid (E8.out.below b9)
    clear b9 B8 E8
    go_wp2_with fail
    refine (U2.out w9 E9.out).mono ?_
    rintro e w10 ⟨rfl, b10⟩
    have B10 := Lib.hid (B9.out.trans (b10.mono B9.out.size))
    have E10 := Lib.hid (E9.out.below b10)
    clear b10 B9 E9
    go_wp2_with fail
    refine (U3.out w10 E10.out).mono ?_
    rintro e w11 ⟨rfl, b11⟩
    have B11 := Lib.hid (B10.out.trans (b11.mono B10.out.size))
    have E11 := Lib.hid (E10.out.below b11)
    clear b11 B10 E10
    go_wp2_with fail
    refine (U4.out w11 E11.out).mono ?_
    rintro e w12 ⟨rfl, b12⟩
    have B12 := Lib.hid (B11.out.trans (b12.mono B11.out.size))
    have E12 := Lib.hid (E11.out.below b12)
    clear b12 B11 E11
    by_cases hen : en = []
    · have q9 : (st en).toList.isEmpty = true := by rw [str_empty]; exact decide_eq_true hen
      clear hen
      go_wp2_with fail
      go_ret
      exact ⟨rfl, B12.out⟩
    · have q9 : (st en).toList.isEmpty = false := by rw [str_empty]; exact decide_eq_false hen
      have q10 : ((st cn).toList == (st en).toList) = true := by rw [st_beq]; exact decide_eq_true (HE2.out.resolve_left hen)
      clear hen
      go_wp2_with fail
      go_ret
      exact ⟨rfl, B12.out⟩
  · have q0 : (st f).toList.isEmpty = false := by rw [str_empty]; exact decide_eq_false hfe
    have g2 : st f ++ (⟨#[47]⟩ : ByteArray) = st (f ++ [47]) := st_app f [47]
    have g3 : st (f ++ [47]) ++ st b = st s := by rw [st_app]; have h := HJ.out; unfold joinF at h; rw [if_neg hfe] at h; rw [← h]
    have u1 : (st f).size ≤ 1000 := by rw [st_size]; have := HBL.out; have := HSL.out; omega
    have u2 : (st (f ++ [47])).size ≤ 1000 := by rw [st_size, List.length_append]; have := HBL.out; have := HSL.out; simp only [List.length_cons, List.length_nil]; omega
    have u3 : (st b).size ≤ 1000 := by rw [st_size]; have := HBL.out; have := HSL.out; omega
    have z2 : (((0 : Nat) : Int) == 0) = true := rfl
    rw [(HF.out hfe).1] at VCF
    rw [(HF.out hfe).2] at VWF
    clear hfe
    go_wp2_with fail
    refine (VCF.out w5 E5.out).mono ?_
    rintro e w6 ⟨rfl, b6⟩
    have B6 := Lib.hid (B5.out.trans (b6.mono B5.out.size))
    have E6 := Lib.hid (E5.out.below b6)
    clear b6 B5 E5
    go_wp2_with fail
    refine (VWF.out w6 E6.out).mono ?_
    rintro e w7 ⟨rfl, b7⟩
    have B7 := Lib.hid (B6.out.trans (b7.mono B6.out.size))
    have E7 := Lib.hid (E6.out.below b7)
    clear b7 B6 E6
    go_wp2_with fail
    refine (VN.out w7).mono ?_
    rintro e _ ⟨rfl, rfl⟩
    go_wp2_with fail
    refine (VW.out w7 E7.out).mono ?_
    rintro e w8 ⟨rfl, b8⟩
    have B8 := Lib.hid (B7.out.trans (b8.mono B7.out.size))
    have E8 := Lib.hid (E7.out.below b8)
    clear b8 B7 E7
    go_wp2_with fail
    refine (VX.out w8 E8.out).mono ?_
    rintro e w9 ⟨rfl, b9⟩
    have B9 := Lib.hid (B8.out.trans (b9.mono B8.out.size))
    have E9 := Lib.hid (E8.out.below b9)
    clear b9 B8 E8
    have CV := copy_v s d n w9 E9.out
    obtain ⟨c, hcc⟩ : ∃ c, copyL s d n = c := ⟨_, rfl⟩
    have HER := Lib.hid (fun h => copyL_err (l := s) (d := d) (n := n) h)
    have HOK := Lib.hid (fun c h => copyL_ok (l := s) (c := c) (d := d) (n := n) h)
    rw [hcc] at CV HER
    have HCC := Lib.hid hcc
    clear hcc
    obtain ⟨co, ce⟩ := c
    simp only at CV HER
    go_wp2_with fail
    refine CV.mono ?_
    rintro e w10 ⟨rfl, b10⟩
    have B10 := Lib.hid (B9.out.trans (b10.mono B9.out.size))
    have E10 := Lib.hid (E9.out.below b10)
    clear b10 B9 E9 CV
    by_cases hce : ce = 0
    case neg =>
      obtain ⟨rfl, _⟩ := HER.out hce
      have z1 : ((ce : Int) != 0) = true := by simp; omega
      have q5 := emp0
      clear hce
      go_wp2_with fail
      go_ret
      exact ⟨rfl, B10.out⟩
    subst hce
    obtain ⟨⟨hcd, hck⟩, ⟨hcf, hce2⟩, hcl⟩ := HCP.out co HCC.out
    obtain ⟨h1, h2, h3, h4, h5, h6, h7⟩ := HOK.out co HCC.out
    obtain ⟨dk, rfl⟩ : ∃ k : Nat, d = (k : Int) := ⟨d.toNat, by omega⟩
    obtain ⟨nk, rfl⟩ : ∃ k : Nat, n = (k : Int) := ⟨n.toNat, by omega⟩
    rw [Int.toNat_natCast, Int.toNat_natCast] at hcd
    have U1 := Lib.hid (fun w he => psplit_v co w he)
    rw [show splitP co = (f, baseL co) by unfold splitP; rw [if_pos hck, hcf]] at U1
    have U2 := Lib.hid (fun w he => pend_v co w he)
    rw [show endP co = (stemB (baseL co), endB (baseL co)) by unfold endP; rw [if_pos hck]] at U2
    have U3 := Lib.hid (fun w he => copied_v co w he)
    rw [hcd] at U3
    unfold resV at U3
    simp only [Option.getD_some, Option.isSome_some] at U3
    have U4 := Lib.hid (fun w he => copy_v s (dk : Int) (nk : Int) w he)
    rw [HCC.out] at U4
    have HE2 := Lib.hid hce2
    have q6 : ((st co).toList == (st s).toList) = false := by rw [st_beq]; exact decide_eq_false fun e => by rw [e] at hcl; omega
    have q7 := beqs f
    have q8 := beqs co
    have i1 : ((dk : Int) == (dk : Int)) = true := by simp
    have i2 : ((nk : Int) == (nk : Int)) = true := by simp
    clear hcd hck hcf hce2 hcl h1 h2 h3 h4 h5 h6 h7 HER HOK HCP
    obtain ⟨cb, hcb⟩ : ∃ x, baseL co = x := ⟨_, rfl⟩
    rw [hcb] at U1 U2 HE2
    clear hcb
    obtain ⟨cs, hcs⟩ : ∃ x, stemB cb = x := ⟨_, rfl⟩
    obtain ⟨cn, hcn⟩ : ∃ x, endB cb = x := ⟨_, rfl⟩
    rw [hcs, hcn] at U2
    rw [hcn] at HE2
    clear hcs hcn
    go_wp2_with fail
    refine (U1.out w10 E10.out).mono ?_
    rintro e w11 ⟨rfl, b11⟩
    have B11 := Lib.hid (B10.out.trans (b11.mono B10.out.size))
    have E11 := Lib.hid (E10.out.below b11)
    clear b11 B10 E10
    go_wp2_with fail
    refine (U2.out w11 E11.out).mono ?_
    rintro e w12 ⟨rfl, b12⟩
    have B12 := Lib.hid (B11.out.trans (b12.mono B11.out.size))
    have E12 := Lib.hid (E11.out.below b12)
    clear b12 B11 E11
    go_wp2_with fail
    refine (U3.out w12 E12.out).mono ?_
    rintro e w13 ⟨rfl, b13⟩
    have B13 := Lib.hid (B12.out.trans (b13.mono B12.out.size))
    have E13 := Lib.hid (E12.out.below b13)
    clear b13 B12 E12
    go_wp2_with fail
    refine (U4.out w13 E13.out).mono ?_
    rintro e w14 ⟨rfl, b14⟩
    have B14 := Lib.hid (B13.out.trans (b14.mono B13.out.size))
    have E14 := Lib.hid (E13.out.below b14)
    clear b14 B13 E13
    by_cases hen : en = []
    · have q9 : (st en).toList.isEmpty = true := by rw [str_empty]; exact decide_eq_true hen
      clear hen
      go_wp2_with fail
      go_ret
      exact ⟨rfl, B14.out⟩
    · have q9 : (st en).toList.isEmpty = false := by rw [str_empty]; exact decide_eq_false hen
      have q10 : ((st cn).toList == (st en).toList) = true := by rw [st_beq]; exact decide_eq_true (HE2.out.resolve_left hen)
      clear hen
      go_wp2_with fail
      go_ret
      exact ⟨rfl, B14.out⟩
end Go.Proofs.YtgidngnlmijhhaaDoor
