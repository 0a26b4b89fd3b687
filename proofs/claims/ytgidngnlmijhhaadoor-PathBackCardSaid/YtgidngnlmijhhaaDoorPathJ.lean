/-
  PathBack: what a conflict copy was made of is recovered; no path of a temporary file is a path; a path is its folder and its base.
-/
import Derived.Test.YtgidngnlmijhhaaDoorPathH
namespace Go.Proofs.YtgidngnlmijhhaaDoor
open Go.RowKit
theorem beqs (l : Bl) : ((st l).toList == (st l).toList) = true := by rw [st_beq]; exact decide_eq_true rfl
theorem emp0 : (st []).toList.isEmpty = true := by rw [str_empty]; rfl
set_option maxRecDepth 100000 in
set_option maxHeartbeats 2000000 in
theorem back_v (s t : Bl) (d n o : Int) (w : World) (he : Env w) : Calls Tryd.prog 4 #[.string (st s), .string (st t), .int .i64 d, .int .i64 n, .int .i64 o] w fun e w' => e = .returned (.bool true) ∧ Below w.heap.size w w' := by
  go_enter Tryd.func4, Tryd.ntmps4
  go_wp2_with fail
  refine (lives_v w he).mono ?_
  rintro e w1 ⟨rfl, b1⟩
  have E1 := Lib.hid (he.below b1)
  have B1 := Lib.hid b1
  clear b1
  by_cases hs : s.length ≤ 300
  case neg =>
    have d1 : decide ((300 : Int) < ((st s).size : Int)) = true := decide_eq_true (by rw [st_size]; omega)
    clear hs
    go_wp2_with fail
    go_ret
    exact ⟨rfl, B1.out⟩
  have d1 : decide ((300 : Int) < ((st s).size : Int)) = false := decide_eq_false (by rw [st_size]; omega)
  by_cases ht : t.length ≤ 300
  case neg =>
    have d2 : decide ((300 : Int) < ((st t).size : Int)) = true := decide_eq_true (by rw [st_size]; omega)
    clear ht
    go_wp2_with fail
    go_ret
    exact ⟨rfl, B1.out⟩
  have d2 : decide ((300 : Int) < ((st t).size : Int)) = false := decide_eq_false (by rw [st_size]; omega)
  clear hs ht
  have VC := Lib.hid (fun w he => check_v s w he)
  have VT := Lib.hid (fun w he => temp_v s w he)
  by_cases hc : checkL s = 0
  case neg =>
    obtain ⟨k, hk⟩ : ∃ k, checkL s = k := ⟨_, rfl⟩
    rw [show tempL s = ([], checkL s) by unfold tempL; rw [if_pos hc]] at VT
    rw [hk] at VC VT hc
    have c1 : ((k : Int) != 0) = true := by simp; omega
    have c2 : ((k : Int) == (k : Int)) = true := by simp
    clear hk hc
    go_wp2_with fail
    refine (VC.out w1 E1.out).mono ?_
    rintro e w2 ⟨rfl, b2⟩
    have B2 := Lib.hid (B1.out.trans (b2.mono B1.out.size))
    have E2 := Lib.hid (E1.out.below b2)
    clear b2 B1 E1
    go_wp2_with fail
    refine (VT.out w2 E2.out).mono ?_
    rintro e w3 ⟨rfl, b3⟩
    have B3 := Lib.hid (B2.out.trans (b3.mono B2.out.size))
    have E3 := Lib.hid (E2.out.below b3)
    clear b3 B2 E2
    go_wp2_with fail
    refine (VC.out w3 E3.out).mono ?_
    rintro e w4 ⟨rfl, b4⟩
    have B4 := Lib.hid (B3.out.trans (b4.mono B3.out.size))
    have E4 := Lib.hid (E3.out.below b4)
    clear b4 B3 E3
    go_wp2_with fail
    go_ret
    exact ⟨rfl, B4.out⟩
  have HC := Lib.hid hc
  have VS := Lib.hid (fun w he => psplit_v s w he)
  have VE := Lib.hid (fun w he => pend_v s w he)
  rw [show splitP s = (folderL s, baseL s) by unfold splitP; rw [if_pos hc]] at VS
  rw [show endP s = (stemB (baseL s), endB (baseL s)) by unfold endP; rw [if_pos hc]] at VE
  rw [show tempL s = ([46, 116, 109, 112, 47] ++ s, 0) by unfold tempL; rw [if_neg (by rw [hc]; simp)]] at VT
  rw [hc] at VC
  have VP := Lib.hid (fun w he => temped_v ([46, 116, 109, 112, 47] ++ s) w he)
  rw [temped_temp hc] at VP
  have VK := Lib.hid (fun w he => check_v ([46, 116, 109, 112, 47] ++ s) w he)
  have HKN := Lib.hid (temp_no s)
  obtain ⟨kp, hkp⟩ : ∃ k, checkL ([46, 116, 109, 112, 47] ++ s) = k := ⟨_, rfl⟩
  rw [hkp] at VK HKN
  have k1 : ((kp : Int) == 0) = false := beq_eq_false_iff_ne.2 (by have := HKN.out; omega)
  clear hkp HKN
  generalize [46, 116, 109, 112, 47] ++ s = tp at *
  have HJ := Lib.hid (path_parts hc).2.1
  have HSE := Lib.hid (stem_end (baseL s))
  have HBL := Lib.hid (base_len s)
  have HSL := Lib.hid (check_len hc)
  have HCP := Lib.hid (fun (c : Bl) (h : copyL s d n = (c, 0)) => copied_copy h)
  obtain ⟨f, hf⟩ : ∃ x, folderL s = x := ⟨_, rfl⟩
  obtain ⟨b, hb⟩ : ∃ x, baseL s = x := ⟨_, rfl⟩
  rw [hf, hb] at VS HJ HBL
  rw [hb] at VE HSE
  clear hf hb hc
  obtain ⟨sm, hsm⟩ : ∃ x, stemB b = x := ⟨_, rfl⟩
  obtain ⟨en, hen⟩ : ∃ x, endB b = x := ⟨_, rfl⟩
  rw [hsm, hen] at VE HSE HBL
  clear hsm hen
  have z0 : (((0 : Nat) : Int) != 0) = false := rfl
  go_wp2_with fail
  refine (VC.out w1 E1.out).mono ?_
  rintro e w2 ⟨rfl, b2⟩
  have B2 := Lib.hid (B1.out.trans (b2.mono B1.out.size))
  have E2 := Lib.hid (E1.out.below b2)
  clear b2 B1 E1
  go_wp2_with fail
  refine (VS.out w2 E2.out).mono ?_
  rintro e w3 ⟨rfl, b3⟩
  have B3 := Lib.hid (B2.out.trans (b3.mono B2.out.size))
  have E3 := Lib.hid (E2.out.below b3)
  clear b3 B2 E2
  go_wp2_with fail
  refine (VE.out w3 E3.out).mono ?_
  rintro e w4 ⟨rfl, b4⟩
  have B4 := Lib.hid (B3.out.trans (b4.mono B3.out.size))
  have E4 := Lib.hid (E3.out.below b4)
  clear b4 B3 E3
  have q1 := beqs s
  have q2 := beqs b
  have g1 : st sm ++ st en = st b := by rw [st_app, HSE.out]
  have y1 : (st sm).size ≤ 1000 := by rw [st_size]; have := HBL.out; have := HSL.out; omega
  have y2 : (st en).size ≤ 1000 := by rw [st_size]; have := HBL.out; have := HSL.out; omega
  by_cases hfe : f = []
  · have q0 : (st f).toList.isEmpty = true := by rw [str_empty]; exact decide_eq_true hfe
    have hbs : b = s := by have h := HJ.out; unfold joinF at h; rw [if_pos hfe] at h; exact h.symm
    clear hfe
    have q3 : ((st b).toList == (st s).toList) = true := by rw [st_beq]; exact decide_eq_true hbs
    clear hbs
    go_wp2_with fail
    refine (VT.out w4 E4.out).mono ?_
    rintro e w5 ⟨rfl, b5⟩
    have B5 := Lib.hid (B4.out.trans (b5.mono B4.out.size))
    have E5 := Lib.hid (E4.out.below b5)
    clear b5 B4 E4
    go_wp2_with fail
    refine (VP.out w5 E5.out).mono ?_
    rintro e w6 ⟨rfl, b6⟩
    have B6 := Lib.hid (B5.out.trans (b6.mono B5.out.size))
    have E6 := Lib.hid (E5.out.below b6)
    clear b6 B5 E5
    simp only [Option.getD_some, Option.isSome_some]
    go_wp2_with fail
    refine (VK.out w6 E6.out).mono ?_
    rintro e w7 ⟨rfl, b7⟩
    have B7 := Lib.hid (B6.out.trans (b7.mono B6.out.size))
    have E7 := Lib.hid (E6.out.below b7)
    clear b7 B6 E6
    have CV := copy_v s d n w7 E7.out
    obtain ⟨c, hcc⟩ : ∃ c, copyL s d n = c := ⟨_, rfl⟩
    have HER := Lib.hid (fun h => copyL_err (l := s) (d := d) (n := n) h)
    have HOK := Lib.hid (fun c h => copyL_ok (l := s) (c := c) (d := d) (n := n) h)
    rw [hcc] at CV HER
    have HCC := Lib.hid hcc
    clear hcc
    obtain ⟨co, ce⟩ := c
    simp only at CV HER
    go_wp2_with fail
    refine CV.mono ?_
    rintro e w8 ⟨rfl, b8⟩
    have B8 := Lib.hid (B7.out.trans (b8.mono B7.out.size))
    have E8 := Lib.hid (E7.out.below b8)
    clear b8 B7 E7 CV
    by_cases hce : ce = 0
    case neg =>
      obtain ⟨rfl, hle⟩ := HER.out hce
      have z1 : ((ce : Int) != 0) = true := by simp; omega
      have z3 : ((ce : Int) != 6) = true := by simp; omega
      have q5 := emp0
      clear hce hle
      go_wp2_with fail
      go_ret
      exact ⟨rfl, B8.out⟩
    subst hce
    obtain ⟨hcd, hck⟩ := HCP.out co HCC.out
    obtain ⟨h1, h2, h3, h4, h5, h6, h7⟩ := HOK.out co HCC.out
    obtain ⟨dk, rfl⟩ : ∃ k : Nat, d = (k : Int) := ⟨d.toNat, by omega⟩
    obtain ⟨nk, rfl⟩ : ∃ k : Nat, n = (k : Int) := ⟨n.toNat, by omega⟩
    rw [Int.toNat_natCast, Int.toNat_natCast] at hcd
    have U3 := Lib.hid (fun w he => copied_v co w he)
    rw [hcd] at U3
    unfold resV at U3
    simp only [Option.getD_some, Option.isSome_some] at U3
    have U5 := Lib.hid (fun w he => check_v co w he)
    rw [hck] at U5
    have U4 := Lib.hid (fun w he => copy_v t o (nk : Int) w he)
    have HIJ := Lib.hid (show ∀ c, copyL t o (nk : Int) = (c, 0) → c = co → t = s ∧ o = (dk : Int) from fun c h e => by
      subst e
      obtain ⟨e1, e2, _⟩ := copy_inj h HCC.out
      exact ⟨e1, e2⟩)
    obtain ⟨c2, hc2⟩ : ∃ c, copyL t o (nk : Int) = c := ⟨_, rfl⟩
    rw [hc2] at U4 HIJ
    clear hc2
    obtain ⟨vo, ve⟩ := c2
    simp only at U4
    have z2 : (((0 : Nat) : Int) == 0) = true := rfl
    have i1 : ((dk : Int) == (dk : Int)) = true := by simp
    have i2 : ((nk : Int) == (nk : Int)) = true := by simp
    clear hcd hck h1 h2 h3 h4 h5 h6 h7 HER HOK HCP k1
    go_wp2_with fail
    refine (U3.out w8 E8.out).mono ?_
    rintro e w9 ⟨rfl, b9⟩
    have B9 := Lib.hid (B8.out.trans (b9.mono B8.out.size))
    have E9 := Lib.hid (E8.out.below b9)
    clear b9 B8 E8
    go_wp2_with fail
    refine (U4.out w9 E9.out).mono ?_
    rintro e w10 ⟨rfl, b10⟩
    have B10 := Lib.hid (B9.out.trans (b10.mono B9.out.size))
    have E10 := Lib.hid (E9.out.below b10)
    clear b10 B9 E9
    go_wp2_with fail
    refine (U5.out w10 E10.out).mono ?_
    rintro e w11 ⟨rfl, b11⟩
    have B11 := Lib.hid (B10.out.trans (b11.mono B10.out.size))
    have E11 := Lib.hid (E10.out.below b11)
    clear b11 B10 E10
    by_cases hve : ve = 0
    case neg =>
      have z4 : ((ve : Int) != 0) = true := by simp; omega
      clear hve
      go_wp2_with fail
      go_ret
      exact ⟨rfl, B11.out⟩
    subst hve
    by_cases hvc : vo = co
    case neg =>
      have z4 : ((st vo).toList == (st co).toList) = false := by rw [st_beq]; exact decide_eq_false hvc
      clear hvc
      go_wp2_with fail
      go_ret
      exact ⟨rfl, B11.out⟩
    obtain ⟨rfl, rfl⟩ := HIJ.out vo rfl hvc
    have z4 : ((st vo).toList == (st co).toList) = true := by rw [st_beq]; exact decide_eq_true hvc
    clear hvc
    go_wp2_with fail
    go_ret
    exact ⟨rfl, B11.out⟩
  · have q0 : (st f).toList.isEmpty = false := by rw [str_empty]; exact decide_eq_false hfe
    have g2 : st f ++ (⟨#[47]⟩ : ByteArray) = st (f ++ [47]) := st_app f [47]
    have g3 : st (f ++ [47]) ++ st b = st s := by rw [st_app]; have h := HJ.out; unfold joinF at h; rw [if_neg hfe] at h; rw [← h]
    have u1 : (st f).size ≤ 1000 := by rw [st_size]; have := HBL.out; have := HSL.out; omega
    have u2 : (st (f ++ [47])).size ≤ 1000 := by rw [st_size, List.length_append]; have := HBL.out; have := HSL.out; simp only [List.length_cons, List.length_nil]; omega
    have u3 : (st b).size ≤ 1000 := by rw [st_size]; have := HBL.out; have := HSL.out; omega
    clear hfe
    go_wp2_with fail
    refine (VT.out w4 E4.out).mono ?_
    rintro e w5 ⟨rfl, b5⟩
    have B5 := Lib.hid (B4.out.trans (b5.mono B4.out.size))
    have E5 := Lib.hid (E4.out.below b5)
    clear b5 B4 E4
    go_wp2_with fail
    refine (VP.out w5 E5.out).mono ?_
    rintro e w6 ⟨rfl, b6⟩
    have B6 := Lib.hid (B5.out.trans (b6.mono B5.out.size))
    have E6 := Lib.hid (E5.out.below b6)
    clear b6 B5 E5
    simp only [Option.getD_some, Option.isSome_some]
    go_wp2_with fail
    refine (VK.out w6 E6.out).mono ?_
    rintro e w7 ⟨rfl, b7⟩
    have B7 := Lib.hid (B6.out.trans (b7.mono B6.out.size))
    have E7 := Lib.hid (E6.out.below b7)
    clear b7 B6 E6
    have CV := copy_v s d n w7 E7.out
    obtain ⟨c, hcc⟩ : ∃ c, copyL s d n = c := ⟨_, rfl⟩
    have HER := Lib.hid (fun h => copyL_err (l := s) (d := d) (n := n) h)
    have HOK := Lib.hid (fun c h => copyL_ok (l := s) (c := c) (d := d) (n := n) h)
    rw [hcc] at CV HER
    have HCC := Lib.hid hcc
    clear hcc
    obtain ⟨co, ce⟩ := c
    simp only at CV HER
    go_wp2_with fail
    refine CV.mono ?_
    rintro e w8 ⟨rfl, b8⟩
    have B8 := Lib.hid (B7.out.trans (b8.mono B7.out.size))
    have E8 := Lib.hid (E7.out.below b8)
    clear b8 B7 E7 CV
    by_cases hce : ce = 0
    case neg =>
      obtain ⟨rfl, hle⟩ := HER.out hce
      have z1 : ((ce : Int) != 0) = true := by simp; omega
      have z3 : ((ce : Int) != 6) = true := by simp; omega
      have q5 := emp0
      clear hce hle
      go_wp2_with fail
      go_ret
      exact ⟨rfl, B8.out⟩
    subst hce
    obtain ⟨hcd, hck⟩ := HCP.out co HCC.out
    obtain ⟨h1, h2, h3, h4, h5, h6, h7⟩ := HOK.out co HCC.out
    obtain ⟨dk, rfl⟩ : ∃ k : Nat, d = (k : Int) := ⟨d.toNat, by omega⟩
    obtain ⟨nk, rfl⟩ : ∃ k : Nat, n = (k : Int) := ⟨n.toNat, by omega⟩
    rw [Int.toNat_natCast, Int.toNat_natCast] at hcd
    have U3 := Lib.hid (fun w he => copied_v co w he)
    rw [hcd] at U3
    unfold resV at U3
    simp only [Option.getD_some, Option.isSome_some] at U3
    have U5 := Lib.hid (fun w he => check_v co w he)
    rw [hck] at U5
    have U4 := Lib.hid (fun w he => copy_v t o (nk : Int) w he)
    have HIJ := Lib.hid (show ∀ c, copyL t o (nk : Int) = (c, 0) → c = co → t = s ∧ o = (dk : Int) from fun c h e => by
      subst e
      obtain ⟨e1, e2, _⟩ := copy_inj h HCC.out
      exact ⟨e1, e2⟩)
    obtain ⟨c2, hc2⟩ : ∃ c, copyL t o (nk : Int) = c := ⟨_, rfl⟩
    rw [hc2] at U4 HIJ
    clear hc2
    obtain ⟨vo, ve⟩ := c2
    simp only at U4
    have z2 : (((0 : Nat) : Int) == 0) = true := rfl
    have i1 : ((dk : Int) == (dk : Int)) = true := by simp
    have i2 : ((nk : Int) == (nk : Int)) = true := by simp
    clear hcd hck h1 h2 h3 h4 h5 h6 h7 HER HOK HCP k1
    go_wp2_with fail
    refine (U3.out w8 E8.out).mono ?_
    rintro e w9 ⟨rfl, b9⟩
    have B9 := Lib.hid (B8.out.trans (b9.mono B8.out.size))
    have E9 := Lib.hid (E8.out.below b9)
    clear b9 B8 E8
    go_wp2_with fail
    refine (U4.out w9 E9.out).mono ?_
    rintro e w10 ⟨rfl, b10⟩
    have B10 := Lib.hid (B9.out.trans (b10.mono B9.out.size))
    have E10 := Lib.hid (E9.out.below b10)
    clear b10 B9 E9
    go_wp2_with fail
    refine (U5.out w10 E10.out).mono ?_
    rintro e w11 ⟨rfl, b11⟩
    have B11 := Lib.hid (B10.out.trans (b11.mono B10.out.size))
    have E11 := Lib.hid (E10.out.below b11)
    clear b11 B10 E10
    by_cases hve : ve = 0
    case neg =>
      have z4 : ((ve : Int) != 0) = true := by simp; omega
      clear hve
      go_wp2_with fail
      go_ret
      exact ⟨rfl, B11.out⟩
    subst hve
    by_cases hvc : vo = co
    case neg =>
      have z4 : ((st vo).toList == (st co).toList) = false := by rw [st_beq]; exact decide_eq_false hvc
      clear hvc
      go_wp2_with fail
      go_ret
      exact ⟨rfl, B11.out⟩
    obtain ⟨rfl, rfl⟩ := HIJ.out vo rfl hvc
    have z4 : ((st vo).toList == (st co).toList) = true := by rw [st_beq]; exact decide_eq_true hvc
    clear hvc
    go_wp2_with fail
    go_ret
    exact ⟨rfl, B11.out⟩
end Go.Proofs.YtgidngnlmijhhaaDoor
