/-
  PathCalls: every function against its definition.
-/
import Derived.Test.YtgidngnlmijhhaaDoorPathV
import Derived.Test.YtgidngnlmijhhaaDoorPathH
namespace Go.Proofs.YtgidngnlmijhhaaDoor
open Go.RowKit
theorem nbeq (l : Bl) : ((st l).toList != (st l).toList) = false := by unfold bne; rw [st_beq, decide_eq_true rfl]; rfl
theorem ybeq (l : Bl) : ((st l).toList == (st l).toList) = true := by rw [st_beq]; exact decide_eq_true rfl
set_option maxRecDepth 100000 in
set_option maxHeartbeats 4000000 in
theorem calls_v (s t : Bl) (d n : Int) (w : World) (he : Env w) : Calls Tryd.prog 6 #[.string (st s), .string (st t), .int .i64 d, .int .i64 n] w fun e w' => e = .returned (.bool true) ∧ Below w.heap.size w w' := by
  go_enter Tryd.func6, Tryd.ntmps6
  go_wp2_with fail
  refine (lives_v w he).mono ?_
  rintro e w1 ⟨rfl, b1⟩
  have E1 := Lib.hid (he.below b1)
  have B1 := Lib.hid b1
  clear b1
  by_cases hs : s.length ≤ 300
  case neg =>
    have d1 : decide ((300 : Int) < ((st s).size : Int)) = true := decide_eq_true (by rw [st_size]; omega)
    clear hs
    go_wp2_with fail
    go_ret
    exact ⟨rfl, B1.out⟩
  have d1 : decide ((300 : Int) < ((st s).size : Int)) = false := decide_eq_false (by rw [st_size]; omega)
  by_cases ht : t.length ≤ 300
  case neg =>
    have d2 : decide ((300 : Int) < ((st t).size : Int)) = true := decide_eq_true (by rw [st_size]; omega)
    clear ht
    go_wp2_with fail
    go_ret
    exact ⟨rfl, B1.out⟩
  have d2 : decide ((300 : Int) < ((st t).size : Int)) = false := decide_eq_false (by rw [st_size]; omega)
  have V1 := Lib.hid (fun w he => psplit_v s w he)
  have V2 := Lib.hid (fun w => rsplit_v s w)
  have V3 := Lib.hid (fun w he => pend_v s w he)
  have V4 := Lib.hid (fun w => rend_v s w)
  have V5 := Lib.hid (fun w he => copy_v s d n w he)
  have V6 := Lib.hid (fun w => rcopy_v s d n w)
  have V7 := Lib.hid (fun w he => copied_v s w he)
  have V8 := Lib.hid (fun w => rcopied_v s w)
  have V9 := Lib.hid (fun w he => temp_v s w he)
  have V10 := Lib.hid (fun w => rtemp_v s w)
  have V11 := Lib.hid (fun w he => temped_v s w he)
  have V12 := Lib.hid (fun w => rtemped_v s w)
  have V13 := Lib.hid (fun w he => check_v s w he)
  have V14 := Lib.hid (fun w => rcheck_v s w)
  have V15 := Lib.hid (fun w => name_v (st s) w (by rw [st_size]; omega))
  have V16 := Lib.hid (fun w => rname_v (st s) w (by rw [st_size]; omega))
  have V17 := Lib.hid (fun w he => within_v t s w he)
  have V18 := Lib.hid (fun w => rwithin_v t s w)
  clear hs ht
  unfold resV at V7 V8
  generalize (splitP s).1 = x1 at *
  generalize (splitP s).2 = x2 at *
  generalize (endP s).1 = x3 at *
  generalize (endP s).2 = x4 at *
  generalize (copyL s d n).1 = x5 at *
  generalize (copyL s d n).2 = x6 at *
  generalize ((copiedL s).getD ([], 0, 0)).1 = x7 at *
  generalize ((copiedL s).getD ([], 0, 0)).2.1 = x8 at *
  generalize ((copiedL s).getD ([], 0, 0)).2.2 = x9 at *
  generalize (copiedL s).isSome = xa at *
  generalize (tempL s).1 = xb at *
  generalize (tempL s).2 = xc at *
  generalize (tempedL s).getD [] = xd at *
  generalize (tempedL s).isSome = xe at *
  generalize checkL s = xf at *
  generalize nameL (st s).data.toList = xg at *
  generalize withinL t s = xh at *
  have n0 := nbeq x1
  have n1 := nbeq x2
  have n2 := nbeq x3
  have n3 := nbeq x4
  have n4 := nbeq x5
  have n5 := nbeq x7
  have n6 := nbeq xb
  have y0 := ybeq xd
  have bxa : (xa != xa) = false := by cases xa <;> rfl
  have bxe : (xe == xe) = true := by cases xe <;> rfl
  have bxg : (xg == xg) = true := by cases xg <;> rfl
  have bxh : (xh == xh) = true := by cases xh <;> rfl
  have i0 : ((x6 : Int) != (x6 : Int)) = false := by simp
  have i1 : ((x8 : Int) != (x8 : Int)) = false := by simp
  have i2 : ((x9 : Int) != (x9 : Int)) = false := by simp
  have i3 : ((xc : Int) != (xc : Int)) = false := by simp
  have i9 : ((xf : Int) == (xf : Int)) = true := by simp
  go_wp2_with fail
  refine (V1.out w1 E1.out).mono ?_
  rintro e w2 ⟨rfl, b2⟩
  have B2 := Lib.hid (B1.out.trans (b2.mono B1.out.size))
  have E2 := Lib.hid (E1.out.below b2)
  clear b2 B1 E1
  go_wp2_with fail
  refine (V2.out w2).mono ?_
  rintro e w3 ⟨rfl, b3⟩
  have B3 := Lib.hid (B2.out.trans (b3.mono B2.out.size))
  have E3 := Lib.hid (E2.out.below b3)
  clear b3 B2 E2
  go_wp2_with fail
  refine (V3.out w3 E3.out).mono ?_
  rintro e w4 ⟨rfl, b4⟩
  have B4 := Lib.hid (B3.out.trans (b4.mono B3.out.size))
  have E4 := Lib.hid (E3.out.below b4)
  clear b4 B3 E3
  go_wp2_with fail
  refine (V4.out w4).mono ?_
  rintro e w5 ⟨rfl, b5⟩
  have B5 := Lib.hid (B4.out.trans (b5.mono B4.out.size))
  have E5 := Lib.hid (E4.out.below b5)
  clear b5 B4 E4
  go_wp2_with fail
  refine (V5.out w5 E5.out).mono ?_
  rintro e w6 ⟨rfl, b6⟩
  have B6 := Lib.hid (B5.out.trans (b6.mono B5.out.size))
  have E6 := Lib.hid (E5.out.below b6)
  clear b6 B5 E5
  go_wp2_with fail
  refine (V6.out w6).mono ?_
  rintro e w7 ⟨rfl, b7⟩
  have B7 := Lib.hid (B6.out.trans (b7.mono B6.out.size))
  have E7 := Lib.hid (E6.out.below b7)
  clear b7 B6 E6
  go_wp2_with fail
  refine (V7.out w7 E7.out).mono ?_
  rintro e w8 ⟨rfl, b8⟩
  have B8 := Lib.hid (B7.out.trans (b8.mono B7.out.size))
  have E8 := Lib.hid (E7.out.below b8)
  clear b8 B7 E7
  go_wp2_with fail
  refine (V8.out w8).mono ?_
  rintro e w9 ⟨rfl, b9⟩
  have B9 := Lib.hid (B8.out.trans (b9.mono B8.out.size))
  have E9 := Lib.hid (E8.out.below b9)
  clear b9 B8 E8
  go_wp2_with fail
  refine (V9.out w9 E9.out).mono ?_
  rintro e w10 ⟨rfl, b10⟩
  have B10 := Lib.hid (B9.out.trans (b10.mono B9.out.size))
  have E10 := Lib.hid (E9.out.below b10)
  clear b10 B9 E9
  go_wp2_with fail
  refine (V10.out w10).mono ?_
  rintro e w11 ⟨rfl, b11⟩
  have B11 := Lib.hid (B10.out.trans (b11.mono B10.out.size))
  have E11 := Lib.hid (E10.out.below b11)
  clear b11 B10 E10
  go_wp2_with fail
  refine (V11.out w11 E11.out).mono ?_
  rintro e w12 ⟨rfl, b12⟩
  have B12 := Lib.hid (B11.out.trans (b12.mono B11.out.size))
  have E12 := Lib.hid (E11.out.below b12)
  clear b12 B11 E11
  go_wp2_with fail
  refine (V12.out w12).mono ?_
  rintro e w13 ⟨rfl, b13⟩
  have B13 := Lib.hid (B12.out.trans (b13.mono B12.out.size))
  have E13 := Lib.hid (E12.out.below b13)
  clear b13 B12 E12
  go_wp2_with fail
  refine (V13.out w13 E13.out).mono ?_
  rintro e w14 ⟨rfl, b14⟩
  have B14 := Lib.hid (B13.out.trans (b14.mono B13.out.size))
  have E14 := Lib.hid (E13.out.below b14)
  clear b14 B13 E13
  go_wp2_with fail
  refine (V14.out w14).mono ?_
  rintro e w15 ⟨rfl, b15⟩
  have B15 := Lib.hid (B14.out.trans (b15.mono B14.out.size))
  have E15 := Lib.hid (E14.out.below b15)
  clear b15 B14 E14
  go_wp2_with fail
  refine (V15.out w15).mono ?_
  rintro e _ ⟨rfl, rfl⟩
  go_wp2_with fail
  refine (V16.out w15).mono ?_
  rintro e _ ⟨rfl, rfl⟩
  go_wp2_with fail
  refine (V17.out w15 E15.out).mono ?_
  rintro e w16 ⟨rfl, b16⟩
  have B16 := Lib.hid (B15.out.trans (b16.mono B15.out.size))
  have E16 := Lib.hid (E15.out.below b16)
  clear b16 B15 E15
  go_wp2_with fail
  refine (V18.out w16).mono ?_
  rintro e w17 ⟨rfl, b17⟩
  have B17 := Lib.hid (B16.out.trans (b17.mono B16.out.size))
  have E17 := Lib.hid (E16.out.below b17)
  clear b17 B16 E16
  go_wp2_with fail
  go_ret
  exact ⟨rfl, B17.out⟩
end Go.Proofs.YtgidngnlmijhhaaDoor
