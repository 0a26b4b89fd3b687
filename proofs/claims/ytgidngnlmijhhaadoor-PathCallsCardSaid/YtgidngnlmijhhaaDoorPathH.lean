/-
  Paths: the chapter's examples; PathNames.
-/
import Derived.Test.YtgidngnlmijhhaaDoorPathG
namespace Go.Proofs.YtgidngnlmijhhaaDoor
open Go.RowKit
theorem dec_one {n : Nat} (h : n < 10) : dec n = [UInt8.ofNat (48 + n)] := by
  unfold dec
  rw [Lib.decDigits, dif_pos h]
theorem dec_two {n : Nat} (h : 10 ≤ n) (h2 : n < 100) : dec n = [UInt8.ofNat (48 + n / 10), UInt8.ofNat (48 + n % 10)] := by
  unfold dec
  rw [Lib.decDigits, dif_neg (by omega)]
  have := dec_one (n := n / 10) (by omega)
  unfold dec at this
  rw [this]
  rfl
def exA : Bl := [97, 47, 98, 46, 116, 120, 116]
def exB : Bl := [98, 46, 99, 51, 45, 49, 50]
def exC : Bl := [97, 47, 98, 46, 99, 50, 45, 48, 46, 116, 120, 116]
theorem ex1 : splitP exA = ([97], [98, 46, 116, 120, 116]) := by decide
theorem ex2 : endP exA = ([98], [46, 116, 120, 116]) := by decide
theorem ex4 : copyL exA 2 0 = (exC, 0) := by
  have h1 : copyOut exA 2 0 = exC := by
    unfold copyOut markL
    rw [dec_one (by decide), dec_one (by decide)]
    decide
  have h2 : copyL exA 2 0 = if rightL (copyOut exA 2 0) then (copyOut exA 2 0, 0) else ([], 3) := by
    unfold copyL
    rw [if_neg (by decide), if_neg (by decide)]
    rfl
  rw [h2, h1]
  decide
theorem ex5 : copyL [98] 3 12 = (exB, 0) := by
  have h1 : copyOut [98] 3 12 = exB := by
    unfold copyOut markL
    rw [dec_one (by decide), dec_two (by decide) (by decide)]
    decide
  have h2 : copyL [98] 3 12 = if rightL (copyOut [98] 3 12) then (copyOut [98] 3 12, 0) else ([], 3) := by
    unfold copyL
    rw [if_neg (by decide), if_neg (by decide)]
    rfl
  rw [h2, h1]
  decide
theorem ex3 : copiedL exB = some ([98], 3, 12) := (copied_copy ex5).1
set_option maxRecDepth 100000 in
theorem copied1_v (l t : Bl) (d n : Int) (w : World) (he : Env w) (h : copyL l d n = (t, 0)) : Calls Tryd.prog 26 #[.string (st l), .int .i64 d, .int .i64 n, .string (st t)] w fun e w' => e = .returned (.bool true) ∧ Below w.heap.size w w' := by
  have CV := copy_v l d n w he
  rw [h] at CV
  have d1 : (((0 : Nat) : Int) == 0) = true := rfl
  have d2 : ((st t).toList == (st t).toList) = true := by rw [st_beq]; exact decide_eq_true rfl
  clear h
  go_enter Tryd.func26, Tryd.ntmps26
  go_wp2_with fail
  refine CV.mono ?_
  rintro e w1 ⟨rfl, b1⟩
  go_wp2_with fail
  go_ret
  exact ⟨rfl, b1⟩
set_option maxRecDepth 100000 in
theorem lives_v (w : World) (he : Env w) : Calls Tryd.prog 7 #[] w fun e w' => e = .returned (.bool true) ∧ Below w.heap.size w w' := by
  have V1 := Lib.hid (fun w he => psplit_v exA w he)
  have V2 := Lib.hid (fun w he => pend_v exA w he)
  have V3 := Lib.hid (fun w he => copied_v exB w he)
  have V4 := Lib.hid (fun w he => copied1_v exA exC 2 0 w he ex4)
  have V5 := Lib.hid (fun w he => copied1_v [98] exB 3 12 w he ex5)
  rw [ex1] at V1
  rw [ex2] at V2
  rw [ex3] at V3
  go_enter Tryd.func7, Tryd.ntmps7
  go_wp2_with fail
  refine (V1.out w he).mono ?_
  rintro e w1 ⟨rfl, b1⟩
  have E1 := Lib.hid (he.below b1)
  have B1 := Lib.hid b1
  clear b1
  go_wp2_with fail
  refine (V2.out w1 E1.out).mono ?_
  rintro e w2 ⟨rfl, b2⟩
  have B2 := Lib.hid (B1.out.trans (b2.mono B1.out.size))
  have E2 := Lib.hid (E1.out.below b2)
  clear b2 B1 E1
  go_wp2_with fail
  refine (V3.out w2 E2.out).mono ?_
  rintro e w3 ⟨rfl, b3⟩
  have B3 := Lib.hid (B2.out.trans (b3.mono B2.out.size))
  have E3 := Lib.hid (E2.out.below b3)
  clear b3 B2 E2
  have q1 : ((st [97]).toList == (⟨#[97]⟩ : ByteArray).toList) = true := beq_iff_eq.2 rfl
  have q1b : ((st [97]).toList == [97]) = true := by rw [ByteArray.toList_eq]; rfl
  have q2 : ((st [98, 46, 116, 120, 116]).toList == (⟨#[98, 46, 116, 120, 116]⟩ : ByteArray).toList) = true := beq_iff_eq.2 rfl
  have q2b : ((st [98, 46, 116, 120, 116]).toList == [98, 46, 116, 120, 116]) = true := by rw [ByteArray.toList_eq]; rfl
  have q3 : ((st [98]).toList == (⟨#[98]⟩ : ByteArray).toList) = true := beq_iff_eq.2 rfl
  have q3b : ((st [98]).toList == [98]) = true := by rw [ByteArray.toList_eq]; rfl
  have q4 : ((st [46, 116, 120, 116]).toList == (⟨#[46, 116, 120, 116]⟩ : ByteArray).toList) = true := beq_iff_eq.2 rfl
  have q4b : ((st [46, 116, 120, 116]).toList == [46, 116, 120, 116]) = true := by rw [ByteArray.toList_eq]; rfl
  unfold resV
  simp only [Option.getD_some, Option.isSome_some]
  go_wp2_with fail
  refine (V4.out w3 E3.out).mono ?_
  rintro e w4 ⟨rfl, b4⟩
  have B4 := Lib.hid (B3.out.trans (b4.mono B3.out.size))
  have E4 := Lib.hid (E3.out.below b4)
  clear b4 B3 E3
  go_wp2_with fail
  refine (V5.out w4 E4.out).mono ?_
  rintro e w5 ⟨rfl, b5⟩
  have B5 := Lib.hid (B4.out.trans (b5.mono B4.out.size))
  clear b5 B4 E4
  go_wp2_with fail
  go_ret
  exact ⟨rfl, B5.out⟩
def exT : Bl := [46, 116, 109, 112, 47, 97, 47, 98]
theorem exn1 : copiedL [98, 46, 99, 51] = none := by decide
theorem exn2 : tempL [97, 47, 98] = (exT, 0) := by decide
theorem exn3 : tempedL exT = some [97, 47, 98] := by decide
theorem exn4 : checkL [97, 47, 47, 98] = 2 := by decide
theorem exn5 : checkL [46, 97] = 2 := by decide
theorem exn6 : checkL [46, 46, 47, 97] = 2 := by decide
theorem exn7 : withinL [97] [97, 47, 98] = true := by decide
theorem exn8 : withinL [97] [97, 98] = false := by decide
theorem exn9 : withinL [] [97] = true := by decide
set_option maxRecDepth 100000 in
set_option maxHeartbeats 2000000 in
theorem names_v (w : World) (he : Env w) : Calls Tryd.prog 5 #[] w fun e w' => e = .returned (.bool true) ∧ Below w.heap.size w w' := by
  have V1 := Lib.hid (fun w he => copied_v [98, 46, 99, 51] w he)
  have V2 := Lib.hid (fun w he => temp_v [97, 47, 98] w he)
  have V3 := Lib.hid (fun w he => temped_v exT w he)
  have V4 := Lib.hid (fun w he => check_v [97, 47, 47, 98] w he)
  have V5 := Lib.hid (fun w he => check_v [46, 97] w he)
  have V6 := Lib.hid (fun w he => check_v [46, 46, 47, 97] w he)
  have V7 := Lib.hid (fun w he => within_v [97] [97, 47, 98] w he)
  have V8 := Lib.hid (fun w he => within_v [97] [97, 98] w he)
  have V9 := Lib.hid (fun w he => within_v [] [97] w he)
  rw [exn1] at V1
  rw [exn2] at V2
  rw [exn3] at V3
  rw [exn4] at V4
  rw [exn5] at V5
  rw [exn6] at V6
  rw [exn7] at V7
  rw [exn8] at V8
  rw [exn9] at V9
  have d1 : (((2 : Nat) : Int) == 2) = true := rfl
  have d2 : (((0 : Nat) : Int) == 0) = true := rfl
  have q1 : ((st exT).toList == (⟨#[46, 116, 109, 112, 47, 97, 47, 98]⟩ : ByteArray).toList) = true := beq_iff_eq.2 rfl
  have q2 : ((st [97, 47, 98]).toList == (⟨#[97, 47, 98]⟩ : ByteArray).toList) = true := beq_iff_eq.2 rfl
  have q3 : ((st exT).toList == [46, 116, 109, 112, 47, 97, 47, 98]) = true := by rw [ByteArray.toList_eq]; rfl
  have q4 : ((st [97, 47, 98]).toList == [97, 47, 98]) = true := by rw [ByteArray.toList_eq]; rfl
  go_enter Tryd.func5, Tryd.ntmps5
  go_wp2_with fail
  refine (V1.out w he).mono ?_
  rintro e w1 ⟨rfl, b1⟩
  have E1 := Lib.hid (he.below b1)
  have B1 := Lib.hid b1
  clear b1
  unfold resV
  simp only [Option.getD_none, Option.isSome_none]
  go_wp2_with fail
  refine (V2.out w1 E1.out).mono ?_
  rintro e w2 ⟨rfl, b2⟩
  have B2 := Lib.hid (B1.out.trans (b2.mono B1.out.size))
  have E2 := Lib.hid (E1.out.below b2)
  clear b2 B1 E1
  go_wp2_with fail
  refine (V3.out w2 E2.out).mono ?_
  rintro e w3 ⟨rfl, b3⟩
  have B3 := Lib.hid (B2.out.trans (b3.mono B2.out.size))
  have E3 := Lib.hid (E2.out.below b3)
  clear b3 B2 E2
  simp only [Option.getD_some, Option.isSome_some]
  go_wp2_with fail
  refine (lives_v w3 E3.out).mono ?_
  rintro e w4 ⟨rfl, b4⟩
  have B4 := Lib.hid (B3.out.trans (b4.mono B3.out.size))
  have E4 := Lib.hid (E3.out.below b4)
  clear b4 B3 E3
  go_wp2_with fail
  refine (V4.out w4 E4.out).mono ?_
  rintro e w5 ⟨rfl, b5⟩
  have B5 := Lib.hid (B4.out.trans (b5.mono B4.out.size))
  have E5 := Lib.hid (E4.out.below b5)
  clear b5 B4 E4
  go_wp2_with fail
  refine (V5.out w5 E5.out).mono ?_
  rintro e w6 ⟨rfl, b6⟩
  have B6 := Lib.hid (B5.out.trans (b6.mono B5.out.size))
  have E6 := Lib.hid (E5.out.below b6)
  clear b6 B5 E5
  go_wp2_with fail
  refine (V6.out w6 E6.out).mono ?_
  rintro e w7 ⟨rfl, b7⟩
  have B7 := Lib.hid (B6.out.trans (b7.mono B6.out.size))
  have E7 := Lib.hid (E6.out.below b7)
  clear b7 B6 E6
  go_wp2_with fail
  refine (V7.out w7 E7.out).mono ?_
  rintro e w8 ⟨rfl, b8⟩
  have B8 := Lib.hid (B7.out.trans (b8.mono B7.out.size))
  have E8 := Lib.hid (E7.out.below b8)
  clear b8 B7 E7
  go_wp2_with fail
  refine (V8.out w8 E8.out).mono ?_
  rintro e w9 ⟨rfl, b9⟩
  have B9 := Lib.hid (B8.out.trans (b9.mono B8.out.size))
  have E9 := Lib.hid (E8.out.below b9)
  clear b9 B8 E8
  go_wp2_with fail
  refine (V9.out w9 E9.out).mono ?_
  rintro e w10 ⟨rfl, b10⟩
  have B10 := Lib.hid (B9.out.trans (b10.mono B9.out.size))
  have E10 := Lib.hid (E9.out.below b10)
  clear b10 B9 E9
  go_wp2_with fail
  go_ret
  exact ⟨rfl, B10.out⟩
end Go.Proofs.YtgidngnlmijhhaaDoor
