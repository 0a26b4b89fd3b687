/-
  The walk of VectorBumps (printed by genbumps.py).
-/
import Derived.Test.YtippojkdgecblaaVecR
import Derived.Deep.CutRange
namespace Go.Proofs.Ytippojkdgecblaa
open Go.RowKit
set_option maxHeartbeats 4000000 in
set_option maxRecDepth 100000 in
theorem bumps_in (Aa Ab Ac : Option Addr) (na nb nc ca cb cc : Nat) (a b c : List (Int × Nat)) (d f : Int) (w : World) (va : VR w Aa na a) (vb : VR w Ab nb b) (vc : VR w Ac nc c) :
    Calls Try.prog 3 #[.slice Aa na ca, .slice Ab nb cb, .slice Ac nc cc, .int .i64 d, .int .i64 f] w fun e w' => e = .returned (.bool true) ∧ Below w.heap.size w w' := by
  have Ra := Lib.hid va
  have Rb := Lib.hid vb
  have Rc := Lib.hid vc
  have hs := Below.refl w.heap.size w
  clear va vb vc
  cases hoa : okV 0 a
  · have Oa := Lib.hid hoa
    clear hoa
    go_enter Try.func3, Try.ntmps3
    go_wp2_with fail
    refine (lives_v w).mono ?_
    rintro e w1 ⟨rfl, hb1⟩
    replace Ra := Lib.hid (Ra.out.step hb1)
    replace Rb := Lib.hid (Rb.out.step hb1)
    replace Rc := Lib.hid (Rc.out.step hb1)
    replace hs := hs.trans (hb1.mono hs.size)
    clear hb1
    have HS0 := Lib.hid hs
    go_wp2_with fail
    refine (check_r Ra.out).mono ?_
    rw [Oa.out]
    rintro e w2 ⟨rfl, hb2⟩
    replace Ra := Lib.hid (Ra.out.step hb2)
    replace Rb := Lib.hid (Rb.out.step hb2)
    replace Rc := Lib.hid (Rc.out.step hb2)
    replace hs := hs.trans (hb2.mono hs.size)
    clear hb2
    go_wp2
    go_ret
    exact ⟨rfl, hs⟩
  · have Oa := Lib.hid hoa
    cases hob : okV 0 b
    · have Ob := Lib.hid hob
      clear hob
      go_enter Try.func3, Try.ntmps3
      go_wp2_with fail
      refine (lives_v w).mono ?_
      rintro e w1 ⟨rfl, hb1⟩
      replace Ra := Lib.hid (Ra.out.step hb1)
      replace Rb := Lib.hid (Rb.out.step hb1)
      replace Rc := Lib.hid (Rc.out.step hb1)
      replace hs := hs.trans (hb1.mono hs.size)
      clear hb1
      have HS0 := Lib.hid hs
      go_wp2_with fail
      refine (check_r Ra.out).mono ?_
      rw [Oa.out]
      rintro e w2 ⟨rfl, hb2⟩
      replace Ra := Lib.hid (Ra.out.step hb2)
      replace Rb := Lib.hid (Rb.out.step hb2)
      replace Rc := Lib.hid (Rc.out.step hb2)
      replace hs := hs.trans (hb2.mono hs.size)
      clear hb2
      go_wp2_with fail
      refine (check_r Rb.out).mono ?_
      rw [Ob.out]
      rintro e w3 ⟨rfl, hb3⟩
      replace Ra := Lib.hid (Ra.out.step hb3)
      replace Rb := Lib.hid (Rb.out.step hb3)
      replace Rc := Lib.hid (Rc.out.step hb3)
      replace hs := hs.trans (hb3.mono hs.size)
      clear hb3
      go_wp2
      go_ret
      exact ⟨rfl, hs⟩
    · have Ob := Lib.hid hob
      cases hoc : okV 0 c
      · have Oc := Lib.hid hoc
        clear hoc
        go_enter Try.func3, Try.ntmps3
        go_wp2_with fail
        refine (lives_v w).mono ?_
        rintro e w1 ⟨rfl, hb1⟩
        replace Ra := Lib.hid (Ra.out.step hb1)
        replace Rb := Lib.hid (Rb.out.step hb1)
        replace Rc := Lib.hid (Rc.out.step hb1)
        replace hs := hs.trans (hb1.mono hs.size)
        clear hb1
        have HS0 := Lib.hid hs
        go_wp2_with fail
        refine (check_r Ra.out).mono ?_
        rw [Oa.out]
        rintro e w2 ⟨rfl, hb2⟩
        replace Ra := Lib.hid (Ra.out.step hb2)
        replace Rb := Lib.hid (Rb.out.step hb2)
        replace Rc := Lib.hid (Rc.out.step hb2)
        replace hs := hs.trans (hb2.mono hs.size)
        clear hb2
        go_wp2_with fail
        refine (check_r Rb.out).mono ?_
        rw [Ob.out]
        rintro e w3 ⟨rfl, hb3⟩
        replace Ra := Lib.hid (Ra.out.step hb3)
        replace Rb := Lib.hid (Rb.out.step hb3)
        replace Rc := Lib.hid (Rc.out.step hb3)
        replace hs := hs.trans (hb3.mono hs.size)
        clear hb3
        go_wp2_with fail
        refine (check_r Rc.out).mono ?_
        rw [Oc.out]
        rintro e w4 ⟨rfl, hb4⟩
        replace Ra := Lib.hid (Ra.out.step hb4)
        replace Rb := Lib.hid (Rb.out.step hb4)
        replace Rc := Lib.hid (Rc.out.step hb4)
        replace hs := hs.trans (hb4.mono hs.size)
        clear hb4
        go_wp2
        go_ret
        exact ⟨rfl, hs⟩
      · have Oc := Lib.hid hoc
        have E3 := Lib.hid (merge_ok _ (allOk_cons a _ hoa (allOk_cons b [c] hob (allOk_cons c [] hoc allOk_nil)))).1
        have E4 := Lib.hid (merge_ok _ (allOk_cons c _ hoc (allOk_cons b _ hob (allOk_cons a [b] hoa (allOk_cons b [] hob allOk_nil))))).1
        have G1 := Lib.hid (merge_group hoa hob hoc)
        have G2 := Lib.hid (merge_turn hoa hob hoc)
        have G3 := Lib.hid (cmp_merge hoa hob hoc)
        clear hoa hob hoc
        go_enter Try.func3, Try.ntmps3
        go_wp2_with fail
        refine (lives_v w).mono ?_
        rintro e w1 ⟨rfl, hb1⟩
        replace Ra := Lib.hid (Ra.out.step hb1)
        replace Rb := Lib.hid (Rb.out.step hb1)
        replace Rc := Lib.hid (Rc.out.step hb1)
        replace hs := hs.trans (hb1.mono hs.size)
        clear hb1
        have HS0 := Lib.hid hs
        go_wp2_with fail
        refine (check_r Ra.out).mono ?_
        rw [Oa.out]
        rintro e w2 ⟨rfl, hb2⟩
        replace Ra := Lib.hid (Ra.out.step hb2)
        replace Rb := Lib.hid (Rb.out.step hb2)
        replace Rc := Lib.hid (Rc.out.step hb2)
        replace hs := hs.trans (hb2.mono hs.size)
        clear hb2
        go_wp2_with fail
        refine (check_r Rb.out).mono ?_
        rw [Ob.out]
        rintro e w3 ⟨rfl, hb3⟩
        replace Ra := Lib.hid (Ra.out.step hb3)
        replace Rb := Lib.hid (Rb.out.step hb3)
        replace Rc := Lib.hid (Rc.out.step hb3)
        replace hs := hs.trans (hb3.mono hs.size)
        clear hb3
        go_wp2_with fail
        refine (check_r Rc.out).mono ?_
        rw [Oc.out]
        rintro e w4 ⟨rfl, hb4⟩
        replace Ra := Lib.hid (Ra.out.step hb4)
        replace Rb := Lib.hid (Rb.out.step hb4)
        replace Rc := Lib.hid (Rc.out.step hb4)
        replace hs := hs.trans (hb4.mono hs.size)
        clear hb4
        obtain ⟨m, hm⟩ : ∃ m, mergeV [a, b, c] = m := ⟨_, rfl⟩
        obtain ⟨bc, hbc⟩ : ∃ bc, mergeV [b, c] = bc := ⟨_, rfl⟩
        rw [hm, hbc] at G1
        rw [hm] at G2 G3
        have M1 := Lib.hid hm
        have M2 := Lib.hid hbc
        clear hm hbc
        go_wp2_with fail
        refine (merge3 Ra.out Rb.out Rc.out).mono ?_
        rw [E3.out, M1.out]
        rintro e w5 ⟨Am, nm, cm, rfl, hm, hb5⟩
        replace Ra := Lib.hid (Ra.out.step hb5)
        replace Rb := Lib.hid (Rb.out.step hb5)
        replace Rc := Lib.hid (Rc.out.step hb5)
        replace hs := hs.trans (hb5.mono hs.size)
        have Rm := Lib.hid hm
        clear hm
        clear hb5
        go_wp2_with fail
        refine (merge2 Rb.out Rc.out).mono ?_
        rw [M2.out]
        generalize mergeE [b, c] = e1
        rintro e w6 ⟨Abc, nbc, cbc, rfl, hbc, hb6⟩
        replace Ra := Lib.hid (Ra.out.step hb6)
        replace Rb := Lib.hid (Rb.out.step hb6)
        replace Rc := Lib.hid (Rc.out.step hb6)
        replace Rm := Lib.hid (Rm.out.step hb6)
        replace hs := hs.trans (hb6.mono hs.size)
        have Rbc := Lib.hid hbc
        clear hbc
        clear hb6
        go_wp2_with fail
        refine (merge2 Ra.out Rbc.out).mono ?_
        rw [G1.out]
        generalize mergeE [a, bc] = e2
        rintro e w7 ⟨Ax, nx, cx, rfl, hx, hb7⟩
        replace Ra := Lib.hid (Ra.out.step hb7)
        replace Rb := Lib.hid (Rb.out.step hb7)
        replace Rc := Lib.hid (Rc.out.step hb7)
        replace Rm := Lib.hid (Rm.out.step hb7)
        replace Rbc := Lib.hid (Rbc.out.step hb7)
        replace hs := hs.trans (hb7.mono hs.size)
        have Rx := Lib.hid hx
        clear hx
        clear hb7
        go_wp2_with fail
        refine (merge4 Rc.out Rb.out Ra.out Rb.out).mono ?_
        rw [E4.out, G2.out]
        rintro e w8 ⟨Ay, ny, cy, rfl, hy, hb8⟩
        replace Ra := Lib.hid (Ra.out.step hb8)
        replace Rb := Lib.hid (Rb.out.step hb8)
        replace Rc := Lib.hid (Rc.out.step hb8)
        replace Rm := Lib.hid (Rm.out.step hb8)
        replace Rbc := Lib.hid (Rbc.out.step hb8)
        replace Rx := Lib.hid (Rx.out.step hb8)
        replace hs := hs.trans (hb8.mono hs.size)
        have Ry := Lib.hid hy
        clear hy
        clear hb8
        go_wp2_with fail
        refine (same_r Rm.out Rx.out).mono ?_
        rw [show decide (m = m) = true from decide_eq_true rfl]
        rintro e w9 ⟨rfl, hb9⟩
        replace Ra := Lib.hid (Ra.out.step hb9)
        replace Rb := Lib.hid (Rb.out.step hb9)
        replace Rc := Lib.hid (Rc.out.step hb9)
        replace Rm := Lib.hid (Rm.out.step hb9)
        replace Rbc := Lib.hid (Rbc.out.step hb9)
        replace Rx := Lib.hid (Rx.out.step hb9)
        replace Ry := Lib.hid (Ry.out.step hb9)
        replace hs := hs.trans (hb9.mono hs.size)
        clear hb9
        go_wp2_with fail
        refine (same_r Rm.out Ry.out).mono ?_
        rw [show decide (m = m) = true from decide_eq_true rfl]
        rintro e w10 ⟨rfl, hb10⟩
        replace Ra := Lib.hid (Ra.out.step hb10)
        replace Rb := Lib.hid (Rb.out.step hb10)
        replace Rc := Lib.hid (Rc.out.step hb10)
        replace Rm := Lib.hid (Rm.out.step hb10)
        replace Rbc := Lib.hid (Rbc.out.step hb10)
        replace Rx := Lib.hid (Rx.out.step hb10)
        replace Ry := Lib.hid (Ry.out.step hb10)
        replace hs := hs.trans (hb10.mono hs.size)
        clear hb10
        clear Rbc Rx Ry Rb Rc
        obtain ⟨cv, hcv⟩ : ∃ cv, cmpV m a = cv := ⟨_, rfl⟩
        rw [hcv] at G3
        have HCV := Lib.hid hcv
        clear hcv
        go_wp2_with fail
        refine (compare_r Rm.out Ra.out).mono ?_
        rw [HCV.out]
        rintro e w11 ⟨rfl, hb11⟩
        replace Ra := Lib.hid (Ra.out.step hb11)
        replace Rm := Lib.hid (Rm.out.step hb11)
        replace hs := hs.trans (hb11.mono hs.size)
        clear hb11
        clear Rm
        go_upto_region 12 with fail
        go_cut [96] from 91 to 96 (fun v wx => v = .bool false ∧ wx = w11)
        case first =>
          rcases G3.out with h | h
          · have d1 : (cv != 1) = false := by rw [h]; rfl
            clear h
            go_wp2_with fail
            go_meet
            case rel => exact ⟨rfl, rfl⟩
          · have d1 : (cv != 1) = true := by rw [h]; rfl
            have d2 : (cv != 3) = false := by rw [h]; rfl
            clear h
            go_wp2_with fail
            go_meet
            case rel => exact ⟨rfl, rfl⟩
        case rest =>
          obtain ⟨rfl, rfl⟩ := hcut
          obtain ⟨p, hp⟩ : ∃ p, bumpV a d = p := ⟨_, rfl⟩
          obtain ⟨q, hq⟩ : ∃ q, bumpV a f = q := ⟨_, rfl⟩
          obtain ⟨g, hg⟩ : ∃ g, bumpE a d = g := ⟨_, rfl⟩
          obtain ⟨h, hh⟩ : ∃ h, bumpE a f = h := ⟨_, rfl⟩
          have HP := Lib.hid hp
          clear hp
          have HQ := Lib.hid hq
          clear hq
          have HG := Lib.hid hg
          clear hg
          have HH := Lib.hid hh
          clear hh
          go_wp2_with fail
          refine (bump_r Ra.out d).mono ?_
          rw [HP.out, HG.out]
          rintro e w12 ⟨Ap, np, cp, rfl, hp, hb12⟩
          replace Ra := Lib.hid (Ra.out.step hb12)
          replace hs := hs.trans (hb12.mono hs.size)
          have Rp := Lib.hid hp
          clear hp
          clear hb12
          go_wp2_with fail
          refine (bump_r Ra.out f).mono ?_
          rw [HQ.out, HH.out]
          rintro e w13 ⟨Aq, nq, cq, rfl, hq, hb13⟩
          replace Ra := Lib.hid (Ra.out.step hb13)
          replace Rp := Lib.hid (Rp.out.step hb13)
          replace hs := hs.trans (hb13.mono hs.size)
          have Rq := Lib.hid hq
          clear hq
          clear hb13
          by_cases g0 : g = 0
          · by_cases h0 : h = 0
            · subst g0 h0
              by_cases hdf : d = f
              · subst hdf
                obtain rfl : p = q := by rw [← HP.out, ← HQ.out]
                obtain ⟨g5, hg5⟩ : ∃ g5, bumpE p d = g5 := ⟨_, rfl⟩
                obtain ⟨v5, hv5⟩ : ∃ v5, bumpV p d = v5 := ⟨_, rfl⟩
                obtain ⟨e5, he5⟩ : ∃ e5, mergeE [p, p] = e5 := ⟨_, rfl⟩
                have HG5 := Lib.hid hg5
                clear hg5
                have HV5 := Lib.hid hv5
                clear hv5
                have HE5 := Lib.hid he5
                clear he5
                go_wp2_with fail
                refine (bump_r Rp.out d).mono ?_
                rw [HG5.out, HV5.out]
                rintro e w14 ⟨Apq, npq, cpq, rfl, hpq, hb14⟩
                replace Ra := Lib.hid (Ra.out.step hb14)
                replace Rp := Lib.hid (Rp.out.step hb14)
                replace Rq := Lib.hid (Rq.out.step hb14)
                replace hs := hs.trans (hb14.mono hs.size)
                have Rpq := Lib.hid hpq
                clear hpq
                clear hb14
                go_wp2_with fail
                refine (bump_r Rq.out d).mono ?_
                rw [HG5.out, HV5.out]
                rintro e w15 ⟨Aqp, nqp, cqp, rfl, hqp, hb15⟩
                replace Ra := Lib.hid (Ra.out.step hb15)
                replace Rp := Lib.hid (Rp.out.step hb15)
                replace Rq := Lib.hid (Rq.out.step hb15)
                replace Rpq := Lib.hid (Rpq.out.step hb15)
                replace hs := hs.trans (hb15.mono hs.size)
                have Rqp := Lib.hid hqp
                clear hqp
                clear hb15
                go_wp2_with fail
                refine (merge2 Rp.out Rq.out).mono ?_
                rw [HE5.out]
                rintro e w16 ⟨Aboth, nboth, cboth, rfl, hboth, hb16⟩
                replace Ra := Lib.hid (Ra.out.step hb16)
                replace Rp := Lib.hid (Rp.out.step hb16)
                replace Rq := Lib.hid (Rq.out.step hb16)
                replace Rpq := Lib.hid (Rpq.out.step hb16)
                replace Rqp := Lib.hid (Rqp.out.step hb16)
                replace hs := hs.trans (hb16.mono hs.size)
                have Rboth := Lib.hid hboth
                clear hboth
                clear hb16
                go_wp2_with fail
                refine (same_r Rp.out Rq.out).mono ?_
                rw [show decide (p = p) = true from decide_eq_true rfl]
                rintro e w17 ⟨rfl, hb17⟩
                replace Ra := Lib.hid (Ra.out.step hb17)
                replace Rp := Lib.hid (Rp.out.step hb17)
                replace Rq := Lib.hid (Rq.out.step hb17)
                replace Rpq := Lib.hid (Rpq.out.step hb17)
                replace Rqp := Lib.hid (Rqp.out.step hb17)
                replace Rboth := Lib.hid (Rboth.out.step hb17)
                replace hs := hs.trans (hb17.mono hs.size)
                clear hb17
                have hv : val p d = val a d + 1 := by rw [← HP.out, val_bump HG.out, bumpF, if_pos rfl]
                have hlt : val a d + 1 < 18446744073709551616 := by have h1 := fit_val a d Ra.out.f; have h2 := (bump_ok HG.out).2.2.2.1; omega
                obtain ⟨z, hz⟩ : ∃ z, val a d = z := ⟨_, rfl⟩
                rw [hz] at hv hlt
                have HV := Lib.hid hv
                have HZ := Lib.hid hz
                clear hv hz
                go_wp2_with fail
                refine (val_r Rp.out d).mono ?_
                rw [HV.out]
                rintro e w18 ⟨rfl, hb18⟩
                replace Ra := Lib.hid (Ra.out.step hb18)
                replace Rp := Lib.hid (Rp.out.step hb18)
                replace Rq := Lib.hid (Rq.out.step hb18)
                replace Rpq := Lib.hid (Rpq.out.step hb18)
                replace Rqp := Lib.hid (Rqp.out.step hb18)
                replace Rboth := Lib.hid (Rboth.out.step hb18)
                replace hs := hs.trans (hb18.mono hs.size)
                clear hb18
                go_wp2_with fail
                refine (val_r Ra.out d).mono ?_
                rw [HZ.out]
                rintro e w19 ⟨rfl, hb19⟩
                replace Ra := Lib.hid (Ra.out.step hb19)
                replace Rp := Lib.hid (Rp.out.step hb19)
                replace Rq := Lib.hid (Rq.out.step hb19)
                replace Rpq := Lib.hid (Rpq.out.step hb19)
                replace Rqp := Lib.hid (Rqp.out.step hb19)
                replace Rboth := Lib.hid (Rboth.out.step hb19)
                replace hs := hs.trans (hb19.mono hs.size)
                clear hb19
                go_wp2
                go_ret
                exact ⟨rfl, hs⟩
              · have hb0 : (d == f) = false := by simpa using hdf
                obtain ⟨v5, hv5⟩ : ∃ v5, bumpV p f = v5 := ⟨_, rfl⟩
                have T1 : bumpE p f = 0 := by rw [← HP.out]; exact bump_bump HG.out HH.out hdf
                have T2 : bumpE q d = 0 := by rw [← HQ.out]; exact bump_bump HH.out HG.out (Ne.symm hdf)
                have T3 : bumpV q d = v5 := by rw [← hv5, ← HP.out, ← HQ.out]; exact (bump_turn HG.out HH.out hdf).symm
                have T4 : mergeV [p, q] = v5 := by rw [← hv5, ← HP.out, ← HQ.out]; exact bump_merge HG.out HH.out hdf
                have T5 : mergeE [p, q] = 0 := by rw [← HP.out, ← HQ.out]; exact (merge_ok _ (allOk_cons _ _ (ok_bump HG.out) (allOk_cons _ [] (ok_bump HH.out) allOk_nil))).1
                have T6 : cmpV p q = 4 := by rw [← HP.out, ← HQ.out]; exact bump_cmp HG.out HH.out hdf
                have T7 : ordV q p = - ordV p q := ordV_turn p q
                have T8 : ordV p q ≠ 0 := by rw [← HP.out, ← HQ.out]; exact bump_ord HG.out HH.out hdf
                have T9 : ordV p q = 1 ∨ ordV p q = -1 := ord_pm T8
                have U1 := Lib.hid T1
                clear T1
                have U2 := Lib.hid T2
                clear T2
                have U3 := Lib.hid T3
                clear T3
                have U4 := Lib.hid T4
                clear T4
                have U5 := Lib.hid T5
                clear T5
                have U6 := Lib.hid T6
                clear T6
                have U7 := Lib.hid T7
                clear T7
                have U8 := Lib.hid T8
                clear T8
                have U9 := Lib.hid T9
                have UV := Lib.hid hv5
                clear T9 hv5 hdf
                go_wp2_with fail
                refine (bump_r Rp.out f).mono ?_
                rw [U1.out, UV.out]
                rintro e w14 ⟨Apq, npq, cpq, rfl, hpq, hb14⟩
                replace Ra := Lib.hid (Ra.out.step hb14)
                replace Rp := Lib.hid (Rp.out.step hb14)
                replace Rq := Lib.hid (Rq.out.step hb14)
                replace hs := hs.trans (hb14.mono hs.size)
                have Rpq := Lib.hid hpq
                clear hpq
                clear hb14
                go_wp2_with fail
                refine (bump_r Rq.out d).mono ?_
                rw [U2.out, U3.out]
                rintro e w15 ⟨Aqp, nqp, cqp, rfl, hqp, hb15⟩
                replace Ra := Lib.hid (Ra.out.step hb15)
                replace Rp := Lib.hid (Rp.out.step hb15)
                replace Rq := Lib.hid (Rq.out.step hb15)
                replace Rpq := Lib.hid (Rpq.out.step hb15)
                replace hs := hs.trans (hb15.mono hs.size)
                have Rqp := Lib.hid hqp
                clear hqp
                clear hb15
                go_wp2_with fail
                refine (merge2 Rp.out Rq.out).mono ?_
                rw [U5.out, U4.out]
                rintro e w16 ⟨Aboth, nboth, cboth, rfl, hboth, hb16⟩
                replace Ra := Lib.hid (Ra.out.step hb16)
                replace Rp := Lib.hid (Rp.out.step hb16)
                replace Rq := Lib.hid (Rq.out.step hb16)
                replace Rpq := Lib.hid (Rpq.out.step hb16)
                replace Rqp := Lib.hid (Rqp.out.step hb16)
                replace hs := hs.trans (hb16.mono hs.size)
                have Rboth := Lib.hid hboth
                clear hboth
                clear hb16
                go_wp2_with fail
                refine (same_r Rpq.out Rqp.out).mono ?_
                rw [show decide (v5 = v5) = true from decide_eq_true rfl]
                rintro e w17 ⟨rfl, hb17⟩
                replace Ra := Lib.hid (Ra.out.step hb17)
                replace Rp := Lib.hid (Rp.out.step hb17)
                replace Rq := Lib.hid (Rq.out.step hb17)
                replace Rpq := Lib.hid (Rpq.out.step hb17)
                replace Rqp := Lib.hid (Rqp.out.step hb17)
                replace Rboth := Lib.hid (Rboth.out.step hb17)
                replace hs := hs.trans (hb17.mono hs.size)
                clear hb17
                go_wp2_with fail
                refine (same_r Rboth.out Rpq.out).mono ?_
                rw [show decide (v5 = v5) = true from decide_eq_true rfl]
                rintro e w18 ⟨rfl, hb18⟩
                replace Ra := Lib.hid (Ra.out.step hb18)
                replace Rp := Lib.hid (Rp.out.step hb18)
                replace Rq := Lib.hid (Rq.out.step hb18)
                replace Rpq := Lib.hid (Rpq.out.step hb18)
                replace Rqp := Lib.hid (Rqp.out.step hb18)
                replace Rboth := Lib.hid (Rboth.out.step hb18)
                replace hs := hs.trans (hb18.mono hs.size)
                clear hb18
                go_wp2_with fail
                refine (compare_r Rp.out Rq.out).mono ?_
                rw [U6.out]
                rintro e w19 ⟨rfl, hb19⟩
                replace Ra := Lib.hid (Ra.out.step hb19)
                replace Rp := Lib.hid (Rp.out.step hb19)
                replace Rq := Lib.hid (Rq.out.step hb19)
                replace Rpq := Lib.hid (Rpq.out.step hb19)
                replace Rqp := Lib.hid (Rqp.out.step hb19)
                replace Rboth := Lib.hid (Rboth.out.step hb19)
                replace hs := hs.trans (hb19.mono hs.size)
                clear hb19
                rcases U9.out with ho | ho
                · have V1 := Lib.hid ho
                  have V2 := Lib.hid (show ordV q p = -1 by rw [U7.out, ho])
                  clear ho
                  go_wp2_with fail
                  refine (order_r Rp.out Rq.out).mono ?_
                  rw [V1.out]
                  rintro e w20 ⟨rfl, hb20⟩
                  replace Ra := Lib.hid (Ra.out.step hb20)
                  replace Rp := Lib.hid (Rp.out.step hb20)
                  replace Rq := Lib.hid (Rq.out.step hb20)
                  replace Rpq := Lib.hid (Rpq.out.step hb20)
                  replace Rqp := Lib.hid (Rqp.out.step hb20)
                  replace Rboth := Lib.hid (Rboth.out.step hb20)
                  replace hs := hs.trans (hb20.mono hs.size)
                  clear hb20
                  go_wp2_with fail
                  refine (order_r Rq.out Rp.out).mono ?_
                  rw [V2.out]
                  rintro e w21 ⟨rfl, hb21⟩
                  replace Ra := Lib.hid (Ra.out.step hb21)
                  replace Rp := Lib.hid (Rp.out.step hb21)
                  replace Rq := Lib.hid (Rq.out.step hb21)
                  replace Rpq := Lib.hid (Rpq.out.step hb21)
                  replace Rqp := Lib.hid (Rqp.out.step hb21)
                  replace Rboth := Lib.hid (Rboth.out.step hb21)
                  replace hs := hs.trans (hb21.mono hs.size)
                  clear hb21
                  go_wp2_with fail
                  refine (order_r Rp.out Rq.out).mono ?_
                  rw [V1.out]
                  rintro e w22 ⟨rfl, hb22⟩
                  replace Ra := Lib.hid (Ra.out.step hb22)
                  replace Rp := Lib.hid (Rp.out.step hb22)
                  replace Rq := Lib.hid (Rq.out.step hb22)
                  replace Rpq := Lib.hid (Rpq.out.step hb22)
                  replace Rqp := Lib.hid (Rqp.out.step hb22)
                  replace Rboth := Lib.hid (Rboth.out.step hb22)
                  replace hs := hs.trans (hb22.mono hs.size)
                  clear hb22
                  go_wp2
                  go_ret
                  exact ⟨rfl, hs⟩
                · have V1 := Lib.hid ho
                  have V2 := Lib.hid (show ordV q p = 1 by rw [U7.out, ho]; rfl)
                  clear ho
                  go_wp2_with fail
                  refine (order_r Rp.out Rq.out).mono ?_
                  rw [V1.out]
                  rintro e w20 ⟨rfl, hb20⟩
                  replace Ra := Lib.hid (Ra.out.step hb20)
                  replace Rp := Lib.hid (Rp.out.step hb20)
                  replace Rq := Lib.hid (Rq.out.step hb20)
                  replace Rpq := Lib.hid (Rpq.out.step hb20)
                  replace Rqp := Lib.hid (Rqp.out.step hb20)
                  replace Rboth := Lib.hid (Rboth.out.step hb20)
                  replace hs := hs.trans (hb20.mono hs.size)
                  clear hb20
                  go_wp2_with fail
                  refine (order_r Rq.out Rp.out).mono ?_
                  rw [V2.out]
                  rintro e w21 ⟨rfl, hb21⟩
                  replace Ra := Lib.hid (Ra.out.step hb21)
                  replace Rp := Lib.hid (Rp.out.step hb21)
                  replace Rq := Lib.hid (Rq.out.step hb21)
                  replace Rpq := Lib.hid (Rpq.out.step hb21)
                  replace Rqp := Lib.hid (Rqp.out.step hb21)
                  replace Rboth := Lib.hid (Rboth.out.step hb21)
                  replace hs := hs.trans (hb21.mono hs.size)
                  clear hb21
                  go_wp2_with fail
                  refine (order_r Rp.out Rq.out).mono ?_
                  rw [V1.out]
                  rintro e w22 ⟨rfl, hb22⟩
                  replace Ra := Lib.hid (Ra.out.step hb22)
                  replace Rp := Lib.hid (Rp.out.step hb22)
                  replace Rq := Lib.hid (Rq.out.step hb22)
                  replace Rpq := Lib.hid (Rpq.out.step hb22)
                  replace Rqp := Lib.hid (Rqp.out.step hb22)
                  replace Rboth := Lib.hid (Rboth.out.step hb22)
                  replace hs := hs.trans (hb22.mono hs.size)
                  clear hb22
                  go_wp2
                  go_ret
                  exact ⟨rfl, hs⟩
            · have gh : (h != 0) = true := by simpa using h0
              have hq0 : nq = 0 := by have := Rq.out.r.len; rw [← HQ.out, bump_nil (by rw [HH.out]; exact h0)] at this; exact this.symm
              subst hq0 g0
              by_cases n0 : np = 0
              · subst n0
                go_wp2
                go_ret
                exact ⟨rfl, hs⟩
              · have nb0 : ((np : Int) == 0) = false := by rw [beq_eq_false_iff_ne]; omega
                go_wp2
                go_ret
                exact ⟨rfl, hs⟩
          · have gg : (g != 0) = true := by simpa using g0
            have hp0 : np = 0 := by have := Rp.out.r.len; rw [← HP.out, bump_nil (by rw [HG.out]; exact g0)] at this; exact this.symm
            subst hp0
            go_wp2
            go_ret
            exact ⟨rfl, hs⟩
end Go.Proofs.Ytippojkdgecblaa
