/-
  The walk of VectorOrders (printed by genorders.py).
-/
import Derived.Test.YtippojkdgecblaaVecI
import Derived.Deep.CutRange
namespace Go.Proofs.Ytippojkdgecblaa
open Go.RowKit
set_option maxHeartbeats 8000000 in
set_option maxRecDepth 100000 in
theorem orders_in (Aa Ab Ac : Option Addr) (na nb nc ca cb cc : Nat) (a b c : List (Int × Nat)) (d : Int) (w : World) (va : VR w Aa na a) (vb : VR w Ab nb b) (vc : VR w Ac nc c) :
    Calls Try.prog 4 #[.slice Aa na ca, .slice Ab nb cb, .slice Ac nc cc, .int .i64 d] w fun e w' => e = .returned (.bool true) ∧ Below w.heap.size w w' := by
  have Ra := Lib.hid va
  have Rb := Lib.hid vb
  have Rc := Lib.hid vc
  have hs := Below.refl w.heap.size w
  clear va vb vc
  cases hoa : okV 0 a
  · have Oa := Lib.hid hoa
    clear hoa
    go_enter Try.func4, Try.ntmps4
    go_wp2_with fail
    refine (lives_v w).mono ?_
    rintro e w1 ⟨rfl, hb1⟩
    replace Ra := Lib.hid (Ra.out.step hb1)
    replace Rb := Lib.hid (Rb.out.step hb1)
    replace Rc := Lib.hid (Rc.out.step hb1)
    replace hs := hs.trans (hb1.mono hs.size)
    clear hb1
    go_wp2_with fail
    refine (check_r Ra.out).mono ?_
    rw [Oa.out]
    rintro e w2 ⟨rfl, hb2⟩
    replace Ra := Lib.hid (Ra.out.step hb2)
    replace Rb := Lib.hid (Rb.out.step hb2)
    replace Rc := Lib.hid (Rc.out.step hb2)
    replace hs := hs.trans (hb2.mono hs.size)
    clear hb2
    go_wp2
    go_ret
    exact ⟨rfl, hs⟩
  · have Oa := Lib.hid hoa
    cases hob : okV 0 b
    · have Ob := Lib.hid hob
      clear hob
      go_enter Try.func4, Try.ntmps4
      go_wp2_with fail
      refine (lives_v w).mono ?_
      rintro e w1 ⟨rfl, hb1⟩
      replace Ra := Lib.hid (Ra.out.step hb1)
      replace Rb := Lib.hid (Rb.out.step hb1)
      replace Rc := Lib.hid (Rc.out.step hb1)
      replace hs := hs.trans (hb1.mono hs.size)
      clear hb1
      go_wp2_with fail
      refine (check_r Ra.out).mono ?_
      rw [Oa.out]
      rintro e w2 ⟨rfl, hb2⟩
      replace Ra := Lib.hid (Ra.out.step hb2)
      replace Rb := Lib.hid (Rb.out.step hb2)
      replace Rc := Lib.hid (Rc.out.step hb2)
      replace hs := hs.trans (hb2.mono hs.size)
      clear hb2
      go_wp2_with fail
      refine (check_r Rb.out).mono ?_
      rw [Ob.out]
      rintro e w3 ⟨rfl, hb3⟩
      replace Ra := Lib.hid (Ra.out.step hb3)
      replace Rb := Lib.hid (Rb.out.step hb3)
      replace Rc := Lib.hid (Rc.out.step hb3)
      replace hs := hs.trans (hb3.mono hs.size)
      clear hb3
      go_wp2
      go_ret
      exact ⟨rfl, hs⟩
    · have Ob := Lib.hid hob
      cases hoc : okV 0 c
      · have Oc := Lib.hid hoc
        clear hoc
        go_enter Try.func4, Try.ntmps4
        go_wp2_with fail
        refine (lives_v w).mono ?_
        rintro e w1 ⟨rfl, hb1⟩
        replace Ra := Lib.hid (Ra.out.step hb1)
        replace Rb := Lib.hid (Rb.out.step hb1)
        replace Rc := Lib.hid (Rc.out.step hb1)
        replace hs := hs.trans (hb1.mono hs.size)
        clear hb1
        go_wp2_with fail
        refine (check_r Ra.out).mono ?_
        rw [Oa.out]
        rintro e w2 ⟨rfl, hb2⟩
        replace Ra := Lib.hid (Ra.out.step hb2)
        replace Rb := Lib.hid (Rb.out.step hb2)
        replace Rc := Lib.hid (Rc.out.step hb2)
        replace hs := hs.trans (hb2.mono hs.size)
        clear hb2
        go_wp2_with fail
        refine (check_r Rb.out).mono ?_
        rw [Ob.out]
        rintro e w3 ⟨rfl, hb3⟩
        replace Ra := Lib.hid (Ra.out.step hb3)
        replace Rb := Lib.hid (Rb.out.step hb3)
        replace Rc := Lib.hid (Rc.out.step hb3)
        replace hs := hs.trans (hb3.mono hs.size)
        clear hb3
        go_wp2_with fail
        refine (check_r Rc.out).mono ?_
        rw [Oc.out]
        rintro e w4 ⟨rfl, hb4⟩
        replace Ra := Lib.hid (Ra.out.step hb4)
        replace Rb := Lib.hid (Rb.out.step hb4)
        replace Rc := Lib.hid (Rc.out.step hb4)
        replace hs := hs.trans (hb4.mono hs.size)
        clear hb4
        go_wp2
        go_ret
        exact ⟨rfl, hs⟩
      · have Oc := Lib.hid hoc
        clear hoa hob hoc
        obtain ⟨x, hx⟩ : ∃ x, cmpV a b = x := ⟨_, rfl⟩
        have Hx := Lib.hid hx
        clear hx
        obtain ⟨y, hy⟩ : ∃ y, cmpV b c = y := ⟨_, rfl⟩
        have Hy := Lib.hid hy
        clear hy
        obtain ⟨z, hz⟩ : ∃ z, cmpV a c = z := ⟨_, rfl⟩
        have Hz := Lib.hid hz
        clear hz
        obtain ⟨u, hu⟩ : ∃ u, ordV a b = u := ⟨_, rfl⟩
        have Hu := Lib.hid hu
        clear hu
        obtain ⟨v, hv⟩ : ∃ v, ordV b c = v := ⟨_, rfl⟩
        have Hv := Lib.hid hv
        clear hv
        obtain ⟨t, ht⟩ : ∃ t, ordV a c = t := ⟨_, rfl⟩
        have Ht := Lib.hid ht
        clear ht
        have F1 : Hid (x = 1 ↔ a = b) := Lib.hid (by rw [← Hx.out]; exact same_iff a b Oa.out Ob.out)
        have F2 : Hid (x = 2 → (y = 2 ∨ y = 1) → z = 2) := Lib.hid (by rw [← Hx.out, ← Hy.out, ← Hz.out]; exact before_trans Oa.out Ob.out Oc.out)
        have F3 : Hid (u = 0 ↔ x = 1) := Lib.hid (by rw [← Hx.out, ← Hu.out]; exact ord_zero Oa.out Ob.out)
        have F4 : Hid (x = 2 → u = -1) := Lib.hid (by rw [← Hx.out, ← Hu.out]; exact ord_before Oa.out Ob.out)
        have F5 : Hid (u ≤ 0 → v ≤ 0 → t ≤ 0 ∧ (u < 0 ∨ v < 0 → t < 0)) := Lib.hid (by rw [← Hu.out, ← Hv.out, ← Ht.out]; exact ord_trans Oa.out Ob.out Oc.out)
        have F6 : Hid (u = 0 ∨ u = 1 ∨ u = -1) := Lib.hid (by rw [← Hu.out]; exact ordV_pm a b)
        have F7 : Hid (v = 0 ∨ v = 1 ∨ v = -1) := Lib.hid (by rw [← Hv.out]; exact ordV_pm b c)
        have F8 : Hid (t = 0 ∨ t = 1 ∨ t = -1) := Lib.hid (by rw [← Ht.out]; exact ordV_pm a c)
        have G1 : Hid (cmpV b a = turnedV x) := Lib.hid (by rw [← Hx.out]; exact cmp_turn a b Oa.out Ob.out)
        have G2 : Hid (ordV b a = -u) := Lib.hid (by rw [← Hu.out]; exact ordV_turn a b)
        go_enter Try.func4, Try.ntmps4
        go_wp2_with fail
        refine (lives_v w).mono ?_
        rintro e w1 ⟨rfl, hb1⟩
        replace Ra := Lib.hid (Ra.out.step hb1)
        replace Rb := Lib.hid (Rb.out.step hb1)
        replace Rc := Lib.hid (Rc.out.step hb1)
        replace hs := hs.trans (hb1.mono hs.size)
        clear hb1
        go_wp2_with fail
        refine (check_r Ra.out).mono ?_
        rw [Oa.out]
        rintro e w2 ⟨rfl, hb2⟩
        replace Ra := Lib.hid (Ra.out.step hb2)
        replace Rb := Lib.hid (Rb.out.step hb2)
        replace Rc := Lib.hid (Rc.out.step hb2)
        replace hs := hs.trans (hb2.mono hs.size)
        clear hb2
        go_wp2_with fail
        refine (check_r Rb.out).mono ?_
        rw [Ob.out]
        rintro e w3 ⟨rfl, hb3⟩
        replace Ra := Lib.hid (Ra.out.step hb3)
        replace Rb := Lib.hid (Rb.out.step hb3)
        replace Rc := Lib.hid (Rc.out.step hb3)
        replace hs := hs.trans (hb3.mono hs.size)
        clear hb3
        go_wp2_with fail
        refine (check_r Rc.out).mono ?_
        rw [Oc.out]
        rintro e w4 ⟨rfl, hb4⟩
        replace Ra := Lib.hid (Ra.out.step hb4)
        replace Rb := Lib.hid (Rb.out.step hb4)
        replace Rc := Lib.hid (Rc.out.step hb4)
        replace hs := hs.trans (hb4.mono hs.size)
        clear hb4
        go_wp2_with fail
        refine (compare_r Ra.out Rb.out).mono ?_
        rw [Hx.out]
        rintro e w5 ⟨rfl, hb5⟩
        replace Ra := Lib.hid (Ra.out.step hb5)
        replace Rb := Lib.hid (Rb.out.step hb5)
        replace Rc := Lib.hid (Rc.out.step hb5)
        replace hs := hs.trans (hb5.mono hs.size)
        clear hb5
        go_wp2_with fail
        refine (compare_r Rb.out Rc.out).mono ?_
        rw [Hy.out]
        rintro e w6 ⟨rfl, hb6⟩
        replace Ra := Lib.hid (Ra.out.step hb6)
        replace Rb := Lib.hid (Rb.out.step hb6)
        replace Rc := Lib.hid (Rc.out.step hb6)
        replace hs := hs.trans (hb6.mono hs.size)
        clear hb6
        go_wp2_with fail
        refine (compare_r Ra.out Rc.out).mono ?_
        rw [Hz.out]
        rintro e w7 ⟨rfl, hb7⟩
        replace Ra := Lib.hid (Ra.out.step hb7)
        replace Rb := Lib.hid (Rb.out.step hb7)
        replace Rc := Lib.hid (Rc.out.step hb7)
        replace hs := hs.trans (hb7.mono hs.size)
        clear hb7
        go_wp2_with fail
        refine (order_r Ra.out Rb.out).mono ?_
        rw [Hu.out]
        rintro e w8 ⟨rfl, hb8⟩
        replace Ra := Lib.hid (Ra.out.step hb8)
        replace Rb := Lib.hid (Rb.out.step hb8)
        replace Rc := Lib.hid (Rc.out.step hb8)
        replace hs := hs.trans (hb8.mono hs.size)
        clear hb8
        go_wp2_with fail
        refine (order_r Rb.out Rc.out).mono ?_
        rw [Hv.out]
        rintro e w9 ⟨rfl, hb9⟩
        replace Ra := Lib.hid (Ra.out.step hb9)
        replace Rb := Lib.hid (Rb.out.step hb9)
        replace Rc := Lib.hid (Rc.out.step hb9)
        replace hs := hs.trans (hb9.mono hs.size)
        clear hb9
        go_wp2_with fail
        refine (order_r Ra.out Rc.out).mono ?_
        rw [Ht.out]
        rintro e w10 ⟨rfl, hb10⟩
        replace Ra := Lib.hid (Ra.out.step hb10)
        replace Rb := Lib.hid (Rb.out.step hb10)
        replace Rc := Lib.hid (Rc.out.step hb10)
        replace hs := hs.trans (hb10.mono hs.size)
        clear hb10
        go_upto_region 7 with fail
        obtain ⟨wq, hwq⟩ : ∃ wq, wq = w10 := ⟨_, rfl⟩
        go_cut [84] from 55 to 84 (fun r wx => r = .bool false ∧ Below wq.heap.size wq wx)
        case first =>
          subst hwq
          replace hs := Below.refl wq.heap.size wq
          by_cases hx1 : x = 1
          · have SAME := Lib.hid (show decide (a = b) = true from decide_eq_true (F1.out.1 hx1))
            subst hx1
            go_wp2_with fail
            refine (compare_r Rb.out Ra.out).mono ?_
            rw [G1.out]
            rintro e w11 ⟨rfl, hb11⟩
            replace Ra := Lib.hid (Ra.out.step hb11)
            replace Rb := Lib.hid (Rb.out.step hb11)
            replace Rc := Lib.hid (Rc.out.step hb11)
            replace hs := hs.trans (hb11.mono hs.size)
            clear hb11
            go_wp2_with fail
            refine (turned_v _ _).mono ?_
            rintro e _ ⟨rfl, rfl⟩
            go_wp2_with fail
            refine (same_r Ra.out Rb.out).mono ?_
            rw [show decide (a = b) = true from SAME.out]
            rintro e w13 ⟨rfl, hb13⟩
            replace Ra := Lib.hid (Ra.out.step hb13)
            replace Rb := Lib.hid (Rb.out.step hb13)
            replace Rc := Lib.hid (Rc.out.step hb13)
            replace hs := hs.trans (hb13.mono hs.size)
            clear hb13
            go_wp2_with fail
            go_meet
            case rel => exact ⟨rfl, hs⟩
          · have SAME := Lib.hid (show decide (a = b) = false from decide_eq_false fun h => hx1 (F1.out.2 h))
            by_cases hx2 : x = 2
            · subst hx2
              clear hx1
              by_cases hy : y = 2 ∨ y = 1
              · obtain rfl : z = 2 := F2.out rfl hy
                rcases hy with rfl | rfl
                · skip
                  go_wp2_with fail
                  refine (compare_r Rb.out Ra.out).mono ?_
                  rw [G1.out]
                  rintro e w11 ⟨rfl, hb11⟩
                  replace Ra := Lib.hid (Ra.out.step hb11)
                  replace Rb := Lib.hid (Rb.out.step hb11)
                  replace Rc := Lib.hid (Rc.out.step hb11)
                  replace hs := hs.trans (hb11.mono hs.size)
                  clear hb11
                  go_wp2_with fail
                  refine (turned_v _ _).mono ?_
                  rintro e _ ⟨rfl, rfl⟩
                  go_wp2_with fail
                  refine (same_r Ra.out Rb.out).mono ?_
                  rw [show decide (a = b) = false from SAME.out]
                  rintro e w13 ⟨rfl, hb13⟩
                  replace Ra := Lib.hid (Ra.out.step hb13)
                  replace Rb := Lib.hid (Rb.out.step hb13)
                  replace Rc := Lib.hid (Rc.out.step hb13)
                  replace hs := hs.trans (hb13.mono hs.size)
                  clear hb13
                  go_wp2_with fail
                  go_meet
                  case rel => exact ⟨rfl, hs⟩
                · skip
                  go_wp2_with fail
                  refine (compare_r Rb.out Ra.out).mono ?_
                  rw [G1.out]
                  rintro e w11 ⟨rfl, hb11⟩
                  replace Ra := Lib.hid (Ra.out.step hb11)
                  replace Rb := Lib.hid (Rb.out.step hb11)
                  replace Rc := Lib.hid (Rc.out.step hb11)
                  replace hs := hs.trans (hb11.mono hs.size)
                  clear hb11
                  go_wp2_with fail
                  refine (turned_v _ _).mono ?_
                  rintro e _ ⟨rfl, rfl⟩
                  go_wp2_with fail
                  refine (same_r Ra.out Rb.out).mono ?_
                  rw [show decide (a = b) = false from SAME.out]
                  rintro e w13 ⟨rfl, hb13⟩
                  replace Ra := Lib.hid (Ra.out.step hb13)
                  replace Rb := Lib.hid (Rb.out.step hb13)
                  replace Rc := Lib.hid (Rc.out.step hb13)
                  replace hs := hs.trans (hb13.mono hs.size)
                  clear hb13
                  go_wp2_with fail
                  go_meet
                  case rel => exact ⟨rfl, hs⟩
              · have y2 : (y == 2) = false := by rw [beq_eq_false_iff_ne]; omega
                have y1 : (y == 1) = false := by rw [beq_eq_false_iff_ne]; omega
                clear hy
                go_wp2_with fail
                refine (compare_r Rb.out Ra.out).mono ?_
                rw [G1.out]
                rintro e w11 ⟨rfl, hb11⟩
                replace Ra := Lib.hid (Ra.out.step hb11)
                replace Rb := Lib.hid (Rb.out.step hb11)
                replace Rc := Lib.hid (Rc.out.step hb11)
                replace hs := hs.trans (hb11.mono hs.size)
                clear hb11
                go_wp2_with fail
                refine (turned_v _ _).mono ?_
                rintro e _ ⟨rfl, rfl⟩
                go_wp2_with fail
                refine (same_r Ra.out Rb.out).mono ?_
                rw [show decide (a = b) = false from SAME.out]
                rintro e w13 ⟨rfl, hb13⟩
                replace Ra := Lib.hid (Ra.out.step hb13)
                replace Rb := Lib.hid (Rb.out.step hb13)
                replace Rc := Lib.hid (Rc.out.step hb13)
                replace hs := hs.trans (hb13.mono hs.size)
                clear hb13
                go_wp2_with fail
                go_meet
                case rel => exact ⟨rfl, hs⟩
            · have x2 : (x == 2) = false := by simpa using hx2
              have x1 : (x == 1) = false := by simpa using hx1
              have xt : turnedV x = turnedV x := rfl
              clear hx1 hx2
              go_wp2_with fail
              refine (compare_r Rb.out Ra.out).mono ?_
              rw [G1.out]
              rintro e w11 ⟨rfl, hb11⟩
              replace Ra := Lib.hid (Ra.out.step hb11)
              replace Rb := Lib.hid (Rb.out.step hb11)
              replace Rc := Lib.hid (Rc.out.step hb11)
              replace hs := hs.trans (hb11.mono hs.size)
              clear hb11
              go_wp2_with fail
              refine (turned_v _ _).mono ?_
              rintro e _ ⟨rfl, rfl⟩
              go_wp2_with fail
              refine (same_r Ra.out Rb.out).mono ?_
              rw [show decide (a = b) = false from SAME.out]
              rintro e w13 ⟨rfl, hb13⟩
              replace Ra := Lib.hid (Ra.out.step hb13)
              replace Rb := Lib.hid (Rb.out.step hb13)
              replace Rc := Lib.hid (Rc.out.step hb13)
              replace hs := hs.trans (hb13.mono hs.size)
              clear hb13
              go_wp2_with fail
              go_meet
              case rel => exact ⟨rfl, hs⟩
        case rest =>
          obtain ⟨rfl, hbq⟩ := hcut
          subst hwq
          replace Ra := Lib.hid (Ra.out.step hbq)
          replace Rb := Lib.hid (Rb.out.step hbq)
          replace Rc := Lib.hid (Rc.out.step hbq)
          replace hs := hs.trans (hbq.mono hs.size)
          clear hbq
          go_upto_region 9 with fail
          obtain ⟨wq, hwq⟩ : ∃ wq, wq = wc := ⟨_, rfl⟩
          go_cut [129] from 85 to 129 (fun r wx => r = .bool false ∧ Below wq.heap.size wq wx)
          case first =>
            subst hwq
            replace hs := Below.refl wq.heap.size wq
            rcases F6.out with h | h | h
            · subst h
              obtain rfl : x = 1 := F3.out.1 rfl
              rcases F7.out with h | h | h
              · subst h
                have F := F5.out (by omega) (by omega)
                rcases F8.out with h | h | h
                · subst h
                  clear F
                  go_wp2_with fail
                  refine (order_r Rb.out Ra.out).mono ?_
                  rw [G2.out, show -(0 : Int) = 0 from rfl]
                  rintro e w11 ⟨rfl, hb11⟩
                  replace Ra := Lib.hid (Ra.out.step hb11)
                  replace Rb := Lib.hid (Rb.out.step hb11)
                  replace Rc := Lib.hid (Rc.out.step hb11)
                  replace hs := hs.trans (hb11.mono hs.size)
                  clear hb11
                  go_wp2_with fail
                  go_meet
                  case rel => exact ⟨rfl, hs⟩
                · exact absurd F (by omega)
                · subst h
                  clear F
                  go_wp2_with fail
                  refine (order_r Rb.out Ra.out).mono ?_
                  rw [G2.out, show -(0 : Int) = 0 from rfl]
                  rintro e w11 ⟨rfl, hb11⟩
                  replace Ra := Lib.hid (Ra.out.step hb11)
                  replace Rb := Lib.hid (Rb.out.step hb11)
                  replace Rc := Lib.hid (Rc.out.step hb11)
                  replace hs := hs.trans (hb11.mono hs.size)
                  clear hb11
                  go_wp2_with fail
                  go_meet
                  case rel => exact ⟨rfl, hs⟩
              · subst h
                go_wp2_with fail
                refine (order_r Rb.out Ra.out).mono ?_
                rw [G2.out, show -(0 : Int) = 0 from rfl]
                rintro e w11 ⟨rfl, hb11⟩
                replace Ra := Lib.hid (Ra.out.step hb11)
                replace Rb := Lib.hid (Rb.out.step hb11)
                replace Rc := Lib.hid (Rc.out.step hb11)
                replace hs := hs.trans (hb11.mono hs.size)
                clear hb11
                go_wp2_with fail
                go_meet
                case rel => exact ⟨rfl, hs⟩
              · subst h
                have F := F5.out (by omega) (by omega)
                rcases F8.out with h | h | h
                · exact absurd F (by omega)
                · exact absurd F (by omega)
                · subst h
                  clear F
                  go_wp2_with fail
                  refine (order_r Rb.out Ra.out).mono ?_
                  rw [G2.out, show -(0 : Int) = 0 from rfl]
                  rintro e w11 ⟨rfl, hb11⟩
                  replace Ra := Lib.hid (Ra.out.step hb11)
                  replace Rb := Lib.hid (Rb.out.step hb11)
                  replace Rc := Lib.hid (Rc.out.step hb11)
                  replace hs := hs.trans (hb11.mono hs.size)
                  clear hb11
                  go_wp2_with fail
                  go_meet
                  case rel => exact ⟨rfl, hs⟩
            · subst h
              have x1 : (x == 1) = false := by rw [beq_eq_false_iff_ne]; intro h; have := F3.out.2 h; omega
              have x2 : (x == 2) = false := by rw [beq_eq_false_iff_ne]; intro h; have := F4.out h; omega
              rcases F7.out with h | h | h
              · subst h
                go_wp2_with fail
                refine (order_r Rb.out Ra.out).mono ?_
                rw [G2.out, show -(1 : Int) = -1 from rfl]
                rintro e w11 ⟨rfl, hb11⟩
                replace Ra := Lib.hid (Ra.out.step hb11)
                replace Rb := Lib.hid (Rb.out.step hb11)
                replace Rc := Lib.hid (Rc.out.step hb11)
                replace hs := hs.trans (hb11.mono hs.size)
                clear hb11
                go_wp2_with fail
                go_meet
                case rel => exact ⟨rfl, hs⟩
              · subst h
                go_wp2_with fail
                refine (order_r Rb.out Ra.out).mono ?_
                rw [G2.out, show -(1 : Int) = -1 from rfl]
                rintro e w11 ⟨rfl, hb11⟩
                replace Ra := Lib.hid (Ra.out.step hb11)
                replace Rb := Lib.hid (Rb.out.step hb11)
                replace Rc := Lib.hid (Rc.out.step hb11)
                replace hs := hs.trans (hb11.mono hs.size)
                clear hb11
                go_wp2_with fail
                go_meet
                case rel => exact ⟨rfl, hs⟩
              · subst h
                go_wp2_with fail
                refine (order_r Rb.out Ra.out).mono ?_
                rw [G2.out, show -(1 : Int) = -1 from rfl]
                rintro e w11 ⟨rfl, hb11⟩
                replace Ra := Lib.hid (Ra.out.step hb11)
                replace Rb := Lib.hid (Rb.out.step hb11)
                replace Rc := Lib.hid (Rc.out.step hb11)
                replace hs := hs.trans (hb11.mono hs.size)
                clear hb11
                go_wp2_with fail
                go_meet
                case rel => exact ⟨rfl, hs⟩
            · subst h
              have x1 : (x == 1) = false := by rw [beq_eq_false_iff_ne]; intro h; have := F3.out.2 h; omega
              by_cases hx2 : x = 2
              · subst hx2
                rcases F7.out with h | h | h
                · subst h
                  have F := F5.out (by omega) (by omega)
                  rcases F8.out with h | h | h
                  · exact absurd F (by omega)
                  · exact absurd F (by omega)
                  · subst h
                    clear F
                    go_wp2_with fail
                    refine (order_r Rb.out Ra.out).mono ?_
                    rw [G2.out, show -(-1 : Int) = 1 from rfl]
                    rintro e w11 ⟨rfl, hb11⟩
                    replace Ra := Lib.hid (Ra.out.step hb11)
                    replace Rb := Lib.hid (Rb.out.step hb11)
                    replace Rc := Lib.hid (Rc.out.step hb11)
                    replace hs := hs.trans (hb11.mono hs.size)
                    clear hb11
                    go_wp2_with fail
                    go_meet
                    case rel => exact ⟨rfl, hs⟩
                · subst h
                  go_wp2_with fail
                  refine (order_r Rb.out Ra.out).mono ?_
                  rw [G2.out, show -(-1 : Int) = 1 from rfl]
                  rintro e w11 ⟨rfl, hb11⟩
                  replace Ra := Lib.hid (Ra.out.step hb11)
                  replace Rb := Lib.hid (Rb.out.step hb11)
                  replace Rc := Lib.hid (Rc.out.step hb11)
                  replace hs := hs.trans (hb11.mono hs.size)
                  clear hb11
                  go_wp2_with fail
                  go_meet
                  case rel => exact ⟨rfl, hs⟩
                · subst h
                  have F := F5.out (by omega) (by omega)
                  rcases F8.out with h | h | h
                  · exact absurd F (by omega)
                  · exact absurd F (by omega)
                  · subst h
                    clear F
                    go_wp2_with fail
                    refine (order_r Rb.out Ra.out).mono ?_
                    rw [G2.out, show -(-1 : Int) = 1 from rfl]
                    rintro e w11 ⟨rfl, hb11⟩
                    replace Ra := Lib.hid (Ra.out.step hb11)
                    replace Rb := Lib.hid (Rb.out.step hb11)
                    replace Rc := Lib.hid (Rc.out.step hb11)
                    replace hs := hs.trans (hb11.mono hs.size)
                    clear hb11
                    go_wp2_with fail
                    go_meet
                    case rel => exact ⟨rfl, hs⟩
              · have x2 : (x == 2) = false := by simpa using hx2
                clear hx2
                rcases F7.out with h | h | h
                · subst h
                  have F := F5.out (by omega) (by omega)
                  rcases F8.out with h | h | h
                  · exact absurd F (by omega)
                  · exact absurd F (by omega)
                  · subst h
                    clear F
                    go_wp2_with fail
                    refine (order_r Rb.out Ra.out).mono ?_
                    rw [G2.out, show -(-1 : Int) = 1 from rfl]
                    rintro e w11 ⟨rfl, hb11⟩
                    replace Ra := Lib.hid (Ra.out.step hb11)
                    replace Rb := Lib.hid (Rb.out.step hb11)
                    replace Rc := Lib.hid (Rc.out.step hb11)
                    replace hs := hs.trans (hb11.mono hs.size)
                    clear hb11
                    go_wp2_with fail
                    go_meet
                    case rel => exact ⟨rfl, hs⟩
                · subst h
                  go_wp2_with fail
                  refine (order_r Rb.out Ra.out).mono ?_
                  rw [G2.out, show -(-1 : Int) = 1 from rfl]
                  rintro e w11 ⟨rfl, hb11⟩
                  replace Ra := Lib.hid (Ra.out.step hb11)
                  replace Rb := Lib.hid (Rb.out.step hb11)
                  replace Rc := Lib.hid (Rc.out.step hb11)
                  replace hs := hs.trans (hb11.mono hs.size)
                  clear hb11
                  go_wp2_with fail
                  go_meet
                  case rel => exact ⟨rfl, hs⟩
                · subst h
                  have F := F5.out (by omega) (by omega)
                  rcases F8.out with h | h | h
                  · exact absurd F (by omega)
                  · exact absurd F (by omega)
                  · subst h
                    clear F
                    go_wp2_with fail
                    refine (order_r Rb.out Ra.out).mono ?_
                    rw [G2.out, show -(-1 : Int) = 1 from rfl]
                    rintro e w11 ⟨rfl, hb11⟩
                    replace Ra := Lib.hid (Ra.out.step hb11)
                    replace Rb := Lib.hid (Rb.out.step hb11)
                    replace Rc := Lib.hid (Rc.out.step hb11)
                    replace hs := hs.trans (hb11.mono hs.size)
                    clear hb11
                    go_wp2_with fail
                    go_meet
                    case rel => exact ⟨rfl, hs⟩
          case rest =>
            obtain ⟨rfl, hbq⟩ := hcut
            subst hwq
            replace Ra := Lib.hid (Ra.out.step hbq)
            replace Rb := Lib.hid (Rb.out.step hbq)
            replace Rc := Lib.hid (Rc.out.step hbq)
            replace hs := hs.trans (hbq.mono hs.size)
            clear hbq
            obtain ⟨m, hm⟩ : ∃ m, mergeV [a, b] = m := ⟨_, rfl⟩
            have HM := Lib.hid hm
            clear hm
            have HM2 : Hid (mergeV [b, a] = m) := Lib.hid (by rw [← HM.out]; exact merge_swap Oa.out Ob.out)
            have E1 := Lib.hid (merge_ok _ (allOk_cons a [b] Oa.out (allOk_cons b [] Ob.out allOk_nil))).1
            have E2 := Lib.hid (merge_ok _ (allOk_cons b [a] Ob.out (allOk_cons a [] Oa.out allOk_nil))).1
            have Om : Hid (okV 0 m = true) := Lib.hid (by rw [← HM.out]; exact ok_merge _ (allOk_cons a [b] Oa.out (allOk_cons b [] Ob.out allOk_nil)))
            have L1 : Hid (leastV a m = true) := Lib.hid ((least_iff a m Oa.out Om.out).2 (by rw [← HM.out]; exact (merge_upper Oa.out Ob.out).1))
            have L2 : Hid (leastV b m = true) := Lib.hid ((least_iff b m Ob.out Om.out).2 (by rw [← HM.out]; exact (merge_upper Oa.out Ob.out).2))
            have L3 : Hid (leastV a c = true → leastV b c = true → leastV m c = true) := Lib.hid fun h1 h2 => (least_iff m c Om.out Oc.out).2 (by rw [← HM.out]; exact merge_least Oa.out Ob.out ((least_iff a c Oa.out Oc.out).1 h1) ((least_iff b c Ob.out Oc.out).1 h2))
            go_wp2_with fail
            refine (merge2 Ra.out Rb.out).mono ?_
            rw [E1.out, HM.out]
            rintro e w11 ⟨Am, nm, cm, rfl, hm, hb11⟩
            replace Ra := Lib.hid (Ra.out.step hb11)
            replace Rb := Lib.hid (Rb.out.step hb11)
            replace Rc := Lib.hid (Rc.out.step hb11)
            replace hs := hs.trans (hb11.mono hs.size)
            have Rm := Lib.hid hm
            clear hm
            clear hb11
            go_wp2_with fail
            refine (merge2 Rb.out Ra.out).mono ?_
            rw [E2.out, HM2.out]
            rintro e w12 ⟨An, nn, cn, rfl, hn, hb12⟩
            replace Ra := Lib.hid (Ra.out.step hb12)
            replace Rb := Lib.hid (Rb.out.step hb12)
            replace Rc := Lib.hid (Rc.out.step hb12)
            replace Rm := Lib.hid (Rm.out.step hb12)
            replace hs := hs.trans (hb12.mono hs.size)
            have Rn := Lib.hid hn
            clear hn
            clear hb12
            go_upto_region 13 with fail
            obtain ⟨wq, hwq⟩ : ∃ wq, wq = w12 := ⟨_, rfl⟩
            go_cut [183] from 144 to 183 (fun r wx => r = .bool false ∧ Below wq.heap.size wq wx)
            case first =>
              subst hwq
              replace hs := Below.refl wq.heap.size wq
              cases h1 : leastV a c
              · have K1 := Lib.hid h1
                clear h1
                go_wp2_with fail
                refine (same_r Rm.out Rn.out).mono ?_
                rw [show decide (m = m) = true from decide_eq_true rfl]
                rintro e w13 ⟨rfl, hb13⟩
                replace Ra := Lib.hid (Ra.out.step hb13)
                replace Rb := Lib.hid (Rb.out.step hb13)
                replace Rc := Lib.hid (Rc.out.step hb13)
                replace Rm := Lib.hid (Rm.out.step hb13)
                replace Rn := Lib.hid (Rn.out.step hb13)
                replace hs := hs.trans (hb13.mono hs.size)
                clear hb13
                go_wp2_with fail
                refine (least_r Ra.out Rm.out).mono ?_
                rw [L1.out]
                rintro e w14 ⟨rfl, hb14⟩
                replace Ra := Lib.hid (Ra.out.step hb14)
                replace Rb := Lib.hid (Rb.out.step hb14)
                replace Rc := Lib.hid (Rc.out.step hb14)
                replace Rm := Lib.hid (Rm.out.step hb14)
                replace Rn := Lib.hid (Rn.out.step hb14)
                replace hs := hs.trans (hb14.mono hs.size)
                clear hb14
                go_wp2_with fail
                refine (least_r Rb.out Rm.out).mono ?_
                rw [L2.out]
                rintro e w15 ⟨rfl, hb15⟩
                replace Ra := Lib.hid (Ra.out.step hb15)
                replace Rb := Lib.hid (Rb.out.step hb15)
                replace Rc := Lib.hid (Rc.out.step hb15)
                replace Rm := Lib.hid (Rm.out.step hb15)
                replace Rn := Lib.hid (Rn.out.step hb15)
                replace hs := hs.trans (hb15.mono hs.size)
                clear hb15
                go_wp2_with fail
                refine (least_r Ra.out Rc.out).mono ?_
                rw [K1.out]
                rintro e w16 ⟨rfl, hb16⟩
                replace Ra := Lib.hid (Ra.out.step hb16)
                replace Rb := Lib.hid (Rb.out.step hb16)
                replace Rc := Lib.hid (Rc.out.step hb16)
                replace Rm := Lib.hid (Rm.out.step hb16)
                replace Rn := Lib.hid (Rn.out.step hb16)
                replace hs := hs.trans (hb16.mono hs.size)
                clear hb16
                go_wp2_with fail
                go_meet
                case rel => exact ⟨rfl, hs⟩
              · cases h2 : leastV b c
                · have K1 := Lib.hid h1
                  have K2 := Lib.hid h2
                  clear h1 h2
                  go_wp2_with fail
                  refine (same_r Rm.out Rn.out).mono ?_
                  rw [show decide (m = m) = true from decide_eq_true rfl]
                  rintro e w13 ⟨rfl, hb13⟩
                  replace Ra := Lib.hid (Ra.out.step hb13)
                  replace Rb := Lib.hid (Rb.out.step hb13)
                  replace Rc := Lib.hid (Rc.out.step hb13)
                  replace Rm := Lib.hid (Rm.out.step hb13)
                  replace Rn := Lib.hid (Rn.out.step hb13)
                  replace hs := hs.trans (hb13.mono hs.size)
                  clear hb13
                  go_wp2_with fail
                  refine (least_r Ra.out Rm.out).mono ?_
                  rw [L1.out]
                  rintro e w14 ⟨rfl, hb14⟩
                  replace Ra := Lib.hid (Ra.out.step hb14)
                  replace Rb := Lib.hid (Rb.out.step hb14)
                  replace Rc := Lib.hid (Rc.out.step hb14)
                  replace Rm := Lib.hid (Rm.out.step hb14)
                  replace Rn := Lib.hid (Rn.out.step hb14)
                  replace hs := hs.trans (hb14.mono hs.size)
                  clear hb14
                  go_wp2_with fail
                  refine (least_r Rb.out Rm.out).mono ?_
                  rw [L2.out]
                  rintro e w15 ⟨rfl, hb15⟩
                  replace Ra := Lib.hid (Ra.out.step hb15)
                  replace Rb := Lib.hid (Rb.out.step hb15)
                  replace Rc := Lib.hid (Rc.out.step hb15)
                  replace Rm := Lib.hid (Rm.out.step hb15)
                  replace Rn := Lib.hid (Rn.out.step hb15)
                  replace hs := hs.trans (hb15.mono hs.size)
                  clear hb15
                  go_wp2_with fail
                  refine (least_r Ra.out Rc.out).mono ?_
                  rw [K1.out]
                  rintro e w16 ⟨rfl, hb16⟩
                  replace Ra := Lib.hid (Ra.out.step hb16)
                  replace Rb := Lib.hid (Rb.out.step hb16)
                  replace Rc := Lib.hid (Rc.out.step hb16)
                  replace Rm := Lib.hid (Rm.out.step hb16)
                  replace Rn := Lib.hid (Rn.out.step hb16)
                  replace hs := hs.trans (hb16.mono hs.size)
                  clear hb16
                  go_wp2_with fail
                  refine (least_r Rb.out Rc.out).mono ?_
                  rw [K2.out]
                  rintro e w17 ⟨rfl, hb17⟩
                  replace Ra := Lib.hid (Ra.out.step hb17)
                  replace Rb := Lib.hid (Rb.out.step hb17)
                  replace Rc := Lib.hid (Rc.out.step hb17)
                  replace Rm := Lib.hid (Rm.out.step hb17)
                  replace Rn := Lib.hid (Rn.out.step hb17)
                  replace hs := hs.trans (hb17.mono hs.size)
                  clear hb17
                  go_wp2_with fail
                  go_meet
                  case rel => exact ⟨rfl, hs⟩
                · have K1 := Lib.hid h1
                  have K2 := Lib.hid h2
                  have K3 := Lib.hid (L3.out h1 h2)
                  clear h1 h2
                  go_wp2_with fail
                  refine (same_r Rm.out Rn.out).mono ?_
                  rw [show decide (m = m) = true from decide_eq_true rfl]
                  rintro e w13 ⟨rfl, hb13⟩
                  replace Ra := Lib.hid (Ra.out.step hb13)
                  replace Rb := Lib.hid (Rb.out.step hb13)
                  replace Rc := Lib.hid (Rc.out.step hb13)
                  replace Rm := Lib.hid (Rm.out.step hb13)
                  replace Rn := Lib.hid (Rn.out.step hb13)
                  replace hs := hs.trans (hb13.mono hs.size)
                  clear hb13
                  go_wp2_with fail
                  refine (least_r Ra.out Rm.out).mono ?_
                  rw [L1.out]
                  rintro e w14 ⟨rfl, hb14⟩
                  replace Ra := Lib.hid (Ra.out.step hb14)
                  replace Rb := Lib.hid (Rb.out.step hb14)
                  replace Rc := Lib.hid (Rc.out.step hb14)
                  replace Rm := Lib.hid (Rm.out.step hb14)
                  replace Rn := Lib.hid (Rn.out.step hb14)
                  replace hs := hs.trans (hb14.mono hs.size)
                  clear hb14
                  go_wp2_with fail
                  refine (least_r Rb.out Rm.out).mono ?_
                  rw [L2.out]
                  rintro e w15 ⟨rfl, hb15⟩
                  replace Ra := Lib.hid (Ra.out.step hb15)
                  replace Rb := Lib.hid (Rb.out.step hb15)
                  replace Rc := Lib.hid (Rc.out.step hb15)
                  replace Rm := Lib.hid (Rm.out.step hb15)
                  replace Rn := Lib.hid (Rn.out.step hb15)
                  replace hs := hs.trans (hb15.mono hs.size)
                  clear hb15
                  go_wp2_with fail
                  refine (least_r Ra.out Rc.out).mono ?_
                  rw [K1.out]
                  rintro e w16 ⟨rfl, hb16⟩
                  replace Ra := Lib.hid (Ra.out.step hb16)
                  replace Rb := Lib.hid (Rb.out.step hb16)
                  replace Rc := Lib.hid (Rc.out.step hb16)
                  replace Rm := Lib.hid (Rm.out.step hb16)
                  replace Rn := Lib.hid (Rn.out.step hb16)
                  replace hs := hs.trans (hb16.mono hs.size)
                  clear hb16
                  go_wp2_with fail
                  refine (least_r Rb.out Rc.out).mono ?_
                  rw [K2.out]
                  rintro e w17 ⟨rfl, hb17⟩
                  replace Ra := Lib.hid (Ra.out.step hb17)
                  replace Rb := Lib.hid (Rb.out.step hb17)
                  replace Rc := Lib.hid (Rc.out.step hb17)
                  replace Rm := Lib.hid (Rm.out.step hb17)
                  replace Rn := Lib.hid (Rn.out.step hb17)
                  replace hs := hs.trans (hb17.mono hs.size)
                  clear hb17
                  go_wp2_with fail
                  refine (least_r Rm.out Rc.out).mono ?_
                  rw [K3.out]
                  rintro e w18 ⟨rfl, hb18⟩
                  replace Ra := Lib.hid (Ra.out.step hb18)
                  replace Rb := Lib.hid (Rb.out.step hb18)
                  replace Rc := Lib.hid (Rc.out.step hb18)
                  replace Rm := Lib.hid (Rm.out.step hb18)
                  replace Rn := Lib.hid (Rn.out.step hb18)
                  replace hs := hs.trans (hb18.mono hs.size)
                  clear hb18
                  go_wp2_with fail
                  go_meet
                  case rel => exact ⟨rfl, hs⟩
            case rest =>
              obtain ⟨rfl, hbq⟩ := hcut
              subst hwq
              replace Ra := Lib.hid (Ra.out.step hbq)
              replace Rb := Lib.hid (Rb.out.step hbq)
              replace Rc := Lib.hid (Rc.out.step hbq)
              replace Rm := Lib.hid (Rm.out.step hbq)
              replace Rn := Lib.hid (Rn.out.step hbq)
              replace hs := hs.trans (hbq.mono hs.size)
              clear hbq
              clear Rb Rc Rm Rn
              go_wp2_with fail
              refine (bytes_v _ _ _ a _ Ra.out Oa.out).mono ?_
              rintro e w13 ⟨As, ns, cs, rfl, hbs, hns, hncs, hb13⟩
              replace Ra := Lib.hid (Ra.out.step hb13)
              replace hs := hs.trans (hb13.mono hs.size)
              have HBS := Lib.hid hbs
              clear hbs hb13
              go_wp2_with fail
              refine (read_v _ _ _ _ a HBS.out hns Oa.out Ra.out.f).mono ?_
              rintro e w14 ⟨Ar, nr, cr, rfl, hr, hb14⟩
              replace Ra := Lib.hid (Ra.out.step hb14)
              replace hs := hs.trans (hb14.mono hs.size)
              have Rr := Lib.hid hr
              clear hr
              clear hb14
              go_wp2_with fail
              refine (same_r Rr.out Ra.out).mono ?_
              rw [show decide (a = a) = true from decide_eq_true rfl]
              rintro e w15 ⟨rfl, hb15⟩
              replace Ra := Lib.hid (Ra.out.step hb15)
              replace Rr := Lib.hid (Rr.out.step hb15)
              replace hs := hs.trans (hb15.mono hs.size)
              clear hb15
              clear Rr
              obtain ⟨p, hp⟩ : ∃ p, bumpV a d = p := ⟨_, rfl⟩
              obtain ⟨g, hg⟩ : ∃ g, bumpE a d = g := ⟨_, rfl⟩
              have HP := Lib.hid hp
              clear hp
              have HG := Lib.hid hg
              clear hg
              go_wp2_with fail
              refine (bump_r Ra.out d).mono ?_
              rw [HP.out, HG.out]
              rintro e w16 ⟨Ap, np, cp, rfl, hp, hb16⟩
              replace Ra := Lib.hid (Ra.out.step hb16)
              replace hs := hs.trans (hb16.mono hs.size)
              have Rp := Lib.hid hp
              clear hp
              clear hb16
              by_cases g0 : g = 0
              · subst g0
                have V1 := Lib.hid (show cmpV a p = 2 by rw [← HP.out]; exact bump_before HG.out)
                have hv : val p d = val a d + 1 := by rw [← HP.out, val_bump HG.out, bumpF, if_pos rfl]
                have hlt : val a d + 1 < 18446744073709551616 := by have h1 := fit_val a d Ra.out.f; have h2 := (bump_ok HG.out).2.2.2.1; omega
                obtain ⟨q, hq⟩ : ∃ q, val a d = q := ⟨_, rfl⟩
                rw [hq] at hv hlt
                have HV := Lib.hid hv
                have HQ := Lib.hid hq
                clear hv hq
                go_wp2_with fail
                refine (compare_r Ra.out Rp.out).mono ?_
                rw [V1.out]
                rintro e w17 ⟨rfl, hb17⟩
                replace Ra := Lib.hid (Ra.out.step hb17)
                replace Rp := Lib.hid (Rp.out.step hb17)
                replace hs := hs.trans (hb17.mono hs.size)
                clear hb17
                go_wp2_with fail
                refine (val_r Rp.out d).mono ?_
                rw [HV.out]
                rintro e w18 ⟨rfl, hb18⟩
                replace Ra := Lib.hid (Ra.out.step hb18)
                replace Rp := Lib.hid (Rp.out.step hb18)
                replace hs := hs.trans (hb18.mono hs.size)
                clear hb18
                go_wp2_with fail
                refine (val_r Ra.out d).mono ?_
                rw [HQ.out]
                rintro e w19 ⟨rfl, hb19⟩
                replace Ra := Lib.hid (Ra.out.step hb19)
                replace Rp := Lib.hid (Rp.out.step hb19)
                replace hs := hs.trans (hb19.mono hs.size)
                clear hb19
                go_wp2
                go_ret
                exact ⟨rfl, hs⟩
              · have gg : (g != 0) = true := by simpa using g0
                go_wp2
                go_ret
                exact ⟨rfl, hs⟩
end Go.Proofs.Ytippojkdgecblaa
