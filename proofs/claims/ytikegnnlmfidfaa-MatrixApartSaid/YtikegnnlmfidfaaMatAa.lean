/-
  MatrixApart: changes of different folders are independent.
-/
import Derived.Test.YtikegnnlmfidfaaMatLd
import Derived.Test.YtikegnnlmfidfaaMatX
import Derived.Test.YtikegnnlmfidfaaMatV
namespace Go.Proofs.Ytikegnnlmfidfaa
open Go.RowKit
theorem boxes3 (w : World) (t t1 t2 : TypeId) (u v x : List Value) : VArr t (((w.alloc (.cells u.toArray t)).alloc (.cells v.toArray t1)).alloc (.cells x.toArray t2)) w.heap.size u ∧ VArr t1 (((w.alloc (.cells u.toArray t)).alloc (.cells v.toArray t1)).alloc (.cells x.toArray t2)) (w.heap.size + 1) v ∧
    VArr t2 (((w.alloc (.cells u.toArray t)).alloc (.cells v.toArray t1)).alloc (.cells x.toArray t2)) (w.heap.size + 2) x ∧ Below w.heap.size w (((w.alloc (.cells u.toArray t)).alloc (.cells v.toArray t1)).alloc (.cells x.toArray t2)) ∧ (((w.alloc (.cells u.toArray t)).alloc (.cells v.toArray t1)).alloc (.cells x.toArray t2)).heap.size = w.heap.size + 3 := by
  have h0 : VArr t (w.alloc (.cells u.toArray t)) w.heap.size u := heap_alloc_new w _
  have h1 : VArr t1 ((w.alloc (.cells u.toArray t)).alloc (.cells v.toArray t1)) (w.heap.size + 1) v := by
    have h := heap_alloc_new (w.alloc (.cells u.toArray t)) (.cells v.toArray t1)
    simpa [VArr] using h
  have h2 : VArr t2 (((w.alloc (.cells u.toArray t)).alloc (.cells v.toArray t1)).alloc (.cells x.toArray t2)) (w.heap.size + 2) x := by
    have h := heap_alloc_new ((w.alloc (.cells u.toArray t)).alloc (.cells v.toArray t1)) (.cells x.toArray t2)
    simpa [VArr] using h
  exact ⟨(h0.alloc _).alloc _, h1.alloc _, h2, (((Below.refl w.heap.size w).alloc (Nat.le_refl _) _).alloc (by simp) _).alloc (by simp; omega) _, by simp⟩
/-- Apply, with what is kept. -/
theorem apply_w (own : Int) (A : Option Addr) (n c B : Nat) (rs : List Rw) (kind : Int) (f : ByteArray) (d : Int) (w : World) (hr : RowsR w B A n rs) (hB : B ≤ w.heap.size) (hn : n ≤ 9223372036854775807) (hfs : f.size ≤ 9223372036854775807) (m : PM) (e0 : Nat) (ha : applyP (own, rs.map Rw.p) (kind, f, d) = (m, e0)) :
    Calls Try.prog 21 #[.agg #[.int .i64 own, .slice A n c], .agg #[.int .i64 kind, .string f, .int .i64 d]] w fun e w' => ∃ A' n' c' rs', e = .returned (.tuple #[.agg #[.int .i64 m.1, .slice A' n' c'], .int .i64 (e0 : Int)]) ∧ RowsR w' w'.heap.size A' n' rs' ∧ rs'.map Rw.p = m.2 ∧ n' ≤ 8 ∧ Below w.heap.size w w' := by
  have h := apply_v own A n c B rs kind f d w hr hB hn hfs
  rw [ha] at h
  refine h.mono ?_
  rintro e w' ⟨A', n', c', rs', h1, h2, _, h3, _, h4, _, h5⟩
  exact ⟨A', n', c', rs', h1, h2, h3, h4, h5⟩
set_option maxRecDepth 100000 in
set_option maxHeartbeats 16000000 in
theorem apart_v (own : Int) (A : Option Addr) (n c B : Nat) (rs : List Rw) (ka : Int) (fa : ByteArray) (da kb : Int) (fb : ByteArray) (db : Int) (w : World) (hr : RowsR w B A n rs) (hB : B ≤ w.heap.size) (hn : n ≤ 9223372036854775807) (hfa : fa.size ≤ 9223372036854775807) (hfb : fb.size ≤ 9223372036854775807) :
    Calls Try.prog 8 #[.agg #[.int .i64 own, .slice A n c], .agg #[.int .i64 ka, .string fa, .int .i64 da], .agg #[.int .i64 kb, .string fb, .int .i64 db]] w fun e w' => e = .returned (.bool true) ∧ Below w.heap.size w w' := by
  have HIM := Lib.hid (show (Try.prog.info? 27).map (·.size) = some 2 by kernel_rfl)
  have HR := Lib.hid hr
  have X0 := Lib.hid (boxes3 w 27 41 41 [.int .i64 own, .slice A n c] [.int .i64 ka, .string fa, .int .i64 da] [.int .i64 kb, .string fb, .int .i64 db])
  clear hr
  go_enter Try.func8, Try.ntmps8
  go_upto_region 1 with fail
  generalize hw0 : ((w.alloc (.cells #[.int .i64 own, .slice A n c] 27)).alloc (.cells #[.int .i64 ka, .string fa, .int .i64 da] 41)).alloc (.cells #[.int .i64 kb, .string fb, .int .i64 db] 41) = w0 at *
  clear hw0
  generalize hg : w.heap.size = g at *
  have HG := Lib.hid hg
  clear hg
  have H0 := Lib.hid (show ∀ V, Below w0.heap.size w0 V → VArr 27 V g [.int .i64 own, .slice A n c] ∧ VArr 41 V (g + 1) [.int .i64 ka, .string fa, .int .i64 da] ∧ VArr 41 V (g + 2) [.int .i64 kb, .string fb, .int .i64 db] ∧ RowsR V B A n rs ∧ w0.heap.size ≤ V.heap.size ∧ Below g w V from fun V h => by
    obtain ⟨h1, h2, h3, h4, h5⟩ := X0.out
    have h6 : Below g w V := h4.trans (h.mono (by omega))
    exact ⟨h1.below h, h2.below h, h3.below h, HR.out.below (h6.mono hB), h.size, h6⟩)
  have hz0 : g + 3 ≤ w0.heap.size := Nat.le_of_eq X0.out.2.2.2.2.symm
  have T0 := Lib.hid (Below.refl w0.heap.size w0)
  clear X0
  generalize w0.heap.size = z0 at *
  have hBz : B ≤ z0 := by omega
  go_wp2_with fail
  refine (lives_v w0).mono ?_
  rintro e w1 ⟨rfl, b1⟩
  have T1 := Lib.hid (T0.out.trans (b1.mono (H0.out _ T0.out).2.2.2.2.1))
  clear b1 T0
  have c0 := (H0.out _ T1.out).1.cell (j := 0) rfl
  have c1 := (H0.out _ T1.out).1.cell (j := 1) rfl
  go_wp2_with fail
  have LV := light_v own A n c B 100 rs w1 (H0.out _ T1.out).2.2.2.1 (Nat.le_trans hBz (H0.out _ T1.out).2.2.2.2.1) hn (by omega)
  cases hl : lightM rs 100 with
  | false =>
    rw [hl] at LV
    refine LV.mono ?_
    rintro e w2 ⟨rfl, b2⟩
    have T2 := Lib.hid (T1.out.trans (b2.mono (H0.out _ T1.out).2.2.2.2.1))
    clear b2 LV hl c0 c1 T1
    go_wp2_with fail
    go_ret
    exact ⟨rfl, HG.out ▸ (H0.out _ T2.out).2.2.2.2.2⟩
  | true =>
  rw [hl] at LV
  refine LV.mono ?_
  rintro e w2 ⟨rfl, b2⟩
  have T2 := Lib.hid (T1.out.trans (b2.mono (H0.out _ T1.out).2.2.2.2.1))
  clear b2 LV hl c0 c1 T1
  have c0 := (H0.out _ T2.out).1.cell (j := 0) rfl
  have c1 := (H0.out _ T2.out).1.cell (j := 1) rfl
  have c2 := (H0.out _ T2.out).2.1.cell (j := 1) rfl
  have c3 := (H0.out _ T2.out).2.2.1.cell (j := 1) rfl
  by_cases hfa2 : fa.size ≤ 100
  case neg =>
    go_wp2_with fail
    go_ret
    exact ⟨rfl, HG.out ▸ (H0.out _ T2.out).2.2.2.2.2⟩
  by_cases hfb2 : fb.size ≤ 100
  case neg =>
    go_wp2_with fail
    go_ret
    exact ⟨rfl, HG.out ▸ (H0.out _ T2.out).2.2.2.2.2⟩
  have CV := check_v own A n c B rs w2 (H0.out _ T2.out).2.2.2.1 (Nat.le_trans hBz (H0.out _ T2.out).2.2.2.2.1) hn
  go_wp2_with fail
  obtain ⟨ck, hck⟩ : ∃ ck, chkM (own, rs.map Rw.p) = ck := ⟨_, rfl⟩
  have HCK := Lib.hid hck
  rw [hck] at CV
  clear hck
  refine CV.mono ?_
  rintro e w3 ⟨rfl, b3⟩
  have T3 := Lib.hid (T2.out.trans (b3.mono (H0.out _ T2.out).2.2.2.2.1))
  clear b3 CV c0 c1 c2 c3 T2
  by_cases hk0 : ck = 0
  case neg =>
    have d1 : ((ck : Int) != 0) = true := by simp; omega
    clear hk0
    go_wp2_with fail
    go_ret
    exact ⟨rfl, HG.out ▸ (H0.out _ T3.out).2.2.2.2.2⟩
  subst hk0
  have d1 : (((0 : Nat) : Int) != 0) = false := rfl
  have c2 := (H0.out _ T3.out).2.1.cell (j := 1) rfl
  have c3 := (H0.out _ T3.out).2.2.1.cell (j := 1) rfl
  by_cases hff : fa = fb
  case pos =>
    have d2 : (fa.toList == fb.toList) = true := (kbeq_iff fa fb).2 hff
    clear hff
    go_wp2_with fail
    go_ret
    exact ⟨rfl, HG.out ▸ (H0.out _ T3.out).2.2.2.2.2⟩
  have d2 : (fa.toList == fb.toList) = false := (kbeq_false fa fb).2 hff
  have HFF := Lib.hid hff
  clear hff
  have c0 := (H0.out _ T3.out).1.cell (j := 0) rfl
  have c1 := (H0.out _ T3.out).1.cell (j := 1) rfl
  have a0 := (H0.out _ T3.out).2.1.cell (j := 0) rfl
  have a2 := (H0.out _ T3.out).2.1.cell (j := 2) rfl
  obtain ⟨⟨⟨ox, lx⟩, ex⟩, hax⟩ : ∃ r, applyP (own, rs.map Rw.p) (ka, fa, da) = r := ⟨_, rfl⟩
  have HAX := Lib.hid hax
  have AV := apply_w own A n c B rs ka fa da w3 (H0.out _ T3.out).2.2.2.1 (Nat.le_trans hBz (H0.out _ T3.out).2.2.2.2.1) hn hfa (ox, lx) ex hax
  clear hax
  go_wp2_with fail
  refine AV.mono ?_
  rintro e w4 ⟨Ax, nx, cx, rx, rfl, hrx, hpx, hnx, b4⟩
  have T4 := Lib.hid (T3.out.trans (b4.mono (H0.out _ T3.out).2.2.2.2.1))
  have RX := Lib.hid hrx
  have PX := Lib.hid hpx
  clear AV b4 hrx hpx c0 c1 c2 c3 a0 a2 T3 d1 d2
  go_upto_region 6 with fail
  have T5 := Lib.hid (T4.out.alloc (H0.out _ T4.out).2.2.2.2.1 (.cells #[.int .i64 ox, .slice Ax nx cx] 27))
  have X5 := Lib.hid (show VArr 27 (w4.alloc (.cells #[.int .i64 ox, .slice Ax nx cx] 27)) w4.heap.size [.int .i64 ox, .slice Ax nx cx] from heap_alloc_new w4 _)
  have R5 := Lib.hid ((RX.out.below ((Below.refl w4.heap.size w4).alloc (Nat.le_refl _) (.cells #[.int .i64 ox, .slice Ax nx cx] 27))).more (show w4.heap.size ≤ (w4.alloc (.cells #[.int .i64 ox, .slice Ax nx cx] 27)).heap.size by simp))
  clear T4 RX
  generalize w4.alloc (.cells #[.int .i64 ox, .slice Ax nx cx] 27) = w5 at *
  generalize w4.heap.size = gx at *
  have c0 := (H0.out _ T5.out).1.cell (j := 0) rfl
  have c1 := (H0.out _ T5.out).1.cell (j := 1) rfl
  have a0 := (H0.out _ T5.out).2.2.1.cell (j := 0) rfl
  have a1 := (H0.out _ T5.out).2.2.1.cell (j := 1) rfl
  have a2 := (H0.out _ T5.out).2.2.1.cell (j := 2) rfl
  obtain ⟨⟨⟨oy, ly⟩, ey⟩, hay⟩ : ∃ r, applyP (own, rs.map Rw.p) (kb, fb, db) = r := ⟨_, rfl⟩
  have HAY := Lib.hid hay
  have AV := apply_w own A n c B rs kb fb db w5 (H0.out _ T5.out).2.2.2.1 (Nat.le_trans hBz (H0.out _ T5.out).2.2.2.2.1) hn hfb (oy, ly) ey hay
  clear hay
  go_wp2_with fail
  refine AV.mono ?_
  rintro e w6 ⟨Ay, ny, cy, ry, rfl, hry, hpy, hny, b6⟩
  have T6 := Lib.hid (T5.out.trans (b6.mono (H0.out _ T5.out).2.2.2.2.1))
  have X6 := Lib.hid (X5.out.below b6)
  have R6 := Lib.hid (R5.out.below b6)
  have RY := Lib.hid hry
  have PY := Lib.hid hpy
  have hz56 := b6.size
  clear AV b6 hry hpy c0 c1 a0 a1 a2 T5 X5 R5
  go_upto_region 7 with fail
  have T7 := Lib.hid (T6.out.alloc (H0.out _ T6.out).2.2.2.2.1 (.cells #[.int .i64 oy, .slice Ay ny cy] 27))
  have X7 := Lib.hid (X6.out.alloc (.cells #[.int .i64 oy, .slice Ay ny cy] 27))
  have bq := (Below.refl w6.heap.size w6).alloc (Nat.le_refl _) (.cells #[.int .i64 oy, .slice Ay ny cy] 27)
  have R7 := Lib.hid ((R6.out.below (bq.mono hz56)).more (Nat.le_trans hz56 bq.size))
  have Y7 := Lib.hid (show VArr 27 (w6.alloc (.cells #[.int .i64 oy, .slice Ay ny cy] 27)) w6.heap.size [.int .i64 oy, .slice Ay ny cy] from heap_alloc_new w6 _)
  have S7 := Lib.hid ((RY.out.below bq).more bq.size)
  clear T6 RY X6 R6 bq
  generalize w6.alloc (.cells #[.int .i64 oy, .slice Ay ny cy] 27) = w7 at *
  generalize w6.heap.size = gy at *
  generalize w5.heap.size = z5 at *
  by_cases hex : ex = 0
  case neg =>
    have d1 : ((ex : Int) != 0) = true := by simp; omega
    clear hex
    go_wp2_with fail
    go_ret
    exact ⟨rfl, HG.out ▸ (H0.out _ T7.out).2.2.2.2.2⟩
  subst hex
  have d1 : (((0 : Nat) : Int) != 0) = false := rfl
  by_cases hey : ey = 0
  case neg =>
    have d2 : ((ey : Int) != 0) = true := by simp; omega
    clear hey
    go_wp2_with fail
    go_ret
    exact ⟨rfl, HG.out ▸ (H0.out _ T7.out).2.2.2.2.2⟩
  subst hey
  have H7 := Lib.hid (show ∀ V, Below w7.heap.size w7 V → VArr 27 V gx [.int .i64 ox, .slice Ax nx cx] ∧ VArr 27 V gy [.int .i64 oy, .slice Ay ny cy] ∧ RowsR V w7.heap.size Ax nx rx ∧ RowsR V w7.heap.size Ay ny ry ∧ w7.heap.size ≤ V.heap.size ∧ Below z0 w0 V from fun V h =>
    ⟨X7.out.below h, Y7.out.below h, R7.out.below h, S7.out.below h, h.size, T7.out.trans (h.mono (H0.out _ T7.out).2.2.2.2.1)⟩)
  have HVX := Lib.hid (show chkM (ox, lx) = 0 from apply_valid HAX.out)
  have TT7 := Lib.hid (Below.refl w7.heap.size w7)
  clear X7 R7 Y7 S7 T7
  generalize w7.heap.size = z7 at *
  have c0 := (H7.out _ TT7.out).1.cell (j := 0) rfl
  have c1 := (H7.out _ TT7.out).1.cell (j := 1) rfl
  have a0 := (H0.out _ (H7.out _ TT7.out).2.2.2.2.2).2.2.1.cell (j := 0) rfl
  have a1 := (H0.out _ (H7.out _ TT7.out).2.2.2.2.2).2.2.1.cell (j := 1) rfl
  have a2 := (H0.out _ (H7.out _ TT7.out).2.2.2.2.2).2.2.1.cell (j := 2) rfl
  obtain ⟨⟨⟨op, lp⟩, ep⟩, hap⟩ : ∃ r, applyP (ox, lx) (kb, fb, db) = r := ⟨_, rfl⟩
  have HAP := Lib.hid hap
  have AV := apply_w ox Ax nx cx z7 rx kb fb db w7 (H7.out _ TT7.out).2.2.1 (H7.out _ TT7.out).2.2.2.2.1 (by omega) hfb (op, lp) ep (by rw [PX.out]; exact hap)
  clear hap
  go_wp2_with fail
  refine AV.mono ?_
  rintro e w8 ⟨Ap, np, cp, rp, rfl, hrp, hpp, hnp, b8⟩
  have T8 := Lib.hid (TT7.out.trans (b8.mono (H7.out _ TT7.out).2.2.2.2.1))
  have RP := Lib.hid hrp
  have PP := Lib.hid hpp
  clear AV b8 hrp hpp c0 c1 a0 a1 a2 TT7 d1
  go_upto_region 10 with fail
  have T9 := Lib.hid (T8.out.alloc (H7.out _ T8.out).2.2.2.2.1 (.cells #[.int .i64 op, .slice Ap np cp] 27))
  have P9 := Lib.hid (show VArr 27 (w8.alloc (.cells #[.int .i64 op, .slice Ap np cp] 27)) w8.heap.size [.int .i64 op, .slice Ap np cp] from heap_alloc_new w8 _)
  have R9 := Lib.hid ((RP.out.below ((Below.refl w8.heap.size w8).alloc (Nat.le_refl _) (.cells #[.int .i64 op, .slice Ap np cp] 27))).more (show w8.heap.size ≤ (w8.alloc (.cells #[.int .i64 op, .slice Ap np cp] 27)).heap.size by simp))
  clear T8 RP
  generalize w8.alloc (.cells #[.int .i64 op, .slice Ap np cp] 27) = w9 at *
  generalize w8.heap.size = gp at *
  have c0 := (H7.out _ T9.out).2.1.cell (j := 0) rfl
  have c1 := (H7.out _ T9.out).2.1.cell (j := 1) rfl
  have a0 := (H0.out _ (H7.out _ T9.out).2.2.2.2.2).2.1.cell (j := 0) rfl
  have a1 := (H0.out _ (H7.out _ T9.out).2.2.2.2.2).2.1.cell (j := 1) rfl
  have a2 := (H0.out _ (H7.out _ T9.out).2.2.2.2.2).2.1.cell (j := 2) rfl
  obtain ⟨⟨⟨oq, lq⟩, eq⟩, haq⟩ : ∃ r, applyP (oy, ly) (ka, fa, da) = r := ⟨_, rfl⟩
  have HAQ := Lib.hid haq
  have AV := apply_w oy Ay ny cy z7 ry ka fa da w9 (H7.out _ T9.out).2.2.2.1 (H7.out _ T9.out).2.2.2.2.1 (by omega) hfa (oq, lq) eq (by rw [PY.out]; exact haq)
  clear haq
  go_wp2_with fail
  refine AV.mono ?_
  rintro e wa ⟨Aq, nq, cq, rq, rfl, hrq, hpq, hnq, ba⟩
  have Ta := Lib.hid (T9.out.trans (ba.mono (H7.out _ T9.out).2.2.2.2.1))
  have Pa := Lib.hid (P9.out.below ba)
  have Ra := Lib.hid (R9.out.below ba)
  have RQ := Lib.hid hrq
  have PQ := Lib.hid hpq
  have hz9a := ba.size
  clear AV ba hrq hpq c0 c1 a0 a1 a2 T9 P9 R9
  go_upto_region 11 with fail
  have Tb := Lib.hid (Ta.out.alloc (H7.out _ Ta.out).2.2.2.2.1 (.cells #[.int .i64 oq, .slice Aq nq cq] 27))
  have Pb := Lib.hid (Pa.out.alloc (.cells #[.int .i64 oq, .slice Aq nq cq] 27))
  have bq := (Below.refl wa.heap.size wa).alloc (Nat.le_refl _) (.cells #[.int .i64 oq, .slice Aq nq cq] 27)
  have Rb := Lib.hid ((Ra.out.below (bq.mono hz9a)).more (Nat.le_trans hz9a bq.size))
  have Qb := Lib.hid (show VArr 27 (wa.alloc (.cells #[.int .i64 oq, .slice Aq nq cq] 27)) wa.heap.size [.int .i64 oq, .slice Aq nq cq] from heap_alloc_new wa _)
  have Sb := Lib.hid ((RQ.out.below bq).more bq.size)
  clear Ta RQ Pa Ra bq
  generalize wa.alloc (.cells #[.int .i64 oq, .slice Aq nq cq] 27) = wb at *
  generalize wa.heap.size = gq at *
  generalize w9.heap.size = z9 at *
  have HE := Lib.hid (show ep = 0 ↔ eq = 0 from by
    have h := apart_ok HAX.out HAY.out HFF.out
    rwa [HAP.out, HAQ.out] at h)
  go_cut [97] from 79 to 96 (fun b wx => b = .bool false ∧ Below wb.heap.size wb wx)
  case first =>
    by_cases hep : ep = 0
    · have heq : eq = 0 := HE.out.1 hep
      subst hep
      subst heq
      have d1 : (((0 : Nat) : Int) == 0) = true := rfl
      have c0 := Pb.out.cell (j := 0) rfl
      have c1 := Pb.out.cell (j := 1) rfl
      have a0 := Qb.out.cell (j := 0) rfl
      have a1 := Qb.out.cell (j := 1) rfl
      have HS := Lib.hid (show sameM (op, lp) (oq, lq) = true from by
        rw [apart_same HAX.out HAY.out HFF.out HAP.out HAQ.out]
        exact same_self (apply_valid HAQ.out))
      have SV := same_v op oq Ap Aq np cp nq cq wb.heap.size rp rq wb Rb.out Sb.out (Nat.le_refl _) (by omega) (by omega)
      rw [PP.out, PQ.out, HS.out] at SV
      go_wp2_with fail
      refine SV.mono ?_
      rintro e wc2 ⟨rfl, bc⟩
      have Bc := Lib.hid bc
      clear SV bc c0 c1 a0 a1
      go_wp2_with fail
      go_meet
      exact ⟨rfl, Bc.out⟩
    · have heq : ¬ eq = 0 := fun h => hep (HE.out.2 h)
      have d1 : ((ep : Int) == 0) = false := beq_eq_false_iff_ne.2 (by omega)
      have d2 : ((eq : Int) == 0) = false := beq_eq_false_iff_ne.2 (by omega)
      clear hep heq
      go_wp2_with fail
      go_meet
      exact ⟨rfl, Below.refl _ _⟩
  case rest =>
    obtain ⟨rfl, hcut⟩ := hcut
    have Tc := Lib.hid (Tb.out.trans (hcut.mono (H7.out _ Tb.out).2.2.2.2.1))
    clear hcut Pb Rb Qb Sb Tb HE HAP HAQ
    go_wp2_with fail
    go_loopw [15, 16, 17, 18, 19] (fun i _ _ _ _ V => ∃ k : Nat, k ≤ 18 ∧ i = .int .i64 (k : Int) ∧ Below z7 w7 V) (fun i _ _ _ _ _ => 18 - (intOf i).toNat)
    case atStart => exact ⟨0, Nat.zero_le _, rfl, Tc.out⟩
    case round =>
      obtain ⟨k, hk, rfl, hb⟩ := hrel
      have D0 := Lib.hid hb
      clear hb Tc
      by_cases hlt : k ≤ 17
      case neg =>
        go_wp2_with fail
        go_ret
        exact ⟨rfl, HG.out ▸ (H0.out _ (H7.out _ D0.out).2.2.2.2.2).2.2.2.2.2⟩
      have H8 := Lib.hid (show ∀ V, Below z7 w7 V → V.cell? ⟨gx, 0, none⟩ = some (.int .i64 ox) ∧ V.cell? ⟨gx, 1, none⟩ = some (.slice Ax nx cx) ∧ V.cell? ⟨g, 0, none⟩ = some (.int .i64 own) ∧ V.cell? ⟨g, 1, none⟩ = some (.slice A n c) ∧ V.cell? ⟨gy, 0, none⟩ = some (.int .i64 oy) ∧ V.cell? ⟨gy, 1, none⟩ = some (.slice Ay ny cy) ∧ V.cell? ⟨g + 1, 1, none⟩ = some (.string fa) ∧ V.cell? ⟨g + 2, 1, none⟩ = some (.string fb) from fun V h => by
        obtain ⟨hx, hy, _, _, _, h6⟩ := H7.out V h
        obtain ⟨h1, h2, h3, _⟩ := H0.out V h6
        exact ⟨hx.cell (j := 0) rfl, hx.cell (j := 1) rfl, h1.cell (j := 0) rfl, h1.cell (j := 1) rfl, hy.cell (j := 0) rfl, hy.cell (j := 1) rfl, h2.cell (j := 1) rfl, h3.cell (j := 1) rfl⟩)
      go_upto_region 16 with fail
      have D1 := Lib.hid (show Below z7 w7 wr.drew from D0.out.drew)
      have hS : wr.drew.cell? ⟨gx, 0, none⟩ = some (.int .i64 ox) ∧ wr.drew.cell? ⟨gx, 1, none⟩ = some (.slice Ax nx cx) ∧ wr.drew.cell? ⟨g, 0, none⟩ = some (.int .i64 own) ∧ wr.drew.cell? ⟨g, 1, none⟩ = some (.slice A n c) ∧ wr.drew.cell? ⟨gy, 0, none⟩ = some (.int .i64 oy) ∧ wr.drew.cell? ⟨gy, 1, none⟩ = some (.slice Ay ny cy) ∧ wr.drew.cell? ⟨g + 1, 1, none⟩ = some (.string fa) ∧ wr.drew.cell? ⟨g + 2, 1, none⟩ = some (.string fb) := H8.out _ D1.out
      refine wp_region_text [(0, false), (1, false), (2, false), (3, false), (5, false), (6, false), (7, false), (8, false), (4, true), (9, true), (10, false), (11, false), (12, false), (13, false), (14, false), (15, false), (17, false), (18, false), (19, false), (20, false), (16, true), (21, true), (22, false), (23, false)] (fun V => V.cell? ⟨gx, 0, none⟩ = some (.int .i64 ox) ∧ V.cell? ⟨gx, 1, none⟩ = some (.slice Ax nx cx) ∧ V.cell? ⟨g, 0, none⟩ = some (.int .i64 own) ∧ V.cell? ⟨g, 1, none⟩ = some (.slice A n c) ∧ V.cell? ⟨gy, 0, none⟩ = some (.int .i64 oy) ∧ V.cell? ⟨gy, 1, none⟩ = some (.slice Ay ny cy) ∧ V.cell? ⟨g + 1, 1, none⟩ = some (.string fa) ∧ V.cell? ⟨g + 2, 1, none⟩ = some (.string fb)) (by kernel_rfl) (by kernel_rfl) (by kernel_rfl) (by kernel_rfl) (by kernel_rfl) (fun _ => ?_)
      simp only [outOf, List.getElem?_cons_zero, List.getElem?_cons_succ, Option.getD_some]
      generalize wr.drew = w10 at *
      clear D0
      obtain ⟨sb, hsb⟩ : ∃ sb, sharesP (own, rs.map Rw.p) fb (k : Int) = sb := ⟨_, rfl⟩
      obtain ⟨sa, hsa⟩ : ∃ sa, sharesP (own, rs.map Rw.p) fa (k : Int) = sa := ⟨_, rfl⟩
      have HSB := Lib.hid (show sharesP (ox, lx) fb (k : Int) = sb from by rw [← hsb]; exact shares_other HAX.out (fun e => HFF.out e.symm) _)
      have HSA := Lib.hid (show sharesP (oy, ly) fa (k : Int) = sa from by rw [← hsa]; exact shares_other HAY.out HFF.out _)
      have HSB2 := Lib.hid hsb
      have HSA2 := Lib.hid hsa
      clear hsb hsa
      have dq : (sb != sb) = false := by simp
      have dr : (sa != sa) = false := by simp
      iterate 8 ((first | (refine TW.val2 (v := ?_) ?_ ?_ ?_ ?_ ?_; rotate_left; (focus rfl); (focus (intro W hSW; (try dsimp only at hSW); (try (obtain ⟨hS1, hSW⟩ := hSW)); (try (obtain ⟨hS2, hSW⟩ := hSW)); (try (obtain ⟨hS3, hSW⟩ := hSW)); (try (obtain ⟨hS4, hSW⟩ := hSW)); (try (obtain ⟨hS5, hSW⟩ := hSW)); (try (obtain ⟨hS6, hSW⟩ := hSW)); (try (obtain ⟨hS7, hSW⟩ := hSW)); (try (obtain ⟨hS8, hSW⟩ := hSW)); go_simp; (try with_reducible rfl); done)); (focus exact fun _ _ _ h => h); (focus assumption)) | (refine TW.skip (e := false) ?_ ?_ ?_ ?_; (focus rfl); (focus exact fun _ _ _ h => h); (focus assumption))); simp only [Act.put, List.setIfInBounds_toArray, List.set_cons_zero, List.set_cons_succ])
      refine TW.eff (by rfl) (fun K hK => ?_); go_simp
      have SV := shares_v ox Ax nx cx z7 rx fb (k : Int) w10 (H7.out _ D1.out).2.2.1 (H7.out _ D1.out).2.2.2.2.1 (by omega)
      rw [PX.out, HSB.out] at SV
      refine SV.mono ?_
      rintro e w11 ⟨rfl, b5⟩
      have D2 := Lib.hid (D1.out.trans (b5.mono (H7.out _ D1.out).2.2.2.2.1))
      have hS2 : w11.cell? ⟨gx, 0, none⟩ = some (.int .i64 ox) ∧ w11.cell? ⟨gx, 1, none⟩ = some (.slice Ax nx cx) ∧ w11.cell? ⟨g, 0, none⟩ = some (.int .i64 own) ∧ w11.cell? ⟨g, 1, none⟩ = some (.slice A n c) ∧ w11.cell? ⟨gy, 0, none⟩ = some (.int .i64 oy) ∧ w11.cell? ⟨gy, 1, none⟩ = some (.slice Ay ny cy) ∧ w11.cell? ⟨g + 1, 1, none⟩ = some (.string fa) ∧ w11.cell? ⟨g + 2, 1, none⟩ = some (.string fb) := H8.out _ D2.out
      clear hS b5 SV D1
      go_wp2_with fail; refine hK.out _ _ hS2 ?_; clear hK; (try simp only [Act.put, List.setIfInBounds_toArray, List.set_cons_zero, List.set_cons_succ])
      refine TW.eff (by rfl) (fun K hK => ?_); go_simp
      have SV := shares_v own A n c B rs fb (k : Int) w11 (H0.out _ (H7.out _ D2.out).2.2.2.2.2).2.2.2.1 (Nat.le_trans hBz (H0.out _ (H7.out _ D2.out).2.2.2.2.2).2.2.2.2.1) hn
      rw [HSB2.out] at SV
      refine SV.mono ?_
      rintro e w12 ⟨rfl, b5⟩
      have D3 := Lib.hid (D2.out.trans (b5.mono (H7.out _ D2.out).2.2.2.2.1))
      have hS : w12.cell? ⟨gx, 0, none⟩ = some (.int .i64 ox) ∧ w12.cell? ⟨gx, 1, none⟩ = some (.slice Ax nx cx) ∧ w12.cell? ⟨g, 0, none⟩ = some (.int .i64 own) ∧ w12.cell? ⟨g, 1, none⟩ = some (.slice A n c) ∧ w12.cell? ⟨gy, 0, none⟩ = some (.int .i64 oy) ∧ w12.cell? ⟨gy, 1, none⟩ = some (.slice Ay ny cy) ∧ w12.cell? ⟨g + 1, 1, none⟩ = some (.string fa) ∧ w12.cell? ⟨g + 2, 1, none⟩ = some (.string fb) := H8.out _ D3.out
      clear hS2 b5 SV D2
      go_wp2_with fail; refine hK.out _ _ hS ?_; clear hK; (try simp only [Act.put, List.setIfInBounds_toArray, List.set_cons_zero, List.set_cons_succ])
      iterate 10 ((first | (refine TW.val2 (v := ?_) ?_ ?_ ?_ ?_ ?_; rotate_left; (focus rfl); (focus (intro W hSW; (try dsimp only at hSW); (try (obtain ⟨hS1, hSW⟩ := hSW)); (try (obtain ⟨hS2, hSW⟩ := hSW)); (try (obtain ⟨hS3, hSW⟩ := hSW)); (try (obtain ⟨hS4, hSW⟩ := hSW)); (try (obtain ⟨hS5, hSW⟩ := hSW)); (try (obtain ⟨hS6, hSW⟩ := hSW)); (try (obtain ⟨hS7, hSW⟩ := hSW)); (try (obtain ⟨hS8, hSW⟩ := hSW)); go_simp; (try with_reducible rfl); done)); (focus exact fun _ _ _ h => h); (focus assumption)) | (refine TW.skip (e := false) ?_ ?_ ?_ ?_; (focus rfl); (focus exact fun _ _ _ h => h); (focus assumption))); simp only [Act.put, List.setIfInBounds_toArray, List.set_cons_zero, List.set_cons_succ])
      refine TW.eff (by rfl) (fun K hK => ?_); go_simp
      have SV := shares_v oy Ay ny cy z7 ry fa (k : Int) w12 (H7.out _ D3.out).2.2.2.1 (H7.out _ D3.out).2.2.2.2.1 (by omega)
      rw [PY.out, HSA.out] at SV
      refine SV.mono ?_
      rintro e w13 ⟨rfl, b5⟩
      have D4 := Lib.hid (D3.out.trans (b5.mono (H7.out _ D3.out).2.2.2.2.1))
      have hS2 : w13.cell? ⟨gx, 0, none⟩ = some (.int .i64 ox) ∧ w13.cell? ⟨gx, 1, none⟩ = some (.slice Ax nx cx) ∧ w13.cell? ⟨g, 0, none⟩ = some (.int .i64 own) ∧ w13.cell? ⟨g, 1, none⟩ = some (.slice A n c) ∧ w13.cell? ⟨gy, 0, none⟩ = some (.int .i64 oy) ∧ w13.cell? ⟨gy, 1, none⟩ = some (.slice Ay ny cy) ∧ w13.cell? ⟨g + 1, 1, none⟩ = some (.string fa) ∧ w13.cell? ⟨g + 2, 1, none⟩ = some (.string fb) := H8.out _ D4.out
      clear hS b5 SV D3
      go_wp2_with fail; refine hK.out _ _ hS2 ?_; clear hK; (try simp only [Act.put, List.setIfInBounds_toArray, List.set_cons_zero, List.set_cons_succ])
      refine TW.eff (by rfl) (fun K hK => ?_); go_simp
      have SV := shares_v own A n c B rs fa (k : Int) w13 (H0.out _ (H7.out _ D4.out).2.2.2.2.2).2.2.2.1 (Nat.le_trans hBz (H0.out _ (H7.out _ D4.out).2.2.2.2.2).2.2.2.2.1) hn
      rw [HSA2.out] at SV
      refine SV.mono ?_
      rintro e w14 ⟨rfl, b5⟩
      have D5 := Lib.hid (D4.out.trans (b5.mono (H7.out _ D4.out).2.2.2.2.1))
      have hS : w14.cell? ⟨gx, 0, none⟩ = some (.int .i64 ox) ∧ w14.cell? ⟨gx, 1, none⟩ = some (.slice Ax nx cx) ∧ w14.cell? ⟨g, 0, none⟩ = some (.int .i64 own) ∧ w14.cell? ⟨g, 1, none⟩ = some (.slice A n c) ∧ w14.cell? ⟨gy, 0, none⟩ = some (.int .i64 oy) ∧ w14.cell? ⟨gy, 1, none⟩ = some (.slice Ay ny cy) ∧ w14.cell? ⟨g + 1, 1, none⟩ = some (.string fa) ∧ w14.cell? ⟨g + 2, 1, none⟩ = some (.string fb) := H8.out _ D5.out
      clear hS2 b5 SV D4
      go_wp2_with fail; refine hK.out _ _ hS ?_; clear hK; (try simp only [Act.put, List.setIfInBounds_toArray, List.set_cons_zero, List.set_cons_succ])
      iterate 2 ((first | (refine TW.val2 (v := ?_) ?_ ?_ ?_ ?_ ?_; rotate_left; (focus rfl); (focus (intro W hSW; (try dsimp only at hSW); (try (obtain ⟨hS1, hSW⟩ := hSW)); (try (obtain ⟨hS2, hSW⟩ := hSW)); (try (obtain ⟨hS3, hSW⟩ := hSW)); (try (obtain ⟨hS4, hSW⟩ := hSW)); (try (obtain ⟨hS5, hSW⟩ := hSW)); (try (obtain ⟨hS6, hSW⟩ := hSW)); (try (obtain ⟨hS7, hSW⟩ := hSW)); (try (obtain ⟨hS8, hSW⟩ := hSW)); go_simp; (try with_reducible rfl); done)); (focus exact fun _ _ _ h => h); (focus assumption)) | (refine TW.skip (e := false) ?_ ?_ ?_ ?_; (focus rfl); (focus exact fun _ _ _ h => h); (focus assumption))); simp only [Act.put, List.setIfInBounds_toArray, List.set_cons_zero, List.set_cons_succ])
      refine TW.done ?_
      clear hS dq dr HSB HSA HSB2 HSA2
      have c0 := (H7.out _ D5.out).1.cell (j := 0) rfl
      have c1 := (H7.out _ D5.out).1.cell (j := 1) rfl
      have WV := with_v ox Ax nx cx z7 rx (k : Int) w14 (H7.out _ D5.out).2.2.1 (H7.out _ D5.out).2.2.2.2.1 (by omega)
      rw [PX.out] at WV
      go_wp2_with fail
      refine WV.mono ?_
      rintro e w15 ⟨Aw, nw, cw, rfl, hws, _, hw8, b5⟩
      have D6 := Lib.hid (D5.out.trans (b5.mono (H7.out _ D5.out).2.2.2.2.1))
      have WS := Lib.hid hws
      have HWL := Lib.hid hws.len
      have H15 := Lib.hid (show ∀ V, Below w15.heap.size w15 V → Below z7 w7 V ∧ w15.heap.size ≤ V.heap.size from fun V h => ⟨D6.out.trans (h.mono (H7.out _ D6.out).2.2.2.2.1), h.size⟩)
      have E0 := Lib.hid (Below.refl w15.heap.size w15)
      clear hws WV b5 c0 c1 D5 D6
      generalize w15.heap.size = z15 at *
      go_wp2_with fail
      go_loopw [17] (fun i V => ∃ j : Nat, j ≤ nw ∧ i = .int .i64 (j : Int) ∧ Below z15 w15 V) (fun i _ => nw - (intOf i).toNat)
      case atStart => exact ⟨0, Nat.zero_le _, rfl, E0.out⟩
      case round =>
        obtain ⟨j, hj, rfl, hb⟩ := hrel
        have E1 := Lib.hid hb
        clear hb E0
        by_cases hlt2 : j < nw
        · obtain ⟨ad, f1, rfl, hx1, hc1⟩ := WS.out.at_ hlt2
          have HX1 := Lib.hid hx1
          have HC1 := Lib.hid hc1
          have HW := Lib.hid (with_at HVX.out hx1)
          have j0 : (0 : Int) ≤ (j : Int) := by omega
          have j1 : (j : Int) < (nw : Int) := by omega
          clear hx1 hc1
          go_upto_region 22 with fail
          have E2 := Lib.hid (show Below z15 w15 wr.drew from E1.out.drew)
          rcases Nat.eq_zero_or_pos j with hj0 | hj0
          · have dj : decide ((0 : Int) < (j : Int)) = false := decide_eq_false (by omega)
            have dj2 : decide (0 < j) = false := decide_eq_false (by omega)
            clear hj0
            have HS4 := Lib.hid (show ∀ V, Below z15 w15 V → V.cell? ⟨gx, 0, none⟩ = some (.int .i64 ox) ∧ V.cell? ⟨gx, 1, none⟩ = some (.slice Ax nx cx) ∧ V.cell? (ad.add j) = some (.string f1) from fun V h => ⟨(H8.out V (H15.out V h).1).1, (H8.out V (H15.out V h).1).2.1, HC1.out V h⟩)
            have hS : wr.drew.cell? ⟨gx, 0, none⟩ = some (.int .i64 ox) ∧ wr.drew.cell? ⟨gx, 1, none⟩ = some (.slice Ax nx cx) ∧ wr.drew.cell? (ad.add j) = some (.string f1) := HS4.out _ E2.out
            refine wp_region_text [(0, false), (1, false), (2, false), (3, false), (4, false), (5, false), (6, true), (7, false), (8, false), (9, false), (10, false), (11, false), (12, false), (13, false), (14, true), (15, false), (16, false), (17, false), (18, false), (19, false), (20, false), (21, false), (22, false), (23, false), (24, false), (25, false), (26, false), (27, false), (28, false), (29, false), (30, false), (31, false), (32, false)] (fun V => V.cell? ⟨gx, 0, none⟩ = some (.int .i64 ox) ∧ V.cell? ⟨gx, 1, none⟩ = some (.slice Ax nx cx) ∧ V.cell? (ad.add j) = some (.string f1)) (by kernel_rfl) (by kernel_rfl) (by kernel_rfl) (by kernel_rfl) (by kernel_rfl) (fun _ => ?_)
            simp only [outOf, List.getElem?_cons_zero, List.getElem?_cons_succ, Option.getD_some]
            generalize wr.drew = w20 at *
            clear E1
            iterate 6 ((first | (refine TW.val2 (v := ?_) ?_ ?_ ?_ ?_ ?_; rotate_left; (focus rfl); (focus (intro W hSW; (try dsimp only at hSW); (try (obtain ⟨hS1, hSW⟩ := hSW)); (try (obtain ⟨hS2, hSW⟩ := hSW)); (try (obtain ⟨hS3, hSW⟩ := hSW)); (try (obtain ⟨hS4, hSW⟩ := hSW)); (try (obtain ⟨hS5, hSW⟩ := hSW)); (try (obtain ⟨hS6, hSW⟩ := hSW)); (try (obtain ⟨hS7, hSW⟩ := hSW)); (try (obtain ⟨hS8, hSW⟩ := hSW)); go_simp; (try with_reducible rfl); done)); (focus exact fun _ _ _ h => h); (focus assumption)) | (refine TW.skip (e := false) ?_ ?_ ?_ ?_; (focus rfl); (focus exact fun _ _ _ h => h); (focus assumption))); simp only [Act.put, List.setIfInBounds_toArray, List.set_cons_zero, List.set_cons_succ])
            refine TW.eff (by rfl) (fun K hK => ?_); go_simp
            have SV := shares_v ox Ax nx cx z7 rx f1 (k : Int) w20 (H7.out _ (H15.out _ E2.out).1).2.2.1 (H7.out _ (H15.out _ E2.out).1).2.2.2.2.1 (by omega)
            rw [PX.out, HW.out.1] at SV
            refine SV.mono ?_
            rintro e w21 ⟨rfl, b5⟩
            have E3 := Lib.hid (E2.out.trans (b5.mono (H15.out _ E2.out).2))
            have hS2 : w21.cell? ⟨gx, 0, none⟩ = some (.int .i64 ox) ∧ w21.cell? ⟨gx, 1, none⟩ = some (.slice Ax nx cx) ∧ w21.cell? (ad.add j) = some (.string f1) := HS4.out _ E3.out
            clear hS b5 SV E2
            go_wp2_with fail; refine hK.out _ _ hS2 ?_; clear hK; (try simp only [Act.put, List.setIfInBounds_toArray, List.set_cons_zero, List.set_cons_succ])
            iterate 7 ((first | (refine TW.val2 (v := ?_) ?_ ?_ ?_ ?_ ?_; rotate_left; (focus rfl); (focus (intro W hSW; (try dsimp only at hSW); (try (obtain ⟨hS1, hSW⟩ := hSW)); (try (obtain ⟨hS2, hSW⟩ := hSW)); (try (obtain ⟨hS3, hSW⟩ := hSW)); (try (obtain ⟨hS4, hSW⟩ := hSW)); (try (obtain ⟨hS5, hSW⟩ := hSW)); (try (obtain ⟨hS6, hSW⟩ := hSW)); (try (obtain ⟨hS7, hSW⟩ := hSW)); (try (obtain ⟨hS8, hSW⟩ := hSW)); go_simp; (try with_reducible rfl); done)); (focus exact fun _ _ _ h => h); (focus assumption)) | (refine TW.skip (e := false) ?_ ?_ ?_ ?_; (focus rfl); (focus exact fun _ _ _ h => h); (focus assumption))); simp only [Act.put, List.setIfInBounds_toArray, List.set_cons_zero, List.set_cons_succ])
            refine TW.eff (by rfl) (fun K hK => ?_); go_simp
            have SV := has_v ox Ax nx cx z7 rx f1 w21 (H7.out _ (H15.out _ E3.out).1).2.2.1 (H7.out _ (H15.out _ E3.out).1).2.2.2.2.1 (by omega)
            rw [PX.out, HW.out.2] at SV
            refine SV.mono ?_
            rintro e w22 ⟨rfl, b5⟩
            have E4 := Lib.hid (E3.out.trans (b5.mono (H15.out _ E3.out).2))
            have hS : w22.cell? ⟨gx, 0, none⟩ = some (.int .i64 ox) ∧ w22.cell? ⟨gx, 1, none⟩ = some (.slice Ax nx cx) ∧ w22.cell? (ad.add j) = some (.string f1) := HS4.out _ E4.out
            clear hS2 b5 SV E3
            go_wp2_with fail; refine hK.out _ _ hS ?_; clear hK; (try simp only [Act.put, List.setIfInBounds_toArray, List.set_cons_zero, List.set_cons_succ])
            iterate 18 ((first | (refine TW.val2 (v := ?_) ?_ ?_ ?_ ?_ ?_; rotate_left; (focus rfl); (focus (intro W hSW; (try dsimp only at hSW); (try (obtain ⟨hS1, hSW⟩ := hSW)); (try (obtain ⟨hS2, hSW⟩ := hSW)); (try (obtain ⟨hS3, hSW⟩ := hSW)); (try (obtain ⟨hS4, hSW⟩ := hSW)); (try (obtain ⟨hS5, hSW⟩ := hSW)); (try (obtain ⟨hS6, hSW⟩ := hSW)); (try (obtain ⟨hS7, hSW⟩ := hSW)); (try (obtain ⟨hS8, hSW⟩ := hSW)); go_simp; (try with_reducible rfl); done)); (focus exact fun _ _ _ h => h); (focus assumption)) | (refine TW.skip (e := false) ?_ ?_ ?_ ?_; (focus rfl); (focus exact fun _ _ _ h => h); (focus assumption)) | (refine TW.skip (e := true) ?_ ?_ ?_ ?_; (focus rfl); (focus exact fun _ _ _ h => h); (focus assumption))); simp only [Act.put, List.setIfInBounds_toArray, List.set_cons_zero, List.set_cons_succ])
            refine TW.done ?_
            clear hS HS4
            go_wp2_with fail
            go_roundw
            case rel => exact ⟨j + 1, hlt2, by go_num, E4.out⟩
            case measure => simp [intOf]; omega
          · have dj : decide ((0 : Int) < (j : Int)) = true := decide_eq_true (by omega)
            have dj2 : decide (0 < j) = true := decide_eq_true (by omega)
            obtain ⟨p, hp⟩ : ∃ p, j = p + 1 := ⟨j - 1, by omega⟩
            obtain ⟨ad2, f0, hA, hx0, hc0⟩ := WS.out.at_ (show p < nw by omega)
            obtain rfl := Option.some.inj hA
            have HC0 := Lib.hid hc0
            have HLT := Lib.hid (with_lt HVX.out (show p < j by omega) hx0 HX1.out)
            clear hx0 hc0 hA
            have dp : (j : Int) - 1 = (p : Int) := by omega
            have dw : IntKind.i64.wrap (p : Int) = (p : Int) := IntWalk.i64_in _ ⟨by omega, by omega⟩
            clear hj0 hp
            have p0 : (0 : Int) ≤ (p : Int) := by omega
            have p1 : (p : Int) < (nw : Int) := by omega
            have HS4 := Lib.hid (show ∀ V, Below z15 w15 V → V.cell? ⟨gx, 0, none⟩ = some (.int .i64 ox) ∧ V.cell? ⟨gx, 1, none⟩ = some (.slice Ax nx cx) ∧ V.cell? (ad.add p) = some (.string f0) ∧ V.cell? (ad.add j) = some (.string f1) from fun V h => ⟨(H8.out V (H15.out V h).1).1, (H8.out V (H15.out V h).1).2.1, HC0.out V h, HC1.out V h⟩)
            have hS : wr.drew.cell? ⟨gx, 0, none⟩ = some (.int .i64 ox) ∧ wr.drew.cell? ⟨gx, 1, none⟩ = some (.slice Ax nx cx) ∧ wr.drew.cell? (ad.add p) = some (.string f0) ∧ wr.drew.cell? (ad.add j) = some (.string f1) := HS4.out _ E2.out
            refine wp_region_text [(0, false), (1, false), (2, false), (3, false), (4, false), (5, false), (6, true), (7, false), (8, false), (9, false), (10, false), (11, false), (12, false), (13, false), (14, true), (15, false), (16, false), (17, false), (18, false), (19, false), (20, false), (21, false), (22, false), (23, false), (24, false), (25, false), (26, false), (27, false), (28, false), (29, false), (30, false), (31, false), (32, false)] (fun V => V.cell? ⟨gx, 0, none⟩ = some (.int .i64 ox) ∧ V.cell? ⟨gx, 1, none⟩ = some (.slice Ax nx cx) ∧ V.cell? (ad.add p) = some (.string f0) ∧ V.cell? (ad.add j) = some (.string f1)) (by kernel_rfl) (by kernel_rfl) (by kernel_rfl) (by kernel_rfl) (by kernel_rfl) (fun _ => ?_)
            simp only [outOf, List.getElem?_cons_zero, List.getElem?_cons_succ, Option.getD_some]
            generalize wr.drew = w20 at *
            clear E1
            iterate 6 ((first | (refine TW.val2 (v := ?_) ?_ ?_ ?_ ?_ ?_; rotate_left; (focus rfl); (focus (intro W hSW; (try dsimp only at hSW); (try (obtain ⟨hS1, hSW⟩ := hSW)); (try (obtain ⟨hS2, hSW⟩ := hSW)); (try (obtain ⟨hS3, hSW⟩ := hSW)); (try (obtain ⟨hS4, hSW⟩ := hSW)); (try (obtain ⟨hS5, hSW⟩ := hSW)); (try (obtain ⟨hS6, hSW⟩ := hSW)); (try (obtain ⟨hS7, hSW⟩ := hSW)); (try (obtain ⟨hS8, hSW⟩ := hSW)); go_simp; (try with_reducible rfl); done)); (focus exact fun _ _ _ h => h); (focus assumption)) | (refine TW.skip (e := false) ?_ ?_ ?_ ?_; (focus rfl); (focus exact fun _ _ _ h => h); (focus assumption))); simp only [Act.put, List.setIfInBounds_toArray, List.set_cons_zero, List.set_cons_succ])
            refine TW.eff (by rfl) (fun K hK => ?_); go_simp
            have SV := shares_v ox Ax nx cx z7 rx f1 (k : Int) w20 (H7.out _ (H15.out _ E2.out).1).2.2.1 (H7.out _ (H15.out _ E2.out).1).2.2.2.2.1 (by omega)
            rw [PX.out, HW.out.1] at SV
            refine SV.mono ?_
            rintro e w21 ⟨rfl, b5⟩
            have E3 := Lib.hid (E2.out.trans (b5.mono (H15.out _ E2.out).2))
            have hS2 : w21.cell? ⟨gx, 0, none⟩ = some (.int .i64 ox) ∧ w21.cell? ⟨gx, 1, none⟩ = some (.slice Ax nx cx) ∧ w21.cell? (ad.add p) = some (.string f0) ∧ w21.cell? (ad.add j) = some (.string f1) := HS4.out _ E3.out
            clear hS b5 SV E2
            go_wp2_with fail; refine hK.out _ _ hS2 ?_; clear hK; (try simp only [Act.put, List.setIfInBounds_toArray, List.set_cons_zero, List.set_cons_succ])
            iterate 7 ((first | (refine TW.val2 (v := ?_) ?_ ?_ ?_ ?_ ?_; rotate_left; (focus rfl); (focus (intro W hSW; (try dsimp only at hSW); (try (obtain ⟨hS1, hSW⟩ := hSW)); (try (obtain ⟨hS2, hSW⟩ := hSW)); (try (obtain ⟨hS3, hSW⟩ := hSW)); (try (obtain ⟨hS4, hSW⟩ := hSW)); (try (obtain ⟨hS5, hSW⟩ := hSW)); (try (obtain ⟨hS6, hSW⟩ := hSW)); (try (obtain ⟨hS7, hSW⟩ := hSW)); (try (obtain ⟨hS8, hSW⟩ := hSW)); go_simp; (try with_reducible rfl); done)); (focus exact fun _ _ _ h => h); (focus assumption)) | (refine TW.skip (e := false) ?_ ?_ ?_ ?_; (focus rfl); (focus exact fun _ _ _ h => h); (focus assumption))); simp only [Act.put, List.setIfInBounds_toArray, List.set_cons_zero, List.set_cons_succ])
            refine TW.eff (by rfl) (fun K hK => ?_); go_simp
            have SV := has_v ox Ax nx cx z7 rx f1 w21 (H7.out _ (H15.out _ E3.out).1).2.2.1 (H7.out _ (H15.out _ E3.out).1).2.2.2.2.1 (by omega)
            rw [PX.out, HW.out.2] at SV
            refine SV.mono ?_
            rintro e w22 ⟨rfl, b5⟩
            have E4 := Lib.hid (E3.out.trans (b5.mono (H15.out _ E3.out).2))
            have hS : w22.cell? ⟨gx, 0, none⟩ = some (.int .i64 ox) ∧ w22.cell? ⟨gx, 1, none⟩ = some (.slice Ax nx cx) ∧ w22.cell? (ad.add p) = some (.string f0) ∧ w22.cell? (ad.add j) = some (.string f1) := HS4.out _ E4.out
            clear hS2 b5 SV E3
            have dl : Op.bytesLess f0.toList f1.toList = true := HLT.out
            go_wp2_with fail; refine hK.out _ _ hS ?_; clear hK; (try simp only [Act.put, List.setIfInBounds_toArray, List.set_cons_zero, List.set_cons_succ])
            iterate 18 ((first | (refine TW.val2 (v := ?_) ?_ ?_ ?_ ?_ ?_; rotate_left; (focus rfl); (focus (intro W hSW; (try dsimp only at hSW); (try (obtain ⟨hS1, hSW⟩ := hSW)); (try (obtain ⟨hS2, hSW⟩ := hSW)); (try (obtain ⟨hS3, hSW⟩ := hSW)); (try (obtain ⟨hS4, hSW⟩ := hSW)); (try (obtain ⟨hS5, hSW⟩ := hSW)); (try (obtain ⟨hS6, hSW⟩ := hSW)); (try (obtain ⟨hS7, hSW⟩ := hSW)); (try (obtain ⟨hS8, hSW⟩ := hSW)); go_simp; (try with_reducible rfl); done)); (focus exact fun _ _ _ h => h); (focus assumption)) | (refine TW.skip (e := false) ?_ ?_ ?_ ?_; (focus rfl); (focus exact fun _ _ _ h => h); (focus assumption))); simp only [Act.put, List.setIfInBounds_toArray, List.set_cons_zero, List.set_cons_succ])
            refine TW.done ?_
            clear hS HS4 dl dp dj
            go_wp2_with fail
            go_roundw
            case rel => exact ⟨j + 1, hlt2, by go_num, E4.out⟩
            case measure => simp [intOf]; omega
        · obtain rfl : nw = j := by omega
          clear hlt2
          go_wp2_with fail
          go_loopw [18, 19] (fun n i V => ∃ j : Nat, j ≤ nx ∧ i = .int .i64 (j : Int) ∧ n = .int .i64 ((((rx.map Rw.p).take j).filter fun r => decide ((k : Int) ∈ r.2)).length : Nat) ∧ Below z7 w7 V) (fun _ i _ => nx - (intOf i).toNat)
          case atStart => exact ⟨0, Nat.zero_le _, rfl, rfl, (H15.out _ E1.out).1⟩
          case round =>
            obtain ⟨j, hj, rfl, rfl, hb⟩ := hrel
            have F0 := Lib.hid hb
            clear hb E1
            have hcl : (((rx.map Rw.p).take j).filter fun r => decide ((k : Int) ∈ r.2)).length ≤ j := Nat.le_trans (List.length_filter_le _ _) (List.length_take_le _ _)
            by_cases hlt2 : j < nx
            · obtain ⟨ad, rf, ra, rn, rc, ds, rfl, hx, ⟨hri, _, _, hfs⟩, _, hc⟩ := (H7.out _ F0.out).2.2.1.at_ hlt2
              have HX := Lib.hid (show (rx.map Rw.p)[j]? = some (rf, ds) by rw [List.getElem?_map, hx]; rfl)
              have HSR := Lib.hid (show sharesP (ox, lx) rf (k : Int) = decide ((k : Int) ∈ ds) from shares_row (x := (ox, lx)) HVX.out (i := j) (r := (rf, ds)) (by rw [← HX.out, PX.out]) _)
              have j0 : (0 : Int) ≤ (j : Int) := by omega
              have j1 : (j : Int) < (nx : Int) := by omega
              have c1 := (H8.out _ F0.out).2.1
              have HCR := Lib.hid (show ∀ V, Below wr.heap.size wr V → V.cell? (ad.add (j * 2)) = some (.string rf) from fun V h => by
                have h1 := ((H7.out _ F0.out).2.2.1.at_ hlt2)
                obtain ⟨ad', rf', _, _, _, _, hA, hx', _, _, hc'⟩ := h1
                obtain rfl := Option.some.inj hA
                rw [hx] at hx'
                obtain ⟨rfl, _⟩ := Option.some.inj hx'
                exact (hc' V (h.mono (H7.out _ F0.out).2.2.2.2.1)).1)
              clear hx hri hc
              go_upto_region 28 with fail
              have F1 := Lib.hid (show Below z7 w7 wr.drew from F0.out.drew)
              have hS : wr.drew.cell? ⟨gx, 0, none⟩ = some (.int .i64 ox) ∧ wr.drew.cell? ⟨gx, 1, none⟩ = some (.slice (some ad) nx cx) ∧ wr.drew.cell? (ad.add (j * 2)) = some (.string rf) := ⟨(H8.out _ F1.out).1, (H8.out _ F1.out).2.1, HCR.out _ (Below.refl _ _).drew⟩
              refine wp_region_text [(0, false), (1, false), (2, false), (3, false), (4, false), (5, false), (6, false), (7, false), (8, true)] (fun V => V.cell? ⟨gx, 0, none⟩ = some (.int .i64 ox) ∧ V.cell? ⟨gx, 1, none⟩ = some (.slice (some ad) nx cx) ∧ V.cell? (ad.add (j * 2)) = some (.string rf)) (by kernel_rfl) (by kernel_rfl) (by kernel_rfl) (by kernel_rfl) (by kernel_rfl) (fun _ => ?_)
              simp only [outOf, List.getElem?_cons_zero, List.getElem?_cons_succ, Option.getD_some]
              clear HCR F0 c1
              generalize wr.drew = w30 at *
              iterate 8 ((first | (refine TW.val2 (v := ?_) ?_ ?_ ?_ ?_ ?_; rotate_left; (focus rfl); (focus (intro W hSW; (try dsimp only at hSW); (try (obtain ⟨hS1, hSW⟩ := hSW)); (try (obtain ⟨hS2, hSW⟩ := hSW)); (try (obtain ⟨hS3, hSW⟩ := hSW)); (try (obtain ⟨hS4, hSW⟩ := hSW)); (try (obtain ⟨hS5, hSW⟩ := hSW)); (try (obtain ⟨hS6, hSW⟩ := hSW)); (try (obtain ⟨hS7, hSW⟩ := hSW)); (try (obtain ⟨hS8, hSW⟩ := hSW)); go_simp; (try with_reducible rfl); done)); (focus exact fun _ _ _ h => h); (focus assumption)) | (refine TW.skip (e := false) ?_ ?_ ?_ ?_; (focus rfl); (focus exact fun _ _ _ h => h); (focus assumption))); simp only [Act.put, List.setIfInBounds_toArray, List.set_cons_zero, List.set_cons_succ])
              refine TW.eff (by rfl) (fun K hK => ?_); go_simp
              have SV := shares_v ox (some ad) nx cx z7 rx rf (k : Int) w30 (H7.out _ F1.out).2.2.1 (H7.out _ F1.out).2.2.2.2.1 (by omega)
              rw [PX.out, HSR.out] at SV
              refine SV.mono ?_
              rintro e w31 ⟨rfl, b5⟩
              have F2 := Lib.hid (F1.out.trans (b5.mono (H7.out _ F1.out).2.2.2.2.1))
              have hS2 : w31.cell? ⟨gx, 0, none⟩ = some (.int .i64 ox) ∧ w31.cell? ⟨gx, 1, none⟩ = some (.slice (some ad) nx cx) ∧ w31.cell? (ad.add (j * 2)) = some (.string rf) := ⟨(H8.out _ F2.out).1, (H8.out _ F2.out).2.1, keepc b5 hS.2.2⟩
              clear hS b5 SV F1
              go_wp2_with fail; refine hK.out _ _ hS2 ?_; clear hK; (try simp only [Act.put, List.setIfInBounds_toArray, List.set_cons_zero, List.set_cons_succ])
              refine TW.done ?_
              clear hS2
              by_cases hd : (k : Int) ∈ ds
              · have hd1 : decide ((k : Int) ∈ ds) = true := decide_eq_true hd
                have HN := Lib.hid (show (((rx.map Rw.p).take (j + 1)).filter fun r => decide ((k : Int) ∈ r.2)).length = (((rx.map Rw.p).take j).filter fun r => decide ((k : Int) ∈ r.2)).length + 1 by
                  rw [take_filter HX.out, if_pos hd1, List.length_append]; rfl)
                clear hd
                rw [hd1]
                go_wp2_with fail
                go_roundw
                case rel => exact ⟨j + 1, hlt2, by go_num, by rw [HN.out]; go_num, F2.out⟩
                case measure => simp [intOf]; omega
              · have hd1 : decide ((k : Int) ∈ ds) = false := decide_eq_false hd
                have HN := Lib.hid (show (((rx.map Rw.p).take (j + 1)).filter fun r => decide ((k : Int) ∈ r.2)).length = (((rx.map Rw.p).take j).filter fun r => decide ((k : Int) ∈ r.2)).length by
                  rw [take_filter HX.out, if_neg (by rw [hd1]; simp), List.append_nil])
                clear hd
                rw [hd1]
                go_wp2_with fail
                go_roundw
                case rel => exact ⟨j + 1, hlt2, by go_num, by rw [HN.out], F2.out⟩
                case measure => simp [intOf]; omega
            · obtain rfl : nx = j := by omega
              have HLX := Lib.hid (H7.out _ F0.out).2.2.1.len
              have HN := Lib.hid (show (((rx.map Rw.p).take nx).filter fun r => decide ((k : Int) ∈ r.2)).length = nw by
                rw [List.take_of_length_le (by rw [List.length_map, HLX.out]; exact Nat.le_refl _), ← HWL.out, withP_len HVX.out, PX.out])
              have c1 := (H8.out _ F0.out).2.1
              have dn : ((((((rx.map Rw.p).take nx).filter fun r => decide ((k : Int) ∈ r.2)).length : Nat) : Int) != (nw : Int)) = false := by rw [HN.out]; simp
              clear hlt2
              go_wp2_with fail
              go_roundw
              case rel => exact ⟨k + 1, by omega, by go_num, F0.out⟩
              case measure => simp [intOf]; omega
end Go.Proofs.Ytikegnnlmfidfaa
