/-
  MatrixCalls: matrices are checked, queried and changed as the document says.
-/
import Derived.Test.YtikegnnlmfidfaaMatCg
import Derived.Test.YtikegnnlmfidfaaMatX
import Derived.Test.YtikegnnlmfidfaaMatZ
import Derived.Test.YtikegnnlmfidfaaMatW
import Derived.Test.YtikegnnlmfidfaaMatL
import Derived.Test.YtikegnnlmfidfaaMatV
namespace Go.Proofs.Ytikegnnlmfidfaa
open Go.RowKit
theorem eqM_self (a : PM) : eqM a a = true := by
  unfold eqM
  simp
theorem rfolder_b (s : ByteArray) (w : World) (hs : s.size ≤ 9223372036854775807) : Calls Try.prog 30 #[.string s] w fun e w' => e = .returned (.bool (folderP s)) ∧ Below w.heap.size w w' := by
  refine (rfolder_v s w hs).mono ?_
  rintro e w' ⟨rfl, rfl⟩
  exact ⟨rfl, Below.refl _ _⟩
/-- Apply, with what is kept. -/
theorem apply_c (own : Int) (A : Option Addr) (n c B : Nat) (rs : List Rw) (kind : Int) (f : ByteArray) (d : Int) (w : World) (hr : RowsR w B A n rs) (hB : B ≤ w.heap.size) (hn : n ≤ 9223372036854775807) (hfs : f.size ≤ 9223372036854775807) (m : PM) (e0 : Nat) (ha : applyP (own, rs.map Rw.p) (kind, f, d) = (m, e0)) :
    Calls Try.prog 21 #[.agg #[.int .i64 own, .slice A n c], .agg #[.int .i64 kind, .string f, .int .i64 d]] w fun e w' => ∃ A' n' c' rs', e = .returned (.tuple #[.agg #[.int .i64 m.1, .slice A' n' c'], .int .i64 (e0 : Int)]) ∧ RowsR w' w'.heap.size A' n' rs' ∧ rs'.map Rw.p = m.2 ∧ n' ≤ 9 ∧ Below w.heap.size w w' := by
  have h := apply_v own A n c B rs kind f d w hr hB hn hfs
  rw [ha] at h
  refine h.mono ?_
  rintro e w' ⟨A', n', c', rs', h1, h2, _, h3, _, h4, _, h5⟩
  exact ⟨A', n', c', rs', h1, h2, h3, by omega, h5⟩
/-- The reference's Apply, with what is kept. -/
theorem rapply_c (own : Int) (A : Option Addr) (n c B : Nat) (rs : List Rw) (kind : Int) (f : ByteArray) (d : Int) (w : World) (hr : RowsR w B A n rs) (hB : B ≤ w.heap.size) (hn : n ≤ 9223372036854775807) (hfs : f.size ≤ 9223372036854775807) (m : PM) (e0 : Nat) (ha : applyP (own, rs.map Rw.p) (kind, f, d) = (m, e0)) :
    Calls Try.prog 26 #[.agg #[.int .i64 own, .slice A n c], .agg #[.int .i64 kind, .string f, .int .i64 d]] w fun e w' => ∃ A' n' c' rs', e = .returned (.tuple #[.agg #[.int .i64 m.1, .slice A' n' c'], .int .i64 (e0 : Int)]) ∧ RowsR w' w'.heap.size A' n' rs' ∧ rs'.map Rw.p = m.2 ∧ n' ≤ 9 ∧ Below w.heap.size w w' := by
  have h := rapply_v own A n c B rs kind f d w hr hB hn hfs
  rw [ha] at h
  exact h
set_option maxRecDepth 100000 in
set_option maxHeartbeats 16000000 in
theorem calls_v (own oo : Int) (A Ao : Option Addr) (n c no co B : Nat) (rs ro : List Rw) (f : ByteArray) (d ka : Int) (fa : ByteArray) (da : Int) (w : World) (hr : RowsR w B A n rs) (hro : RowsR w B Ao no ro) (hB : B ≤ w.heap.size) (hn : n ≤ 9223372036854775807) (hno : no ≤ 9223372036854775807) (hf : f.size ≤ 9223372036854775807) (hfa : fa.size ≤ 9223372036854775807) :
    Calls Try.prog 7 #[.agg #[.int .i64 own, .slice A n c], .agg #[.int .i64 oo, .slice Ao no co], .string f, .int .i64 d, .agg #[.int .i64 ka, .string fa, .int .i64 da]] w fun e w' => e = .returned (.bool true) ∧ Below w.heap.size w w' := by
  have HIM := Lib.hid (show (Try.prog.info? 27).map (·.size) = some 2 by kernel_rfl)
  have HR := Lib.hid hr
  have HO := Lib.hid hro
  have X0 := Lib.hid (boxes3c w 27 27 41 [.int .i64 own, .slice A n c] [.int .i64 oo, .slice Ao no co] [.int .i64 ka, .string fa, .int .i64 da])
  clear hr hro
  go_enter Try.func7, Try.ntmps7
  go_upto_region 1 with fail
  generalize hw0 : ((w.alloc (.cells #[.int .i64 own, .slice A n c] 27)).alloc (.cells #[.int .i64 oo, .slice Ao no co] 27)).alloc (.cells #[.int .i64 ka, .string fa, .int .i64 da] 41) = w0 at *
  clear hw0
  generalize hg : w.heap.size = g at *
  have HG := Lib.hid hg
  clear hg
  have H0 := Lib.hid (show ∀ V, Below w0.heap.size w0 V → VArr 27 V g [.int .i64 own, .slice A n c] ∧ VArr 27 V (g + 1) [.int .i64 oo, .slice Ao no co] ∧ VArr 41 V (g + 2) [.int .i64 ka, .string fa, .int .i64 da] ∧ RowsR V B A n rs ∧ RowsR V B Ao no ro ∧ w0.heap.size ≤ V.heap.size ∧ Below g w V from fun V h => by
    obtain ⟨h1, h2, h3, h4, h5⟩ := X0.out
    have h6 : Below g w V := h4.trans (h.mono (by omega))
    exact ⟨h1.below h, h2.below h, h3.below h, HR.out.below (h6.mono hB), HO.out.below (h6.mono hB), h.size, h6⟩)
  have hz0 : g + 3 ≤ w0.heap.size := Nat.le_of_eq X0.out.2.2.2.2.symm
  have T0 := Lib.hid (Below.refl w0.heap.size w0)
  clear X0
  generalize w0.heap.size = z0 at *
  have hBz : B ≤ z0 := by omega
  have HBZ := Lib.hid (show ∀ V, Below z0 w0 V → B ≤ V.heap.size from fun V h => Nat.le_trans hBz (H0.out V h).2.2.2.2.2.1)
  go_wp2_with fail
  refine (lives_v w0).mono ?_
  rintro e w1 ⟨rfl, b1⟩
  have T1 := Lib.hid (T0.out.trans (b1.mono (H0.out _ T0.out).2.2.2.2.2.1))
  clear b1 T0
  have c0 := (H0.out _ T1.out).1.cell (j := 0) rfl
  have c1 := (H0.out _ T1.out).1.cell (j := 1) rfl
  have o0 := (H0.out _ T1.out).2.1.cell (j := 0) rfl
  have o1 := (H0.out _ T1.out).2.1.cell (j := 1) rfl
  have a0 := (H0.out _ T1.out).2.2.1.cell (j := 0) rfl
  have a1 := (H0.out _ T1.out).2.2.1.cell (j := 1) rfl
  have a2 := (H0.out _ T1.out).2.2.1.cell (j := 2) rfl
  go_wp2_with fail
  have LV := light_v own A n c B 40 rs w1 (H0.out _ T1.out).2.2.2.1 (HBZ.out _ T1.out) hn (by omega)
  cases hl : lightM rs 40 with
  | false =>
    rw [hl] at LV
    refine LV.mono ?_
    rintro e w2 ⟨rfl, b2⟩
    have T2 := Lib.hid (T1.out.trans (b2.mono (H0.out _ T1.out).2.2.2.2.2.1))
    clear b2 LV hl c0 c1 o0 o1 a0 a1 a2 T1
    have c0 := (H0.out _ T2.out).1.cell (j := 0) rfl
    go_wp2_with fail
    go_ret
    exact ⟨rfl, HG.out ▸ (H0.out _ T2.out).2.2.2.2.2.2⟩
  | true =>
  have hn40 : n ≤ 40 := by have h := hl; have h2 := (H0.out _ T1.out).2.2.2.1.len; simp only [lightM, Bool.and_eq_true, decide_eq_true_eq] at h; omega
  rw [hl] at LV
  refine LV.mono ?_
  rintro e w2 ⟨rfl, b2⟩
  have T2 := Lib.hid (T1.out.trans (b2.mono (H0.out _ T1.out).2.2.2.2.2.1))
  clear b2 LV hl c0 c1 o0 o1 a0 a1 a2 T1
  have c0 := (H0.out _ T2.out).1.cell (j := 0) rfl
  have c1 := (H0.out _ T2.out).1.cell (j := 1) rfl
  have o0 := (H0.out _ T2.out).2.1.cell (j := 0) rfl
  have o1 := (H0.out _ T2.out).2.1.cell (j := 1) rfl
  have a0 := (H0.out _ T2.out).2.2.1.cell (j := 0) rfl
  have a1 := (H0.out _ T2.out).2.2.1.cell (j := 1) rfl
  have a2 := (H0.out _ T2.out).2.2.1.cell (j := 2) rfl
  go_wp2_with fail
  have LV := light_v oo Ao no co B 40 ro w2 (H0.out _ T2.out).2.2.2.2.1 (HBZ.out _ T2.out) hno (by omega)
  cases hl : lightM ro 40 with
  | false =>
    rw [hl] at LV
    refine LV.mono ?_
    rintro e w3 ⟨rfl, b3⟩
    have T3 := Lib.hid (T2.out.trans (b3.mono (H0.out _ T2.out).2.2.2.2.2.1))
    clear b3 LV hl c0 c1 o0 o1 a0 a1 a2 T2
    have c0 := (H0.out _ T3.out).1.cell (j := 0) rfl
    go_wp2_with fail
    go_ret
    exact ⟨rfl, HG.out ▸ (H0.out _ T3.out).2.2.2.2.2.2⟩
  | true =>
  rw [hl] at LV
  refine LV.mono ?_
  rintro e w3 ⟨rfl, b3⟩
  have T3 := Lib.hid (T2.out.trans (b3.mono (H0.out _ T2.out).2.2.2.2.2.1))
  clear b3 LV hl c0 c1 o0 o1 a0 a1 a2 T2
  have c0 := (H0.out _ T3.out).1.cell (j := 0) rfl
  have c1 := (H0.out _ T3.out).1.cell (j := 1) rfl
  have o0 := (H0.out _ T3.out).2.1.cell (j := 0) rfl
  have o1 := (H0.out _ T3.out).2.1.cell (j := 1) rfl
  have a0 := (H0.out _ T3.out).2.2.1.cell (j := 0) rfl
  have a1 := (H0.out _ T3.out).2.2.1.cell (j := 1) rfl
  have a2 := (H0.out _ T3.out).2.2.1.cell (j := 2) rfl
  by_cases hf2 : f.size ≤ 40
  case neg =>
    go_wp2_with fail
    go_ret
    exact ⟨rfl, HG.out ▸ (H0.out _ T3.out).2.2.2.2.2.2⟩
  by_cases hfa2 : fa.size ≤ 40
  case neg =>
    go_wp2_with fail
    go_ret
    exact ⟨rfl, HG.out ▸ (H0.out _ T3.out).2.2.2.2.2.2⟩
  obtain ⟨⟨⟨ox, lx⟩, ex⟩, hax⟩ : ∃ r, applyP (own, rs.map Rw.p) (ka, fa, da) = r := ⟨_, rfl⟩
  have HAX := Lib.hid hax
  have AV := apply_c own A n c B rs ka fa da w3 (H0.out _ T3.out).2.2.2.1 (HBZ.out _ T3.out) hn hfa (ox, lx) ex hax
  clear hax
  go_wp2_with fail
  refine AV.mono ?_
  rintro e w4 ⟨Ax, nx, cx, rx, rfl, hrx, hpx, hnx, b4⟩
  have T4 := Lib.hid (T3.out.trans (b4.mono (H0.out _ T3.out).2.2.2.2.2.1))
  have RX := Lib.hid hrx
  have PX := Lib.hid hpx
  clear AV b4 hrx hpx c0 c1 o0 o1 a0 a1 a2 T3
  go_upto_region 6 with fail
  have T5 := Lib.hid (T4.out.alloc (H0.out _ T4.out).2.2.2.2.2.1 (.cells #[.int .i64 ox, .slice Ax nx cx] 27))
  have X5 := Lib.hid (show VArr 27 (w4.alloc (.cells #[.int .i64 ox, .slice Ax nx cx] 27)) w4.heap.size [.int .i64 ox, .slice Ax nx cx] from heap_alloc_new w4 _)
  have R5 := Lib.hid ((RX.out.below ((Below.refl w4.heap.size w4).alloc (Nat.le_refl _) (.cells #[.int .i64 ox, .slice Ax nx cx] 27))).more (show w4.heap.size ≤ (w4.alloc (.cells #[.int .i64 ox, .slice Ax nx cx] 27)).heap.size by simp))
  clear T4 RX
  generalize w4.alloc (.cells #[.int .i64 ox, .slice Ax nx cx] 27) = w5 at *
  generalize w4.heap.size = gx at *
  have c0 := (H0.out _ T5.out).1.cell (j := 0) rfl
  have c1 := (H0.out _ T5.out).1.cell (j := 1) rfl
  have o0 := (H0.out _ T5.out).2.1.cell (j := 0) rfl
  have o1 := (H0.out _ T5.out).2.1.cell (j := 1) rfl
  have a0 := (H0.out _ T5.out).2.2.1.cell (j := 0) rfl
  have a1 := (H0.out _ T5.out).2.2.1.cell (j := 1) rfl
  have a2 := (H0.out _ T5.out).2.2.1.cell (j := 2) rfl
  have AV := rapply_c own A n c B rs ka fa da w5 (H0.out _ T5.out).2.2.2.1 (HBZ.out _ T5.out) hn hfa (ox, lx) ex HAX.out
  go_wp2_with fail
  refine AV.mono ?_
  rintro e w6 ⟨Ay, ny, cy, ry, rfl, hry, hpy, hny, b6⟩
  have T6 := Lib.hid (T5.out.trans (b6.mono (H0.out _ T5.out).2.2.2.2.2.1))
  have X6 := Lib.hid (X5.out.below b6)
  have R6 := Lib.hid (R5.out.below b6)
  have RY := Lib.hid hry
  have PY := Lib.hid hpy
  have hz56 := b6.size
  clear AV b6 hry hpy c0 c1 o0 o1 a0 a1 a2 T5 X5 R5 HAX
  go_upto_region 7 with fail
  have T7 := Lib.hid (T6.out.alloc (H0.out _ T6.out).2.2.2.2.2.1 (.cells #[.int .i64 ox, .slice Ay ny cy] 27))
  have X7 := Lib.hid (X6.out.alloc (.cells #[.int .i64 ox, .slice Ay ny cy] 27))
  have bq := (Below.refl w6.heap.size w6).alloc (Nat.le_refl _) (.cells #[.int .i64 ox, .slice Ay ny cy] 27)
  have R7 := Lib.hid ((R6.out.below (bq.mono hz56)).more (Nat.le_trans hz56 bq.size))
  have Y7 := Lib.hid (show VArr 27 (w6.alloc (.cells #[.int .i64 ox, .slice Ay ny cy] 27)) w6.heap.size [.int .i64 ox, .slice Ay ny cy] from heap_alloc_new w6 _)
  have S7 := Lib.hid ((RY.out.below bq).more bq.size)
  clear T6 RY X6 R6 bq
  generalize w6.alloc (.cells #[.int .i64 ox, .slice Ay ny cy] 27) = w7 at *
  generalize w6.heap.size = gy at *
  generalize w5.heap.size = z5 at *
  have H7 := Lib.hid (show ∀ V, Below w7.heap.size w7 V → (V.cell? ⟨gx, 0, none⟩ = some (.int .i64 ox) ∧ V.cell? ⟨gx, 1, none⟩ = some (.slice Ax nx cx) ∧ V.cell? ⟨g, 0, none⟩ = some (.int .i64 own) ∧ V.cell? ⟨g, 1, none⟩ = some (.slice A n c) ∧ V.cell? ⟨gy, 0, none⟩ = some (.int .i64 ox) ∧ V.cell? ⟨gy, 1, none⟩ = some (.slice Ay ny cy) ∧ V.cell? ⟨g + 1, 0, none⟩ = some (.int .i64 oo) ∧ V.cell? ⟨g + 1, 1, none⟩ = some (.slice Ao no co)) ∧ RowsR V w7.heap.size Ax nx rx ∧ RowsR V w7.heap.size Ay ny ry ∧ w7.heap.size ≤ V.heap.size ∧ Below z0 w0 V from fun V h => by
    have h0 := T7.out.trans (h.mono (H0.out _ T7.out).2.2.2.2.2.1)
    have h1 := H0.out V h0
    have hx := X7.out.below h
    have hy := Y7.out.below h
    exact ⟨⟨hx.cell (j := 0) rfl, hx.cell (j := 1) rfl, h1.1.cell (j := 0) rfl, h1.1.cell (j := 1) rfl, hy.cell (j := 0) rfl, hy.cell (j := 1) rfl, h1.2.1.cell (j := 0) rfl, h1.2.1.cell (j := 1) rfl⟩, R7.out.below h, S7.out.below h, h.size, h0⟩)
  have D0 := Lib.hid (show Below w7.heap.size w7 w7.drew from (Below.refl w7.heap.size w7).drew)
  clear X7 R7 Y7 S7 T7
  generalize w7.heap.size = z7 at *
  have hS : w7.drew.cell? ⟨gx, 0, none⟩ = some (.int .i64 ox) ∧ w7.drew.cell? ⟨gx, 1, none⟩ = some (.slice Ax nx cx) ∧ w7.drew.cell? ⟨g, 0, none⟩ = some (.int .i64 own) ∧ w7.drew.cell? ⟨g, 1, none⟩ = some (.slice A n c) ∧ w7.drew.cell? ⟨gy, 0, none⟩ = some (.int .i64 ox) ∧ w7.drew.cell? ⟨gy, 1, none⟩ = some (.slice Ay ny cy) ∧ w7.drew.cell? ⟨g + 1, 0, none⟩ = some (.int .i64 oo) ∧ w7.drew.cell? ⟨g + 1, 1, none⟩ = some (.slice Ao no co) := (H7.out _ D0.out).1
  dsimp only [List.append]
  refine wp_region_text [(0, false), (1, false), (2, true), (3, false), (4, false), (5, false), (6, false), (7, false), (8, false), (9, false), (11, false), (10, true), (12, true), (13, false), (14, false), (15, false), (16, false), (18, false), (17, true), (19, true), (20, false), (21, false), (22, false), (23, false), (24, false), (26, false), (27, false), (25, true), (28, true), (29, false), (30, false), (31, false), (32, false), (33, false), (34, false), (36, false), (37, false), (38, false), (35, true), (39, true), (40, false), (41, false), (42, false), (43, false), (44, false), (46, false), (47, false), (45, true), (48, true), (49, true), (50, false), (51, false), (52, false), (53, false), (54, false), (56, false), (57, false), (58, false), (55, true), (59, true), (60, false), (61, false), (62, false), (63, false), (64, false), (66, false), (67, false), (65, true), (68, true), (69, false), (70, false), (71, false), (72, false), (73, false), (75, false), (76, false), (74, true), (77, true), (78, false), (79, false), (80, false)] (fun V => V.cell? ⟨gx, 0, none⟩ = some (.int .i64 ox) ∧ V.cell? ⟨gx, 1, none⟩ = some (.slice Ax nx cx) ∧ V.cell? ⟨g, 0, none⟩ = some (.int .i64 own) ∧ V.cell? ⟨g, 1, none⟩ = some (.slice A n c) ∧ V.cell? ⟨gy, 0, none⟩ = some (.int .i64 ox) ∧ V.cell? ⟨gy, 1, none⟩ = some (.slice Ay ny cy) ∧ V.cell? ⟨g + 1, 0, none⟩ = some (.int .i64 oo) ∧ V.cell? ⟨g + 1, 1, none⟩ = some (.slice Ao no co)) (by kernel_rfl) (by kernel_rfl) (by kernel_rfl) (by kernel_rfl) (by kernel_rfl) (fun dq => ?_)
  simp only [outOf, List.getElem?_cons_zero, List.getElem?_cons_succ, Option.getD_some]
  generalize w7.drew = v0 at *
  obtain ⟨sck, hsck⟩ : ∃ x, chkM (own, rs.map Rw.p) = x := ⟨_, rfl⟩
  have Hsck := Lib.hid hsck
  clear hsck
  obtain ⟨sfo, hsfo⟩ : ∃ x, folderP f = x := ⟨_, rfl⟩
  have Hsfo := Lib.hid hsfo
  clear hsfo
  obtain ⟨shs, hshs⟩ : ∃ x, hasP (own, rs.map Rw.p) f = x := ⟨_, rfl⟩
  have Hshs := Lib.hid hshs
  clear hshs
  obtain ⟨ssh, hssh⟩ : ∃ x, sharesP (own, rs.map Rw.p) f d = x := ⟨_, rfl⟩
  have Hssh := Lib.hid hssh
  clear hssh
  obtain ⟨sbo, hsbo⟩ : ∃ x, bothP (own, rs.map Rw.p) (oo, ro.map Rw.p) f = x := ⟨_, rfl⟩
  have Hsbo := Lib.hid hsbo
  clear hsbo
  obtain ⟨ssm, hssm⟩ : ∃ x, sameM (own, rs.map Rw.p) (oo, ro.map Rw.p) = x := ⟨_, rfl⟩
  have Hssm := Lib.hid hssm
  clear hssm
  obtain ⟨sss, hsss⟩ : ∃ x, sameM (own, rs.map Rw.p) (own, rs.map Rw.p) = x := ⟨_, rfl⟩
  have Hsss := Lib.hid hsss
  clear hsss
  have E1 := Lib.hid (show eqM (ox, rx.map Rw.p) (ox, ry.map Rw.p) = true by rw [PX.out, PY.out]; exact eqM_self _)
  have qex : ((ex : Int) == (ex : Int)) = true := by simp
  have qsck : ((sck : Int) == (sck : Int)) = true := by simp
  have qsfo : (sfo == sfo) = true := by simp
  have qshs : (shs == shs) = true := by simp
  have qssh : (ssh == ssh) = true := by simp
  have qsbo : (sbo == sbo) = true := by simp
  have qssm : (ssm == ssm) = true := by simp
  have qsss : (sss == sss) = true := by simp
  iterate 2 ((first | (refine TW.val2 (v := ?_) ?_ ?_ ?_ ?_ ?_; rotate_left; (focus rfl); (focus (intro W hSW; (try dsimp only at hSW); (try (obtain ⟨hS1, hSW⟩ := hSW)); (try (obtain ⟨hS2, hSW⟩ := hSW)); (try (obtain ⟨hS3, hSW⟩ := hSW)); (try (obtain ⟨hS4, hSW⟩ := hSW)); (try (obtain ⟨hS5, hSW⟩ := hSW)); (try (obtain ⟨hS6, hSW⟩ := hSW)); (try (obtain ⟨hS7, hSW⟩ := hSW)); (try (obtain ⟨hS8, hSW⟩ := hSW)); go_simp; (try with_reducible rfl); done)); (focus exact fun _ _ _ h => h); (focus assumption)) | (refine TW.skip (e := false) ?_ ?_ ?_ ?_; (focus rfl); (focus exact fun _ _ _ h => h); (focus assumption))); simp only [Act.put, List.setIfInBounds_toArray, List.set_cons_zero, List.set_cons_succ])
  refine TW.eff (by rfl) (fun K hK => ?_); go_simp
  have SV := matrix_v ox ox Ax Ay nx cx ny cy z7 rx ry v0 (H7.out _ D0.out).2.1 (H7.out _ D0.out).2.2.1 (H7.out _ D0.out).2.2.2.1 (by omega) (by omega)
  rw [E1.out] at SV
  refine SV.mono ?_
  rintro e v1 ⟨rfl, b5⟩
  have D1 := Lib.hid (D0.out.trans (b5.mono (H7.out _ D0.out).2.2.2.1))
  have hS2 : v1.cell? ⟨gx, 0, none⟩ = some (.int .i64 ox) ∧ v1.cell? ⟨gx, 1, none⟩ = some (.slice Ax nx cx) ∧ v1.cell? ⟨g, 0, none⟩ = some (.int .i64 own) ∧ v1.cell? ⟨g, 1, none⟩ = some (.slice A n c) ∧ v1.cell? ⟨gy, 0, none⟩ = some (.int .i64 ox) ∧ v1.cell? ⟨gy, 1, none⟩ = some (.slice Ay ny cy) ∧ v1.cell? ⟨g + 1, 0, none⟩ = some (.int .i64 oo) ∧ v1.cell? ⟨g + 1, 1, none⟩ = some (.slice Ao no co) := (H7.out _ D1.out).1
  clear hS b5 SV D0
  have hS := hS2
  clear hS2
  go_wp2_with fail; refine hK.out _ _ hS ?_; clear hK; (try simp only [Act.put, List.setIfInBounds_toArray, List.set_cons_zero, List.set_cons_succ])
  iterate 8 ((first | (refine TW.val2 (v := ?_) ?_ ?_ ?_ ?_ ?_; rotate_left; (focus rfl); (focus (intro W hSW; (try dsimp only at hSW); (try (obtain ⟨hS1, hSW⟩ := hSW)); (try (obtain ⟨hS2, hSW⟩ := hSW)); (try (obtain ⟨hS3, hSW⟩ := hSW)); (try (obtain ⟨hS4, hSW⟩ := hSW)); (try (obtain ⟨hS5, hSW⟩ := hSW)); (try (obtain ⟨hS6, hSW⟩ := hSW)); (try (obtain ⟨hS7, hSW⟩ := hSW)); (try (obtain ⟨hS8, hSW⟩ := hSW)); go_simp; (try with_reducible rfl); done)); (focus exact fun _ _ _ h => h); (focus assumption)) | (refine TW.skip (e := false) ?_ ?_ ?_ ?_; (focus rfl); (focus exact fun _ _ _ h => h); (focus assumption))); simp only [Act.put, List.setIfInBounds_toArray, List.set_cons_zero, List.set_cons_succ])
  refine TW.eff (by rfl) (fun K hK => ?_); go_simp
  have SV := check_v own A n c B rs v1 (H0.out _ (H7.out _ D1.out).2.2.2.2).2.2.2.1 (HBZ.out _ (H7.out _ D1.out).2.2.2.2) hn
  rw [Hsck.out] at SV
  refine SV.mono ?_
  rintro e v2 ⟨rfl, b5⟩
  have D2 := Lib.hid (D1.out.trans (b5.mono (H7.out _ D1.out).2.2.2.1))
  have hS2 : v2.cell? ⟨gx, 0, none⟩ = some (.int .i64 ox) ∧ v2.cell? ⟨gx, 1, none⟩ = some (.slice Ax nx cx) ∧ v2.cell? ⟨g, 0, none⟩ = some (.int .i64 own) ∧ v2.cell? ⟨g, 1, none⟩ = some (.slice A n c) ∧ v2.cell? ⟨gy, 0, none⟩ = some (.int .i64 ox) ∧ v2.cell? ⟨gy, 1, none⟩ = some (.slice Ay ny cy) ∧ v2.cell? ⟨g + 1, 0, none⟩ = some (.int .i64 oo) ∧ v2.cell? ⟨g + 1, 1, none⟩ = some (.slice Ao no co) := (H7.out _ D2.out).1
  clear hS b5 SV D1
  have hS := hS2
  clear hS2
  go_wp2_with fail; refine hK.out _ _ hS ?_; clear hK; (try simp only [Act.put, List.setIfInBounds_toArray, List.set_cons_zero, List.set_cons_succ])
  refine TW.eff (by rfl) (fun K hK => ?_); go_simp
  have SV := rcheck_v own A n c B rs v2 (H0.out _ (H7.out _ D2.out).2.2.2.2).2.2.2.1 (HBZ.out _ (H7.out _ D2.out).2.2.2.2) hn
  rw [Hsck.out] at SV
  refine SV.mono ?_
  rintro e v3 ⟨rfl, b5⟩
  have D3 := Lib.hid (D2.out.trans (b5.mono (H7.out _ D2.out).2.2.2.1))
  have hS2 : v3.cell? ⟨gx, 0, none⟩ = some (.int .i64 ox) ∧ v3.cell? ⟨gx, 1, none⟩ = some (.slice Ax nx cx) ∧ v3.cell? ⟨g, 0, none⟩ = some (.int .i64 own) ∧ v3.cell? ⟨g, 1, none⟩ = some (.slice A n c) ∧ v3.cell? ⟨gy, 0, none⟩ = some (.int .i64 ox) ∧ v3.cell? ⟨gy, 1, none⟩ = some (.slice Ay ny cy) ∧ v3.cell? ⟨g + 1, 0, none⟩ = some (.int .i64 oo) ∧ v3.cell? ⟨g + 1, 1, none⟩ = some (.slice Ao no co) := (H7.out _ D3.out).1
  clear hS b5 SV D2
  have hS := hS2
  clear hS2
  go_wp2_with fail; refine hK.out _ _ hS ?_; clear hK; (try simp only [Act.put, List.setIfInBounds_toArray, List.set_cons_zero, List.set_cons_succ])
  iterate 5 ((first | (refine TW.val2 (v := ?_) ?_ ?_ ?_ ?_ ?_; rotate_left; (focus rfl); (focus (intro W hSW; (try dsimp only at hSW); (try (obtain ⟨hS1, hSW⟩ := hSW)); (try (obtain ⟨hS2, hSW⟩ := hSW)); (try (obtain ⟨hS3, hSW⟩ := hSW)); (try (obtain ⟨hS4, hSW⟩ := hSW)); (try (obtain ⟨hS5, hSW⟩ := hSW)); (try (obtain ⟨hS6, hSW⟩ := hSW)); (try (obtain ⟨hS7, hSW⟩ := hSW)); (try (obtain ⟨hS8, hSW⟩ := hSW)); go_simp; (try with_reducible rfl); done)); (focus exact fun _ _ _ h => h); (focus assumption)) | (refine TW.skip (e := false) ?_ ?_ ?_ ?_; (focus rfl); (focus exact fun _ _ _ h => h); (focus assumption))); simp only [Act.put, List.setIfInBounds_toArray, List.set_cons_zero, List.set_cons_succ])
  refine TW.eff (by rfl) (fun K hK => ?_); go_simp
  have SV := folder_v f v3 hf
  rw [Hsfo.out] at SV
  refine SV.mono ?_
  rintro e v4 ⟨rfl, b5⟩
  have D4 := Lib.hid (D3.out.trans (b5.mono (H7.out _ D3.out).2.2.2.1))
  have hS2 : v4.cell? ⟨gx, 0, none⟩ = some (.int .i64 ox) ∧ v4.cell? ⟨gx, 1, none⟩ = some (.slice Ax nx cx) ∧ v4.cell? ⟨g, 0, none⟩ = some (.int .i64 own) ∧ v4.cell? ⟨g, 1, none⟩ = some (.slice A n c) ∧ v4.cell? ⟨gy, 0, none⟩ = some (.int .i64 ox) ∧ v4.cell? ⟨gy, 1, none⟩ = some (.slice Ay ny cy) ∧ v4.cell? ⟨g + 1, 0, none⟩ = some (.int .i64 oo) ∧ v4.cell? ⟨g + 1, 1, none⟩ = some (.slice Ao no co) := (H7.out _ D4.out).1
  clear hS b5 SV D3
  have hS := hS2
  clear hS2
  go_wp2_with fail; refine hK.out _ _ hS ?_; clear hK; (try simp only [Act.put, List.setIfInBounds_toArray, List.set_cons_zero, List.set_cons_succ])
  refine TW.eff (by rfl) (fun K hK => ?_); go_simp
  have SV := rfolder_b f v4 hf
  rw [Hsfo.out] at SV
  refine SV.mono ?_
  rintro e v5 ⟨rfl, b5⟩
  have D5 := Lib.hid (D4.out.trans (b5.mono (H7.out _ D4.out).2.2.2.1))
  have hS2 : v5.cell? ⟨gx, 0, none⟩ = some (.int .i64 ox) ∧ v5.cell? ⟨gx, 1, none⟩ = some (.slice Ax nx cx) ∧ v5.cell? ⟨g, 0, none⟩ = some (.int .i64 own) ∧ v5.cell? ⟨g, 1, none⟩ = some (.slice A n c) ∧ v5.cell? ⟨gy, 0, none⟩ = some (.int .i64 ox) ∧ v5.cell? ⟨gy, 1, none⟩ = some (.slice Ay ny cy) ∧ v5.cell? ⟨g + 1, 0, none⟩ = some (.int .i64 oo) ∧ v5.cell? ⟨g + 1, 1, none⟩ = some (.slice Ao no co) := (H7.out _ D5.out).1
  clear hS b5 SV D4
  have hS := hS2
  clear hS2
  go_wp2_with fail; refine hK.out _ _ hS ?_; clear hK; (try simp only [Act.put, List.setIfInBounds_toArray, List.set_cons_zero, List.set_cons_succ])
  iterate 7 ((first | (refine TW.val2 (v := ?_) ?_ ?_ ?_ ?_ ?_; rotate_left; (focus rfl); (focus (intro W hSW; (try dsimp only at hSW); (try (obtain ⟨hS1, hSW⟩ := hSW)); (try (obtain ⟨hS2, hSW⟩ := hSW)); (try (obtain ⟨hS3, hSW⟩ := hSW)); (try (obtain ⟨hS4, hSW⟩ := hSW)); (try (obtain ⟨hS5, hSW⟩ := hSW)); (try (obtain ⟨hS6, hSW⟩ := hSW)); (try (obtain ⟨hS7, hSW⟩ := hSW)); (try (obtain ⟨hS8, hSW⟩ := hSW)); go_simp; (try with_reducible rfl); done)); (focus exact fun _ _ _ h => h); (focus assumption)) | (refine TW.skip (e := false) ?_ ?_ ?_ ?_; (focus rfl); (focus exact fun _ _ _ h => h); (focus assumption))); simp only [Act.put, List.setIfInBounds_toArray, List.set_cons_zero, List.set_cons_succ])
  refine TW.eff (by rfl) (fun K hK => ?_); go_simp
  have SV := has_v own A n c B rs f v5 (H0.out _ (H7.out _ D5.out).2.2.2.2).2.2.2.1 (HBZ.out _ (H7.out _ D5.out).2.2.2.2) hn
  rw [Hshs.out] at SV
  refine SV.mono ?_
  rintro e v6 ⟨rfl, b5⟩
  have D6 := Lib.hid (D5.out.trans (b5.mono (H7.out _ D5.out).2.2.2.1))
  have hS2 : v6.cell? ⟨gx, 0, none⟩ = some (.int .i64 ox) ∧ v6.cell? ⟨gx, 1, none⟩ = some (.slice Ax nx cx) ∧ v6.cell? ⟨g, 0, none⟩ = some (.int .i64 own) ∧ v6.cell? ⟨g, 1, none⟩ = some (.slice A n c) ∧ v6.cell? ⟨gy, 0, none⟩ = some (.int .i64 ox) ∧ v6.cell? ⟨gy, 1, none⟩ = some (.slice Ay ny cy) ∧ v6.cell? ⟨g + 1, 0, none⟩ = some (.int .i64 oo) ∧ v6.cell? ⟨g + 1, 1, none⟩ = some (.slice Ao no co) := (H7.out _ D6.out).1
  clear hS b5 SV D5
  have hS := hS2
  clear hS2
  go_wp2_with fail; refine hK.out _ _ hS ?_; clear hK; (try simp only [Act.put, List.setIfInBounds_toArray, List.set_cons_zero, List.set_cons_succ])
  refine TW.eff (by rfl) (fun K hK => ?_); go_simp
  have SV := rhas_v own A n c B rs f v6 (H0.out _ (H7.out _ D6.out).2.2.2.2).2.2.2.1 (HBZ.out _ (H7.out _ D6.out).2.2.2.2) hn
  rw [Hshs.out] at SV
  refine SV.mono ?_
  rintro e v7 ⟨rfl, b5⟩
  have D7 := Lib.hid (D6.out.trans (b5.mono (H7.out _ D6.out).2.2.2.1))
  have hS2 : v7.cell? ⟨gx, 0, none⟩ = some (.int .i64 ox) ∧ v7.cell? ⟨gx, 1, none⟩ = some (.slice Ax nx cx) ∧ v7.cell? ⟨g, 0, none⟩ = some (.int .i64 own) ∧ v7.cell? ⟨g, 1, none⟩ = some (.slice A n c) ∧ v7.cell? ⟨gy, 0, none⟩ = some (.int .i64 ox) ∧ v7.cell? ⟨gy, 1, none⟩ = some (.slice Ay ny cy) ∧ v7.cell? ⟨g + 1, 0, none⟩ = some (.int .i64 oo) ∧ v7.cell? ⟨g + 1, 1, none⟩ = some (.slice Ao no co) := (H7.out _ D7.out).1
  clear hS b5 SV D6
  have hS := hS2
  clear hS2
  go_wp2_with fail; refine hK.out _ _ hS ?_; clear hK; (try simp only [Act.put, List.setIfInBounds_toArray, List.set_cons_zero, List.set_cons_succ])
  iterate 9 ((first | (refine TW.val2 (v := ?_) ?_ ?_ ?_ ?_ ?_; rotate_left; (focus rfl); (focus (intro W hSW; (try dsimp only at hSW); (try (obtain ⟨hS1, hSW⟩ := hSW)); (try (obtain ⟨hS2, hSW⟩ := hSW)); (try (obtain ⟨hS3, hSW⟩ := hSW)); (try (obtain ⟨hS4, hSW⟩ := hSW)); (try (obtain ⟨hS5, hSW⟩ := hSW)); (try (obtain ⟨hS6, hSW⟩ := hSW)); (try (obtain ⟨hS7, hSW⟩ := hSW)); (try (obtain ⟨hS8, hSW⟩ := hSW)); go_simp; (try with_reducible rfl); done)); (focus exact fun _ _ _ h => h); (focus assumption)) | (refine TW.skip (e := false) ?_ ?_ ?_ ?_; (focus rfl); (focus exact fun _ _ _ h => h); (focus assumption))); simp only [Act.put, List.setIfInBounds_toArray, List.set_cons_zero, List.set_cons_succ])
  refine TW.eff (by rfl) (fun K hK => ?_); go_simp
  have SV := shares_v own A n c B rs f d v7 (H0.out _ (H7.out _ D7.out).2.2.2.2).2.2.2.1 (HBZ.out _ (H7.out _ D7.out).2.2.2.2) hn
  rw [Hssh.out] at SV
  refine SV.mono ?_
  rintro e v8 ⟨rfl, b5⟩
  have D8 := Lib.hid (D7.out.trans (b5.mono (H7.out _ D7.out).2.2.2.1))
  have hS2 : v8.cell? ⟨gx, 0, none⟩ = some (.int .i64 ox) ∧ v8.cell? ⟨gx, 1, none⟩ = some (.slice Ax nx cx) ∧ v8.cell? ⟨g, 0, none⟩ = some (.int .i64 own) ∧ v8.cell? ⟨g, 1, none⟩ = some (.slice A n c) ∧ v8.cell? ⟨gy, 0, none⟩ = some (.int .i64 ox) ∧ v8.cell? ⟨gy, 1, none⟩ = some (.slice Ay ny cy) ∧ v8.cell? ⟨g + 1, 0, none⟩ = some (.int .i64 oo) ∧ v8.cell? ⟨g + 1, 1, none⟩ = some (.slice Ao no co) := (H7.out _ D8.out).1
  clear hS b5 SV D7
  have hS := hS2
  clear hS2
  go_wp2_with fail; refine hK.out _ _ hS ?_; clear hK; (try simp only [Act.put, List.setIfInBounds_toArray, List.set_cons_zero, List.set_cons_succ])
  refine TW.eff (by rfl) (fun K hK => ?_); go_simp
  have SV := rshares_v own A n c B rs f d v8 (H0.out _ (H7.out _ D8.out).2.2.2.2).2.2.2.1 (HBZ.out _ (H7.out _ D8.out).2.2.2.2) hn
  rw [Hssh.out] at SV
  refine SV.mono ?_
  rintro e v9 ⟨rfl, b5⟩
  have D9 := Lib.hid (D8.out.trans (b5.mono (H7.out _ D8.out).2.2.2.1))
  have hS2 : v9.cell? ⟨gx, 0, none⟩ = some (.int .i64 ox) ∧ v9.cell? ⟨gx, 1, none⟩ = some (.slice Ax nx cx) ∧ v9.cell? ⟨g, 0, none⟩ = some (.int .i64 own) ∧ v9.cell? ⟨g, 1, none⟩ = some (.slice A n c) ∧ v9.cell? ⟨gy, 0, none⟩ = some (.int .i64 ox) ∧ v9.cell? ⟨gy, 1, none⟩ = some (.slice Ay ny cy) ∧ v9.cell? ⟨g + 1, 0, none⟩ = some (.int .i64 oo) ∧ v9.cell? ⟨g + 1, 1, none⟩ = some (.slice Ao no co) := (H7.out _ D9.out).1
  clear hS b5 SV D8
  have hS := hS2
  clear hS2
  go_wp2_with fail; refine hK.out _ _ hS ?_; clear hK; (try simp only [Act.put, List.setIfInBounds_toArray, List.set_cons_zero, List.set_cons_succ])
  iterate 7 ((first | (refine TW.val2 (v := ?_) ?_ ?_ ?_ ?_ ?_; rotate_left; (focus rfl); (focus (intro W hSW; (try dsimp only at hSW); (try (obtain ⟨hS1, hSW⟩ := hSW)); (try (obtain ⟨hS2, hSW⟩ := hSW)); (try (obtain ⟨hS3, hSW⟩ := hSW)); (try (obtain ⟨hS4, hSW⟩ := hSW)); (try (obtain ⟨hS5, hSW⟩ := hSW)); (try (obtain ⟨hS6, hSW⟩ := hSW)); (try (obtain ⟨hS7, hSW⟩ := hSW)); (try (obtain ⟨hS8, hSW⟩ := hSW)); go_simp; (try with_reducible rfl); done)); (focus exact fun _ _ _ h => h); (focus assumption)) | (refine TW.skip (e := false) ?_ ?_ ?_ ?_; (focus rfl); (focus exact fun _ _ _ h => h); (focus assumption))); simp only [Act.put, List.setIfInBounds_toArray, List.set_cons_zero, List.set_cons_succ])
  refine TW.eff (by rfl) (fun K hK => ?_); go_simp
  have SV := with_v own A n c B rs d v9 (H0.out _ (H7.out _ D9.out).2.2.2.2).2.2.2.1 (HBZ.out _ (H7.out _ D9.out).2.2.2.2) hn
  refine SV.mono ?_
  rintro e v10 ⟨A1, n1, c1, rfl, hw1, _, hn1, b5⟩
  have D10 := Lib.hid (D9.out.trans (b5.mono (H7.out _ D9.out).2.2.2.1))
  have WS := Lib.hid hw1
  clear hw1
  have hS2 : v10.cell? ⟨gx, 0, none⟩ = some (.int .i64 ox) ∧ v10.cell? ⟨gx, 1, none⟩ = some (.slice Ax nx cx) ∧ v10.cell? ⟨g, 0, none⟩ = some (.int .i64 own) ∧ v10.cell? ⟨g, 1, none⟩ = some (.slice A n c) ∧ v10.cell? ⟨gy, 0, none⟩ = some (.int .i64 ox) ∧ v10.cell? ⟨gy, 1, none⟩ = some (.slice Ay ny cy) ∧ v10.cell? ⟨g + 1, 0, none⟩ = some (.int .i64 oo) ∧ v10.cell? ⟨g + 1, 1, none⟩ = some (.slice Ao no co) := (H7.out _ D10.out).1
  clear hS b5 SV D9
  have hS := hS2
  clear hS2
  go_wp2_with fail; refine hK.out _ _ hS ?_; clear hK; (try simp only [Act.put, List.setIfInBounds_toArray, List.set_cons_zero, List.set_cons_succ])
  refine TW.eff (by rfl) (fun K hK => ?_); go_simp
  have SV := rwith_v own A n c B rs d v10 (H0.out _ (H7.out _ D10.out).2.2.2.2).2.2.2.1 (HBZ.out _ (H7.out _ D10.out).2.2.2.2) (by omega)
  refine SV.mono ?_
  rintro e v11 ⟨A2, n2, c2, rfl, hw2, _, hn2, b5⟩
  have D11 := Lib.hid (D10.out.trans (b5.mono (H7.out _ D10.out).2.2.2.1))
  have WS2 := Lib.hid (Reads.more (Reads.below WS.out b5) b5.size)
  have WT := Lib.hid hw2
  clear hw2 WS
  have hS2 : v11.cell? ⟨gx, 0, none⟩ = some (.int .i64 ox) ∧ v11.cell? ⟨gx, 1, none⟩ = some (.slice Ax nx cx) ∧ v11.cell? ⟨g, 0, none⟩ = some (.int .i64 own) ∧ v11.cell? ⟨g, 1, none⟩ = some (.slice A n c) ∧ v11.cell? ⟨gy, 0, none⟩ = some (.int .i64 ox) ∧ v11.cell? ⟨gy, 1, none⟩ = some (.slice Ay ny cy) ∧ v11.cell? ⟨g + 1, 0, none⟩ = some (.int .i64 oo) ∧ v11.cell? ⟨g + 1, 1, none⟩ = some (.slice Ao no co) := (H7.out _ D11.out).1
  clear hS b5 SV D10
  have hS := hS2
  clear hS2
  go_wp2_with fail; refine hK.out _ _ hS ?_; clear hK; (try simp only [Act.put, List.setIfInBounds_toArray, List.set_cons_zero, List.set_cons_succ])
  refine TW.eff (by rfl) (fun K hK => ?_); go_simp
  have SV := texts_v A1 A2 n1 c1 n2 c2 v11.heap.size _ _ v11 WS2.out WT.out (by omega) (by omega)
  rw [show decide (withP (own, rs.map Rw.p) d = withP (own, rs.map Rw.p) d) = true from decide_eq_true rfl] at SV
  refine SV.mono ?_
  rintro e v12 ⟨rfl, b5⟩
  have D12 := Lib.hid (D11.out.trans (b5.mono (H7.out _ D11.out).2.2.2.1))
  clear WS2 WT
  have hS2 : v12.cell? ⟨gx, 0, none⟩ = some (.int .i64 ox) ∧ v12.cell? ⟨gx, 1, none⟩ = some (.slice Ax nx cx) ∧ v12.cell? ⟨g, 0, none⟩ = some (.int .i64 own) ∧ v12.cell? ⟨g, 1, none⟩ = some (.slice A n c) ∧ v12.cell? ⟨gy, 0, none⟩ = some (.int .i64 ox) ∧ v12.cell? ⟨gy, 1, none⟩ = some (.slice Ay ny cy) ∧ v12.cell? ⟨g + 1, 0, none⟩ = some (.int .i64 oo) ∧ v12.cell? ⟨g + 1, 1, none⟩ = some (.slice Ao no co) := (H7.out _ D12.out).1
  clear hS b5 SV D11
  have hS := hS2
  clear hS2
  go_wp2_with fail; refine hK.out _ _ hS ?_; clear hK; (try simp only [Act.put, List.setIfInBounds_toArray, List.set_cons_zero, List.set_cons_succ])
  iterate 8 ((first | (refine TW.val2 (v := ?_) ?_ ?_ ?_ ?_ ?_; rotate_left; (focus rfl); (focus (intro W hSW; (try dsimp only at hSW); (try (obtain ⟨hS1, hSW⟩ := hSW)); (try (obtain ⟨hS2, hSW⟩ := hSW)); (try (obtain ⟨hS3, hSW⟩ := hSW)); (try (obtain ⟨hS4, hSW⟩ := hSW)); (try (obtain ⟨hS5, hSW⟩ := hSW)); (try (obtain ⟨hS6, hSW⟩ := hSW)); (try (obtain ⟨hS7, hSW⟩ := hSW)); (try (obtain ⟨hS8, hSW⟩ := hSW)); go_simp; (try with_reducible rfl); done)); (focus exact fun _ _ _ h => h); (focus assumption)) | (refine TW.skip (e := false) ?_ ?_ ?_ ?_; (focus rfl); (focus exact fun _ _ _ h => h); (focus assumption))); simp only [Act.put, List.setIfInBounds_toArray, List.set_cons_zero, List.set_cons_succ])
  refine TW.eff (by rfl) (fun K hK => ?_); go_simp
  have SV := both_v own oo A Ao n c no co B rs ro f v12 (H0.out _ (H7.out _ D12.out).2.2.2.2).2.2.2.1 (H0.out _ (H7.out _ D12.out).2.2.2.2).2.2.2.2.1 (HBZ.out _ (H7.out _ D12.out).2.2.2.2) hn hno
  rw [Hsbo.out] at SV
  refine SV.mono ?_
  rintro e v13 ⟨rfl, b5⟩
  have D13 := Lib.hid (D12.out.trans (b5.mono (H7.out _ D12.out).2.2.2.1))
  have hS2 : v13.cell? ⟨gx, 0, none⟩ = some (.int .i64 ox) ∧ v13.cell? ⟨gx, 1, none⟩ = some (.slice Ax nx cx) ∧ v13.cell? ⟨g, 0, none⟩ = some (.int .i64 own) ∧ v13.cell? ⟨g, 1, none⟩ = some (.slice A n c) ∧ v13.cell? ⟨gy, 0, none⟩ = some (.int .i64 ox) ∧ v13.cell? ⟨gy, 1, none⟩ = some (.slice Ay ny cy) ∧ v13.cell? ⟨g + 1, 0, none⟩ = some (.int .i64 oo) ∧ v13.cell? ⟨g + 1, 1, none⟩ = some (.slice Ao no co) := (H7.out _ D13.out).1
  clear hS b5 SV D12
  have hS := hS2
  clear hS2
  go_wp2_with fail; refine hK.out _ _ hS ?_; clear hK; (try simp only [Act.put, List.setIfInBounds_toArray, List.set_cons_zero, List.set_cons_succ])
  refine TW.eff (by rfl) (fun K hK => ?_); go_simp
  have SV := rboth_v own oo A Ao n c no co B rs ro f v13 (H0.out _ (H7.out _ D13.out).2.2.2.2).2.2.2.1 (H0.out _ (H7.out _ D13.out).2.2.2.2).2.2.2.2.1 (HBZ.out _ (H7.out _ D13.out).2.2.2.2) hn hno
  rw [Hsbo.out] at SV
  refine SV.mono ?_
  rintro e v14 ⟨rfl, b5⟩
  have D14 := Lib.hid (D13.out.trans (b5.mono (H7.out _ D13.out).2.2.2.1))
  have hS2 : v14.cell? ⟨gx, 0, none⟩ = some (.int .i64 ox) ∧ v14.cell? ⟨gx, 1, none⟩ = some (.slice Ax nx cx) ∧ v14.cell? ⟨g, 0, none⟩ = some (.int .i64 own) ∧ v14.cell? ⟨g, 1, none⟩ = some (.slice A n c) ∧ v14.cell? ⟨gy, 0, none⟩ = some (.int .i64 ox) ∧ v14.cell? ⟨gy, 1, none⟩ = some (.slice Ay ny cy) ∧ v14.cell? ⟨g + 1, 0, none⟩ = some (.int .i64 oo) ∧ v14.cell? ⟨g + 1, 1, none⟩ = some (.slice Ao no co) := (H7.out _ D14.out).1
  clear hS b5 SV D13
  have hS := hS2
  clear hS2
  go_wp2_with fail; refine hK.out _ _ hS ?_; clear hK; (try simp only [Act.put, List.setIfInBounds_toArray, List.set_cons_zero, List.set_cons_succ])
  iterate 7 ((first | (refine TW.val2 (v := ?_) ?_ ?_ ?_ ?_ ?_; rotate_left; (focus rfl); (focus (intro W hSW; (try dsimp only at hSW); (try (obtain ⟨hS1, hSW⟩ := hSW)); (try (obtain ⟨hS2, hSW⟩ := hSW)); (try (obtain ⟨hS3, hSW⟩ := hSW)); (try (obtain ⟨hS4, hSW⟩ := hSW)); (try (obtain ⟨hS5, hSW⟩ := hSW)); (try (obtain ⟨hS6, hSW⟩ := hSW)); (try (obtain ⟨hS7, hSW⟩ := hSW)); (try (obtain ⟨hS8, hSW⟩ := hSW)); go_simp; (try with_reducible rfl); done)); (focus exact fun _ _ _ h => h); (focus assumption)) | (refine TW.skip (e := false) ?_ ?_ ?_ ?_; (focus rfl); (focus exact fun _ _ _ h => h); (focus assumption))); simp only [Act.put, List.setIfInBounds_toArray, List.set_cons_zero, List.set_cons_succ])
  refine TW.eff (by rfl) (fun K hK => ?_); go_simp
  have SV := same_v own oo A Ao n c no co B rs ro v14 (H0.out _ (H7.out _ D14.out).2.2.2.2).2.2.2.1 (H0.out _ (H7.out _ D14.out).2.2.2.2).2.2.2.2.1 (HBZ.out _ (H7.out _ D14.out).2.2.2.2) hn hno
  rw [Hssm.out] at SV
  refine SV.mono ?_
  rintro e v15 ⟨rfl, b5⟩
  have D15 := Lib.hid (D14.out.trans (b5.mono (H7.out _ D14.out).2.2.2.1))
  have hS2 : v15.cell? ⟨gx, 0, none⟩ = some (.int .i64 ox) ∧ v15.cell? ⟨gx, 1, none⟩ = some (.slice Ax nx cx) ∧ v15.cell? ⟨g, 0, none⟩ = some (.int .i64 own) ∧ v15.cell? ⟨g, 1, none⟩ = some (.slice A n c) ∧ v15.cell? ⟨gy, 0, none⟩ = some (.int .i64 ox) ∧ v15.cell? ⟨gy, 1, none⟩ = some (.slice Ay ny cy) ∧ v15.cell? ⟨g + 1, 0, none⟩ = some (.int .i64 oo) ∧ v15.cell? ⟨g + 1, 1, none⟩ = some (.slice Ao no co) := (H7.out _ D15.out).1
  clear hS b5 SV D14
  have hS := hS2
  clear hS2
  go_wp2_with fail; refine hK.out _ _ hS ?_; clear hK; (try simp only [Act.put, List.setIfInBounds_toArray, List.set_cons_zero, List.set_cons_succ])
  refine TW.eff (by rfl) (fun K hK => ?_); go_simp
  have SV := rsame_v own oo A Ao n c no co B rs ro v15 (H0.out _ (H7.out _ D15.out).2.2.2.2).2.2.2.1 (H0.out _ (H7.out _ D15.out).2.2.2.2).2.2.2.2.1 (HBZ.out _ (H7.out _ D15.out).2.2.2.2) hn hno
  rw [Hssm.out] at SV
  refine SV.mono ?_
  rintro e v16 ⟨rfl, b5⟩
  have D16 := Lib.hid (D15.out.trans (b5.mono (H7.out _ D15.out).2.2.2.1))
  have hS2 : v16.cell? ⟨gx, 0, none⟩ = some (.int .i64 ox) ∧ v16.cell? ⟨gx, 1, none⟩ = some (.slice Ax nx cx) ∧ v16.cell? ⟨g, 0, none⟩ = some (.int .i64 own) ∧ v16.cell? ⟨g, 1, none⟩ = some (.slice A n c) ∧ v16.cell? ⟨gy, 0, none⟩ = some (.int .i64 ox) ∧ v16.cell? ⟨gy, 1, none⟩ = some (.slice Ay ny cy) ∧ v16.cell? ⟨g + 1, 0, none⟩ = some (.int .i64 oo) ∧ v16.cell? ⟨g + 1, 1, none⟩ = some (.slice Ao no co) := (H7.out _ D16.out).1
  clear hS b5 SV D15
  have hS := hS2
  clear hS2
  go_wp2_with fail; refine hK.out _ _ hS ?_; clear hK; (try simp only [Act.put, List.setIfInBounds_toArray, List.set_cons_zero, List.set_cons_succ])
  iterate 7 ((first | (refine TW.val2 (v := ?_) ?_ ?_ ?_ ?_ ?_; rotate_left; (focus rfl); (focus (intro W hSW; (try dsimp only at hSW); (try (obtain ⟨hS1, hSW⟩ := hSW)); (try (obtain ⟨hS2, hSW⟩ := hSW)); (try (obtain ⟨hS3, hSW⟩ := hSW)); (try (obtain ⟨hS4, hSW⟩ := hSW)); (try (obtain ⟨hS5, hSW⟩ := hSW)); (try (obtain ⟨hS6, hSW⟩ := hSW)); (try (obtain ⟨hS7, hSW⟩ := hSW)); (try (obtain ⟨hS8, hSW⟩ := hSW)); go_simp; (try with_reducible rfl); done)); (focus exact fun _ _ _ h => h); (focus assumption)) | (refine TW.skip (e := false) ?_ ?_ ?_ ?_; (focus rfl); (focus exact fun _ _ _ h => h); (focus assumption))); simp only [Act.put, List.setIfInBounds_toArray, List.set_cons_zero, List.set_cons_succ])
  refine TW.eff (by rfl) (fun K hK => ?_); go_simp
  have SV := same_v own own A A n c n c B rs rs v16 (H0.out _ (H7.out _ D16.out).2.2.2.2).2.2.2.1 (H0.out _ (H7.out _ D16.out).2.2.2.2).2.2.2.1 (HBZ.out _ (H7.out _ D16.out).2.2.2.2) hn hn
  rw [Hsss.out] at SV
  refine SV.mono ?_
  rintro e v17 ⟨rfl, b5⟩
  have D17 := Lib.hid (D16.out.trans (b5.mono (H7.out _ D16.out).2.2.2.1))
  have hS2 : v17.cell? ⟨gx, 0, none⟩ = some (.int .i64 ox) ∧ v17.cell? ⟨gx, 1, none⟩ = some (.slice Ax nx cx) ∧ v17.cell? ⟨g, 0, none⟩ = some (.int .i64 own) ∧ v17.cell? ⟨g, 1, none⟩ = some (.slice A n c) ∧ v17.cell? ⟨gy, 0, none⟩ = some (.int .i64 ox) ∧ v17.cell? ⟨gy, 1, none⟩ = some (.slice Ay ny cy) ∧ v17.cell? ⟨g + 1, 0, none⟩ = some (.int .i64 oo) ∧ v17.cell? ⟨g + 1, 1, none⟩ = some (.slice Ao no co) := (H7.out _ D17.out).1
  clear hS b5 SV D16
  have hS := hS2
  clear hS2
  go_wp2_with fail; refine hK.out _ _ hS ?_; clear hK; (try simp only [Act.put, List.setIfInBounds_toArray, List.set_cons_zero, List.set_cons_succ])
  refine TW.eff (by rfl) (fun K hK => ?_); go_simp
  have SV := rsame_v own own A A n c n c B rs rs v17 (H0.out _ (H7.out _ D17.out).2.2.2.2).2.2.2.1 (H0.out _ (H7.out _ D17.out).2.2.2.2).2.2.2.1 (HBZ.out _ (H7.out _ D17.out).2.2.2.2) hn hn
  rw [Hsss.out] at SV
  refine SV.mono ?_
  rintro e v18 ⟨rfl, b5⟩
  have D18 := Lib.hid (D17.out.trans (b5.mono (H7.out _ D17.out).2.2.2.1))
  have hS2 : v18.cell? ⟨gx, 0, none⟩ = some (.int .i64 ox) ∧ v18.cell? ⟨gx, 1, none⟩ = some (.slice Ax nx cx) ∧ v18.cell? ⟨g, 0, none⟩ = some (.int .i64 own) ∧ v18.cell? ⟨g, 1, none⟩ = some (.slice A n c) ∧ v18.cell? ⟨gy, 0, none⟩ = some (.int .i64 ox) ∧ v18.cell? ⟨gy, 1, none⟩ = some (.slice Ay ny cy) ∧ v18.cell? ⟨g + 1, 0, none⟩ = some (.int .i64 oo) ∧ v18.cell? ⟨g + 1, 1, none⟩ = some (.slice Ao no co) := (H7.out _ D18.out).1
  clear hS b5 SV D17
  have hS := hS2
  clear hS2
  go_wp2_with fail; refine hK.out _ _ hS ?_; clear hK; (try simp only [Act.put, List.setIfInBounds_toArray, List.set_cons_zero, List.set_cons_succ])
  iterate 3 ((first | (refine TW.val2 (v := ?_) ?_ ?_ ?_ ?_ ?_; rotate_left; (focus rfl); (focus (intro W hSW; (try dsimp only at hSW); (try (obtain ⟨hS1, hSW⟩ := hSW)); (try (obtain ⟨hS2, hSW⟩ := hSW)); (try (obtain ⟨hS3, hSW⟩ := hSW)); (try (obtain ⟨hS4, hSW⟩ := hSW)); (try (obtain ⟨hS5, hSW⟩ := hSW)); (try (obtain ⟨hS6, hSW⟩ := hSW)); (try (obtain ⟨hS7, hSW⟩ := hSW)); (try (obtain ⟨hS8, hSW⟩ := hSW)); go_simp; (try with_reducible rfl); done)); (focus exact fun _ _ _ h => h); (focus assumption)) | (refine TW.skip (e := false) ?_ ?_ ?_ ?_; (focus rfl); (focus exact fun _ _ _ h => h); (focus assumption))); simp only [Act.put, List.setIfInBounds_toArray, List.set_cons_zero, List.set_cons_succ])
  refine TW.done ?_
  clear hS
  go_wp2_with fail
  go_ret
  exact ⟨rfl, HG.out ▸ (H0.out _ (H7.out _ D18.out).2.2.2.2).2.2.2.2.2.2⟩
end Go.Proofs.Ytikegnnlmfidfaa
