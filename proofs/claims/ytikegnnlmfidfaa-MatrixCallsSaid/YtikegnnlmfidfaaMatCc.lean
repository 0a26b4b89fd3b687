/-
  Matrices: the reference's Apply.
-/
import Derived.Test.YtikegnnlmfidfaaMatCb
import Derived.Test.YtikegnnlmfidfaaMatLd
import Derived.Test.YtikegnnlmfidfaaMatF
import Derived.Test.YtikegnnlmfidfaaMatC
import Derived.ArgAppend
namespace Go.Proofs.Ytikegnnlmfidfaa
open Go.RowKit
theorem boxes3c (w : World) (t t1 t2 : TypeId) (u v x : List Value) : VArr t (((w.alloc (.cells u.toArray t)).alloc (.cells v.toArray t1)).alloc (.cells x.toArray t2)) w.heap.size u ∧ VArr t1 (((w.alloc (.cells u.toArray t)).alloc (.cells v.toArray t1)).alloc (.cells x.toArray t2)) (w.heap.size + 1) v ∧
    VArr t2 (((w.alloc (.cells u.toArray t)).alloc (.cells v.toArray t1)).alloc (.cells x.toArray t2)) (w.heap.size + 2) x ∧ Below w.heap.size w (((w.alloc (.cells u.toArray t)).alloc (.cells v.toArray t1)).alloc (.cells x.toArray t2)) ∧ (((w.alloc (.cells u.toArray t)).alloc (.cells v.toArray t1)).alloc (.cells x.toArray t2)).heap.size = w.heap.size + 3 := by
  have h0 : VArr t (w.alloc (.cells u.toArray t)) w.heap.size u := heap_alloc_new w _
  have h1 : VArr t1 ((w.alloc (.cells u.toArray t)).alloc (.cells v.toArray t1)) (w.heap.size + 1) v := by
    have h := heap_alloc_new (w.alloc (.cells u.toArray t)) (.cells v.toArray t1)
    simpa [VArr] using h
  have h2 : VArr t2 (((w.alloc (.cells u.toArray t)).alloc (.cells v.toArray t1)).alloc (.cells x.toArray t2)) (w.heap.size + 2) x := by
    have h := heap_alloc_new ((w.alloc (.cells u.toArray t)).alloc (.cells v.toArray t1)) (.cells x.toArray t2)
    simpa [VArr] using h
  exact ⟨(h0.alloc _).alloc _, h1.alloc _, h2, (((Below.refl w.heap.size w).alloc (Nat.le_refl _) _).alloc (by simp) _).alloc (by simp; omega) _, by simp⟩
set_option maxRecDepth 100000 in
set_option maxHeartbeats 16000000 in
theorem rapply0_v (own : Int) (A : Option Addr) (n c B : Nat) (rs : List Rw) (kind : Int) (f : ByteArray) (d : Int) (w : World) (hr : RowsR w B A n rs) (hB : B ≤ w.heap.size) (hn : n ≤ 9223372036854775807) (hfs : f.size ≤ 9223372036854775807) (hkd : kind < 1 ∨ 4 < kind) :
    Calls Try.prog 26 #[.agg #[.int .i64 own, .slice A n c], .agg #[.int .i64 kind, .string f, .int .i64 d]] w fun e w' => ∃ A' n' c' rs', e = .returned (.tuple #[.agg #[.int .i64 (applyP (own, rs.map Rw.p) (kind, f, d)).1.1, .slice A' n' c'], .int .i64 ((applyP (own, rs.map Rw.p) (kind, f, d)).2 : Int)]) ∧ RowsR w' w'.heap.size A' n' rs' ∧ rs'.map Rw.p = (applyP (own, rs.map Rw.p) (kind, f, d)).1.2 ∧ n' ≤ 9 ∧ Below w.heap.size w w' := by
  have HIM := Lib.hid (show (Try.prog.info? 27).map (·.size) = some 2 by kernel_rfl)
  have HR := Lib.hid hr
  have HLN := Lib.hid hr.len
  have X0 := Lib.hid (boxes3c w 27 41 27 [.int .i64 own, .slice A n c] [.int .i64 kind, .string f, .int .i64 d] [.int .i64 0, .slice none 0 0])
  clear hr
  go_enter Try.func26, Try.ntmps26
  go_upto_region 1 with fail
  generalize hw0 : ((w.alloc (.cells #[.int .i64 own, .slice A n c] 27)).alloc (.cells #[.int .i64 kind, .string f, .int .i64 d] 41)).alloc (.cells #[.int .i64 0, .slice none 0 0] 27) = w0 at *
  clear hw0
  generalize hg : w.heap.size = g at *
  have HG := Lib.hid hg
  clear hg
  have H0 := Lib.hid (show ∀ V, Below w0.heap.size w0 V → VArr 27 V g [.int .i64 own, .slice A n c] ∧ VArr 41 V (g + 1) [.int .i64 kind, .string f, .int .i64 d] ∧ VArr 27 V (g + 2) [.int .i64 0, .slice none 0 0] ∧ RowsR V B A n rs ∧ w0.heap.size ≤ V.heap.size ∧ Below g w V from fun V h => by
    obtain ⟨h1, h2, h3, h4, h5⟩ := X0.out
    have h6 : Below g w V := h4.trans (h.mono (by omega))
    exact ⟨h1.below h, h2.below h, h3.below h, HR.out.below (h6.mono hB), h.size, h6⟩)
  have hz0 : g + 3 ≤ w0.heap.size := Nat.le_of_eq X0.out.2.2.2.2.symm
  have T0 := Lib.hid (Below.refl w0.heap.size w0)
  clear X0
  generalize w0.heap.size = z0 at *
  have hBz : B ≤ z0 := by omega
  have c0 := (H0.out _ T0.out).1.cell (j := 0) rfl
  have c1 := (H0.out _ T0.out).1.cell (j := 1) rfl
  have CV := rcheck_v own A n c B rs w0 (H0.out _ T0.out).2.2.2.1 (Nat.le_trans hBz (H0.out _ T0.out).2.2.2.2.1) hn
  obtain ⟨ck, hck⟩ : ∃ ck, chkM (own, rs.map Rw.p) = ck := ⟨_, rfl⟩
  have HCK := Lib.hid hck
  rw [hck] at CV
  clear hck
  go_wp2_with fail
  refine CV.mono ?_
  rintro e w1 ⟨rfl, b1⟩
  have T1 := Lib.hid (T0.out.trans (b1.mono (H0.out _ T0.out).2.2.2.2.1))
  clear b1 CV c0 c1 T0
  by_cases hk0 : ck = 0
  case neg =>
    have d1 : ((ck : Int) != 0) = true := by simp; omega
    have HE := Lib.hid (show applyP (own, rs.map Rw.p) (kind, f, d) = ((0, []), ck) by rw [apply_chk (by rw [HCK.out]; exact hk0), HCK.out])
    clear hk0
    have HYF := Lib.hid (show w1.heap[g + 2]? = some (.cells #[.int .i64 0, .slice none 0 0] 27 (0, 0)) from (H0.out _ T1.out).2.2.1)
    have XS := Lib.hid (setRow_heap w1 (g + 2) _ #[.int .i64 0, .slice none 0 0] _ _ HYF.out)
    have BS := Lib.hid (below_setRow (H0.out _ T1.out).2.2.2.2.2 (Nat.le_add_right g 2) #[.int .i64 0, .slice none 0 0])
    go_wp2_with (first
      | (refine wpList_store_row rfl 27 (.tmp 4) (.tmp 17) rfl (g + 2) #[.int .i64 0, .slice none 0 0] rfl rfl 27 _ HYF.out HIM.out rfl (by simp [Value.oneCell']) ?_)
      | fail)
    first
      | exact bodyPost_ret (results_row_tmp Try.results26 _ _ (g + 2) _ #[.int .i64 0, .slice none 0 0] _ _ rfl XS.out Try.underlying27 rfl HIM.out) rfl ⟨none, 0, 0, [], by rw [HE.out]; rfl, ⟨Reads.none_, by simp⟩, by rw [HE.out]; rfl, by omega, HG.out ▸ BS.out⟩
      | exact bodyPost_ret (results_row_tmp Try.results26 _ _ (g + 2) _ #[.int .i64 0, .slice none 0 0] _ _ rfl XS.out Try.underlying27 rfl HIM.out) rfl ⟨none, 0, ⟨0, by rw [HE.out]; rfl⟩, [], ⟨Reads.none_, by simp⟩, by rw [HE.out]; rfl, by omega, HG.out ▸ BS.out⟩
      | exact bodyPost_ret (results_row_tmp Try.results26 _ _ (g + 2) _ #[.int .i64 0, .slice none 0 0] _ _ rfl XS.out Try.underlying27 rfl HIM.out) rfl ⟨none, 0, 0, by rw [HE.out]; rfl, [], ⟨Reads.none_, by simp⟩, by rw [HE.out]; rfl, by omega, HG.out ▸ BS.out⟩
  subst hk0
  have d1 : (((0 : Nat) : Int) != 0) = false := rfl
  have hle := (chk_ok HCK.out).1
  have hn8 : n ≤ 8 := by rw [List.length_map, HLN.out] at hle; exact hle
  clear hle hn
  have c0 := (H0.out _ T1.out).1.cell (j := 0) rfl
  have c1 := (H0.out _ T1.out).1.cell (j := 1) rfl
  have a0 := (H0.out _ T1.out).2.1.cell (j := 0) rfl
  have a1 := (H0.out _ T1.out).2.1.cell (j := 1) rfl
  have a2 := (H0.out _ T1.out).2.1.cell (j := 2) rfl
  have g3 : (kind == 3) = false := beq_eq_false_iff_ne.2 (by omega)
  have g4 : (kind == 4) = false := beq_eq_false_iff_ne.2 (by omega)
  rcases hkd with hk | hk
  · have HE := Lib.hid (apply_bad (m := (own, rs.map Rw.p)) (c := (kind, f, d)) HCK.out (.inl hk))
    have k1 : decide (kind < 1) = true := decide_eq_true hk
    clear hk
    have HYF := Lib.hid (show w1.heap[g + 2]? = some (.cells #[.int .i64 0, .slice none 0 0] 27 (0, 0)) from (H0.out _ T1.out).2.2.1)
    have XS := Lib.hid (setRow_heap w1 (g + 2) _ #[.int .i64 0, .slice none 0 0] _ _ HYF.out)
    have BS := Lib.hid (below_setRow (H0.out _ T1.out).2.2.2.2.2 (Nat.le_add_right g 2) #[.int .i64 0, .slice none 0 0])
    go_wp2_with (first
      | (refine wpList_store_row rfl 27 (.tmp 4) (.tmp 66) rfl (g + 2) #[.int .i64 0, .slice none 0 0] rfl rfl 27 _ HYF.out HIM.out rfl (by simp [Value.oneCell']) ?_)
      | fail)
    first
      | exact bodyPost_ret (results_row_tmp Try.results26 _ _ (g + 2) _ #[.int .i64 0, .slice none 0 0] _ _ rfl XS.out Try.underlying27 rfl HIM.out) rfl ⟨none, 0, 0, [], by rw [HE.out]; rfl, ⟨Reads.none_, by simp⟩, by rw [HE.out]; rfl, by omega, HG.out ▸ BS.out⟩
      | exact bodyPost_ret (results_row_tmp Try.results26 _ _ (g + 2) _ #[.int .i64 0, .slice none 0 0] _ _ rfl XS.out Try.underlying27 rfl HIM.out) rfl ⟨none, 0, ⟨0, by rw [HE.out]; rfl⟩, [], ⟨Reads.none_, by simp⟩, by rw [HE.out]; rfl, by omega, HG.out ▸ BS.out⟩
      | exact bodyPost_ret (results_row_tmp Try.results26 _ _ (g + 2) _ #[.int .i64 0, .slice none 0 0] _ _ rfl XS.out Try.underlying27 rfl HIM.out) rfl ⟨none, 0, 0, by rw [HE.out]; rfl, [], ⟨Reads.none_, by simp⟩, by rw [HE.out]; rfl, by omega, HG.out ▸ BS.out⟩
  · have HE := Lib.hid (apply_bad (m := (own, rs.map Rw.p)) (c := (kind, f, d)) HCK.out (.inr (.inl hk)))
    have k1 : decide (kind < 1) = false := decide_eq_false (by omega)
    have k2 : decide (4 < kind) = true := decide_eq_true hk
    clear hk
    have HYF := Lib.hid (show w1.heap[g + 2]? = some (.cells #[.int .i64 0, .slice none 0 0] 27 (0, 0)) from (H0.out _ T1.out).2.2.1)
    have XS := Lib.hid (setRow_heap w1 (g + 2) _ #[.int .i64 0, .slice none 0 0] _ _ HYF.out)
    have BS := Lib.hid (below_setRow (H0.out _ T1.out).2.2.2.2.2 (Nat.le_add_right g 2) #[.int .i64 0, .slice none 0 0])
    go_wp2_with (first
      | (refine wpList_store_row rfl 27 (.tmp 4) (.tmp 66) rfl (g + 2) #[.int .i64 0, .slice none 0 0] rfl rfl 27 _ HYF.out HIM.out rfl (by simp [Value.oneCell']) ?_)
      | fail)
    first
      | exact bodyPost_ret (results_row_tmp Try.results26 _ _ (g + 2) _ #[.int .i64 0, .slice none 0 0] _ _ rfl XS.out Try.underlying27 rfl HIM.out) rfl ⟨none, 0, 0, [], by rw [HE.out]; rfl, ⟨Reads.none_, by simp⟩, by rw [HE.out]; rfl, by omega, HG.out ▸ BS.out⟩
      | exact bodyPost_ret (results_row_tmp Try.results26 _ _ (g + 2) _ #[.int .i64 0, .slice none 0 0] _ _ rfl XS.out Try.underlying27 rfl HIM.out) rfl ⟨none, 0, ⟨0, by rw [HE.out]; rfl⟩, [], ⟨Reads.none_, by simp⟩, by rw [HE.out]; rfl, by omega, HG.out ▸ BS.out⟩
      | exact bodyPost_ret (results_row_tmp Try.results26 _ _ (g + 2) _ #[.int .i64 0, .slice none 0 0] _ _ rfl XS.out Try.underlying27 rfl HIM.out) rfl ⟨none, 0, 0, by rw [HE.out]; rfl, [], ⟨Reads.none_, by simp⟩, by rw [HE.out]; rfl, by omega, HG.out ▸ BS.out⟩
end Go.Proofs.Ytikegnnlmfidfaa
