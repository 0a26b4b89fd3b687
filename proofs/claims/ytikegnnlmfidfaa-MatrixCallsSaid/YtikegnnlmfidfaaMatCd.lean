/-
  Matrices: the reference's Apply.
-/
import Derived.Test.YtikegnnlmfidfaaMatCc
import Derived.Test.YtikegnnlmfidfaaMatLd
import Derived.Test.YtikegnnlmfidfaaMatF
import Derived.Test.YtikegnnlmfidfaaMatC
import Derived.ArgAppend
namespace Go.Proofs.Ytikegnnlmfidfaa
open Go.RowKit
set_option maxRecDepth 100000 in
set_option maxHeartbeats 16000000 in
theorem rapply3_v (own : Int) (A : Option Addr) (n c B : Nat) (rs : List Rw) (f : ByteArray) (d : Int) (w : World) (hr : RowsR w B A n rs) (hB : B ≤ w.heap.size) (hn : n ≤ 9223372036854775807) (hfs : f.size ≤ 9223372036854775807) :
    Calls Try.prog 26 #[.agg #[.int .i64 own, .slice A n c], .agg #[.int .i64 3, .string f, .int .i64 d]] w fun e w' => ∃ A' n' c' rs', e = .returned (.tuple #[.agg #[.int .i64 (applyP (own, rs.map Rw.p) (3, f, d)).1.1, .slice A' n' c'], .int .i64 ((applyP (own, rs.map Rw.p) (3, f, d)).2 : Int)]) ∧ RowsR w' w'.heap.size A' n' rs' ∧ rs'.map Rw.p = (applyP (own, rs.map Rw.p) (3, f, d)).1.2 ∧ n' ≤ 9 ∧ Below w.heap.size w w' := by
  have HIM := Lib.hid (show (Try.prog.info? 27).map (·.size) = some 2 by kernel_rfl)
  have HR := Lib.hid hr
  have HLN := Lib.hid hr.len
  have X0 := Lib.hid (boxes3c w 27 41 27 [.int .i64 own, .slice A n c] [.int .i64 3, .string f, .int .i64 d] [.int .i64 0, .slice none 0 0])
  clear hr
  go_enter Try.func26, Try.ntmps26
  go_upto_region 1 with fail
  generalize hw0 : ((w.alloc (.cells #[.int .i64 own, .slice A n c] 27)).alloc (.cells #[.int .i64 3, .string f, .int .i64 d] 41)).alloc (.cells #[.int .i64 0, .slice none 0 0] 27) = w0 at *
  clear hw0
  generalize hg : w.heap.size = g at *
  have HG := Lib.hid hg
  clear hg
  have H0 := Lib.hid (show ∀ V, Below w0.heap.size w0 V → VArr 27 V g [.int .i64 own, .slice A n c] ∧ VArr 41 V (g + 1) [.int .i64 3, .string f, .int .i64 d] ∧ VArr 27 V (g + 2) [.int .i64 0, .slice none 0 0] ∧ RowsR V B A n rs ∧ w0.heap.size ≤ V.heap.size ∧ Below g w V from fun V h => by
    obtain ⟨h1, h2, h3, h4, h5⟩ := X0.out
    have h6 : Below g w V := h4.trans (h.mono (by omega))
    exact ⟨h1.below h, h2.below h, h3.below h, HR.out.below (h6.mono hB), h.size, h6⟩)
  have hz0 : g + 3 ≤ w0.heap.size := Nat.le_of_eq X0.out.2.2.2.2.symm
  have T0 := Lib.hid (Below.refl w0.heap.size w0)
  clear X0
  generalize w0.heap.size = z0 at *
  have hBz : B ≤ z0 := by omega
  have c0 := (H0.out _ T0.out).1.cell (j := 0) rfl
  have c1 := (H0.out _ T0.out).1.cell (j := 1) rfl
  have CV := rcheck_v own A n c B rs w0 (H0.out _ T0.out).2.2.2.1 (Nat.le_trans hBz (H0.out _ T0.out).2.2.2.2.1) hn
  obtain ⟨ck, hck⟩ : ∃ ck, chkM (own, rs.map Rw.p) = ck := ⟨_, rfl⟩
  have HCK := Lib.hid hck
  rw [hck] at CV
  clear hck
  go_wp2_with fail
  refine CV.mono ?_
  rintro e w1 ⟨rfl, b1⟩
  have T1 := Lib.hid (T0.out.trans (b1.mono (H0.out _ T0.out).2.2.2.2.1))
  clear b1 CV c0 c1 T0
  by_cases hk0 : ck = 0
  case neg =>
    have d1 : ((ck : Int) != 0) = true := by simp; omega
    have HE := Lib.hid (show applyP (own, rs.map Rw.p) (3, f, d) = ((0, []), ck) by rw [apply_chk (by rw [HCK.out]; exact hk0), HCK.out])
    clear hk0
    have HYF := Lib.hid (show w1.heap[g + 2]? = some (.cells #[.int .i64 0, .slice none 0 0] 27 (0, 0)) from (H0.out _ T1.out).2.2.1)
    have XS := Lib.hid (setRow_heap w1 (g + 2) _ #[.int .i64 0, .slice none 0 0] _ _ HYF.out)
    have BS := Lib.hid (below_setRow (H0.out _ T1.out).2.2.2.2.2 (Nat.le_add_right g 2) #[.int .i64 0, .slice none 0 0])
    go_wp2_with (first
      | (refine wpList_store_row rfl 27 (.tmp 4) (.tmp 17) rfl (g + 2) #[.int .i64 0, .slice none 0 0] rfl rfl 27 _ HYF.out HIM.out rfl (by simp [Value.oneCell']) ?_)
      | fail)
    first
      | exact bodyPost_ret (results_row_tmp Try.results26 _ _ (g + 2) _ #[.int .i64 0, .slice none 0 0] _ _ rfl XS.out Try.underlying27 rfl HIM.out) rfl ⟨none, 0, 0, [], by rw [HE.out]; rfl, ⟨Reads.none_, by simp⟩, by rw [HE.out]; rfl, by omega, HG.out ▸ BS.out⟩
      | exact bodyPost_ret (results_row_tmp Try.results26 _ _ (g + 2) _ #[.int .i64 0, .slice none 0 0] _ _ rfl XS.out Try.underlying27 rfl HIM.out) rfl ⟨none, 0, ⟨0, by rw [HE.out]; rfl⟩, [], ⟨Reads.none_, by simp⟩, by rw [HE.out]; rfl, by omega, HG.out ▸ BS.out⟩
      | exact bodyPost_ret (results_row_tmp Try.results26 _ _ (g + 2) _ #[.int .i64 0, .slice none 0 0] _ _ rfl XS.out Try.underlying27 rfl HIM.out) rfl ⟨none, 0, 0, by rw [HE.out]; rfl, [], ⟨Reads.none_, by simp⟩, by rw [HE.out]; rfl, by omega, HG.out ▸ BS.out⟩
  subst hk0
  have d1 : (((0 : Nat) : Int) != 0) = false := rfl
  have hle := (chk_ok HCK.out).1
  have hn8 : n ≤ 8 := by rw [List.length_map, HLN.out] at hle; exact hle
  clear hle hn
  have c0 := (H0.out _ T1.out).1.cell (j := 0) rfl
  have c1 := (H0.out _ T1.out).1.cell (j := 1) rfl
  have a0 := (H0.out _ T1.out).2.1.cell (j := 0) rfl
  have a1 := (H0.out _ T1.out).2.1.cell (j := 1) rfl
  have a2 := (H0.out _ T1.out).2.1.cell (j := 2) rfl
  have FV := rfolder_v f w1 hfs
  go_wp2_with fail
  cases hf : folderP f with
  | false =>
    have HE := Lib.hid (apply_bad (m := (own, rs.map Rw.p)) (c := (3, f, d)) HCK.out (.inr (.inr (.inl hf))))
    rw [hf] at FV
    clear hf
    refine FV.mono ?_
    rintro e _ ⟨rfl, rfl⟩
    have c0 := (H0.out _ T1.out).1.cell (j := 0) rfl
    have c1 := (H0.out _ T1.out).1.cell (j := 1) rfl
    have a0 := (H0.out _ T1.out).2.1.cell (j := 0) rfl
    have a1 := (H0.out _ T1.out).2.1.cell (j := 1) rfl
    have a2 := (H0.out _ T1.out).2.1.cell (j := 2) rfl
    have HYF := Lib.hid (show w1.heap[g + 2]? = some (.cells #[.int .i64 0, .slice none 0 0] 27 (0, 0)) from (H0.out _ T1.out).2.2.1)
    have XS := Lib.hid (setRow_heap w1 (g + 2) _ #[.int .i64 0, .slice none 0 0] _ _ HYF.out)
    have BS := Lib.hid (below_setRow (H0.out _ T1.out).2.2.2.2.2 (Nat.le_add_right g 2) #[.int .i64 0, .slice none 0 0])
    go_wp2_with (first
      | (refine wpList_store_row rfl 27 (.tmp 4) (.tmp 66) rfl (g + 2) #[.int .i64 0, .slice none 0 0] rfl rfl 27 _ HYF.out HIM.out rfl (by simp [Value.oneCell']) ?_)
      | fail)
    first
      | exact bodyPost_ret (results_row_tmp Try.results26 _ _ (g + 2) _ #[.int .i64 0, .slice none 0 0] _ _ rfl XS.out Try.underlying27 rfl HIM.out) rfl ⟨none, 0, 0, [], by rw [HE.out]; rfl, ⟨Reads.none_, by simp⟩, by rw [HE.out]; rfl, by omega, HG.out ▸ BS.out⟩
      | exact bodyPost_ret (results_row_tmp Try.results26 _ _ (g + 2) _ #[.int .i64 0, .slice none 0 0] _ _ rfl XS.out Try.underlying27 rfl HIM.out) rfl ⟨none, 0, ⟨0, by rw [HE.out]; rfl⟩, [], ⟨Reads.none_, by simp⟩, by rw [HE.out]; rfl, by omega, HG.out ▸ BS.out⟩
      | exact bodyPost_ret (results_row_tmp Try.results26 _ _ (g + 2) _ #[.int .i64 0, .slice none 0 0] _ _ rfl XS.out Try.underlying27 rfl HIM.out) rfl ⟨none, 0, 0, by rw [HE.out]; rfl, [], ⟨Reads.none_, by simp⟩, by rw [HE.out]; rfl, by omega, HG.out ▸ BS.out⟩
  | true =>
  rw [hf] at FV
  have HF := Lib.hid hf
  clear hf
  refine FV.mono ?_
  rintro e _ ⟨rfl, rfl⟩
  clear FV
  have c0 := (H0.out _ T1.out).1.cell (j := 0) rfl
  have c1 := (H0.out _ T1.out).1.cell (j := 1) rfl
  have a0 := (H0.out _ T1.out).2.1.cell (j := 0) rfl
  have a1 := (H0.out _ T1.out).2.1.cell (j := 1) rfl
  have a2 := (H0.out _ T1.out).2.1.cell (j := 2) rfl
  have DV := rdev_v d w1
  go_wp2_with fail
  cases hdv : dev d with
  | false =>
    have HE := Lib.hid (apply_bad (m := (own, rs.map Rw.p)) (c := (3, f, d)) HCK.out (.inr (.inr (.inr (.inl ⟨by simp, .inl hdv⟩)))))
    rw [hdv] at DV
    clear hdv
    refine DV.mono ?_
    rintro e _ ⟨rfl, rfl⟩
    have c0 := (H0.out _ T1.out).1.cell (j := 0) rfl
    have c1 := (H0.out _ T1.out).1.cell (j := 1) rfl
    have a0 := (H0.out _ T1.out).2.1.cell (j := 0) rfl
    have a1 := (H0.out _ T1.out).2.1.cell (j := 1) rfl
    have a2 := (H0.out _ T1.out).2.1.cell (j := 2) rfl
    have HYF := Lib.hid (show w1.heap[g + 2]? = some (.cells #[.int .i64 0, .slice none 0 0] 27 (0, 0)) from (H0.out _ T1.out).2.2.1)
    have XS := Lib.hid (setRow_heap w1 (g + 2) _ #[.int .i64 0, .slice none 0 0] _ _ HYF.out)
    have BS := Lib.hid (below_setRow (H0.out _ T1.out).2.2.2.2.2 (Nat.le_add_right g 2) #[.int .i64 0, .slice none 0 0])
    go_wp2_with (first
      | (refine wpList_store_row rfl 27 (.tmp 4) (.tmp 66) rfl (g + 2) #[.int .i64 0, .slice none 0 0] rfl rfl 27 _ HYF.out HIM.out rfl (by simp [Value.oneCell']) ?_)
      | fail)
    first
      | exact bodyPost_ret (results_row_tmp Try.results26 _ _ (g + 2) _ #[.int .i64 0, .slice none 0 0] _ _ rfl XS.out Try.underlying27 rfl HIM.out) rfl ⟨none, 0, 0, [], by rw [HE.out]; rfl, ⟨Reads.none_, by simp⟩, by rw [HE.out]; rfl, by omega, HG.out ▸ BS.out⟩
      | exact bodyPost_ret (results_row_tmp Try.results26 _ _ (g + 2) _ #[.int .i64 0, .slice none 0 0] _ _ rfl XS.out Try.underlying27 rfl HIM.out) rfl ⟨none, 0, ⟨0, by rw [HE.out]; rfl⟩, [], ⟨Reads.none_, by simp⟩, by rw [HE.out]; rfl, by omega, HG.out ▸ BS.out⟩
      | exact bodyPost_ret (results_row_tmp Try.results26 _ _ (g + 2) _ #[.int .i64 0, .slice none 0 0] _ _ rfl XS.out Try.underlying27 rfl HIM.out) rfl ⟨none, 0, 0, by rw [HE.out]; rfl, [], ⟨Reads.none_, by simp⟩, by rw [HE.out]; rfl, by omega, HG.out ▸ BS.out⟩
  | true =>
  rw [hdv] at DV
  have HDV := Lib.hid hdv
  clear hdv
  refine DV.mono ?_
  rintro e _ ⟨rfl, rfl⟩
  clear DV
  have c0 := (H0.out _ T1.out).1.cell (j := 0) rfl
  have c1 := (H0.out _ T1.out).1.cell (j := 1) rfl
  have a0 := (H0.out _ T1.out).2.1.cell (j := 0) rfl
  have a1 := (H0.out _ T1.out).2.1.cell (j := 1) rfl
  have a2 := (H0.out _ T1.out).2.1.cell (j := 2) rfl
  by_cases ho : d = own
  case pos =>
    have d2 : (d == own) = true := beq_iff_eq.2 ho
    have HE := Lib.hid (apply_bad (m := (own, rs.map Rw.p)) (c := (3, f, d)) HCK.out (.inr (.inr (.inr (.inl ⟨by simp, .inr ho⟩)))))
    clear ho
    have HYF := Lib.hid (show w1.heap[g + 2]? = some (.cells #[.int .i64 0, .slice none 0 0] 27 (0, 0)) from (H0.out _ T1.out).2.2.1)
    have XS := Lib.hid (setRow_heap w1 (g + 2) _ #[.int .i64 0, .slice none 0 0] _ _ HYF.out)
    have BS := Lib.hid (below_setRow (H0.out _ T1.out).2.2.2.2.2 (Nat.le_add_right g 2) #[.int .i64 0, .slice none 0 0])
    go_wp2_with (first
      | (refine wpList_store_row rfl 27 (.tmp 4) (.tmp 66) rfl (g + 2) #[.int .i64 0, .slice none 0 0] rfl rfl 27 _ HYF.out HIM.out rfl (by simp [Value.oneCell']) ?_)
      | fail)
    first
      | exact bodyPost_ret (results_row_tmp Try.results26 _ _ (g + 2) _ #[.int .i64 0, .slice none 0 0] _ _ rfl XS.out Try.underlying27 rfl HIM.out) rfl ⟨none, 0, 0, [], by rw [HE.out]; rfl, ⟨Reads.none_, by simp⟩, by rw [HE.out]; rfl, by omega, HG.out ▸ BS.out⟩
      | exact bodyPost_ret (results_row_tmp Try.results26 _ _ (g + 2) _ #[.int .i64 0, .slice none 0 0] _ _ rfl XS.out Try.underlying27 rfl HIM.out) rfl ⟨none, 0, ⟨0, by rw [HE.out]; rfl⟩, [], ⟨Reads.none_, by simp⟩, by rw [HE.out]; rfl, by omega, HG.out ▸ BS.out⟩
      | exact bodyPost_ret (results_row_tmp Try.results26 _ _ (g + 2) _ #[.int .i64 0, .slice none 0 0] _ _ rfl XS.out Try.underlying27 rfl HIM.out) rfl ⟨none, 0, 0, by rw [HE.out]; rfl, [], ⟨Reads.none_, by simp⟩, by rw [HE.out]; rfl, by omega, HG.out ▸ BS.out⟩
  have d2 : (d == own) = false := beq_eq_false_iff_ne.2 ho
  have HNB := Lib.hid (show ¬ badC (own, rs.map Rw.p) (3, f, d) from by unfold badC; simp [HF.out, HDV.out, ho])
  clear ho
  have RC := rcopy_v own A n c B rs w1 (H0.out _ T1.out).2.2.2.1 (Nat.le_trans hBz (H0.out _ T1.out).2.2.2.2.1) (by omega) (fun r hr => by
    have h := (rows_all (chk_ok HCK.out).2.2).1 r.p (List.mem_map_of_mem hr)
    have h2 := with_len h.2.2 (by decide)
    have h3 := (HR.out.each r hr).i.len
    have h4 : (r.p).2.length = r.n := h3
    omega)
  go_wp2_with fail
  refine RC.mono ?_
  rintro e w3 ⟨A5, c5, rs5, rfl, o5, hp5, b3⟩
  have T3 := Lib.hid (T1.out.trans (b3.mono (H0.out _ T1.out).2.2.2.2.1))
  have O3 := Lib.hid o5
  have HP5 := Lib.hid hp5
  have hz3 := b3.size
  have hz1 := (H0.out _ T1.out).2.2.2.2.1
  clear RC b3 o5 hp5 c0 c1 a0 a1 a2 T1 d1
  generalize w1.heap.size = z1 at *
  go_upto_region 8 with fail
  have b4 := (Below.refl w3.heap.size w3).alloc (Nat.le_refl _) (.cells #[.int .i64 own, .slice A5 n c5] 27)
  have T4 := Lib.hid (T3.out.trans (b4.mono (by omega)))
  have O4 := Lib.hid (O3.out.below b4)
  have X4 := Lib.hid (show VArr 27 (w3.alloc (.cells #[.int .i64 own, .slice A5 n c5] 27)) w3.heap.size [.int .i64 own, .slice A5 n c5] from heap_alloc_new w3 _)
  have hOl := Lib.hid (fun j (hj : (Value.slice A5 n c5).ownBlock = some j) => O3.out.row.lt j hj)
  have HQS := Lib.hid (show ∀ r ∈ rs5, ∀ j, (Value.slice r.a r.n r.c).ownBlock = some j → j < w3.heap.size from fun r hr j hj => ((O3.out.each r hr).1.lt j hj).2)
  clear b4 T3 O3
  generalize w3.alloc (.cells #[.int .i64 own, .slice A5 n c5] 27) = w4 at *
  generalize w3.heap.size = g8 at *
  have c0 := (H0.out _ T4.out).1.cell (j := 0) rfl
  have c1 := (H0.out _ T4.out).1.cell (j := 1) rfl
  have a1 := (H0.out _ T4.out).2.1.cell (j := 1) rfl
  have RV := rrow_v own A n c B rs f w4 (H0.out _ T4.out).2.2.2.1 (Nat.le_trans hBz (H0.out _ T4.out).2.2.2.2.1) (by omega)
  go_wp2_with fail
  refine RV.mono ?_
  rintro e w5 ⟨z, rfl, hz, b5⟩
  have T5 := Lib.hid (T4.out.trans (b5.mono (H0.out _ T4.out).2.2.2.2.1))
  have O5 := Lib.hid (O4.out.below b5)
  have X5 := Lib.hid (X4.out.below b5)
  clear RV b5 c0 c1 a1 T4 O4 X4
  have c0 := (H0.out _ T5.out).1.cell (j := 0) rfl
  have c1 := (H0.out _ T5.out).1.cell (j := 1) rfl
  have a0 := (H0.out _ T5.out).2.1.cell (j := 0) rfl
  have a1 := (H0.out _ T5.out).2.1.cell (j := 1) rfl
  have a2 := (H0.out _ T5.out).2.1.cell (j := 2) rfl
  rcases hz with ⟨rfl, hrw⟩ | ⟨i, r, rfl, hri, hrw⟩
  · have HE := Lib.hid (show applyP (own, rs.map Rw.p) (3, f, d) = ((0, []), 6) by
      rw [apply_none HCK.out HNB.out (by have h := hrw; unfold rowP at h; rwa [if_pos HCK.out] at h), if_neg (by simp)])
    clear hrw
    have HYF := Lib.hid (show w5.heap[g + 2]? = some (.cells #[.int .i64 0, .slice none 0 0] 27 (0, 0)) from (H0.out _ T5.out).2.2.1)
    have XS := Lib.hid (setRow_heap w5 (g + 2) _ #[.int .i64 0, .slice none 0 0] _ _ HYF.out)
    have BS := Lib.hid (below_setRow (H0.out _ T5.out).2.2.2.2.2 (Nat.le_add_right g 2) #[.int .i64 0, .slice none 0 0])
    go_wp2_with (first
      | (refine wpList_store_row rfl 27 (.tmp 4) (.tmp 139) rfl (g + 2) #[.int .i64 0, .slice none 0 0] rfl rfl 27 _ HYF.out HIM.out rfl (by simp [Value.oneCell']) ?_)
      | fail)
    first
      | exact bodyPost_ret (results_row_tmp Try.results26 _ _ (g + 2) _ #[.int .i64 0, .slice none 0 0] _ _ rfl XS.out Try.underlying27 rfl HIM.out) rfl ⟨none, 0, 0, [], by rw [HE.out]; rfl, ⟨Reads.none_, by simp⟩, by rw [HE.out]; rfl, by omega, HG.out ▸ BS.out⟩
      | exact bodyPost_ret (results_row_tmp Try.results26 _ _ (g + 2) _ #[.int .i64 0, .slice none 0 0] _ _ rfl XS.out Try.underlying27 rfl HIM.out) rfl ⟨none, 0, ⟨0, by rw [HE.out]; rfl⟩, [], ⟨Reads.none_, by simp⟩, by rw [HE.out]; rfl, by omega, HG.out ▸ BS.out⟩
      | exact bodyPost_ret (results_row_tmp Try.results26 _ _ (g + 2) _ #[.int .i64 0, .slice none 0 0] _ _ rfl XS.out Try.underlying27 rfl HIM.out) rfl ⟨none, 0, 0, by rw [HE.out]; rfl, [], ⟨Reads.none_, by simp⟩, by rw [HE.out]; rfl, by omega, HG.out ▸ BS.out⟩
  have hfnd : fnd f (rs.map Rw.p) = some r.p := by have h := hrw; unfold rowP at h; rwa [if_pos HCK.out] at h
  have HFN := Lib.hid hfnd
  have HRI := Lib.hid hri
  have HRF := Lib.hid (show r.f = f from fnd_name hfnd)
  have hin : i < n := by rw [← HLN.out]; exact (List.getElem?_eq_some_iff.1 hri).1
  have HSH := Lib.hid (show sharesP (own, rs.map Rw.p) f d = decide (d ∈ r.ds) by unfold sharesP; rw [hrw]; rfl)
  obtain ⟨r5, hr5⟩ : ∃ r5, rs5[i]? = some r5 := ⟨_, List.getElem?_eq_getElem (by rw [O5.out.len]; exact hin)⟩
  have HR5 := Lib.hid hr5
  have HRP := Lib.hid (show r5.p = r.p by
    have h1 := congrArg (fun l => l[i]?) HP5.out
    simp only [List.getElem?_map, hr5, hri, Option.map_some] at h1
    exact Option.some.inj h1)
  have HRN := Lib.hid (show r5.n ≤ 16 from by
    have h := (rows_all (chk_ok HCK.out).2.2).1 r.p (List.mem_map_of_mem (List.mem_of_getElem? hri))
    have h2 := with_len h.2.2 (by decide)
    have h3 := (O5.out.each r5 (List.mem_of_getElem? hr5)).1.len
    have h4 : r5.ds = r.ds := congrArg Prod.snd HRP.out
    have h5 : (r.p).2.length = r5.n := by rw [← h3, h4]; rfl
    omega)
  clear hrw hfnd hri hr5
  obtain ⟨gO, rfl⟩ := own_some O5.out.row (by omega)
  have hgO := O5.out.row.lt gO rfl
  have SV := rshares_v own A n c B rs f d w5 (H0.out _ T5.out).2.2.2.1 (Nat.le_trans hBz (H0.out _ T5.out).2.2.2.2.1) (by omega)
  rw [HSH.out] at SV
  skip
  go_wp2_with fail
  refine SV.mono ?_
  rintro e w6 ⟨rfl, b6⟩
  have T6 := Lib.hid (T5.out.trans (b6.mono (H0.out _ T5.out).2.2.2.2.1))
  have O6 := Lib.hid (O5.out.below b6)
  have X6 := Lib.hid (X5.out.below b6)
  have hz6 := b6.size
  clear SV b6 c0 c1 a0 a1 a2 T5 O5 X5
  have c0 := (H0.out _ T6.out).1.cell (j := 0) rfl
  have c1 := (H0.out _ T6.out).1.cell (j := 1) rfl
  have a0 := (H0.out _ T6.out).2.1.cell (j := 0) rfl
  have a1 := (H0.out _ T6.out).2.1.cell (j := 1) rfl
  have a2 := (H0.out _ T6.out).2.1.cell (j := 2) rfl
  have e0 := X6.out.cell (j := 0) rfl
  have e1 := X6.out.cell (j := 1) rfl
  have i0 : (0 : Int) ≤ (i : Int) := by omega
  have i1 : (i : Int) < (n : Int) := by omega
  by_cases hsh : d ∈ r.ds
  · have hs1 : decide (d ∈ r.ds) = true := decide_eq_true hsh
    have HE := Lib.hid (show applyP (own, rs.map Rw.p) (3, f, d) = ((0, []), 7) by
      rw [apply_some HCK.out HNB.out HFN.out, if_neg (by simp), if_neg (by simp), if_pos rfl, if_pos (show d ∈ r.p.2 from hsh)])
    clear hsh
    rw [hs1]
    have HYF := Lib.hid (show w6.heap[g + 2]? = some (.cells #[.int .i64 0, .slice none 0 0] 27 (0, 0)) from (H0.out _ T6.out).2.2.1)
    have XS := Lib.hid (setRow_heap w6 (g + 2) _ #[.int .i64 0, .slice none 0 0] _ _ HYF.out)
    have BS := Lib.hid (below_setRow (H0.out _ T6.out).2.2.2.2.2 (Nat.le_add_right g 2) #[.int .i64 0, .slice none 0 0])
    go_wp2_with (first
      | (refine wpList_store_row rfl 27 (.tmp 4) (.tmp 183) rfl (g + 2) #[.int .i64 0, .slice none 0 0] rfl rfl 27 _ HYF.out HIM.out rfl (by simp [Value.oneCell']) ?_)
      | fail)
    first
      | exact bodyPost_ret (results_row_tmp Try.results26 _ _ (g + 2) _ #[.int .i64 0, .slice none 0 0] _ _ rfl XS.out Try.underlying27 rfl HIM.out) rfl ⟨none, 0, 0, [], by rw [HE.out]; rfl, ⟨Reads.none_, by simp⟩, by rw [HE.out]; rfl, by omega, HG.out ▸ BS.out⟩
      | exact bodyPost_ret (results_row_tmp Try.results26 _ _ (g + 2) _ #[.int .i64 0, .slice none 0 0] _ _ rfl XS.out Try.underlying27 rfl HIM.out) rfl ⟨none, 0, ⟨0, by rw [HE.out]; rfl⟩, [], ⟨Reads.none_, by simp⟩, by rw [HE.out]; rfl, by omega, HG.out ▸ BS.out⟩
      | exact bodyPost_ret (results_row_tmp Try.results26 _ _ (g + 2) _ #[.int .i64 0, .slice none 0 0] _ _ rfl XS.out Try.underlying27 rfl HIM.out) rfl ⟨none, 0, 0, by rw [HE.out]; rfl, [], ⟨Reads.none_, by simp⟩, by rw [HE.out]; rfl, by omega, HG.out ▸ BS.out⟩
  have hs1 : decide (d ∈ r.ds) = false := decide_eq_false hsh
  have HE := Lib.hid (show applyP (own, rs.map Rw.p) (3, f, d) = ((own, (rs.map Rw.p).map fun x => if x.1 = f then (x.1, x.2.take (lbI d x.2) ++ d :: x.2.drop (lbI d x.2)) else x), 0) by
    rw [apply_some HCK.out HNB.out HFN.out, if_neg (by simp), if_neg (by simp), if_pos rfl, if_neg (show ¬ d ∈ r.p.2 from hsh)])
  have HNW := Lib.hid (show insR d r5.ds = r.ds.take (lbI d r.ds) ++ d :: r.ds.drop (lbI d r.ds) by
    rw [show r5.ds = r.ds from congrArg Prod.snd HRP.out]; exact insR_lb hsh)
  clear hsh
  rw [hs1]
  go_upto_region 33 with fail
  have hF : w6.drew.cell? ⟨g8, 1, none⟩ = some (.slice (some ⟨gO, 0, none⟩) n c5) ∧ w6.drew.cell? ⟨g + 1, 2, none⟩ = some (.int .i64 d) := ⟨e1, a2⟩
  have hcl : w6.cell? ⟨gO, i * 2 + 1, none⟩ = some (.slice r5.a r5.n r5.c) := by
    rw [O6.out.row.cellAt (i * 2 + 1) (by omega)]
    have h := flat_at Rw.cells_len rs5 HR5.out (i := 1) (by omega)
    rw [h]
    rfl
  have hG : w6.drew.cell? ⟨gO, i * 2 + 1, none⟩ = some (.slice r5.a r5.n r5.c) := hcl
  clear c0 c1 a0 a1 a2 e0 e1 hs1 hcl d2
  refine wp_region_F 14 [(0, 1), (1, 1), (2, 1), (3, 1), (4, 1), (5, 1), (6, 1), (7, 1), (8, 2), (9, 1), (10, 1), (11, 0), (12, 1), (13, 1), (14, 4)] (fun V => V.cell? ⟨g8, 1, none⟩ = some (.slice (some ⟨gO, 0, none⟩) n c5) ∧ V.cell? ⟨g + 1, 2, none⟩ = some (.int .i64 d)) (fun V => V.cell? ⟨gO, i * 2 + 1, none⟩ = some (.slice r5.a r5.n r5.c)) (by kernel_rfl) (by kernel_rfl) (by kernel_rfl) (by kernel_rfl) (by kernel_rfl) (fun _ => ?_)
  simp only [outE, List.getElem?_cons_zero, List.getElem?_cons_succ, Option.getD_some]
  have bD : Below w6.heap.size w6 w6.drew := (Below.refl _ _).drew
  have D0 := Lib.hid (T6.out.trans (bD.mono (H0.out _ T6.out).2.2.2.2.1))
  have OD := Lib.hid (O6.out.below bD)
  have XD := Lib.hid (X6.out.below bD)
  have hzd : w6.heap.size ≤ w6.drew.heap.size := bD.size
  clear bD T6 O6 X6
  generalize w6.drew = v0 at *
  iterate 8 (refine TF.val1 (v := ?_) ?_ ?_ ?_ ?_ ?_ ?_; rotate_left; (focus rfl); (focus (intro W hSW; (try dsimp only at hSW); (try (obtain ⟨hS1, hSW⟩ := hSW)); (try (obtain ⟨hS2, hSW⟩ := hSW)); (try (obtain ⟨hS3, hSW⟩ := hSW)); (try (obtain ⟨hS4, hSW⟩ := hSW)); (try (obtain ⟨hS5, hSW⟩ := hSW)); (try (obtain ⟨hS6, hSW⟩ := hSW)); (try (obtain ⟨hS7, hSW⟩ := hSW)); (try (obtain ⟨hS8, hSW⟩ := hSW)); go_simp; (try with_reducible rfl); done)); (focus exact fun _ _ _ h => h); (focus exact hF); (focus exact hG); simp only [Act.put, List.setIfInBounds_toArray, List.set_cons_zero, List.set_cons_succ])
  iterate 1 (refine TF.val2 (v := ?_) ?_ ?_ ?_ ?_ ?_ ?_; rotate_left; (focus rfl); (focus (intro W hSW; (try dsimp only at hSW); (try (obtain ⟨hS1, hSW⟩ := hSW)); (try (obtain ⟨hS2, hSW⟩ := hSW)); (try (obtain ⟨hS3, hSW⟩ := hSW)); (try (obtain ⟨hS4, hSW⟩ := hSW)); (try (obtain ⟨hS5, hSW⟩ := hSW)); (try (obtain ⟨hS6, hSW⟩ := hSW)); (try (obtain ⟨hS7, hSW⟩ := hSW)); (try (obtain ⟨hS8, hSW⟩ := hSW)); go_simp; (try with_reducible rfl); done)); (focus exact fun _ _ _ h => h); (focus exact hF); (focus exact hG); simp only [Act.put, List.setIfInBounds_toArray, List.set_cons_zero, List.set_cons_succ])
  iterate 2 (refine TF.val1 (v := ?_) ?_ ?_ ?_ ?_ ?_ ?_; rotate_left; (focus rfl); (focus (intro W hSW; (try dsimp only at hSW); (try (obtain ⟨hS1, hSW⟩ := hSW)); (try (obtain ⟨hS2, hSW⟩ := hSW)); (try (obtain ⟨hS3, hSW⟩ := hSW)); (try (obtain ⟨hS4, hSW⟩ := hSW)); (try (obtain ⟨hS5, hSW⟩ := hSW)); (try (obtain ⟨hS6, hSW⟩ := hSW)); (try (obtain ⟨hS7, hSW⟩ := hSW)); (try (obtain ⟨hS8, hSW⟩ := hSW)); go_simp; (try with_reducible rfl); done)); (focus exact fun _ _ _ h => h); (focus exact hF); (focus exact hG); simp only [Act.put, List.setIfInBounds_toArray, List.set_cons_zero, List.set_cons_succ])
  refine TF.eff0 (by rfl) (fun K hK => ?_); go_simp
  refine (rwithd_v r5.a r5.n r5.c v0.heap.size r5.ds d v0 (OD.out.each r5 (List.mem_of_getElem? HR5.out)).1.reads (Nat.le_refl _) (by have := HRN.out; omega)).mono ?_
  rintro e v1 ⟨A9, n9, c9, rfl, ho9, b9⟩
  have D1 := Lib.hid (D0.out.trans (b9.mono (H0.out _ D0.out).2.2.2.2.1))
  have hz0v := (H0.out _ D0.out).2.2.2.2.1
  obtain ⟨om, hcl, hfr, _, _⟩ := OD.out.put b9 (by omega) HR5.out ho9
  have OMF := Lib.hid om
  have XE := Lib.hid (XD.out.below b9)
  have hF1 : v1.cell? ⟨g8, 1, none⟩ = some (.slice (some ⟨gO, 0, none⟩) n c5) ∧ v1.cell? ⟨g + 1, 2, none⟩ = some (.int .i64 d) := ⟨XE.out.cell (j := 1) rfl, (H0.out _ D1.out).2.1.cell (j := 2) rfl⟩
  clear hF hG ho9 b9 om D0
  refine hK.out _ _ hF1 hcl ?_
  clear hK
  (try simp only [Act.put, List.setIfInBounds_toArray, List.set_cons_zero, List.set_cons_succ])
  have hF := hF1
  have hG := hcl
  clear hF1
  iterate 2 (refine TF.val1 (v := ?_) ?_ ?_ ?_ ?_ ?_ ?_; rotate_left; (focus rfl); (focus (intro W hSW; (try dsimp only at hSW); (try (obtain ⟨hS1, hSW⟩ := hSW)); (try (obtain ⟨hS2, hSW⟩ := hSW)); (try (obtain ⟨hS3, hSW⟩ := hSW)); (try (obtain ⟨hS4, hSW⟩ := hSW)); (try (obtain ⟨hS5, hSW⟩ := hSW)); (try (obtain ⟨hS6, hSW⟩ := hSW)); (try (obtain ⟨hS7, hSW⟩ := hSW)); (try (obtain ⟨hS8, hSW⟩ := hSW)); go_simp; (try with_reducible rfl); done)); (focus exact fun _ _ _ h => h); (focus exact hF); (focus exact hG); simp only [Act.put, List.setIfInBounds_toArray, List.set_cons_zero, List.set_cons_succ])
  have HXS := Lib.hid (show VArr 27 (v1.setCell ⟨gO, i * 2 + 1, none⟩ (.slice A9 n9 c9)) g8 [.int .i64 own, .slice (some ⟨gO, 0, none⟩) n c5] from XE.out.setOther (by show g8 ≠ gO; have := (hOl.out gO rfl).2; omega) _)
  have HYS := Lib.hid (show VArr 27 (v1.setCell ⟨gO, i * 2 + 1, none⟩ (.slice A9 n9 c9)) (g + 2) [.int .i64 0, .slice none 0 0] from (H0.out _ D1.out).2.2.1.setOther (by show g + 2 ≠ gO; omega) _)
  have HCS := Lib.hid (show VArr 41 (v1.setCell ⟨gO, i * 2 + 1, none⟩ (.slice A9 n9 c9)) (g + 1) [.int .i64 3, .string f, .int .i64 d] from (H0.out _ D1.out).2.1.setOther (by show g + 1 ≠ gO; omega) _)
  have BST := Lib.hid ((H0.out _ D1.out).2.2.2.2.2.setCell (p := ⟨gO, i * 2 + 1, none⟩) (show g ≤ gO by omega) (.slice A9 n9 c9))
  have HPF := Lib.hid (show (rs5.take i ++ ⟨r5.f, A9, n9, c9, insR d r5.ds⟩ :: rs5.drop (i + 1)).map Rw.p = (rs.map Rw.p).map fun x => if x.1 = f then (fun x : PRow => (x.1, x.2.take (lbI d x.2) ++ d :: x.2.drop (lbI d x.2))) x else x by
    have h := fnd_at (rows_all (chk_ok HCK.out).2.2).2 (show (rs.map Rw.p)[i]? = some r.p by rw [List.getElem?_map, HRI.out]; rfl) (g := (fun x : PRow => (x.1, x.2.take (lbI d x.2) ++ d :: x.2.drop (lbI d x.2)))) (f := f)
    rw [show (r.p).1 = f from HRF.out] at h
    rw [h, List.map_append, List.map_cons, List.map_take, List.map_drop, HP5.out]
    congr 2
    refine Prod.ext ?_ HNW.out
    show r5.f = f
    exact (congrArg Prod.fst HRP.out).trans HRF.out)
  refine TF.eff4 (by rfl) (fun K hK => ?_); go_simp
  refine hK.out _ _ ⟨HXS.out.cell (j := 1) rfl, HCS.out.cell (j := 2) rfl⟩ ?_
  refine TF.done ?_
  clear hK hF hG hcl hfr
  generalize (v1.setCell ⟨gO, i * 2 + 1, none⟩ (.slice A9 n9 c9)) = v2 at *
  have e0 := HXS.out.cell (j := 0) rfl
  have e1 := HXS.out.cell (j := 1) rfl
  have HYF := Lib.hid (show v2.heap[g + 2]? = some (.cells #[.int .i64 0, .slice none 0 0] 27 (0, 0)) from HYS.out)
  have XS := Lib.hid (setRow_heap v2 (g + 2) _ #[.int .i64 own, .slice (some ⟨gO, 0, none⟩) n c5] _ _ HYF.out)
  have BS := Lib.hid (below_setRow BST.out (Nat.le_add_right g 2) #[.int .i64 own, .slice (some ⟨gO, 0, none⟩) n c5])
  have HOM := Lib.hid ((OMF.out.setRow (g := g + 2) (by omega) #[.int .i64 own, .slice (some ⟨gO, 0, none⟩) n c5]).reads)
  go_wp2_with (first
    | (refine wpList_store_row rfl 27 (.tmp 4) (.tmp 206) rfl (g + 2) #[.int .i64 own, .slice (some ⟨gO, 0, none⟩) n c5] rfl rfl 27 _ HYF.out HIM.out rfl (by simp [Value.oneCell']) ?_)
    | fail)
  first
    | exact bodyPost_ret (results_row_tmp Try.results26 _ _ (g + 2) _ #[.int .i64 own, .slice (some ⟨gO, 0, none⟩) n c5] _ _ rfl XS.out Try.underlying27 rfl HIM.out) rfl ⟨some ⟨gO, 0, none⟩, n, c5, (rs5.take i ++ ⟨r5.f, A9, n9, c9, insR d r5.ds⟩ :: rs5.drop (i + 1)), by rw [HE.out]; rfl, HOM.out, by rw [HE.out]; exact HPF.out, by omega, HG.out ▸ BS.out⟩
    | exact bodyPost_ret (results_row_tmp Try.results26 _ _ (g + 2) _ #[.int .i64 own, .slice (some ⟨gO, 0, none⟩) n c5] _ _ rfl XS.out Try.underlying27 rfl HIM.out) rfl ⟨some ⟨gO, 0, none⟩, n, ⟨c5, by rw [HE.out]; rfl⟩, (rs5.take i ++ ⟨r5.f, A9, n9, c9, insR d r5.ds⟩ :: rs5.drop (i + 1)), HOM.out, by rw [HE.out]; exact HPF.out, by omega, HG.out ▸ BS.out⟩
    | exact bodyPost_ret (results_row_tmp Try.results26 _ _ (g + 2) _ #[.int .i64 own, .slice (some ⟨gO, 0, none⟩) n c5] _ _ rfl XS.out Try.underlying27 rfl HIM.out) rfl ⟨some ⟨gO, 0, none⟩, n, c5, by rw [HE.out]; rfl, (rs5.take i ++ ⟨r5.f, A9, n9, c9, insR d r5.ds⟩ :: rs5.drop (i + 1)), HOM.out, by rw [HE.out]; exact HPF.out, by omega, HG.out ▸ BS.out⟩
set_option maxRecDepth 100000 in
set_option maxHeartbeats 16000000 in
theorem rapply4_v (own : Int) (A : Option Addr) (n c B : Nat) (rs : List Rw) (f : ByteArray) (d : Int) (w : World) (hr : RowsR w B A n rs) (hB : B ≤ w.heap.size) (hn : n ≤ 9223372036854775807) (hfs : f.size ≤ 9223372036854775807) :
    Calls Try.prog 26 #[.agg #[.int .i64 own, .slice A n c], .agg #[.int .i64 4, .string f, .int .i64 d]] w fun e w' => ∃ A' n' c' rs', e = .returned (.tuple #[.agg #[.int .i64 (applyP (own, rs.map Rw.p) (4, f, d)).1.1, .slice A' n' c'], .int .i64 ((applyP (own, rs.map Rw.p) (4, f, d)).2 : Int)]) ∧ RowsR w' w'.heap.size A' n' rs' ∧ rs'.map Rw.p = (applyP (own, rs.map Rw.p) (4, f, d)).1.2 ∧ n' ≤ 9 ∧ Below w.heap.size w w' := by
  have HIM := Lib.hid (show (Try.prog.info? 27).map (·.size) = some 2 by kernel_rfl)
  have HR := Lib.hid hr
  have HLN := Lib.hid hr.len
  have X0 := Lib.hid (boxes3c w 27 41 27 [.int .i64 own, .slice A n c] [.int .i64 4, .string f, .int .i64 d] [.int .i64 0, .slice none 0 0])
  clear hr
  go_enter Try.func26, Try.ntmps26
  go_upto_region 1 with fail
  generalize hw0 : ((w.alloc (.cells #[.int .i64 own, .slice A n c] 27)).alloc (.cells #[.int .i64 4, .string f, .int .i64 d] 41)).alloc (.cells #[.int .i64 0, .slice none 0 0] 27) = w0 at *
  clear hw0
  generalize hg : w.heap.size = g at *
  have HG := Lib.hid hg
  clear hg
  have H0 := Lib.hid (show ∀ V, Below w0.heap.size w0 V → VArr 27 V g [.int .i64 own, .slice A n c] ∧ VArr 41 V (g + 1) [.int .i64 4, .string f, .int .i64 d] ∧ VArr 27 V (g + 2) [.int .i64 0, .slice none 0 0] ∧ RowsR V B A n rs ∧ w0.heap.size ≤ V.heap.size ∧ Below g w V from fun V h => by
    obtain ⟨h1, h2, h3, h4, h5⟩ := X0.out
    have h6 : Below g w V := h4.trans (h.mono (by omega))
    exact ⟨h1.below h, h2.below h, h3.below h, HR.out.below (h6.mono hB), h.size, h6⟩)
  have hz0 : g + 3 ≤ w0.heap.size := Nat.le_of_eq X0.out.2.2.2.2.symm
  have T0 := Lib.hid (Below.refl w0.heap.size w0)
  clear X0
  generalize w0.heap.size = z0 at *
  have hBz : B ≤ z0 := by omega
  have c0 := (H0.out _ T0.out).1.cell (j := 0) rfl
  have c1 := (H0.out _ T0.out).1.cell (j := 1) rfl
  have CV := rcheck_v own A n c B rs w0 (H0.out _ T0.out).2.2.2.1 (Nat.le_trans hBz (H0.out _ T0.out).2.2.2.2.1) hn
  obtain ⟨ck, hck⟩ : ∃ ck, chkM (own, rs.map Rw.p) = ck := ⟨_, rfl⟩
  have HCK := Lib.hid hck
  rw [hck] at CV
  clear hck
  go_wp2_with fail
  refine CV.mono ?_
  rintro e w1 ⟨rfl, b1⟩
  have T1 := Lib.hid (T0.out.trans (b1.mono (H0.out _ T0.out).2.2.2.2.1))
  clear b1 CV c0 c1 T0
  by_cases hk0 : ck = 0
  case neg =>
    have d1 : ((ck : Int) != 0) = true := by simp; omega
    have HE := Lib.hid (show applyP (own, rs.map Rw.p) (4, f, d) = ((0, []), ck) by rw [apply_chk (by rw [HCK.out]; exact hk0), HCK.out])
    clear hk0
    have HYF := Lib.hid (show w1.heap[g + 2]? = some (.cells #[.int .i64 0, .slice none 0 0] 27 (0, 0)) from (H0.out _ T1.out).2.2.1)
    have XS := Lib.hid (setRow_heap w1 (g + 2) _ #[.int .i64 0, .slice none 0 0] _ _ HYF.out)
    have BS := Lib.hid (below_setRow (H0.out _ T1.out).2.2.2.2.2 (Nat.le_add_right g 2) #[.int .i64 0, .slice none 0 0])
    go_wp2_with (first
      | (refine wpList_store_row rfl 27 (.tmp 4) (.tmp 17) rfl (g + 2) #[.int .i64 0, .slice none 0 0] rfl rfl 27 _ HYF.out HIM.out rfl (by simp [Value.oneCell']) ?_)
      | fail)
    first
      | exact bodyPost_ret (results_row_tmp Try.results26 _ _ (g + 2) _ #[.int .i64 0, .slice none 0 0] _ _ rfl XS.out Try.underlying27 rfl HIM.out) rfl ⟨none, 0, 0, [], by rw [HE.out]; rfl, ⟨Reads.none_, by simp⟩, by rw [HE.out]; rfl, by omega, HG.out ▸ BS.out⟩
      | exact bodyPost_ret (results_row_tmp Try.results26 _ _ (g + 2) _ #[.int .i64 0, .slice none 0 0] _ _ rfl XS.out Try.underlying27 rfl HIM.out) rfl ⟨none, 0, ⟨0, by rw [HE.out]; rfl⟩, [], ⟨Reads.none_, by simp⟩, by rw [HE.out]; rfl, by omega, HG.out ▸ BS.out⟩
      | exact bodyPost_ret (results_row_tmp Try.results26 _ _ (g + 2) _ #[.int .i64 0, .slice none 0 0] _ _ rfl XS.out Try.underlying27 rfl HIM.out) rfl ⟨none, 0, 0, by rw [HE.out]; rfl, [], ⟨Reads.none_, by simp⟩, by rw [HE.out]; rfl, by omega, HG.out ▸ BS.out⟩
  subst hk0
  have d1 : (((0 : Nat) : Int) != 0) = false := rfl
  have hle := (chk_ok HCK.out).1
  have hn8 : n ≤ 8 := by rw [List.length_map, HLN.out] at hle; exact hle
  clear hle hn
  have c0 := (H0.out _ T1.out).1.cell (j := 0) rfl
  have c1 := (H0.out _ T1.out).1.cell (j := 1) rfl
  have a0 := (H0.out _ T1.out).2.1.cell (j := 0) rfl
  have a1 := (H0.out _ T1.out).2.1.cell (j := 1) rfl
  have a2 := (H0.out _ T1.out).2.1.cell (j := 2) rfl
  have FV := rfolder_v f w1 hfs
  go_wp2_with fail
  cases hf : folderP f with
  | false =>
    have HE := Lib.hid (apply_bad (m := (own, rs.map Rw.p)) (c := (4, f, d)) HCK.out (.inr (.inr (.inl hf))))
    rw [hf] at FV
    clear hf
    refine FV.mono ?_
    rintro e _ ⟨rfl, rfl⟩
    have c0 := (H0.out _ T1.out).1.cell (j := 0) rfl
    have c1 := (H0.out _ T1.out).1.cell (j := 1) rfl
    have a0 := (H0.out _ T1.out).2.1.cell (j := 0) rfl
    have a1 := (H0.out _ T1.out).2.1.cell (j := 1) rfl
    have a2 := (H0.out _ T1.out).2.1.cell (j := 2) rfl
    have HYF := Lib.hid (show w1.heap[g + 2]? = some (.cells #[.int .i64 0, .slice none 0 0] 27 (0, 0)) from (H0.out _ T1.out).2.2.1)
    have XS := Lib.hid (setRow_heap w1 (g + 2) _ #[.int .i64 0, .slice none 0 0] _ _ HYF.out)
    have BS := Lib.hid (below_setRow (H0.out _ T1.out).2.2.2.2.2 (Nat.le_add_right g 2) #[.int .i64 0, .slice none 0 0])
    go_wp2_with (first
      | (refine wpList_store_row rfl 27 (.tmp 4) (.tmp 66) rfl (g + 2) #[.int .i64 0, .slice none 0 0] rfl rfl 27 _ HYF.out HIM.out rfl (by simp [Value.oneCell']) ?_)
      | fail)
    first
      | exact bodyPost_ret (results_row_tmp Try.results26 _ _ (g + 2) _ #[.int .i64 0, .slice none 0 0] _ _ rfl XS.out Try.underlying27 rfl HIM.out) rfl ⟨none, 0, 0, [], by rw [HE.out]; rfl, ⟨Reads.none_, by simp⟩, by rw [HE.out]; rfl, by omega, HG.out ▸ BS.out⟩
      | exact bodyPost_ret (results_row_tmp Try.results26 _ _ (g + 2) _ #[.int .i64 0, .slice none 0 0] _ _ rfl XS.out Try.underlying27 rfl HIM.out) rfl ⟨none, 0, ⟨0, by rw [HE.out]; rfl⟩, [], ⟨Reads.none_, by simp⟩, by rw [HE.out]; rfl, by omega, HG.out ▸ BS.out⟩
      | exact bodyPost_ret (results_row_tmp Try.results26 _ _ (g + 2) _ #[.int .i64 0, .slice none 0 0] _ _ rfl XS.out Try.underlying27 rfl HIM.out) rfl ⟨none, 0, 0, by rw [HE.out]; rfl, [], ⟨Reads.none_, by simp⟩, by rw [HE.out]; rfl, by omega, HG.out ▸ BS.out⟩
  | true =>
  rw [hf] at FV
  have HF := Lib.hid hf
  clear hf
  refine FV.mono ?_
  rintro e _ ⟨rfl, rfl⟩
  clear FV
  have c0 := (H0.out _ T1.out).1.cell (j := 0) rfl
  have c1 := (H0.out _ T1.out).1.cell (j := 1) rfl
  have a0 := (H0.out _ T1.out).2.1.cell (j := 0) rfl
  have a1 := (H0.out _ T1.out).2.1.cell (j := 1) rfl
  have a2 := (H0.out _ T1.out).2.1.cell (j := 2) rfl
  have DV := rdev_v d w1
  go_wp2_with fail
  cases hdv : dev d with
  | false =>
    have HE := Lib.hid (apply_bad (m := (own, rs.map Rw.p)) (c := (4, f, d)) HCK.out (.inr (.inr (.inr (.inl ⟨by simp, .inl hdv⟩)))))
    rw [hdv] at DV
    clear hdv
    refine DV.mono ?_
    rintro e _ ⟨rfl, rfl⟩
    have c0 := (H0.out _ T1.out).1.cell (j := 0) rfl
    have c1 := (H0.out _ T1.out).1.cell (j := 1) rfl
    have a0 := (H0.out _ T1.out).2.1.cell (j := 0) rfl
    have a1 := (H0.out _ T1.out).2.1.cell (j := 1) rfl
    have a2 := (H0.out _ T1.out).2.1.cell (j := 2) rfl
    have HYF := Lib.hid (show w1.heap[g + 2]? = some (.cells #[.int .i64 0, .slice none 0 0] 27 (0, 0)) from (H0.out _ T1.out).2.2.1)
    have XS := Lib.hid (setRow_heap w1 (g + 2) _ #[.int .i64 0, .slice none 0 0] _ _ HYF.out)
    have BS := Lib.hid (below_setRow (H0.out _ T1.out).2.2.2.2.2 (Nat.le_add_right g 2) #[.int .i64 0, .slice none 0 0])
    go_wp2_with (first
      | (refine wpList_store_row rfl 27 (.tmp 4) (.tmp 66) rfl (g + 2) #[.int .i64 0, .slice none 0 0] rfl rfl 27 _ HYF.out HIM.out rfl (by simp [Value.oneCell']) ?_)
      | fail)
    first
      | exact bodyPost_ret (results_row_tmp Try.results26 _ _ (g + 2) _ #[.int .i64 0, .slice none 0 0] _ _ rfl XS.out Try.underlying27 rfl HIM.out) rfl ⟨none, 0, 0, [], by rw [HE.out]; rfl, ⟨Reads.none_, by simp⟩, by rw [HE.out]; rfl, by omega, HG.out ▸ BS.out⟩
      | exact bodyPost_ret (results_row_tmp Try.results26 _ _ (g + 2) _ #[.int .i64 0, .slice none 0 0] _ _ rfl XS.out Try.underlying27 rfl HIM.out) rfl ⟨none, 0, ⟨0, by rw [HE.out]; rfl⟩, [], ⟨Reads.none_, by simp⟩, by rw [HE.out]; rfl, by omega, HG.out ▸ BS.out⟩
      | exact bodyPost_ret (results_row_tmp Try.results26 _ _ (g + 2) _ #[.int .i64 0, .slice none 0 0] _ _ rfl XS.out Try.underlying27 rfl HIM.out) rfl ⟨none, 0, 0, by rw [HE.out]; rfl, [], ⟨Reads.none_, by simp⟩, by rw [HE.out]; rfl, by omega, HG.out ▸ BS.out⟩
  | true =>
  rw [hdv] at DV
  have HDV := Lib.hid hdv
  clear hdv
  refine DV.mono ?_
  rintro e _ ⟨rfl, rfl⟩
  clear DV
  have c0 := (H0.out _ T1.out).1.cell (j := 0) rfl
  have c1 := (H0.out _ T1.out).1.cell (j := 1) rfl
  have a0 := (H0.out _ T1.out).2.1.cell (j := 0) rfl
  have a1 := (H0.out _ T1.out).2.1.cell (j := 1) rfl
  have a2 := (H0.out _ T1.out).2.1.cell (j := 2) rfl
  by_cases ho : d = own
  case pos =>
    have d2 : (d == own) = true := beq_iff_eq.2 ho
    have HE := Lib.hid (apply_bad (m := (own, rs.map Rw.p)) (c := (4, f, d)) HCK.out (.inr (.inr (.inr (.inl ⟨by simp, .inr ho⟩)))))
    clear ho
    have HYF := Lib.hid (show w1.heap[g + 2]? = some (.cells #[.int .i64 0, .slice none 0 0] 27 (0, 0)) from (H0.out _ T1.out).2.2.1)
    have XS := Lib.hid (setRow_heap w1 (g + 2) _ #[.int .i64 0, .slice none 0 0] _ _ HYF.out)
    have BS := Lib.hid (below_setRow (H0.out _ T1.out).2.2.2.2.2 (Nat.le_add_right g 2) #[.int .i64 0, .slice none 0 0])
    go_wp2_with (first
      | (refine wpList_store_row rfl 27 (.tmp 4) (.tmp 66) rfl (g + 2) #[.int .i64 0, .slice none 0 0] rfl rfl 27 _ HYF.out HIM.out rfl (by simp [Value.oneCell']) ?_)
      | fail)
    first
      | exact bodyPost_ret (results_row_tmp Try.results26 _ _ (g + 2) _ #[.int .i64 0, .slice none 0 0] _ _ rfl XS.out Try.underlying27 rfl HIM.out) rfl ⟨none, 0, 0, [], by rw [HE.out]; rfl, ⟨Reads.none_, by simp⟩, by rw [HE.out]; rfl, by omega, HG.out ▸ BS.out⟩
      | exact bodyPost_ret (results_row_tmp Try.results26 _ _ (g + 2) _ #[.int .i64 0, .slice none 0 0] _ _ rfl XS.out Try.underlying27 rfl HIM.out) rfl ⟨none, 0, ⟨0, by rw [HE.out]; rfl⟩, [], ⟨Reads.none_, by simp⟩, by rw [HE.out]; rfl, by omega, HG.out ▸ BS.out⟩
      | exact bodyPost_ret (results_row_tmp Try.results26 _ _ (g + 2) _ #[.int .i64 0, .slice none 0 0] _ _ rfl XS.out Try.underlying27 rfl HIM.out) rfl ⟨none, 0, 0, by rw [HE.out]; rfl, [], ⟨Reads.none_, by simp⟩, by rw [HE.out]; rfl, by omega, HG.out ▸ BS.out⟩
  have d2 : (d == own) = false := beq_eq_false_iff_ne.2 ho
  have HNB := Lib.hid (show ¬ badC (own, rs.map Rw.p) (4, f, d) from by unfold badC; simp [HF.out, HDV.out, ho])
  clear ho
  have RC := rcopy_v own A n c B rs w1 (H0.out _ T1.out).2.2.2.1 (Nat.le_trans hBz (H0.out _ T1.out).2.2.2.2.1) (by omega) (fun r hr => by
    have h := (rows_all (chk_ok HCK.out).2.2).1 r.p (List.mem_map_of_mem hr)
    have h2 := with_len h.2.2 (by decide)
    have h3 := (HR.out.each r hr).i.len
    have h4 : (r.p).2.length = r.n := h3
    omega)
  go_wp2_with fail
  refine RC.mono ?_
  rintro e w3 ⟨A5, c5, rs5, rfl, o5, hp5, b3⟩
  have T3 := Lib.hid (T1.out.trans (b3.mono (H0.out _ T1.out).2.2.2.2.1))
  have O3 := Lib.hid o5
  have HP5 := Lib.hid hp5
  have hz3 := b3.size
  have hz1 := (H0.out _ T1.out).2.2.2.2.1
  clear RC b3 o5 hp5 c0 c1 a0 a1 a2 T1 d1
  generalize w1.heap.size = z1 at *
  go_upto_region 8 with fail
  have b4 := (Below.refl w3.heap.size w3).alloc (Nat.le_refl _) (.cells #[.int .i64 own, .slice A5 n c5] 27)
  have T4 := Lib.hid (T3.out.trans (b4.mono (by omega)))
  have O4 := Lib.hid (O3.out.below b4)
  have X4 := Lib.hid (show VArr 27 (w3.alloc (.cells #[.int .i64 own, .slice A5 n c5] 27)) w3.heap.size [.int .i64 own, .slice A5 n c5] from heap_alloc_new w3 _)
  have hOl := Lib.hid (fun j (hj : (Value.slice A5 n c5).ownBlock = some j) => O3.out.row.lt j hj)
  have HQS := Lib.hid (show ∀ r ∈ rs5, ∀ j, (Value.slice r.a r.n r.c).ownBlock = some j → j < w3.heap.size from fun r hr j hj => ((O3.out.each r hr).1.lt j hj).2)
  clear b4 T3 O3
  generalize w3.alloc (.cells #[.int .i64 own, .slice A5 n c5] 27) = w4 at *
  generalize w3.heap.size = g8 at *
  have c0 := (H0.out _ T4.out).1.cell (j := 0) rfl
  have c1 := (H0.out _ T4.out).1.cell (j := 1) rfl
  have a1 := (H0.out _ T4.out).2.1.cell (j := 1) rfl
  have RV := rrow_v own A n c B rs f w4 (H0.out _ T4.out).2.2.2.1 (Nat.le_trans hBz (H0.out _ T4.out).2.2.2.2.1) (by omega)
  go_wp2_with fail
  refine RV.mono ?_
  rintro e w5 ⟨z, rfl, hz, b5⟩
  have T5 := Lib.hid (T4.out.trans (b5.mono (H0.out _ T4.out).2.2.2.2.1))
  have O5 := Lib.hid (O4.out.below b5)
  have X5 := Lib.hid (X4.out.below b5)
  clear RV b5 c0 c1 a1 T4 O4 X4
  have c0 := (H0.out _ T5.out).1.cell (j := 0) rfl
  have c1 := (H0.out _ T5.out).1.cell (j := 1) rfl
  have a0 := (H0.out _ T5.out).2.1.cell (j := 0) rfl
  have a1 := (H0.out _ T5.out).2.1.cell (j := 1) rfl
  have a2 := (H0.out _ T5.out).2.1.cell (j := 2) rfl
  rcases hz with ⟨rfl, hrw⟩ | ⟨i, r, rfl, hri, hrw⟩
  · have HE := Lib.hid (show applyP (own, rs.map Rw.p) (4, f, d) = ((0, []), 6) by
      rw [apply_none HCK.out HNB.out (by have h := hrw; unfold rowP at h; rwa [if_pos HCK.out] at h), if_neg (by simp)])
    clear hrw
    have HYF := Lib.hid (show w5.heap[g + 2]? = some (.cells #[.int .i64 0, .slice none 0 0] 27 (0, 0)) from (H0.out _ T5.out).2.2.1)
    have XS := Lib.hid (setRow_heap w5 (g + 2) _ #[.int .i64 0, .slice none 0 0] _ _ HYF.out)
    have BS := Lib.hid (below_setRow (H0.out _ T5.out).2.2.2.2.2 (Nat.le_add_right g 2) #[.int .i64 0, .slice none 0 0])
    go_wp2_with (first
      | (refine wpList_store_row rfl 27 (.tmp 4) (.tmp 139) rfl (g + 2) #[.int .i64 0, .slice none 0 0] rfl rfl 27 _ HYF.out HIM.out rfl (by simp [Value.oneCell']) ?_)
      | fail)
    first
      | exact bodyPost_ret (results_row_tmp Try.results26 _ _ (g + 2) _ #[.int .i64 0, .slice none 0 0] _ _ rfl XS.out Try.underlying27 rfl HIM.out) rfl ⟨none, 0, 0, [], by rw [HE.out]; rfl, ⟨Reads.none_, by simp⟩, by rw [HE.out]; rfl, by omega, HG.out ▸ BS.out⟩
      | exact bodyPost_ret (results_row_tmp Try.results26 _ _ (g + 2) _ #[.int .i64 0, .slice none 0 0] _ _ rfl XS.out Try.underlying27 rfl HIM.out) rfl ⟨none, 0, ⟨0, by rw [HE.out]; rfl⟩, [], ⟨Reads.none_, by simp⟩, by rw [HE.out]; rfl, by omega, HG.out ▸ BS.out⟩
      | exact bodyPost_ret (results_row_tmp Try.results26 _ _ (g + 2) _ #[.int .i64 0, .slice none 0 0] _ _ rfl XS.out Try.underlying27 rfl HIM.out) rfl ⟨none, 0, 0, by rw [HE.out]; rfl, [], ⟨Reads.none_, by simp⟩, by rw [HE.out]; rfl, by omega, HG.out ▸ BS.out⟩
  have hfnd : fnd f (rs.map Rw.p) = some r.p := by have h := hrw; unfold rowP at h; rwa [if_pos HCK.out] at h
  have HFN := Lib.hid hfnd
  have HRI := Lib.hid hri
  have HRF := Lib.hid (show r.f = f from fnd_name hfnd)
  have hin : i < n := by rw [← HLN.out]; exact (List.getElem?_eq_some_iff.1 hri).1
  have HSH := Lib.hid (show sharesP (own, rs.map Rw.p) f d = decide (d ∈ r.ds) by unfold sharesP; rw [hrw]; rfl)
  obtain ⟨r5, hr5⟩ : ∃ r5, rs5[i]? = some r5 := ⟨_, List.getElem?_eq_getElem (by rw [O5.out.len]; exact hin)⟩
  have HR5 := Lib.hid hr5
  have HRP := Lib.hid (show r5.p = r.p by
    have h1 := congrArg (fun l => l[i]?) HP5.out
    simp only [List.getElem?_map, hr5, hri, Option.map_some] at h1
    exact Option.some.inj h1)
  have HRN := Lib.hid (show r5.n ≤ 16 from by
    have h := (rows_all (chk_ok HCK.out).2.2).1 r.p (List.mem_map_of_mem (List.mem_of_getElem? hri))
    have h2 := with_len h.2.2 (by decide)
    have h3 := (O5.out.each r5 (List.mem_of_getElem? hr5)).1.len
    have h4 : r5.ds = r.ds := congrArg Prod.snd HRP.out
    have h5 : (r.p).2.length = r5.n := by rw [← h3, h4]; rfl
    omega)
  clear hrw hfnd hri hr5
  obtain ⟨gO, rfl⟩ := own_some O5.out.row (by omega)
  have hgO := O5.out.row.lt gO rfl
  have SV := rshares_v own A n c B rs f d w5 (H0.out _ T5.out).2.2.2.1 (Nat.le_trans hBz (H0.out _ T5.out).2.2.2.2.1) (by omega)
  rw [HSH.out] at SV
  skip
  go_wp2_with fail
  refine SV.mono ?_
  rintro e w6 ⟨rfl, b6⟩
  have T6 := Lib.hid (T5.out.trans (b6.mono (H0.out _ T5.out).2.2.2.2.1))
  have O6 := Lib.hid (O5.out.below b6)
  have X6 := Lib.hid (X5.out.below b6)
  have hz6 := b6.size
  clear SV b6 c0 c1 a0 a1 a2 T5 O5 X5
  have c0 := (H0.out _ T6.out).1.cell (j := 0) rfl
  have c1 := (H0.out _ T6.out).1.cell (j := 1) rfl
  have a0 := (H0.out _ T6.out).2.1.cell (j := 0) rfl
  have a1 := (H0.out _ T6.out).2.1.cell (j := 1) rfl
  have a2 := (H0.out _ T6.out).2.1.cell (j := 2) rfl
  have e0 := X6.out.cell (j := 0) rfl
  have e1 := X6.out.cell (j := 1) rfl
  have i0 : (0 : Int) ≤ (i : Int) := by omega
  have i1 : (i : Int) < (n : Int) := by omega
  by_cases hsh : d ∈ r.ds
  case neg =>
    have hs1 : decide (d ∈ r.ds) = false := decide_eq_false hsh
    have HE := Lib.hid (show applyP (own, rs.map Rw.p) (4, f, d) = ((0, []), 6) by
      rw [apply_some HCK.out HNB.out HFN.out, if_neg (by simp), if_neg (by simp), if_neg (by simp), if_neg (show ¬ d ∈ r.p.2 from hsh)])
    clear hsh
    rw [hs1]
    have HYF := Lib.hid (show w6.heap[g + 2]? = some (.cells #[.int .i64 0, .slice none 0 0] 27 (0, 0)) from (H0.out _ T6.out).2.2.1)
    have XS := Lib.hid (setRow_heap w6 (g + 2) _ #[.int .i64 0, .slice none 0 0] _ _ HYF.out)
    have BS := Lib.hid (below_setRow (H0.out _ T6.out).2.2.2.2.2 (Nat.le_add_right g 2) #[.int .i64 0, .slice none 0 0])
    go_wp2_with (first
      | (refine wpList_store_row rfl 27 (.tmp 4) (.tmp 205) rfl (g + 2) #[.int .i64 0, .slice none 0 0] rfl rfl 27 _ HYF.out HIM.out rfl (by simp [Value.oneCell']) ?_)
      | fail)
    first
      | exact bodyPost_ret (results_row_tmp Try.results26 _ _ (g + 2) _ #[.int .i64 0, .slice none 0 0] _ _ rfl XS.out Try.underlying27 rfl HIM.out) rfl ⟨none, 0, 0, [], by rw [HE.out]; rfl, ⟨Reads.none_, by simp⟩, by rw [HE.out]; rfl, by omega, HG.out ▸ BS.out⟩
      | exact bodyPost_ret (results_row_tmp Try.results26 _ _ (g + 2) _ #[.int .i64 0, .slice none 0 0] _ _ rfl XS.out Try.underlying27 rfl HIM.out) rfl ⟨none, 0, ⟨0, by rw [HE.out]; rfl⟩, [], ⟨Reads.none_, by simp⟩, by rw [HE.out]; rfl, by omega, HG.out ▸ BS.out⟩
      | exact bodyPost_ret (results_row_tmp Try.results26 _ _ (g + 2) _ #[.int .i64 0, .slice none 0 0] _ _ rfl XS.out Try.underlying27 rfl HIM.out) rfl ⟨none, 0, 0, by rw [HE.out]; rfl, [], ⟨Reads.none_, by simp⟩, by rw [HE.out]; rfl, by omega, HG.out ▸ BS.out⟩
  have hs1 : decide (d ∈ r.ds) = true := decide_eq_true hsh
  have HE := Lib.hid (show applyP (own, rs.map Rw.p) (4, f, d) = ((own, (rs.map Rw.p).map fun x => if x.1 = f then (x.1, x.2.filter fun y => !decide (y = d)) else x), 0) by
    rw [apply_some HCK.out HNB.out HFN.out, if_neg (by simp), if_neg (by simp), if_neg (by simp), if_pos (show d ∈ r.p.2 from hsh)])
  have HNW := Lib.hid (show (r5.ds.filter fun x => !decide (x = d)) = r.ds.filter fun y => !decide (y = d) by
    rw [show r5.ds = r.ds from congrArg Prod.snd HRP.out])
  clear hsh
  rw [hs1]
  go_upto_region 27 with fail
  have hF : w6.drew.cell? ⟨g8, 1, none⟩ = some (.slice (some ⟨gO, 0, none⟩) n c5) ∧ w6.drew.cell? ⟨g + 1, 2, none⟩ = some (.int .i64 d) := ⟨e1, a2⟩
  have hcl : w6.cell? ⟨gO, i * 2 + 1, none⟩ = some (.slice r5.a r5.n r5.c) := by
    rw [O6.out.row.cellAt (i * 2 + 1) (by omega)]
    have h := flat_at Rw.cells_len rs5 HR5.out (i := 1) (by omega)
    rw [h]
    rfl
  have hG : w6.drew.cell? ⟨gO, i * 2 + 1, none⟩ = some (.slice r5.a r5.n r5.c) := hcl
  clear c0 c1 a0 a1 a2 e0 e1 hs1 hcl d2
  refine wp_region_F 14 [(0, 1), (1, 1), (2, 1), (3, 1), (4, 1), (5, 1), (6, 1), (7, 1), (8, 2), (9, 1), (10, 1), (11, 0), (12, 1), (13, 1), (14, 4)] (fun V => V.cell? ⟨g8, 1, none⟩ = some (.slice (some ⟨gO, 0, none⟩) n c5) ∧ V.cell? ⟨g + 1, 2, none⟩ = some (.int .i64 d)) (fun V => V.cell? ⟨gO, i * 2 + 1, none⟩ = some (.slice r5.a r5.n r5.c)) (by kernel_rfl) (by kernel_rfl) (by kernel_rfl) (by kernel_rfl) (by kernel_rfl) (fun _ => ?_)
  simp only [outE, List.getElem?_cons_zero, List.getElem?_cons_succ, Option.getD_some]
  have bD : Below w6.heap.size w6 w6.drew := (Below.refl _ _).drew
  have D0 := Lib.hid (T6.out.trans (bD.mono (H0.out _ T6.out).2.2.2.2.1))
  have OD := Lib.hid (O6.out.below bD)
  have XD := Lib.hid (X6.out.below bD)
  have hzd : w6.heap.size ≤ w6.drew.heap.size := bD.size
  clear bD T6 O6 X6
  generalize w6.drew = v0 at *
  iterate 8 (refine TF.val1 (v := ?_) ?_ ?_ ?_ ?_ ?_ ?_; rotate_left; (focus rfl); (focus (intro W hSW; (try dsimp only at hSW); (try (obtain ⟨hS1, hSW⟩ := hSW)); (try (obtain ⟨hS2, hSW⟩ := hSW)); (try (obtain ⟨hS3, hSW⟩ := hSW)); (try (obtain ⟨hS4, hSW⟩ := hSW)); (try (obtain ⟨hS5, hSW⟩ := hSW)); (try (obtain ⟨hS6, hSW⟩ := hSW)); (try (obtain ⟨hS7, hSW⟩ := hSW)); (try (obtain ⟨hS8, hSW⟩ := hSW)); go_simp; (try with_reducible rfl); done)); (focus exact fun _ _ _ h => h); (focus exact hF); (focus exact hG); simp only [Act.put, List.setIfInBounds_toArray, List.set_cons_zero, List.set_cons_succ])
  iterate 1 (refine TF.val2 (v := ?_) ?_ ?_ ?_ ?_ ?_ ?_; rotate_left; (focus rfl); (focus (intro W hSW; (try dsimp only at hSW); (try (obtain ⟨hS1, hSW⟩ := hSW)); (try (obtain ⟨hS2, hSW⟩ := hSW)); (try (obtain ⟨hS3, hSW⟩ := hSW)); (try (obtain ⟨hS4, hSW⟩ := hSW)); (try (obtain ⟨hS5, hSW⟩ := hSW)); (try (obtain ⟨hS6, hSW⟩ := hSW)); (try (obtain ⟨hS7, hSW⟩ := hSW)); (try (obtain ⟨hS8, hSW⟩ := hSW)); go_simp; (try with_reducible rfl); done)); (focus exact fun _ _ _ h => h); (focus exact hF); (focus exact hG); simp only [Act.put, List.setIfInBounds_toArray, List.set_cons_zero, List.set_cons_succ])
  iterate 2 (refine TF.val1 (v := ?_) ?_ ?_ ?_ ?_ ?_ ?_; rotate_left; (focus rfl); (focus (intro W hSW; (try dsimp only at hSW); (try (obtain ⟨hS1, hSW⟩ := hSW)); (try (obtain ⟨hS2, hSW⟩ := hSW)); (try (obtain ⟨hS3, hSW⟩ := hSW)); (try (obtain ⟨hS4, hSW⟩ := hSW)); (try (obtain ⟨hS5, hSW⟩ := hSW)); (try (obtain ⟨hS6, hSW⟩ := hSW)); (try (obtain ⟨hS7, hSW⟩ := hSW)); (try (obtain ⟨hS8, hSW⟩ := hSW)); go_simp; (try with_reducible rfl); done)); (focus exact fun _ _ _ h => h); (focus exact hF); (focus exact hG); simp only [Act.put, List.setIfInBounds_toArray, List.set_cons_zero, List.set_cons_succ])
  refine TF.eff0 (by rfl) (fun K hK => ?_); go_simp
  refine (rwithout_v r5.a r5.n r5.c v0.heap.size r5.ds d v0 (OD.out.each r5 (List.mem_of_getElem? HR5.out)).1.reads (Nat.le_refl _) (by have := HRN.out; omega)).mono ?_
  rintro e v1 ⟨A9, n9, c9, rfl, ho9, b9⟩
  have D1 := Lib.hid (D0.out.trans (b9.mono (H0.out _ D0.out).2.2.2.2.1))
  have hz0v := (H0.out _ D0.out).2.2.2.2.1
  obtain ⟨om, hcl, hfr, _, _⟩ := OD.out.put b9 (by omega) HR5.out ho9
  have OMF := Lib.hid om
  have XE := Lib.hid (XD.out.below b9)
  have hF1 : v1.cell? ⟨g8, 1, none⟩ = some (.slice (some ⟨gO, 0, none⟩) n c5) ∧ v1.cell? ⟨g + 1, 2, none⟩ = some (.int .i64 d) := ⟨XE.out.cell (j := 1) rfl, (H0.out _ D1.out).2.1.cell (j := 2) rfl⟩
  clear hF hG ho9 b9 om D0
  refine hK.out _ _ hF1 hcl ?_
  clear hK
  (try simp only [Act.put, List.setIfInBounds_toArray, List.set_cons_zero, List.set_cons_succ])
  have hF := hF1
  have hG := hcl
  clear hF1
  iterate 2 (refine TF.val1 (v := ?_) ?_ ?_ ?_ ?_ ?_ ?_; rotate_left; (focus rfl); (focus (intro W hSW; (try dsimp only at hSW); (try (obtain ⟨hS1, hSW⟩ := hSW)); (try (obtain ⟨hS2, hSW⟩ := hSW)); (try (obtain ⟨hS3, hSW⟩ := hSW)); (try (obtain ⟨hS4, hSW⟩ := hSW)); (try (obtain ⟨hS5, hSW⟩ := hSW)); (try (obtain ⟨hS6, hSW⟩ := hSW)); (try (obtain ⟨hS7, hSW⟩ := hSW)); (try (obtain ⟨hS8, hSW⟩ := hSW)); go_simp; (try with_reducible rfl); done)); (focus exact fun _ _ _ h => h); (focus exact hF); (focus exact hG); simp only [Act.put, List.setIfInBounds_toArray, List.set_cons_zero, List.set_cons_succ])
  have HXS := Lib.hid (show VArr 27 (v1.setCell ⟨gO, i * 2 + 1, none⟩ (.slice A9 n9 c9)) g8 [.int .i64 own, .slice (some ⟨gO, 0, none⟩) n c5] from XE.out.setOther (by show g8 ≠ gO; have := (hOl.out gO rfl).2; omega) _)
  have HYS := Lib.hid (show VArr 27 (v1.setCell ⟨gO, i * 2 + 1, none⟩ (.slice A9 n9 c9)) (g + 2) [.int .i64 0, .slice none 0 0] from (H0.out _ D1.out).2.2.1.setOther (by show g + 2 ≠ gO; omega) _)
  have HCS := Lib.hid (show VArr 41 (v1.setCell ⟨gO, i * 2 + 1, none⟩ (.slice A9 n9 c9)) (g + 1) [.int .i64 4, .string f, .int .i64 d] from (H0.out _ D1.out).2.1.setOther (by show g + 1 ≠ gO; omega) _)
  have BST := Lib.hid ((H0.out _ D1.out).2.2.2.2.2.setCell (p := ⟨gO, i * 2 + 1, none⟩) (show g ≤ gO by omega) (.slice A9 n9 c9))
  have HPF := Lib.hid (show (rs5.take i ++ ⟨r5.f, A9, n9, c9, r5.ds.filter fun x => !decide (x = d)⟩ :: rs5.drop (i + 1)).map Rw.p = (rs.map Rw.p).map fun x => if x.1 = f then (fun x : PRow => (x.1, x.2.filter fun y => !decide (y = d))) x else x by
    have h := fnd_at (rows_all (chk_ok HCK.out).2.2).2 (show (rs.map Rw.p)[i]? = some r.p by rw [List.getElem?_map, HRI.out]; rfl) (g := (fun x : PRow => (x.1, x.2.filter fun y => !decide (y = d)))) (f := f)
    rw [show (r.p).1 = f from HRF.out] at h
    rw [h, List.map_append, List.map_cons, List.map_take, List.map_drop, HP5.out]
    congr 2
    refine Prod.ext ?_ HNW.out
    show r5.f = f
    exact (congrArg Prod.fst HRP.out).trans HRF.out)
  refine TF.eff4 (by rfl) (fun K hK => ?_); go_simp
  refine hK.out _ _ ⟨HXS.out.cell (j := 1) rfl, HCS.out.cell (j := 2) rfl⟩ ?_
  refine TF.done ?_
  clear hK hF hG hcl hfr
  generalize (v1.setCell ⟨gO, i * 2 + 1, none⟩ (.slice A9 n9 c9)) = v2 at *
  have e0 := HXS.out.cell (j := 0) rfl
  have e1 := HXS.out.cell (j := 1) rfl
  have HYF := Lib.hid (show v2.heap[g + 2]? = some (.cells #[.int .i64 0, .slice none 0 0] 27 (0, 0)) from HYS.out)
  have XS := Lib.hid (setRow_heap v2 (g + 2) _ #[.int .i64 own, .slice (some ⟨gO, 0, none⟩) n c5] _ _ HYF.out)
  have BS := Lib.hid (below_setRow BST.out (Nat.le_add_right g 2) #[.int .i64 own, .slice (some ⟨gO, 0, none⟩) n c5])
  have HOM := Lib.hid ((OMF.out.setRow (g := g + 2) (by omega) #[.int .i64 own, .slice (some ⟨gO, 0, none⟩) n c5]).reads)
  go_wp2_with (first
    | (refine wpList_store_row rfl 27 (.tmp 4) (.tmp 206) rfl (g + 2) #[.int .i64 own, .slice (some ⟨gO, 0, none⟩) n c5] rfl rfl 27 _ HYF.out HIM.out rfl (by simp [Value.oneCell']) ?_)
    | fail)
  first
    | exact bodyPost_ret (results_row_tmp Try.results26 _ _ (g + 2) _ #[.int .i64 own, .slice (some ⟨gO, 0, none⟩) n c5] _ _ rfl XS.out Try.underlying27 rfl HIM.out) rfl ⟨some ⟨gO, 0, none⟩, n, c5, (rs5.take i ++ ⟨r5.f, A9, n9, c9, r5.ds.filter fun x => !decide (x = d)⟩ :: rs5.drop (i + 1)), by rw [HE.out]; rfl, HOM.out, by rw [HE.out]; exact HPF.out, by omega, HG.out ▸ BS.out⟩
    | exact bodyPost_ret (results_row_tmp Try.results26 _ _ (g + 2) _ #[.int .i64 own, .slice (some ⟨gO, 0, none⟩) n c5] _ _ rfl XS.out Try.underlying27 rfl HIM.out) rfl ⟨some ⟨gO, 0, none⟩, n, ⟨c5, by rw [HE.out]; rfl⟩, (rs5.take i ++ ⟨r5.f, A9, n9, c9, r5.ds.filter fun x => !decide (x = d)⟩ :: rs5.drop (i + 1)), HOM.out, by rw [HE.out]; exact HPF.out, by omega, HG.out ▸ BS.out⟩
    | exact bodyPost_ret (results_row_tmp Try.results26 _ _ (g + 2) _ #[.int .i64 own, .slice (some ⟨gO, 0, none⟩) n c5] _ _ rfl XS.out Try.underlying27 rfl HIM.out) rfl ⟨some ⟨gO, 0, none⟩, n, c5, by rw [HE.out]; rfl, (rs5.take i ++ ⟨r5.f, A9, n9, c9, r5.ds.filter fun x => !decide (x = d)⟩ :: rs5.drop (i + 1)), HOM.out, by rw [HE.out]; exact HPF.out, by omega, HG.out ▸ BS.out⟩
end Go.Proofs.Ytikegnnlmfidfaa
