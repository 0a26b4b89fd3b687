/-
  Matrices: the reference's Apply.
-/
import Derived.Test.YtikegnnlmfidfaaMatCc
import Derived.Test.YtikegnnlmfidfaaMatLd
import Derived.Test.YtikegnnlmfidfaaMatF
import Derived.Test.YtikegnnlmfidfaaMatC
import Derived.ArgAppend
namespace Go.Proofs.Ytikegnnlmfidfaa
open Go.RowKit
section
variable {o : Oper} {a : Act} {K : Act → World → Prop} {Q : Exit → Act → World → Prop} {w : World}
/-- Rows but one: what comes behind put behind what comes ahead (the room ahead is full). The result reads so in any world that is alike but in block q. -/
theorem wp_appCut (s x : Operand) (ho : o.op = .call { callee := .builtin .append, args := #[s, x], argTypes := #[25, 25] })
    (base g i n c cc q : Nat) (rs : List Rw) (hown : OwnM w base (some ⟨g, 0, none⟩) n c rs) (hi : i < n) (hn : n ≤ 100000) (hbase : base ≤ w.heap.size) (hq : q < w.heap.size)
    (hg : g < q) (hqs : ∀ r ∈ rs, ∀ j, (Value.slice r.a r.n r.c).ownBlock = some j → j < q)
    (hs : a.eval s = .slice (some ⟨g, 0, none⟩) i i) (ad : Addr) (hx : a.eval x = .slice (some ad) (n - (i + 1)) cc) (had : i + 1 < n → ad = ⟨g, (i + 1) * 2, none⟩)
    (h : ∀ A' c' w', (∀ V : World, (∀ j, base ≤ j → j < w'.heap.size → j ≠ q → V.heap[j]? = w'.heap[j]?) → RowsR V V.heap.size A' (n - 1) (rs.take i ++ rs.drop (i + 1))) → Below w.heap.size w w' → K (a.put o.dst (.slice A' (n - 1) c')) w') : o.wp Try.prog a w K Q := by
  obtain ⟨i0, hi0, hz0, hz1, hz2⟩ := info_parts info_R
  have hln := hown.len
  have hbg := (hown.row.lt g rfl)
  have htl : (rs.take i).length = i := by rw [List.length_take]; omega
  have hdl : (rs.drop (i + 1)).length = n - (i + 1) := by rw [List.length_drop]; omega
  have hold : ((rs.take i).flatMap Rw.cells).length = i * 2 := by rw [flat_len Rw.cells_len, htl]
  have holds : ∀ (W : World), W.heap[g]? = w.heap[g]? → ∀ j u, ((rs.take i).flatMap Rw.cells)[j]? = some u → W.cell? ((⟨g, 0, none⟩ : Addr).add j) = some u := fun W hW j u hu => by
    have hj := (List.getElem?_eq_some_iff.1 hu).1
    have h1 : W.cell? ⟨g, j, none⟩ = w.cell? ⟨g, j, none⟩ := World.cell?_of_block hW
    rw [add_lit2, Nat.zero_add, h1, hown.row.cellAt j (by omega)]
    rw [← flat_take Rw.cells_len rs i, List.getElem?_take] at hu
    split at hu
    · exact hu
    · cases hu
  have hnews : ∀ j u, ((rs.drop (i + 1)).flatMap Rw.cells)[j]? = some u → w.cell? ((⟨g, (i + 1) * 2, none⟩ : Addr).add j) = some u := fun j u hu => by
    have hj := (List.getElem?_eq_some_iff.1 hu).1
    rw [flat_len Rw.cells_len, List.length_drop] at hj
    rw [add_lit2, hown.row.cellAt ((i + 1) * 2 + j) (by omega)]
    rw [← flat_drop Rw.cells_len rs (i + 1), List.getElem?_drop] at hu
    exact hu
  have hnl : ((rs.drop (i + 1)).flatMap Rw.cells).length = (n - (i + 1)) * 2 := by rw [flat_len Rw.cells_len, hdl]
  have hmem : ∀ r ∈ rs.take i ++ rs.drop (i + 1), r ∈ rs := fun r hr => by
    rcases List.mem_append.1 hr with hr | hr
    · exact List.mem_of_mem_take hr
    · exact List.mem_of_mem_drop hr
  have heach : ∀ (w' V : World), Below w.heap.size w w' → (∀ j, base ≤ j → j < w'.heap.size → j ≠ q → V.heap[j]? = w'.heap[j]?) → ∀ r ∈ rs.take i ++ rs.drop (i + 1), RwIn V V.heap.size r := fun w' V hb hV r hr => by
    have hI := (hown.each r (hmem r hr)).1
    have hIV : IOwn V base r.a r.n r.c r.ds := hI.keep fun j hj => by
      have hl := hI.lt j hj
      have := hqs r (hmem r hr) j hj
      exact (hV j hl.1 (Nat.lt_of_lt_of_le hl.2 hb.size) (by omega)).trans (hb.block j hl.2)
    exact ⟨hIV.reads, hI.2, hI.cm, (hown.each r (hmem r hr)).2⟩
  by_cases hm : i + 1 = n
  · have hd : rs.drop (i + 1) = [] := List.drop_of_length_le (by omega)
    have hrun : (Builtin.append_ #[25, 25] o.type #[.slice (some ⟨g, 0, none⟩) i i, .slice (some ad) (n - (i + 1)) cc]).run Try.prog w = .ok (.slice (some ⟨g, 0, none⟩) i i) w := by
      have hr := run_append_room_cells (P := Try.prog) w 25 o.type 56 i0 Try.underlying25 hi0 g 0 i i ad (n - (i + 1)) cc [] (by rw [show n - (i + 1) = 0 by omega]; simp) (by simp) (by simp) (by omega) (by simp) (by simp)
      rw [hr]
      rw [show i + (n - (i + 1)) = i by omega]
      rfl
    unfold Oper.wp execOp
    simp only [ho, resolve, invoke, builtin, Sem.run_bind, Sem.run_pure, Result.andThen_ok, List.map_toArray, List.map_cons, List.map_nil, hs, hx, hrun]
    have := h (some ⟨g, 0, none⟩) i w (fun V hV => ⟨?_, heach w V (Below.refl _ _) hV⟩) (Below.refl _ _)
    · rw [show n - 1 = i by omega] at this
      exact this
    · rw [hd, List.append_nil, show n - 1 = i by omega]
      refine ⟨hold, fun _ => ⟨_, rfl, ?_, holds V (hV g hbg.1 hbg.2 (by omega))⟩⟩
      have h1 := hV g hbg.1 hbg.2 (by omega)
      rcases Nat.lt_or_ge g V.heap.size with hlt | hge
      · exact hlt
      · rw [Array.getElem?_eq_none hge, Array.getElem?_eq_getElem hbg.2] at h1
        cases h1
  · obtain rfl := had (by omega)
    obtain ⟨v', w', hrun, r1, r2⟩ := run_append_arg_grows (P := Try.prog) w 25 o.type 56 i0 _ 2 40 Try.underlying25 hi0 hz0 hz1 hz2 rfl (by decide) ⟨g, 0, none⟩ i i _ hold (holds w rfl) ⟨g, (i + 1) * 2, none⟩ (n - (i + 1)) cc _ hnl hnews (by omega) (by simp only [maxLen]; omega) (by omega)
    have hb : Below w.heap.size w w' := ⟨r2.os, r2.tape, r2.output, r2.size, fun k hk => r2.block k hk (by simp)⟩
    obtain ⟨A', c', rfl, hc⟩ := own_shape r1
    unfold Oper.wp execOp
    simp only [ho, resolve, invoke, builtin, Sem.run_bind, Sem.run_pure, Result.andThen_ok, List.map_toArray, List.map_cons, List.map_nil, hs, hx, hrun]
    rw [show i + (n - (i + 1)) = n - 1 by omega] at r1 ⊢
    refine h A' c' w' (fun V hV => ⟨?_, heach w' V hb hV⟩) hb
    rw [List.flatMap_append]
    exact Reads.of_own (own_keep r1 fun j hj => hV j (Nat.le_trans hbase (r1.lt j hj).1) (r1.lt j hj).2 (by have := (r1.lt j hj).1; omega))
end
set_option maxRecDepth 100000 in
set_option maxHeartbeats 16000000 in
theorem rapply2_v (own : Int) (A : Option Addr) (n c B : Nat) (rs : List Rw) (f : ByteArray) (d : Int) (w : World) (hr : RowsR w B A n rs) (hB : B ≤ w.heap.size) (hn : n ≤ 9223372036854775807) (hfs : f.size ≤ 9223372036854775807) :
    Calls Try.prog 26 #[.agg #[.int .i64 own, .slice A n c], .agg #[.int .i64 2, .string f, .int .i64 d]] w fun e w' => ∃ A' n' c' rs', e = .returned (.tuple #[.agg #[.int .i64 (applyP (own, rs.map Rw.p) (2, f, d)).1.1, .slice A' n' c'], .int .i64 ((applyP (own, rs.map Rw.p) (2, f, d)).2 : Int)]) ∧ RowsR w' w'.heap.size A' n' rs' ∧ rs'.map Rw.p = (applyP (own, rs.map Rw.p) (2, f, d)).1.2 ∧ n' ≤ 9 ∧ Below w.heap.size w w' := by
  have HIM := Lib.hid (show (Try.prog.info? 27).map (·.size) = some 2 by kernel_rfl)
  have HR := Lib.hid hr
  have HLN := Lib.hid hr.len
  have X0 := Lib.hid (boxes3c w 27 41 27 [.int .i64 own, .slice A n c] [.int .i64 2, .string f, .int .i64 d] [.int .i64 0, .slice none 0 0])
  clear hr
  go_enter Try.func26, Try.ntmps26
  go_upto_region 1 with fail
  generalize hw0 : ((w.alloc (.cells #[.int .i64 own, .slice A n c] 27)).alloc (.cells #[.int .i64 2, .string f, .int .i64 d] 41)).alloc (.cells #[.int .i64 0, .slice none 0 0] 27) = w0 at *
  clear hw0
  generalize hg : w.heap.size = g at *
  have HG := Lib.hid hg
  clear hg
  have H0 := Lib.hid (show ∀ V, Below w0.heap.size w0 V → VArr 27 V g [.int .i64 own, .slice A n c] ∧ VArr 41 V (g + 1) [.int .i64 2, .string f, .int .i64 d] ∧ VArr 27 V (g + 2) [.int .i64 0, .slice none 0 0] ∧ RowsR V B A n rs ∧ w0.heap.size ≤ V.heap.size ∧ Below g w V from fun V h => by
    obtain ⟨h1, h2, h3, h4, h5⟩ := X0.out
    have h6 : Below g w V := h4.trans (h.mono (by omega))
    exact ⟨h1.below h, h2.below h, h3.below h, HR.out.below (h6.mono hB), h.size, h6⟩)
  have hz0 : g + 3 ≤ w0.heap.size := Nat.le_of_eq X0.out.2.2.2.2.symm
  have T0 := Lib.hid (Below.refl w0.heap.size w0)
  clear X0
  generalize w0.heap.size = z0 at *
  have hBz : B ≤ z0 := by omega
  have c0 := (H0.out _ T0.out).1.cell (j := 0) rfl
  have c1 := (H0.out _ T0.out).1.cell (j := 1) rfl
  have CV := rcheck_v own A n c B rs w0 (H0.out _ T0.out).2.2.2.1 (Nat.le_trans hBz (H0.out _ T0.out).2.2.2.2.1) hn
  obtain ⟨ck, hck⟩ : ∃ ck, chkM (own, rs.map Rw.p) = ck := ⟨_, rfl⟩
  have HCK := Lib.hid hck
  rw [hck] at CV
  clear hck
  go_wp2_with fail
  refine CV.mono ?_
  rintro e w1 ⟨rfl, b1⟩
  have T1 := Lib.hid (T0.out.trans (b1.mono (H0.out _ T0.out).2.2.2.2.1))
  clear b1 CV c0 c1 T0
  by_cases hk0 : ck = 0
  case neg =>
    have d1 : ((ck : Int) != 0) = true := by simp; omega
    have HE := Lib.hid (show applyP (own, rs.map Rw.p) (2, f, d) = ((0, []), ck) by rw [apply_chk (by rw [HCK.out]; exact hk0), HCK.out])
    clear hk0
    have HYF := Lib.hid (show w1.heap[g + 2]? = some (.cells #[.int .i64 0, .slice none 0 0] 27 (0, 0)) from (H0.out _ T1.out).2.2.1)
    have XS := Lib.hid (setRow_heap w1 (g + 2) _ #[.int .i64 0, .slice none 0 0] _ _ HYF.out)
    have BS := Lib.hid (below_setRow (H0.out _ T1.out).2.2.2.2.2 (Nat.le_add_right g 2) #[.int .i64 0, .slice none 0 0])
    go_wp2_with (first
      | (refine wpList_store_row rfl 27 (.tmp 4) (.tmp 17) rfl (g + 2) #[.int .i64 0, .slice none 0 0] rfl rfl 27 _ HYF.out HIM.out rfl (by simp [Value.oneCell']) ?_)
      | fail)
    first
      | exact bodyPost_ret (results_row_tmp Try.results26 _ _ (g + 2) _ #[.int .i64 0, .slice none 0 0] _ _ rfl XS.out Try.underlying27 rfl HIM.out) rfl ⟨none, 0, 0, [], by rw [HE.out]; rfl, ⟨Reads.none_, by simp⟩, by rw [HE.out]; rfl, by omega, HG.out ▸ BS.out⟩
      | exact bodyPost_ret (results_row_tmp Try.results26 _ _ (g + 2) _ #[.int .i64 0, .slice none 0 0] _ _ rfl XS.out Try.underlying27 rfl HIM.out) rfl ⟨none, 0, ⟨0, by rw [HE.out]; rfl⟩, [], ⟨Reads.none_, by simp⟩, by rw [HE.out]; rfl, by omega, HG.out ▸ BS.out⟩
      | exact bodyPost_ret (results_row_tmp Try.results26 _ _ (g + 2) _ #[.int .i64 0, .slice none 0 0] _ _ rfl XS.out Try.underlying27 rfl HIM.out) rfl ⟨none, 0, 0, by rw [HE.out]; rfl, [], ⟨Reads.none_, by simp⟩, by rw [HE.out]; rfl, by omega, HG.out ▸ BS.out⟩
  subst hk0
  have d1 : (((0 : Nat) : Int) != 0) = false := rfl
  have hle := (chk_ok HCK.out).1
  have hn8 : n ≤ 8 := by rw [List.length_map, HLN.out] at hle; exact hle
  clear hle hn
  have c0 := (H0.out _ T1.out).1.cell (j := 0) rfl
  have c1 := (H0.out _ T1.out).1.cell (j := 1) rfl
  have a0 := (H0.out _ T1.out).2.1.cell (j := 0) rfl
  have a1 := (H0.out _ T1.out).2.1.cell (j := 1) rfl
  have a2 := (H0.out _ T1.out).2.1.cell (j := 2) rfl
  have FV := rfolder_v f w1 hfs
  go_wp2_with fail
  cases hf : folderP f with
  | false =>
    have HE := Lib.hid (apply_bad (m := (own, rs.map Rw.p)) (c := (2, f, d)) HCK.out (.inr (.inr (.inl hf))))
    rw [hf] at FV
    clear hf
    refine FV.mono ?_
    rintro e _ ⟨rfl, rfl⟩
    have c0 := (H0.out _ T1.out).1.cell (j := 0) rfl
    have c1 := (H0.out _ T1.out).1.cell (j := 1) rfl
    have a0 := (H0.out _ T1.out).2.1.cell (j := 0) rfl
    have a1 := (H0.out _ T1.out).2.1.cell (j := 1) rfl
    have a2 := (H0.out _ T1.out).2.1.cell (j := 2) rfl
    have HYF := Lib.hid (show w1.heap[g + 2]? = some (.cells #[.int .i64 0, .slice none 0 0] 27 (0, 0)) from (H0.out _ T1.out).2.2.1)
    have XS := Lib.hid (setRow_heap w1 (g + 2) _ #[.int .i64 0, .slice none 0 0] _ _ HYF.out)
    have BS := Lib.hid (below_setRow (H0.out _ T1.out).2.2.2.2.2 (Nat.le_add_right g 2) #[.int .i64 0, .slice none 0 0])
    go_wp2_with (first
      | (refine wpList_store_row rfl 27 (.tmp 4) (.tmp 66) rfl (g + 2) #[.int .i64 0, .slice none 0 0] rfl rfl 27 _ HYF.out HIM.out rfl (by simp [Value.oneCell']) ?_)
      | fail)
    first
      | exact bodyPost_ret (results_row_tmp Try.results26 _ _ (g + 2) _ #[.int .i64 0, .slice none 0 0] _ _ rfl XS.out Try.underlying27 rfl HIM.out) rfl ⟨none, 0, 0, [], by rw [HE.out]; rfl, ⟨Reads.none_, by simp⟩, by rw [HE.out]; rfl, by omega, HG.out ▸ BS.out⟩
      | exact bodyPost_ret (results_row_tmp Try.results26 _ _ (g + 2) _ #[.int .i64 0, .slice none 0 0] _ _ rfl XS.out Try.underlying27 rfl HIM.out) rfl ⟨none, 0, ⟨0, by rw [HE.out]; rfl⟩, [], ⟨Reads.none_, by simp⟩, by rw [HE.out]; rfl, by omega, HG.out ▸ BS.out⟩
      | exact bodyPost_ret (results_row_tmp Try.results26 _ _ (g + 2) _ #[.int .i64 0, .slice none 0 0] _ _ rfl XS.out Try.underlying27 rfl HIM.out) rfl ⟨none, 0, 0, by rw [HE.out]; rfl, [], ⟨Reads.none_, by simp⟩, by rw [HE.out]; rfl, by omega, HG.out ▸ BS.out⟩
  | true =>
  rw [hf] at FV
  have HF := Lib.hid hf
  clear hf
  refine FV.mono ?_
  rintro e _ ⟨rfl, rfl⟩
  clear FV
  have c0 := (H0.out _ T1.out).1.cell (j := 0) rfl
  have c1 := (H0.out _ T1.out).1.cell (j := 1) rfl
  have a0 := (H0.out _ T1.out).2.1.cell (j := 0) rfl
  have a1 := (H0.out _ T1.out).2.1.cell (j := 1) rfl
  have a2 := (H0.out _ T1.out).2.1.cell (j := 2) rfl
  by_cases hd : d = 0
  case neg =>
    have d2 : (d != 0) = true := by simpa using hd
    have HE := Lib.hid (apply_bad (m := (own, rs.map Rw.p)) (c := (2, f, d)) HCK.out (.inr (.inr (.inr (.inr ⟨by simp, hd⟩)))))
    clear hd
    go_upto_region 6 with fail
    have HYF := Lib.hid (show w1.heap[g + 2]? = some (.cells #[.int .i64 0, .slice none 0 0] 27 (0, 0)) from (H0.out _ T1.out).2.2.1)
    have XS := Lib.hid (setRow_heap w1 (g + 2) _ #[.int .i64 0, .slice none 0 0] _ _ HYF.out)
    have BS := Lib.hid (below_setRow (H0.out _ T1.out).2.2.2.2.2 (Nat.le_add_right g 2) #[.int .i64 0, .slice none 0 0])
    go_wp2_with (first
      | (refine wpList_store_row rfl 27 (.tmp 4) (.tmp 66) rfl (g + 2) #[.int .i64 0, .slice none 0 0] rfl rfl 27 _ HYF.out HIM.out rfl (by simp [Value.oneCell']) ?_)
      | fail)
    first
      | exact bodyPost_ret (results_row_tmp Try.results26 _ _ (g + 2) _ #[.int .i64 0, .slice none 0 0] _ _ rfl XS.out Try.underlying27 rfl HIM.out) rfl ⟨none, 0, 0, [], by rw [HE.out]; rfl, ⟨Reads.none_, by simp⟩, by rw [HE.out]; rfl, by omega, HG.out ▸ BS.out⟩
      | exact bodyPost_ret (results_row_tmp Try.results26 _ _ (g + 2) _ #[.int .i64 0, .slice none 0 0] _ _ rfl XS.out Try.underlying27 rfl HIM.out) rfl ⟨none, 0, ⟨0, by rw [HE.out]; rfl⟩, [], ⟨Reads.none_, by simp⟩, by rw [HE.out]; rfl, by omega, HG.out ▸ BS.out⟩
      | exact bodyPost_ret (results_row_tmp Try.results26 _ _ (g + 2) _ #[.int .i64 0, .slice none 0 0] _ _ rfl XS.out Try.underlying27 rfl HIM.out) rfl ⟨none, 0, 0, by rw [HE.out]; rfl, [], ⟨Reads.none_, by simp⟩, by rw [HE.out]; rfl, by omega, HG.out ▸ BS.out⟩
  subst hd
  have HNB := Lib.hid (show ¬ badC (own, rs.map Rw.p) (2, f, 0) from by unfold badC; simp [HF.out])
  have RC := rcopy_v own A n c B rs w1 (H0.out _ T1.out).2.2.2.1 (Nat.le_trans hBz (H0.out _ T1.out).2.2.2.2.1) (by omega) (fun r hr => by
    have h := (rows_all (chk_ok HCK.out).2.2).1 r.p (List.mem_map_of_mem hr)
    have h2 := with_len h.2.2 (by decide)
    have h3 := (HR.out.each r hr).i.len
    have h4 : (r.p).2.length = r.n := h3
    omega)
  go_wp2_with fail
  refine RC.mono ?_
  rintro e w3 ⟨A5, c5, rs5, rfl, o5, hp5, b3⟩
  have T3 := Lib.hid (T1.out.trans (b3.mono (H0.out _ T1.out).2.2.2.2.1))
  have O3 := Lib.hid o5
  have HP5 := Lib.hid hp5
  have hz3 := b3.size
  have hz1 := (H0.out _ T1.out).2.2.2.2.1
  clear RC b3 o5 hp5 c0 c1 a0 a1 a2 T1 d1
  generalize w1.heap.size = z1 at *
  go_upto_region 8 with fail
  have b4 := (Below.refl w3.heap.size w3).alloc (Nat.le_refl _) (.cells #[.int .i64 own, .slice A5 n c5] 27)
  have T4 := Lib.hid (T3.out.trans (b4.mono (by omega)))
  have O4 := Lib.hid (O3.out.below b4)
  have X4 := Lib.hid (show VArr 27 (w3.alloc (.cells #[.int .i64 own, .slice A5 n c5] 27)) w3.heap.size [.int .i64 own, .slice A5 n c5] from heap_alloc_new w3 _)
  have hOl := Lib.hid (fun j (hj : (Value.slice A5 n c5).ownBlock = some j) => O3.out.row.lt j hj)
  have HQS := Lib.hid (show ∀ r ∈ rs5, ∀ j, (Value.slice r.a r.n r.c).ownBlock = some j → j < w3.heap.size from fun r hr j hj => ((O3.out.each r hr).1.lt j hj).2)
  clear b4 T3 O3
  generalize w3.alloc (.cells #[.int .i64 own, .slice A5 n c5] 27) = w4 at *
  generalize w3.heap.size = g8 at *
  have c0 := (H0.out _ T4.out).1.cell (j := 0) rfl
  have c1 := (H0.out _ T4.out).1.cell (j := 1) rfl
  have a1 := (H0.out _ T4.out).2.1.cell (j := 1) rfl
  have RV := rrow_v own A n c B rs f w4 (H0.out _ T4.out).2.2.2.1 (Nat.le_trans hBz (H0.out _ T4.out).2.2.2.2.1) (by omega)
  go_wp2_with fail
  refine RV.mono ?_
  rintro e w5 ⟨z, rfl, hz, b5⟩
  have T5 := Lib.hid (T4.out.trans (b5.mono (H0.out _ T4.out).2.2.2.2.1))
  have O5 := Lib.hid (O4.out.below b5)
  have X5 := Lib.hid (X4.out.below b5)
  clear RV b5 c0 c1 a1 T4 O4 X4
  have c0 := (H0.out _ T5.out).1.cell (j := 0) rfl
  have c1 := (H0.out _ T5.out).1.cell (j := 1) rfl
  have a0 := (H0.out _ T5.out).2.1.cell (j := 0) rfl
  have a1 := (H0.out _ T5.out).2.1.cell (j := 1) rfl
  have a2 := (H0.out _ T5.out).2.1.cell (j := 2) rfl
  rcases hz with ⟨rfl, hrw⟩ | ⟨i, r, rfl, hri, hrw⟩
  · have HE := Lib.hid (show applyP (own, rs.map Rw.p) (2, f, 0) = ((0, []), 6) by
      rw [apply_none HCK.out HNB.out (by have h := hrw; unfold rowP at h; rwa [if_pos HCK.out] at h), if_neg (by simp)])
    clear hrw
    have HYF := Lib.hid (show w5.heap[g + 2]? = some (.cells #[.int .i64 0, .slice none 0 0] 27 (0, 0)) from (H0.out _ T5.out).2.2.1)
    have XS := Lib.hid (setRow_heap w5 (g + 2) _ #[.int .i64 0, .slice none 0 0] _ _ HYF.out)
    have BS := Lib.hid (below_setRow (H0.out _ T5.out).2.2.2.2.2 (Nat.le_add_right g 2) #[.int .i64 0, .slice none 0 0])
    go_wp2_with (first
      | (refine wpList_store_row rfl 27 (.tmp 4) (.tmp 139) rfl (g + 2) #[.int .i64 0, .slice none 0 0] rfl rfl 27 _ HYF.out HIM.out rfl (by simp [Value.oneCell']) ?_)
      | fail)
    first
      | exact bodyPost_ret (results_row_tmp Try.results26 _ _ (g + 2) _ #[.int .i64 0, .slice none 0 0] _ _ rfl XS.out Try.underlying27 rfl HIM.out) rfl ⟨none, 0, 0, [], by rw [HE.out]; rfl, ⟨Reads.none_, by simp⟩, by rw [HE.out]; rfl, by omega, HG.out ▸ BS.out⟩
      | exact bodyPost_ret (results_row_tmp Try.results26 _ _ (g + 2) _ #[.int .i64 0, .slice none 0 0] _ _ rfl XS.out Try.underlying27 rfl HIM.out) rfl ⟨none, 0, ⟨0, by rw [HE.out]; rfl⟩, [], ⟨Reads.none_, by simp⟩, by rw [HE.out]; rfl, by omega, HG.out ▸ BS.out⟩
      | exact bodyPost_ret (results_row_tmp Try.results26 _ _ (g + 2) _ #[.int .i64 0, .slice none 0 0] _ _ rfl XS.out Try.underlying27 rfl HIM.out) rfl ⟨none, 0, 0, by rw [HE.out]; rfl, [], ⟨Reads.none_, by simp⟩, by rw [HE.out]; rfl, by omega, HG.out ▸ BS.out⟩
  have hfnd : fnd f (rs.map Rw.p) = some r.p := by have h := hrw; unfold rowP at h; rwa [if_pos HCK.out] at h
  have HFN := Lib.hid hfnd
  have HRI := Lib.hid hri
  have HRF := Lib.hid (show r.f = f from fnd_name hfnd)
  have hin : i < n := by rw [← HLN.out]; exact (List.getElem?_eq_some_iff.1 hri).1
  have HSH := Lib.hid (show sharesP (own, rs.map Rw.p) f 0 = decide (0 ∈ r.ds) by unfold sharesP; rw [hrw]; rfl)
  obtain ⟨r5, hr5⟩ : ∃ r5, rs5[i]? = some r5 := ⟨_, List.getElem?_eq_getElem (by rw [O5.out.len]; exact hin)⟩
  have HR5 := Lib.hid hr5
  have HRP := Lib.hid (show r5.p = r.p by
    have h1 := congrArg (fun l => l[i]?) HP5.out
    simp only [List.getElem?_map, hr5, hri, Option.map_some] at h1
    exact Option.some.inj h1)
  have HRN := Lib.hid (show r5.n ≤ 16 from by
    have h := (rows_all (chk_ok HCK.out).2.2).1 r.p (List.mem_map_of_mem (List.mem_of_getElem? hri))
    have h2 := with_len h.2.2 (by decide)
    have h3 := (O5.out.each r5 (List.mem_of_getElem? hr5)).1.len
    have h4 : r5.ds = r.ds := congrArg Prod.snd HRP.out
    have h5 : (r.p).2.length = r5.n := by rw [← h3, h4]; rfl
    omega)
  clear hrw hfnd hri hr5
  obtain ⟨gO, rfl⟩ := own_some O5.out.row (by omega)
  have hgO := O5.out.row.lt gO rfl
  have SV := rshares_v own A n c B rs f 0 w5 (H0.out _ T5.out).2.2.2.1 (Nat.le_trans hBz (H0.out _ T5.out).2.2.2.2.1) (by omega)
  rw [HSH.out] at SV
  generalize decide ((0 : Int) ∈ r.ds) = sh at SV
  go_wp2_with fail
  refine SV.mono ?_
  rintro e w6 ⟨rfl, b6⟩
  have T6 := Lib.hid (T5.out.trans (b6.mono (H0.out _ T5.out).2.2.2.2.1))
  have O6 := Lib.hid (O5.out.below b6)
  have X6 := Lib.hid (X5.out.below b6)
  have hz6 := b6.size
  clear SV b6 c0 c1 a0 a1 a2 T5 O5 X5
  have c0 := (H0.out _ T6.out).1.cell (j := 0) rfl
  have c1 := (H0.out _ T6.out).1.cell (j := 1) rfl
  have a0 := (H0.out _ T6.out).2.1.cell (j := 0) rfl
  have a1 := (H0.out _ T6.out).2.1.cell (j := 1) rfl
  have a2 := (H0.out _ T6.out).2.1.cell (j := 2) rfl
  have e0 := X6.out.cell (j := 0) rfl
  have e1 := X6.out.cell (j := 1) rfl
  have i0 : (0 : Int) ≤ (i : Int) := by omega
  have i1 : (i : Int) < (n : Int) := by omega
  have HE := Lib.hid (show applyP (own, rs.map Rw.p) (2, f, 0) = ((own, (rs.map Rw.p).filter fun x => !decide (x.1 = f)), 0) by
    rw [apply_some HCK.out HNB.out HFN.out, if_neg (by simp), if_pos rfl])
  go_upto_region 29 with fail
  have hF : w6.drew.cell? ⟨g + 1, 2, none⟩ = some (.int .i64 0) := a2
  have hG : w6.drew.cell? ⟨g8, 1, none⟩ = some (.slice (some ⟨gO, 0, none⟩) n c5) := e1
  have ic : (i : Int) ≤ (c5 : Int) := by have := O6.out.nc; omega
  have inn : (i : Int) + 1 ≤ (n : Int) := by omega
  have ncc : (n : Int) ≤ (c5 : Int) := by have := O6.out.nc; omega
  have dw : IntKind.i64.wrap ((i : Int) + 1) = (i : Int) + 1 := IntWalk.i64_in _ ⟨by omega, by omega⟩
  have i2 : (0 : Int) ≤ (i : Int) + 1 := by omega
  clear c0 c1 a0 a1 a2 e0 e1
  refine wp_region_F 12 [(0, 1), (1, 2), (2, 1), (3, 1), (4, 1), (5, 1), (6, 2), (7, 1), (8, 1), (9, 1), (10, 0), (11, 1), (12, 4)] (fun V => V.cell? ⟨g + 1, 2, none⟩ = some (.int .i64 0)) (fun V => V.cell? ⟨g8, 1, none⟩ = some (.slice (some ⟨gO, 0, none⟩) n c5)) (by kernel_rfl) (by kernel_rfl) (by kernel_rfl) (by kernel_rfl) (by kernel_rfl) (fun _ => ?_)
  simp only [outE, List.getElem?_cons_zero, List.getElem?_cons_succ, Option.getD_some]
  have bD : Below w6.heap.size w6 w6.drew := (Below.refl _ _).drew
  have D0 := Lib.hid (T6.out.trans (bD.mono (H0.out _ T6.out).2.2.2.2.1))
  have OD := Lib.hid (O6.out.below bD)
  have XD := Lib.hid (X6.out.below bD)
  clear bD T6 O6 X6
  generalize w6.drew = v0 at *
  iterate 1 (refine TF.val1 (v := ?_) ?_ ?_ ?_ ?_ ?_ ?_; rotate_left; (focus rfl); (focus (intro W hSW; (try dsimp only at hSW); (try (obtain ⟨hS1, hSW⟩ := hSW)); (try (obtain ⟨hS2, hSW⟩ := hSW)); (try (obtain ⟨hS3, hSW⟩ := hSW)); (try (obtain ⟨hS4, hSW⟩ := hSW)); (try (obtain ⟨hS5, hSW⟩ := hSW)); (try (obtain ⟨hS6, hSW⟩ := hSW)); (try (obtain ⟨hS7, hSW⟩ := hSW)); (try (obtain ⟨hS8, hSW⟩ := hSW)); go_simp; (try with_reducible rfl); done)); (focus exact fun _ _ _ h => h); (focus exact hF); (focus exact hG); simp only [Act.put, List.setIfInBounds_toArray, List.set_cons_zero, List.set_cons_succ])
  iterate 1 (refine TF.val2 (v := ?_) ?_ ?_ ?_ ?_ ?_ ?_; rotate_left; (focus rfl); (focus (intro W hSW; (try dsimp only at hSW); (try (obtain ⟨hS1, hSW⟩ := hSW)); (try (obtain ⟨hS2, hSW⟩ := hSW)); (try (obtain ⟨hS3, hSW⟩ := hSW)); (try (obtain ⟨hS4, hSW⟩ := hSW)); (try (obtain ⟨hS5, hSW⟩ := hSW)); (try (obtain ⟨hS6, hSW⟩ := hSW)); (try (obtain ⟨hS7, hSW⟩ := hSW)); (try (obtain ⟨hS8, hSW⟩ := hSW)); go_simp; (try with_reducible rfl); done)); (focus exact fun _ _ _ h => h); (focus exact hF); (focus exact hG); simp only [Act.put, List.setIfInBounds_toArray, List.set_cons_zero, List.set_cons_succ])
  iterate 4 (refine TF.val1 (v := ?_) ?_ ?_ ?_ ?_ ?_ ?_; rotate_left; (focus rfl); (focus (intro W hSW; (try dsimp only at hSW); (try (obtain ⟨hS1, hSW⟩ := hSW)); (try (obtain ⟨hS2, hSW⟩ := hSW)); (try (obtain ⟨hS3, hSW⟩ := hSW)); (try (obtain ⟨hS4, hSW⟩ := hSW)); (try (obtain ⟨hS5, hSW⟩ := hSW)); (try (obtain ⟨hS6, hSW⟩ := hSW)); (try (obtain ⟨hS7, hSW⟩ := hSW)); (try (obtain ⟨hS8, hSW⟩ := hSW)); go_simp; (try with_reducible rfl); done)); (focus exact fun _ _ _ h => h); (focus exact hF); (focus exact hG); simp only [Act.put, List.setIfInBounds_toArray, List.set_cons_zero, List.set_cons_succ])
  iterate 1 (refine TF.val2 (v := ?_) ?_ ?_ ?_ ?_ ?_ ?_; rotate_left; (focus rfl); (focus (intro W hSW; (try dsimp only at hSW); (try (obtain ⟨hS1, hSW⟩ := hSW)); (try (obtain ⟨hS2, hSW⟩ := hSW)); (try (obtain ⟨hS3, hSW⟩ := hSW)); (try (obtain ⟨hS4, hSW⟩ := hSW)); (try (obtain ⟨hS5, hSW⟩ := hSW)); (try (obtain ⟨hS6, hSW⟩ := hSW)); (try (obtain ⟨hS7, hSW⟩ := hSW)); (try (obtain ⟨hS8, hSW⟩ := hSW)); go_simp; (try with_reducible rfl); done)); (focus exact fun _ _ _ h => h); (focus exact hF); (focus exact hG); simp only [Act.put, List.setIfInBounds_toArray, List.set_cons_zero, List.set_cons_succ])
  iterate 3 (refine TF.val1 (v := ?_) ?_ ?_ ?_ ?_ ?_ ?_; rotate_left; (focus rfl); (focus (intro W hSW; (try dsimp only at hSW); (try (obtain ⟨hS1, hSW⟩ := hSW)); (try (obtain ⟨hS2, hSW⟩ := hSW)); (try (obtain ⟨hS3, hSW⟩ := hSW)); (try (obtain ⟨hS4, hSW⟩ := hSW)); (try (obtain ⟨hS5, hSW⟩ := hSW)); (try (obtain ⟨hS6, hSW⟩ := hSW)); (try (obtain ⟨hS7, hSW⟩ := hSW)); (try (obtain ⟨hS8, hSW⟩ := hSW)); go_simp; (try with_reducible rfl); done)); (focus exact fun _ _ _ h => h); (focus exact hF); (focus exact hG); simp only [Act.put, List.setIfInBounds_toArray, List.set_cons_zero, List.set_cons_succ])
  refine TF.eff0 (by rfl) (fun K hK => ?_)
  have hzb : z1 ≤ v0.heap.size := by
    have h1 := XD.out.lt
    have h2 := (hOl.out gO rfl).2
    omega
  obtain ⟨ad, hX, had⟩ : ∃ ad : Addr, (if c5 = i + 1 then some (⟨gO, 0, none⟩ : Addr) else some ⟨gO, (i + 1) * 2, none⟩) = some ad ∧ (i + 1 < n → ad = ⟨gO, (i + 1) * 2, none⟩) := by
    have hnc := OD.out.nc
    by_cases hce : c5 = i + 1
    · exact ⟨_, if_pos hce, fun h => by omega⟩
    · exact ⟨_, if_neg hce, fun _ => rfl⟩
  refine wp_appCut (.tmp 168) (.tmp 173) rfl z1 gO i n c5 (c5 - (i + 1)) g8 rs5 OD.out hin (by omega) hzb XD.out.lt (hOl.out gO rfl).2 HQS.out (by rfl) ad (congrArg (fun X => Value.slice X (n - (i + 1)) (c5 - (i + 1))) hX) had ?_
  intro A9 c9 v1 hrd b9
  clear hX had
  have D1 := Lib.hid (D0.out.trans (b9.mono (H0.out _ D0.out).2.2.2.2.1))
  have XE := Lib.hid (XD.out.below b9)
  have HRD := Lib.hid hrd
  have hF1 : v1.cell? ⟨g + 1, 2, none⟩ = some (.int .i64 0) := (H0.out _ D1.out).2.1.cell (j := 2) rfl
  have hG1 : v1.cell? ⟨g8, 1, none⟩ = some (.slice (some ⟨gO, 0, none⟩) n c5) := XE.out.cell (j := 1) rfl
  clear hF hG hrd b9 D0
  refine hK.out _ _ hF1 hG1 ?_
  clear hK
  (try simp only [Act.put, List.setIfInBounds_toArray, List.set_cons_zero, List.set_cons_succ])
  have hF := hF1
  have hG := hG1
  clear hF1 hG1
  iterate 1 (refine TF.val1 (v := ?_) ?_ ?_ ?_ ?_ ?_ ?_; rotate_left; (focus rfl); (focus (intro W hSW; (try dsimp only at hSW); (try (obtain ⟨hS1, hSW⟩ := hSW)); (try (obtain ⟨hS2, hSW⟩ := hSW)); (try (obtain ⟨hS3, hSW⟩ := hSW)); (try (obtain ⟨hS4, hSW⟩ := hSW)); (try (obtain ⟨hS5, hSW⟩ := hSW)); (try (obtain ⟨hS6, hSW⟩ := hSW)); (try (obtain ⟨hS7, hSW⟩ := hSW)); (try (obtain ⟨hS8, hSW⟩ := hSW)); go_simp; (try with_reducible rfl); done)); (focus exact fun _ _ _ h => h); (focus exact hF); (focus exact hG); simp only [Act.put, List.setIfInBounds_toArray, List.set_cons_zero, List.set_cons_succ])
  have hfz : v1.frozen? ⟨g8, 1, none⟩ = false := XE.out.frozen 1
  have HXS := Lib.hid (show VArr 27 (v1.setCell ⟨g8, 1, none⟩ (.slice A9 (n - 1) c9)) g8 [.int .i64 own, .slice A9 (n - 1) c9] from XE.out.set_ 1 (.slice A9 (n - 1) c9))
  have hg8 := (hOl.out gO rfl)
  have HYS := Lib.hid (show VArr 27 (v1.setCell ⟨g8, 1, none⟩ (.slice A9 (n - 1) c9)) (g + 2) [.int .i64 0, .slice none 0 0] from (H0.out _ D1.out).2.2.1.setOther (by show g + 2 ≠ g8; omega) _)
  have HCS := Lib.hid (show VArr 41 (v1.setCell ⟨g8, 1, none⟩ (.slice A9 (n - 1) c9)) (g + 1) [.int .i64 2, .string f, .int .i64 0] from (H0.out _ D1.out).2.1.setOther (by show g + 1 ≠ g8; omega) _)
  have BST := Lib.hid ((H0.out _ D1.out).2.2.2.2.2.setCell (p := ⟨g8, 1, none⟩) (show g ≤ g8 by omega) (.slice A9 (n - 1) c9))
  have HSO := Lib.hid (show ∀ j, j ≠ g8 → (v1.setCell ⟨g8, 1, none⟩ (.slice A9 (n - 1) c9)).heap[j]? = v1.heap[j]? from fun j hj => Below.heap_setCell v1 ⟨g8, 1, none⟩ _ j hj)
  have hszs : (v1.setCell ⟨g8, 1, none⟩ (.slice A9 (n - 1) c9)).heap.size = v1.heap.size := by simp [World.setCell]
  have HSZ := Lib.hid hszs
  clear hszs
  have HPF := Lib.hid (show (rs5.take i ++ rs5.drop (i + 1)).map Rw.p = (rs.map Rw.p).filter fun x => !decide (x.1 = f) by
    have h := filter_at (p := fun x : PRow => !decide (x.1 = f)) (show (rs.map Rw.p)[i]? = some r.p by rw [List.getElem?_map, HRI.out]; rfl) (by simp [show (r.p).1 = f from HRF.out]) (fun j y hy hj => by
      have := other_name (rows_all (chk_ok HCK.out).2.2).2 (show (rs.map Rw.p)[i]? = some r.p by rw [List.getElem?_map, HRI.out]; rfl) j y hy hj
      rw [show (r.p).1 = f from HRF.out] at this
      simpa using this)
    rw [h, List.map_append, List.map_take, List.map_drop, HP5.out])
  refine TF.eff4 (by rfl) (fun K hK => ?_); go_simp
  refine hK.out _ _ (HCS.out.cell (j := 2) rfl) ?_
  refine TF.done ?_
  clear hK hF hG hfz
  generalize (v1.setCell ⟨g8, 1, none⟩ (.slice A9 (n - 1) c9)) = v2 at *
  have e0 := HXS.out.cell (j := 0) rfl
  have e1 := HXS.out.cell (j := 1) rfl
  have HYF := Lib.hid (show v2.heap[g + 2]? = some (.cells #[.int .i64 0, .slice none 0 0] 27 (0, 0)) from HYS.out)
  have XS := Lib.hid (setRow_heap v2 (g + 2) _ #[.int .i64 own, .slice A9 (n - 1) c9] _ _ HYF.out)
  have BS := Lib.hid (below_setRow BST.out (Nat.le_add_right g 2) #[.int .i64 own, .slice A9 (n - 1) c9])
  have HOM := Lib.hid (HRD.out (v2.setRow (g + 2) #[.int .i64 own, .slice A9 (n - 1) c9]) (fun j h1 _ h3 => (setRow_other _ _ _ _ (by omega)).trans (HSO.out j h3)))
  go_wp2_with (first
    | (refine wpList_store_row rfl 27 (.tmp 4) (.tmp 206) rfl (g + 2) #[.int .i64 own, .slice A9 (n - 1) c9] rfl rfl 27 _ HYF.out HIM.out rfl (by simp [Value.oneCell']) ?_)
    | fail)
  all_goals first
    | exact bodyPost_ret (results_row_tmp Try.results26 _ _ (g + 2) _ #[.int .i64 own, .slice A9 (n - 1) c9] _ _ rfl XS.out Try.underlying27 rfl HIM.out) rfl ⟨A9, n - 1, c9, (rs5.take i ++ rs5.drop (i + 1)), by rw [HE.out]; rfl, HOM.out, by rw [HE.out]; exact HPF.out, by omega, HG.out ▸ BS.out⟩
    | exact bodyPost_ret (results_row_tmp Try.results26 _ _ (g + 2) _ #[.int .i64 own, .slice A9 (n - 1) c9] _ _ rfl XS.out Try.underlying27 rfl HIM.out) rfl ⟨A9, n - 1, ⟨c9, by rw [HE.out]; rfl⟩, (rs5.take i ++ rs5.drop (i + 1)), HOM.out, by rw [HE.out]; exact HPF.out, by omega, HG.out ▸ BS.out⟩
    | exact bodyPost_ret (results_row_tmp Try.results26 _ _ (g + 2) _ #[.int .i64 own, .slice A9 (n - 1) c9] _ _ rfl XS.out Try.underlying27 rfl HIM.out) rfl ⟨A9, n - 1, c9, by rw [HE.out]; rfl, (rs5.take i ++ rs5.drop (i + 1)), HOM.out, by rw [HE.out]; exact HPF.out, by omega, HG.out ▸ BS.out⟩
end Go.Proofs.Ytikegnnlmfidfaa
