/-
  Matrices: the reference's Apply.
-/
import Derived.Test.YtikegnnlmfidfaaMatCc
import Derived.Test.YtikegnnlmfidfaaMatLd
import Derived.Test.YtikegnnlmfidfaaMatF
import Derived.Test.YtikegnnlmfidfaaMatC
import Derived.ArgAppend
namespace Go.Proofs.Ytikegnnlmfidfaa
open Go.RowKit
theorem field_rows (own : Int) (A : Option Addr) (n c : Nat) (w : World) : (Instr.field 27 (.agg #[.int .i64 own, .slice A n c]) 1).run Try.prog w = .ok (.slice A n c) w := by
  simp [Instr.field, run_underlying Try.underlying27, part, isAgg, run_underlying Try.underlying25, asAgg, Result.andThen]
section
variable {ops : Array Oper} {rest : List Oper} {o : Oper} {a : Act} {Q : Exit → Act → World → Prop} {w : World}
theorem wpList_appRow (hgd : o.guard = none) (s x : Operand) (ho : o.op = .call { callee := .builtin .append, args := #[s, x], argTypes := #[25, 25] })
    (base : Nat) (A : Option Addr) (n c : Nat) (rs : List Rw) (hs : a.eval s = .slice A n c) (hown : OwnM w base A n c rs) (r : Rw) (hri : IOwn w base r.a r.n r.c r.ds) (hrf : r.f.size ≤ 9223372036854775807) (hap : ∀ x ∈ rs, apartR x r)
    (B : Nat) (D : Option Addr) (hx : a.eval x = .slice D 1 1) (hr : Reads w B 2 D 1 r.cells) (hlen : n + 1 ≤ 1000000) (hbase : base ≤ w.heap.size)
    (h : ∀ A' c' w', OwnM w' base A' (n + 1) c' (rs ++ [r]) → w.grownBy w' (Value.slice A n c).ownBlock → wpList Try.prog ops Q rest (a.put o.dst (.slice A' (n + 1) c')) w') : wpList Try.prog ops Q (o :: rest) a w :=
  wpList_plain hgd fun _ hK => wp_appRow s x ho base A n c rs hs hown r hri hrf hap B D hx hr hlen hbase fun A' c' w' h1 h2 => hK _ _ (h A' c' w' h1 h2)
end
theorem Reads.row1 (e : TypeId) (w : World) (r : Rw) : Reads (w.alloc (.cells r.cells.toArray e)) (w.heap.size + 1) 2 (some ⟨w.heap.size, 0, none⟩) 1 r.cells := by
  refine ⟨rfl, fun _ => ⟨_, rfl, Nat.lt_succ_self _, fun j u hu => ?_⟩⟩
  have h1 := heap_alloc_new w (.cells r.cells.toArray e)
  rw [show (⟨w.heap.size, 0, none⟩ : Addr).add j = ⟨w.heap.size, j, none⟩ by simp [Addr.add]; omega, cell_of_row _ _ j _ _ _ h1]
  simpa using hu
/-- The rows behind k rounds: the new one in place 'pos'. -/
def addE (P : List PRow) (f : ByteArray) (pos k : Nat) : List PRow := if k ≤ pos then P.take k else P.take pos ++ (f, []) :: (P.take k).drop pos
theorem addE_before {P : List PRow} {f : ByteArray} {pos k : Nat} {x : PRow} (hk : k < pos) (hx : P[k]? = some x) : addE P f pos k ++ [x] = addE P f pos (k + 1) := by
  unfold addE
  rw [if_pos (by omega), if_pos (by omega), List.take_add_one, hx]
  rfl
theorem addE_at {P : List PRow} {f : ByteArray} {pos : Nat} : addE P f pos pos ++ [(f, [])] = addE P f pos (pos + 1) ∨ pos < P.length := by
  rcases Nat.lt_or_ge pos P.length with h | h
  · exact .inr h
  · left
    unfold addE
    rw [if_pos (Nat.le_refl _), if_neg (by omega), List.drop_of_length_le (by rw [List.length_take]; omega)]
theorem addE_mid {P : List PRow} {f : ByteArray} {pos : Nat} {x : PRow} (hx : P[pos]? = some x) : addE P f pos pos ++ [(f, [])] ++ [x] = addE P f pos (pos + 1) := by
  unfold addE
  have hl := (List.getElem?_eq_some_iff.1 hx).1
  rw [if_pos (Nat.le_refl _), if_neg (by omega), List.append_assoc]
  congr 1
  rw [List.take_add_one, hx, List.drop_append_of_le_length (by rw [List.length_take]; omega), List.drop_of_length_le (by rw [List.length_take]; omega)]
  rfl
theorem addE_after {P : List PRow} {f : ByteArray} {pos k : Nat} {x : PRow} (hk : pos < k) (hx : P[k]? = some x) : addE P f pos k ++ [x] = addE P f pos (k + 1) := by
  unfold addE
  have hl := (List.getElem?_eq_some_iff.1 hx).1
  rw [if_neg (by omega), if_neg (by omega), List.append_assoc]
  congr 1
  rw [List.take_add_one, hx, List.drop_append_of_le_length (by rw [List.length_take]; omega)]
  rfl
theorem addE_end {P : List PRow} {f : ByteArray} {pos n : Nat} (hn : P.length = n) (hp : pos ≤ n) : addE P f pos (n + 1) = P.take pos ++ (f, []) :: P.drop pos := by
  unfold addE
  rw [if_neg (by omega), show P.take (n + 1) = P from List.take_of_length_le (by omega)]
theorem addE_over {P : List PRow} {f : ByteArray} {pos n : Nat} (hn : P.length = n) (hp : pos < n) : addE P f pos n = addE P f pos (n + 1) := by
  unfold addE
  rw [if_neg (by omega), if_neg (by omega), show P.take n = P from List.take_of_length_le (by omega), show P.take (n + 1) = P from List.take_of_length_le (by omega)]
theorem addE_len {P : List PRow} {f : ByteArray} {pos k : Nat} : (addE P f pos k).length ≤ k + 1 := by
  unfold addE
  split
  · rw [List.length_take]; omega
  · rw [List.length_append, List.length_cons, List.length_drop, List.length_take, List.length_take]; omega
theorem pos_of {P : List PRow} {f : ByteArray} (ha : ∀ (i j : Nat) (x y : PRow), i < j → P[i]? = some x → P[j]? = some y → klt x.1 y.1 = true) (hn : ∀ r ∈ P, r.1 ≠ f) :
    lbR f P ≤ P.length ∧ ∀ (k : Nat) (x : PRow), P[k]? = some x → (k < lbR f P → klt f x.1 = false) ∧ (¬ k < lbR f P → klt f x.1 = true) := by
  have hle : lbR f P ≤ P.length := by
    unfold lbR
    exact (List.takeWhile_sublist _).length_le
  refine ⟨hle, fun k x hx => ⟨fun hk => ?_, fun hk => ?_⟩⟩
  · have hx2 : (P.takeWhile fun r => klt r.1 f)[k]? = some x := by
      have h := List.takeWhile_append_dropWhile (p := fun r : PRow => klt r.1 f) (l := P)
      rw [← h, List.getElem?_append_left hk] at hx
      exact hx
    have h4 : (P.takeWhile fun r => klt r.1 f).all (fun r => klt r.1 f) = true := List.all_takeWhile
    exact klt_asymm (List.all_eq_true.1 h4 x (List.mem_of_getElem? hx2))
  · have hkl := (List.getElem?_eq_some_iff.1 hx).1
    have hpl : lbR f P < P.length := by omega
    obtain ⟨y, hy⟩ : ∃ y, P[lbR f P]? = some y := ⟨_, List.getElem?_eq_getElem hpl⟩
    have hny : klt y.1 f = false := by
      have hy2 : ((P.takeWhile fun r => klt r.1 f) ++ P.dropWhile fun r => klt r.1 f)[(P.takeWhile fun r => klt r.1 f).length]? = some y := by
        rw [List.takeWhile_append_dropWhile]
        exact hy
      rw [List.getElem?_append_right (Nat.le_refl _), Nat.sub_self] at hy2
      cases hd : P.dropWhile fun r => klt r.1 f with
      | nil => rw [hd] at hy2; cases hy2
      | cons z zs =>
        rw [hd] at hy2
        obtain rfl := Option.some.inj hy2
        have := List.head_dropWhile_not (fun r : PRow => klt r.1 f) (l := P) (by rw [hd]; simp)
        simpa [hd] using this
    have hyf : klt f y.1 = true := klt_total (fun e => hn y (List.mem_of_getElem? hy) e) hny
    rcases Nat.lt_or_ge (lbR f P) k with h | h
    · exact klt_trans hyf (ha _ _ _ _ h hy hx)
    · obtain rfl : k = lbR f P := by omega
      rw [hy] at hx
      obtain rfl := Option.some.inj hx
      exact hyf
set_option maxRecDepth 100000 in
set_option maxHeartbeats 16000000 in
theorem rapply1_v (own : Int) (A : Option Addr) (n c B : Nat) (rs : List Rw) (f : ByteArray) (d : Int) (w : World) (hr : RowsR w B A n rs) (hB : B ≤ w.heap.size) (hn : n ≤ 9223372036854775807) (hfs : f.size ≤ 9223372036854775807) :
    Calls Try.prog 26 #[.agg #[.int .i64 own, .slice A n c], .agg #[.int .i64 1, .string f, .int .i64 d]] w fun e w' => ∃ A' n' c' rs', e = .returned (.tuple #[.agg #[.int .i64 (applyP (own, rs.map Rw.p) (1, f, d)).1.1, .slice A' n' c'], .int .i64 ((applyP (own, rs.map Rw.p) (1, f, d)).2 : Int)]) ∧ RowsR w' w'.heap.size A' n' rs' ∧ rs'.map Rw.p = (applyP (own, rs.map Rw.p) (1, f, d)).1.2 ∧ n' ≤ 9 ∧ Below w.heap.size w w' := by
  have HIM := Lib.hid (show (Try.prog.info? 27).map (·.size) = some 2 by kernel_rfl)
  have HR := Lib.hid hr
  have HLN := Lib.hid hr.len
  have X0 := Lib.hid (boxes3c w 27 41 27 [.int .i64 own, .slice A n c] [.int .i64 1, .string f, .int .i64 d] [.int .i64 0, .slice none 0 0])
  clear hr
  go_enter Try.func26, Try.ntmps26
  go_upto_region 1 with fail
  generalize hw0 : ((w.alloc (.cells #[.int .i64 own, .slice A n c] 27)).alloc (.cells #[.int .i64 1, .string f, .int .i64 d] 41)).alloc (.cells #[.int .i64 0, .slice none 0 0] 27) = w0 at *
  clear hw0
  generalize hg : w.heap.size = g at *
  have HG := Lib.hid hg
  clear hg
  have H0 := Lib.hid (show ∀ V, Below w0.heap.size w0 V → VArr 27 V g [.int .i64 own, .slice A n c] ∧ VArr 41 V (g + 1) [.int .i64 1, .string f, .int .i64 d] ∧ VArr 27 V (g + 2) [.int .i64 0, .slice none 0 0] ∧ RowsR V B A n rs ∧ w0.heap.size ≤ V.heap.size ∧ Below g w V from fun V h => by
    obtain ⟨h1, h2, h3, h4, h5⟩ := X0.out
    have h6 : Below g w V := h4.trans (h.mono (by omega))
    exact ⟨h1.below h, h2.below h, h3.below h, HR.out.below (h6.mono hB), h.size, h6⟩)
  have hz0 : g + 3 ≤ w0.heap.size := Nat.le_of_eq X0.out.2.2.2.2.symm
  have T0 := Lib.hid (Below.refl w0.heap.size w0)
  clear X0
  generalize w0.heap.size = z0 at *
  have hBz : B ≤ z0 := by omega
  have c0 := (H0.out _ T0.out).1.cell (j := 0) rfl
  have c1 := (H0.out _ T0.out).1.cell (j := 1) rfl
  have CV := rcheck_v own A n c B rs w0 (H0.out _ T0.out).2.2.2.1 (Nat.le_trans hBz (H0.out _ T0.out).2.2.2.2.1) hn
  obtain ⟨ck, hck⟩ : ∃ ck, chkM (own, rs.map Rw.p) = ck := ⟨_, rfl⟩
  have HCK := Lib.hid hck
  rw [hck] at CV
  clear hck
  go_wp2_with fail
  refine CV.mono ?_
  rintro e w1 ⟨rfl, b1⟩
  have T1 := Lib.hid (T0.out.trans (b1.mono (H0.out _ T0.out).2.2.2.2.1))
  clear b1 CV c0 c1 T0
  by_cases hk0 : ck = 0
  case neg =>
    have d1 : ((ck : Int) != 0) = true := by simp; omega
    have HE := Lib.hid (show applyP (own, rs.map Rw.p) (1, f, d) = ((0, []), ck) by rw [apply_chk (by rw [HCK.out]; exact hk0), HCK.out])
    clear hk0
    have HYF := Lib.hid (show w1.heap[g + 2]? = some (.cells #[.int .i64 0, .slice none 0 0] 27 (0, 0)) from (H0.out _ T1.out).2.2.1)
    have XS := Lib.hid (setRow_heap w1 (g + 2) _ #[.int .i64 0, .slice none 0 0] _ _ HYF.out)
    have BS := Lib.hid (below_setRow (H0.out _ T1.out).2.2.2.2.2 (Nat.le_add_right g 2) #[.int .i64 0, .slice none 0 0])
    go_wp2_with (first
      | (refine wpList_store_row rfl 27 (.tmp 4) (.tmp 17) rfl (g + 2) #[.int .i64 0, .slice none 0 0] rfl rfl 27 _ HYF.out HIM.out rfl (by simp [Value.oneCell']) ?_)
      | fail)
    first
      | exact bodyPost_ret (results_row_tmp Try.results26 _ _ (g + 2) _ #[.int .i64 0, .slice none 0 0] _ _ rfl XS.out Try.underlying27 rfl HIM.out) rfl ⟨none, 0, 0, [], by rw [HE.out]; rfl, ⟨Reads.none_, by simp⟩, by rw [HE.out]; rfl, by omega, HG.out ▸ BS.out⟩
      | exact bodyPost_ret (results_row_tmp Try.results26 _ _ (g + 2) _ #[.int .i64 0, .slice none 0 0] _ _ rfl XS.out Try.underlying27 rfl HIM.out) rfl ⟨none, 0, ⟨0, by rw [HE.out]; rfl⟩, [], ⟨Reads.none_, by simp⟩, by rw [HE.out]; rfl, by omega, HG.out ▸ BS.out⟩
      | exact bodyPost_ret (results_row_tmp Try.results26 _ _ (g + 2) _ #[.int .i64 0, .slice none 0 0] _ _ rfl XS.out Try.underlying27 rfl HIM.out) rfl ⟨none, 0, 0, by rw [HE.out]; rfl, [], ⟨Reads.none_, by simp⟩, by rw [HE.out]; rfl, by omega, HG.out ▸ BS.out⟩
  subst hk0
  have d1 : (((0 : Nat) : Int) != 0) = false := rfl
  have hle := (chk_ok HCK.out).1
  have hn8 : n ≤ 8 := by rw [List.length_map, HLN.out] at hle; exact hle
  clear hle hn
  have c0 := (H0.out _ T1.out).1.cell (j := 0) rfl
  have c1 := (H0.out _ T1.out).1.cell (j := 1) rfl
  have a0 := (H0.out _ T1.out).2.1.cell (j := 0) rfl
  have a1 := (H0.out _ T1.out).2.1.cell (j := 1) rfl
  have a2 := (H0.out _ T1.out).2.1.cell (j := 2) rfl
  have FV := rfolder_v f w1 hfs
  go_wp2_with fail
  cases hf : folderP f with
  | false =>
    have HE := Lib.hid (apply_bad (m := (own, rs.map Rw.p)) (c := (1, f, d)) HCK.out (.inr (.inr (.inl hf))))
    rw [hf] at FV
    clear hf
    refine FV.mono ?_
    rintro e _ ⟨rfl, rfl⟩
    have c0 := (H0.out _ T1.out).1.cell (j := 0) rfl
    have c1 := (H0.out _ T1.out).1.cell (j := 1) rfl
    have a0 := (H0.out _ T1.out).2.1.cell (j := 0) rfl
    have a1 := (H0.out _ T1.out).2.1.cell (j := 1) rfl
    have a2 := (H0.out _ T1.out).2.1.cell (j := 2) rfl
    have HYF := Lib.hid (show w1.heap[g + 2]? = some (.cells #[.int .i64 0, .slice none 0 0] 27 (0, 0)) from (H0.out _ T1.out).2.2.1)
    have XS := Lib.hid (setRow_heap w1 (g + 2) _ #[.int .i64 0, .slice none 0 0] _ _ HYF.out)
    have BS := Lib.hid (below_setRow (H0.out _ T1.out).2.2.2.2.2 (Nat.le_add_right g 2) #[.int .i64 0, .slice none 0 0])
    go_wp2_with (first
      | (refine wpList_store_row rfl 27 (.tmp 4) (.tmp 66) rfl (g + 2) #[.int .i64 0, .slice none 0 0] rfl rfl 27 _ HYF.out HIM.out rfl (by simp [Value.oneCell']) ?_)
      | fail)
    first
      | exact bodyPost_ret (results_row_tmp Try.results26 _ _ (g + 2) _ #[.int .i64 0, .slice none 0 0] _ _ rfl XS.out Try.underlying27 rfl HIM.out) rfl ⟨none, 0, 0, [], by rw [HE.out]; rfl, ⟨Reads.none_, by simp⟩, by rw [HE.out]; rfl, by omega, HG.out ▸ BS.out⟩
      | exact bodyPost_ret (results_row_tmp Try.results26 _ _ (g + 2) _ #[.int .i64 0, .slice none 0 0] _ _ rfl XS.out Try.underlying27 rfl HIM.out) rfl ⟨none, 0, ⟨0, by rw [HE.out]; rfl⟩, [], ⟨Reads.none_, by simp⟩, by rw [HE.out]; rfl, by omega, HG.out ▸ BS.out⟩
      | exact bodyPost_ret (results_row_tmp Try.results26 _ _ (g + 2) _ #[.int .i64 0, .slice none 0 0] _ _ rfl XS.out Try.underlying27 rfl HIM.out) rfl ⟨none, 0, 0, by rw [HE.out]; rfl, [], ⟨Reads.none_, by simp⟩, by rw [HE.out]; rfl, by omega, HG.out ▸ BS.out⟩
  | true =>
  rw [hf] at FV
  have HF := Lib.hid hf
  clear hf
  refine FV.mono ?_
  rintro e _ ⟨rfl, rfl⟩
  clear FV
  have c0 := (H0.out _ T1.out).1.cell (j := 0) rfl
  have c1 := (H0.out _ T1.out).1.cell (j := 1) rfl
  have a0 := (H0.out _ T1.out).2.1.cell (j := 0) rfl
  have a1 := (H0.out _ T1.out).2.1.cell (j := 1) rfl
  have a2 := (H0.out _ T1.out).2.1.cell (j := 2) rfl
  by_cases hd : d = 0
  case neg =>
    have d2 : (d != 0) = true := by simpa using hd
    have HE := Lib.hid (apply_bad (m := (own, rs.map Rw.p)) (c := (1, f, d)) HCK.out (.inr (.inr (.inr (.inr ⟨by simp, hd⟩)))))
    clear hd
    go_upto_region 6 with fail
    have HYF := Lib.hid (show w1.heap[g + 2]? = some (.cells #[.int .i64 0, .slice none 0 0] 27 (0, 0)) from (H0.out _ T1.out).2.2.1)
    have XS := Lib.hid (setRow_heap w1 (g + 2) _ #[.int .i64 0, .slice none 0 0] _ _ HYF.out)
    have BS := Lib.hid (below_setRow (H0.out _ T1.out).2.2.2.2.2 (Nat.le_add_right g 2) #[.int .i64 0, .slice none 0 0])
    go_wp2_with (first
      | (refine wpList_store_row rfl 27 (.tmp 4) (.tmp 66) rfl (g + 2) #[.int .i64 0, .slice none 0 0] rfl rfl 27 _ HYF.out HIM.out rfl (by simp [Value.oneCell']) ?_)
      | fail)
    first
      | exact bodyPost_ret (results_row_tmp Try.results26 _ _ (g + 2) _ #[.int .i64 0, .slice none 0 0] _ _ rfl XS.out Try.underlying27 rfl HIM.out) rfl ⟨none, 0, 0, [], by rw [HE.out]; rfl, ⟨Reads.none_, by simp⟩, by rw [HE.out]; rfl, by omega, HG.out ▸ BS.out⟩
      | exact bodyPost_ret (results_row_tmp Try.results26 _ _ (g + 2) _ #[.int .i64 0, .slice none 0 0] _ _ rfl XS.out Try.underlying27 rfl HIM.out) rfl ⟨none, 0, ⟨0, by rw [HE.out]; rfl⟩, [], ⟨Reads.none_, by simp⟩, by rw [HE.out]; rfl, by omega, HG.out ▸ BS.out⟩
      | exact bodyPost_ret (results_row_tmp Try.results26 _ _ (g + 2) _ #[.int .i64 0, .slice none 0 0] _ _ rfl XS.out Try.underlying27 rfl HIM.out) rfl ⟨none, 0, 0, by rw [HE.out]; rfl, [], ⟨Reads.none_, by simp⟩, by rw [HE.out]; rfl, by omega, HG.out ▸ BS.out⟩
  subst hd
  have HNB := Lib.hid (show ¬ badC (own, rs.map Rw.p) (1, f, 0) from by unfold badC; simp [HF.out])
  have RC := rcopy_v own A n c B rs w1 (H0.out _ T1.out).2.2.2.1 (Nat.le_trans hBz (H0.out _ T1.out).2.2.2.2.1) (by omega) (fun r hr => by
    have h := (rows_all (chk_ok HCK.out).2.2).1 r.p (List.mem_map_of_mem hr)
    have h2 := with_len h.2.2 (by decide)
    have h3 := (HR.out.each r hr).i.len
    have h4 : (r.p).2.length = r.n := h3
    omega)
  go_wp2_with fail
  refine RC.mono ?_
  rintro e w3 ⟨A5, c5, rs5, rfl, o5, hp5, b3⟩
  have T3 := Lib.hid (T1.out.trans (b3.mono (H0.out _ T1.out).2.2.2.2.1))
  have O3 := Lib.hid o5
  have HP5 := Lib.hid hp5
  have hz3 := b3.size
  have hz1 := (H0.out _ T1.out).2.2.2.2.1
  clear RC b3 o5 hp5 c0 c1 a0 a1 a2 T1 d1
  generalize w1.heap.size = z1 at *
  go_upto_region 8 with fail
  have b4 := (Below.refl w3.heap.size w3).alloc (Nat.le_refl _) (.cells #[.int .i64 own, .slice A5 n c5] 27)
  have T4 := Lib.hid (T3.out.trans (b4.mono (by omega)))
  have O4 := Lib.hid (O3.out.below b4)
  have X4 := Lib.hid (show VArr 27 (w3.alloc (.cells #[.int .i64 own, .slice A5 n c5] 27)) w3.heap.size [.int .i64 own, .slice A5 n c5] from heap_alloc_new w3 _)
  have hOl := Lib.hid (fun j (hj : (Value.slice A5 n c5).ownBlock = some j) => O3.out.row.lt j hj)
  have HQS := Lib.hid (show ∀ r ∈ rs5, ∀ j, (Value.slice r.a r.n r.c).ownBlock = some j → j < w3.heap.size from fun r hr j hj => ((O3.out.each r hr).1.lt j hj).2)
  clear b4 T3 O3
  generalize w3.alloc (.cells #[.int .i64 own, .slice A5 n c5] 27) = w4 at *
  generalize w3.heap.size = g8 at *
  have c0 := (H0.out _ T4.out).1.cell (j := 0) rfl
  have c1 := (H0.out _ T4.out).1.cell (j := 1) rfl
  have a1 := (H0.out _ T4.out).2.1.cell (j := 1) rfl
  have RV := rrow_v own A n c B rs f w4 (H0.out _ T4.out).2.2.2.1 (Nat.le_trans hBz (H0.out _ T4.out).2.2.2.2.1) (by omega)
  go_wp2_with fail
  refine RV.mono ?_
  rintro e w5 ⟨z, rfl, hz, b5⟩
  have T5 := Lib.hid (T4.out.trans (b5.mono (H0.out _ T4.out).2.2.2.2.1))
  have O5 := Lib.hid (O4.out.below b5)
  have X5 := Lib.hid (X4.out.below b5)
  clear RV b5 c0 c1 a1 T4 O4 X4
  have c0 := (H0.out _ T5.out).1.cell (j := 0) rfl
  have c1 := (H0.out _ T5.out).1.cell (j := 1) rfl
  have a0 := (H0.out _ T5.out).2.1.cell (j := 0) rfl
  have a1 := (H0.out _ T5.out).2.1.cell (j := 1) rfl
  have a2 := (H0.out _ T5.out).2.1.cell (j := 2) rfl
  rcases hz with ⟨rfl, hrw⟩ | ⟨i, r, rfl, hri, hrw⟩
  rotate_left
  · have HE := Lib.hid (show applyP (own, (rs.map Rw.p)) (1, f, 0) = ((0, []), 7) by
      rw [apply_some HCK.out HNB.out (show fnd f (rs.map Rw.p) = some r.p by have h := hrw; unfold rowP at h; rwa [if_pos HCK.out] at h), if_pos rfl])
    have i0 : (0 : Int) ≤ (i : Int) := by omega
    clear hrw hri
    go_upto_region 11 with fail
    have HYF := Lib.hid (show w5.heap[g + 2]? = some (.cells #[.int .i64 0, .slice none 0 0] 27 (0, 0)) from (H0.out _ T5.out).2.2.1)
    have XS := Lib.hid (setRow_heap w5 (g + 2) _ #[.int .i64 0, .slice none 0 0] _ _ HYF.out)
    have BS := Lib.hid (below_setRow (H0.out _ T5.out).2.2.2.2.2 (Nat.le_add_right g 2) #[.int .i64 0, .slice none 0 0])
    go_wp2_with (first
      | (refine wpList_store_row rfl 27 (.tmp 4) (.tmp 78) rfl (g + 2) #[.int .i64 0, .slice none 0 0] rfl rfl 27 _ HYF.out HIM.out rfl (by simp [Value.oneCell']) ?_)
      | fail)
    first
      | exact bodyPost_ret (results_row_tmp Try.results26 _ _ (g + 2) _ #[.int .i64 0, .slice none 0 0] _ _ rfl XS.out Try.underlying27 rfl HIM.out) rfl ⟨none, 0, 0, [], by rw [HE.out]; rfl, ⟨Reads.none_, by simp⟩, by rw [HE.out]; rfl, by omega, HG.out ▸ BS.out⟩
      | exact bodyPost_ret (results_row_tmp Try.results26 _ _ (g + 2) _ #[.int .i64 0, .slice none 0 0] _ _ rfl XS.out Try.underlying27 rfl HIM.out) rfl ⟨none, 0, ⟨0, by rw [HE.out]; rfl⟩, [], ⟨Reads.none_, by simp⟩, by rw [HE.out]; rfl, by omega, HG.out ▸ BS.out⟩
      | exact bodyPost_ret (results_row_tmp Try.results26 _ _ (g + 2) _ #[.int .i64 0, .slice none 0 0] _ _ rfl XS.out Try.underlying27 rfl HIM.out) rfl ⟨none, 0, 0, by rw [HE.out]; rfl, [], ⟨Reads.none_, by simp⟩, by rw [HE.out]; rfl, by omega, HG.out ▸ BS.out⟩
  have hnn : fnd f (rs.map Rw.p) = none := by have h := hrw; unfold rowP at h; rwa [if_pos HCK.out] at h
  have HFN := Lib.hid hnn
  clear hrw hnn
  by_cases h8 : n = 8
  · have d3 : ((n : Int) == 8) = true := by rw [h8]; rfl
    have HE := Lib.hid (show applyP (own, (rs.map Rw.p)) (1, f, 0) = ((0, []), 3) by
      rw [apply_none HCK.out HNB.out HFN.out, if_pos rfl, if_pos (show (rs.map Rw.p).length = 8 by rw [List.length_map, HLN.out]; exact h8)])
    clear h8
    go_upto_region 13 with fail
    have HYF := Lib.hid (show w5.heap[g + 2]? = some (.cells #[.int .i64 0, .slice none 0 0] 27 (0, 0)) from (H0.out _ T5.out).2.2.1)
    have XS := Lib.hid (setRow_heap w5 (g + 2) _ #[.int .i64 0, .slice none 0 0] _ _ HYF.out)
    have BS := Lib.hid (below_setRow (H0.out _ T5.out).2.2.2.2.2 (Nat.le_add_right g 2) #[.int .i64 0, .slice none 0 0])
    go_wp2_with (first
      | (refine wpList_store_row rfl 27 (.tmp 4) (.tmp 83) rfl (g + 2) #[.int .i64 0, .slice none 0 0] rfl rfl 27 _ HYF.out HIM.out rfl (by simp [Value.oneCell']) ?_)
      | fail)
    first
      | exact bodyPost_ret (results_row_tmp Try.results26 _ _ (g + 2) _ #[.int .i64 0, .slice none 0 0] _ _ rfl XS.out Try.underlying27 rfl HIM.out) rfl ⟨none, 0, 0, [], by rw [HE.out]; rfl, ⟨Reads.none_, by simp⟩, by rw [HE.out]; rfl, by omega, HG.out ▸ BS.out⟩
      | exact bodyPost_ret (results_row_tmp Try.results26 _ _ (g + 2) _ #[.int .i64 0, .slice none 0 0] _ _ rfl XS.out Try.underlying27 rfl HIM.out) rfl ⟨none, 0, ⟨0, by rw [HE.out]; rfl⟩, [], ⟨Reads.none_, by simp⟩, by rw [HE.out]; rfl, by omega, HG.out ▸ BS.out⟩
      | exact bodyPost_ret (results_row_tmp Try.results26 _ _ (g + 2) _ #[.int .i64 0, .slice none 0 0] _ _ rfl XS.out Try.underlying27 rfl HIM.out) rfl ⟨none, 0, 0, by rw [HE.out]; rfl, [], ⟨Reads.none_, by simp⟩, by rw [HE.out]; rfl, by omega, HG.out ▸ BS.out⟩
  have d3 : ((n : Int) == 8) = false := beq_eq_false_iff_ne.2 (by omega)
  have HE := Lib.hid (show applyP (own, (rs.map Rw.p)) (1, f, 0) = ((own, (rs.map Rw.p).take (lbR f (rs.map Rw.p)) ++ (f, []) :: (rs.map Rw.p).drop (lbR f (rs.map Rw.p))), 0) by
    rw [apply_none HCK.out HNB.out HFN.out, if_pos rfl, if_neg (show ¬ (rs.map Rw.p).length = 8 by rw [List.length_map, HLN.out]; exact h8)])
  have hps := pos_of (rows_all (chk_ok HCK.out).2.2).2 (f := f) (fun r hr => by have := List.find?_eq_none.1 HFN.out r hr; simpa using this)
  have hpn : (lbR f (rs.map Rw.p)) ≤ n := by have := hps.1; rwa [List.length_map, HLN.out] at this
  have HPP := Lib.hid hps.2
  have HPLN := Lib.hid (show (rs.map Rw.p).length = n by rw [List.length_map, HLN.out])
  have HRB := Lib.hid (show ∀ r ∈ rs, r.n ≤ 100000 from fun r hr => by
    have h := (rows_all (chk_ok HCK.out).2.2).1 r.p (List.mem_map_of_mem hr)
    have h2 := with_len h.2.2 (by decide)
    have h3 := (HR.out.each r hr).i.len
    have h4 : (r.p).2.length = r.n := h3
    omega)
  clear hps h8
  have e1 := X5.out.cell (j := 1) rfl
  have hfz := X5.out.frozen 1
  have X6 := Lib.hid (show VArr 27 (w5.setCell ⟨g8, 1, none⟩ (.slice none 0 0)) g8 [.int .i64 own, .slice none 0 0] from X5.out.set_ 1 (.slice none 0 0))
  have T6 := Lib.hid (show Below z0 w0 (w5.setCell ⟨g8, 1, none⟩ (.slice none 0 0)) from T5.out.setCell (p := ⟨g8, 1, none⟩) (by show z0 ≤ g8; omega) _)
  go_upto_region 16 with fail
  clear e1 hfz c0 c1 a0 a1 a2 X5 T5 O5
  generalize w5.setCell ⟨g8, 1, none⟩ (.slice none 0 0) = w6 at *
  go_wp2_with fail
  go_loopw [10, 11] (fun dn i V => ∃ (k m c' : Nat) (A' : Option Addr) (ys : List Rw) (dv : Bool), k ≤ n + 1 ∧ i = .int .i64 (k : Int) ∧ dn = .bool dv ∧ dv = decide ((lbR f (rs.map Rw.p)) < k) ∧ ys.map Rw.p = addE (rs.map Rw.p) f (lbR f (rs.map Rw.p)) k ∧ OwnM V (g8 + 1) A' m c' ys ∧ VArr 27 V g8 [.int .i64 own, .slice A' m c'] ∧ Below z0 w0 V ∧ g8 < V.heap.size) (fun _ i _ => n + 1 - (intOf i).toNat)
  case atStart => exact ⟨0, 0, 0, none, [], false, Nat.zero_le _, rfl, rfl, by simp, by simp [addE], ⟨World.ownsRow_nil w6 _ _ 2, by simp, List.Pairwise.nil⟩, X6.out, T6.out, X6.out.lt⟩
  case round =>
    obtain ⟨k, m, c', A', ys, dv, hk, rfl, rfl, hdv, hyp, ho, hx, hb, hgz⟩ := hrel
    have HYP := Lib.hid hyp
    have O7 := Lib.hid ho
    have X7 := Lib.hid hx
    have T7 := Lib.hid hb
    have hmk : m ≤ k + 1 := by
      have h1 := congrArg List.length hyp
      have h2 := addE_len (P := (rs.map Rw.p)) (f := f) (pos := (lbR f (rs.map Rw.p))) (k := k)
      rw [List.length_map, ho.len] at h1
      omega
    have HDV := Lib.hid hdv
    clear hyp ho hx hb X6 T6 hdv
    have c0 := (H0.out _ T7.out).1.cell (j := 0) rfl
    have c1 := (H0.out _ T7.out).1.cell (j := 1) rfl
    have a1 := (H0.out _ T7.out).2.1.cell (j := 1) rfl
    by_cases hlt : k ≤ n
    case neg =>
      obtain rfl : k = n + 1 := by omega
      have HPF := Lib.hid (show ys.map Rw.p = (rs.map Rw.p).take (lbR f (rs.map Rw.p)) ++ (f, []) :: (rs.map Rw.p).drop (lbR f (rs.map Rw.p)) from HYP.out.trans (addE_end HPLN.out hpn))
      have hm9 : m ≤ 9 := by
        have h1 := congrArg List.length HPF.out
        have h2 := O7.out.len
        have h3 := HPLN.out
        simp only [List.length_map, List.length_append, List.length_cons, List.length_take, List.length_drop] at h1 h3
        omega
      clear hlt
      have e0 := X7.out.cell (j := 0) rfl
      have e1 := X7.out.cell (j := 1) rfl
      have HYF := Lib.hid (show wr.heap[g + 2]? = some (.cells #[.int .i64 0, .slice none 0 0] 27 (0, 0)) from (H0.out _ T7.out).2.2.1)
      have XS := Lib.hid (setRow_heap wr (g + 2) _ #[.int .i64 own, .slice A' m c'] _ _ HYF.out)
      have BS := Lib.hid (below_setRow (H0.out _ T7.out).2.2.2.2.2 (Nat.le_add_right g 2) #[.int .i64 own, .slice A' m c'])
      have HOM := Lib.hid ((O7.out.setRow (g := g + 2) (by omega) #[.int .i64 own, .slice A' m c']).reads)
      go_wp2_with (first
        | (refine wpList_store_row rfl 27 (.tmp 4) (.tmp 136) rfl (g + 2) #[.int .i64 own, .slice A' m c'] rfl rfl 27 _ HYF.out HIM.out rfl (by simp [Value.oneCell']) ?_)
        | fail)
      first
        | exact bodyPost_ret (results_row_tmp Try.results26 _ _ (g + 2) _ #[.int .i64 own, .slice A' m c'] _ _ rfl XS.out Try.underlying27 rfl HIM.out) rfl ⟨A', m, c', ys, by rw [HE.out]; rfl, HOM.out, by rw [HE.out]; exact HPF.out, by omega, HG.out ▸ BS.out⟩
        | exact bodyPost_ret (results_row_tmp Try.results26 _ _ (g + 2) _ #[.int .i64 own, .slice A' m c'] _ _ rfl XS.out Try.underlying27 rfl HIM.out) rfl ⟨A', m, ⟨c', by rw [HE.out]; rfl⟩, ys, HOM.out, by rw [HE.out]; exact HPF.out, by omega, HG.out ▸ BS.out⟩
        | exact bodyPost_ret (results_row_tmp Try.results26 _ _ (g + 2) _ #[.int .i64 own, .slice A' m c'] _ _ rfl XS.out Try.underlying27 rfl HIM.out) rfl ⟨A', m, c', by rw [HE.out]; rfl, ys, HOM.out, by rw [HE.out]; exact HPF.out, by omega, HG.out ▸ BS.out⟩
    by_cases hkn : k = n
    · subst hkn
      have dk : ((k : Int) == (k : Int)) = true := by simp
      by_cases hkp : k = (lbR f (rs.map Rw.p))
      · obtain rfl : dv = false := by rw [HDV.out]; simp; omega
        have HKP := Lib.hid hkp
        clear hkp
        go_upto_region 19 with fail
        refine wp_region_text [(0, false), (1, false), (2, false), (3, false), (4, false), (5, false), (6, false), (7, false), (8, false), (9, false), (10, false), (11, false), (12, false), (13, false), (14, false), (15, false), (16, false), (17, false), (18, false), (19, false)] (fun V => V.cell? ⟨g, 1, none⟩ = some (.slice A k c) ∧ V.cell? ⟨g + 1, 1, none⟩ = some (.string f)) (by kernel_rfl) (by kernel_rfl) (by kernel_rfl) (by kernel_rfl) (by kernel_rfl) (fun _ => ?_)
        simp only [outOf, List.getElem?_cons_zero, List.getElem?_cons_succ, Option.getD_some]
        have hS : wr.drew.cell? ⟨g, 1, none⟩ = some (.slice A k c) ∧ wr.drew.cell? ⟨g + 1, 1, none⟩ = some (.string f) := ⟨c1, a1⟩
        have bE : Below wr.heap.size wr wr.drew := (Below.refl _ _).drew
        have T8 := Lib.hid (T7.out.trans (bE.mono (H0.out _ T7.out).2.2.2.2.1))
        have O8 := Lib.hid (O7.out.below bE)
        have X8 := Lib.hid (X7.out.below bE)
        clear bE c0 c1 a1 T7 O7 X7
        generalize wr.drew = y9 at *
        iterate 20 ((first | (refine TW.val2 (v := ?_) ?_ ?_ ?_ ?_ ?_; rotate_left; (focus rfl); (focus (intro W hSW; (try dsimp only at hSW); (try (obtain ⟨hS1, hSW⟩ := hSW)); (try (obtain ⟨hS2, hSW⟩ := hSW)); (try (obtain ⟨hS3, hSW⟩ := hSW)); (try (obtain ⟨hS4, hSW⟩ := hSW)); (try (obtain ⟨hS5, hSW⟩ := hSW)); (try (obtain ⟨hS6, hSW⟩ := hSW)); (try (obtain ⟨hS7, hSW⟩ := hSW)); (try (obtain ⟨hS8, hSW⟩ := hSW)); go_simp; (try with_reducible rfl); done)); (focus exact fun _ _ _ h => h); (focus assumption)) | (refine TW.skip (e := false) ?_ ?_ ?_ ?_; (focus rfl); (focus exact fun _ _ _ h => h); (focus assumption)) | (refine TW.skip (e := true) ?_ ?_ ?_ ?_; (focus rfl); (focus exact fun _ _ _ h => h); (focus assumption))); simp only [Act.put, List.setIfInBounds_toArray, List.set_cons_zero, List.set_cons_succ])
        refine TW.done ?_
        clear hS
        have c0 := (H0.out _ T8.out).1.cell (j := 0) rfl
        have c1 := (H0.out _ T8.out).1.cell (j := 1) rfl
        have a1 := (H0.out _ T8.out).2.1.cell (j := 1) rfl
        have e1 := X8.out.cell (j := 1) rfl
        have bA := (Below.refl y9.heap.size y9).alloc (Nat.le_refl _) (.cells #[.string f, .slice none 0 0] 56)
        have OA := Lib.hid (O8.out.below bA)
        have XA := Lib.hid (X8.out.below bA)
        have TA := Lib.hid (T8.out.trans (bA.mono (H0.out _ T8.out).2.2.2.2.1))
        have RA := Lib.hid (show Reads (y9.alloc (.cells #[.string f, .slice none 0 0] 56)) (y9.heap.size + 1) 2 (some ⟨y9.heap.size, 0, none⟩) 1 (Rw.cells ⟨f, none, 0, 0, []⟩) from Reads.row1 56 y9 ⟨f, none, 0, 0, []⟩)
        have hlo := Lib.hid (fun j (hj : (Value.slice A' m c').ownBlock = some j) => O8.out.row.lt j hj)
        have hg9 := X8.out.lt
        clear bA
        go_upto_region 21 with (first
          | (at_builtin; go_loud (refine wpList_appRow rfl (.tmp 113) (.tmp 117) rfl (g8 + 1) A' m c' ys rfl OA.out ⟨f, none, 0, 0, []⟩ (IOwn.nil_ _ _) hfs (fun x hx b h1 h2 => by simp [Value.ownBlock] at h2) (y9.heap.size + 1) (some ⟨y9.heap.size, 0, none⟩) rfl RA.out (by omega) (by simp; omega) ?_); intro A8 c8 w8 ho8 hg8; have XB := Lib.hid (show VArr 27 w8 g8 [.int .i64 own, .slice A' m c'] from XA.out.keep (hg8.block g8 XA.out.lt (fun e => by have := (hlo.out g8 e.symm).1; omega))); have q8 := XB.out.cell (j := 1) rfl; have f8 := XB.out.frozen 1)
          | fail)
        have XC := Lib.hid (show VArr 27 (w8.setCell ⟨g8, 1, none⟩ (.slice A8 (m + 1) c8)) g8 [.int .i64 own, .slice A8 (m + 1) c8] from XB.out.set_ 1 (.slice A8 (m + 1) c8))
        have OB := Lib.hid ho8
        have OC := Lib.hid (show OwnM (w8.setCell ⟨g8, 1, none⟩ (.slice A8 (m + 1) c8)) (g8 + 1) A8 (m + 1) c8 (ys ++ [⟨f, none, 0, 0, []⟩]) from ⟨own_keep OB.out.row fun j hj => Below.heap_setCell w8 _ _ j (by have := (OB.out.row.lt j hj).1; show j ≠ g8; omega), fun y hy => ⟨(OB.out.each y hy).1.keep fun j hj => Below.heap_setCell w8 _ _ j (by have := ((OB.out.each y hy).1.lt j hj).1; show j ≠ g8; omega), (OB.out.each y hy).2⟩, OB.out.apart⟩)
        have TC := Lib.hid (show Below z0 w0 (w8.setCell ⟨g8, 1, none⟩ (.slice A8 (m + 1) c8)) from (TA.out.grown hg8 (by have := (H0.out _ TA.out).2.2.2.2.1; omega) (fun j e => by have := (hlo.out j e).1; omega)).setCell (p := ⟨g8, 1, none⟩) (by show z0 ≤ g8; omega) _)
        clear ho8 hg8 hlo q8 f8 e1 XB XA TA OA RA OB c0 c1 a1 T8 O8 X8
        generalize (w8.setCell ⟨g8, 1, none⟩ (.slice A8 (m + 1) c8)) = w9 at *
        have c0 := (H0.out _ TC.out).1.cell (j := 0) rfl
        have c1 := (H0.out _ TC.out).1.cell (j := 1) rfl
        have a1 := (H0.out _ TC.out).2.1.cell (j := 1) rfl
        have HPN := Lib.hid (show (ys ++ [(⟨f, none, 0, 0, []⟩ : Rw)]).map Rw.p = addE (rs.map Rw.p) f (lbR f (rs.map Rw.p)) (k + 1) by
          rw [List.map_append, HYP.out]
          rcases addE_at (P := (rs.map Rw.p)) (f := f) (pos := (lbR f (rs.map Rw.p))) with h | h
          · rw [← HKP.out] at h ⊢
            exact h
          · rw [HPLN.out] at h
            have := HKP.out
            omega)
        have hgw := XC.out.lt
        go_wp2_with fail
        go_roundw
        case rel => exact ⟨k + 1, m + 1, c8, A8, _, _, by omega, by go_num, rfl, (by first | (simp; done) | (simp; omega) | (have := HKP.out; simp; omega)), HPN.out, OC.out, XC.out, TC.out, hgw⟩
        case measure => first | (simp [intOf]; done) | (simp [intOf]; omega)
      · obtain rfl : dv = true := by rw [HDV.out]; simp; omega
        go_upto_region 19 with fail
        refine wp_region_text [(0, false), (1, false), (2, false), (3, false), (4, false), (5, false), (6, false), (7, false), (8, false), (9, false), (10, false), (11, false), (12, false), (13, false), (14, false), (15, false), (16, false), (17, false), (18, false), (19, false)] (fun V => V.cell? ⟨g, 1, none⟩ = some (.slice A k c) ∧ V.cell? ⟨g + 1, 1, none⟩ = some (.string f)) (by kernel_rfl) (by kernel_rfl) (by kernel_rfl) (by kernel_rfl) (by kernel_rfl) (fun _ => ?_)
        simp only [outOf, List.getElem?_cons_zero, List.getElem?_cons_succ, Option.getD_some]
        have hS : wr.drew.cell? ⟨g, 1, none⟩ = some (.slice A k c) ∧ wr.drew.cell? ⟨g + 1, 1, none⟩ = some (.string f) := ⟨c1, a1⟩
        have bE : Below wr.heap.size wr wr.drew := (Below.refl _ _).drew
        have T8 := Lib.hid (T7.out.trans (bE.mono (H0.out _ T7.out).2.2.2.2.1))
        have O8 := Lib.hid (O7.out.below bE)
        have X8 := Lib.hid (X7.out.below bE)
        clear bE c0 c1 a1 T7 O7 X7
        generalize wr.drew = y9 at *
        iterate 20 ((first | (refine TW.val2 (v := ?_) ?_ ?_ ?_ ?_ ?_; rotate_left; (focus rfl); (focus (intro W hSW; (try dsimp only at hSW); (try (obtain ⟨hS1, hSW⟩ := hSW)); (try (obtain ⟨hS2, hSW⟩ := hSW)); (try (obtain ⟨hS3, hSW⟩ := hSW)); (try (obtain ⟨hS4, hSW⟩ := hSW)); (try (obtain ⟨hS5, hSW⟩ := hSW)); (try (obtain ⟨hS6, hSW⟩ := hSW)); (try (obtain ⟨hS7, hSW⟩ := hSW)); (try (obtain ⟨hS8, hSW⟩ := hSW)); go_simp; (try with_reducible rfl); done)); (focus exact fun _ _ _ h => h); (focus assumption)) | (refine TW.skip (e := false) ?_ ?_ ?_ ?_; (focus rfl); (focus exact fun _ _ _ h => h); (focus assumption)) | (refine TW.skip (e := true) ?_ ?_ ?_ ?_; (focus rfl); (focus exact fun _ _ _ h => h); (focus assumption))); simp only [Act.put, List.setIfInBounds_toArray, List.set_cons_zero, List.set_cons_succ])
        refine TW.done ?_
        clear hS
        have c0 := (H0.out _ T8.out).1.cell (j := 0) rfl
        have c1 := (H0.out _ T8.out).1.cell (j := 1) rfl
        have a1 := (H0.out _ T8.out).2.1.cell (j := 1) rfl
        have HPN := Lib.hid (show ys.map Rw.p = addE (rs.map Rw.p) f (lbR f (rs.map Rw.p)) (k + 1) from HYP.out.trans (addE_over HPLN.out (by omega)))
        have hgw := X8.out.lt
        go_wp2_with fail
        go_roundw
        case rel => exact ⟨k + 1, m, c', A', ys, _, by omega, by go_num, rfl, (by first | (simp; done) | (simp; omega) | (have := HKP.out; simp; omega)), HPN.out, O8.out, X8.out, T8.out, hgw⟩
        case measure => first | (simp [intOf]; done) | (simp [intOf]; omega)
    obtain ⟨ad, rf, ra, rn, rc, ds, rfl, hx, ⟨hri, hrn, hrc, hfr⟩, _, hcc⟩ := HR.out.at_ (show k < n by omega)
    have HXX := Lib.hid (show (rs.map Rw.p)[k]? = some (rf, ds) by rw [List.getElem?_map, hx]; rfl)
    have cr : wr.cell? (ad.add (k * 2)) = some (.string rf) := (hcc wr ((H0.out _ T7.out).2.2.2.2.2.mono hB)).1
    have dk : ((k : Int) == (n : Int)) = false := beq_eq_false_iff_ne.2 (by omega)
    have k0 : (0 : Int) ≤ (k : Int) := by omega
    have k1 : (k : Int) < (n : Int) := by omega
    have k2 : k < n := by omega
    have HNE := Lib.hid (show rf ≠ f from fun e => by
      have h1 := List.find?_eq_none.1 HFN.out _ (List.mem_of_getElem? HXX.out)
      exact h1 (decide_eq_true e))
    clear hx hri hcc
    rcases Nat.lt_trichotomy k (lbR f (rs.map Rw.p)) with hkp | hkp | hkp
    · have dl : Op.bytesLess f.toList rf.toList = false := ((HPP.out k _ HXX.out).1 hkp)
      have dl3 : (rf.toList == f.toList) = false := (kbeq_false rf f).2 HNE.out
      have dl2 : Op.bytesLess rf.toList f.toList = true := klt_total (fun e => HNE.out e.symm) dl
      obtain rfl : dv = false := by rw [HDV.out]; simp; omega
      go_upto_region 19 with fail
      refine wp_region_text [(0, false), (1, false), (2, false), (3, false), (4, false), (5, false), (6, false), (7, false), (8, false), (9, false), (10, false), (11, false), (12, false), (13, false), (14, false), (15, false), (16, false), (17, false), (18, false), (19, false)] (fun V => V.cell? ⟨g, 1, none⟩ = some (.slice (some ad) n c) ∧ V.cell? (ad.add (k * 2)) = some (.string rf) ∧ V.cell? ⟨g + 1, 1, none⟩ = some (.string f)) (by kernel_rfl) (by kernel_rfl) (by kernel_rfl) (by kernel_rfl) (by kernel_rfl) (fun _ => ?_)
      simp only [outOf, List.getElem?_cons_zero, List.getElem?_cons_succ, Option.getD_some]
      have hS : wr.drew.cell? ⟨g, 1, none⟩ = some (.slice (some ad) n c) ∧ wr.drew.cell? (ad.add (k * 2)) = some (.string rf) ∧ wr.drew.cell? ⟨g + 1, 1, none⟩ = some (.string f) := ⟨c1, cr, a1⟩
      have bE : Below wr.heap.size wr wr.drew := (Below.refl _ _).drew
      have T8 := Lib.hid (T7.out.trans (bE.mono (H0.out _ T7.out).2.2.2.2.1))
      have O8 := Lib.hid (O7.out.below bE)
      have X8 := Lib.hid (X7.out.below bE)
      clear bE c0 c1 a1 T7 O7 X7
      generalize wr.drew = y9 at *
      iterate 20 ((first | (refine TW.val2 (v := ?_) ?_ ?_ ?_ ?_ ?_; rotate_left; (focus rfl); (focus (intro W hSW; (try dsimp only at hSW); (try (obtain ⟨hS1, hSW⟩ := hSW)); (try (obtain ⟨hS2, hSW⟩ := hSW)); (try (obtain ⟨hS3, hSW⟩ := hSW)); (try (obtain ⟨hS4, hSW⟩ := hSW)); (try (obtain ⟨hS5, hSW⟩ := hSW)); (try (obtain ⟨hS6, hSW⟩ := hSW)); (try (obtain ⟨hS7, hSW⟩ := hSW)); (try (obtain ⟨hS8, hSW⟩ := hSW)); go_simp; (try with_reducible rfl); done)); (focus exact fun _ _ _ h => h); (focus assumption)) | (refine TW.skip (e := false) ?_ ?_ ?_ ?_; (focus rfl); (focus exact fun _ _ _ h => h); (focus assumption)) | (refine TW.skip (e := true) ?_ ?_ ?_ ?_; (focus rfl); (focus exact fun _ _ _ h => h); (focus assumption))); simp only [Act.put, List.setIfInBounds_toArray, List.set_cons_zero, List.set_cons_succ])
      refine TW.done ?_
      clear hS
      have c0 := (H0.out _ T8.out).1.cell (j := 0) rfl
      have c1 := (H0.out _ T8.out).1.cell (j := 1) rfl
      have a1 := (H0.out _ T8.out).2.1.cell (j := 1) rfl
      have HPN := Lib.hid (show addE (rs.map Rw.p) f (lbR f (rs.map Rw.p)) k ++ [(rf, ds)] = addE (rs.map Rw.p) f (lbR f (rs.map Rw.p)) (k + 1) from addE_before hkp HXX.out)
      have HPN2 := Lib.hid (show ys.map Rw.p ++ [(rf, ds)] = addE (rs.map Rw.p) f (lbR f (rs.map Rw.p)) (k + 1) by rw [HYP.out]; exact HPN.out)
      clear dl dl2 dl3 cr
      go_upto_region 22 with fail
      have hF : y9.drew.cell? ⟨g, 0, none⟩ = some (.int .i64 own) ∧ y9.drew.cell? ⟨g, 1, none⟩ = some (.slice (some ad) n c) := ⟨(H0.out _ T8.out).1.cell (j := 0) rfl, (H0.out _ T8.out).1.cell (j := 1) rfl⟩
      have hG : y9.drew.cell? ⟨g8, 1, none⟩ = some (.slice A' m c') := X8.out.cell (j := 1) rfl
      refine wp_region_F 11 [(0, 1), (1, 2), (2, 1), (5, 1), (3, 0), (4, 1), (6, 1), (7, 1), (8, 0), (9, 0), (10, 1), (11, 4)] (fun V => V.cell? ⟨g, 0, none⟩ = some (.int .i64 own) ∧ V.cell? ⟨g, 1, none⟩ = some (.slice (some ad) n c)) (fun V => V.cell? ⟨g8, 1, none⟩ = some (.slice A' m c')) (by kernel_rfl) (by kernel_rfl) (by kernel_rfl) (by kernel_rfl) (by kernel_rfl) (fun _ => ?_)
      simp only [outE, List.getElem?_cons_zero, List.getElem?_cons_succ, Option.getD_some]
      have bD : Below y9.heap.size y9 y9.drew := (Below.refl _ _).drew
      have D0 := Lib.hid (T8.out.trans (bD.mono (H0.out _ T8.out).2.2.2.2.1))
      have OD := Lib.hid (O8.out.below bD)
      have XD := Lib.hid (X8.out.below bD)
      clear bD c0 c1 a1
      generalize y9.drew = y0 at *
      iterate 1 (refine TF.val1 (v := ?_) ?_ ?_ ?_ ?_ ?_ ?_; rotate_left; (focus rfl); (focus (intro W hSW; (try dsimp only at hSW); (try (obtain ⟨hS1, hSW⟩ := hSW)); (try (obtain ⟨hS2, hSW⟩ := hSW)); (try (obtain ⟨hS3, hSW⟩ := hSW)); (try (obtain ⟨hS4, hSW⟩ := hSW)); (try (obtain ⟨hS5, hSW⟩ := hSW)); (try (obtain ⟨hS6, hSW⟩ := hSW)); (try (obtain ⟨hS7, hSW⟩ := hSW)); (try (obtain ⟨hS8, hSW⟩ := hSW)); go_simp; (try with_reducible rfl); done)); (focus exact fun _ _ _ h => h); (focus exact hF); (focus exact hG); simp only [Act.put, List.setIfInBounds_toArray, List.set_cons_zero, List.set_cons_succ])
      iterate 1 (refine TF.val2 (v := ?_) ?_ ?_ ?_ ?_ ?_ ?_; rotate_left; (focus rfl); (focus (intro W hSW; (try dsimp only at hSW); (try (obtain ⟨hS1, hSW⟩ := hSW)); (try (obtain ⟨hS2, hSW⟩ := hSW)); (try (obtain ⟨hS3, hSW⟩ := hSW)); (try (obtain ⟨hS4, hSW⟩ := hSW)); (try (obtain ⟨hS5, hSW⟩ := hSW)); (try (obtain ⟨hS6, hSW⟩ := hSW)); (try (obtain ⟨hS7, hSW⟩ := hSW)); (try (obtain ⟨hS8, hSW⟩ := hSW)); go_simp; (try with_reducible rfl); done)); (focus exact fun _ _ _ h => h); (focus exact hF); (focus exact hG); simp only [Act.put, List.setIfInBounds_toArray, List.set_cons_zero, List.set_cons_succ])
      iterate 2 (refine TF.val1 (v := ?_) ?_ ?_ ?_ ?_ ?_ ?_; rotate_left; (focus rfl); (focus (intro W hSW; (try dsimp only at hSW); (try (obtain ⟨hS1, hSW⟩ := hSW)); (try (obtain ⟨hS2, hSW⟩ := hSW)); (try (obtain ⟨hS3, hSW⟩ := hSW)); (try (obtain ⟨hS4, hSW⟩ := hSW)); (try (obtain ⟨hS5, hSW⟩ := hSW)); (try (obtain ⟨hS6, hSW⟩ := hSW)); (try (obtain ⟨hS7, hSW⟩ := hSW)); (try (obtain ⟨hS8, hSW⟩ := hSW)); go_simp; (try with_reducible rfl); done)); (focus exact fun _ _ _ h => h); (focus exact hF); (focus exact hG); simp only [Act.put, List.setIfInBounds_toArray, List.set_cons_zero, List.set_cons_succ])
      refine TF.eff0 (by rfl) (fun K hK => ?_); go_simp
      refine (rcopy_v own (some ad) n c B rs y0 (H0.out _ D0.out).2.2.2.1 (Nat.le_trans hBz (H0.out _ D0.out).2.2.2.2.1) (by omega) HRB.out).mono ?_
      rintro e y1 ⟨Ak, ck, rsk, rfl, ok, hpk, bk⟩
      have D1 := Lib.hid (D0.out.trans (bk.mono (H0.out _ D0.out).2.2.2.2.1))
      have OD1 := Lib.hid (OD.out.below bk)
      have XD1 := Lib.hid (XD.out.below bk)
      have hzy := bk.size
      have hg8y := XD.out.lt
      obtain ⟨gk, rfl⟩ := own_some ok.row (by omega)
      have hgk := ok.row.lt gk rfl
      obtain ⟨rk, hrk⟩ : ∃ rk, rsk[k]? = some rk := ⟨_, List.getElem?_eq_getElem (by rw [ok.len]; omega)⟩
      have hrkp : rk.p = (rf, ds) := by
        have h1 := congrArg (fun l => l[k]?) hpk
        simp only [List.getElem?_map, hrk] at h1
        have h2 := HXX.out
        rw [List.getElem?_map] at h2
        rw [h2] at h1
        exact Option.some.inj h1
      have HRKP := Lib.hid hrkp
      have hrI := ok.each rk (List.mem_of_getElem? hrk)
      have q0 : y1.cell? ⟨gk, k * 2, none⟩ = some (.string rk.f) := by
        rw [ok.row.cellAt (k * 2) (by omega)]
        have h := flat_at Rw.cells_len rsk hrk (i := 0) (by omega)
        rw [Nat.add_zero] at h
        rw [h]
        rfl
      have q1 : y1.cell? ⟨gk, k * 2 + 1, none⟩ = some (.slice rk.a rk.n rk.c) := by
        rw [ok.row.cellAt (k * 2 + 1) (by omega)]
        have h := flat_at Rw.cells_len rsk hrk (i := 1) (by omega)
        rw [h]
        rfl
      have HIK := Lib.hid hrI.1
      have hfk := hrI.2
      have hF1 : y1.cell? ⟨g, 0, none⟩ = some (.int .i64 own) ∧ y1.cell? ⟨g, 1, none⟩ = some (.slice (some ad) n c) ∧ y1.cell? ⟨gk, k * 2, none⟩ = some (.string rk.f) ∧ y1.cell? ⟨gk, k * 2 + 1, none⟩ = some (.slice rk.a rk.n rk.c) := ⟨(H0.out _ D1.out).1.cell (j := 0) rfl, (H0.out _ D1.out).1.cell (j := 1) rfl, q0, q1⟩
      have hG1 : y1.cell? ⟨g8, 1, none⟩ = some (.slice A' m c') := XD1.out.cell (j := 1) rfl
      clear bk ok hpk hrk hrkp hrI q0 q1 hF hG
      refine hK.out _ _ ⟨hF1.1, hF1.2.1⟩ hG1 ?_
      clear hK
      (try simp only [Act.put, List.setIfInBounds_toArray, List.set_cons_zero, List.set_cons_succ])
      have hF := hF1
      have hG := hG1
      clear hF1 hG1
      refine TF.now (fun V => V.cell? ⟨g, 0, none⟩ = some (.int .i64 own) ∧ V.cell? ⟨g, 1, none⟩ = some (.slice (some ad) n c) ∧ V.cell? ⟨gk, k * 2, none⟩ = some (.string rk.f) ∧ V.cell? ⟨gk, k * 2 + 1, none⟩ = some (.slice rk.a rk.n rk.c)) (fun _ h => ⟨h.1, h.2.1⟩) ?_
      have hfl := field_rows own (some ⟨gk, 0, none⟩) n ck
      iterate 3 (refine TF.val1 (v := ?_) ?_ ?_ ?_ ?_ ?_ ?_; rotate_left; (focus rfl); (focus (intro W hSW; (try dsimp only at hSW); (try (obtain ⟨hS1, hSW⟩ := hSW)); (try (obtain ⟨hS2, hSW⟩ := hSW)); (try (obtain ⟨hS3, hSW⟩ := hSW)); (try (obtain ⟨hS4, hSW⟩ := hSW)); (try (obtain ⟨hS5, hSW⟩ := hSW)); (try (obtain ⟨hS6, hSW⟩ := hSW)); (try (obtain ⟨hS7, hSW⟩ := hSW)); (try (obtain ⟨hS8, hSW⟩ := hSW)); go_simp; (try with_reducible rfl); done)); (focus exact fun _ _ _ h => h); (focus exact hF); (focus exact hG); simp only [Act.put, List.setIfInBounds_toArray, List.set_cons_zero, List.set_cons_succ])
      clear hfl
      refine TF.eff0 (by rfl) (fun K hK => ?_); go_simp
      have b3 := (Below.refl y1.heap.size y1).alloc (Nat.le_refl _) (.cells #[.string rk.f, .slice rk.a rk.n rk.c] 56)
      have D3 := Lib.hid (D1.out.trans (b3.mono (H0.out _ D1.out).2.2.2.2.1))
      have OD3 := Lib.hid (OD1.out.below b3)
      have XD3 := Lib.hid (XD1.out.below b3)
      have HI3 := Lib.hid (HIK.out.below b3)
      have R3 := Lib.hid (show Reads (y1.alloc (.cells #[.string rk.f, .slice rk.a rk.n rk.c] 56)) (y1.heap.size + 1) 2 (some ⟨y1.heap.size, 0, none⟩) 1 rk.cells from Reads.row1 56 y1 rk)
      have hF1 : (y1.alloc (.cells #[.string rk.f, .slice rk.a rk.n rk.c] 56)).cell? ⟨g, 0, none⟩ = some (.int .i64 own) ∧ (y1.alloc (.cells #[.string rk.f, .slice rk.a rk.n rk.c] 56)).cell? ⟨g, 1, none⟩ = some (.slice (some ad) n c) ∧ (y1.alloc (.cells #[.string rk.f, .slice rk.a rk.n rk.c] 56)).cell? ⟨gk, k * 2, none⟩ = some (.string rk.f) ∧ (y1.alloc (.cells #[.string rk.f, .slice rk.a rk.n rk.c] 56)).cell? ⟨gk, k * 2 + 1, none⟩ = some (.slice rk.a rk.n rk.c) := ⟨keepc b3 hF.1, keepc b3 hF.2.1, keepc b3 hF.2.2.1, keepc b3 hF.2.2.2⟩
      have hG1 : (y1.alloc (.cells #[.string rk.f, .slice rk.a rk.n rk.c] 56)).cell? ⟨g8, 1, none⟩ = some (.slice A' m c') := XD3.out.cell (j := 1) rfl
      have hz3 : y1.heap.size ≤ (y1.alloc (.cells #[.string rk.f, .slice rk.a rk.n rk.c] 56)).heap.size := by simp
      clear b3 D1 OD1 XD1 HIK hF hG
      refine hK.out _ _ hF1 hG1 ?_
      clear hK
      (try simp only [Act.put, List.setIfInBounds_toArray, List.set_cons_zero, List.set_cons_succ])
      generalize y1.alloc (.cells #[.string rk.f, .slice rk.a rk.n rk.c] 56) = y3 at *
      generalize y1.heap.size = gr at *
      have hF := hF1
      have hG := hG1
      clear hF1 hG1
      refine TF.eff0 (by rfl) (fun K hK => ?_)
      have hap3 : ∀ x ∈ ys, apartR x rk := fun x hx b h1 h2 => by
        have p1 := ((OD.out.each x hx).1.lt b h1).2
        have p2 := (HI3.out.lt b h2).1
        omega
      have hlo : ∀ j, (Value.slice A' m c').ownBlock = some j → g8 + 1 ≤ j ∧ j < y0.heap.size := fun j hj => OD.out.row.lt j hj
      refine wp_appRow (.tmp 126) (.tmp 133) rfl (g8 + 1) A' m c' ys rfl OD3.out rk (HI3.out.down (by omega)) hfk hap3 (gr + 1) (some ⟨gr, 0, none⟩) rfl R3.out (by omega) (by omega) ?_
      intro A7 c7 y4 ho7 hg7
      have XD4 := Lib.hid (show VArr 27 y4 g8 [.int .i64 own, .slice A' m c'] from XD3.out.keep (hg7.block g8 XD3.out.lt (fun e => by have := (hlo g8 e.symm).1; omega)))
      have D4 := Lib.hid (D3.out.grown hg7 (by omega) (fun j e => by have := (hlo j e).1; omega))
      have OM4 := Lib.hid ho7
      have hgq : y4.heap[gk]? = y3.heap[gk]? := hg7.block gk (by omega) (fun e => by have := (hlo gk e.symm).2; omega)
      have hF1 : y4.cell? ⟨g, 0, none⟩ = some (.int .i64 own) ∧ y4.cell? ⟨g, 1, none⟩ = some (.slice (some ad) n c) ∧ y4.cell? ⟨gk, k * 2, none⟩ = some (.string rk.f) ∧ y4.cell? ⟨gk, k * 2 + 1, none⟩ = some (.slice rk.a rk.n rk.c) := ⟨(H0.out _ D4.out).1.cell (j := 0) rfl, (H0.out _ D4.out).1.cell (j := 1) rfl, (World.cell?_of_block (a := ⟨gk, k * 2, none⟩) hgq).trans hF.2.2.1, (World.cell?_of_block (a := ⟨gk, k * 2 + 1, none⟩) hgq).trans hF.2.2.2⟩
      have hG1 : y4.cell? ⟨g8, 1, none⟩ = some (.slice A' m c') := XD4.out.cell (j := 1) rfl
      have hsz4 := hg7.size
      clear ho7 hg7 hap3 hlo hF hG D3 OD3 XD3
      refine hK.out _ _ hF1 hG1 ?_
      clear hK
      (try simp only [Act.put, List.setIfInBounds_toArray, List.set_cons_zero, List.set_cons_succ])
      have hF := hF1
      have hG := hG1
      clear hF1 hG1
      iterate 1 (refine TF.val1 (v := ?_) ?_ ?_ ?_ ?_ ?_ ?_; rotate_left; (focus rfl); (focus (intro W hSW; (try dsimp only at hSW); (try (obtain ⟨hS1, hSW⟩ := hSW)); (try (obtain ⟨hS2, hSW⟩ := hSW)); (try (obtain ⟨hS3, hSW⟩ := hSW)); (try (obtain ⟨hS4, hSW⟩ := hSW)); (try (obtain ⟨hS5, hSW⟩ := hSW)); (try (obtain ⟨hS6, hSW⟩ := hSW)); (try (obtain ⟨hS7, hSW⟩ := hSW)); (try (obtain ⟨hS8, hSW⟩ := hSW)); go_simp; (try with_reducible rfl); done)); (focus exact fun _ _ _ h => h); (focus exact hF); (focus exact hG); simp only [Act.put, List.setIfInBounds_toArray, List.set_cons_zero, List.set_cons_succ])
      have hfz : y4.frozen? ⟨g8, 1, none⟩ = false := XD4.out.frozen 1
      have XS := Lib.hid (show VArr 27 (y4.setCell ⟨g8, 1, none⟩ (.slice A7 (m + 1) c7)) g8 [.int .i64 own, .slice A7 (m + 1) c7] from XD4.out.set_ 1 (.slice A7 (m + 1) c7))
      have TS := Lib.hid (show Below z0 w0 (y4.setCell ⟨g8, 1, none⟩ (.slice A7 (m + 1) c7)) from D4.out.setCell (p := ⟨g8, 1, none⟩) (by show z0 ≤ g8; omega) _)
      have OS := Lib.hid (show OwnM (y4.setCell ⟨g8, 1, none⟩ (.slice A7 (m + 1) c7)) (g8 + 1) A7 (m + 1) c7 (ys ++ [rk]) from ⟨own_keep OM4.out.row fun j hj => Below.heap_setCell y4 _ _ j (by have := (OM4.out.row.lt j hj).1; show j ≠ g8; omega), fun y hy => ⟨(OM4.out.each y hy).1.keep fun j hj => Below.heap_setCell y4 _ _ j (by have := ((OM4.out.each y hy).1.lt j hj).1; show j ≠ g8; omega), (OM4.out.each y hy).2⟩, OM4.out.apart⟩)
      have hsg : (y4.setCell ⟨g8, 1, none⟩ (.slice A7 (m + 1) c7)).heap[gk]? = y4.heap[gk]? := Below.heap_setCell y4 ⟨g8, 1, none⟩ _ gk (by show gk ≠ g8; omega)
      have HPS := Lib.hid (show (ys ++ [rk]).map Rw.p = addE (rs.map Rw.p) f (lbR f (rs.map Rw.p)) (k + 1) by
        rw [List.map_append, List.map_cons, List.map_nil, HRKP.out]
        exact HPN2.out)
      refine TF.eff4 (by rfl) (fun K hK => ?_); go_simp
      refine hK.out _ _ ⟨(H0.out _ TS.out).1.cell (j := 0) rfl, (H0.out _ TS.out).1.cell (j := 1) rfl, (World.cell?_of_block (a := ⟨gk, k * 2, none⟩) hsg).trans hF.2.2.1, (World.cell?_of_block (a := ⟨gk, k * 2 + 1, none⟩) hsg).trans hF.2.2.2⟩ ?_
      refine TF.done ?_
      clear hK hF hG hfz hsg hgq
      go_wp2_with fail
      go_roundw
      case rel => exact ⟨k + 1, m + 1, c7, A7, ys ++ [rk], _, by omega, by go_num, rfl, (by first | (simp; done) | (simp; omega) | (have := HKP.out; simp; omega)), HPS.out, OS.out, XS.out, TS.out, XS.out.lt⟩
      case measure => simp [intOf]; omega
    · have dl : Op.bytesLess f.toList rf.toList = true := ((HPP.out k _ HXX.out).2 (by omega))
      have dl3 : (rf.toList == f.toList) = false := (kbeq_false rf f).2 HNE.out
      have dl2 : Op.bytesLess rf.toList f.toList = false := klt_asymm dl
      obtain rfl : dv = false := by rw [HDV.out]; simp; omega
      have HKP := Lib.hid hkp
      clear hkp
      go_upto_region 19 with fail
      refine wp_region_text [(0, false), (1, false), (2, false), (3, false), (4, false), (5, false), (6, false), (7, false), (8, false), (9, false), (10, false), (11, false), (12, false), (13, false), (14, false), (15, false), (16, false), (17, false), (18, false), (19, false)] (fun V => V.cell? ⟨g, 1, none⟩ = some (.slice (some ad) n c) ∧ V.cell? (ad.add (k * 2)) = some (.string rf) ∧ V.cell? ⟨g + 1, 1, none⟩ = some (.string f)) (by kernel_rfl) (by kernel_rfl) (by kernel_rfl) (by kernel_rfl) (by kernel_rfl) (fun _ => ?_)
      simp only [outOf, List.getElem?_cons_zero, List.getElem?_cons_succ, Option.getD_some]
      have hS : wr.drew.cell? ⟨g, 1, none⟩ = some (.slice (some ad) n c) ∧ wr.drew.cell? (ad.add (k * 2)) = some (.string rf) ∧ wr.drew.cell? ⟨g + 1, 1, none⟩ = some (.string f) := ⟨c1, cr, a1⟩
      have bE : Below wr.heap.size wr wr.drew := (Below.refl _ _).drew
      have T8 := Lib.hid (T7.out.trans (bE.mono (H0.out _ T7.out).2.2.2.2.1))
      have O8 := Lib.hid (O7.out.below bE)
      have X8 := Lib.hid (X7.out.below bE)
      clear bE c0 c1 a1 T7 O7 X7
      generalize wr.drew = y9 at *
      iterate 20 ((first | (refine TW.val2 (v := ?_) ?_ ?_ ?_ ?_ ?_; rotate_left; (focus rfl); (focus (intro W hSW; (try dsimp only at hSW); (try (obtain ⟨hS1, hSW⟩ := hSW)); (try (obtain ⟨hS2, hSW⟩ := hSW)); (try (obtain ⟨hS3, hSW⟩ := hSW)); (try (obtain ⟨hS4, hSW⟩ := hSW)); (try (obtain ⟨hS5, hSW⟩ := hSW)); (try (obtain ⟨hS6, hSW⟩ := hSW)); (try (obtain ⟨hS7, hSW⟩ := hSW)); (try (obtain ⟨hS8, hSW⟩ := hSW)); go_simp; (try with_reducible rfl); done)); (focus exact fun _ _ _ h => h); (focus assumption)) | (refine TW.skip (e := false) ?_ ?_ ?_ ?_; (focus rfl); (focus exact fun _ _ _ h => h); (focus assumption)) | (refine TW.skip (e := true) ?_ ?_ ?_ ?_; (focus rfl); (focus exact fun _ _ _ h => h); (focus assumption))); simp only [Act.put, List.setIfInBounds_toArray, List.set_cons_zero, List.set_cons_succ])
      refine TW.done ?_
      clear hS
      have c0 := (H0.out _ T8.out).1.cell (j := 0) rfl
      have c1 := (H0.out _ T8.out).1.cell (j := 1) rfl
      have a1 := (H0.out _ T8.out).2.1.cell (j := 1) rfl
      clear dl dl2 dl3 cr
      have e1 := X8.out.cell (j := 1) rfl
      have bA := (Below.refl y9.heap.size y9).alloc (Nat.le_refl _) (.cells #[.string f, .slice none 0 0] 56)
      have OA := Lib.hid (O8.out.below bA)
      have XA := Lib.hid (X8.out.below bA)
      have TA := Lib.hid (T8.out.trans (bA.mono (H0.out _ T8.out).2.2.2.2.1))
      have RA := Lib.hid (show Reads (y9.alloc (.cells #[.string f, .slice none 0 0] 56)) (y9.heap.size + 1) 2 (some ⟨y9.heap.size, 0, none⟩) 1 (Rw.cells ⟨f, none, 0, 0, []⟩) from Reads.row1 56 y9 ⟨f, none, 0, 0, []⟩)
      have hlo := Lib.hid (fun j (hj : (Value.slice A' m c').ownBlock = some j) => O8.out.row.lt j hj)
      have hg9 := X8.out.lt
      clear bA
      go_upto_region 21 with (first
        | (at_builtin; go_loud (refine wpList_appRow rfl (.tmp 113) (.tmp 117) rfl (g8 + 1) A' m c' ys rfl OA.out ⟨f, none, 0, 0, []⟩ (IOwn.nil_ _ _) hfs (fun x hx b h1 h2 => by simp [Value.ownBlock] at h2) (y9.heap.size + 1) (some ⟨y9.heap.size, 0, none⟩) rfl RA.out (by omega) (by simp; omega) ?_); intro A8 c8 w8 ho8 hg8; have XB := Lib.hid (show VArr 27 w8 g8 [.int .i64 own, .slice A' m c'] from XA.out.keep (hg8.block g8 XA.out.lt (fun e => by have := (hlo.out g8 e.symm).1; omega))); have q8 := XB.out.cell (j := 1) rfl; have f8 := XB.out.frozen 1)
        | fail)
      have XC := Lib.hid (show VArr 27 (w8.setCell ⟨g8, 1, none⟩ (.slice A8 (m + 1) c8)) g8 [.int .i64 own, .slice A8 (m + 1) c8] from XB.out.set_ 1 (.slice A8 (m + 1) c8))
      have OB := Lib.hid ho8
      have OC := Lib.hid (show OwnM (w8.setCell ⟨g8, 1, none⟩ (.slice A8 (m + 1) c8)) (g8 + 1) A8 (m + 1) c8 (ys ++ [⟨f, none, 0, 0, []⟩]) from ⟨own_keep OB.out.row fun j hj => Below.heap_setCell w8 _ _ j (by have := (OB.out.row.lt j hj).1; show j ≠ g8; omega), fun y hy => ⟨(OB.out.each y hy).1.keep fun j hj => Below.heap_setCell w8 _ _ j (by have := ((OB.out.each y hy).1.lt j hj).1; show j ≠ g8; omega), (OB.out.each y hy).2⟩, OB.out.apart⟩)
      have TC := Lib.hid (show Below z0 w0 (w8.setCell ⟨g8, 1, none⟩ (.slice A8 (m + 1) c8)) from (TA.out.grown hg8 (by have := (H0.out _ TA.out).2.2.2.2.1; omega) (fun j e => by have := (hlo.out j e).1; omega)).setCell (p := ⟨g8, 1, none⟩) (by show z0 ≤ g8; omega) _)
      clear ho8 hg8 hlo q8 f8 e1 XB XA TA OA RA OB c0 c1 a1 T8 O8 X8
      generalize (w8.setCell ⟨g8, 1, none⟩ (.slice A8 (m + 1) c8)) = w9 at *
      have c0 := (H0.out _ TC.out).1.cell (j := 0) rfl
      have c1 := (H0.out _ TC.out).1.cell (j := 1) rfl
      have a1 := (H0.out _ TC.out).2.1.cell (j := 1) rfl
      have HPN2 := Lib.hid (show (ys ++ [(⟨f, none, 0, 0, []⟩ : Rw)]).map Rw.p ++ [(rf, ds)] = addE (rs.map Rw.p) f (lbR f (rs.map Rw.p)) (k + 1) by
        rw [List.map_append, HYP.out]
        have h := addE_mid (f := f) (show (rs.map Rw.p)[(lbR f (rs.map Rw.p))]? = some (rf, ds) by rw [← HKP.out]; exact HXX.out)
        rw [← HKP.out] at h ⊢
        exact h)
      go_upto_region 22 with fail
      have hF : w9.drew.cell? ⟨g, 0, none⟩ = some (.int .i64 own) ∧ w9.drew.cell? ⟨g, 1, none⟩ = some (.slice (some ad) n c) := ⟨(H0.out _ TC.out).1.cell (j := 0) rfl, (H0.out _ TC.out).1.cell (j := 1) rfl⟩
      have hG : w9.drew.cell? ⟨g8, 1, none⟩ = some (.slice A8 (m + 1) c8) := XC.out.cell (j := 1) rfl
      refine wp_region_F 11 [(0, 1), (1, 2), (2, 1), (5, 1), (3, 0), (4, 1), (6, 1), (7, 1), (8, 0), (9, 0), (10, 1), (11, 4)] (fun V => V.cell? ⟨g, 0, none⟩ = some (.int .i64 own) ∧ V.cell? ⟨g, 1, none⟩ = some (.slice (some ad) n c)) (fun V => V.cell? ⟨g8, 1, none⟩ = some (.slice A8 (m + 1) c8)) (by kernel_rfl) (by kernel_rfl) (by kernel_rfl) (by kernel_rfl) (by kernel_rfl) (fun _ => ?_)
      simp only [outE, List.getElem?_cons_zero, List.getElem?_cons_succ, Option.getD_some]
      have bD : Below w9.heap.size w9 w9.drew := (Below.refl _ _).drew
      have D0 := Lib.hid (TC.out.trans (bD.mono (H0.out _ TC.out).2.2.2.2.1))
      have OD := Lib.hid (OC.out.below bD)
      have XD := Lib.hid (XC.out.below bD)
      clear bD c0 c1 a1
      generalize w9.drew = y0 at *
      iterate 1 (refine TF.val1 (v := ?_) ?_ ?_ ?_ ?_ ?_ ?_; rotate_left; (focus rfl); (focus (intro W hSW; (try dsimp only at hSW); (try (obtain ⟨hS1, hSW⟩ := hSW)); (try (obtain ⟨hS2, hSW⟩ := hSW)); (try (obtain ⟨hS3, hSW⟩ := hSW)); (try (obtain ⟨hS4, hSW⟩ := hSW)); (try (obtain ⟨hS5, hSW⟩ := hSW)); (try (obtain ⟨hS6, hSW⟩ := hSW)); (try (obtain ⟨hS7, hSW⟩ := hSW)); (try (obtain ⟨hS8, hSW⟩ := hSW)); go_simp; (try with_reducible rfl); done)); (focus exact fun _ _ _ h => h); (focus exact hF); (focus exact hG); simp only [Act.put, List.setIfInBounds_toArray, List.set_cons_zero, List.set_cons_succ])
      iterate 1 (refine TF.val2 (v := ?_) ?_ ?_ ?_ ?_ ?_ ?_; rotate_left; (focus rfl); (focus (intro W hSW; (try dsimp only at hSW); (try (obtain ⟨hS1, hSW⟩ := hSW)); (try (obtain ⟨hS2, hSW⟩ := hSW)); (try (obtain ⟨hS3, hSW⟩ := hSW)); (try (obtain ⟨hS4, hSW⟩ := hSW)); (try (obtain ⟨hS5, hSW⟩ := hSW)); (try (obtain ⟨hS6, hSW⟩ := hSW)); (try (obtain ⟨hS7, hSW⟩ := hSW)); (try (obtain ⟨hS8, hSW⟩ := hSW)); go_simp; (try with_reducible rfl); done)); (focus exact fun _ _ _ h => h); (focus exact hF); (focus exact hG); simp only [Act.put, List.setIfInBounds_toArray, List.set_cons_zero, List.set_cons_succ])
      iterate 2 (refine TF.val1 (v := ?_) ?_ ?_ ?_ ?_ ?_ ?_; rotate_left; (focus rfl); (focus (intro W hSW; (try dsimp only at hSW); (try (obtain ⟨hS1, hSW⟩ := hSW)); (try (obtain ⟨hS2, hSW⟩ := hSW)); (try (obtain ⟨hS3, hSW⟩ := hSW)); (try (obtain ⟨hS4, hSW⟩ := hSW)); (try (obtain ⟨hS5, hSW⟩ := hSW)); (try (obtain ⟨hS6, hSW⟩ := hSW)); (try (obtain ⟨hS7, hSW⟩ := hSW)); (try (obtain ⟨hS8, hSW⟩ := hSW)); go_simp; (try with_reducible rfl); done)); (focus exact fun _ _ _ h => h); (focus exact hF); (focus exact hG); simp only [Act.put, List.setIfInBounds_toArray, List.set_cons_zero, List.set_cons_succ])
      refine TF.eff0 (by rfl) (fun K hK => ?_); go_simp
      refine (rcopy_v own (some ad) n c B rs y0 (H0.out _ D0.out).2.2.2.1 (Nat.le_trans hBz (H0.out _ D0.out).2.2.2.2.1) (by omega) HRB.out).mono ?_
      rintro e y1 ⟨Ak, ck, rsk, rfl, ok, hpk, bk⟩
      have D1 := Lib.hid (D0.out.trans (bk.mono (H0.out _ D0.out).2.2.2.2.1))
      have OD1 := Lib.hid (OD.out.below bk)
      have XD1 := Lib.hid (XD.out.below bk)
      have hzy := bk.size
      have hg8y := XD.out.lt
      obtain ⟨gk, rfl⟩ := own_some ok.row (by omega)
      have hgk := ok.row.lt gk rfl
      obtain ⟨rk, hrk⟩ : ∃ rk, rsk[k]? = some rk := ⟨_, List.getElem?_eq_getElem (by rw [ok.len]; omega)⟩
      have hrkp : rk.p = (rf, ds) := by
        have h1 := congrArg (fun l => l[k]?) hpk
        simp only [List.getElem?_map, hrk] at h1
        have h2 := HXX.out
        rw [List.getElem?_map] at h2
        rw [h2] at h1
        exact Option.some.inj h1
      have HRKP := Lib.hid hrkp
      have hrI := ok.each rk (List.mem_of_getElem? hrk)
      have q0 : y1.cell? ⟨gk, k * 2, none⟩ = some (.string rk.f) := by
        rw [ok.row.cellAt (k * 2) (by omega)]
        have h := flat_at Rw.cells_len rsk hrk (i := 0) (by omega)
        rw [Nat.add_zero] at h
        rw [h]
        rfl
      have q1 : y1.cell? ⟨gk, k * 2 + 1, none⟩ = some (.slice rk.a rk.n rk.c) := by
        rw [ok.row.cellAt (k * 2 + 1) (by omega)]
        have h := flat_at Rw.cells_len rsk hrk (i := 1) (by omega)
        rw [h]
        rfl
      have HIK := Lib.hid hrI.1
      have hfk := hrI.2
      have hF1 : y1.cell? ⟨g, 0, none⟩ = some (.int .i64 own) ∧ y1.cell? ⟨g, 1, none⟩ = some (.slice (some ad) n c) ∧ y1.cell? ⟨gk, k * 2, none⟩ = some (.string rk.f) ∧ y1.cell? ⟨gk, k * 2 + 1, none⟩ = some (.slice rk.a rk.n rk.c) := ⟨(H0.out _ D1.out).1.cell (j := 0) rfl, (H0.out _ D1.out).1.cell (j := 1) rfl, q0, q1⟩
      have hG1 : y1.cell? ⟨g8, 1, none⟩ = some (.slice A8 (m + 1) c8) := XD1.out.cell (j := 1) rfl
      clear bk ok hpk hrk hrkp hrI q0 q1 hF hG
      refine hK.out _ _ ⟨hF1.1, hF1.2.1⟩ hG1 ?_
      clear hK
      (try simp only [Act.put, List.setIfInBounds_toArray, List.set_cons_zero, List.set_cons_succ])
      have hF := hF1
      have hG := hG1
      clear hF1 hG1
      refine TF.now (fun V => V.cell? ⟨g, 0, none⟩ = some (.int .i64 own) ∧ V.cell? ⟨g, 1, none⟩ = some (.slice (some ad) n c) ∧ V.cell? ⟨gk, k * 2, none⟩ = some (.string rk.f) ∧ V.cell? ⟨gk, k * 2 + 1, none⟩ = some (.slice rk.a rk.n rk.c)) (fun _ h => ⟨h.1, h.2.1⟩) ?_
      have hfl := field_rows own (some ⟨gk, 0, none⟩) n ck
      iterate 3 (refine TF.val1 (v := ?_) ?_ ?_ ?_ ?_ ?_ ?_; rotate_left; (focus rfl); (focus (intro W hSW; (try dsimp only at hSW); (try (obtain ⟨hS1, hSW⟩ := hSW)); (try (obtain ⟨hS2, hSW⟩ := hSW)); (try (obtain ⟨hS3, hSW⟩ := hSW)); (try (obtain ⟨hS4, hSW⟩ := hSW)); (try (obtain ⟨hS5, hSW⟩ := hSW)); (try (obtain ⟨hS6, hSW⟩ := hSW)); (try (obtain ⟨hS7, hSW⟩ := hSW)); (try (obtain ⟨hS8, hSW⟩ := hSW)); go_simp; (try with_reducible rfl); done)); (focus exact fun _ _ _ h => h); (focus exact hF); (focus exact hG); simp only [Act.put, List.setIfInBounds_toArray, List.set_cons_zero, List.set_cons_succ])
      clear hfl
      refine TF.eff0 (by rfl) (fun K hK => ?_); go_simp
      have b3 := (Below.refl y1.heap.size y1).alloc (Nat.le_refl _) (.cells #[.string rk.f, .slice rk.a rk.n rk.c] 56)
      have D3 := Lib.hid (D1.out.trans (b3.mono (H0.out _ D1.out).2.2.2.2.1))
      have OD3 := Lib.hid (OD1.out.below b3)
      have XD3 := Lib.hid (XD1.out.below b3)
      have HI3 := Lib.hid (HIK.out.below b3)
      have R3 := Lib.hid (show Reads (y1.alloc (.cells #[.string rk.f, .slice rk.a rk.n rk.c] 56)) (y1.heap.size + 1) 2 (some ⟨y1.heap.size, 0, none⟩) 1 rk.cells from Reads.row1 56 y1 rk)
      have hF1 : (y1.alloc (.cells #[.string rk.f, .slice rk.a rk.n rk.c] 56)).cell? ⟨g, 0, none⟩ = some (.int .i64 own) ∧ (y1.alloc (.cells #[.string rk.f, .slice rk.a rk.n rk.c] 56)).cell? ⟨g, 1, none⟩ = some (.slice (some ad) n c) ∧ (y1.alloc (.cells #[.string rk.f, .slice rk.a rk.n rk.c] 56)).cell? ⟨gk, k * 2, none⟩ = some (.string rk.f) ∧ (y1.alloc (.cells #[.string rk.f, .slice rk.a rk.n rk.c] 56)).cell? ⟨gk, k * 2 + 1, none⟩ = some (.slice rk.a rk.n rk.c) := ⟨keepc b3 hF.1, keepc b3 hF.2.1, keepc b3 hF.2.2.1, keepc b3 hF.2.2.2⟩
      have hG1 : (y1.alloc (.cells #[.string rk.f, .slice rk.a rk.n rk.c] 56)).cell? ⟨g8, 1, none⟩ = some (.slice A8 (m + 1) c8) := XD3.out.cell (j := 1) rfl
      have hz3 : y1.heap.size ≤ (y1.alloc (.cells #[.string rk.f, .slice rk.a rk.n rk.c] 56)).heap.size := by simp
      clear b3 D1 OD1 XD1 HIK hF hG
      refine hK.out _ _ hF1 hG1 ?_
      clear hK
      (try simp only [Act.put, List.setIfInBounds_toArray, List.set_cons_zero, List.set_cons_succ])
      generalize y1.alloc (.cells #[.string rk.f, .slice rk.a rk.n rk.c] 56) = y3 at *
      generalize y1.heap.size = gr at *
      have hF := hF1
      have hG := hG1
      clear hF1 hG1
      refine TF.eff0 (by rfl) (fun K hK => ?_)
      have hap3 : ∀ x ∈ (ys ++ [(⟨f, none, 0, 0, []⟩ : Rw)]), apartR x rk := fun x hx b h1 h2 => by
        have p1 := ((OD.out.each x hx).1.lt b h1).2
        have p2 := (HI3.out.lt b h2).1
        omega
      have hlo : ∀ j, (Value.slice A8 (m + 1) c8).ownBlock = some j → g8 + 1 ≤ j ∧ j < y0.heap.size := fun j hj => OD.out.row.lt j hj
      refine wp_appRow (.tmp 126) (.tmp 133) rfl (g8 + 1) A8 (m + 1) c8 (ys ++ [(⟨f, none, 0, 0, []⟩ : Rw)]) rfl OD3.out rk (HI3.out.down (by omega)) hfk hap3 (gr + 1) (some ⟨gr, 0, none⟩) rfl R3.out (by omega) (by omega) ?_
      intro A7 c7 y4 ho7 hg7
      have XD4 := Lib.hid (show VArr 27 y4 g8 [.int .i64 own, .slice A8 (m + 1) c8] from XD3.out.keep (hg7.block g8 XD3.out.lt (fun e => by have := (hlo g8 e.symm).1; omega)))
      have D4 := Lib.hid (D3.out.grown hg7 (by omega) (fun j e => by have := (hlo j e).1; omega))
      have OM4 := Lib.hid ho7
      have hgq : y4.heap[gk]? = y3.heap[gk]? := hg7.block gk (by omega) (fun e => by have := (hlo gk e.symm).2; omega)
      have hF1 : y4.cell? ⟨g, 0, none⟩ = some (.int .i64 own) ∧ y4.cell? ⟨g, 1, none⟩ = some (.slice (some ad) n c) ∧ y4.cell? ⟨gk, k * 2, none⟩ = some (.string rk.f) ∧ y4.cell? ⟨gk, k * 2 + 1, none⟩ = some (.slice rk.a rk.n rk.c) := ⟨(H0.out _ D4.out).1.cell (j := 0) rfl, (H0.out _ D4.out).1.cell (j := 1) rfl, (World.cell?_of_block (a := ⟨gk, k * 2, none⟩) hgq).trans hF.2.2.1, (World.cell?_of_block (a := ⟨gk, k * 2 + 1, none⟩) hgq).trans hF.2.2.2⟩
      have hG1 : y4.cell? ⟨g8, 1, none⟩ = some (.slice A8 (m + 1) c8) := XD4.out.cell (j := 1) rfl
      have hsz4 := hg7.size
      clear ho7 hg7 hap3 hlo hF hG D3 OD3 XD3
      refine hK.out _ _ hF1 hG1 ?_
      clear hK
      (try simp only [Act.put, List.setIfInBounds_toArray, List.set_cons_zero, List.set_cons_succ])
      have hF := hF1
      have hG := hG1
      clear hF1 hG1
      iterate 1 (refine TF.val1 (v := ?_) ?_ ?_ ?_ ?_ ?_ ?_; rotate_left; (focus rfl); (focus (intro W hSW; (try dsimp only at hSW); (try (obtain ⟨hS1, hSW⟩ := hSW)); (try (obtain ⟨hS2, hSW⟩ := hSW)); (try (obtain ⟨hS3, hSW⟩ := hSW)); (try (obtain ⟨hS4, hSW⟩ := hSW)); (try (obtain ⟨hS5, hSW⟩ := hSW)); (try (obtain ⟨hS6, hSW⟩ := hSW)); (try (obtain ⟨hS7, hSW⟩ := hSW)); (try (obtain ⟨hS8, hSW⟩ := hSW)); go_simp; (try with_reducible rfl); done)); (focus exact fun _ _ _ h => h); (focus exact hF); (focus exact hG); simp only [Act.put, List.setIfInBounds_toArray, List.set_cons_zero, List.set_cons_succ])
      have hfz : y4.frozen? ⟨g8, 1, none⟩ = false := XD4.out.frozen 1
      have XS := Lib.hid (show VArr 27 (y4.setCell ⟨g8, 1, none⟩ (.slice A7 ((m + 1) + 1) c7)) g8 [.int .i64 own, .slice A7 ((m + 1) + 1) c7] from XD4.out.set_ 1 (.slice A7 ((m + 1) + 1) c7))
      have TS := Lib.hid (show Below z0 w0 (y4.setCell ⟨g8, 1, none⟩ (.slice A7 ((m + 1) + 1) c7)) from D4.out.setCell (p := ⟨g8, 1, none⟩) (by show z0 ≤ g8; omega) _)
      have OS := Lib.hid (show OwnM (y4.setCell ⟨g8, 1, none⟩ (.slice A7 ((m + 1) + 1) c7)) (g8 + 1) A7 ((m + 1) + 1) c7 ((ys ++ [(⟨f, none, 0, 0, []⟩ : Rw)]) ++ [rk]) from ⟨own_keep OM4.out.row fun j hj => Below.heap_setCell y4 _ _ j (by have := (OM4.out.row.lt j hj).1; show j ≠ g8; omega), fun y hy => ⟨(OM4.out.each y hy).1.keep fun j hj => Below.heap_setCell y4 _ _ j (by have := ((OM4.out.each y hy).1.lt j hj).1; show j ≠ g8; omega), (OM4.out.each y hy).2⟩, OM4.out.apart⟩)
      have hsg : (y4.setCell ⟨g8, 1, none⟩ (.slice A7 ((m + 1) + 1) c7)).heap[gk]? = y4.heap[gk]? := Below.heap_setCell y4 ⟨g8, 1, none⟩ _ gk (by show gk ≠ g8; omega)
      have HPS := Lib.hid (show ((ys ++ [(⟨f, none, 0, 0, []⟩ : Rw)]) ++ [rk]).map Rw.p = addE (rs.map Rw.p) f (lbR f (rs.map Rw.p)) (k + 1) by
        rw [List.map_append, List.map_cons, List.map_nil, HRKP.out]
        exact HPN2.out)
      refine TF.eff4 (by rfl) (fun K hK => ?_); go_simp
      refine hK.out _ _ ⟨(H0.out _ TS.out).1.cell (j := 0) rfl, (H0.out _ TS.out).1.cell (j := 1) rfl, (World.cell?_of_block (a := ⟨gk, k * 2, none⟩) hsg).trans hF.2.2.1, (World.cell?_of_block (a := ⟨gk, k * 2 + 1, none⟩) hsg).trans hF.2.2.2⟩ ?_
      refine TF.done ?_
      clear hK hF hG hfz hsg hgq
      go_wp2_with fail
      go_roundw
      case rel => exact ⟨k + 1, (m + 1) + 1, c7, A7, (ys ++ [(⟨f, none, 0, 0, []⟩ : Rw)]) ++ [rk], _, by omega, by go_num, rfl, (by first | (simp; done) | (simp; omega) | (have := HKP.out; simp; omega)), HPS.out, OS.out, XS.out, TS.out, XS.out.lt⟩
      case measure => simp [intOf]; omega
    · obtain rfl : dv = true := by rw [HDV.out]; simp; omega
      go_upto_region 19 with fail
      refine wp_region_text [(0, false), (1, false), (2, false), (3, false), (4, false), (5, false), (6, false), (7, false), (8, false), (9, false), (10, false), (11, false), (12, false), (13, false), (14, false), (15, false), (16, false), (17, false), (18, false), (19, false)] (fun V => V.cell? ⟨g, 1, none⟩ = some (.slice (some ad) n c) ∧ V.cell? (ad.add (k * 2)) = some (.string rf) ∧ V.cell? ⟨g + 1, 1, none⟩ = some (.string f)) (by kernel_rfl) (by kernel_rfl) (by kernel_rfl) (by kernel_rfl) (by kernel_rfl) (fun _ => ?_)
      simp only [outOf, List.getElem?_cons_zero, List.getElem?_cons_succ, Option.getD_some]
      have hS : wr.drew.cell? ⟨g, 1, none⟩ = some (.slice (some ad) n c) ∧ wr.drew.cell? (ad.add (k * 2)) = some (.string rf) ∧ wr.drew.cell? ⟨g + 1, 1, none⟩ = some (.string f) := ⟨c1, cr, a1⟩
      have bE : Below wr.heap.size wr wr.drew := (Below.refl _ _).drew
      have T8 := Lib.hid (T7.out.trans (bE.mono (H0.out _ T7.out).2.2.2.2.1))
      have O8 := Lib.hid (O7.out.below bE)
      have X8 := Lib.hid (X7.out.below bE)
      clear bE c0 c1 a1 T7 O7 X7
      generalize wr.drew = y9 at *
      iterate 20 ((first | (refine TW.val2 (v := ?_) ?_ ?_ ?_ ?_ ?_; rotate_left; (focus rfl); (focus (intro W hSW; (try dsimp only at hSW); (try (obtain ⟨hS1, hSW⟩ := hSW)); (try (obtain ⟨hS2, hSW⟩ := hSW)); (try (obtain ⟨hS3, hSW⟩ := hSW)); (try (obtain ⟨hS4, hSW⟩ := hSW)); (try (obtain ⟨hS5, hSW⟩ := hSW)); (try (obtain ⟨hS6, hSW⟩ := hSW)); (try (obtain ⟨hS7, hSW⟩ := hSW)); (try (obtain ⟨hS8, hSW⟩ := hSW)); go_simp; (try with_reducible rfl); done)); (focus exact fun _ _ _ h => h); (focus assumption)) | (refine TW.skip (e := false) ?_ ?_ ?_ ?_; (focus rfl); (focus exact fun _ _ _ h => h); (focus assumption)) | (refine TW.skip (e := true) ?_ ?_ ?_ ?_; (focus rfl); (focus exact fun _ _ _ h => h); (focus assumption))); simp only [Act.put, List.setIfInBounds_toArray, List.set_cons_zero, List.set_cons_succ])
      refine TW.done ?_
      clear hS
      have c0 := (H0.out _ T8.out).1.cell (j := 0) rfl
      have c1 := (H0.out _ T8.out).1.cell (j := 1) rfl
      have a1 := (H0.out _ T8.out).2.1.cell (j := 1) rfl
      have HPN2 := Lib.hid (show ys.map Rw.p ++ [(rf, ds)] = addE (rs.map Rw.p) f (lbR f (rs.map Rw.p)) (k + 1) by rw [HYP.out]; exact addE_after hkp HXX.out)
      clear cr
      go_upto_region 22 with fail
      have hF : y9.drew.cell? ⟨g, 0, none⟩ = some (.int .i64 own) ∧ y9.drew.cell? ⟨g, 1, none⟩ = some (.slice (some ad) n c) := ⟨(H0.out _ T8.out).1.cell (j := 0) rfl, (H0.out _ T8.out).1.cell (j := 1) rfl⟩
      have hG : y9.drew.cell? ⟨g8, 1, none⟩ = some (.slice A' m c') := X8.out.cell (j := 1) rfl
      refine wp_region_F 11 [(0, 1), (1, 2), (2, 1), (5, 1), (3, 0), (4, 1), (6, 1), (7, 1), (8, 0), (9, 0), (10, 1), (11, 4)] (fun V => V.cell? ⟨g, 0, none⟩ = some (.int .i64 own) ∧ V.cell? ⟨g, 1, none⟩ = some (.slice (some ad) n c)) (fun V => V.cell? ⟨g8, 1, none⟩ = some (.slice A' m c')) (by kernel_rfl) (by kernel_rfl) (by kernel_rfl) (by kernel_rfl) (by kernel_rfl) (fun _ => ?_)
      simp only [outE, List.getElem?_cons_zero, List.getElem?_cons_succ, Option.getD_some]
      have bD : Below y9.heap.size y9 y9.drew := (Below.refl _ _).drew
      have D0 := Lib.hid (T8.out.trans (bD.mono (H0.out _ T8.out).2.2.2.2.1))
      have OD := Lib.hid (O8.out.below bD)
      have XD := Lib.hid (X8.out.below bD)
      clear bD c0 c1 a1
      generalize y9.drew = y0 at *
      iterate 1 (refine TF.val1 (v := ?_) ?_ ?_ ?_ ?_ ?_ ?_; rotate_left; (focus rfl); (focus (intro W hSW; (try dsimp only at hSW); (try (obtain ⟨hS1, hSW⟩ := hSW)); (try (obtain ⟨hS2, hSW⟩ := hSW)); (try (obtain ⟨hS3, hSW⟩ := hSW)); (try (obtain ⟨hS4, hSW⟩ := hSW)); (try (obtain ⟨hS5, hSW⟩ := hSW)); (try (obtain ⟨hS6, hSW⟩ := hSW)); (try (obtain ⟨hS7, hSW⟩ := hSW)); (try (obtain ⟨hS8, hSW⟩ := hSW)); go_simp; (try with_reducible rfl); done)); (focus exact fun _ _ _ h => h); (focus exact hF); (focus exact hG); simp only [Act.put, List.setIfInBounds_toArray, List.set_cons_zero, List.set_cons_succ])
      iterate 1 (refine TF.val2 (v := ?_) ?_ ?_ ?_ ?_ ?_ ?_; rotate_left; (focus rfl); (focus (intro W hSW; (try dsimp only at hSW); (try (obtain ⟨hS1, hSW⟩ := hSW)); (try (obtain ⟨hS2, hSW⟩ := hSW)); (try (obtain ⟨hS3, hSW⟩ := hSW)); (try (obtain ⟨hS4, hSW⟩ := hSW)); (try (obtain ⟨hS5, hSW⟩ := hSW)); (try (obtain ⟨hS6, hSW⟩ := hSW)); (try (obtain ⟨hS7, hSW⟩ := hSW)); (try (obtain ⟨hS8, hSW⟩ := hSW)); go_simp; (try with_reducible rfl); done)); (focus exact fun _ _ _ h => h); (focus exact hF); (focus exact hG); simp only [Act.put, List.setIfInBounds_toArray, List.set_cons_zero, List.set_cons_succ])
      iterate 2 (refine TF.val1 (v := ?_) ?_ ?_ ?_ ?_ ?_ ?_; rotate_left; (focus rfl); (focus (intro W hSW; (try dsimp only at hSW); (try (obtain ⟨hS1, hSW⟩ := hSW)); (try (obtain ⟨hS2, hSW⟩ := hSW)); (try (obtain ⟨hS3, hSW⟩ := hSW)); (try (obtain ⟨hS4, hSW⟩ := hSW)); (try (obtain ⟨hS5, hSW⟩ := hSW)); (try (obtain ⟨hS6, hSW⟩ := hSW)); (try (obtain ⟨hS7, hSW⟩ := hSW)); (try (obtain ⟨hS8, hSW⟩ := hSW)); go_simp; (try with_reducible rfl); done)); (focus exact fun _ _ _ h => h); (focus exact hF); (focus exact hG); simp only [Act.put, List.setIfInBounds_toArray, List.set_cons_zero, List.set_cons_succ])
      refine TF.eff0 (by rfl) (fun K hK => ?_); go_simp
      refine (rcopy_v own (some ad) n c B rs y0 (H0.out _ D0.out).2.2.2.1 (Nat.le_trans hBz (H0.out _ D0.out).2.2.2.2.1) (by omega) HRB.out).mono ?_
      rintro e y1 ⟨Ak, ck, rsk, rfl, ok, hpk, bk⟩
      have D1 := Lib.hid (D0.out.trans (bk.mono (H0.out _ D0.out).2.2.2.2.1))
      have OD1 := Lib.hid (OD.out.below bk)
      have XD1 := Lib.hid (XD.out.below bk)
      have hzy := bk.size
      have hg8y := XD.out.lt
      obtain ⟨gk, rfl⟩ := own_some ok.row (by omega)
      have hgk := ok.row.lt gk rfl
      obtain ⟨rk, hrk⟩ : ∃ rk, rsk[k]? = some rk := ⟨_, List.getElem?_eq_getElem (by rw [ok.len]; omega)⟩
      have hrkp : rk.p = (rf, ds) := by
        have h1 := congrArg (fun l => l[k]?) hpk
        simp only [List.getElem?_map, hrk] at h1
        have h2 := HXX.out
        rw [List.getElem?_map] at h2
        rw [h2] at h1
        exact Option.some.inj h1
      have HRKP := Lib.hid hrkp
      have hrI := ok.each rk (List.mem_of_getElem? hrk)
      have q0 : y1.cell? ⟨gk, k * 2, none⟩ = some (.string rk.f) := by
        rw [ok.row.cellAt (k * 2) (by omega)]
        have h := flat_at Rw.cells_len rsk hrk (i := 0) (by omega)
        rw [Nat.add_zero] at h
        rw [h]
        rfl
      have q1 : y1.cell? ⟨gk, k * 2 + 1, none⟩ = some (.slice rk.a rk.n rk.c) := by
        rw [ok.row.cellAt (k * 2 + 1) (by omega)]
        have h := flat_at Rw.cells_len rsk hrk (i := 1) (by omega)
        rw [h]
        rfl
      have HIK := Lib.hid hrI.1
      have hfk := hrI.2
      have hF1 : y1.cell? ⟨g, 0, none⟩ = some (.int .i64 own) ∧ y1.cell? ⟨g, 1, none⟩ = some (.slice (some ad) n c) ∧ y1.cell? ⟨gk, k * 2, none⟩ = some (.string rk.f) ∧ y1.cell? ⟨gk, k * 2 + 1, none⟩ = some (.slice rk.a rk.n rk.c) := ⟨(H0.out _ D1.out).1.cell (j := 0) rfl, (H0.out _ D1.out).1.cell (j := 1) rfl, q0, q1⟩
      have hG1 : y1.cell? ⟨g8, 1, none⟩ = some (.slice A' m c') := XD1.out.cell (j := 1) rfl
      clear bk ok hpk hrk hrkp hrI q0 q1 hF hG
      refine hK.out _ _ ⟨hF1.1, hF1.2.1⟩ hG1 ?_
      clear hK
      (try simp only [Act.put, List.setIfInBounds_toArray, List.set_cons_zero, List.set_cons_succ])
      have hF := hF1
      have hG := hG1
      clear hF1 hG1
      refine TF.now (fun V => V.cell? ⟨g, 0, none⟩ = some (.int .i64 own) ∧ V.cell? ⟨g, 1, none⟩ = some (.slice (some ad) n c) ∧ V.cell? ⟨gk, k * 2, none⟩ = some (.string rk.f) ∧ V.cell? ⟨gk, k * 2 + 1, none⟩ = some (.slice rk.a rk.n rk.c)) (fun _ h => ⟨h.1, h.2.1⟩) ?_
      have hfl := field_rows own (some ⟨gk, 0, none⟩) n ck
      iterate 3 (refine TF.val1 (v := ?_) ?_ ?_ ?_ ?_ ?_ ?_; rotate_left; (focus rfl); (focus (intro W hSW; (try dsimp only at hSW); (try (obtain ⟨hS1, hSW⟩ := hSW)); (try (obtain ⟨hS2, hSW⟩ := hSW)); (try (obtain ⟨hS3, hSW⟩ := hSW)); (try (obtain ⟨hS4, hSW⟩ := hSW)); (try (obtain ⟨hS5, hSW⟩ := hSW)); (try (obtain ⟨hS6, hSW⟩ := hSW)); (try (obtain ⟨hS7, hSW⟩ := hSW)); (try (obtain ⟨hS8, hSW⟩ := hSW)); go_simp; (try with_reducible rfl); done)); (focus exact fun _ _ _ h => h); (focus exact hF); (focus exact hG); simp only [Act.put, List.setIfInBounds_toArray, List.set_cons_zero, List.set_cons_succ])
      clear hfl
      refine TF.eff0 (by rfl) (fun K hK => ?_); go_simp
      have b3 := (Below.refl y1.heap.size y1).alloc (Nat.le_refl _) (.cells #[.string rk.f, .slice rk.a rk.n rk.c] 56)
      have D3 := Lib.hid (D1.out.trans (b3.mono (H0.out _ D1.out).2.2.2.2.1))
      have OD3 := Lib.hid (OD1.out.below b3)
      have XD3 := Lib.hid (XD1.out.below b3)
      have HI3 := Lib.hid (HIK.out.below b3)
      have R3 := Lib.hid (show Reads (y1.alloc (.cells #[.string rk.f, .slice rk.a rk.n rk.c] 56)) (y1.heap.size + 1) 2 (some ⟨y1.heap.size, 0, none⟩) 1 rk.cells from Reads.row1 56 y1 rk)
      have hF1 : (y1.alloc (.cells #[.string rk.f, .slice rk.a rk.n rk.c] 56)).cell? ⟨g, 0, none⟩ = some (.int .i64 own) ∧ (y1.alloc (.cells #[.string rk.f, .slice rk.a rk.n rk.c] 56)).cell? ⟨g, 1, none⟩ = some (.slice (some ad) n c) ∧ (y1.alloc (.cells #[.string rk.f, .slice rk.a rk.n rk.c] 56)).cell? ⟨gk, k * 2, none⟩ = some (.string rk.f) ∧ (y1.alloc (.cells #[.string rk.f, .slice rk.a rk.n rk.c] 56)).cell? ⟨gk, k * 2 + 1, none⟩ = some (.slice rk.a rk.n rk.c) := ⟨keepc b3 hF.1, keepc b3 hF.2.1, keepc b3 hF.2.2.1, keepc b3 hF.2.2.2⟩
      have hG1 : (y1.alloc (.cells #[.string rk.f, .slice rk.a rk.n rk.c] 56)).cell? ⟨g8, 1, none⟩ = some (.slice A' m c') := XD3.out.cell (j := 1) rfl
      have hz3 : y1.heap.size ≤ (y1.alloc (.cells #[.string rk.f, .slice rk.a rk.n rk.c] 56)).heap.size := by simp
      clear b3 D1 OD1 XD1 HIK hF hG
      refine hK.out _ _ hF1 hG1 ?_
      clear hK
      (try simp only [Act.put, List.setIfInBounds_toArray, List.set_cons_zero, List.set_cons_succ])
      generalize y1.alloc (.cells #[.string rk.f, .slice rk.a rk.n rk.c] 56) = y3 at *
      generalize y1.heap.size = gr at *
      have hF := hF1
      have hG := hG1
      clear hF1 hG1
      refine TF.eff0 (by rfl) (fun K hK => ?_)
      have hap3 : ∀ x ∈ ys, apartR x rk := fun x hx b h1 h2 => by
        have p1 := ((OD.out.each x hx).1.lt b h1).2
        have p2 := (HI3.out.lt b h2).1
        omega
      have hlo : ∀ j, (Value.slice A' m c').ownBlock = some j → g8 + 1 ≤ j ∧ j < y0.heap.size := fun j hj => OD.out.row.lt j hj
      refine wp_appRow (.tmp 126) (.tmp 133) rfl (g8 + 1) A' m c' ys rfl OD3.out rk (HI3.out.down (by omega)) hfk hap3 (gr + 1) (some ⟨gr, 0, none⟩) rfl R3.out (by omega) (by omega) ?_
      intro A7 c7 y4 ho7 hg7
      have XD4 := Lib.hid (show VArr 27 y4 g8 [.int .i64 own, .slice A' m c'] from XD3.out.keep (hg7.block g8 XD3.out.lt (fun e => by have := (hlo g8 e.symm).1; omega)))
      have D4 := Lib.hid (D3.out.grown hg7 (by omega) (fun j e => by have := (hlo j e).1; omega))
      have OM4 := Lib.hid ho7
      have hgq : y4.heap[gk]? = y3.heap[gk]? := hg7.block gk (by omega) (fun e => by have := (hlo gk e.symm).2; omega)
      have hF1 : y4.cell? ⟨g, 0, none⟩ = some (.int .i64 own) ∧ y4.cell? ⟨g, 1, none⟩ = some (.slice (some ad) n c) ∧ y4.cell? ⟨gk, k * 2, none⟩ = some (.string rk.f) ∧ y4.cell? ⟨gk, k * 2 + 1, none⟩ = some (.slice rk.a rk.n rk.c) := ⟨(H0.out _ D4.out).1.cell (j := 0) rfl, (H0.out _ D4.out).1.cell (j := 1) rfl, (World.cell?_of_block (a := ⟨gk, k * 2, none⟩) hgq).trans hF.2.2.1, (World.cell?_of_block (a := ⟨gk, k * 2 + 1, none⟩) hgq).trans hF.2.2.2⟩
      have hG1 : y4.cell? ⟨g8, 1, none⟩ = some (.slice A' m c') := XD4.out.cell (j := 1) rfl
      have hsz4 := hg7.size
      clear ho7 hg7 hap3 hlo hF hG D3 OD3 XD3
      refine hK.out _ _ hF1 hG1 ?_
      clear hK
      (try simp only [Act.put, List.setIfInBounds_toArray, List.set_cons_zero, List.set_cons_succ])
      have hF := hF1
      have hG := hG1
      clear hF1 hG1
      iterate 1 (refine TF.val1 (v := ?_) ?_ ?_ ?_ ?_ ?_ ?_; rotate_left; (focus rfl); (focus (intro W hSW; (try dsimp only at hSW); (try (obtain ⟨hS1, hSW⟩ := hSW)); (try (obtain ⟨hS2, hSW⟩ := hSW)); (try (obtain ⟨hS3, hSW⟩ := hSW)); (try (obtain ⟨hS4, hSW⟩ := hSW)); (try (obtain ⟨hS5, hSW⟩ := hSW)); (try (obtain ⟨hS6, hSW⟩ := hSW)); (try (obtain ⟨hS7, hSW⟩ := hSW)); (try (obtain ⟨hS8, hSW⟩ := hSW)); go_simp; (try with_reducible rfl); done)); (focus exact fun _ _ _ h => h); (focus exact hF); (focus exact hG); simp only [Act.put, List.setIfInBounds_toArray, List.set_cons_zero, List.set_cons_succ])
      have hfz : y4.frozen? ⟨g8, 1, none⟩ = false := XD4.out.frozen 1
      have XS := Lib.hid (show VArr 27 (y4.setCell ⟨g8, 1, none⟩ (.slice A7 (m + 1) c7)) g8 [.int .i64 own, .slice A7 (m + 1) c7] from XD4.out.set_ 1 (.slice A7 (m + 1) c7))
      have TS := Lib.hid (show Below z0 w0 (y4.setCell ⟨g8, 1, none⟩ (.slice A7 (m + 1) c7)) from D4.out.setCell (p := ⟨g8, 1, none⟩) (by show z0 ≤ g8; omega) _)
      have OS := Lib.hid (show OwnM (y4.setCell ⟨g8, 1, none⟩ (.slice A7 (m + 1) c7)) (g8 + 1) A7 (m + 1) c7 (ys ++ [rk]) from ⟨own_keep OM4.out.row fun j hj => Below.heap_setCell y4 _ _ j (by have := (OM4.out.row.lt j hj).1; show j ≠ g8; omega), fun y hy => ⟨(OM4.out.each y hy).1.keep fun j hj => Below.heap_setCell y4 _ _ j (by have := ((OM4.out.each y hy).1.lt j hj).1; show j ≠ g8; omega), (OM4.out.each y hy).2⟩, OM4.out.apart⟩)
      have hsg : (y4.setCell ⟨g8, 1, none⟩ (.slice A7 (m + 1) c7)).heap[gk]? = y4.heap[gk]? := Below.heap_setCell y4 ⟨g8, 1, none⟩ _ gk (by show gk ≠ g8; omega)
      have HPS := Lib.hid (show (ys ++ [rk]).map Rw.p = addE (rs.map Rw.p) f (lbR f (rs.map Rw.p)) (k + 1) by
        rw [List.map_append, List.map_cons, List.map_nil, HRKP.out]
        exact HPN2.out)
      refine TF.eff4 (by rfl) (fun K hK => ?_); go_simp
      refine hK.out _ _ ⟨(H0.out _ TS.out).1.cell (j := 0) rfl, (H0.out _ TS.out).1.cell (j := 1) rfl, (World.cell?_of_block (a := ⟨gk, k * 2, none⟩) hsg).trans hF.2.2.1, (World.cell?_of_block (a := ⟨gk, k * 2 + 1, none⟩) hsg).trans hF.2.2.2⟩ ?_
      refine TF.done ?_
      clear hK hF hG hfz hsg hgq
      go_wp2_with fail
      go_roundw
      case rel => exact ⟨k + 1, m + 1, c7, A7, ys ++ [rk], _, by omega, by go_num, rfl, (by first | (simp; done) | (simp; omega) | (have := HKP.out; simp; omega)), HPS.out, OS.out, XS.out, TS.out, XS.out.lt⟩
      case measure => simp [intOf]; omega
end Go.Proofs.Ytikegnnlmfidfaa
