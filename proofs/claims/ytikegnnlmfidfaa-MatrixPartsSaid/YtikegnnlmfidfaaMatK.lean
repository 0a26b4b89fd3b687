/-
  Matrices: Apply.
-/
import Derived.Test.YtikegnnlmfidfaaMatJ
namespace Go.Proofs.Ytikegnnlmfidfaa
open Go.RowKit
theorem ne_block {V : World} {b j : Nat} {c1 c2 : Array Value} {e t : TypeId} {f1 f2 : Nat × Nat} (h : V.heap[j]? = some (.cells c1 e f1)) (h' : V.heap[b]? = some (.cells c2 t f2)) (ht : e ≠ t) : j ≠ b := fun q => by
  rw [q, h'] at h
  have h3 := Option.some.inj h
  injection h3 with _ h4 _
  exact ht h4.symm
theorem fin_rows {V V' : World} {base base' n c : Nat} {A : Option Addr} {rs : List Rw} (ho : V.ownsRow base 56 2 (.slice A n c) n (rs.flatMap Rw.cells)) (he : ∀ r ∈ rs, IOwn V base' r.a r.n r.c r.ds ∧ r.f.size ≤ 9223372036854775807)
    (hk : ∀ (j : Nat) (cs : Array Value) (e : TypeId) (fr : Nat × Nat), V.heap[j]? = some (.cells cs e fr) → e = 56 ∨ e = 3 → V'.heap[j]? = V.heap[j]?) : RowsR V' V'.heap.size A n rs ∧ n ≤ c ∧ ∀ g0, g0 ≤ base → g0 ≤ base' → ∀ V2 : World, (∀ j, g0 ≤ j → j < V'.heap.size → V2.heap[j]? = V'.heap[j]?) → RowsR V2 V2.heap.size A n rs := by
  have h1 : V'.ownsRow base 56 2 (.slice A n c) n (rs.flatMap Rw.cells) := own_keep ho fun j hj => by
    obtain ⟨cs, fr, h⟩ := own_cells ho hj
    exact hk j cs _ fr h (.inl rfl)
  have h3 : ∀ r ∈ rs, IOwn V' base' r.a r.n r.c r.ds := fun r hr => (he r hr).1.keep fun j hj => by
    obtain ⟨cs, fr, h⟩ := own_cells (he r hr).1.1 hj
    exact hk j cs _ fr h (.inr rfl)
  refine ⟨⟨Reads.of_own h1, fun r hr => ⟨(h3 r hr).reads, (h3 r hr).2, (h3 r hr).cm, (he r hr).2⟩⟩, ?_, fun g0 hg0 hg1 V2 hV2 => ?_⟩
  · obtain ⟨_, _, e1, e2⟩ := own_shape h1
    injection e1 with _ _ e3
    omega
  · have h4 := own_keep h1 (w' := V2) fun j hj => hV2 j (Nat.le_trans hg0 (h1.lt j hj).1) (h1.lt j hj).2
    refine ⟨Reads.of_own h4, fun r hr => ?_⟩
    have h5 := (h3 r hr).keep (w' := V2) fun j hj => hV2 j (Nat.le_trans hg1 ((h3 r hr).lt j hj).1) ((h3 r hr).lt j hj).2
    exact ⟨h5.reads, h5.2, h5.cm, (he r hr).2⟩
theorem p_get {rs rs5 : List Rw} (hp : rs5.map Rw.p = rs.map Rw.p) {i : Nat} {r : Rw} (hr : rs[i]? = some r) : ∃ r5, rs5[i]? = some r5 ∧ r5.p = r.p := by
  have h : (rs5.map Rw.p)[i]? = some r.p := by rw [hp, List.getElem?_map, hr]; rfl
  rw [List.getElem?_map] at h
  cases hx : rs5[i]? with
  | none => rw [hx] at h; cases h
  | some x => rw [hx] at h; exact ⟨x, rfl, Option.some.inj h⟩
theorem set_row {rs : List Rw} {i : Nat} {f : ByteArray} {a a' : Option Addr} {n n' c c' : Nat} {ds ds' : List Int} (hx : rs[i]? = some ⟨f, a, n, c, ds⟩) : (rs.flatMap Rw.cells).set (i * 2 + 1) (.slice a' n' c') = (rs.take i ++ (⟨f, a', n', c', ds'⟩ : Rw) :: rs.drop (i + 1)).flatMap Rw.cells := by
  have hl : (rs.take i).length = i := by rw [List.length_take]; have := (List.getElem?_eq_some_iff.1 hx).1; omega
  have h := set_slice (ys := rs.take i) (zs := rs.drop (i + 1)) (x := ⟨f, a, n, c, ds⟩) (v := .slice a' n' c') rfl
  rw [← split_at hx, hl] at h
  rw [h, List.flatMap_append, List.flatMap_append, List.flatMap_cons, List.flatMap_cons]
  rfl
theorem apart_split {rs : List Rw} {i : Nat} {x : Rw} (ha : rs.Pairwise apartR) (hx : rs[i]? = some x) : (∀ y ∈ rs.take i, apartR y x) ∧ ∀ y ∈ rs.drop (i + 1), apartR x y := by
  rw [split_at hx, List.pairwise_append] at ha
  exact ⟨fun y hy => ha.2.2 y hy x List.mem_cons_self, fun y hy => (List.pairwise_cons.1 ha.2.1).1 y hy⟩
set_option maxRecDepth 100000 in
set_option maxHeartbeats 16000000 in
theorem apply_v (own : Int) (A : Option Addr) (n c B : Nat) (rs : List Rw) (kind : Int) (f : ByteArray) (d : Int) (w : World) (hr : RowsR w B A n rs) (hB : B ≤ w.heap.size) (hn : n ≤ 9223372036854775807) (hfs : f.size ≤ 9223372036854775807) :
    Calls Try.prog 21 #[.agg #[.int .i64 own, .slice A n c], .agg #[.int .i64 kind, .string f, .int .i64 d]] w fun e w' => ∃ A' n' c' rs', e = .returned (.tuple #[.agg #[.int .i64 (applyP (own, rs.map Rw.p) (kind, f, d)).1.1, .slice A' n' c'], .int .i64 ((applyP (own, rs.map Rw.p) (kind, f, d)).2 : Int)]) ∧
      RowsR w' w'.heap.size A' n' rs' ∧ (∀ V2 : World, (∀ j, w.heap.size ≤ j → j < w'.heap.size → V2.heap[j]? = w'.heap[j]?) → RowsR V2 V2.heap.size A' n' rs') ∧ rs'.map Rw.p = (applyP (own, rs.map Rw.p) (kind, f, d)).1.2 ∧ n' ≤ c' ∧ n' ≤ 8 ∧ (∀ r ∈ rs', r.n ≤ 17) ∧ Below w.heap.size w w' := by
  have HR := Lib.hid hr
  have HIM := Lib.hid (show (Try.prog.info? 27).map (·.size) = some 2 by kernel_rfl)
  have HLN := Lib.hid hr.len
  obtain ⟨w0, hw0⟩ : ∃ w0, ((w.alloc (.cells #[.int .i64 own, .slice A n c] 27)).alloc (.cells #[.int .i64 kind, .string f, .int .i64 d] 41)).alloc (.cells #[.int .i64 0, .slice none 0 0] 27) = w0 := ⟨_, rfl⟩
  have B0 := Lib.hid (show Below w.heap.size w w0 from hw0 ▸ (((Below.refl w.heap.size w).alloc (Nat.le_refl _) _).alloc (by simp) _).alloc (by simp; omega) _)
  have hz0 : w0.heap.size = w.heap.size + 3 := by rw [← hw0]; simp
  have X0 := Lib.hid (show w0.heap[w.heap.size]? = some (.cells #[.int .i64 own, .slice A n c] 27 (0, 0)) from by
    rw [← hw0]
    exact (Below.heap_alloc _ _ _ (by simp; omega)).trans ((Below.heap_alloc _ _ _ (by simp)).trans (heap_alloc_new w _)))
  have C0 := Lib.hid (show w0.heap[w.heap.size + 1]? = some (.cells #[.int .i64 kind, .string f, .int .i64 d] 41 (0, 0)) from by
    rw [← hw0]
    have h := heap_alloc_new (w.alloc (.cells #[.int .i64 own, .slice A n c] 27)) (.cells #[.int .i64 kind, .string f, .int .i64 d] 41)
    exact (Below.heap_alloc _ _ _ (by simp)).trans (by simpa using h))
  have Y0 := Lib.hid (show w0.heap[w.heap.size + 2]? = some (.cells #[.int .i64 0, .slice none 0 0] 27 (0, 0)) from by
    rw [← hw0]
    have h := heap_alloc_new ((w.alloc (.cells #[.int .i64 own, .slice A n c] 27)).alloc (.cells #[.int .i64 kind, .string f, .int .i64 d] 41)) (.cells #[.int .i64 0, .slice none 0 0] 27)
    simpa using h)
  clear hr
  go_enter Try.func21, Try.ntmps21
  go_upto_region 1 with fail
  clear hw0
  generalize hg : w.heap.size = g at *
  have KC := Lib.hid (show ∀ V, Below w0.heap.size w0 V → V.cell? ⟨g, 0, none⟩ = some (.int .i64 own) ∧ V.cell? ⟨g, 1, none⟩ = some (.slice A n c) ∧ V.cell? ⟨g + 1, 0, none⟩ = some (.int .i64 kind) ∧ V.cell? ⟨g + 1, 1, none⟩ = some (.string f) ∧ V.cell? ⟨g + 1, 2, none⟩ = some (.int .i64 d) ∧ V.heap[g + 2]? = some (.cells #[.int .i64 0, .slice none 0 0] 27 (0, 0)) from fun V hV => by
    have h1 := (hV.block g (by omega)).trans X0.out
    have h2 := (hV.block (g + 1) (by omega)).trans C0.out
    exact ⟨by rw [cell_of_row _ _ 0 _ _ _ h1]; rfl, by rw [cell_of_row _ _ 1 _ _ _ h1]; rfl, by rw [cell_of_row _ _ 0 _ _ _ h2]; rfl, by rw [cell_of_row _ _ 1 _ _ _ h2]; rfl, by rw [cell_of_row _ _ 2 _ _ _ h2]; rfl, (hV.block (g + 2) (by omega)).trans Y0.out⟩)
  clear X0 C0 Y0
  obtain ⟨c00, c01, c02, c03, c04, y0⟩ := KC.out w0 (Below.refl _ _)
  go_wp2_with fail
  have CV := check_v own A n c B rs w0 (HR.out.below (B0.out.mono hB)) (by omega) hn
  obtain ⟨ck, hck⟩ : ∃ ck, chkM (own, rs.map Rw.p) = ck := ⟨_, rfl⟩
  have HCK := Lib.hid hck
  rw [hck] at CV
  clear hck
  refine CV.mono ?_
  rintro e w1 ⟨rfl, b1⟩
  have BF := Lib.hid (B0.out.trans (b1.mono (by omega)))
  have BB := Lib.hid b1
  have hz1 := b1.size
  have YF := Lib.hid (KC.out w1 b1).2.2.2.2.2
  clear b1 CV c00 c01 c02 c03 c04 y0
  by_cases h0 : ck = 0
  case neg =>
    have d1 : ((ck : Int) != 0) = true := by simpa using h0
    have HE := Lib.hid (show applyP (own, rs.map Rw.p) (kind, f, d) = ((0, []), ck) by rw [apply_chk (by rw [HCK.out]; exact h0), HCK.out])
    clear h0
    have XS := Lib.hid (setRow_heap w1 (g + 2) _ #[.int .i64 0, .slice none 0 0] _ _ YF.out)
    have BS := Lib.hid (below_setRow BF.out (Nat.le_add_right g 2) #[.int .i64 0, .slice none 0 0])
    go_upto_region 3 with fail
    go_wp2_with (first
      | (refine wpList_store_row rfl 27 (.tmp 4) (.tmp 17) rfl (g + 2) #[.int .i64 0, .slice none 0 0] rfl rfl 27 _ YF.out HIM.out rfl (by simp [Value.oneCell']) ?_)
      | fail)
    first
      | exact bodyPost_ret (results_row_tmp Try.results21 _ _ (g + 2) _ #[.int .i64 0, .slice none 0 0] _ _ rfl XS.out Try.underlying27 rfl HIM.out) rfl
          ⟨none, 0, 0, [], by rw [HE.out]; rfl, ⟨Reads.none_, by simp⟩, fun _ _ => ⟨Reads.none_, by simp⟩, by rw [HE.out]; rfl, Nat.le_refl _, by omega, by simp, hg ▸ BS.out⟩
      | exact bodyPost_ret (results_row_tmp Try.results21 _ _ (g + 2) _ #[.int .i64 0, .slice none 0 0] _ _ rfl XS.out Try.underlying27 rfl HIM.out) rfl
          ⟨none, 0, 0, by rw [HE.out]; rfl, [], ⟨Reads.none_, by simp⟩, fun _ _ => ⟨Reads.none_, by simp⟩, by rw [HE.out]; rfl, Nat.le_refl _, by omega, by simp, hg ▸ BS.out⟩

  subst h0
  obtain ⟨c10, c11, c12, c13, c14, _⟩ := KC.out w1 BB.out
  have hle := (chk_ok HCK.out).1
  have hn8 : n ≤ 8 := by rw [List.length_map, HLN.out] at hle; exact hle
  clear hle hn
  by_cases hk1 : kind < 1
  · have d1 : decide (kind < 1) = true := decide_eq_true hk1
    have HE := Lib.hid (apply_bad (m := (own, rs.map Rw.p)) (c := (kind, f, d)) HCK.out (.inl hk1))
    have g3 : (kind == 3) = false := beq_eq_false_iff_ne.2 (by omega)
    have g4 : (kind == 4) = false := beq_eq_false_iff_ne.2 (by omega)
    clear hk1
    have XS := Lib.hid (setRow_heap w1 (g + 2) _ #[.int .i64 0, .slice none 0 0] _ _ YF.out)
    have BS := Lib.hid (below_setRow BF.out (Nat.le_add_right g 2) #[.int .i64 0, .slice none 0 0])
    go_upto_region 9 with fail
    go_wp2_with (first
      | (refine wpList_store_row rfl 27 (.tmp 4) (.tmp 61) rfl (g + 2) #[.int .i64 0, .slice none 0 0] rfl rfl 27 _ YF.out HIM.out rfl (by simp [Value.oneCell']) ?_)
      | fail)
    first
      | exact bodyPost_ret (results_row_tmp Try.results21 _ _ (g + 2) _ #[.int .i64 0, .slice none 0 0] _ _ rfl XS.out Try.underlying27 rfl HIM.out) rfl
          ⟨none, 0, 0, [], by rw [HE.out]; rfl, ⟨Reads.none_, by simp⟩, fun _ _ => ⟨Reads.none_, by simp⟩, by rw [HE.out]; rfl, Nat.le_refl _, by omega, by simp, hg ▸ BS.out⟩
      | exact bodyPost_ret (results_row_tmp Try.results21 _ _ (g + 2) _ #[.int .i64 0, .slice none 0 0] _ _ rfl XS.out Try.underlying27 rfl HIM.out) rfl
          ⟨none, 0, 0, by rw [HE.out]; rfl, [], ⟨Reads.none_, by simp⟩, fun _ _ => ⟨Reads.none_, by simp⟩, by rw [HE.out]; rfl, Nat.le_refl _, by omega, by simp, hg ▸ BS.out⟩

  by_cases hk2 : 4 < kind
  · have d1 : decide (kind < 1) = false := decide_eq_false hk1
    have d2 : decide (4 < kind) = true := decide_eq_true hk2
    have HE := Lib.hid (apply_bad (m := (own, rs.map Rw.p)) (c := (kind, f, d)) HCK.out (.inr (.inl hk2)))
    have g3 : (kind == 3) = false := beq_eq_false_iff_ne.2 (by omega)
    have g4 : (kind == 4) = false := beq_eq_false_iff_ne.2 (by omega)
    clear hk1 hk2
    have XS := Lib.hid (setRow_heap w1 (g + 2) _ #[.int .i64 0, .slice none 0 0] _ _ YF.out)
    have BS := Lib.hid (below_setRow BF.out (Nat.le_add_right g 2) #[.int .i64 0, .slice none 0 0])
    go_upto_region 9 with fail
    go_wp2_with (first
      | (refine wpList_store_row rfl 27 (.tmp 4) (.tmp 61) rfl (g + 2) #[.int .i64 0, .slice none 0 0] rfl rfl 27 _ YF.out HIM.out rfl (by simp [Value.oneCell']) ?_)
      | fail)
    first
      | exact bodyPost_ret (results_row_tmp Try.results21 _ _ (g + 2) _ #[.int .i64 0, .slice none 0 0] _ _ rfl XS.out Try.underlying27 rfl HIM.out) rfl
          ⟨none, 0, 0, [], by rw [HE.out]; rfl, ⟨Reads.none_, by simp⟩, fun _ _ => ⟨Reads.none_, by simp⟩, by rw [HE.out]; rfl, Nat.le_refl _, by omega, by simp, hg ▸ BS.out⟩
      | exact bodyPost_ret (results_row_tmp Try.results21 _ _ (g + 2) _ #[.int .i64 0, .slice none 0 0] _ _ rfl XS.out Try.underlying27 rfl HIM.out) rfl
          ⟨none, 0, 0, by rw [HE.out]; rfl, [], ⟨Reads.none_, by simp⟩, fun _ _ => ⟨Reads.none_, by simp⟩, by rw [HE.out]; rfl, Nat.le_refl _, by omega, by simp, hg ▸ BS.out⟩

  have FV := folder_v f w1 hfs
  cases hf : folderP f with
  | false =>
    have HE := Lib.hid (apply_bad (m := (own, rs.map Rw.p)) (c := (kind, f, d)) HCK.out (.inr (.inr (.inl hf))))
    rw [hf] at FV
    have FV' := Lib.hid FV
    clear FV hf
    rcases (show kind = 1 ∨ kind = 2 ∨ kind = 3 ∨ kind = 4 by omega) with rfl | rfl | rfl | rfl
    all_goals clear hk1 hk2
    all_goals go_wp2_with fail
    all_goals refine FV'.out.mono ?_
    all_goals rintro e w2 ⟨rfl, b2⟩
    all_goals have YF := Lib.hid (KC.out w2 (BB.out.trans (b2.mono (by omega)))).2.2.2.2.2
    all_goals have BF := Lib.hid (BF.out.trans (b2.mono (by omega)))
    all_goals clear b2 c10 c11 c12 c13 c14
    · have XS := Lib.hid (setRow_heap w2 (g + 2) _ #[.int .i64 0, .slice none 0 0] _ _ YF.out)
      have BS := Lib.hid (below_setRow BF.out (Nat.le_add_right g 2) #[.int .i64 0, .slice none 0 0])
      go_upto_region 9 with fail
      go_wp2_with (first
        | (refine wpList_store_row rfl 27 (.tmp 4) (.tmp 61) rfl (g + 2) #[.int .i64 0, .slice none 0 0] rfl rfl 27 _ YF.out HIM.out rfl (by simp [Value.oneCell']) ?_)
        | fail)
      first
        | exact bodyPost_ret (results_row_tmp Try.results21 _ _ (g + 2) _ #[.int .i64 0, .slice none 0 0] _ _ rfl XS.out Try.underlying27 rfl HIM.out) rfl
            ⟨none, 0, 0, [], by rw [HE.out]; rfl, ⟨Reads.none_, by simp⟩, fun _ _ => ⟨Reads.none_, by simp⟩, by rw [HE.out]; rfl, Nat.le_refl _, by omega, by simp, hg ▸ BS.out⟩
        | exact bodyPost_ret (results_row_tmp Try.results21 _ _ (g + 2) _ #[.int .i64 0, .slice none 0 0] _ _ rfl XS.out Try.underlying27 rfl HIM.out) rfl
            ⟨none, 0, 0, by rw [HE.out]; rfl, [], ⟨Reads.none_, by simp⟩, fun _ _ => ⟨Reads.none_, by simp⟩, by rw [HE.out]; rfl, Nat.le_refl _, by omega, by simp, hg ▸ BS.out⟩
    · have XS := Lib.hid (setRow_heap w2 (g + 2) _ #[.int .i64 0, .slice none 0 0] _ _ YF.out)
      have BS := Lib.hid (below_setRow BF.out (Nat.le_add_right g 2) #[.int .i64 0, .slice none 0 0])
      go_upto_region 9 with fail
      go_wp2_with (first
        | (refine wpList_store_row rfl 27 (.tmp 4) (.tmp 61) rfl (g + 2) #[.int .i64 0, .slice none 0 0] rfl rfl 27 _ YF.out HIM.out rfl (by simp [Value.oneCell']) ?_)
        | fail)
      first
        | exact bodyPost_ret (results_row_tmp Try.results21 _ _ (g + 2) _ #[.int .i64 0, .slice none 0 0] _ _ rfl XS.out Try.underlying27 rfl HIM.out) rfl
            ⟨none, 0, 0, [], by rw [HE.out]; rfl, ⟨Reads.none_, by simp⟩, fun _ _ => ⟨Reads.none_, by simp⟩, by rw [HE.out]; rfl, Nat.le_refl _, by omega, by simp, hg ▸ BS.out⟩
        | exact bodyPost_ret (results_row_tmp Try.results21 _ _ (g + 2) _ #[.int .i64 0, .slice none 0 0] _ _ rfl XS.out Try.underlying27 rfl HIM.out) rfl
            ⟨none, 0, 0, by rw [HE.out]; rfl, [], ⟨Reads.none_, by simp⟩, fun _ _ => ⟨Reads.none_, by simp⟩, by rw [HE.out]; rfl, Nat.le_refl _, by omega, by simp, hg ▸ BS.out⟩
    · have XS := Lib.hid (setRow_heap w2 (g + 2) _ #[.int .i64 0, .slice none 0 0] _ _ YF.out)
      have BS := Lib.hid (below_setRow BF.out (Nat.le_add_right g 2) #[.int .i64 0, .slice none 0 0])
      go_upto_region 9 with fail
      go_wp2_with (first
        | (refine wpList_store_row rfl 27 (.tmp 4) (.tmp 61) rfl (g + 2) #[.int .i64 0, .slice none 0 0] rfl rfl 27 _ YF.out HIM.out rfl (by simp [Value.oneCell']) ?_)
        | fail)
      first
        | exact bodyPost_ret (results_row_tmp Try.results21 _ _ (g + 2) _ #[.int .i64 0, .slice none 0 0] _ _ rfl XS.out Try.underlying27 rfl HIM.out) rfl
            ⟨none, 0, 0, [], by rw [HE.out]; rfl, ⟨Reads.none_, by simp⟩, fun _ _ => ⟨Reads.none_, by simp⟩, by rw [HE.out]; rfl, Nat.le_refl _, by omega, by simp, hg ▸ BS.out⟩
        | exact bodyPost_ret (results_row_tmp Try.results21 _ _ (g + 2) _ #[.int .i64 0, .slice none 0 0] _ _ rfl XS.out Try.underlying27 rfl HIM.out) rfl
            ⟨none, 0, 0, by rw [HE.out]; rfl, [], ⟨Reads.none_, by simp⟩, fun _ _ => ⟨Reads.none_, by simp⟩, by rw [HE.out]; rfl, Nat.le_refl _, by omega, by simp, hg ▸ BS.out⟩
    · have XS := Lib.hid (setRow_heap w2 (g + 2) _ #[.int .i64 0, .slice none 0 0] _ _ YF.out)
      have BS := Lib.hid (below_setRow BF.out (Nat.le_add_right g 2) #[.int .i64 0, .slice none 0 0])
      go_upto_region 9 with fail
      go_wp2_with (first
        | (refine wpList_store_row rfl 27 (.tmp 4) (.tmp 61) rfl (g + 2) #[.int .i64 0, .slice none 0 0] rfl rfl 27 _ YF.out HIM.out rfl (by simp [Value.oneCell']) ?_)
        | fail)
      first
        | exact bodyPost_ret (results_row_tmp Try.results21 _ _ (g + 2) _ #[.int .i64 0, .slice none 0 0] _ _ rfl XS.out Try.underlying27 rfl HIM.out) rfl
            ⟨none, 0, 0, [], by rw [HE.out]; rfl, ⟨Reads.none_, by simp⟩, fun _ _ => ⟨Reads.none_, by simp⟩, by rw [HE.out]; rfl, Nat.le_refl _, by omega, by simp, hg ▸ BS.out⟩
        | exact bodyPost_ret (results_row_tmp Try.results21 _ _ (g + 2) _ #[.int .i64 0, .slice none 0 0] _ _ rfl XS.out Try.underlying27 rfl HIM.out) rfl
            ⟨none, 0, 0, by rw [HE.out]; rfl, [], ⟨Reads.none_, by simp⟩, fun _ _ => ⟨Reads.none_, by simp⟩, by rw [HE.out]; rfl, Nat.le_refl _, by omega, by simp, hg ▸ BS.out⟩
  | true =>
  rw [hf] at FV
  have FV' := Lib.hid FV
  have HF := Lib.hid hf
  clear FV hf
  rcases (show kind = 1 ∨ kind = 2 ∨ kind = 3 ∨ kind = 4 by omega) with rfl | rfl | rfl | rfl
  all_goals clear hk1 hk2
  · go_wp2_with fail
    refine FV'.out.mono ?_
    rintro e w2 ⟨rfl, b2⟩
    have BB := Lib.hid (BB.out.trans (b2.mono (by omega)))
    have BF := Lib.hid (BF.out.trans (b2.mono (by omega)))
    have YF := Lib.hid (KC.out w2 BB.out).2.2.2.2.2
    have hz2 := b2.size
    clear b2 c10 c11 c12 c13 c14
    obtain ⟨c20, c21, c22, c23, c24, _⟩ := KC.out w2 BB.out
    by_cases hd : d = 0
    case neg =>
      have d1 : (d != 0) = true := by simpa using hd
      have HE := Lib.hid (apply_bad (m := (own, rs.map Rw.p)) (c := (1, f, d)) HCK.out (.inr (.inr (.inr (.inr ⟨by simp, hd⟩)))))
      clear hd
      have XS := Lib.hid (setRow_heap w2 (g + 2) _ #[.int .i64 0, .slice none 0 0] _ _ YF.out)
      have BS := Lib.hid (below_setRow BF.out (Nat.le_add_right g 2) #[.int .i64 0, .slice none 0 0])
      go_upto_region 9 with fail
      go_wp2_with (first
        | (refine wpList_store_row rfl 27 (.tmp 4) (.tmp 61) rfl (g + 2) #[.int .i64 0, .slice none 0 0] rfl rfl 27 _ YF.out HIM.out rfl (by simp [Value.oneCell']) ?_)
        | fail)
      first
        | exact bodyPost_ret (results_row_tmp Try.results21 _ _ (g + 2) _ #[.int .i64 0, .slice none 0 0] _ _ rfl XS.out Try.underlying27 rfl HIM.out) rfl
            ⟨none, 0, 0, [], by rw [HE.out]; rfl, ⟨Reads.none_, by simp⟩, fun _ _ => ⟨Reads.none_, by simp⟩, by rw [HE.out]; rfl, Nat.le_refl _, by omega, by simp, hg ▸ BS.out⟩
        | exact bodyPost_ret (results_row_tmp Try.results21 _ _ (g + 2) _ #[.int .i64 0, .slice none 0 0] _ _ rfl XS.out Try.underlying27 rfl HIM.out) rfl
            ⟨none, 0, 0, by rw [HE.out]; rfl, [], ⟨Reads.none_, by simp⟩, fun _ _ => ⟨Reads.none_, by simp⟩, by rw [HE.out]; rfl, Nat.le_refl _, by omega, by simp, hg ▸ BS.out⟩
    subst hd
    have HNB := Lib.hid (show ¬ badC (own, rs.map Rw.p) (1, f, 0) from by unfold badC; simp [HF.out])
    go_wp2_with fail
    refine (copy_v own A n c B rs w2 (HR.out.below (BF.out.mono hB)) (by omega) (by omega) (fun r hr => by
      have h := (rows_all (chk_ok HCK.out).2.2).1 r.p (List.mem_map_of_mem hr)
      have h2 := with_len h.2.2 (by decide)
      have h3 := (HR.out.each r hr).i.len
      have h4 : (r.p).2.length = r.n := h3
      omega)).mono ?_
    rintro e w3 ⟨A5, c5, rs5, rfl, o5, hp5, b3⟩
    have HP5 := Lib.hid hp5
    have hz3 := b3.size
    have BA := (Below.refl w3.heap.size w3).alloc (Nat.le_refl _) (.cells #[.int .i64 own, .slice A5 n c5] 27)
    have X4 := Lib.hid (heap_alloc_new w3 (.cells #[.int .i64 own, .slice A5 n c5] 27))
    have O4 := Lib.hid (o5.below BA)
    have BB := Lib.hid (BB.out.trans ((b3.trans (BA.mono hz3)).mono (by omega)))
    have BF := Lib.hid (BF.out.trans ((b3.trans (BA.mono hz3)).mono (by omega)))
    have hz4 : (w3.alloc (.cells #[.int .i64 own, .slice A5 n c5] 27)).heap.size = w3.heap.size + 1 := by simp
    have hOlt := Lib.hid (fun j (hj : (Value.slice A5 n c5).ownBlock = some j) => o5.row.lt j hj)
    clear b3 BA o5 hp5 c20 c21 c22 c23 c24
    go_upto_region 11 with fail
    generalize w3.alloc (.cells #[.int .i64 own, .slice A5 n c5] 27) = w4 at *
    generalize w3.heap.size = g8 at *
    obtain ⟨c40, c41, c42, c43, c44, _⟩ := KC.out w4 BB.out
    go_wp2_with fail
    refine (find_v own A n c B rs f w4 (HR.out.below (BF.out.mono hB)) (by omega) HCK.out).mono ?_
    rintro e w5 ⟨i, b, rfl, hin, h2, h3, b5⟩
    have H2 := Lib.hid h2
    have H3 := Lib.hid h3
    have hz5 := b5.size
    have X5 := Lib.hid ((b5.block g8 (by omega)).trans X4.out)
    have O5 := Lib.hid (O4.out.below b5)
    have BB := Lib.hid (BB.out.trans (b5.mono (by omega)))
    have BF := Lib.hid (BF.out.trans (b5.mono (by omega)))
    have YF := Lib.hid (KC.out w5 BB.out).2.2.2.2.2
    clear b5 h2 h3 X4 O4 c40 c41 c42 c43 c44
    obtain ⟨c50, c51, c52, c53, c54, _⟩ := KC.out w5 BB.out
    have HLE5 := Lib.hid (show ∀ r ∈ rs5, r.n ≤ 16 from fun r hr => by
      have h0 : r.p ∈ rs.map Rw.p := by rw [← HP5.out]; exact List.mem_map_of_mem hr
      have h := (rows_all (chk_ok HCK.out).2.2).1 r.p h0
      have h2 := with_len h.2.2 (by decide)
      have h3 := (O5.out.each r hr).1.len
      have h4 : (r.p).2.length = r.n := h3
      omega)
    have c80 : w5.cell? ⟨g8, 0, none⟩ = some (.int .i64 own) := by rw [cell_of_row _ _ 0 _ _ _ X5.out]; rfl
    have c81 : w5.cell? ⟨g8, 1, none⟩ = some (.slice A5 n c5) := by rw [cell_of_row _ _ 1 _ _ _ X5.out]; rfl
    have hg8 : g8 < w5.heap.size := (Array.getElem?_eq_some_iff.1 X5.out).1
    cases b with
    | true =>
      obtain ⟨r, hri, hrf⟩ := H3.out.1 rfl
      have HRI := Lib.hid hri
      have HRF0 := Lib.hid hrf
      have hin2 : i < n := by rw [← HLN.out]; exact (List.getElem?_eq_some_iff.1 hri).1
      have HFS := Lib.hid (show (rs.map Rw.p).find? (fun r => decide (r.1 = f)) = some r.p from find_at (rows_all (chk_ok HCK.out).2.2).2 (by rw [List.getElem?_map, hri]; rfl) hrf)
      clear hri hrf
      have HE := Lib.hid (show applyP (own, rs.map Rw.p) (1, f, 0) = ((0, []), 7) by rw [apply_some HCK.out HNB.out HFS.out, if_pos rfl])
      have XS := Lib.hid (setRow_heap w5 (g + 2) _ #[.int .i64 0, .slice none 0 0] _ _ YF.out)
      have BS := Lib.hid (below_setRow BF.out (Nat.le_add_right g 2) #[.int .i64 0, .slice none 0 0])
      go_upto_region 14 with fail
      go_wp2_with (first
        | (refine wpList_store_row rfl 27 (.tmp 4) (.tmp 76) rfl (g + 2) #[.int .i64 0, .slice none 0 0] rfl rfl 27 _ YF.out HIM.out rfl (by simp [Value.oneCell']) ?_)
        | fail)
      first
        | exact bodyPost_ret (results_row_tmp Try.results21 _ _ (g + 2) _ #[.int .i64 0, .slice none 0 0] _ _ rfl XS.out Try.underlying27 rfl HIM.out) rfl
            ⟨none, 0, 0, [], by rw [HE.out]; rfl, ⟨Reads.none_, by simp⟩, fun _ _ => ⟨Reads.none_, by simp⟩, by rw [HE.out]; rfl, Nat.le_refl _, by omega, by simp, hg ▸ BS.out⟩
        | exact bodyPost_ret (results_row_tmp Try.results21 _ _ (g + 2) _ #[.int .i64 0, .slice none 0 0] _ _ rfl XS.out Try.underlying27 rfl HIM.out) rfl
            ⟨none, 0, 0, by rw [HE.out]; rfl, [], ⟨Reads.none_, by simp⟩, fun _ _ => ⟨Reads.none_, by simp⟩, by rw [HE.out]; rfl, Nat.le_refl _, by omega, by simp, hg ▸ BS.out⟩
    | false =>
    have HFN := Lib.hid (show (rs.map Rw.p).find? (fun r => decide (r.1 = f)) = none from find_none (no_row (asc_of HCK.out) H2.out fun h => by have := H3.out.2 h; cases this))
    by_cases h8 : n = 8
    · have e8 : ((n : Int) == 8) = true := beq_iff_eq.2 (by omega)
      have HE := Lib.hid (show applyP (own, rs.map Rw.p) (1, f, 0) = ((0, []), 3) by rw [apply_none HCK.out HNB.out HFN.out, if_pos rfl, if_pos (by simp only [List.length_map]; rw [HLN.out]; exact h8)])
      clear h8
      have XS := Lib.hid (setRow_heap w5 (g + 2) _ #[.int .i64 0, .slice none 0 0] _ _ YF.out)
      have BS := Lib.hid (below_setRow BF.out (Nat.le_add_right g 2) #[.int .i64 0, .slice none 0 0])
      go_upto_region 16 with fail
      go_wp2_with (first
        | (refine wpList_store_row rfl 27 (.tmp 4) (.tmp 82) rfl (g + 2) #[.int .i64 0, .slice none 0 0] rfl rfl 27 _ YF.out HIM.out rfl (by simp [Value.oneCell']) ?_)
        | fail)
      first
        | exact bodyPost_ret (results_row_tmp Try.results21 _ _ (g + 2) _ #[.int .i64 0, .slice none 0 0] _ _ rfl XS.out Try.underlying27 rfl HIM.out) rfl
            ⟨none, 0, 0, [], by rw [HE.out]; rfl, ⟨Reads.none_, by simp⟩, fun _ _ => ⟨Reads.none_, by simp⟩, by rw [HE.out]; rfl, Nat.le_refl _, by omega, by simp, hg ▸ BS.out⟩
        | exact bodyPost_ret (results_row_tmp Try.results21 _ _ (g + 2) _ #[.int .i64 0, .slice none 0 0] _ _ rfl XS.out Try.underlying27 rfl HIM.out) rfl
            ⟨none, 0, 0, by rw [HE.out]; rfl, [], ⟨Reads.none_, by simp⟩, fun _ _ => ⟨Reads.none_, by simp⟩, by rw [HE.out]; rfl, Nat.le_refl _, by omega, by simp, hg ▸ BS.out⟩
    have e8 : ((n : Int) == 8) = false := beq_eq_false_iff_ne.2 (by omega)
    have hlb := lbR_of (f := f) (by rw [HLN.out]; exact hin) H2.out
    have HE := Lib.hid (show applyP (own, rs.map Rw.p) (1, f, 0) = ((own, (rs.map Rw.p).take i ++ (f, []) :: (rs.map Rw.p).drop i), 0) by rw [apply_none HCK.out HNB.out HFN.out, if_pos rfl, if_neg (by simp only [List.length_map]; rw [HLN.out]; exact h8)]; simp only; rw [hlb])
    have hn7 : n + 1 ≤ 8 := by omega
    clear h8 hlb
    go_upto_region 17 with fail
    have ZI := Lib.hid (show Try.prog.info? 56 = Try.prog.info? 56 from rfl)
    go_wp2_with fail
    have BA := (Below.refl w5.heap.size w5).alloc (Nat.le_refl _) (.cells #[.string f, .slice none 0 0] 56)
    refine (insertR_v w2.heap.size A5 n c5 i w5.heap.size (rs5.flatMap Rw.cells) [.string f, .slice none 0 0] (w5.alloc (.cells #[.string f, .slice none 0 0] 56)) (O5.out.row.alloc _) (row1 rs5) hin (by omega) (by simp; omega) (heap_alloc_new w5 _) rfl (by intro u hu; simp only [List.mem_cons, List.not_mem_nil, or_false] at hu; rcases hu with rfl | rfl <;> rfl) (fun e => by have := (O5.out.row.lt _ e).2; omega)).mono ?_
    rintro e w6 ⟨A6, c6, rfl, o6, g6⟩
    have hb6 : ∀ j, (Value.slice A5 n c5).ownBlock = some j → g ≤ j := fun j hj => by have := (hOlt.out j hj).1; omega
    have HB6 := Lib.hid ((BF.out.trans (BA.mono (by omega))).grown g6 (by simp; omega) hb6)
    have X6 := Lib.hid (show w6.heap[g8]? = some (.cells #[.int .i64 own, .slice A5 n c5] 27 (0, 0)) from (g6.block g8 (by simp; omega) (fun e => by have := (hOlt.out g8 e.symm).2; omega)).trans ((BA.block g8 (by omega)).trans X5.out))
    have Y6 := Lib.hid (show w6.heap[g + 2]? = some (.cells #[.int .i64 0, .slice none 0 0] 27 (0, 0)) from (g6.block (g + 2) (by simp; omega) (fun e => by have := (hOlt.out (g + 2) e.symm).1; omega)).trans ((BA.block (g + 2) (by omega)).trans YF.out))
    have O6 := Lib.hid (show w6.ownsRow w2.heap.size 56 2 (.slice A6 (n + 1) c6) (n + 1) ((rs5.take i ++ ⟨f, none, 0, 0, []⟩ :: rs5.drop i).flatMap Rw.cells) by
      have h : (rs5.flatMap Rw.cells).take (i * 2) ++ [.string f, .slice none 0 0] ++ (rs5.flatMap Rw.cells).drop (i * 2) = (rs5.take i ++ ⟨f, none, 0, 0, []⟩ :: rs5.drop i).flatMap Rw.cells := by
        rw [flat_take Rw.cells_len, flat_drop Rw.cells_len, List.flatMap_append, List.flatMap_cons, List.append_assoc]
        rfl
      rw [← h]
      exact o6)
    have EA6 := Lib.hid (show ∀ r ∈ rs5.take i ++ (⟨f, none, 0, 0, []⟩ : Rw) :: rs5.drop i, IOwn w6 w2.heap.size r.a r.n r.c r.ds ∧ r.f.size ≤ 9223372036854775807 from by
      have key : ∀ r ∈ rs5, IOwn w6 w2.heap.size r.a r.n r.c r.ds ∧ r.f.size ≤ 9223372036854775807 := fun r hr => ⟨((O5.out.each r hr).1.alloc _).keep fun j hj => g6.block j (((O5.out.each r hr).1.alloc (.cells #[.string f, .slice none 0 0] 56)).lt j hj).2 (fun e => row_int_ne (O5.out.row.alloc _) ((O5.out.each r hr).1.alloc (.cells #[.string f, .slice none 0 0] 56)) hj e.symm), (O5.out.each r hr).2⟩
      intro r hr
      rcases List.mem_append.1 hr with hr | hr
      · exact key r (List.mem_of_mem_take hr)
      · rcases List.mem_cons.1 hr with rfl | hr
        · exact ⟨IOwn.nil_ _ _, hfs⟩
        · exact key r (List.mem_of_mem_drop hr))
    have HPF := Lib.hid (show (rs5.take i ++ (⟨f, none, 0, 0, []⟩ : Rw) :: rs5.drop i).map Rw.p = (rs.map Rw.p).take i ++ (f, []) :: (rs.map Rw.p).drop i by rw [List.map_append, List.map_cons, List.map_take, List.map_drop, HP5.out]; rfl)
    have HLE := Lib.hid (show ∀ r ∈ rs5.take i ++ (⟨f, none, 0, 0, []⟩ : Rw) :: rs5.drop i, r.n ≤ 17 from fun r hr => by
      rcases List.mem_append.1 hr with hr | hr
      · have := HLE5.out r (List.mem_of_mem_take hr); omega
      · rcases List.mem_cons.1 hr with rfl | hr
        · exact Nat.zero_le _
        · have := HLE5.out r (List.mem_of_mem_drop hr); omega)
    clear o6 g6 BA c80 c81 c50 c51 c52 c53 c54 hb6
    have c61 : w6.cell? ⟨g8, 1, none⟩ = some (.slice A5 n c5) := by rw [cell_of_row _ _ 1 _ _ _ X6.out]; rfl
    have f61 : w6.frozen? ⟨g8, 1, none⟩ = false := by unfold World.frozen?; rw [X6.out]; simp
    have HX := Lib.hid (heap_setCell_same w6 g8 1 _ _ (.slice A6 (n + 1) c6) X6.out)
    have HY := Lib.hid ((Below.heap_setCell w6 ⟨g8, 1, none⟩ (.slice A6 (n + 1) c6) (g + 2) (by show g + 2 ≠ g8; omega)).trans Y6.out)
    have HB := Lib.hid (HB6.out.setCell (p := ⟨g8, 1, none⟩) (show g ≤ g8 by omega) (.slice A6 (n + 1) c6))
    have HO := Lib.hid (own_keep O6.out (w' := w6.setCell ⟨g8, 1, none⟩ (.slice A6 (n + 1) c6)) (fun j hj => Below.heap_setCell w6 ⟨g8, 1, none⟩ _ j (by
      obtain ⟨cs, fr, h⟩ := own_cells O6.out hj
      exact ne_block h X6.out (by decide))))
    have HEA := Lib.hid (show ∀ r ∈ rs5.take i ++ (⟨f, none, 0, 0, []⟩ : Rw) :: rs5.drop i, IOwn (w6.setCell ⟨g8, 1, none⟩ (.slice A6 (n + 1) c6)) w2.heap.size r.a r.n r.c r.ds ∧ r.f.size ≤ 9223372036854775807 from fun r hr => ⟨(EA6.out r hr).1.keep (fun j hj => Below.heap_setCell w6 ⟨g8, 1, none⟩ _ j (by
      obtain ⟨cs, fr, h⟩ := own_cells (EA6.out r hr).1.1 hj
      exact ne_block h X6.out (by decide))), (EA6.out r hr).2⟩)
    go_upto_region 18 with fail
    generalize w6.setCell ⟨g8, 1, none⟩ (.slice A6 (n + 1) c6) = w7 at *
    clear c61 f61
    have XS := Lib.hid (setRow_heap w7 (g + 2) _ #[.int .i64 own, .slice A6 (n + 1) c6] _ _ HY.out)
    have BS := Lib.hid (below_setRow HB.out (Nat.le_add_right g 2) #[.int .i64 own, .slice A6 (n + 1) c6])
    have HRF := Lib.hid (fin_rows HO.out HEA.out (V' := w7.setRow (g + 2) #[.int .i64 own, .slice A6 (n + 1) c6]) (fun j cs e fr h1 h2 => setRow_other _ _ _ _ (ne_block h1 HY.out (by rcases h2 with rfl | rfl <;> decide))))
    go_upto_region 18 with fail
    go_wp2_with (first
      | (refine wpList_load_row rfl 27 (.tmp 8) rfl g8 rfl 27 _ (0, 0) _ HX.out Try.underlying27 rfl HIM.out ?_)
      | (refine wpList_store_row rfl 27 (.tmp 4) (.tmp 92) rfl (g + 2) #[.int .i64 own, .slice A6 (n + 1) c6] rfl rfl 27 _ HY.out HIM.out rfl (by simp [Value.oneCell']) ?_)
      | fail)
    first
      | exact bodyPost_ret (results_row_tmp Try.results21 _ _ (g + 2) _ #[.int .i64 own, .slice A6 (n + 1) c6] _ _ rfl XS.out Try.underlying27 rfl HIM.out) rfl
          ⟨A6, (n + 1), c6, (rs5.take i ++ ⟨f, none, 0, 0, []⟩ :: rs5.drop i), by rw [HE.out]; rfl, HRF.out.1, fun V2 hV2 => HRF.out.2.2 g (by omega) (by omega) V2 (fun j h3 h4 => hV2 j (by omega) h4), by rw [HE.out]; exact HPF.out, HRF.out.2.1, by omega, HLE.out, hg ▸ BS.out⟩
      | exact bodyPost_ret (results_row_tmp Try.results21 _ _ (g + 2) _ #[.int .i64 own, .slice A6 (n + 1) c6] _ _ rfl XS.out Try.underlying27 rfl HIM.out) rfl
          ⟨A6, (n + 1), c6, by rw [HE.out]; rfl, (rs5.take i ++ ⟨f, none, 0, 0, []⟩ :: rs5.drop i), HRF.out.1, fun V2 hV2 => HRF.out.2.2 g (by omega) (by omega) V2 (fun j h3 h4 => hV2 j (by omega) h4), by rw [HE.out]; exact HPF.out, HRF.out.2.1, by omega, HLE.out, hg ▸ BS.out⟩
  · go_wp2_with fail
    refine FV'.out.mono ?_
    rintro e w2 ⟨rfl, b2⟩
    have BB := Lib.hid (BB.out.trans (b2.mono (by omega)))
    have BF := Lib.hid (BF.out.trans (b2.mono (by omega)))
    have YF := Lib.hid (KC.out w2 BB.out).2.2.2.2.2
    have hz2 := b2.size
    clear b2 c10 c11 c12 c13 c14
    obtain ⟨c20, c21, c22, c23, c24, _⟩ := KC.out w2 BB.out
    by_cases hd : d = 0
    case neg =>
      have d1 : (d != 0) = true := by simpa using hd
      have HE := Lib.hid (apply_bad (m := (own, rs.map Rw.p)) (c := (2, f, d)) HCK.out (.inr (.inr (.inr (.inr ⟨by simp, hd⟩)))))
      clear hd
      have XS := Lib.hid (setRow_heap w2 (g + 2) _ #[.int .i64 0, .slice none 0 0] _ _ YF.out)
      have BS := Lib.hid (below_setRow BF.out (Nat.le_add_right g 2) #[.int .i64 0, .slice none 0 0])
      go_upto_region 9 with fail
      go_wp2_with (first
        | (refine wpList_store_row rfl 27 (.tmp 4) (.tmp 61) rfl (g + 2) #[.int .i64 0, .slice none 0 0] rfl rfl 27 _ YF.out HIM.out rfl (by simp [Value.oneCell']) ?_)
        | fail)
      first
        | exact bodyPost_ret (results_row_tmp Try.results21 _ _ (g + 2) _ #[.int .i64 0, .slice none 0 0] _ _ rfl XS.out Try.underlying27 rfl HIM.out) rfl
            ⟨none, 0, 0, [], by rw [HE.out]; rfl, ⟨Reads.none_, by simp⟩, fun _ _ => ⟨Reads.none_, by simp⟩, by rw [HE.out]; rfl, Nat.le_refl _, by omega, by simp, hg ▸ BS.out⟩
        | exact bodyPost_ret (results_row_tmp Try.results21 _ _ (g + 2) _ #[.int .i64 0, .slice none 0 0] _ _ rfl XS.out Try.underlying27 rfl HIM.out) rfl
            ⟨none, 0, 0, by rw [HE.out]; rfl, [], ⟨Reads.none_, by simp⟩, fun _ _ => ⟨Reads.none_, by simp⟩, by rw [HE.out]; rfl, Nat.le_refl _, by omega, by simp, hg ▸ BS.out⟩
    subst hd
    have HNB := Lib.hid (show ¬ badC (own, rs.map Rw.p) (2, f, 0) from by unfold badC; simp [HF.out])
    go_wp2_with fail
    refine (copy_v own A n c B rs w2 (HR.out.below (BF.out.mono hB)) (by omega) (by omega) (fun r hr => by
      have h := (rows_all (chk_ok HCK.out).2.2).1 r.p (List.mem_map_of_mem hr)
      have h2 := with_len h.2.2 (by decide)
      have h3 := (HR.out.each r hr).i.len
      have h4 : (r.p).2.length = r.n := h3
      omega)).mono ?_
    rintro e w3 ⟨A5, c5, rs5, rfl, o5, hp5, b3⟩
    have HP5 := Lib.hid hp5
    have hz3 := b3.size
    have BA := (Below.refl w3.heap.size w3).alloc (Nat.le_refl _) (.cells #[.int .i64 own, .slice A5 n c5] 27)
    have X4 := Lib.hid (heap_alloc_new w3 (.cells #[.int .i64 own, .slice A5 n c5] 27))
    have O4 := Lib.hid (o5.below BA)
    have BB := Lib.hid (BB.out.trans ((b3.trans (BA.mono hz3)).mono (by omega)))
    have BF := Lib.hid (BF.out.trans ((b3.trans (BA.mono hz3)).mono (by omega)))
    have hz4 : (w3.alloc (.cells #[.int .i64 own, .slice A5 n c5] 27)).heap.size = w3.heap.size + 1 := by simp
    have hOlt := Lib.hid (fun j (hj : (Value.slice A5 n c5).ownBlock = some j) => o5.row.lt j hj)
    clear b3 BA o5 hp5 c20 c21 c22 c23 c24
    go_upto_region 11 with fail
    generalize w3.alloc (.cells #[.int .i64 own, .slice A5 n c5] 27) = w4 at *
    generalize w3.heap.size = g8 at *
    obtain ⟨c40, c41, c42, c43, c44, _⟩ := KC.out w4 BB.out
    go_wp2_with fail
    refine (find_v own A n c B rs f w4 (HR.out.below (BF.out.mono hB)) (by omega) HCK.out).mono ?_
    rintro e w5 ⟨i, b, rfl, hin, h2, h3, b5⟩
    have H2 := Lib.hid h2
    have H3 := Lib.hid h3
    have hz5 := b5.size
    have X5 := Lib.hid ((b5.block g8 (by omega)).trans X4.out)
    have O5 := Lib.hid (O4.out.below b5)
    have BB := Lib.hid (BB.out.trans (b5.mono (by omega)))
    have BF := Lib.hid (BF.out.trans (b5.mono (by omega)))
    have YF := Lib.hid (KC.out w5 BB.out).2.2.2.2.2
    clear b5 h2 h3 X4 O4 c40 c41 c42 c43 c44
    obtain ⟨c50, c51, c52, c53, c54, _⟩ := KC.out w5 BB.out
    have HLE5 := Lib.hid (show ∀ r ∈ rs5, r.n ≤ 16 from fun r hr => by
      have h0 : r.p ∈ rs.map Rw.p := by rw [← HP5.out]; exact List.mem_map_of_mem hr
      have h := (rows_all (chk_ok HCK.out).2.2).1 r.p h0
      have h2 := with_len h.2.2 (by decide)
      have h3 := (O5.out.each r hr).1.len
      have h4 : (r.p).2.length = r.n := h3
      omega)
    have c80 : w5.cell? ⟨g8, 0, none⟩ = some (.int .i64 own) := by rw [cell_of_row _ _ 0 _ _ _ X5.out]; rfl
    have c81 : w5.cell? ⟨g8, 1, none⟩ = some (.slice A5 n c5) := by rw [cell_of_row _ _ 1 _ _ _ X5.out]; rfl
    have hg8 : g8 < w5.heap.size := (Array.getElem?_eq_some_iff.1 X5.out).1
    cases b with
    | false =>
      have HFN := Lib.hid (show (rs.map Rw.p).find? (fun r => decide (r.1 = f)) = none from find_none (no_row (asc_of HCK.out) H2.out fun h => by have := H3.out.2 h; cases this))
      have HE := Lib.hid (show applyP (own, rs.map Rw.p) (2, f, 0) = ((0, []), 6) by rw [apply_none HCK.out HNB.out HFN.out, if_neg (by simp)])
      have XS := Lib.hid (setRow_heap w5 (g + 2) _ #[.int .i64 0, .slice none 0 0] _ _ YF.out)
      have BS := Lib.hid (below_setRow BF.out (Nat.le_add_right g 2) #[.int .i64 0, .slice none 0 0])
      go_upto_region 20 with fail
      go_wp2_with (first
        | (refine wpList_store_row rfl 27 (.tmp 4) (.tmp 95) rfl (g + 2) #[.int .i64 0, .slice none 0 0] rfl rfl 27 _ YF.out HIM.out rfl (by simp [Value.oneCell']) ?_)
        | fail)
      first
        | exact bodyPost_ret (results_row_tmp Try.results21 _ _ (g + 2) _ #[.int .i64 0, .slice none 0 0] _ _ rfl XS.out Try.underlying27 rfl HIM.out) rfl
            ⟨none, 0, 0, [], by rw [HE.out]; rfl, ⟨Reads.none_, by simp⟩, fun _ _ => ⟨Reads.none_, by simp⟩, by rw [HE.out]; rfl, Nat.le_refl _, by omega, by simp, hg ▸ BS.out⟩
        | exact bodyPost_ret (results_row_tmp Try.results21 _ _ (g + 2) _ #[.int .i64 0, .slice none 0 0] _ _ rfl XS.out Try.underlying27 rfl HIM.out) rfl
            ⟨none, 0, 0, by rw [HE.out]; rfl, [], ⟨Reads.none_, by simp⟩, fun _ _ => ⟨Reads.none_, by simp⟩, by rw [HE.out]; rfl, Nat.le_refl _, by omega, by simp, hg ▸ BS.out⟩
    | true =>
      obtain ⟨r, hri, hrf⟩ := H3.out.1 rfl
      have HRI := Lib.hid hri
      have HRF0 := Lib.hid hrf
      have hin2 : i < n := by rw [← HLN.out]; exact (List.getElem?_eq_some_iff.1 hri).1
      have HFS := Lib.hid (show (rs.map Rw.p).find? (fun r => decide (r.1 = f)) = some r.p from find_at (rows_all (chk_ok HCK.out).2.2).2 (by rw [List.getElem?_map, hri]; rfl) hrf)
      clear hri hrf
      obtain ⟨g1, rfl⟩ := own_some O5.out.row (by omega)
      have HRP := Lib.hid (show (rs.map Rw.p)[i]? = some r.p by rw [List.getElem?_map, HRI.out]; rfl)
      have HE := Lib.hid (show applyP (own, rs.map Rw.p) (2, f, 0) = ((own, (rs.map Rw.p).take i ++ (rs.map Rw.p).drop (i + 1)), 0) by
        rw [apply_some HCK.out HNB.out HFS.out, if_neg (by simp), if_pos rfl]
        simp only
        rw [filter_at HRP.out (by simp only [Bool.not_eq_false', decide_eq_true_eq]; exact HRF0.out) (fun j y hy hj => by
          have := other_name (rows_all (chk_ok HCK.out).2.2).2 HRP.out j y hy hj
          simp only [Bool.not_eq_true', decide_eq_false_iff_not]
          intro e
          exact this (e.trans HRF0.out.symm))])
      go_upto_region 22 with fail
      go_wp2_with fail
      refine (deleteR_v w2.heap.size g1 n c5 i (rs5.flatMap Rw.cells) w5 O5.out.row (row1 rs5) hin2 (by omega)).mono ?_
      rintro e w6 ⟨rfl, o6, g6⟩
      have hb6 := hOlt.out g1 rfl
      have HB6 := Lib.hid (BF.out.grown g6 (by omega) (fun j hj => by injection hj with hj; omega))
      have X6 := Lib.hid (show w6.heap[g8]? = some (.cells #[.int .i64 own, .slice (some ⟨g1, 0, none⟩) n c5] 27 (0, 0)) from (g6.block g8 hg8 (fun e => by injection e with e; omega)).trans X5.out)
      have Y6 := Lib.hid (show w6.heap[g + 2]? = some (.cells #[.int .i64 0, .slice none 0 0] 27 (0, 0)) from (g6.block (g + 2) (by omega) (fun e => by injection e with e; omega)).trans YF.out)
      have O6 := Lib.hid (show w6.ownsRow w2.heap.size 56 2 (.slice (some ⟨g1, 0, none⟩) (n - 1) c5) (n - 1) ((rs5.take i ++ rs5.drop (i + 1)).flatMap Rw.cells) by
        rw [List.flatMap_append, ← flat_take Rw.cells_len, ← flat_drop Rw.cells_len]
        exact o6)
      have EA6 := Lib.hid (show ∀ r ∈ rs5.take i ++ rs5.drop (i + 1), IOwn w6 w2.heap.size r.a r.n r.c r.ds ∧ r.f.size ≤ 9223372036854775807 from by
        have key : ∀ r ∈ rs5, IOwn w6 w2.heap.size r.a r.n r.c r.ds ∧ r.f.size ≤ 9223372036854775807 := fun r hr => ⟨(O5.out.each r hr).1.keep fun j hj => g6.block j ((O5.out.each r hr).1.lt j hj).2 (fun e => row_int_ne O5.out.row (O5.out.each r hr).1 hj e.symm), (O5.out.each r hr).2⟩
        intro r hr
        rcases List.mem_append.1 hr with hr | hr
        · exact key r (List.mem_of_mem_take hr)
        · exact key r (List.mem_of_mem_drop hr))
      have HPF := Lib.hid (show (rs5.take i ++ rs5.drop (i + 1)).map Rw.p = (rs.map Rw.p).take i ++ (rs.map Rw.p).drop (i + 1) by rw [List.map_append, List.map_take, List.map_drop, HP5.out])
      have HLE := Lib.hid (show ∀ r ∈ rs5.take i ++ rs5.drop (i + 1), r.n ≤ 17 from fun r hr => by
        rcases List.mem_append.1 hr with hr | hr
        · have := HLE5.out r (List.mem_of_mem_take hr); omega
        · have := HLE5.out r (List.mem_of_mem_drop hr); omega)
      clear o6 g6 c80 c81 c50 c51 c52 c53 c54 hb6
      have c61 : w6.cell? ⟨g8, 1, none⟩ = some (.slice (some ⟨g1, 0, none⟩) n c5) := by rw [cell_of_row _ _ 1 _ _ _ X6.out]; rfl
      have f61 : w6.frozen? ⟨g8, 1, none⟩ = false := by unfold World.frozen?; rw [X6.out]; simp
      have HX := Lib.hid (heap_setCell_same w6 g8 1 _ _ (.slice (some ⟨g1, 0, none⟩) (n - 1) c5) X6.out)
      have HY := Lib.hid ((Below.heap_setCell w6 ⟨g8, 1, none⟩ (.slice (some ⟨g1, 0, none⟩) (n - 1) c5) (g + 2) (by show g + 2 ≠ g8; omega)).trans Y6.out)
      have HB := Lib.hid (HB6.out.setCell (p := ⟨g8, 1, none⟩) (show g ≤ g8 by omega) (.slice (some ⟨g1, 0, none⟩) (n - 1) c5))
      have HO := Lib.hid (own_keep O6.out (w' := w6.setCell ⟨g8, 1, none⟩ (.slice (some ⟨g1, 0, none⟩) (n - 1) c5)) (fun j hj => Below.heap_setCell w6 ⟨g8, 1, none⟩ _ j (by
        obtain ⟨cs, fr, h⟩ := own_cells O6.out hj
        exact ne_block h X6.out (by decide))))
      have HEA := Lib.hid (show ∀ r ∈ rs5.take i ++ rs5.drop (i + 1), IOwn (w6.setCell ⟨g8, 1, none⟩ (.slice (some ⟨g1, 0, none⟩) (n - 1) c5)) w2.heap.size r.a r.n r.c r.ds ∧ r.f.size ≤ 9223372036854775807 from fun r hr => ⟨(EA6.out r hr).1.keep (fun j hj => Below.heap_setCell w6 ⟨g8, 1, none⟩ _ j (by
        obtain ⟨cs, fr, h⟩ := own_cells (EA6.out r hr).1.1 hj
        exact ne_block h X6.out (by decide))), (EA6.out r hr).2⟩)
      go_upto_region 23 with fail
      generalize w6.setCell ⟨g8, 1, none⟩ (.slice (some ⟨g1, 0, none⟩) (n - 1) c5) = w7 at *
      clear c61 f61
      have XS := Lib.hid (setRow_heap w7 (g + 2) _ #[.int .i64 own, .slice (some ⟨g1, 0, none⟩) (n - 1) c5] _ _ HY.out)
      have BS := Lib.hid (below_setRow HB.out (Nat.le_add_right g 2) #[.int .i64 own, .slice (some ⟨g1, 0, none⟩) (n - 1) c5])
      have HRF := Lib.hid (fin_rows HO.out HEA.out (V' := w7.setRow (g + 2) #[.int .i64 own, .slice (some ⟨g1, 0, none⟩) (n - 1) c5]) (fun j cs e fr h1 h2 => setRow_other _ _ _ _ (ne_block h1 HY.out (by rcases h2 with rfl | rfl <;> decide))))
      go_upto_region 23 with fail
      go_wp2_with (first
        | (refine wpList_load_row rfl 27 (.tmp 8) rfl g8 rfl 27 _ (0, 0) _ HX.out Try.underlying27 rfl HIM.out ?_)
        | (refine wpList_store_row rfl 27 (.tmp 4) (.tmp 106) rfl (g + 2) #[.int .i64 own, .slice (some ⟨g1, 0, none⟩) (n - 1) c5] rfl rfl 27 _ HY.out HIM.out rfl (by simp [Value.oneCell']) ?_)
        | fail)
      first
        | exact bodyPost_ret (results_row_tmp Try.results21 _ _ (g + 2) _ #[.int .i64 own, .slice (some ⟨g1, 0, none⟩) (n - 1) c5] _ _ rfl XS.out Try.underlying27 rfl HIM.out) rfl
            ⟨(some ⟨g1, 0, none⟩), (n - 1), c5, (rs5.take i ++ rs5.drop (i + 1)), by rw [HE.out]; rfl, HRF.out.1, fun V2 hV2 => HRF.out.2.2 g (by omega) (by omega) V2 (fun j h3 h4 => hV2 j (by omega) h4), by rw [HE.out]; exact HPF.out, HRF.out.2.1, by omega, HLE.out, hg ▸ BS.out⟩
        | exact bodyPost_ret (results_row_tmp Try.results21 _ _ (g + 2) _ #[.int .i64 own, .slice (some ⟨g1, 0, none⟩) (n - 1) c5] _ _ rfl XS.out Try.underlying27 rfl HIM.out) rfl
            ⟨(some ⟨g1, 0, none⟩), (n - 1), c5, by rw [HE.out]; rfl, (rs5.take i ++ rs5.drop (i + 1)), HRF.out.1, fun V2 hV2 => HRF.out.2.2 g (by omega) (by omega) V2 (fun j h3 h4 => hV2 j (by omega) h4), by rw [HE.out]; exact HPF.out, HRF.out.2.1, by omega, HLE.out, hg ▸ BS.out⟩
  · go_wp2_with fail
    refine FV'.out.mono ?_
    rintro e w2 ⟨rfl, b2⟩
    have BB := Lib.hid (BB.out.trans (b2.mono (by omega)))
    have BF := Lib.hid (BF.out.trans (b2.mono (by omega)))
    have YF := Lib.hid (KC.out w2 BB.out).2.2.2.2.2
    have hz2 := b2.size
    clear b2 c10 c11 c12 c13 c14
    obtain ⟨c20, c21, c22, c23, c24, _⟩ := KC.out w2 BB.out
    cases hdv : dev d with
    | false =>
      have HE := Lib.hid (apply_bad (m := (own, rs.map Rw.p)) (c := (3, f, d)) HCK.out (.inr (.inr (.inr (.inl ⟨by simp, .inl hdv⟩)))))
      have HV := Lib.hid (show ∀ w, Calls Try.prog 39 #[.int .i64 d] w fun e w' => e = .returned (.bool false) ∧ w = w' from fun w => by rw [← hdv]; exact dev_v d w)
      clear hdv
      go_wp2_with fail
      refine (HV.out _).mono ?_
      rintro e _ ⟨rfl, rfl⟩
      have XS := Lib.hid (setRow_heap w2 (g + 2) _ #[.int .i64 0, .slice none 0 0] _ _ YF.out)
      have BS := Lib.hid (below_setRow BF.out (Nat.le_add_right g 2) #[.int .i64 0, .slice none 0 0])
      go_upto_region 9 with fail
      go_wp2_with (first
        | (refine wpList_store_row rfl 27 (.tmp 4) (.tmp 61) rfl (g + 2) #[.int .i64 0, .slice none 0 0] rfl rfl 27 _ YF.out HIM.out rfl (by simp [Value.oneCell']) ?_)
        | fail)
      first
        | exact bodyPost_ret (results_row_tmp Try.results21 _ _ (g + 2) _ #[.int .i64 0, .slice none 0 0] _ _ rfl XS.out Try.underlying27 rfl HIM.out) rfl
            ⟨none, 0, 0, [], by rw [HE.out]; rfl, ⟨Reads.none_, by simp⟩, fun _ _ => ⟨Reads.none_, by simp⟩, by rw [HE.out]; rfl, Nat.le_refl _, by omega, by simp, hg ▸ BS.out⟩
        | exact bodyPost_ret (results_row_tmp Try.results21 _ _ (g + 2) _ #[.int .i64 0, .slice none 0 0] _ _ rfl XS.out Try.underlying27 rfl HIM.out) rfl
            ⟨none, 0, 0, by rw [HE.out]; rfl, [], ⟨Reads.none_, by simp⟩, fun _ _ => ⟨Reads.none_, by simp⟩, by rw [HE.out]; rfl, Nat.le_refl _, by omega, by simp, hg ▸ BS.out⟩
    | true =>
    have HV := Lib.hid (show ∀ w, Calls Try.prog 39 #[.int .i64 d] w fun e w' => e = .returned (.bool true) ∧ w = w' from fun w => by rw [← hdv]; exact dev_v d w)
    by_cases ho : d = own
    · have HE := Lib.hid (apply_bad (m := (own, rs.map Rw.p)) (c := (3, f, d)) HCK.out (.inr (.inr (.inr (.inl ⟨by simp, .inr ho⟩)))))
      have g1 : (d == own) = true := beq_iff_eq.2 ho
      clear hdv ho
      go_wp2_with fail
      refine (HV.out _).mono ?_
      rintro e _ ⟨rfl, rfl⟩
      have XS := Lib.hid (setRow_heap w2 (g + 2) _ #[.int .i64 0, .slice none 0 0] _ _ YF.out)
      have BS := Lib.hid (below_setRow BF.out (Nat.le_add_right g 2) #[.int .i64 0, .slice none 0 0])
      go_upto_region 9 with fail
      go_wp2_with (first
        | (refine wpList_store_row rfl 27 (.tmp 4) (.tmp 61) rfl (g + 2) #[.int .i64 0, .slice none 0 0] rfl rfl 27 _ YF.out HIM.out rfl (by simp [Value.oneCell']) ?_)
        | fail)
      first
        | exact bodyPost_ret (results_row_tmp Try.results21 _ _ (g + 2) _ #[.int .i64 0, .slice none 0 0] _ _ rfl XS.out Try.underlying27 rfl HIM.out) rfl
            ⟨none, 0, 0, [], by rw [HE.out]; rfl, ⟨Reads.none_, by simp⟩, fun _ _ => ⟨Reads.none_, by simp⟩, by rw [HE.out]; rfl, Nat.le_refl _, by omega, by simp, hg ▸ BS.out⟩
        | exact bodyPost_ret (results_row_tmp Try.results21 _ _ (g + 2) _ #[.int .i64 0, .slice none 0 0] _ _ rfl XS.out Try.underlying27 rfl HIM.out) rfl
            ⟨none, 0, 0, by rw [HE.out]; rfl, [], ⟨Reads.none_, by simp⟩, fun _ _ => ⟨Reads.none_, by simp⟩, by rw [HE.out]; rfl, Nat.le_refl _, by omega, by simp, hg ▸ BS.out⟩
    have HNB := Lib.hid (show ¬ badC (own, rs.map Rw.p) (3, f, d) from by unfold badC; simp [HF.out, hdv, ho])
    have g1 : (d == own) = false := beq_eq_false_iff_ne.2 ho
    clear hdv ho
    go_wp2_with fail
    refine (HV.out _).mono ?_
    rintro e _ ⟨rfl, rfl⟩
    go_wp2_with fail
    refine (copy_v own A n c B rs w2 (HR.out.below (BF.out.mono hB)) (by omega) (by omega) (fun r hr => by
      have h := (rows_all (chk_ok HCK.out).2.2).1 r.p (List.mem_map_of_mem hr)
      have h2 := with_len h.2.2 (by decide)
      have h3 := (HR.out.each r hr).i.len
      have h4 : (r.p).2.length = r.n := h3
      omega)).mono ?_
    rintro e w3 ⟨A5, c5, rs5, rfl, o5, hp5, b3⟩
    have HP5 := Lib.hid hp5
    have hz3 := b3.size
    have BA := (Below.refl w3.heap.size w3).alloc (Nat.le_refl _) (.cells #[.int .i64 own, .slice A5 n c5] 27)
    have X4 := Lib.hid (heap_alloc_new w3 (.cells #[.int .i64 own, .slice A5 n c5] 27))
    have O4 := Lib.hid (o5.below BA)
    have BB := Lib.hid (BB.out.trans ((b3.trans (BA.mono hz3)).mono (by omega)))
    have BF := Lib.hid (BF.out.trans ((b3.trans (BA.mono hz3)).mono (by omega)))
    have hz4 : (w3.alloc (.cells #[.int .i64 own, .slice A5 n c5] 27)).heap.size = w3.heap.size + 1 := by simp
    have hOlt := Lib.hid (fun j (hj : (Value.slice A5 n c5).ownBlock = some j) => o5.row.lt j hj)
    clear b3 BA o5 hp5 c20 c21 c22 c23 c24
    go_upto_region 11 with fail
    generalize w3.alloc (.cells #[.int .i64 own, .slice A5 n c5] 27) = w4 at *
    generalize w3.heap.size = g8 at *
    obtain ⟨c40, c41, c42, c43, c44, _⟩ := KC.out w4 BB.out
    go_wp2_with fail
    refine (find_v own A n c B rs f w4 (HR.out.below (BF.out.mono hB)) (by omega) HCK.out).mono ?_
    rintro e w5 ⟨i, b, rfl, hin, h2, h3, b5⟩
    have H2 := Lib.hid h2
    have H3 := Lib.hid h3
    have hz5 := b5.size
    have X5 := Lib.hid ((b5.block g8 (by omega)).trans X4.out)
    have O5 := Lib.hid (O4.out.below b5)
    have BB := Lib.hid (BB.out.trans (b5.mono (by omega)))
    have BF := Lib.hid (BF.out.trans (b5.mono (by omega)))
    have YF := Lib.hid (KC.out w5 BB.out).2.2.2.2.2
    clear b5 h2 h3 X4 O4 c40 c41 c42 c43 c44
    obtain ⟨c50, c51, c52, c53, c54, _⟩ := KC.out w5 BB.out
    have HLE5 := Lib.hid (show ∀ r ∈ rs5, r.n ≤ 16 from fun r hr => by
      have h0 : r.p ∈ rs.map Rw.p := by rw [← HP5.out]; exact List.mem_map_of_mem hr
      have h := (rows_all (chk_ok HCK.out).2.2).1 r.p h0
      have h2 := with_len h.2.2 (by decide)
      have h3 := (O5.out.each r hr).1.len
      have h4 : (r.p).2.length = r.n := h3
      omega)
    have c80 : w5.cell? ⟨g8, 0, none⟩ = some (.int .i64 own) := by rw [cell_of_row _ _ 0 _ _ _ X5.out]; rfl
    have c81 : w5.cell? ⟨g8, 1, none⟩ = some (.slice A5 n c5) := by rw [cell_of_row _ _ 1 _ _ _ X5.out]; rfl
    have hg8 : g8 < w5.heap.size := (Array.getElem?_eq_some_iff.1 X5.out).1
    cases b with
    | false =>
      have HFN := Lib.hid (show (rs.map Rw.p).find? (fun r => decide (r.1 = f)) = none from find_none (no_row (asc_of HCK.out) H2.out fun h => by have := H3.out.2 h; cases this))
      have HE := Lib.hid (show applyP (own, rs.map Rw.p) (3, f, d) = ((0, []), 6) by rw [apply_none HCK.out HNB.out HFN.out, if_neg (by simp)])
      have XS := Lib.hid (setRow_heap w5 (g + 2) _ #[.int .i64 0, .slice none 0 0] _ _ YF.out)
      have BS := Lib.hid (below_setRow BF.out (Nat.le_add_right g 2) #[.int .i64 0, .slice none 0 0])
      go_upto_region 20 with fail
      go_wp2_with (first
        | (refine wpList_store_row rfl 27 (.tmp 4) (.tmp 95) rfl (g + 2) #[.int .i64 0, .slice none 0 0] rfl rfl 27 _ YF.out HIM.out rfl (by simp [Value.oneCell']) ?_)
        | fail)
      first
        | exact bodyPost_ret (results_row_tmp Try.results21 _ _ (g + 2) _ #[.int .i64 0, .slice none 0 0] _ _ rfl XS.out Try.underlying27 rfl HIM.out) rfl
            ⟨none, 0, 0, [], by rw [HE.out]; rfl, ⟨Reads.none_, by simp⟩, fun _ _ => ⟨Reads.none_, by simp⟩, by rw [HE.out]; rfl, Nat.le_refl _, by omega, by simp, hg ▸ BS.out⟩
        | exact bodyPost_ret (results_row_tmp Try.results21 _ _ (g + 2) _ #[.int .i64 0, .slice none 0 0] _ _ rfl XS.out Try.underlying27 rfl HIM.out) rfl
            ⟨none, 0, 0, by rw [HE.out]; rfl, [], ⟨Reads.none_, by simp⟩, fun _ _ => ⟨Reads.none_, by simp⟩, by rw [HE.out]; rfl, Nat.le_refl _, by omega, by simp, hg ▸ BS.out⟩
    | true =>
      obtain ⟨r, hri, hrf⟩ := H3.out.1 rfl
      have HRI := Lib.hid hri
      have HRF0 := Lib.hid hrf
      have hin2 : i < n := by rw [← HLN.out]; exact (List.getElem?_eq_some_iff.1 hri).1
      have HFS := Lib.hid (show (rs.map Rw.p).find? (fun r => decide (r.1 = f)) = some r.p from find_at (rows_all (chk_ok HCK.out).2.2).2 (by rw [List.getElem?_map, hri]; rfl) hrf)
      clear hri hrf
      obtain ⟨g1, rfl⟩ := own_some O5.out.row (by omega)
      obtain ⟨⟨rf5, ra, rn, rc, ds⟩, hr5, hrp⟩ := p_get HP5.out HRI.out
      obtain rfl : rf5 = f := (congrArg Prod.fst hrp).trans HRF0.out
      have HRP := Lib.hid (show (rs.map Rw.p)[i]? = some (rf5, ds) by rw [List.getElem?_map, HRI.out]; exact congrArg some hrp.symm)
      have hFS := HFS.out
      rw [← hrp] at hFS
      have HFS2 := Lib.hid (show (rs.map Rw.p).find? (fun r => decide (r.1 = rf5)) = some (rf5, ds) from hFS)
      have HR5 := Lib.hid hr5
      have HIO := Lib.hid ((O5.out.each _ (List.mem_of_getElem? hr5)).1)
      have hrn := HLE5.out _ (List.mem_of_getElem? hr5)
      simp only at hrn
      have HAP := Lib.hid (apart_split O5.out.apart hr5)
      have HAS := Lib.hid ((with_asc ((rows_all (chk_ok HCK.out).2.2).1 (rf5, ds) (List.mem_of_getElem? HRP.out)).2.2).2)
      have hdl : ds.length = rn := HIO.out.len
      have HDL := Lib.hid hdl
      have hcl : w5.cell? ⟨g1, i * 2 + 1, none⟩ = some (.slice ra rn rc) := by
        rw [O5.out.row.cellAt (i * 2 + 1) (by omega), flat_at Rw.cells_len rs5 hr5 (show 1 < 2 by omega)]
        rfl
      have i0 : (0 : Int) ≤ (i : Int) := by omega
      clear hrp hFS hr5 hdl
      go_upto_region 24 with fail
      refine wp_region_tree (SK.one 0 false <| .one 1 false <| .one 2 false <| .one 3 false <| .one 4 false <| .one 5 false <| .one 6 false <| .one 7 false <| .one 8 true <| .one 9 false <| .one 10 false <| .one 11 false <| .one 12 false <| .one 13 false .done) (fun V => V.cell? ⟨g8, 1, none⟩ = some (.slice (some ⟨g1, 0, none⟩) n c5) ∧ V.cell? ⟨g1, i * 2 + 1, none⟩ = some (.slice ra rn rc) ∧ V.cell? ⟨g + 1, 2, none⟩ = some (.int .i64 d)) (by kernel_rfl) (by kernel_rfl) (by kernel_rfl) (by kernel_rfl) ?_
      have hS : w5.drew.cell? ⟨g8, 1, none⟩ = some (.slice (some ⟨g1, 0, none⟩) n c5) ∧ w5.drew.cell? ⟨g1, i * 2 + 1, none⟩ = some (.slice ra rn rc) ∧ w5.drew.cell? ⟨g + 1, 2, none⟩ = some (.int .i64 d) := ⟨c81, hcl, c54⟩
      have T0 := Lib.hid (show Below w5.heap.size w5 w5.drew from (Below.refl _ _).drew)
      generalize w5.drew = v0 at *
      ((first | (refine TR.val2 (v := ?_) _ (by simp only [List.getElem?_toArray, List.getElem?_cons_zero]; rfl) ?_ ?_ ?_ ?_ ?_; rotate_left; (focus rfl); (focus (intro W hSW; (try dsimp only at hSW); (try (obtain ⟨hS1, hSW⟩ := hSW)); (try (obtain ⟨hS2, hSW⟩ := hSW)); (try (obtain ⟨hS3, hSW⟩ := hSW)); (try (obtain ⟨hS4, hSW⟩ := hSW)); (try (obtain ⟨hS5, hSW⟩ := hSW)); (try (obtain ⟨hS6, hSW⟩ := hSW)); (try (obtain ⟨hS7, hSW⟩ := hSW)); (try (obtain ⟨hS8, hSW⟩ := hSW)); go_simp; (try with_reducible rfl); done)); (focus exact fun _ _ _ h => h); (focus assumption)) | (refine TR.skip _ (by simp only [List.getElem?_toArray, List.getElem?_cons_zero]; rfl) ?_ ?_ ?_ ?_; (focus rfl); (focus exact fun _ _ _ h => h); (focus assumption))); simp only [Act.put, List.setIfInBounds_toArray, List.set_cons_zero, List.set_cons_succ])
      iterate 7 ((first | (refine TR.val2 (v := ?_) _ (by simp only [List.getElem?_toArray, List.getElem?_cons_succ, List.getElem?_cons_zero]; rfl) ?_ ?_ ?_ ?_ ?_; rotate_left; (focus rfl); (focus (intro W hSW; (try dsimp only at hSW); (try (obtain ⟨hS1, hSW⟩ := hSW)); (try (obtain ⟨hS2, hSW⟩ := hSW)); (try (obtain ⟨hS3, hSW⟩ := hSW)); (try (obtain ⟨hS4, hSW⟩ := hSW)); (try (obtain ⟨hS5, hSW⟩ := hSW)); (try (obtain ⟨hS6, hSW⟩ := hSW)); (try (obtain ⟨hS7, hSW⟩ := hSW)); (try (obtain ⟨hS8, hSW⟩ := hSW)); go_simp; (try with_reducible rfl); done)); (focus exact fun _ _ _ h => h); (focus assumption)) | (refine TR.skip _ (by simp only [List.getElem?_toArray, List.getElem?_cons_succ, List.getElem?_cons_zero]; rfl) ?_ ?_ ?_ ?_; (focus rfl); (focus exact fun _ _ _ h => h); (focus assumption))); simp only [Act.put, List.setIfInBounds_toArray, List.set_cons_zero, List.set_cons_succ])
      refine TR.eff _ (by simp only [List.getElem?_toArray, List.getElem?_cons_succ, List.getElem?_cons_zero]; rfl) (by rfl) (fun K hK => ?_); go_simp
      refine (bsI_v ra rn rc w5.heap.size ds d v0 (Reads.below HIO.out.reads T0.out) (by omega) HAS.out).mono ?_
      rintro e w6 ⟨k, b2, rfl, hkn, hlo, hb2, b6⟩
      have HLO := Lib.hid hlo
      have HB2 := Lib.hid hb2
      have T1 := Lib.hid (T0.out.trans (b6.mono T0.out.size))
      have hz6 := T1.out.size
      have hb1 := hOlt.out g1 rfl
      have d81 : w6.cell? ⟨g8, 1, none⟩ = some (.slice (some ⟨g1, 0, none⟩) n c5) := (T1.out.cell (p := ⟨g8, 1, none⟩) hg8).trans c81
      have d82 : w6.cell? ⟨g1, i * 2 + 1, none⟩ = some (.slice ra rn rc) := (T1.out.cell (p := ⟨g1, i * 2 + 1, none⟩) (show g1 < w5.heap.size by omega)).trans hcl
      have d83 : w6.cell? ⟨g + 1, 2, none⟩ = some (.int .i64 d) := (T1.out.cell (p := ⟨g + 1, 2, none⟩) (show g + 1 < w5.heap.size by omega)).trans c54
      have d84 : w6.cell? ⟨g + 1, 0, none⟩ = some (.int .i64 3) := (T1.out.cell (p := ⟨g + 1, 0, none⟩) (show g + 1 < w5.heap.size by omega)).trans c52
      refine hK.out _ _ ⟨d81, d82, d83⟩ ?_
      clear hK hlo hb2 b6
      have hS : w6.cell? ⟨g8, 1, none⟩ = some (.slice (some ⟨g1, 0, none⟩) n c5) ∧ w6.cell? ⟨g1, i * 2 + 1, none⟩ = some (.slice ra rn rc) ∧ w6.cell? ⟨g + 1, 2, none⟩ = some (.int .i64 d) := ⟨d81, d82, d83⟩
      (try simp only [Act.put, List.setIfInBounds_toArray, List.set_cons_zero, List.set_cons_succ])
      iterate 5 ((first | (refine TR.val2 (v := ?_) _ (by simp only [List.getElem?_toArray, List.getElem?_cons_succ, List.getElem?_cons_zero]; rfl) ?_ ?_ ?_ ?_ ?_; rotate_left; (focus rfl); (focus (intro W hSW; (try dsimp only at hSW); (try (obtain ⟨hS1, hSW⟩ := hSW)); (try (obtain ⟨hS2, hSW⟩ := hSW)); (try (obtain ⟨hS3, hSW⟩ := hSW)); (try (obtain ⟨hS4, hSW⟩ := hSW)); (try (obtain ⟨hS5, hSW⟩ := hSW)); (try (obtain ⟨hS6, hSW⟩ := hSW)); (try (obtain ⟨hS7, hSW⟩ := hSW)); (try (obtain ⟨hS8, hSW⟩ := hSW)); go_simp; (try with_reducible rfl); done)); (focus exact fun _ _ _ h => h); (focus assumption)) | (refine TR.skip _ (by simp only [List.getElem?_toArray, List.getElem?_cons_succ, List.getElem?_cons_zero]; rfl) ?_ ?_ ?_ ?_; (focus rfl); (focus exact fun _ _ _ h => h); (focus assumption))); simp only [Act.put, List.setIfInBounds_toArray, List.set_cons_zero, List.set_cons_succ])
      refine TR.done ?_
      clear hS
      have BF := Lib.hid (BF.out.trans (T1.out.mono (by omega)))
      have YF := Lib.hid ((T1.out.block (g + 2) (by omega)).trans YF.out)
      have X6 := Lib.hid ((T1.out.block g8 hg8).trans X5.out)
      have O6 := Lib.hid (O5.out.below T1.out)
      have HIO6 := Lib.hid (HIO.out.below T1.out)
      have hg86 : g8 < w6.heap.size := by omega
      clear c80 c81 hcl c50 c51 c52 c53 c54 T0 T1 X5 O5 HIO
      cases b2 with
      | true =>
        have hm := List.mem_of_getElem? (HB2.out.1 rfl)
        have HE := Lib.hid (show applyP (own, rs.map Rw.p) (3, rf5, d) = ((0, []), 7) by rw [apply_some HCK.out HNB.out HFS2.out, if_neg (by simp), if_neg (by simp), if_pos rfl, if_pos hm])
        clear hm
        have XS := Lib.hid (setRow_heap w6 (g + 2) _ #[.int .i64 0, .slice none 0 0] _ _ YF.out)
        have BS := Lib.hid (below_setRow BF.out (Nat.le_add_right g 2) #[.int .i64 0, .slice none 0 0])
        go_upto_region 27 with fail
        go_wp2_with (first
          | (refine wpList_store_row rfl 27 (.tmp 4) (.tmp 142) rfl (g + 2) #[.int .i64 0, .slice none 0 0] rfl rfl 27 _ YF.out HIM.out rfl (by simp [Value.oneCell']) ?_)
          | fail)
        first
          | exact bodyPost_ret (results_row_tmp Try.results21 _ _ (g + 2) _ #[.int .i64 0, .slice none 0 0] _ _ rfl XS.out Try.underlying27 rfl HIM.out) rfl
              ⟨none, 0, 0, [], by rw [HE.out]; rfl, ⟨Reads.none_, by simp⟩, fun _ _ => ⟨Reads.none_, by simp⟩, by rw [HE.out]; rfl, Nat.le_refl _, by omega, by simp, hg ▸ BS.out⟩
          | exact bodyPost_ret (results_row_tmp Try.results21 _ _ (g + 2) _ #[.int .i64 0, .slice none 0 0] _ _ rfl XS.out Try.underlying27 rfl HIM.out) rfl
              ⟨none, 0, 0, by rw [HE.out]; rfl, [], ⟨Reads.none_, by simp⟩, fun _ _ => ⟨Reads.none_, by simp⟩, by rw [HE.out]; rfl, Nat.le_refl _, by omega, by simp, hg ▸ BS.out⟩
      | false =>
      have hnm := mem_of_asc HLO.out HAS.out (fun h => by have := HB2.out.2 h; cases this)
      have hlb := lbI_of (by rw [HDL.out]; exact hkn) HLO.out
      have HE := Lib.hid (show applyP (own, rs.map Rw.p) (3, rf5, d) = ((own, (rs.map Rw.p).take i ++ (rf5, (ds.take k ++ d :: ds.drop k)) :: (rs.map Rw.p).drop (i + 1)), 0) by
        rw [apply_some HCK.out HNB.out HFS2.out, if_neg (by simp), if_neg (by simp), if_pos rfl, if_neg hnm]
        simp only
        rw [map_at HRP.out (fun j y hy hj => if_neg (other_name (rows_all (chk_ok HCK.out).2.2).2 HRP.out j y hy hj)), if_pos rfl]
        simp only
        rw [hlb])
      clear hnm hlb
      go_upto_region 25 with fail
      refine wp_region_F 16 [(0, 1), (1, 1), (2, 1), (3, 1), (4, 1), (5, 1), (6, 1), (7, 1), (8, 2), (9, 1), (10, 1), (11, 1), (12, 0), (13, 0), (14, 1), (15, 1), (16, 4)] (fun V => V.cell? ⟨g8, 1, none⟩ = some (.slice (some ⟨g1, 0, none⟩) n c5) ∧ V.cell? ⟨g + 1, 2, none⟩ = some (.int .i64 d)) (fun V => V.cell? ⟨g1, i * 2 + 1, none⟩ = some (.slice ra rn rc)) (by kernel_rfl) (by kernel_rfl) (by kernel_rfl) (by kernel_rfl) (by kernel_rfl) (fun _ => ?_)
      simp only [outE, List.getElem?_cons_zero, List.getElem?_cons_succ, Option.getD_some]
      have hF : w6.drew.cell? ⟨g8, 1, none⟩ = some (.slice (some ⟨g1, 0, none⟩) n c5) ∧ w6.drew.cell? ⟨g + 1, 2, none⟩ = some (.int .i64 d) := ⟨d81, d83⟩
      have hG : w6.drew.cell? ⟨g1, i * 2 + 1, none⟩ = some (.slice ra rn rc) := d82
      have T0 := Lib.hid (show Below w6.heap.size w6 w6.drew from (Below.refl _ _).drew)
      generalize w6.drew = v0 at *
      iterate 8 (refine TF.val1 (v := ?_) ?_ ?_ ?_ ?_ ?_ ?_; rotate_left; (focus rfl); (focus (intro W hSW; (try dsimp only at hSW); (try (obtain ⟨hS1, hSW⟩ := hSW)); (try (obtain ⟨hS2, hSW⟩ := hSW)); (try (obtain ⟨hS3, hSW⟩ := hSW)); (try (obtain ⟨hS4, hSW⟩ := hSW)); (try (obtain ⟨hS5, hSW⟩ := hSW)); (try (obtain ⟨hS6, hSW⟩ := hSW)); (try (obtain ⟨hS7, hSW⟩ := hSW)); (try (obtain ⟨hS8, hSW⟩ := hSW)); go_simp; (try with_reducible rfl); done)); (focus exact fun _ _ _ h => h); (focus exact hF); (focus exact hG); simp only [Act.put, List.setIfInBounds_toArray, List.set_cons_zero, List.set_cons_succ])
      iterate 1 (refine TF.val2 (v := ?_) ?_ ?_ ?_ ?_ ?_ ?_; rotate_left; (focus rfl); (focus (intro W hSW; (try dsimp only at hSW); (try (obtain ⟨hS1, hSW⟩ := hSW)); (try (obtain ⟨hS2, hSW⟩ := hSW)); (try (obtain ⟨hS3, hSW⟩ := hSW)); (try (obtain ⟨hS4, hSW⟩ := hSW)); (try (obtain ⟨hS5, hSW⟩ := hSW)); (try (obtain ⟨hS6, hSW⟩ := hSW)); (try (obtain ⟨hS7, hSW⟩ := hSW)); (try (obtain ⟨hS8, hSW⟩ := hSW)); go_simp; (try with_reducible rfl); done)); (focus exact fun _ _ _ h => h); (focus exact hF); (focus exact hG); simp only [Act.put, List.setIfInBounds_toArray, List.set_cons_zero, List.set_cons_succ])
      iterate 3 (refine TF.val1 (v := ?_) ?_ ?_ ?_ ?_ ?_ ?_; rotate_left; (focus rfl); (focus (intro W hSW; (try dsimp only at hSW); (try (obtain ⟨hS1, hSW⟩ := hSW)); (try (obtain ⟨hS2, hSW⟩ := hSW)); (try (obtain ⟨hS3, hSW⟩ := hSW)); (try (obtain ⟨hS4, hSW⟩ := hSW)); (try (obtain ⟨hS5, hSW⟩ := hSW)); (try (obtain ⟨hS6, hSW⟩ := hSW)); (try (obtain ⟨hS7, hSW⟩ := hSW)); (try (obtain ⟨hS8, hSW⟩ := hSW)); go_simp; (try with_reducible rfl); done)); (focus exact fun _ _ _ h => h); (focus exact hF); (focus exact hG); simp only [Act.put, List.setIfInBounds_toArray, List.set_cons_zero, List.set_cons_succ])
      refine TF.eff0 (by rfl) (fun K hK => ?_); go_simp
      have T1 := Lib.hid (T0.out.alloc T0.out.size (.cells #[.int .i64 d] 3))
      have hgv : (v0.alloc (.cells #[.int .i64 d] 3)).heap[v0.heap.size]? = some (.cells #[.int .i64 d] 3 (0, 0)) := heap_alloc_new v0 _
      have hzv : (v0.alloc (.cells #[.int .i64 d] 3)).heap.size = v0.heap.size + 1 := by simp
      have hzv0 := T0.out.size
      generalize v0.alloc (.cells #[.int .i64 d] 3) = v1 at *
      have hF1 : v1.cell? ⟨g8, 1, none⟩ = some (.slice (some ⟨g1, 0, none⟩) n c5) ∧ v1.cell? ⟨g + 1, 2, none⟩ = some (.int .i64 d) := ⟨(T1.out.cell (p := ⟨g8, 1, none⟩) hg86).trans d81, (T1.out.cell (p := ⟨g + 1, 2, none⟩) (show g + 1 < w6.heap.size by omega)).trans d83⟩
      have hG1 : v1.cell? ⟨g1, i * 2 + 1, none⟩ = some (.slice ra rn rc) := (T1.out.cell (p := ⟨g1, i * 2 + 1, none⟩) (show g1 < w6.heap.size by omega)).trans d82
      refine hK.out _ _ hF1 hG1 ?_
      clear hK hF hG
      have hF := hF1
      have hG := hG1
      clear hF1 hG1
      (try simp only [Act.put, List.setIfInBounds_toArray, List.set_cons_zero, List.set_cons_succ])
      have HIOv := Lib.hid (HIO6.out.below T1.out)
      refine TF.eff0 (by rfl) (fun K hK => ?_); go_simp
      refine (insertI_v w2.heap.size ra rn rc k v0.heap.size (ds.map (Value.int .i64)) [.int .i64 d] v1 HIOv.out.1 (int1 ds) hkn (by omega) (by omega) hgv rfl (by intro u hu; simp only [List.mem_cons, List.not_mem_nil, or_false] at hu; subst hu; rfl) (fun e => by have := (HIO6.out.lt _ e).2; omega)).mono ?_
      rintro e v2 ⟨A7, c7, rfl, o7, g7⟩
      have hbw : ∀ j, (Value.slice ra rn rc).ownBlock = some j → w2.heap.size ≤ j ∧ j < w6.heap.size := HIO6.out.lt
      have hnr : ∀ j, (Value.slice ra rn rc).ownBlock = some j → j ≠ g1 := fun j hj e => row_int_ne O6.out.row HIO6.out hj (by rw [e]; rfl)
      have hn8' : ∀ j, (Value.slice ra rn rc).ownBlock = some j → j ≠ g8 := fun j hj => by
        obtain ⟨cs, fr, h⟩ := own_cells HIO6.out.1 hj
        exact ne_block h X6.out (by decide)
      have HB7 := Lib.hid ((BF.out.trans (T1.out.mono (by omega))).grown g7 (by have := T1.out.size; omega) (fun j hj => by have := (hbw j hj).1; omega))
      have hzv1 := T1.out.size
      have X7 := Lib.hid ((g7.block g8 (by omega) (fun e => hn8' g8 e.symm rfl)).trans ((T1.out.block g8 hg86).trans X6.out))
      have Y7 := Lib.hid ((g7.block (g + 2) (by omega) (fun e => by have := (hbw _ e.symm).1; omega)).trans ((T1.out.block (g + 2) (by omega)).trans YF.out))
      have R7 := Lib.hid (own_keep O6.out.row (w' := v2) (fun j hj => by
        injection hj with hj
        subst hj
        exact (g7.block g1 (by omega) (fun e => hnr g1 e.symm rfl)).trans (T1.out.block g1 (by omega))))
      have N7 := Lib.hid (show IOwn v2 w2.heap.size A7 (rn + 1) c7 (ds.take k ++ d :: ds.drop k) from ⟨by
        have h := o7
        rw [Nat.mul_one] at h
        have e1 : (ds.map (Value.int .i64)).take k ++ [.int .i64 d] ++ (ds.map (Value.int .i64)).drop k = (ds.take k ++ d :: ds.drop k).map (Value.int .i64) := by rw [List.map_append, List.map_cons, List.map_take, List.map_drop, List.append_assoc]; rfl
        rw [← e1]
        exact h, by
        obtain ⟨_, _, e1, e2⟩ := own_shape o7
        injection e1 with _ _ e3
        omega⟩)
      have E7 := Lib.hid (show ∀ r ∈ rs5, apartR r ⟨rf5, ra, rn, rc, ds⟩ ∨ apartR ⟨rf5, ra, rn, rc, ds⟩ r → IOwn v2 w2.heap.size r.a r.n r.c r.ds ∧ r.f.size ≤ 9223372036854775807 from fun r hr hap => ⟨((O6.out.each r hr).1.below T1.out).keep fun j hj => g7.block j (((O6.out.each r hr).1.below T1.out).lt j hj).2 (fun e => by
        rcases hap with h | h
        · exact h j hj e.symm
        · exact h j e.symm hj), (O6.out.each r hr).2⟩)
      have hc7 : v2.cell? ⟨g8, 1, none⟩ = some (.slice (some ⟨g1, 0, none⟩) n c5) := by rw [cell_of_row _ _ 1 _ _ _ X7.out]; rfl
      have hd7 : v2.cell? ⟨g1, i * 2 + 1, none⟩ = some (.slice ra rn rc) := by
        rw [R7.out.cellAt (i * 2 + 1) (by omega), flat_at Rw.cells_len rs5 HR5.out (show 1 < 2 by omega)]
        rfl
      have hf7 : v2.frozen? ⟨g1, i * 2 + 1, none⟩ = false := R7.out.frozenAt _
      have he7 : v2.cell? ⟨g + 1, 2, none⟩ = some (.int .i64 d) := (World.cell?_of_block (g7.block (g + 1) (by omega) (fun e => by have := (hbw _ e.symm).1; omega))).trans ((T1.out.cell (p := ⟨g + 1, 2, none⟩) (show g + 1 < w6.heap.size by omega)).trans d83)
      refine hK.out _ _ ⟨hc7, he7⟩ hd7 ?_
      clear hK hF hG
      have hF := And.intro hc7 he7
      have hG := hd7
      (try simp only [Act.put, List.setIfInBounds_toArray, List.set_cons_zero, List.set_cons_succ])
      iterate 2 (refine TF.val1 (v := ?_) ?_ ?_ ?_ ?_ ?_ ?_; rotate_left; (focus rfl); (focus (intro W hSW; (try dsimp only at hSW); (try (obtain ⟨hS1, hSW⟩ := hSW)); (try (obtain ⟨hS2, hSW⟩ := hSW)); (try (obtain ⟨hS3, hSW⟩ := hSW)); (try (obtain ⟨hS4, hSW⟩ := hSW)); (try (obtain ⟨hS5, hSW⟩ := hSW)); (try (obtain ⟨hS6, hSW⟩ := hSW)); (try (obtain ⟨hS7, hSW⟩ := hSW)); (try (obtain ⟨hS8, hSW⟩ := hSW)); go_simp; (try with_reducible rfl); done)); (focus exact fun _ _ _ h => h); (focus exact hF); (focus exact hG); simp only [Act.put, List.setIfInBounds_toArray, List.set_cons_zero, List.set_cons_succ])
      have HO := Lib.hid (show (v2.setCell ⟨g1, i * 2 + 1, none⟩ (.slice A7 (rn + 1) c7)).ownsRow w2.heap.size 56 2 (.slice (some ⟨g1, 0, none⟩) n c5) n ((rs5.take i ++ (⟨rf5, A7, (rn + 1), c7, (ds.take k ++ d :: ds.drop k)⟩ : Rw) :: rs5.drop (i + 1)).flatMap Rw.cells) by
        have h := (R7.out.stored (i * 2 + 1) (.slice A7 (rn + 1) c7)).1
        rwa [set_row (ds' := (ds.take k ++ d :: ds.drop k)) HR5.out] at h)
      have HX := Lib.hid ((Below.heap_setCell v2 ⟨g1, i * 2 + 1, none⟩ (.slice A7 (rn + 1) c7) g8 (by show g8 ≠ g1; omega)).trans X7.out)
      have HY := Lib.hid ((Below.heap_setCell v2 ⟨g1, i * 2 + 1, none⟩ (.slice A7 (rn + 1) c7) (g + 2) (by show g + 2 ≠ g1; omega)).trans Y7.out)
      have HB := Lib.hid (HB7.out.setCell (p := ⟨g1, i * 2 + 1, none⟩) (show g ≤ g1 by omega) (.slice A7 (rn + 1) c7))
      have hkp : ∀ {b m q : Nat} {A' : Option Addr} {l : List Int}, IOwn v2 b A' m q l → IOwn (v2.setCell ⟨g1, i * 2 + 1, none⟩ (.slice A7 (rn + 1) c7)) b A' m q l := fun h => h.keep fun j hj => Below.heap_setCell v2 _ _ j (fun e => row_int_ne R7.out h hj (by rw [e]; rfl))
      have HEA := Lib.hid (show ∀ r ∈ (rs5.take i ++ (⟨rf5, A7, (rn + 1), c7, (ds.take k ++ d :: ds.drop k)⟩ : Rw) :: rs5.drop (i + 1)), IOwn (v2.setCell ⟨g1, i * 2 + 1, none⟩ (.slice A7 (rn + 1) c7)) w2.heap.size r.a r.n r.c r.ds ∧ r.f.size ≤ 9223372036854775807 from fun r hr => by
        rcases List.mem_append.1 hr with hr | hr
        · have h := E7.out r (List.mem_of_mem_take hr) (.inl (HAP.out.1 r hr))
          exact ⟨hkp h.1, h.2⟩
        · rcases List.mem_cons.1 hr with rfl | hr
          · exact ⟨hkp N7.out, hfs⟩
          · have h := E7.out r (List.mem_of_mem_drop hr) (.inr (HAP.out.2 r hr))
            exact ⟨hkp h.1, h.2⟩)
      have HPF := Lib.hid (show (rs5.take i ++ (⟨rf5, A7, (rn + 1), c7, (ds.take k ++ d :: ds.drop k)⟩ : Rw) :: rs5.drop (i + 1)).map Rw.p = (rs.map Rw.p).take i ++ (rf5, (ds.take k ++ d :: ds.drop k)) :: (rs.map Rw.p).drop (i + 1) by rw [List.map_append, List.map_cons, List.map_take, List.map_drop, HP5.out]; rfl)
      have HLE := Lib.hid (show ∀ r ∈ (rs5.take i ++ (⟨rf5, A7, (rn + 1), c7, (ds.take k ++ d :: ds.drop k)⟩ : Rw) :: rs5.drop (i + 1)), r.n ≤ 17 from fun r hr => by
        rcases List.mem_append.1 hr with hr | hr
        · have := HLE5.out r (List.mem_of_mem_take hr); omega
        · rcases List.mem_cons.1 hr with rfl | hr
          · show (rn + 1) ≤ 17
            omega
          · have := HLE5.out r (List.mem_of_mem_drop hr); omega)
      clear hkp
      refine TF.eff4 (by rfl) (fun K hK => ?_); go_simp
      refine hK.out _ _ ⟨by rw [World.cell?_setCell_other _ _ _ _ (fun e => by injection e with e; omega)]; exact hc7, by rw [World.cell?_setCell_other _ _ _ _ (fun e => by injection e with e; omega)]; exact he7⟩ ?_
      refine TF.done ?_
      clear hK hF hG hc7 hd7 hf7 d81 d82 d83 d84 he7
      generalize v2.setCell ⟨g1, i * 2 + 1, none⟩ (.slice A7 (rn + 1) c7) = w7 at *
      have XS := Lib.hid (setRow_heap w7 (g + 2) _ #[.int .i64 own, .slice (some ⟨g1, 0, none⟩) n c5] _ _ HY.out)
      have BS := Lib.hid (below_setRow HB.out (Nat.le_add_right g 2) #[.int .i64 own, .slice (some ⟨g1, 0, none⟩) n c5])
      have HRF := Lib.hid (fin_rows HO.out HEA.out (V' := w7.setRow (g + 2) #[.int .i64 own, .slice (some ⟨g1, 0, none⟩) n c5]) (fun j cs e fr h1 h2 => setRow_other _ _ _ _ (ne_block h1 HY.out (by rcases h2 with rfl | rfl <;> decide))))
      go_upto_region 32 with fail
      go_wp2_with (first
        | (refine wpList_load_row rfl 27 (.tmp 8) rfl g8 rfl 27 _ (0, 0) _ HX.out Try.underlying27 rfl HIM.out ?_)
        | (refine wpList_store_row rfl 27 (.tmp 4) (.tmp 169) rfl (g + 2) #[.int .i64 own, .slice (some ⟨g1, 0, none⟩) n c5] rfl rfl 27 _ HY.out HIM.out rfl (by simp [Value.oneCell']) ?_)
        | fail)
      first
        | exact bodyPost_ret (results_row_tmp Try.results21 _ _ (g + 2) _ #[.int .i64 own, .slice (some ⟨g1, 0, none⟩) n c5] _ _ rfl XS.out Try.underlying27 rfl HIM.out) rfl
            ⟨(some ⟨g1, 0, none⟩), n, c5, (rs5.take i ++ (⟨rf5, A7, (rn + 1), c7, (ds.take k ++ d :: ds.drop k)⟩ : Rw) :: rs5.drop (i + 1)), by rw [HE.out]; rfl, HRF.out.1, fun V2 hV2 => HRF.out.2.2 g (by omega) (by omega) V2 (fun j h3 h4 => hV2 j (by omega) h4), by rw [HE.out]; exact HPF.out, HRF.out.2.1, by omega, HLE.out, hg ▸ BS.out⟩
        | exact bodyPost_ret (results_row_tmp Try.results21 _ _ (g + 2) _ #[.int .i64 own, .slice (some ⟨g1, 0, none⟩) n c5] _ _ rfl XS.out Try.underlying27 rfl HIM.out) rfl
            ⟨(some ⟨g1, 0, none⟩), n, c5, by rw [HE.out]; rfl, (rs5.take i ++ (⟨rf5, A7, (rn + 1), c7, (ds.take k ++ d :: ds.drop k)⟩ : Rw) :: rs5.drop (i + 1)), HRF.out.1, fun V2 hV2 => HRF.out.2.2 g (by omega) (by omega) V2 (fun j h3 h4 => hV2 j (by omega) h4), by rw [HE.out]; exact HPF.out, HRF.out.2.1, by omega, HLE.out, hg ▸ BS.out⟩
  · go_wp2_with fail
    refine FV'.out.mono ?_
    rintro e w2 ⟨rfl, b2⟩
    have BB := Lib.hid (BB.out.trans (b2.mono (by omega)))
    have BF := Lib.hid (BF.out.trans (b2.mono (by omega)))
    have YF := Lib.hid (KC.out w2 BB.out).2.2.2.2.2
    have hz2 := b2.size
    clear b2 c10 c11 c12 c13 c14
    obtain ⟨c20, c21, c22, c23, c24, _⟩ := KC.out w2 BB.out
    cases hdv : dev d with
    | false =>
      have HE := Lib.hid (apply_bad (m := (own, rs.map Rw.p)) (c := (4, f, d)) HCK.out (.inr (.inr (.inr (.inl ⟨by simp, .inl hdv⟩)))))
      have HV := Lib.hid (show ∀ w, Calls Try.prog 39 #[.int .i64 d] w fun e w' => e = .returned (.bool false) ∧ w = w' from fun w => by rw [← hdv]; exact dev_v d w)
      clear hdv
      go_wp2_with fail
      refine (HV.out _).mono ?_
      rintro e _ ⟨rfl, rfl⟩
      have XS := Lib.hid (setRow_heap w2 (g + 2) _ #[.int .i64 0, .slice none 0 0] _ _ YF.out)
      have BS := Lib.hid (below_setRow BF.out (Nat.le_add_right g 2) #[.int .i64 0, .slice none 0 0])
      go_upto_region 9 with fail
      go_wp2_with (first
        | (refine wpList_store_row rfl 27 (.tmp 4) (.tmp 61) rfl (g + 2) #[.int .i64 0, .slice none 0 0] rfl rfl 27 _ YF.out HIM.out rfl (by simp [Value.oneCell']) ?_)
        | fail)
      first
        | exact bodyPost_ret (results_row_tmp Try.results21 _ _ (g + 2) _ #[.int .i64 0, .slice none 0 0] _ _ rfl XS.out Try.underlying27 rfl HIM.out) rfl
            ⟨none, 0, 0, [], by rw [HE.out]; rfl, ⟨Reads.none_, by simp⟩, fun _ _ => ⟨Reads.none_, by simp⟩, by rw [HE.out]; rfl, Nat.le_refl _, by omega, by simp, hg ▸ BS.out⟩
        | exact bodyPost_ret (results_row_tmp Try.results21 _ _ (g + 2) _ #[.int .i64 0, .slice none 0 0] _ _ rfl XS.out Try.underlying27 rfl HIM.out) rfl
            ⟨none, 0, 0, by rw [HE.out]; rfl, [], ⟨Reads.none_, by simp⟩, fun _ _ => ⟨Reads.none_, by simp⟩, by rw [HE.out]; rfl, Nat.le_refl _, by omega, by simp, hg ▸ BS.out⟩
    | true =>
    have HV := Lib.hid (show ∀ w, Calls Try.prog 39 #[.int .i64 d] w fun e w' => e = .returned (.bool true) ∧ w = w' from fun w => by rw [← hdv]; exact dev_v d w)
    by_cases ho : d = own
    · have HE := Lib.hid (apply_bad (m := (own, rs.map Rw.p)) (c := (4, f, d)) HCK.out (.inr (.inr (.inr (.inl ⟨by simp, .inr ho⟩)))))
      have g1 : (d == own) = true := beq_iff_eq.2 ho
      clear hdv ho
      go_wp2_with fail
      refine (HV.out _).mono ?_
      rintro e _ ⟨rfl, rfl⟩
      have XS := Lib.hid (setRow_heap w2 (g + 2) _ #[.int .i64 0, .slice none 0 0] _ _ YF.out)
      have BS := Lib.hid (below_setRow BF.out (Nat.le_add_right g 2) #[.int .i64 0, .slice none 0 0])
      go_upto_region 9 with fail
      go_wp2_with (first
        | (refine wpList_store_row rfl 27 (.tmp 4) (.tmp 61) rfl (g + 2) #[.int .i64 0, .slice none 0 0] rfl rfl 27 _ YF.out HIM.out rfl (by simp [Value.oneCell']) ?_)
        | fail)
      first
        | exact bodyPost_ret (results_row_tmp Try.results21 _ _ (g + 2) _ #[.int .i64 0, .slice none 0 0] _ _ rfl XS.out Try.underlying27 rfl HIM.out) rfl
            ⟨none, 0, 0, [], by rw [HE.out]; rfl, ⟨Reads.none_, by simp⟩, fun _ _ => ⟨Reads.none_, by simp⟩, by rw [HE.out]; rfl, Nat.le_refl _, by omega, by simp, hg ▸ BS.out⟩
        | exact bodyPost_ret (results_row_tmp Try.results21 _ _ (g + 2) _ #[.int .i64 0, .slice none 0 0] _ _ rfl XS.out Try.underlying27 rfl HIM.out) rfl
            ⟨none, 0, 0, by rw [HE.out]; rfl, [], ⟨Reads.none_, by simp⟩, fun _ _ => ⟨Reads.none_, by simp⟩, by rw [HE.out]; rfl, Nat.le_refl _, by omega, by simp, hg ▸ BS.out⟩
    have HNB := Lib.hid (show ¬ badC (own, rs.map Rw.p) (4, f, d) from by unfold badC; simp [HF.out, hdv, ho])
    have g1 : (d == own) = false := beq_eq_false_iff_ne.2 ho
    clear hdv ho
    go_wp2_with fail
    refine (HV.out _).mono ?_
    rintro e _ ⟨rfl, rfl⟩
    go_wp2_with fail
    refine (copy_v own A n c B rs w2 (HR.out.below (BF.out.mono hB)) (by omega) (by omega) (fun r hr => by
      have h := (rows_all (chk_ok HCK.out).2.2).1 r.p (List.mem_map_of_mem hr)
      have h2 := with_len h.2.2 (by decide)
      have h3 := (HR.out.each r hr).i.len
      have h4 : (r.p).2.length = r.n := h3
      omega)).mono ?_
    rintro e w3 ⟨A5, c5, rs5, rfl, o5, hp5, b3⟩
    have HP5 := Lib.hid hp5
    have hz3 := b3.size
    have BA := (Below.refl w3.heap.size w3).alloc (Nat.le_refl _) (.cells #[.int .i64 own, .slice A5 n c5] 27)
    have X4 := Lib.hid (heap_alloc_new w3 (.cells #[.int .i64 own, .slice A5 n c5] 27))
    have O4 := Lib.hid (o5.below BA)
    have BB := Lib.hid (BB.out.trans ((b3.trans (BA.mono hz3)).mono (by omega)))
    have BF := Lib.hid (BF.out.trans ((b3.trans (BA.mono hz3)).mono (by omega)))
    have hz4 : (w3.alloc (.cells #[.int .i64 own, .slice A5 n c5] 27)).heap.size = w3.heap.size + 1 := by simp
    have hOlt := Lib.hid (fun j (hj : (Value.slice A5 n c5).ownBlock = some j) => o5.row.lt j hj)
    clear b3 BA o5 hp5 c20 c21 c22 c23 c24
    go_upto_region 11 with fail
    generalize w3.alloc (.cells #[.int .i64 own, .slice A5 n c5] 27) = w4 at *
    generalize w3.heap.size = g8 at *
    obtain ⟨c40, c41, c42, c43, c44, _⟩ := KC.out w4 BB.out
    go_wp2_with fail
    refine (find_v own A n c B rs f w4 (HR.out.below (BF.out.mono hB)) (by omega) HCK.out).mono ?_
    rintro e w5 ⟨i, b, rfl, hin, h2, h3, b5⟩
    have H2 := Lib.hid h2
    have H3 := Lib.hid h3
    have hz5 := b5.size
    have X5 := Lib.hid ((b5.block g8 (by omega)).trans X4.out)
    have O5 := Lib.hid (O4.out.below b5)
    have BB := Lib.hid (BB.out.trans (b5.mono (by omega)))
    have BF := Lib.hid (BF.out.trans (b5.mono (by omega)))
    have YF := Lib.hid (KC.out w5 BB.out).2.2.2.2.2
    clear b5 h2 h3 X4 O4 c40 c41 c42 c43 c44
    obtain ⟨c50, c51, c52, c53, c54, _⟩ := KC.out w5 BB.out
    have HLE5 := Lib.hid (show ∀ r ∈ rs5, r.n ≤ 16 from fun r hr => by
      have h0 : r.p ∈ rs.map Rw.p := by rw [← HP5.out]; exact List.mem_map_of_mem hr
      have h := (rows_all (chk_ok HCK.out).2.2).1 r.p h0
      have h2 := with_len h.2.2 (by decide)
      have h3 := (O5.out.each r hr).1.len
      have h4 : (r.p).2.length = r.n := h3
      omega)
    have c80 : w5.cell? ⟨g8, 0, none⟩ = some (.int .i64 own) := by rw [cell_of_row _ _ 0 _ _ _ X5.out]; rfl
    have c81 : w5.cell? ⟨g8, 1, none⟩ = some (.slice A5 n c5) := by rw [cell_of_row _ _ 1 _ _ _ X5.out]; rfl
    have hg8 : g8 < w5.heap.size := (Array.getElem?_eq_some_iff.1 X5.out).1
    cases b with
    | false =>
      have HFN := Lib.hid (show (rs.map Rw.p).find? (fun r => decide (r.1 = f)) = none from find_none (no_row (asc_of HCK.out) H2.out fun h => by have := H3.out.2 h; cases this))
      have HE := Lib.hid (show applyP (own, rs.map Rw.p) (4, f, d) = ((0, []), 6) by rw [apply_none HCK.out HNB.out HFN.out, if_neg (by simp)])
      have XS := Lib.hid (setRow_heap w5 (g + 2) _ #[.int .i64 0, .slice none 0 0] _ _ YF.out)
      have BS := Lib.hid (below_setRow BF.out (Nat.le_add_right g 2) #[.int .i64 0, .slice none 0 0])
      go_upto_region 20 with fail
      go_wp2_with (first
        | (refine wpList_store_row rfl 27 (.tmp 4) (.tmp 95) rfl (g + 2) #[.int .i64 0, .slice none 0 0] rfl rfl 27 _ YF.out HIM.out rfl (by simp [Value.oneCell']) ?_)
        | fail)
      first
        | exact bodyPost_ret (results_row_tmp Try.results21 _ _ (g + 2) _ #[.int .i64 0, .slice none 0 0] _ _ rfl XS.out Try.underlying27 rfl HIM.out) rfl
            ⟨none, 0, 0, [], by rw [HE.out]; rfl, ⟨Reads.none_, by simp⟩, fun _ _ => ⟨Reads.none_, by simp⟩, by rw [HE.out]; rfl, Nat.le_refl _, by omega, by simp, hg ▸ BS.out⟩
        | exact bodyPost_ret (results_row_tmp Try.results21 _ _ (g + 2) _ #[.int .i64 0, .slice none 0 0] _ _ rfl XS.out Try.underlying27 rfl HIM.out) rfl
            ⟨none, 0, 0, by rw [HE.out]; rfl, [], ⟨Reads.none_, by simp⟩, fun _ _ => ⟨Reads.none_, by simp⟩, by rw [HE.out]; rfl, Nat.le_refl _, by omega, by simp, hg ▸ BS.out⟩
    | true =>
      obtain ⟨r, hri, hrf⟩ := H3.out.1 rfl
      have HRI := Lib.hid hri
      have HRF0 := Lib.hid hrf
      have hin2 : i < n := by rw [← HLN.out]; exact (List.getElem?_eq_some_iff.1 hri).1
      have HFS := Lib.hid (show (rs.map Rw.p).find? (fun r => decide (r.1 = f)) = some r.p from find_at (rows_all (chk_ok HCK.out).2.2).2 (by rw [List.getElem?_map, hri]; rfl) hrf)
      clear hri hrf
      obtain ⟨g1, rfl⟩ := own_some O5.out.row (by omega)
      obtain ⟨⟨rf5, ra, rn, rc, ds⟩, hr5, hrp⟩ := p_get HP5.out HRI.out
      obtain rfl : rf5 = f := (congrArg Prod.fst hrp).trans HRF0.out
      have HRP := Lib.hid (show (rs.map Rw.p)[i]? = some (rf5, ds) by rw [List.getElem?_map, HRI.out]; exact congrArg some hrp.symm)
      have hFS := HFS.out
      rw [← hrp] at hFS
      have HFS2 := Lib.hid (show (rs.map Rw.p).find? (fun r => decide (r.1 = rf5)) = some (rf5, ds) from hFS)
      have HR5 := Lib.hid hr5
      have HIO := Lib.hid ((O5.out.each _ (List.mem_of_getElem? hr5)).1)
      have hrn := HLE5.out _ (List.mem_of_getElem? hr5)
      simp only at hrn
      have HAP := Lib.hid (apart_split O5.out.apart hr5)
      have HAS := Lib.hid ((with_asc ((rows_all (chk_ok HCK.out).2.2).1 (rf5, ds) (List.mem_of_getElem? HRP.out)).2.2).2)
      have hdl : ds.length = rn := HIO.out.len
      have HDL := Lib.hid hdl
      have hcl : w5.cell? ⟨g1, i * 2 + 1, none⟩ = some (.slice ra rn rc) := by
        rw [O5.out.row.cellAt (i * 2 + 1) (by omega), flat_at Rw.cells_len rs5 hr5 (show 1 < 2 by omega)]
        rfl
      have i0 : (0 : Int) ≤ (i : Int) := by omega
      clear hrp hFS hr5 hdl
      go_upto_region 24 with fail
      refine wp_region_tree (SK.one 0 false <| .one 1 false <| .one 2 false <| .one 3 false <| .one 4 false <| .one 5 false <| .one 6 false <| .one 7 false <| .one 8 true <| .one 9 false <| .one 10 false <| .one 11 false <| .one 12 false <| .one 13 false .done) (fun V => V.cell? ⟨g8, 1, none⟩ = some (.slice (some ⟨g1, 0, none⟩) n c5) ∧ V.cell? ⟨g1, i * 2 + 1, none⟩ = some (.slice ra rn rc) ∧ V.cell? ⟨g + 1, 2, none⟩ = some (.int .i64 d)) (by kernel_rfl) (by kernel_rfl) (by kernel_rfl) (by kernel_rfl) ?_
      have hS : w5.drew.cell? ⟨g8, 1, none⟩ = some (.slice (some ⟨g1, 0, none⟩) n c5) ∧ w5.drew.cell? ⟨g1, i * 2 + 1, none⟩ = some (.slice ra rn rc) ∧ w5.drew.cell? ⟨g + 1, 2, none⟩ = some (.int .i64 d) := ⟨c81, hcl, c54⟩
      have T0 := Lib.hid (show Below w5.heap.size w5 w5.drew from (Below.refl _ _).drew)
      generalize w5.drew = v0 at *
      ((first | (refine TR.val2 (v := ?_) _ (by simp only [List.getElem?_toArray, List.getElem?_cons_zero]; rfl) ?_ ?_ ?_ ?_ ?_; rotate_left; (focus rfl); (focus (intro W hSW; (try dsimp only at hSW); (try (obtain ⟨hS1, hSW⟩ := hSW)); (try (obtain ⟨hS2, hSW⟩ := hSW)); (try (obtain ⟨hS3, hSW⟩ := hSW)); (try (obtain ⟨hS4, hSW⟩ := hSW)); (try (obtain ⟨hS5, hSW⟩ := hSW)); (try (obtain ⟨hS6, hSW⟩ := hSW)); (try (obtain ⟨hS7, hSW⟩ := hSW)); (try (obtain ⟨hS8, hSW⟩ := hSW)); go_simp; (try with_reducible rfl); done)); (focus exact fun _ _ _ h => h); (focus assumption)) | (refine TR.skip _ (by simp only [List.getElem?_toArray, List.getElem?_cons_zero]; rfl) ?_ ?_ ?_ ?_; (focus rfl); (focus exact fun _ _ _ h => h); (focus assumption))); simp only [Act.put, List.setIfInBounds_toArray, List.set_cons_zero, List.set_cons_succ])
      iterate 7 ((first | (refine TR.val2 (v := ?_) _ (by simp only [List.getElem?_toArray, List.getElem?_cons_succ, List.getElem?_cons_zero]; rfl) ?_ ?_ ?_ ?_ ?_; rotate_left; (focus rfl); (focus (intro W hSW; (try dsimp only at hSW); (try (obtain ⟨hS1, hSW⟩ := hSW)); (try (obtain ⟨hS2, hSW⟩ := hSW)); (try (obtain ⟨hS3, hSW⟩ := hSW)); (try (obtain ⟨hS4, hSW⟩ := hSW)); (try (obtain ⟨hS5, hSW⟩ := hSW)); (try (obtain ⟨hS6, hSW⟩ := hSW)); (try (obtain ⟨hS7, hSW⟩ := hSW)); (try (obtain ⟨hS8, hSW⟩ := hSW)); go_simp; (try with_reducible rfl); done)); (focus exact fun _ _ _ h => h); (focus assumption)) | (refine TR.skip _ (by simp only [List.getElem?_toArray, List.getElem?_cons_succ, List.getElem?_cons_zero]; rfl) ?_ ?_ ?_ ?_; (focus rfl); (focus exact fun _ _ _ h => h); (focus assumption))); simp only [Act.put, List.setIfInBounds_toArray, List.set_cons_zero, List.set_cons_succ])
      refine TR.eff _ (by simp only [List.getElem?_toArray, List.getElem?_cons_succ, List.getElem?_cons_zero]; rfl) (by rfl) (fun K hK => ?_); go_simp
      refine (bsI_v ra rn rc w5.heap.size ds d v0 (Reads.below HIO.out.reads T0.out) (by omega) HAS.out).mono ?_
      rintro e w6 ⟨k, b2, rfl, hkn, hlo, hb2, b6⟩
      have HLO := Lib.hid hlo
      have HB2 := Lib.hid hb2
      have T1 := Lib.hid (T0.out.trans (b6.mono T0.out.size))
      have hz6 := T1.out.size
      have hb1 := hOlt.out g1 rfl
      have d81 : w6.cell? ⟨g8, 1, none⟩ = some (.slice (some ⟨g1, 0, none⟩) n c5) := (T1.out.cell (p := ⟨g8, 1, none⟩) hg8).trans c81
      have d82 : w6.cell? ⟨g1, i * 2 + 1, none⟩ = some (.slice ra rn rc) := (T1.out.cell (p := ⟨g1, i * 2 + 1, none⟩) (show g1 < w5.heap.size by omega)).trans hcl
      have d83 : w6.cell? ⟨g + 1, 2, none⟩ = some (.int .i64 d) := (T1.out.cell (p := ⟨g + 1, 2, none⟩) (show g + 1 < w5.heap.size by omega)).trans c54
      have d84 : w6.cell? ⟨g + 1, 0, none⟩ = some (.int .i64 4) := (T1.out.cell (p := ⟨g + 1, 0, none⟩) (show g + 1 < w5.heap.size by omega)).trans c52
      refine hK.out _ _ ⟨d81, d82, d83⟩ ?_
      clear hK hlo hb2 b6
      have hS : w6.cell? ⟨g8, 1, none⟩ = some (.slice (some ⟨g1, 0, none⟩) n c5) ∧ w6.cell? ⟨g1, i * 2 + 1, none⟩ = some (.slice ra rn rc) ∧ w6.cell? ⟨g + 1, 2, none⟩ = some (.int .i64 d) := ⟨d81, d82, d83⟩
      (try simp only [Act.put, List.setIfInBounds_toArray, List.set_cons_zero, List.set_cons_succ])
      iterate 5 ((first | (refine TR.val2 (v := ?_) _ (by simp only [List.getElem?_toArray, List.getElem?_cons_succ, List.getElem?_cons_zero]; rfl) ?_ ?_ ?_ ?_ ?_; rotate_left; (focus rfl); (focus (intro W hSW; (try dsimp only at hSW); (try (obtain ⟨hS1, hSW⟩ := hSW)); (try (obtain ⟨hS2, hSW⟩ := hSW)); (try (obtain ⟨hS3, hSW⟩ := hSW)); (try (obtain ⟨hS4, hSW⟩ := hSW)); (try (obtain ⟨hS5, hSW⟩ := hSW)); (try (obtain ⟨hS6, hSW⟩ := hSW)); (try (obtain ⟨hS7, hSW⟩ := hSW)); (try (obtain ⟨hS8, hSW⟩ := hSW)); go_simp; (try with_reducible rfl); done)); (focus exact fun _ _ _ h => h); (focus assumption)) | (refine TR.skip _ (by simp only [List.getElem?_toArray, List.getElem?_cons_succ, List.getElem?_cons_zero]; rfl) ?_ ?_ ?_ ?_; (focus rfl); (focus exact fun _ _ _ h => h); (focus assumption))); simp only [Act.put, List.setIfInBounds_toArray, List.set_cons_zero, List.set_cons_succ])
      refine TR.done ?_
      clear hS
      have BF := Lib.hid (BF.out.trans (T1.out.mono (by omega)))
      have YF := Lib.hid ((T1.out.block (g + 2) (by omega)).trans YF.out)
      have X6 := Lib.hid ((T1.out.block g8 hg8).trans X5.out)
      have O6 := Lib.hid (O5.out.below T1.out)
      have HIO6 := Lib.hid (HIO.out.below T1.out)
      have hg86 : g8 < w6.heap.size := by omega
      clear c80 c81 hcl c50 c51 c52 c53 c54 T0 T1 X5 O5 HIO
      cases b2 with
      | false =>
        have hnm := mem_of_asc HLO.out HAS.out (fun h => by have := HB2.out.2 h; cases this)
        have HE := Lib.hid (show applyP (own, rs.map Rw.p) (4, rf5, d) = ((0, []), 6) by rw [apply_some HCK.out HNB.out HFS2.out, if_neg (by simp), if_neg (by simp), if_neg (by simp), if_neg hnm])
        clear hnm
        have XS := Lib.hid (setRow_heap w6 (g + 2) _ #[.int .i64 0, .slice none 0 0] _ _ YF.out)
        have BS := Lib.hid (below_setRow BF.out (Nat.le_add_right g 2) #[.int .i64 0, .slice none 0 0])
        go_upto_region 29 with fail
        go_wp2_with (first
          | (refine wpList_store_row rfl 27 (.tmp 4) (.tmp 151) rfl (g + 2) #[.int .i64 0, .slice none 0 0] rfl rfl 27 _ YF.out HIM.out rfl (by simp [Value.oneCell']) ?_)
          | fail)
        first
          | exact bodyPost_ret (results_row_tmp Try.results21 _ _ (g + 2) _ #[.int .i64 0, .slice none 0 0] _ _ rfl XS.out Try.underlying27 rfl HIM.out) rfl
              ⟨none, 0, 0, [], by rw [HE.out]; rfl, ⟨Reads.none_, by simp⟩, fun _ _ => ⟨Reads.none_, by simp⟩, by rw [HE.out]; rfl, Nat.le_refl _, by omega, by simp, hg ▸ BS.out⟩
          | exact bodyPost_ret (results_row_tmp Try.results21 _ _ (g + 2) _ #[.int .i64 0, .slice none 0 0] _ _ rfl XS.out Try.underlying27 rfl HIM.out) rfl
              ⟨none, 0, 0, by rw [HE.out]; rfl, [], ⟨Reads.none_, by simp⟩, fun _ _ => ⟨Reads.none_, by simp⟩, by rw [HE.out]; rfl, Nat.le_refl _, by omega, by simp, hg ▸ BS.out⟩
      | true =>
      have hdk := HB2.out.1 rfl
      have hm := List.mem_of_getElem? hdk
      have hkr : k < rn := by rw [← HDL.out]; exact (List.getElem?_eq_some_iff.1 hdk).1
      have hflt := ints_filter HAS.out hdk
      have HE := Lib.hid (show applyP (own, rs.map Rw.p) (4, rf5, d) = ((own, (rs.map Rw.p).take i ++ (rf5, (ds.take k ++ ds.drop (k + 1))) :: (rs.map Rw.p).drop (i + 1)), 0) by
        rw [apply_some HCK.out HNB.out HFS2.out, if_neg (by simp), if_neg (by simp), if_neg (by simp), if_pos hm]
        simp only
        rw [map_at HRP.out (fun j y hy hj => if_neg (other_name (rows_all (chk_ok HCK.out).2.2).2 HRP.out j y hy hj)), if_pos rfl]
        simp only
        rw [hflt])
      clear hdk hm hflt
      obtain ⟨g2, rfl⟩ := own_some HIO6.out.1 (by omega)
      go_upto_region 31 with fail
      refine wp_region_F 15 [(0, 1), (1, 1), (2, 1), (3, 1), (4, 1), (5, 1), (6, 1), (7, 1), (8, 2), (9, 1), (10, 1), (11, 1), (12, 0), (13, 1), (14, 1), (15, 4)] (fun V => V.cell? ⟨g8, 1, none⟩ = some (.slice (some ⟨g1, 0, none⟩) n c5)) (fun V => V.cell? ⟨g1, i * 2 + 1, none⟩ = some (.slice (some ⟨g2, 0, none⟩) rn rc)) (by kernel_rfl) (by kernel_rfl) (by kernel_rfl) (by kernel_rfl) (by kernel_rfl) (fun _ => ?_)
      simp only [outE, List.getElem?_cons_zero, List.getElem?_cons_succ, Option.getD_some]
      have hF : w6.drew.cell? ⟨g8, 1, none⟩ = some (.slice (some ⟨g1, 0, none⟩) n c5) := d81
      have hG : w6.drew.cell? ⟨g1, i * 2 + 1, none⟩ = some (.slice (some ⟨g2, 0, none⟩) rn rc) := d82
      have T1 := Lib.hid (show Below w6.heap.size w6 w6.drew from (Below.refl _ _).drew)
      generalize w6.drew = v1 at *
      iterate 8 (refine TF.val1 (v := ?_) ?_ ?_ ?_ ?_ ?_ ?_; rotate_left; (focus rfl); (focus (intro W hSW; (try dsimp only at hSW); (try (obtain ⟨hS1, hSW⟩ := hSW)); (try (obtain ⟨hS2, hSW⟩ := hSW)); (try (obtain ⟨hS3, hSW⟩ := hSW)); (try (obtain ⟨hS4, hSW⟩ := hSW)); (try (obtain ⟨hS5, hSW⟩ := hSW)); (try (obtain ⟨hS6, hSW⟩ := hSW)); (try (obtain ⟨hS7, hSW⟩ := hSW)); (try (obtain ⟨hS8, hSW⟩ := hSW)); go_simp; (try with_reducible rfl); done)); (focus exact fun _ _ _ h => h); (focus exact hF); (focus exact hG); simp only [Act.put, List.setIfInBounds_toArray, List.set_cons_zero, List.set_cons_succ])
      iterate 1 (refine TF.val2 (v := ?_) ?_ ?_ ?_ ?_ ?_ ?_; rotate_left; (focus rfl); (focus (intro W hSW; (try dsimp only at hSW); (try (obtain ⟨hS1, hSW⟩ := hSW)); (try (obtain ⟨hS2, hSW⟩ := hSW)); (try (obtain ⟨hS3, hSW⟩ := hSW)); (try (obtain ⟨hS4, hSW⟩ := hSW)); (try (obtain ⟨hS5, hSW⟩ := hSW)); (try (obtain ⟨hS6, hSW⟩ := hSW)); (try (obtain ⟨hS7, hSW⟩ := hSW)); (try (obtain ⟨hS8, hSW⟩ := hSW)); go_simp; (try with_reducible rfl); done)); (focus exact fun _ _ _ h => h); (focus exact hF); (focus exact hG); simp only [Act.put, List.setIfInBounds_toArray, List.set_cons_zero, List.set_cons_succ])
      iterate 2 (refine TF.val1 (v := ?_) ?_ ?_ ?_ ?_ ?_ ?_; rotate_left; (focus rfl); (focus (intro W hSW; (try dsimp only at hSW); (try (obtain ⟨hS1, hSW⟩ := hSW)); (try (obtain ⟨hS2, hSW⟩ := hSW)); (try (obtain ⟨hS3, hSW⟩ := hSW)); (try (obtain ⟨hS4, hSW⟩ := hSW)); (try (obtain ⟨hS5, hSW⟩ := hSW)); (try (obtain ⟨hS6, hSW⟩ := hSW)); (try (obtain ⟨hS7, hSW⟩ := hSW)); (try (obtain ⟨hS8, hSW⟩ := hSW)); go_simp; (try with_reducible rfl); done)); (focus exact fun _ _ _ h => h); (focus exact hF); (focus exact hG); simp only [Act.put, List.setIfInBounds_toArray, List.set_cons_zero, List.set_cons_succ])
      have hwr : IntKind.i64.wrap ((k : Int) + 1) = (k : Int) + 1 := IntWalk.i64_in _ (by omega)
      iterate 1 (refine TF.val1 (v := ?_) ?_ ?_ ?_ ?_ ?_ ?_; rotate_left; (focus rfl); (focus (intro W hSW; (try dsimp only at hSW); (try (obtain ⟨hS1, hSW⟩ := hSW)); (try (obtain ⟨hS2, hSW⟩ := hSW)); (try (obtain ⟨hS3, hSW⟩ := hSW)); (try (obtain ⟨hS4, hSW⟩ := hSW)); (try (obtain ⟨hS5, hSW⟩ := hSW)); (try (obtain ⟨hS6, hSW⟩ := hSW)); (try (obtain ⟨hS7, hSW⟩ := hSW)); (try (obtain ⟨hS8, hSW⟩ := hSW)); go_simp; (try with_reducible rfl); done)); (focus exact fun _ _ _ h => h); (focus exact hF); (focus exact hG); simp only [Act.put, List.setIfInBounds_toArray, List.set_cons_zero, List.set_cons_succ])
      clear hwr
      have HIOv := Lib.hid (HIO6.out.below T1.out)
      refine TF.eff0 (by rfl) (fun K hK => ?_); go_simp
      refine (deleteI_v w2.heap.size g2 rn rc k (ds.map (Value.int .i64)) v1 HIOv.out.1 (int1 ds) hkr (by omega)).mono ?_
      rintro e v2 ⟨rfl, o7, g7⟩
      have hbw : ∀ j, (Value.slice (some ⟨g2, 0, none⟩) rn rc).ownBlock = some j → w2.heap.size ≤ j ∧ j < w6.heap.size := HIO6.out.lt
      have hnr : ∀ j, (Value.slice (some ⟨g2, 0, none⟩) rn rc).ownBlock = some j → j ≠ g1 := fun j hj e => row_int_ne O6.out.row HIO6.out hj (by rw [e]; rfl)
      have hn8' : ∀ j, (Value.slice (some ⟨g2, 0, none⟩) rn rc).ownBlock = some j → j ≠ g8 := fun j hj => by
        obtain ⟨cs, fr, h⟩ := own_cells HIO6.out.1 hj
        exact ne_block h X6.out (by decide)
      have HB7 := Lib.hid ((BF.out.trans (T1.out.mono (by omega))).grown g7 (by have := T1.out.size; omega) (fun j hj => by have := (hbw j hj).1; omega))
      have hzv1 := T1.out.size
      have X7 := Lib.hid ((g7.block g8 (by omega) (fun e => hn8' g8 e.symm rfl)).trans ((T1.out.block g8 hg86).trans X6.out))
      have Y7 := Lib.hid ((g7.block (g + 2) (by omega) (fun e => by have := (hbw _ e.symm).1; omega)).trans ((T1.out.block (g + 2) (by omega)).trans YF.out))
      have R7 := Lib.hid (own_keep O6.out.row (w' := v2) (fun j hj => by
        injection hj with hj
        subst hj
        exact (g7.block g1 (by omega) (fun e => hnr g1 e.symm rfl)).trans (T1.out.block g1 (by omega))))
      have N7 := Lib.hid (show IOwn v2 w2.heap.size (some ⟨g2, 0, none⟩) (rn - 1) rc (ds.take k ++ ds.drop (k + 1)) from ⟨by
        have h := o7
        rw [Nat.mul_one, Nat.mul_one] at h
        have e1 : (ds.map (Value.int .i64)).take k ++ (ds.map (Value.int .i64)).drop (k + 1) = (ds.take k ++ ds.drop (k + 1)).map (Value.int .i64) := by rw [List.map_append, List.map_take, List.map_drop]
        rw [← e1]
        exact h, by
        obtain ⟨_, _, e1, e2⟩ := own_shape o7
        injection e1 with _ _ e3
        omega⟩)
      have E7 := Lib.hid (show ∀ r ∈ rs5, apartR r ⟨rf5, (some ⟨g2, 0, none⟩), rn, rc, ds⟩ ∨ apartR ⟨rf5, (some ⟨g2, 0, none⟩), rn, rc, ds⟩ r → IOwn v2 w2.heap.size r.a r.n r.c r.ds ∧ r.f.size ≤ 9223372036854775807 from fun r hr hap => ⟨((O6.out.each r hr).1.below T1.out).keep fun j hj => g7.block j (((O6.out.each r hr).1.below T1.out).lt j hj).2 (fun e => by
        rcases hap with h | h
        · exact h j hj e.symm
        · exact h j e.symm hj), (O6.out.each r hr).2⟩)
      have hc7 : v2.cell? ⟨g8, 1, none⟩ = some (.slice (some ⟨g1, 0, none⟩) n c5) := by rw [cell_of_row _ _ 1 _ _ _ X7.out]; rfl
      have hd7 : v2.cell? ⟨g1, i * 2 + 1, none⟩ = some (.slice (some ⟨g2, 0, none⟩) rn rc) := by
        rw [R7.out.cellAt (i * 2 + 1) (by omega), flat_at Rw.cells_len rs5 HR5.out (show 1 < 2 by omega)]
        rfl
      have hf7 : v2.frozen? ⟨g1, i * 2 + 1, none⟩ = false := R7.out.frozenAt _
      refine hK.out _ _ hc7 hd7 ?_
      clear hK hF hG
      have hF := hc7
      have hG := hd7
      (try simp only [Act.put, List.setIfInBounds_toArray, List.set_cons_zero, List.set_cons_succ])
      iterate 2 (refine TF.val1 (v := ?_) ?_ ?_ ?_ ?_ ?_ ?_; rotate_left; (focus rfl); (focus (intro W hSW; (try dsimp only at hSW); (try (obtain ⟨hS1, hSW⟩ := hSW)); (try (obtain ⟨hS2, hSW⟩ := hSW)); (try (obtain ⟨hS3, hSW⟩ := hSW)); (try (obtain ⟨hS4, hSW⟩ := hSW)); (try (obtain ⟨hS5, hSW⟩ := hSW)); (try (obtain ⟨hS6, hSW⟩ := hSW)); (try (obtain ⟨hS7, hSW⟩ := hSW)); (try (obtain ⟨hS8, hSW⟩ := hSW)); go_simp; (try with_reducible rfl); done)); (focus exact fun _ _ _ h => h); (focus exact hF); (focus exact hG); simp only [Act.put, List.setIfInBounds_toArray, List.set_cons_zero, List.set_cons_succ])
      have HO := Lib.hid (show (v2.setCell ⟨g1, i * 2 + 1, none⟩ (.slice (some ⟨g2, 0, none⟩) (rn - 1) rc)).ownsRow w2.heap.size 56 2 (.slice (some ⟨g1, 0, none⟩) n c5) n ((rs5.take i ++ (⟨rf5, (some ⟨g2, 0, none⟩), (rn - 1), rc, (ds.take k ++ ds.drop (k + 1))⟩ : Rw) :: rs5.drop (i + 1)).flatMap Rw.cells) by
        have h := (R7.out.stored (i * 2 + 1) (.slice (some ⟨g2, 0, none⟩) (rn - 1) rc)).1
        rwa [set_row (ds' := (ds.take k ++ ds.drop (k + 1))) HR5.out] at h)
      have HX := Lib.hid ((Below.heap_setCell v2 ⟨g1, i * 2 + 1, none⟩ (.slice (some ⟨g2, 0, none⟩) (rn - 1) rc) g8 (by show g8 ≠ g1; omega)).trans X7.out)
      have HY := Lib.hid ((Below.heap_setCell v2 ⟨g1, i * 2 + 1, none⟩ (.slice (some ⟨g2, 0, none⟩) (rn - 1) rc) (g + 2) (by show g + 2 ≠ g1; omega)).trans Y7.out)
      have HB := Lib.hid (HB7.out.setCell (p := ⟨g1, i * 2 + 1, none⟩) (show g ≤ g1 by omega) (.slice (some ⟨g2, 0, none⟩) (rn - 1) rc))
      have hkp : ∀ {b m q : Nat} {A' : Option Addr} {l : List Int}, IOwn v2 b A' m q l → IOwn (v2.setCell ⟨g1, i * 2 + 1, none⟩ (.slice (some ⟨g2, 0, none⟩) (rn - 1) rc)) b A' m q l := fun h => h.keep fun j hj => Below.heap_setCell v2 _ _ j (fun e => row_int_ne R7.out h hj (by rw [e]; rfl))
      have HEA := Lib.hid (show ∀ r ∈ (rs5.take i ++ (⟨rf5, (some ⟨g2, 0, none⟩), (rn - 1), rc, (ds.take k ++ ds.drop (k + 1))⟩ : Rw) :: rs5.drop (i + 1)), IOwn (v2.setCell ⟨g1, i * 2 + 1, none⟩ (.slice (some ⟨g2, 0, none⟩) (rn - 1) rc)) w2.heap.size r.a r.n r.c r.ds ∧ r.f.size ≤ 9223372036854775807 from fun r hr => by
        rcases List.mem_append.1 hr with hr | hr
        · have h := E7.out r (List.mem_of_mem_take hr) (.inl (HAP.out.1 r hr))
          exact ⟨hkp h.1, h.2⟩
        · rcases List.mem_cons.1 hr with rfl | hr
          · exact ⟨hkp N7.out, hfs⟩
          · have h := E7.out r (List.mem_of_mem_drop hr) (.inr (HAP.out.2 r hr))
            exact ⟨hkp h.1, h.2⟩)
      have HPF := Lib.hid (show (rs5.take i ++ (⟨rf5, (some ⟨g2, 0, none⟩), (rn - 1), rc, (ds.take k ++ ds.drop (k + 1))⟩ : Rw) :: rs5.drop (i + 1)).map Rw.p = (rs.map Rw.p).take i ++ (rf5, (ds.take k ++ ds.drop (k + 1))) :: (rs.map Rw.p).drop (i + 1) by rw [List.map_append, List.map_cons, List.map_take, List.map_drop, HP5.out]; rfl)
      have HLE := Lib.hid (show ∀ r ∈ (rs5.take i ++ (⟨rf5, (some ⟨g2, 0, none⟩), (rn - 1), rc, (ds.take k ++ ds.drop (k + 1))⟩ : Rw) :: rs5.drop (i + 1)), r.n ≤ 17 from fun r hr => by
        rcases List.mem_append.1 hr with hr | hr
        · have := HLE5.out r (List.mem_of_mem_take hr); omega
        · rcases List.mem_cons.1 hr with rfl | hr
          · show (rn - 1) ≤ 17
            omega
          · have := HLE5.out r (List.mem_of_mem_drop hr); omega)
      clear hkp
      refine TF.eff4 (by rfl) (fun K hK => ?_); go_simp
      refine hK.out _ _ (by rw [World.cell?_setCell_other _ _ _ _ (fun e => by injection e with e; omega)]; exact hc7) ?_
      refine TF.done ?_
      clear hK hF hG hc7 hd7 hf7 d81 d82 d83 d84
      generalize v2.setCell ⟨g1, i * 2 + 1, none⟩ (.slice (some ⟨g2, 0, none⟩) (rn - 1) rc) = w7 at *
      have XS := Lib.hid (setRow_heap w7 (g + 2) _ #[.int .i64 own, .slice (some ⟨g1, 0, none⟩) n c5] _ _ HY.out)
      have BS := Lib.hid (below_setRow HB.out (Nat.le_add_right g 2) #[.int .i64 own, .slice (some ⟨g1, 0, none⟩) n c5])
      have HRF := Lib.hid (fin_rows HO.out HEA.out (V' := w7.setRow (g + 2) #[.int .i64 own, .slice (some ⟨g1, 0, none⟩) n c5]) (fun j cs e fr h1 h2 => setRow_other _ _ _ _ (ne_block h1 HY.out (by rcases h2 with rfl | rfl <;> decide))))
      go_upto_region 32 with fail
      go_wp2_with (first
        | (refine wpList_load_row rfl 27 (.tmp 8) rfl g8 rfl 27 _ (0, 0) _ HX.out Try.underlying27 rfl HIM.out ?_)
        | (refine wpList_store_row rfl 27 (.tmp 4) (.tmp 169) rfl (g + 2) #[.int .i64 own, .slice (some ⟨g1, 0, none⟩) n c5] rfl rfl 27 _ HY.out HIM.out rfl (by simp [Value.oneCell']) ?_)
        | fail)
      first
        | exact bodyPost_ret (results_row_tmp Try.results21 _ _ (g + 2) _ #[.int .i64 own, .slice (some ⟨g1, 0, none⟩) n c5] _ _ rfl XS.out Try.underlying27 rfl HIM.out) rfl
            ⟨(some ⟨g1, 0, none⟩), n, c5, (rs5.take i ++ (⟨rf5, (some ⟨g2, 0, none⟩), (rn - 1), rc, (ds.take k ++ ds.drop (k + 1))⟩ : Rw) :: rs5.drop (i + 1)), by rw [HE.out]; rfl, HRF.out.1, fun V2 hV2 => HRF.out.2.2 g (by omega) (by omega) V2 (fun j h3 h4 => hV2 j (by omega) h4), by rw [HE.out]; exact HPF.out, HRF.out.2.1, by omega, HLE.out, hg ▸ BS.out⟩
        | exact bodyPost_ret (results_row_tmp Try.results21 _ _ (g + 2) _ #[.int .i64 own, .slice (some ⟨g1, 0, none⟩) n c5] _ _ rfl XS.out Try.underlying27 rfl HIM.out) rfl
            ⟨(some ⟨g1, 0, none⟩), n, c5, by rw [HE.out]; rfl, (rs5.take i ++ (⟨rf5, (some ⟨g2, 0, none⟩), (rn - 1), rc, (ds.take k ++ ds.drop (k + 1))⟩ : Rw) :: rs5.drop (i + 1)), HRF.out.1, fun V2 hV2 => HRF.out.2.2 g (by omega) (by omega) V2 (fun j h3 h4 => hV2 j (by omega) h4), by rw [HE.out]; exact HPF.out, HRF.out.2.1, by omega, HLE.out, hg ▸ BS.out⟩
end Go.Proofs.Ytikegnnlmfidfaa
