/-
  Nets, the reference: Take, Drop.
-/
import Derived.Test.YthajlhifgafpkaaNetRf
namespace Go.Proofs.Ythajlhifgafpkaa
open Go.RowKit Go.Shelf
theorem PkRow.part {W : World} {base n c ga : Nat} {vs : List PkV} (h : PkRow W base (some ⟨ga, 0, none⟩) n c vs) (k m : Nat) (hk : k + m ≤ n) : Reads W W.heap.size 5 (some ⟨ga, k * 5, none⟩) m (((vs.drop k).take m).flatMap PkV.cells) := by
  refine ⟨?_, fun _ => ⟨_, rfl, (h.base_le ga rfl).2, fun j u hu => ?_⟩⟩
  · rw [flat_len PkV.cells_len]
    have := h.len
    simp
    omega
  · rw [← flat_take PkV.cells_len, ← flat_drop PkV.cells_len, List.getElem?_take] at hu
    split at hu
    · rw [List.getElem?_drop] at hu
      have e := h.row.cells (g := ga) rfl (k * 5 + j) u hu
      rw [add_lit2, Nat.zero_add] at e
      rw [add_lit2]
      exact e
    · cases hu
theorem PkRow.part' {W : World} {base n c ga : Nat} {vs : List PkV} (h : PkRow W base (some ⟨ga, 0, none⟩) n c vs) (k : Nat) (hk : k ≤ n) : Reads W W.heap.size 5 (if c = k then some ⟨ga, 0, none⟩ else some ⟨ga, k * 5, none⟩) (n - k) ((vs.drop k).flatMap PkV.cells) := by
  have hl := h.len
  have hp := h.part k (n - k) (by omega)
  rw [List.take_of_length_le (by simp; omega)] at hp
  split
  · have hc := h.hc
    obtain rfl : n = k := by omega
    refine ⟨by rw [hp.1], fun hn => ?_⟩
    simp at hn
  · exact hp
theorem PkV.ones (l : List PkV) : ∀ u ∈ l.flatMap PkV.cells, u.oneCell' = true := by
  intro u hu
  obtain ⟨v, _, hv⟩ := List.mem_flatMap.1 hu
  simp only [PkV.cells, List.mem_cons, List.not_mem_nil, or_false] at hv
  rcases hv with rfl | rfl | rfl | rfl | rfl <;> rfl
theorem pk_empty (w : World) : (w.alloc (.cells #[] 34)).ownsRow w.heap.size 34 5 (.slice (some ⟨w.heap.size, 0, none⟩) 0 0) 0 [] :=
  ⟨by simp, .inr ⟨w.heap.size, 0, #[], rfl, Nat.le_refl _, heap_alloc_new w _, Nat.le_refl _, by decide, rfl, rfl⟩⟩
section
variable {W W' : World} {base g nl cl n c n' c' : Nat} {AL A A' : Option Addr} {LL : List Lk} {vs vs' : List PkV} {s : NS}
theorem RN.keep' (h : RN W base g AL nl cl LL A n c vs s) (hg : W'.heap[g]? = W.heap[g]?) (hl : ∀ j, (Value.slice AL nl cl).ownBlock = some j → W'.heap[j]? = W.heap[j]?) (ha : ∀ j, (Value.slice A n c).ownBlock = some j → W'.heap[j]? = W.heap[j]?) (hb : ∀ v ∈ vs, ∀ j, (Value.slice v.a v.len v.cap).ownBlock = some j → W'.heap[j]? = W.heap[j]?) : RN W' base g AL nl cl LL A n c vs s :=
  ⟨hg.trans h.hg, own_keep h.hl hl, h.hlc, h.hk, h.hf.keep ha hb, h.hv, h.b1⟩
theorem RNy.below (h : RNy W base g AL nl cl A n c s) (hb : Below W.heap.size W W') : RNy W' base g AL nl cl A n c s := by
  obtain ⟨vs, LL, h⟩ := h
  exact ⟨vs, LL, h.below hb⟩
theorem RN.newRowB (h : RN W base g AL nl cl LL A n c vs s) (hb : Below W.heap.size W W') (hp : PkRow W' base A' n' c' vs') (hat : ∀ j, (Value.slice A' n' c').ownBlock = some j → W.heap.size ≤ j) :
    RN (W'.setCell ⟨g, 1, none⟩ (.slice A' n' c')) base g AL nl cl LL A' n' c' vs' ⟨s.link, vs'.map (·.pk), s.last⟩ ∧ Below base W (W'.setCell ⟨g, 1, none⟩ (.slice A' n' c')) ∧ RCh g AL nl cl A n c AL nl cl A' n' c' W (W'.setCell ⟨g, 1, none⟩ (.slice A' n' c')) := by
  obtain ⟨a1, a2, a3, a4⟩ := h.apart
  have hset : ∀ j, j ≠ g → (W'.setCell ⟨g, 1, none⟩ (.slice A' n' c')).heap[j]? = W'.heap[j]? := fun j hj => Below.heap_setCell W' _ _ j hj
  have hgW : W'.heap[g]? = W.heap[g]? := hb.block g h.lt
  have hb0 : base ≤ W.heap.size := Nat.le_of_lt (Nat.lt_of_le_of_lt h.b1 h.lt)
  refine ⟨⟨heap_setCell_same W' g 1 _ _ _ (hgW.trans h.hg), own_keep h.hl (fun j hj => (hset j (fun e => a1 (e ▸ hj))).trans (hb.block j (h.hl.lt j hj).2)), h.hlc, h.hk, hp.keep (fun j hj => hset j (fun e => ?_)) (fun v hv j hj => hset j (fun e => ?_)), rfl, h.b1⟩, ?_, ⟨Nat.le_trans hb.size (by simp [World.setCell]), fun j hj h1 _ h3 => (hset j h1).trans (hb.block j hj), fun j hj => .inl hj, fun j hj => .inr (hat j hj)⟩⟩
  · have := hat j hj; have := h.lt; omega
  · obtain ⟨cur, hc⟩ := (hp.bytes v hv).1.isCells hj
    rw [e, hgW, h.hg] at hc
    simp at hc
  · exact (hb.mono hb0).setCell h.b1 _
end
set_option maxRecDepth 100000 in
set_option maxHeartbeats 4000000 in
theorem rtake_v {base g nl cl n c : Nat} {AL A : Option Addr} {s : NS} (num : Nat) (w : World) (h : RNy w base g AL nl cl A n c s) (hn : n ≤ 4096) :
    Calls Try.prog 48 #[.pointer (some ⟨g, 0, none⟩), .int .u64 (num : Int)] w fun e w' => ∃ v, e = .returned (.tuple #[.agg v.cells.toArray, .int .i64 ((s.take num).1.2 : Int)]) ∧ Took w' base v (s.take num).1.1 ∧ ∃ n' c' A',
      RNy w' base g AL nl cl A' n' c' (s.take num).2 ∧ Below base w w' ∧ RCh g AL nl cl A n c AL nl cl A' n' c' w w' := by
  obtain ⟨vs, LL, h⟩ := h
  have hgl := h.lt
  have hbs : base ≤ w.heap.size := Nat.le_of_lt (Nat.lt_of_le_of_lt h.b1 h.lt)
  have B0 := Lib.hid ((Below.refl w.heap.size w).alloc (Nat.le_refl _) (.cells #[.int .u64 0, .int .i64 0, .int .i64 0, .int .u64 0, .slice none 0 0] 34))
  have H0 := Lib.hid (h.below B0.out)
  have HW := Lib.hid h
  have R0 := Lib.hid (heap_alloc_new w (.cells #[.int .u64 0, .int .i64 0, .int .i64 0, .int .u64 0, .slice none 0 0] 34))
  have HI := Lib.hid (show (Try.prog.info? 34).map (·.size) = some 5 by kernel_rfl)
  have hz0 : (w.alloc (.cells #[.int .u64 0, .int .i64 0, .int .i64 0, .int .u64 0, .slice none 0 0] 34)).heap.size = w.heap.size + 1 := by simp
  have HZ0 := Lib.hid hz0
  clear h hz0
  go_enter Try.func48, Try.ntmps48
  go_wp2_with fail
  generalize w.alloc (.cells #[.int .u64 0, .int .i64 0, .int .i64 0, .int .u64 0, .slice none 0 0] 34) = w0 at *
  refine (rfind_v num w0 ⟨LL, H0.out⟩ hn).mono ?_
  rintro e _ ⟨rfl, rfl⟩
  cases hf : s.fl.findIdx? (fun p => p.num == num) with
  | none =>
    have HID := Lib.hid (show idxI (fun p => p.num == num) s.fl = -1 by rw [idxI, hf])
    have HT := Lib.hid (show s.take num = ((zeroPk, 6), s) by rw [NS.take, NS.find, hf])
    clear hf
    rw [HID.out]
    go_wp2_with (first
      | (refine wpList_store_row rfl 34 (.tmp 4) (.tmp 13) rfl w.heap.size #[.int .u64 0, .int .i64 0, .int .i64 0, .int .u64 0, .slice none 0 0] rfl rfl 34 _ R0.out HI.out rfl (by simp [Value.oneCell']) ?_)
      | fail)
    have RW := Lib.hid (setRow_heap _ w.heap.size _ #[.int .u64 0, .int .i64 0, .int .i64 0, .int .u64 0, .slice none 0 0] _ _ R0.out)
    have HB := Lib.hid (below_setRow B0.out (Nat.le_refl _) #[.int .u64 0, .int .i64 0, .int .i64 0, .int .u64 0, .slice none 0 0])
    exact bodyPost_ret (results_row_tmp Try.results48 _ _ w.heap.size _ #[.int .u64 0, .int .i64 0, .int .i64 0, .int .u64 0, .slice none 0 0] _ _ rfl RW.out Try.underlying34 rfl HI.out) rfl
      ⟨zeroV, by rw [HT.out]; rfl, ⟨by rw [HT.out]; rfl, BOwn.nil_ _ _, Nat.zero_le _⟩, n, c, A, by rw [HT.out]; exact ⟨vs, LL, HW.out.below HB.out⟩, HB.out.mono hbs, RCh.below HB.out _ _ _ _ _ _ _⟩
  | some i =>
    have HID := Lib.hid (show idxI (fun p => p.num == num) s.fl = (i : Int) by rw [idxI, hf])
    have HT := Lib.hid (show s.take num = ((s.fl.getD i zeroPk, 0), ⟨s.link, s.fl.eraseIdx i, s.last⟩) by rw [NS.take, NS.find, hf])
    have hin : i < n := by
      have := (List.findIdx?_eq_some_iff_getElem.1 hf).1
      rwa [HW.out.len] at this
    clear hf
    rw [HID.out]
    obtain ⟨ga, v, rfl, hbg, hgal, hv, hc⟩ := H0.out.hf.at_ hin
    have HC := Lib.hid (hc w0 rfl)
    have HV := Lib.hid hv
    have HPK := Lib.hid (show s.fl.getD i zeroPk = v.pk by rw [← HW.out.hv, List.getD_eq_getElem?_getD, List.getElem?_map, hv]; rfl)
    have hmem := List.mem_of_getElem? hv
    have HBV := Lib.hid (HW.out.hf.bytes v hmem)
    have HMEM := Lib.hid hmem
    clear hv hc hmem hgal hbg
    have Z0 := Lib.hid (heap_alloc_new w0 (.cells #[.int .u64 0, .int .i64 0, .int .i64 0, .int .u64 0, .slice none 0 0] 34))
    have Z1 := Lib.hid (setRow_heap _ w0.heap.size _ v.cells.toArray _ _ Z0.out)
    have BZ := Lib.hid (below_setRow ((Below.refl w0.heap.size w0).alloc (Nat.le_refl _) (.cells #[.int .u64 0, .int .i64 0, .int .i64 0, .int .u64 0, .slice none 0 0] 34)) (Nat.le_refl _) v.cells.toArray)
    have H2 := Lib.hid (H0.out.below BZ.out)
    have B2 := Lib.hid (B0.out.trans (BZ.out.mono B0.out.size))
    have R2 := Lib.hid ((BZ.out.block w.heap.size (Array.getElem?_eq_some_iff.1 R0.out).1).trans R0.out)
    have i0 : (0 : Int) ≤ (i : Int) := by omega
    have g1 := H0.out.c1
    clear BZ
    go_upto_region 5 with (first
      | (refine wpList_load_slot rfl 34 (.tmp 19) rfl ⟨ga, i * 5, none⟩ rfl v.cells _ HC.out Try.underlying34 rfl HI.out ?_)
      | (refine wpList_store_row rfl 34 (.tmp 7) (.tmp 20) rfl w0.heap.size v.cells.toArray rfl rfl 34 _ Z0.out HI.out rfl (PkV.all1 v) ?_)
      | fail)
    have hz2 : ((w0.alloc (.cells #[.int .u64 0, .int .i64 0, .int .i64 0, .int .u64 0, .slice none 0 0] 34)).setRow w0.heap.size v.cells.toArray).heap.size = w.heap.size + 2 := by simp [HZ0.out]
    clear Z0 HC g1
    generalize (w0.alloc (.cells #[.int .u64 0, .int .i64 0, .int .i64 0, .int .u64 0, .slice none 0 0] 34)).setRow w0.heap.size v.cells.toArray = w2 at *
    refine wp_region_F 19 [(0, 1), (2, 1), (3, 1), (4, 1), (5, 2), (6, 1), (7, 1), (9, 1), (10, 1), (11, 1), (12, 2), (13, 1), (14, 1), (15, 1), (1, 0), (8, 0), (16, 0), (17, 1), (18, 1), (19, 4)] (fun _ => True) (fun V => V.cell? ⟨g, 1, none⟩ = some (.slice (some ⟨ga, 0, none⟩) n c)) (by kernel_rfl) (by kernel_rfl) (by kernel_rfl) (by kernel_rfl) (by kernel_rfl) (fun _ => ?_)
    simp only [outE, List.getElem?_cons_zero, List.getElem?_cons_succ, Option.getD_some]
    have H3 := Lib.hid (show RN w2.drew base g AL nl cl LL (some ⟨ga, 0, none⟩) n c vs s from H2.out.keep fun _ _ => rfl)
    have B3 := Lib.hid B2.out.drew
    have hF : True := trivial
    have hG : w2.drew.cell? ⟨g, 1, none⟩ = some (.slice (some ⟨ga, 0, none⟩) n c) := H3.out.c1
    have hz3 : w2.drew.heap.size = w.heap.size + 2 := hz2
    have R3 := Lib.hid (show w2.drew.heap[w.heap.size]? = _ from R2.out)
    have Z3 := Lib.hid (show w2.drew.heap[w0.heap.size]? = _ from Z1.out)
    clear H2 B2 R2 Z1 hz2
    generalize w2.drew = W0 at *
    iterate 4 (refine TF.val1 (v := ?_) ?_ ?_ ?_ ?_ ?_ ?_; rotate_left; (focus rfl); (focus (intro W hSW; (try dsimp only at hSW); (try (obtain ⟨hS1, hSW⟩ := hSW)); (try (obtain ⟨hS2, hSW⟩ := hSW)); (try (obtain ⟨hS3, hSW⟩ := hSW)); (try (obtain ⟨hS4, hSW⟩ := hSW)); (try (obtain ⟨hS5, hSW⟩ := hSW)); (try (obtain ⟨hS6, hSW⟩ := hSW)); (try (obtain ⟨hS7, hSW⟩ := hSW)); (try (obtain ⟨hS8, hSW⟩ := hSW)); go_simp; (try with_reducible rfl); done)); (focus exact fun _ _ _ h => h); (focus exact hF); (focus exact hG); simp only [Act.put, List.setIfInBounds_toArray, List.set_cons_zero, List.set_cons_succ])
    iterate 1 (refine TF.val2 (v := ?_) ?_ ?_ ?_ ?_ ?_ ?_; rotate_left; (focus rfl); (focus (intro W hSW; (try dsimp only at hSW); (try (obtain ⟨hS1, hSW⟩ := hSW)); (try (obtain ⟨hS2, hSW⟩ := hSW)); (try (obtain ⟨hS3, hSW⟩ := hSW)); (try (obtain ⟨hS4, hSW⟩ := hSW)); (try (obtain ⟨hS5, hSW⟩ := hSW)); (try (obtain ⟨hS6, hSW⟩ := hSW)); (try (obtain ⟨hS7, hSW⟩ := hSW)); (try (obtain ⟨hS8, hSW⟩ := hSW)); go_simp; (try with_reducible rfl); done)); (focus exact fun _ _ _ h => h); (focus exact hF); (focus exact hG); simp only [Act.put, List.setIfInBounds_toArray, List.set_cons_zero, List.set_cons_succ])
    have hnc : n ≤ c := H3.out.hf.hc
    have i1 : ((i : Int) + 1) ≤ (n : Int) := by omega
    have i2 : (i : Int) ≤ (c : Int) := by omega
    have i3 : IntKind.i64.wrap ((i : Int) + 1) = (i : Int) + 1 := IntWalk.i64_in _ ⟨by omega, by omega⟩
    have i4 : (n : Int) ≤ (c : Int) := by omega
    have i5 : (0 : Int) ≤ (i : Int) + 1 := by omega
    iterate 1 (refine TF.val1 (v := ?_) ?_ ?_ ?_ ?_ ?_ ?_; rotate_left; (focus rfl); (focus (intro W hSW; (try dsimp only at hSW); (try (obtain ⟨hS1, hSW⟩ := hSW)); (try (obtain ⟨hS2, hSW⟩ := hSW)); (try (obtain ⟨hS3, hSW⟩ := hSW)); (try (obtain ⟨hS4, hSW⟩ := hSW)); (try (obtain ⟨hS5, hSW⟩ := hSW)); (try (obtain ⟨hS6, hSW⟩ := hSW)); (try (obtain ⟨hS7, hSW⟩ := hSW)); (try (obtain ⟨hS8, hSW⟩ := hSW)); go_simp; (try with_reducible rfl); done)); (focus exact fun _ _ _ h => h); (focus exact hF); (focus exact hG); simp only [Act.put, List.setIfInBounds_toArray, List.set_cons_zero, List.set_cons_succ])
    iterate 4 (refine TF.val1 (v := ?_) ?_ ?_ ?_ ?_ ?_ ?_; rotate_left; (focus rfl); (focus (intro W hSW; (try dsimp only at hSW); (try (obtain ⟨hS1, hSW⟩ := hSW)); (try (obtain ⟨hS2, hSW⟩ := hSW)); (try (obtain ⟨hS3, hSW⟩ := hSW)); (try (obtain ⟨hS4, hSW⟩ := hSW)); (try (obtain ⟨hS5, hSW⟩ := hSW)); (try (obtain ⟨hS6, hSW⟩ := hSW)); (try (obtain ⟨hS7, hSW⟩ := hSW)); (try (obtain ⟨hS8, hSW⟩ := hSW)); go_simp; (try with_reducible rfl); done)); (focus exact fun _ _ _ h => h); (focus exact hF); (focus exact hG); simp only [Act.put, List.setIfInBounds_toArray, List.set_cons_zero, List.set_cons_succ])
    iterate 1 (refine TF.val2 (v := ?_) ?_ ?_ ?_ ?_ ?_ ?_; rotate_left; (focus rfl); (focus (intro W hSW; (try dsimp only at hSW); (try (obtain ⟨hS1, hSW⟩ := hSW)); (try (obtain ⟨hS2, hSW⟩ := hSW)); (try (obtain ⟨hS3, hSW⟩ := hSW)); (try (obtain ⟨hS4, hSW⟩ := hSW)); (try (obtain ⟨hS5, hSW⟩ := hSW)); (try (obtain ⟨hS6, hSW⟩ := hSW)); (try (obtain ⟨hS7, hSW⟩ := hSW)); (try (obtain ⟨hS8, hSW⟩ := hSW)); go_simp; (try with_reducible rfl); done)); (focus exact fun _ _ _ h => h); (focus exact hF); (focus exact hG); simp only [Act.put, List.setIfInBounds_toArray, List.set_cons_zero, List.set_cons_succ])
    iterate 2 (refine TF.val1 (v := ?_) ?_ ?_ ?_ ?_ ?_ ?_; rotate_left; (focus rfl); (focus (intro W hSW; (try dsimp only at hSW); (try (obtain ⟨hS1, hSW⟩ := hSW)); (try (obtain ⟨hS2, hSW⟩ := hSW)); (try (obtain ⟨hS3, hSW⟩ := hSW)); (try (obtain ⟨hS4, hSW⟩ := hSW)); (try (obtain ⟨hS5, hSW⟩ := hSW)); (try (obtain ⟨hS6, hSW⟩ := hSW)); (try (obtain ⟨hS7, hSW⟩ := hSW)); (try (obtain ⟨hS8, hSW⟩ := hSW)); go_simp; (try with_reducible rfl); done)); (focus exact fun _ _ _ h => h); (focus exact hF); (focus exact hG); simp only [Act.put, List.setIfInBounds_toArray, List.set_cons_zero, List.set_cons_succ])
    iterate 1 (refine TF.val1 (v := ?_) ?_ ?_ ?_ ?_ ?_ ?_; rotate_left; (focus rfl); (focus (intro W hSW; (try dsimp only at hSW); (try (obtain ⟨hS1, hSW⟩ := hSW)); (try (obtain ⟨hS2, hSW⟩ := hSW)); (try (obtain ⟨hS3, hSW⟩ := hSW)); (try (obtain ⟨hS4, hSW⟩ := hSW)); (try (obtain ⟨hS5, hSW⟩ := hSW)); (try (obtain ⟨hS6, hSW⟩ := hSW)); (try (obtain ⟨hS7, hSW⟩ := hSW)); (try (obtain ⟨hS8, hSW⟩ := hSW)); go_simp; (try with_reducible rfl); done)); (focus exact fun _ _ _ h => h); (focus exact hF); (focus exact hG); simp only [Act.put, List.setIfInBounds_toArray, List.set_cons_zero, List.set_cons_succ])
    obtain ⟨AX, hAX⟩ : ∃ x, (if c = i + 1 then some (⟨ga, 0, none⟩ : Addr) else some ⟨ga, (i + 1) * 5, none⟩) = x := ⟨_, rfl⟩
    rw [hAX]
    have HAX := Lib.hid hAX
    clear hAX
    have HZ3 := Lib.hid hz3
    clear hz3
    have BE := (Below.refl W0.heap.size W0).alloc (Nat.le_refl _) (.cells #[] 34)
    have HE := Lib.hid (pk_empty W0)
    have H4 := Lib.hid (H3.out.below BE)
    have hzE : (W0.alloc (.cells #[] 34)).heap.size = W0.heap.size + 1 := by simp
    refine TF.eff0 (by rfl) (fun K hK => ?_); go_simp
    refine hK.out _ _ hF H4.out.c1 ?_
    clear hK
    (try simp only [Act.put, List.setIfInBounds_toArray, List.set_cons_zero, List.set_cons_succ])
    have HBE := Lib.hid BE
    clear BE hG
    generalize W0.alloc (.cells #[] 34) = W1 at *
    have hz3 := HZ3.out
    obtain ⟨p0, hi, hy0, hy1, hy2⟩ := info_parts info_pk
    have P1 := Lib.hid (H4.out.hf.part 0 i (by omega))
    refine TF.eff0 (by rfl) (fun K hK => ?_)
    refine wp_append_any W1 (.tmp 22) (.tmp 28) 44 rfl W0.heap.size 34 p0 _ 5 56 Try.underlying44 hi hy0 hy1 hy2 rfl (by decide) (.slice (some ⟨W0.heap.size, 0, none⟩) 0 0) 0 [] rfl HE.out W1.heap.size (some ⟨ga, 0 * 5, none⟩) i c (((vs.drop 0).take i).flatMap PkV.cells) rfl P1.out (PkV.ones _) (by simp only [maxLen]; omega) (by omega) (by omega) ?_
    intro v1 W2 hown1 hgr1 hat1
    obtain ⟨A1, c1', rfl, hc1⟩ := own_shape hown1
    simp only [Nat.zero_add, List.nil_append] at hown1 hc1 ⊢
    have B5 := HBE.out.grown hgr1 (by omega) (fun j hj => by simp [Value.ownBlock] at hj; omega)
    have H5 := Lib.hid (H3.out.below B5)
    refine hK.out _ _ hF H5.out.c1 ?_
    clear hK hat1
    (try simp only [Act.put, List.setIfInBounds_toArray, List.set_cons_zero, List.set_cons_succ])
    have P2 := H5.out.hf.part' (i + 1) (by omega)
    rw [HAX.out] at P2
    have P2 := Lib.hid P2
    have HO1 := Lib.hid hown1
    have HB5 := Lib.hid B5
    have hz5 := B5.size
    clear hown1 hgr1 B5 P1 HE H4 HBE hzE
    refine TF.eff0 (by rfl) (fun K hK => ?_)
    refine wp_append_any W2 (.tmp 29) (.tmp 36) 44 rfl W0.heap.size 34 p0 _ 5 56 Try.underlying44 hi hy0 hy1 hy2 rfl (by decide) (.slice A1 i c1') i _ rfl HO1.out W2.heap.size _ (n - (i + 1)) (c - (i + 1)) _ rfl P2.out (PkV.ones _) (by simp only [maxLen]; omega) (by omega) (by omega) ?_
    intro v2 W3 hown2 hgr2 hat2
    obtain ⟨A2, c2', rfl, hc2⟩ := own_shape hown2
    have B6 := HB5.out.grown hgr2 (by omega) (fun j hj => (HO1.out.lt j hj).1)
    have H6 := Lib.hid (H3.out.below B6)
    have f6 := H6.out.fr 1
    have HP := Lib.hid (show PkRow W3 base A2 (i + (n - (i + 1))) c2' (vs.eraseIdx i) from ⟨by
      have e : (vs.eraseIdx i).flatMap PkV.cells = ((vs.drop 0).take i).flatMap PkV.cells ++ (vs.drop (i + 1)).flatMap PkV.cells := by
        rw [List.eraseIdx_eq_take_drop_succ, List.flatMap_append]
        rfl
      rw [e]
      exact own_down hown2 (by omega), hc2, fun u hu => by
        have := H6.out.hf.bytes u (List.mem_of_mem_eraseIdx hu)
        exact this⟩)
    obtain ⟨H7, b7, n7⟩ := H3.out.newRowB B6 HP.out (fun j hj => (hown2.lt j hj).1)
    have HH7 := Lib.hid H7
    have BB7 := Lib.hid (B3.out.mono hbs |>.trans b7)
    have NN7 := Lib.hid ((RCh.below B3.out g AL nl cl (some ⟨ga, 0, none⟩) n c).trans n7)
    have hset : ∀ j, j ≠ g → (W3.setCell ⟨g, 1, none⟩ (.slice A2 (i + (n - (i + 1))) c2')).heap[j]? = W3.heap[j]? := fun j hj => Below.heap_setCell W3 _ _ j hj
    have R7 := Lib.hid ((hset w.heap.size (by omega)).trans ((B6.block w.heap.size (by omega)).trans R3.out))
    have hz4 := HZ0.out
    have Z7 := Lib.hid ((hset w0.heap.size (by omega)).trans ((B6.block w0.heap.size (by omega)).trans Z3.out))
    have V7 := Lib.hid (HBV.out.1.keep (W' := W3.setCell ⟨g, 1, none⟩ (.slice A2 (i + (n - (i + 1))) c2')) (fun j hj => by
      have h1 := (HBV.out.1.base_le j hj).2
      have h2 := (HW.out.apart.2.2.2 v HMEM.out j hj).1
      rw [hset j h2, B6.block j (by omega), B3.out.block j h1]))
    have hz7 : W0.heap.size ≤ (W3.setCell ⟨g, 1, none⟩ (.slice A2 (i + (n - (i + 1))) c2')).heap.size := by
      have := B6.size
      simpa [World.setCell] using this
    have HO2 := Lib.hid (fun j hj => (hown2.lt j hj).1)
    refine hK.out _ _ hF H6.out.c1 ?_
    clear hK hown2 hgr2 hat2 H7 b7 n7 hset P2 HO1 HB5 H5
    (try simp only [Act.put, List.setIfInBounds_toArray, List.set_cons_zero, List.set_cons_succ])
    have hG := H6.out.c1
    clear hz3 hz4
    iterate 2 (refine TF.val1 (v := ?_) ?_ ?_ ?_ ?_ ?_ ?_; rotate_left; (focus rfl); (focus (intro W hSW; (try dsimp only at hSW); (try (obtain ⟨hS1, hSW⟩ := hSW)); (try (obtain ⟨hS2, hSW⟩ := hSW)); (try (obtain ⟨hS3, hSW⟩ := hSW)); (try (obtain ⟨hS4, hSW⟩ := hSW)); (try (obtain ⟨hS5, hSW⟩ := hSW)); (try (obtain ⟨hS6, hSW⟩ := hSW)); (try (obtain ⟨hS7, hSW⟩ := hSW)); (try (obtain ⟨hS8, hSW⟩ := hSW)); go_simp; (try with_reducible rfl); done)); (focus exact fun _ _ _ h => h); (focus exact hF); (focus exact hG); simp only [Act.put, List.setIfInBounds_toArray, List.set_cons_zero, List.set_cons_succ])
    refine TF.eff4 (by rfl) (fun K hK => ?_); go_simp
    refine hK.out _ _ hF ?_
    clear hK hG f6 H6 H3 R3 Z3
    (try simp only [Act.put, List.setIfInBounds_toArray, List.set_cons_zero, List.set_cons_succ])
    refine TF.done ?_
    clear B6
    generalize W3.setCell ⟨g, 1, none⟩ (.slice A2 (i + (n - (i + 1))) c2') = w4 at *
    go_wp2_with (first
      | (refine wpList_load_row rfl 34 (.tmp 7) rfl w0.heap.size rfl 34 v.cells.toArray (0, 0) _ Z7.out Try.underlying34 rfl HI.out ?_)
      | (refine wpList_store_row rfl 34 (.tmp 4) (.tmp 40) rfl w.heap.size v.cells.toArray rfl rfl 34 _ R7.out HI.out rfl (PkV.all1 v) ?_)
      | fail)
    have RW := Lib.hid (setRow_heap _ w.heap.size _ v.cells.toArray _ _ R7.out)
    have hk5 : ∀ j, j ≠ w.heap.size → (w4.setRow w.heap.size v.cells.toArray).heap[j]? = w4.heap[j]? := fun j hj => setRow_other w4 w.heap.size j v.cells.toArray hj
    have hz8 := HZ3.out
    have hz9 := HZ0.out
    have HH8 := Lib.hid (HH7.out.keep' (W' := w4.setRow w.heap.size v.cells.toArray) (hk5 g (by omega)) (fun j hj => hk5 j (by have := (HW.out.hl.lt j hj).2; omega)) (fun j hj => hk5 j (by have := HO2.out j hj; omega)) (fun u hu j hj => hk5 j (by have := (HW.out.hf.blt u (List.mem_of_mem_eraseIdx hu) j hj).2; omega)))
    have HFL := Lib.hid (show (vs.eraseIdx i).map (·.pk) = s.fl.eraseIdx i by rw [map_erase, HW.out.hv])
    have V8 := Lib.hid (V7.out.keep (W' := w4.setRow w.heap.size v.cells.toArray) (fun j hj => hk5 j (by have := (HBV.out.1.base_le j hj).2; omega)))
    have NN8 := Lib.hid (show RCh g AL nl cl (some ⟨ga, 0, none⟩) n c AL nl cl A2 (i + (n - (i + 1))) c2' w (w4.setRow w.heap.size v.cells.toArray) from ⟨by have := NN7.out.size; simpa using this, fun j hj h1 h2 h3 => (hk5 j (by omega)).trans (NN7.out.blk j hj h1 h2 h3), NN7.out.ownl, NN7.out.own⟩)
    exact bodyPost_ret (results_row_tmp Try.results48 _ _ w.heap.size _ v.cells.toArray _ _ rfl RW.out Try.underlying34 rfl HI.out) rfl
      ⟨v, by rw [HT.out]; rfl, ⟨by rw [HT.out]; exact HPK.out.symm, V8.out, HBV.out.2⟩, _, _, _, by rw [HT.out]; simp only []; rw [← HFL.out]; exact ⟨_, LL, HH8.out⟩, below_setRow BB7.out hbs _, NN8.out⟩
set_option maxRecDepth 100000 in
set_option maxHeartbeats 2000000 in
theorem rdrop_v {base g nl cl n c : Nat} {AL A : Option Addr} {s : NS} (num : Nat) (w : World) (h : RNy w base g AL nl cl A n c s) (hn : n ≤ 4096) (hbs : base ≤ w.heap.size) :
    Calls Try.prog 49 #[.pointer (some ⟨g, 0, none⟩), .int .u64 (num : Int)] w fun e w' => e = .returned (.int .i64 ((s.take num).1.2 : Int)) ∧ ∃ n' c' A',
      RNy w' base g AL nl cl A' n' c' (s.take num).2 ∧ Below base w w' ∧ RCh g AL nl cl A n c AL nl cl A' n' c' w w' := by
  have HT := Lib.hid (rtake_v num w h hn)
  have HI := Lib.hid (show (Try.prog.info? 34).map (·.size) = some 5 by kernel_rfl)
  obtain ⟨r, hr⟩ : ∃ r, s.take num = r := ⟨_, rfl⟩
  rw [hr] at HT
  rw [hr]
  clear h hr
  go_enter Try.func49, Try.ntmps49
  go_wp2_with fail
  refine HT.out.mono ?_
  rintro e w1 ⟨v, rfl, tk, n', c', A', h1, b1, r1⟩
  have Z0 := Lib.hid (heap_alloc_new w1 (.cells #[.int .u64 0, .int .i64 0, .int .i64 0, .int .u64 0, .slice none 0 0] 34))
  have BZ := Lib.hid (below_setRow ((Below.refl w1.heap.size w1).alloc (Nat.le_refl _) (.cells #[.int .u64 0, .int .i64 0, .int .i64 0, .int .u64 0, .slice none 0 0] 34)) (Nat.le_refl _) v.cells.toArray)
  have H1 := Lib.hid h1
  have B1 := Lib.hid b1
  have R1 := Lib.hid r1
  clear h1 b1 r1 tk
  go_wp2_with (first
    | (refine wpList_store_row rfl 34 (.tmp 5) (.tmp 11) rfl w1.heap.size v.cells.toArray rfl rfl 34 _ Z0.out HI.out rfl (PkV.all1 v) ?_)
    | fail)
  go_ret
  exact ⟨rfl, n', c', A', H1.out.below BZ.out, B1.out.trans (BZ.out.mono (Nat.le_trans hbs B1.out.size)), R1.out.trans (RCh.below BZ.out _ _ _ _ _ _ _)⟩
end Go.Proofs.Ythajlhifgafpkaa
