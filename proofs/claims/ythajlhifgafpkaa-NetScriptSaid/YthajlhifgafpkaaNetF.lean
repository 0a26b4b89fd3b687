/-
  Nets: Take, Drop.
-/
import Derived.Test.YthajlhifgafpkaaNetE
namespace Go.Proofs.Ythajlhifgafpkaa
open Go.RowKit Go.Shelf
theorem NetIs.aside {W W' : World} {base g mb n c : Nat} {A : Option Addr} {vs : List PkV} {s : NS} (h : NetIs W base g mb A n c vs s) (j0 : Nat) (hk : ∀ j, j ≠ j0 → W'.heap[j]? = W.heap[j]?) (hg : g ≠ j0) (hm : mb ≠ j0) (ho : (Value.slice A n c).ownBlock ≠ some j0)
    (hb : ∀ v ∈ vs, ∀ j, (Value.slice v.a v.len v.cap).ownBlock = some j → j ≠ j0) : NetIs W' base g mb A n c vs s := by
  obtain ⟨l, hml, hl⟩ := h.hm
  exact ⟨(hk g hg).trans h.hg, ⟨l, hml.keep (hk mb hm), hl⟩, h.hf.keep (fun j hj => hk j (fun e => ho (e ▸ hj))) (fun v hv j hj => hk j (hb v hv j hj)), h.hv, h.b1, h.b2⟩
theorem BOwn.keep {base n c : Nat} {A : Option Addr} {l : List UInt8} {W W' : World} (h : BOwn W base A n c l) (hk : ∀ j, (Value.slice A n c).ownBlock = some j → W'.heap[j]? = W.heap[j]?) : BOwn W' base A n c l := by
  refine ⟨⟨h.1.1, ?_⟩, h.2⟩
  rcases h.1.2 with hn | ⟨g, cap, cur, ev, hg, hh, rest⟩
  · exact .inl hn
  · exact .inr ⟨g, cap, cur, ev, hg, (hk g (by rw [ev]; rfl)).trans hh, rest⟩
theorem map_erase {α β : Type} (f : α → β) (l : List α) (i : Nat) : (l.eraseIdx i).map f = (l.map f).eraseIdx i := by
  induction l generalizing i with
  | nil => rfl
  | cons a l ih => cases i <;> simp [ih]
def zeroV : PkV := ⟨zeroPk, none, 0, 0⟩
/-- What Take answers. -/
structure Took (W : World) (base : Nat) (v : PkV) (p : Pk) : Prop where
  pk : v.pk = p
  own : BOwn W base v.a v.len v.cap v.pk.bytes
  len : v.len ≤ 262144
set_option maxRecDepth 100000 in
set_option maxHeartbeats 4000000 in
theorem take_v {base g mb n c : Nat} {A : Option Addr} {vs : List PkV} {s : NS} (num : Nat) (w : World) (h : NetIs w base g mb A n c vs s) (hn : n ≤ 4096) :
    Calls Try.prog 15 #[.pointer (some ⟨g, 0, none⟩), .int .u64 (num : Int)] w fun e w' => ∃ v m vs', e = .returned (.tuple #[.agg v.cells.toArray, .int .i64 ((s.take num).1.2 : Int)]) ∧ Took w' base v (s.take num).1.1 ∧ NetIs w' base g mb A m c vs' (s.take num).2 ∧ Below base w w' ∧ NetCh g mb A n c A m c w w' := by
  have hgl := h.lt
  have hml := h.mlt
  have hbs : base ≤ w.heap.size := Nat.le_of_lt (Nat.lt_of_le_of_lt h.b1 h.lt)
  have hol := Lib.hid h.hf.base_le
  have hbl := Lib.hid h.hf.blt
  have B0 := Lib.hid ((Below.refl w.heap.size w).alloc (Nat.le_refl _) (.cells #[.int .u64 0, .int .i64 0, .int .i64 0, .int .u64 0, .slice none 0 0] 34))
  have H0 := Lib.hid (h.below B0.out)
  have R0 := Lib.hid (heap_alloc_new w (.cells #[.int .u64 0, .int .i64 0, .int .i64 0, .int .u64 0, .slice none 0 0] 34))
  have HI := Lib.hid (show (Try.prog.info? 34).map (·.size) = some 5 by kernel_rfl)
  clear h
  go_enter Try.func15, Try.ntmps15
  go_wp2_with fail
  generalize w.alloc (.cells #[.int .u64 0, .int .i64 0, .int .i64 0, .int .u64 0, .slice none 0 0] 34) = w0 at *
  refine (right_v w0 H0.out).mono ?_
  rintro e _ ⟨rfl, rfl⟩
  go_wp2_with fail
  refine (find_v num w0 H0.out hn).mono ?_
  rintro e w1 ⟨rfl, hb1⟩
  have hz0 := B0.out.size
  have B1 := Lib.hid (B0.out.trans (hb1.mono hz0))
  have H1 := Lib.hid (H0.out.below hb1)
  have R1 := Lib.hid ((hb1.block w.heap.size (Array.getElem?_eq_some_iff.1 R0.out).1).trans R0.out)
  clear hb1 B0 H0 R0
  cases hf : s.fl.findIdx? (fun p => p.num == num) with
  | none =>
    have HID := Lib.hid (show idxI (fun p => p.num == num) s.fl = -1 by rw [idxI, hf])
    have HT := Lib.hid (show s.take num = ((zeroPk, 6), s) by rw [NS.take, NS.find, hf])
    clear hf
    rw [HID.out]
    go_wp2_with (first
      | (refine wpList_store_row rfl 34 (.tmp 4) (.tmp 17) rfl w.heap.size #[.int .u64 0, .int .i64 0, .int .i64 0, .int .u64 0, .slice none 0 0] rfl rfl 34 _ R1.out HI.out rfl (by simp [Value.oneCell']) ?_)
      | fail)
    have RW := Lib.hid (setRow_heap _ w.heap.size _ #[.int .u64 0, .int .i64 0, .int .i64 0, .int .u64 0, .slice none 0 0] _ _ R1.out)
    have HB := Lib.hid (below_setRow B1.out (Nat.le_refl _) #[.int .u64 0, .int .i64 0, .int .i64 0, .int .u64 0, .slice none 0 0])
    have HH := Lib.hid (H1.out.aside w.heap.size (fun j hj => setRow_other w1 w.heap.size j #[.int .u64 0, .int .i64 0, .int .i64 0, .int .u64 0, .slice none 0 0] hj) (by omega) (by omega) (fun e => by have := (hol.out _ e).2; omega) (fun v hv j hj => by have := (hbl.out v hv j hj).2; omega))
    exact bodyPost_ret (results_row_tmp Try.results15 _ _ w.heap.size _ #[.int .u64 0, .int .i64 0, .int .i64 0, .int .u64 0, .slice none 0 0] _ _ rfl RW.out Try.underlying34 rfl HI.out) rfl
      ⟨zeroV, n, vs, by rw [HT.out]; rfl, ⟨by rw [HT.out]; rfl, BOwn.nil_ _ _, Nat.zero_le _⟩, by rw [HT.out]; exact HH.out, HB.out.mono hbs, NetCh.below HB.out _ _ _ _ _⟩
  | some i =>
    have HID := Lib.hid (show idxI (fun p => p.num == num) s.fl = (i : Int) by rw [idxI, hf])
    have HT := Lib.hid (show s.take num = ((s.fl.getD i zeroPk, 0), ⟨s.link, s.fl.eraseIdx i, s.last⟩) by rw [NS.take, NS.find, hf])
    have hin : i < n := by
      have := (List.findIdx?_eq_some_iff_getElem.1 hf).1
      rwa [H1.out.len] at this
    clear hf
    rw [HID.out]
    obtain ⟨ga, v, rfl, hbg, hgal, hv, hc⟩ := H1.out.hf.at_ hin
    have HC := Lib.hid (hc w1 rfl)
    have HV := Lib.hid hv
    have HPK := Lib.hid (show s.fl.getD i zeroPk = v.pk by rw [← H1.out.hv, List.getD_eq_getElem?_getD, List.getElem?_map, hv]; rfl)
    have hmem := List.mem_of_getElem? hv
    have HBV := Lib.hid (H1.out.hf.bytes v hmem)
    have HBJ := Lib.hid (hbl.out v hmem)
    clear hv hc hmem hgal hbg
    have Z0 := Lib.hid (heap_alloc_new w1 (.cells #[.int .u64 0, .int .i64 0, .int .i64 0, .int .u64 0, .slice none 0 0] 34))
    have Z1 := Lib.hid (setRow_heap _ w1.heap.size _ v.cells.toArray _ _ Z0.out)
    have BZ := Lib.hid (below_setRow ((Below.refl w1.heap.size w1).alloc (Nat.le_refl _) (.cells #[.int .u64 0, .int .i64 0, .int .i64 0, .int .u64 0, .slice none 0 0] 34)) (Nat.le_refl _) v.cells.toArray)
    have H2 := Lib.hid (H1.out.below BZ.out)
    have B2 := Lib.hid (B1.out.trans (BZ.out.mono B1.out.size))
    have hz1 := B1.out.size
    have R2 := Lib.hid ((BZ.out.block w.heap.size (Array.getElem?_eq_some_iff.1 R1.out).1).trans R1.out)
    have hw1 : w.heap.size < w1.heap.size := (Array.getElem?_eq_some_iff.1 R1.out).1
    have HBV2 := Lib.hid (HBV.out.1.below BZ.out)
    have i0 : (0 : Int) ≤ (i : Int) := by omega
    have g1 := H1.out.c1
    have g2 := H2.out.c1
    clear BZ B1 R1
    go_wp2_with (first
      | (refine wpList_load_slot rfl 34 (.tmp 23) rfl ⟨ga, i * 5, none⟩ rfl v.cells _ HC.out Try.underlying34 rfl HI.out ?_)
      | (refine wpList_store_row rfl 34 (.tmp 7) (.tmp 24) rfl w1.heap.size v.cells.toArray rfl rfl 34 _ Z0.out HI.out rfl (PkV.all1 v) ?_)
      | fail)
    have hz2 : w1.heap.size < ((w1.alloc (.cells #[.int .u64 0, .int .i64 0, .int .i64 0, .int .u64 0, .slice none 0 0] 34)).setRow w1.heap.size v.cells.toArray).heap.size := by simp
    clear Z0 HC g1
    generalize (w1.alloc (.cells #[.int .u64 0, .int .i64 0, .int .i64 0, .int .u64 0, .slice none 0 0] 34)).setRow w1.heap.size v.cells.toArray = w2 at *
    refine (delete_v base ga n c vs i w2 H2.out.hf hin (by omega)).mono ?_
    rintro e w3 ⟨rfl, hown, hgr⟩
    have HP := Lib.hid (show PkRow w3 base (some ⟨ga, 0, none⟩) (n - 1) c (vs.eraseIdx i) from ⟨hown, by have := H2.out.hf.hc; omega, fun u hu => H2.out.bytes_keep hgr u (List.mem_of_mem_eraseIdx hu)⟩)
    obtain ⟨H4, b4, n4⟩ := H2.out.newRow hgr HP.out (fun j hj => .inl hj)
    have hga : ga < w.heap.size := (hol.out ga rfl).2
    have hgW : w3.heap[g]? = w2.heap[g]? := hgr.block g H2.out.lt (fun e => (H2.out.rowm e.symm).2 rfl)
    have g3 : w3.cell? ⟨g, 1, none⟩ = some (.slice (some ⟨ga, 0, none⟩) n c) := (World.cell?_of_block hgW).trans g2
    have f3 : w3.frozen? ⟨g, 1, none⟩ = false := frozen_of_row w3 g 1 _ _ (hgW.trans H2.out.hg)
    have hk4 : ∀ j, j < w2.heap.size → j ≠ ga → j ≠ g → (w3.setCell ⟨g, 1, none⟩ (.slice (some ⟨ga, 0, none⟩) (n - 1) c)).heap[j]? = w2.heap[j]? := fun j hj h1 h2 => (heap_setCell_other w3 ⟨g, 1, none⟩ j _ h2).trans (hgr.block j hj (fun e => h1 (Option.some.inj e)))
    have R4 := Lib.hid ((hk4 w.heap.size (by omega) (by omega) (by omega)).trans R2.out)
    have Z4 := Lib.hid ((hk4 w1.heap.size hz2 (by omega) (by omega)).trans Z1.out)
    have HBV4 := Lib.hid (HBV2.out.keep (W' := w3.setCell ⟨g, 1, none⟩ (.slice (some ⟨ga, 0, none⟩) (n - 1) c)) (fun j hj => by
      obtain ⟨x1, _, x3⟩ := H2.out.bytes_ne HBV2.out hj
      exact hk4 j (by have := (HBJ.out j hj).2; omega) (fun e => x3 (by rw [e]; rfl)) x1))
    have HH4 := Lib.hid H4
    have HB4 := Lib.hid ((B2.out.mono hbs).trans b4)
    have HN4 := Lib.hid ((NetCh.below B2.out g mb (some ⟨ga, 0, none⟩) n c).trans n4)
    clear H4 b4 n4 hgW hk4 hown hgr g2
    go_wp2_with (first
      | (refine wpList_load_row rfl 34 (.tmp 7) rfl w1.heap.size rfl 34 v.cells.toArray (0, 0) _ Z4.out Try.underlying34 rfl HI.out ?_)
      | (refine wpList_store_row rfl 34 (.tmp 4) (.tmp 36) rfl w.heap.size v.cells.toArray rfl rfl 34 _ R4.out HI.out rfl (PkV.all1 v) ?_)
      | fail)
    generalize w3.setCell ⟨g, 1, none⟩ (.slice (some ⟨ga, 0, none⟩) (n - 1) c) = w4 at *
    have RW := Lib.hid (setRow_heap _ w.heap.size _ v.cells.toArray _ _ R4.out)
    have hk5 : ∀ j, j ≠ w.heap.size → (w4.setRow w.heap.size v.cells.toArray).heap[j]? = w4.heap[j]? := fun j hj => setRow_other w4 w.heap.size j v.cells.toArray hj
    have HH5 := Lib.hid (HH4.out.aside w.heap.size hk5 (by omega) (by omega) (fun e => by have := Option.some.inj e; simp at this; omega) (fun u hu j hj => by have := (hbl.out u (List.mem_of_mem_eraseIdx hu) j hj).2; omega))
    have HB5 := Lib.hid (show Below base w (w4.setRow w.heap.size v.cells.toArray) from below_setRow HB4.out hbs _)
    have HN5 := Lib.hid (show NetCh g mb (some ⟨ga, 0, none⟩) n c (some ⟨ga, 0, none⟩) (n - 1) c w (w4.setRow w.heap.size v.cells.toArray) from
      ⟨by have := HN4.out.size; simpa using this, fun j hj h1 h2 h3 => (hk5 j (by omega)).trans (HN4.out.blk j hj h1 h2 h3), HN4.out.own⟩)
    have HBV5 := Lib.hid (HBV4.out.keep (W' := w4.setRow w.heap.size v.cells.toArray) (fun j hj => hk5 j (by have := (HBJ.out j hj).2; omega)))
    have HFL := Lib.hid (show (vs.eraseIdx i).map (·.pk) = s.fl.eraseIdx i by rw [map_erase, H2.out.hv])
    exact bodyPost_ret (results_row_tmp Try.results15 _ _ w.heap.size _ v.cells.toArray _ _ rfl RW.out Try.underlying34 rfl HI.out) rfl
      ⟨v, n - 1, vs.eraseIdx i, by rw [HT.out]; rfl, ⟨by rw [HT.out]; exact HPK.out.symm, HBV5.out, HBV.out.2⟩, by rw [HT.out]; simp only []; rw [← HFL.out]; exact HH5.out, HB5.out, HN5.out⟩
set_option maxRecDepth 100000 in
set_option maxHeartbeats 2000000 in
theorem drop_v {base g mb n c : Nat} {A : Option Addr} {vs : List PkV} {s : NS} (num : Nat) (w : World) (h : NetIs w base g mb A n c vs s) (hn : n ≤ 4096) :
    Calls Try.prog 43 #[.pointer (some ⟨g, 0, none⟩), .int .u64 (num : Int)] w fun e w' => ∃ m vs', e = .returned (.int .i64 ((s.take num).1.2 : Int)) ∧ NetIs w' base g mb A m c vs' (s.take num).2 ∧ Below base w w' ∧ NetCh g mb A n c A m c w w' := by
  have HT := Lib.hid (take_v num w h hn)
  clear h
  have HI := Lib.hid (show (Try.prog.info? 34).map (·.size) = some 5 by kernel_rfl)
  go_enter Try.func43, Try.ntmps43
  go_wp2_with fail
  refine HT.out.mono ?_
  rintro e w1 ⟨v, m, vs', rfl, _, h1, b1, n1⟩
  have Z0 := Lib.hid (heap_alloc_new w1 (.cells #[.int .u64 0, .int .i64 0, .int .i64 0, .int .u64 0, .slice none 0 0] 34))
  have BZ := Lib.hid (below_setRow ((Below.refl w1.heap.size w1).alloc (Nat.le_refl _) (.cells #[.int .u64 0, .int .i64 0, .int .i64 0, .int .u64 0, .slice none 0 0] 34)) (Nat.le_refl _) v.cells.toArray)
  have H1 := Lib.hid (h1.below BZ.out)
  have B1 := Lib.hid (b1.trans (BZ.out.mono (by have := h1.lt; have := h1.b1; omega)))
  have N1 := Lib.hid (n1.trans (NetCh.below BZ.out g mb A m c))
  clear h1 b1 n1 HT
  go_wp2_with (first
    | (refine wpList_store_row rfl 34 (.tmp 5) (.tmp 11) rfl w1.heap.size v.cells.toArray rfl rfl 34 _ Z0.out HI.out rfl (PkV.all1 v) ?_)
    | fail)
  go_ret
  exact ⟨m, vs', rfl, H1.out, B1.out, N1.out⟩
end Go.Proofs.Ythajlhifgafpkaa
