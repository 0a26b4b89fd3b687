/-
  Nets: Down, Take, Drop.
-/
import Derived.Test.YthajlhifgafpkaaNetD
import Derived.Laws.StructEq
namespace Go.Proofs.Ythajlhifgafpkaa
open Go.RowKit Go.Shelf
theorem eq_key (a b x y : Int) (w : World) : (binOp .eql 67 (.agg #[.int .i64 a, .int .i64 b]) (.agg #[.int .i64 x, .int .i64 y])).run Try.prog w = .ok (.bool (decide ((a, b) = (x, y)))) w := by
  have hsz : (sizeOf 3).run Try.prog w = .ok 1 w := Try.sizeOf3 w
  have p0 : ∀ p q : Int, (part 3 #[.int .i64 p, .int .i64 q] 0).run Try.prog w = .ok (.int .i64 p) w := fun p q => by simp [part, isAgg, run_underlying Try.underlying3, Result.andThen]
  have p1 : ∀ p q : Int, (part 3 #[.int .i64 p, .int .i64 q] 1).run Try.prog w = .ok (.int .i64 q) w := fun p q => by simp [part, isAgg, run_underlying Try.underlying3, Result.andThen]
  rw [run_eql_struct]
  rw [Op.equalIn]
  simp only [Sem.run_bind, run_underlying Try.underlying67, Result.andThen_ok, hsz]
  simp only [Std.Legacy.Range.forIn_eq_forIn_range', Std.Legacy.Range.size]
  simp only [show List.range' 0 ((2 - 0 + 1 - 1) / 1) 1 = [0, 1] from rfl, List.forIn_cons, List.forIn_nil, Nat.zero_mul, Nat.one_mul, Sem.run_bind, p0, Result.andThen_ok]
  have q : ∀ p q : Int, (Op.equalIn 9999 3 (.int .i64 p) (.int .i64 q)).run Try.prog w = .ok (p == q) w := fun p q => run_equalIn_int w 9998 3 .i64 .i64 p q Try.underlying3
  by_cases h1 : a = x
  · subst h1
    by_cases h2 : b = y
    · subst h2
      simp [q, p1, Result.andThen]
    · simp [q, p1, h2, Result.andThen]
  · simp [q, h1, Result.andThen]
set_option maxRecDepth 100000 in
set_option maxHeartbeats 2000000 in
theorem down1_v (v : PkV) (x y : Int) (kb : Nat) (w : World) (h0 : w.heap[kb]? = some (.cells #[.int .i64 x, .int .i64 y] 67 (0, 0))) :
    Calls Try.prog 45 #[.agg v.cells.toArray, .pointer (some ⟨kb, 0, none⟩)] w fun e w' => e = .returned (.bool (decide (keyI v.pk.frm v.pk.too = (x, y)))) ∧ Below w.heap.size w w' := by
  obtain ⟨⟨pn, pf, pt, pr, pb⟩, a, len, cap⟩ := v
  obtain ⟨k1, hk1⟩ : ∃ k, (keyI pf pt).1 = k := ⟨_, rfl⟩
  obtain ⟨k2, hk2⟩ : ∃ k, (keyI pf pt).2 = k := ⟨_, rfl⟩
  have HK := Lib.hid (show keyI pf pt = (k1, k2) by rw [← hk1, ← hk2])
  clear hk1 hk2
  have hkb : kb < w.heap.size := (Array.getElem?_eq_some_iff.1 h0).1
  have B1 := Lib.hid ((Below.refl w.heap.size w).alloc (Nat.le_refl _) (.cells #[.int .u64 (pn : Int), .int .i64 pf, .int .i64 pt, .int .u64 (pr : Int), .slice a len cap] 34))
  have C1 := Lib.hid ((B1.out.block kb hkb).trans h0)
  clear h0
  have KV := Lib.hid (fun V => key_v pf pt V)
  rw [HK.out] at KV
  show Calls Try.prog _ #[.agg #[.int .u64 (pn : Int), .int .i64 pf, .int .i64 pt, .int .u64 (pr : Int), .slice a len cap], .pointer (some ⟨kb, 0, none⟩)] w _
  go_enter Try.func45, Try.ntmps45
  go_wp2_with fail
  generalize w.alloc (.cells #[.int .u64 (pn : Int), .int .i64 pf, .int .i64 pt, .int .u64 (pr : Int), .slice a len cap] 34) = w1 at *
  refine (KV.out w1).mono ?_
  rintro e w2 ⟨rfl, hb2⟩
  have hz1 := B1.out.size
  have B2 := Lib.hid (B1.out.trans (hb2.mono hz1))
  have C2 := Lib.hid ((hb2.block kb (by omega)).trans C1.out)
  have hz2 := hb2.size
  clear hb2 B1 C1 KV
  unfold ekL
  have heq := eq_key k1 k2 x y
  have c0 : (w2.alloc (.cells #[.int .i64 k1, .int .i64 k2] 67)).cell? ⟨kb, 0, none⟩ = some (.int .i64 x) := (cell_old w2 _ kb 0 (by omega)).trans (by rw [cell_of_row _ _ 0 _ _ _ C2.out]; rfl)
  have c1 : (w2.alloc (.cells #[.int .i64 k1, .int .i64 k2] 67)).cell? ⟨kb, 1, none⟩ = some (.int .i64 y) := (cell_old w2 _ kb 1 (by omega)).trans (by rw [cell_of_row _ _ 1 _ _ _ C2.out]; rfl)
  have d0 : (w2.alloc (.cells #[.int .i64 k1, .int .i64 k2] 67)).cell? ⟨w2.heap.size, 0, none⟩ = some (.int .i64 k1) := cell_new w2 _ _ 0
  have d1 : (w2.alloc (.cells #[.int .i64 k1, .int .i64 k2] 67)).cell? ⟨w2.heap.size, 1, none⟩ = some (.int .i64 k2) := cell_new w2 _ _ 1
  have B3 := Lib.hid (B2.out.alloc B2.out.size (.cells #[.int .i64 k1, .int .i64 k2] 67))
  go_wp2
  go_ret
  have hd : decide ((k1, k2) = (x, y)) = (decide (k1 = x) && decide (k2 = y)) := by rw [Bool.eq_iff_iff]; simp
  exact ⟨by rw [HK.out, hd]; rfl, B3.out⟩
section
variable {W W1 : World} {base g mb n c n' c' : Nat} {A A' : Option Addr} {vs vs' : List PkV} {s : NS}
theorem PkRow.setG (h : PkRow W1 base A' n' c' vs') {cs : Array Value} {fr : Nat × Nat} (hg : W1.heap[g]? = some (.cells cs 66 fr)) (i : Nat) (u : Value) : PkRow (W1.setCell ⟨g, i, none⟩ u) base A' n' c' vs' := by
  refine h.keep (fun j hj => heap_setCell_other W1 ⟨g, i, none⟩ j u fun e => ?_) (fun v hv j hj => heap_setCell_other W1 ⟨g, i, none⟩ j u fun e => ?_)
  · obtain ⟨cur, hc⟩ := h.isCells hj
    have e : j = g := e
    subst e
    rw [hg] at hc
    injection hc with hc
    injection hc with _ hc
    exact absurd hc (by decide)
  · obtain ⟨cur, hc⟩ := (h.bytes v hv).1.isCells hj
    have e : j = g := e
    subst e
    rw [hg] at hc
    injection hc with hc
    injection hc with _ hc
    exact absurd hc (by decide)
theorem NetIs.bytes_keep (h : NetIs W base g mb A n c vs s) (hgr : W.grownBy W1 (Value.slice A n c).ownBlock) : ∀ v ∈ vs, BOwn W1 base v.a v.len v.cap v.pk.bytes ∧ v.len ≤ 262144 := fun v hv => by
  have hb := (h.hf.bytes v hv).1
  refine ⟨⟨⟨hb.1.1, ?_⟩, hb.2⟩, (h.hf.bytes v hv).2⟩
  rcases hb.1.2 with hn | ⟨g, cap, cur, ev, hg, hh, rest⟩
  · exact .inl hn
  · have hj : (Value.slice v.a v.len v.cap).ownBlock = some g := by rw [ev]; rfl
    exact .inr ⟨g, cap, cur, ev, hg, (hgr.block g (hb.base_le g hj).2 (fun e => (h.bytes_ne hb hj).2.2 e.symm)).trans hh, rest⟩
/-- The flight is laid anew. -/
theorem NetIs.newRow (h : NetIs W base g mb A n c vs s) (hgr : W.grownBy W1 (Value.slice A n c).ownBlock) (hr : PkRow W1 base A' n' c' vs') (hat : ∀ j, (Value.slice A' n' c').ownBlock = some j → (Value.slice A n c).ownBlock = some j ∨ W.heap.size ≤ j) :
    NetIs (W1.setCell ⟨g, 1, none⟩ (.slice A' n' c')) base g mb A' n' c' vs' ⟨s.link, vs'.map (·.pk), s.last⟩ ∧ Below base W (W1.setCell ⟨g, 1, none⟩ (.slice A' n' c')) ∧ NetCh g mb A n c A' n' c' W (W1.setCell ⟨g, 1, none⟩ (.slice A' n' c')) := by
  have hG : W1.heap[g]? = W.heap[g]? := hgr.block g h.lt (fun e => (h.rowm e.symm).2 rfl)
  have hM : W1.heap[mb]? = W.heap[mb]? := hgr.block mb h.mlt (fun e => (h.rowm e.symm).1 rfl)
  have hne : ∀ j, j ≠ g → (W1.setCell ⟨g, 1, none⟩ (.slice A' n' c')).heap[j]? = W1.heap[j]? := fun j hj => heap_setCell_other W1 ⟨g, 1, none⟩ j _ hj
  have hsz : (W1.setCell ⟨g, 1, none⟩ (.slice A' n' c')).heap.size = W1.heap.size := by simp [World.setCell]
  obtain ⟨l, hm, hl⟩ := h.hm
  have b1 := h.b1
  refine ⟨⟨heap_setCell_same W1 g 1 _ _ _ (hG.trans h.hg), ⟨l, hm.keep ((hne mb (fun e => h.gm e.symm)).trans hM), hl⟩, hr.setG (hG.trans h.hg) 1 _, rfl, h.b1, h.b2⟩, ⟨hgr.os, hgr.tape, hgr.output, by rw [hsz]; exact hgr.size, fun j hj => ?_⟩, ⟨by rw [hsz]; exact hgr.size, fun j hj h1 _ h3 => (hne j h1).trans (hgr.block j hj (fun e => h3 e.symm)), hat⟩⟩
  have := h.lt
  refine (hne j (by omega)).trans (hgr.block j (by omega) fun e => ?_)
  have := (h.hf.base_le j e.symm).1
  omega
end
set_option maxRecDepth 100000 in
set_option maxHeartbeats 4000000 in
theorem down_v {base g mb n c : Nat} {A : Option Addr} {vs : List PkV} {s : NS} (a b : Int) (w : World) (h : NetIs w base g mb A n c vs s) (ha : I64 a) (hb : I64 b) (hn : n ≤ 4096) :
    Calls Try.prog 23 #[.pointer (some ⟨g, 0, none⟩), .int .i64 a, .int .i64 b] w fun e w' => ∃ m vs', e = .returned (.int .i64 ((s.down a b).1 : Int)) ∧ NetIs w' base g mb A m c vs' (s.down a b).2 ∧ Below base w w' ∧ NetCh g mb A n c A m c w w' := by
  have H := Lib.hid h
  obtain ⟨h1, h2⟩ := i64_min ha hb
  have hbs : base ≤ w.heap.size := Nat.le_of_lt (Nat.lt_of_le_of_lt h.b1 h.lt)
  have hgl := h.lt
  have hml := h.mlt
  have hol := Lib.hid h.hf.base_le
  clear h ha hb
  have KV := Lib.hid (key_v a b w)
  obtain ⟨x, hx⟩ : ∃ x, (keyI a b).1 = x := ⟨_, rfl⟩
  obtain ⟨y, hy⟩ : ∃ y, (keyI a b).2 = y := ⟨_, rfl⟩
  have HK := Lib.hid (show keyI a b = (x, y) by rw [← hx, ← hy])
  rw [hx] at h1
  rw [hy] at h2
  rw [HK.out] at KV
  clear hx hy
  obtain ⟨ok, hok⟩ : ∃ ok, okDev a b = ok := ⟨_, rfl⟩
  have HOK := Lib.hid hok
  rw [hok] at KV
  clear hok
  have HX1 := Lib.hid h1
  have HX2 := Lib.hid h2
  clear h1 h2
  go_enter Try.func23, Try.ntmps23
  go_wp2_with fail
  refine (right_v w H.out).mono ?_
  rintro e _ ⟨rfl, rfl⟩
  go_wp2_with fail
  refine KV.out.mono ?_
  rintro e w1 ⟨rfl, hb1⟩
  have H1 := Lib.hid (H.out.below hb1)
  have B1 := Lib.hid hb1
  have hz1 := hb1.size
  clear hb1 H KV
  unfold ekL
  go_wp2_with fail
  have B2 := Lib.hid (B1.out.alloc B1.out.size (.cells #[.int .i64 x, .int .i64 y] 67))
  have H2 := Lib.hid (H1.out.below ((Below.refl _ _).alloc (Nat.le_refl _) (.cells #[.int .i64 x, .int .i64 y] 67)))
  have h0 := heap_alloc_new w1 (.cells #[.int .i64 x, .int .i64 y] 67)
  have c0 : (w1.alloc (.cells #[.int .i64 x, .int .i64 y] 67)).cell? ⟨w1.heap.size, 0, none⟩ = some (.int .i64 x) := by rw [cell_of_row _ _ 0 _ _ _ h0]; rfl
  have c1 : (w1.alloc (.cells #[.int .i64 x, .int .i64 y] 67)).cell? ⟨w1.heap.size, 1, none⟩ = some (.int .i64 y) := by rw [cell_of_row _ _ 1 _ _ _ h0]; rfl
  have hz2 : w1.heap.size < (w1.alloc (.cells #[.int .i64 x, .int .i64 y] 67)).heap.size := by simp
  have KB := Lib.hid h0
  clear h0 H1 B1
  generalize w1.alloc (.cells #[.int .i64 x, .int .i64 y] 67) = w2 at *
  obtain ⟨up, hup⟩ : ∃ u, (s.link (x, y)).1 = u := ⟨_, rfl⟩
  obtain ⟨rn, hrn2⟩ : ∃ u, (s.link (x, y)).2 = u := ⟨_, rfl⟩
  have HU := Lib.hid hup
  have HN := Lib.hid hrn2
  have HLK : Hid (∀ V, NetIs V base g mb A n c vs s → (Instr.lookup 64 (.map (some mb)) (.agg #[.int .i64 x, .int .i64 y]) false).run Try.prog V = .ok (.agg #[.bool up, .int .u64 (rn : Int)]) V) := Lib.hid fun V hV => by
    have := hV.look x y HX1.out HX2.out
    rwa [hup, hrn2] at this
  clear hup hrn2
  refine wp_region_tree (SK.one 0 false <| .one 1 false <| .one 2 false <| .one 3 false <| .one 4 false <| .one 5 false <| .one 6 true <| .one 7 true .done) (fun V => V.cell? ⟨g, 0, none⟩ = some (.map (some mb)) ∧ V.cell? ⟨w1.heap.size, 0, none⟩ = some (.int .i64 x) ∧ V.cell? ⟨w1.heap.size, 1, none⟩ = some (.int .i64 y) ∧ (Instr.lookup 64 (.map (some mb)) (.agg #[.int .i64 x, .int .i64 y]) false).run Try.prog V = .ok (.agg #[.bool up, .int .u64 (rn : Int)]) V) (by kernel_rfl) (by kernel_rfl) (by kernel_rfl) (by kernel_rfl) ?_
  have H3 := Lib.hid H2.out.drew
  have B3 := Lib.hid B2.out.drew
  have hS : w2.drew.cell? ⟨g, 0, none⟩ = some (.map (some mb)) ∧ w2.drew.cell? ⟨w1.heap.size, 0, none⟩ = some (.int .i64 x) ∧ w2.drew.cell? ⟨w1.heap.size, 1, none⟩ = some (.int .i64 y) ∧ (Instr.lookup 64 (.map (some mb)) (.agg #[.int .i64 x, .int .i64 y]) false).run Try.prog w2.drew = .ok (.agg #[.bool up, .int .u64 (rn : Int)]) w2.drew := ⟨H3.out.c0, c0, c1, HLK.out _ H3.out⟩
  have hz2 : w1.heap.size < w2.drew.heap.size := hz2
  have KB0 := Lib.hid (show w2.drew.heap[w1.heap.size]? = some (.cells #[.int .i64 x, .int .i64 y] 67 (0, 0)) from KB.out)
  clear KB
  clear H2 B2 c0 c1
  generalize w2.drew = V0 at *
  ((first | (refine TR.val2 (v := ?_) _ (by simp only [List.getElem?_toArray, List.getElem?_cons_zero]; rfl) ?_ ?_ ?_ ?_ ?_; rotate_left; (focus rfl); (focus (intro W hSW; (try dsimp only at hSW); (try (obtain ⟨hS1, hSW⟩ := hSW)); (try (obtain ⟨hS2, hSW⟩ := hSW)); (try (obtain ⟨hS3, hSW⟩ := hSW)); (try (obtain ⟨hS4, hSW⟩ := hSW)); (try (obtain ⟨hS5, hSW⟩ := hSW)); (try (obtain ⟨hS6, hSW⟩ := hSW)); (try (obtain ⟨hS7, hSW⟩ := hSW)); (try (obtain ⟨hS8, hSW⟩ := hSW)); go_simp; (try with_reducible rfl); done)); (focus exact fun _ _ _ h => h); (focus assumption)) | (refine TR.skip _ (by simp only [List.getElem?_toArray, List.getElem?_cons_zero]; rfl) ?_ ?_ ?_ ?_; (focus rfl); (focus exact fun _ _ _ h => h); (focus assumption))); simp only [Act.put, List.setIfInBounds_toArray, List.set_cons_zero, List.set_cons_succ])
  iterate 5 ((first | (refine TR.val2 (v := ?_) _ (by simp only [List.getElem?_toArray, List.getElem?_cons_succ, List.getElem?_cons_zero]; rfl) ?_ ?_ ?_ ?_ ?_; rotate_left; (focus rfl); (focus (intro W hSW; (try dsimp only at hSW); (try (obtain ⟨hS1, hSW⟩ := hSW)); (try (obtain ⟨hS2, hSW⟩ := hSW)); (try (obtain ⟨hS3, hSW⟩ := hSW)); (try (obtain ⟨hS4, hSW⟩ := hSW)); (try (obtain ⟨hS5, hSW⟩ := hSW)); (try (obtain ⟨hS6, hSW⟩ := hSW)); (try (obtain ⟨hS7, hSW⟩ := hSW)); (try (obtain ⟨hS8, hSW⟩ := hSW)); go_simp; (try with_reducible rfl); done)); (focus exact fun _ _ _ h => h); (focus assumption)) | (refine TR.skip _ (by simp only [List.getElem?_toArray, List.getElem?_cons_succ, List.getElem?_cons_zero]; rfl) ?_ ?_ ?_ ?_; (focus rfl); (focus exact fun _ _ _ h => h); (focus assumption))); simp only [Act.put, List.setIfInBounds_toArray, List.set_cons_zero, List.set_cons_succ])
  refine TR.eff _ (by simp only [List.getElem?_toArray, List.getElem?_cons_succ, List.getElem?_cons_zero]; rfl) (by rfl) (fun K hK => ?_); go_simp
  have H4 := Lib.hid (H3.out.below ((Below.refl _ V0).alloc (Nat.le_refl _) (.cells #[.bool false, .int .u64 0] 71)))
  have hS2 : (V0.alloc (.cells #[.bool false, .int .u64 0] 71)).cell? ⟨g, 0, none⟩ = some (.map (some mb)) ∧ (V0.alloc (.cells #[.bool false, .int .u64 0] 71)).cell? ⟨w1.heap.size, 0, none⟩ = some (.int .i64 x) ∧ (V0.alloc (.cells #[.bool false, .int .u64 0] 71)).cell? ⟨w1.heap.size, 1, none⟩ = some (.int .i64 y) ∧ (Instr.lookup 64 (.map (some mb)) (.agg #[.int .i64 x, .int .i64 y]) false).run Try.prog (V0.alloc (.cells #[.bool false, .int .u64 0] 71)) = .ok (.agg #[.bool up, .int .u64 (rn : Int)]) (V0.alloc (.cells #[.bool false, .int .u64 0] 71)) := ⟨H4.out.c0, (cell_old _ _ _ _ hz2).trans hS.2.1, (cell_old _ _ _ _ hz2).trans hS.2.2.1, HLK.out _ H4.out⟩
  refine hK.out _ _ hS2 ?_
  clear hK hS
  (try simp only [Act.put, List.setIfInBounds_toArray, List.set_cons_zero, List.set_cons_succ])
  refine TR.eff _ (by simp only [List.getElem?_toArray, List.getElem?_cons_succ, List.getElem?_cons_zero]; rfl) (by rfl) (fun K hK => ?_)
  have h0 := heap_alloc_new V0 (.cells #[.bool false, .int .u64 0] 71)
  refine wp_store_row 71 (.tmp 9) (.tmp 24) rfl V0.heap.size #[.bool up, .int .u64 (rn : Int)] rfl rfl 71 _ h0 (by kernel_rfl) rfl (by simp [Value.oneCell']) ?_
  have hW := setRow_heap _ V0.heap.size _ #[.bool up, .int .u64 (rn : Int)] _ _ h0
  have B4 := Lib.hid (below_setRow (B3.out.alloc B3.out.size (.cells #[.bool false, .int .u64 0] 71)) B3.out.size #[.bool up, .int .u64 (rn : Int)])
  have H5 := Lib.hid (H3.out.below (below_setRow ((Below.refl _ V0).alloc (Nat.le_refl _) (.cells #[.bool false, .int .u64 0] 71)) (Nat.le_refl _) #[.bool up, .int .u64 (rn : Int)]))
  have c0 : ((V0.alloc (.cells #[.bool false, .int .u64 0] 71)).setRow V0.heap.size #[.bool up, .int .u64 (rn : Int)]).cell? ⟨w1.heap.size, 0, none⟩ = some (.int .i64 x) := (World.cell?_of_block (setRow_other _ _ _ _ (by show w1.heap.size ≠ V0.heap.size; omega))).trans hS2.2.1
  have c1 : ((V0.alloc (.cells #[.bool false, .int .u64 0] 71)).setRow V0.heap.size #[.bool up, .int .u64 (rn : Int)]).cell? ⟨w1.heap.size, 1, none⟩ = some (.int .i64 y) := (World.cell?_of_block (setRow_other _ _ _ _ (by show w1.heap.size ≠ V0.heap.size; omega))).trans hS2.2.2.1
  have KB3 := Lib.hid (show ((V0.alloc (.cells #[.bool false, .int .u64 0] 71)).setRow V0.heap.size #[.bool up, .int .u64 (rn : Int)]).heap[w1.heap.size]? = some (.cells #[.int .i64 x, .int .i64 y] 67 (0, 0)) from (setRow_other _ _ _ _ (by omega)).trans ((Below.heap_alloc V0 _ _ hz2).trans KB0.out))
  clear KB0
  have d0 : ((V0.alloc (.cells #[.bool false, .int .u64 0] 71)).setRow V0.heap.size #[.bool up, .int .u64 (rn : Int)]).cell? ⟨V0.heap.size, 0, none⟩ = some (.bool up) := by rw [cell_of_row _ _ 0 _ _ _ hW]; rfl
  have d1 : ((V0.alloc (.cells #[.bool false, .int .u64 0] 71)).setRow V0.heap.size #[.bool up, .int .u64 (rn : Int)]).cell? ⟨V0.heap.size, 1, none⟩ = some (.int .u64 (rn : Int)) := by rw [cell_of_row _ _ 1 _ _ _ hW]; rfl
  clear h0 hW hS2 H4
  generalize (V0.alloc (.cells #[.bool false, .int .u64 0] 71)).setRow V0.heap.size #[.bool up, .int .u64 (rn : Int)] = w3 at *
  refine hK.out _ _ ⟨H5.out.c0, c0, c1, HLK.out _ H5.out⟩ ?_
  clear hK
  refine TR.done ?_
  have b5 := NetCh.below B4.out g mb A n c
  have NN := Lib.hid b5
  clear b5
  cases ok
  · have HR := Lib.hid (show s.down a b = (2, s) by rw [NS.down, HOK.out]; rfl)
    go_wp2
    go_ret
    exact ⟨n, vs, by rw [HR.out]; rfl, by rw [HR.out]; exact H5.out, B4.out.mono hbs, NN.out⟩
  cases up
  · have HR := Lib.hid (show s.down a b = (9, s) by rw [NS.down, HOK.out, HK.out, HU.out]; rfl)
    go_wp2
    go_ret
    exact ⟨n, vs, by rw [HR.out]; rfl, by rw [HR.out]; exact H5.out, B4.out.mono hbs, NN.out⟩
  · have HR := Lib.hid (show s.down a b = (0, ⟨(s.set (x, y) (false, rn)).link, s.fl.filter (fun p => decide (keyI p.frm p.too ≠ (x, y))), s.last⟩) by rw [NS.down, HOK.out, HK.out, HU.out, HN.out]; rfl)
    have g0 := H5.out.c0
    have hk1 : w1.heap.size < w3.heap.size := (Array.getElem?_eq_some_iff.1 KB3.out).1
    obtain ⟨W', hr, H6, b6, n6, hz6⟩ := H5.out.drew.store x y HX1.out HX2.out (false, rn)
    simp only [] at hr
    have HH := Lib.hid H6
    have BB := Lib.hid ((B4.out.mono hbs).trans ((Below.refl base w3).drew.trans b6))
    have N6 := Lib.hid ((NetCh.below (B4.out.drew) g mb A n c).trans n6)
    have N6b := Lib.hid n6
    clear H6 b6 n6 HLK NN
    go_wp2
    go_still_tail 8, (by kernel_rfl)
    have hr : (Instr.mapUpdate 64 (.map (some mb)) (.agg #[.int .i64 x, .int .i64 y]) (.agg #[.bool false, .int .u64 (rn : Int)])).run Try.prog { heap := w3.heap, tape := w3.tape, drawn := w3.drawn + 1, os := w3.os, output := w3.output } = .ok () W' := hr
    have g1 := HH.out.c1
    go_wp2_with fail
    have KB4 := Lib.hid ((N6b.out.blk w1.heap.size hk1 (by omega) (by omega) (fun e => by have := (hol.out _ e).2; omega)).trans KB3.out)
    have hkw : w1.heap.size < W'.heap.size := (Array.getElem?_eq_some_iff.1 KB4.out).1
    refine (deleteF_v 45 [.pointer (some ⟨w1.heap.size, 0, none⟩)] (fun p => decide (keyI p.frm p.too = (x, y))) base A n c vs W' HH.out.hf (by omega) (fun args V => enters_of Try.func45 (by kernel_rfl) rfl args V)
      (fun v _ V hV => down1_v v x y w1.heap.size V ((hV.block _ hkw (fun e => by have := (hol.out _ e.symm).2; omega)).trans KB4.out))).mono ?_
    rintro e W2 ⟨m, rfl, hmn, hown, hgr⟩
    have HP := Lib.hid (show PkRow W2 base A m c (vs.filter fun v => !decide (keyI v.pk.frm v.pk.too = (x, y))) from ⟨hown, Nat.le_trans hmn HH.out.hf.hc, fun v hv => HH.out.bytes_keep hgr v ((List.mem_filter.1 hv).1)⟩)
    obtain ⟨H7, b7, n7⟩ := HH.out.newRow hgr HP.out (fun j hj => .inl (by cases A <;> exact hj))
    have HH7 := Lib.hid H7
    have BB7 := Lib.hid (BB.out.trans b7)
    have NN7 := Lib.hid (N6.out.trans n7)
    have HFL := Lib.hid (show (vs.filter fun v => !decide (keyI v.pk.frm v.pk.too = (x, y))).map (·.pk) = s.fl.filter (fun p => decide (keyI p.frm p.too ≠ (x, y))) by
      rw [← H5.out.hv, List.filter_map]
      congr 1
      apply List.filter_congr
      intro v _
      simp)
    have hgW : W2.heap[g]? = W'.heap[g]? := hgr.block g HH.out.lt (fun e => by have := (HH.out.rowm e.symm).2; exact this rfl)
    have g2 : W2.cell? ⟨g, 1, none⟩ = some (.slice A n c) := (World.cell?_of_block hgW).trans g1
    have f2 : W2.frozen? ⟨g, 1, none⟩ = false := frozen_of_row W2 g 1 _ _ (hgW.trans HH.out.hg)
    clear H7 b7 n7 hown hgr hgW g1
    go_wp2
    go_ret
    refine ⟨m, vs.filter fun v => !decide (keyI v.pk.frm v.pk.too = (x, y)), by rw [HR.out]; rfl, ?_, BB7.out, NN7.out⟩
    have := HH7.out
    rw [HFL.out] at this
    rw [HR.out]
    exact this
end Go.Proofs.Ythajlhifgafpkaa
