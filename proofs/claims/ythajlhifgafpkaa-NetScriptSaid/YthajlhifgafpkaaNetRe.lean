/-
  Nets, the reference: put.
-/
import Derived.Test.YthajlhifgafpkaaNetRd
namespace Go.Proofs.Ythajlhifgafpkaa
open Go.RowKit Go.Shelf
/-- A net of the reference, whatever its rows. -/
def RNy (W : World) (base g : Nat) (AL : Option Addr) (nl cl : Nat) (A : Option Addr) (n c : Nat) (s : NS) : Prop := ∃ vs, RNx W base g AL nl cl A n c vs s
section
variable {W W' : World} {base g nl cl n c n' c' : Nat} {AL A A' : Option Addr} {LL : List Lk} {vs vs' : List PkV} {s : NS}
theorem RN.setLast (h : RN W base g AL nl cl LL A n c vs s) (q : Nat) : RN (W.setCell ⟨g, 2, none⟩ (.int .u64 (q : Int))) base g AL nl cl LL A n c vs ⟨s.link, s.fl, q⟩ := by
  obtain ⟨a1, a2, a3, a4⟩ := h.apart
  have hset : ∀ j, j ≠ g → (W.setCell ⟨g, 2, none⟩ (.int .u64 (q : Int))).heap[j]? = W.heap[j]? := fun j hj => Below.heap_setCell W _ _ j hj
  exact ⟨heap_setCell_same W g 2 _ _ _ h.hg, own_keep h.hl (fun j hj => hset j (fun e => a1 (e ▸ hj))), h.hlc, h.hk, h.hf.keep (fun j hj => hset j (fun e => a2 (e ▸ hj))) (fun v hv j hj => hset j (a4 v hv j hj).1), h.hv, h.b1⟩
theorem RN.bytes_keep (h : RN W base g AL nl cl LL A n c vs s) (hgr : W.grownBy W' (Value.slice A n c).ownBlock) : ∀ v ∈ vs, BOwn W' base v.a v.len v.cap v.pk.bytes ∧ v.len ≤ 262144 := fun v hv =>
  ⟨(h.hf.bytes v hv).1.keep fun j hj => hgr.block j (h.hf.blt v hv j hj).2 fun e => (h.apart.2.2.2 v hv j hj).2.2 e.symm, (h.hf.bytes v hv).2⟩
theorem RN.newRow (h : RN W base g AL nl cl LL A n c vs s) (hgr : W.grownBy W' (Value.slice A n c).ownBlock) (hp : PkRow W' base A' n' c' vs') (hat : ∀ j, (Value.slice A' n' c').ownBlock = some j → (Value.slice A n c).ownBlock = some j ∨ W.heap.size ≤ j) :
    RN (W'.setCell ⟨g, 1, none⟩ (.slice A' n' c')) base g AL nl cl LL A' n' c' vs' ⟨s.link, vs'.map (·.pk), s.last⟩ ∧ Below base W (W'.setCell ⟨g, 1, none⟩ (.slice A' n' c')) ∧ RCh g AL nl cl A n c AL nl cl A' n' c' W (W'.setCell ⟨g, 1, none⟩ (.slice A' n' c')) := by
  obtain ⟨a1, a2, a3, a4⟩ := h.apart
  have hset : ∀ j, j ≠ g → (W'.setCell ⟨g, 1, none⟩ (.slice A' n' c')).heap[j]? = W'.heap[j]? := fun j hj => Below.heap_setCell W' _ _ j hj
  have hgW : W'.heap[g]? = W.heap[g]? := hgr.block g h.lt (fun e => a2 e.symm)
  have hb0 : base ≤ W.heap.size := Nat.le_of_lt (Nat.lt_of_le_of_lt h.b1 h.lt)
  refine ⟨⟨heap_setCell_same W' g 1 _ _ _ (hgW.trans h.hg), own_keep h.hl (fun j hj => (hset j (fun e => a1 (e ▸ hj))).trans (hgr.block j (h.hl.lt j hj).2 (fun e => a3 j hj e.symm))), h.hlc, h.hk, hp.keep (fun j hj => hset j (fun e => ?_)) (fun v hv j hj => hset j (fun e => ?_)), rfl, h.b1⟩, ?_, ⟨Nat.le_trans hgr.size (by simp [World.setCell]), fun j hj h1 _ h3 => (hset j h1).trans (hgr.block j hj fun e => h3 e.symm), fun j hj => .inl hj, hat⟩⟩
  · obtain ⟨cur, hc⟩ := hp.isCells hj
    rw [e, hgW, h.hg] at hc
    simp at hc
  · obtain ⟨cur, hc⟩ := (hp.bytes v hv).1.isCells hj
    rw [e, hgW, h.hg] at hc
    simp at hc
  · exact ((Below.refl base W).grown hgr hb0 (fun j hj => (h.hf.base_le j hj).1)).setCell h.b1 _
end
set_option maxRecDepth 100000 in
set_option maxHeartbeats 4000000 in
theorem rput_v {base g nl cl n c : Nat} {AL A : Option Addr} {vs : List PkV} {s : NS} (pn : Nat) (pf pt : Int) (pr : Nat) (pb : List UInt8) (va : Option Addr) (vl vc B : Nat) (w : World) (h : RNx w base g AL nl cl A n c vs s) (hn : n < 4096) (hl : s.last < 1000000000) (hb : ∀ W' : World, (∀ j, j < w.heap.size → j ≠ g → W'.heap[j]? = w.heap[j]?) → BReads W' B va vl pb) (hB : B ≤ w.heap.size) (hbl : vl ≤ 262144) :
    Calls Try.prog 61 #[.pointer (some ⟨g, 0, none⟩), .agg #[.int .u64 (pn : Int), .int .i64 pf, .int .i64 pt, .int .u64 (pr : Int), .slice va vl vc]] w fun e w' => e = .returned (.int .u64 ((s.last + 1 : Nat) : Int)) ∧ ∃ A' c', RNy w' base g AL nl cl A' (n + 1) c' (s.put pf pt pr pb) ∧ Below base w w' ∧ RCh g AL nl cl A n c AL nl cl A' (n + 1) c' w w' := by
  obtain ⟨LL, h⟩ := h
  have hgl := h.lt
  have hbs : base ≤ w.heap.size := Nat.le_of_lt (Nat.lt_of_le_of_lt h.b1 h.lt)
  obtain ⟨q, hq⟩ : ∃ q, s.last + 1 = q := ⟨_, rfl⟩
  have HQ := Lib.hid hq
  have e1 : IntKind.u64.wrap ((s.last : Int) + 1) = (q : Int) := by rw [← hq]; rw [IntWalk.u64_in _ (by omega)]; omega
  have e2 : (s.last : Int) + 1 = (q : Int) := by omega
  have HI := Lib.hid (show (Try.prog.info? 34).map (·.size) = some 5 by kernel_rfl)
  have HQ0 := Lib.hid (h.setLast q)
  have BA := (Below.refl w.heap.size w).alloc (Nat.le_refl _) (.cells #[.int .u64 (pn : Int), .int .i64 pf, .int .i64 pt, .int .u64 (pr : Int), .slice va vl vc] 34)
  have ha := h.below BA
  have c2 := ha.c2
  have f2 := ha.fr 2
  have R0 := heap_alloc_new w (.cells #[.int .u64 (pn : Int), .int .i64 pf, .int .i64 pt, .int .u64 (pr : Int), .slice va vl vc] 34)
  have hA := ha.hg
  go_enter Try.func61, Try.ntmps61
  go_upto_region 2 with fail
  -- the world behind the count
  have hqz : (w.setCell ⟨g, 2, none⟩ (.int .u64 (q : Int))).heap.size = w.heap.size := by simp [World.setCell]
  have BQ := (Below.refl (w.setCell ⟨g, 2, none⟩ (.int .u64 (q : Int))).heap.size (w.setCell ⟨g, 2, none⟩ (.int .u64 (q : Int)))).alloc (Nat.le_refl _) (.cells #[.int .u64 (pn : Int), .int .i64 pf, .int .i64 pt, .int .u64 (pr : Int), .slice va vl vc] 34)
  have hset : ∀ j, j ≠ g → (w.setCell ⟨g, 2, none⟩ (.int .u64 (q : Int))).heap[j]? = w.heap[j]? := fun j hj => Below.heap_setCell _ _ _ j hj
  have K1 := Lib.hid (show ∀ j, j < w.heap.size → ((w.setCell ⟨g, 2, none⟩ (.int .u64 (q : Int))).alloc (.cells #[.int .u64 (pn : Int), .int .i64 pf, .int .i64 pt, .int .u64 (pr : Int), .slice va vl vc] 34)).heap[j]? = (w.setCell ⟨g, 2, none⟩ (.int .u64 (q : Int))).heap[j]? from fun j hj => BQ.block j (by omega))
  have R1 := heap_alloc_new (w.setCell ⟨g, 2, none⟩ (.int .u64 (q : Int))) (.cells #[.int .u64 (pn : Int), .int .i64 pf, .int .i64 pt, .int .u64 (pr : Int), .slice va vl vc] 34)
  rw [hqz] at R1
  have R1 := Lib.hid R1
  have B1 := Lib.hid (((Below.refl base w).setCell (p := ⟨g, 2, none⟩) h.b1 (.int .u64 (q : Int))).trans (BQ.mono (by omega)))
  have hz1 : ((w.setCell ⟨g, 2, none⟩ (.int .u64 (q : Int))).alloc (.cells #[.int .u64 (pn : Int), .int .i64 pf, .int .i64 pt, .int .u64 (pr : Int), .slice va vl vc] 34)).heap.size = w.heap.size + 1 := by simp [World.setCell]
  have D1 := Lib.hid (hb ((w.setCell ⟨g, 2, none⟩ (.int .u64 (q : Int))).alloc (.cells #[.int .u64 (pn : Int), .int .i64 pf, .int .i64 pt, .int .u64 (pr : Int), .slice va vl vc] 34)) fun j hj hjg => (K1.out j hj).trans (hset j hjg))
  clear h BA ha c2 f2 R0 hA hset hb BQ
  generalize (w.setCell ⟨g, 2, none⟩ (.int .u64 (q : Int))).alloc (.cells #[.int .u64 (pn : Int), .int .i64 pf, .int .i64 pt, .int .u64 (pr : Int), .slice va vl vc] 34) = w1 at *
  go_wp2_with (first
    | (refine wpList_load_row rfl 34 (.tmp 3) rfl w.heap.size rfl 34 _ (0, 0) _ R1.out Try.underlying34 rfl HI.out ?_)
    | fail)
  refine (copied_v pn pf pt pr va vl vc B pb w1 D1.out (by omega) (by omega)).mono ?_
  rintro e w2 ⟨va2, vc2, rfl, o2, b2⟩
  have R2 := Lib.hid ((b2.block w.heap.size (by omega)).trans R1.out)
  have hz2 := b2.size
  have R3 := setRow_heap _ w.heap.size _ #[.int .u64 (pn : Int), .int .i64 pf, .int .i64 pt, .int .u64 (pr : Int), .slice va2 vl vc2] _ _ R2.out
  have hk3 : ∀ j, j ≠ w.heap.size → (w2.setRow w.heap.size #[.int .u64 (pn : Int), .int .i64 pf, .int .i64 pt, .int .u64 (pr : Int), .slice va2 vl vc2]).heap[j]? = w2.heap[j]? := fun j hj => setRow_other w2 w.heap.size j _ hj
  have H3 := HQ0.out.keep (W' := w2.setRow w.heap.size #[.int .u64 (pn : Int), .int .i64 pf, .int .i64 pt, .int .u64 (pr : Int), .slice va2 vl vc2]) (fun j hj => by
    have hj' : j < w.heap.size := by simpa [World.setCell] using hj
    exact ((hk3 j (by omega)).trans (b2.block j (by omega))).trans (K1.out j hj'))
  have c3 := H3.c2
  have p3 : (w2.setRow w.heap.size #[.int .u64 (pn : Int), .int .i64 pf, .int .i64 pt, .int .u64 (pr : Int), .slice va2 vl vc2]).cell? ⟨w.heap.size, 0, none⟩ = some (.int .u64 (pn : Int)) := by rw [cell_of_row _ _ 0 _ _ _ R3]; rfl
  have f3 := frozen_of_row (w2.setRow w.heap.size #[.int .u64 (pn : Int), .int .i64 pf, .int .i64 pt, .int .u64 (pr : Int), .slice va2 vl vc2]) w.heap.size 0 _ _ R3
  have hz3 : (w2.setRow w.heap.size #[.int .u64 (pn : Int), .int .i64 pf, .int .i64 pt, .int .u64 (pr : Int), .slice va2 vl vc2]).heap.size = w2.heap.size := by simp
  go_upto_region 4 with (first
    | (refine wpList_store_row rfl 34 (.tmp 3) (.tmp 13) rfl w.heap.size #[.int .u64 (pn : Int), .int .i64 pf, .int .i64 pt, .int .u64 (pr : Int), .slice va2 vl vc2] rfl rfl 34 _ R2.out HI.out rfl (by simp [Value.oneCell']) ?_)
    | fail)
  have hk4 : ∀ j, j ≠ w.heap.size → ((w2.setRow w.heap.size #[.int .u64 (pn : Int), .int .i64 pf, .int .i64 pt, .int .u64 (pr : Int), .slice va2 vl vc2]).setCell ⟨w.heap.size, 0, none⟩ (.int .u64 (q : Int))).heap[j]? = w2.heap[j]? := fun j hj => (Below.heap_setCell _ _ _ j hj).trans (hk3 j hj)
  have R4 : ((w2.setRow w.heap.size #[.int .u64 (pn : Int), .int .i64 pf, .int .i64 pt, .int .u64 (pr : Int), .slice va2 vl vc2]).setCell ⟨w.heap.size, 0, none⟩ (.int .u64 (q : Int))).heap[w.heap.size]? = some (.cells #[.int .u64 (q : Int), .int .i64 pf, .int .i64 pt, .int .u64 (pr : Int), .slice va2 vl vc2] 34 (0, 0)) := heap_setCell_same _ w.heap.size 0 _ _ _ R3
  have hz4 : ((w2.setRow w.heap.size #[.int .u64 (pn : Int), .int .i64 pf, .int .i64 pt, .int .u64 (pr : Int), .slice va2 vl vc2]).setCell ⟨w.heap.size, 0, none⟩ (.int .u64 (q : Int))).heap.size = w2.heap.size := by simp [World.setCell]
  have H1 := Lib.hid (HQ0.out.keep (W' := (w2.setRow w.heap.size #[.int .u64 (pn : Int), .int .i64 pf, .int .i64 pt, .int .u64 (pr : Int), .slice va2 vl vc2]).setCell ⟨w.heap.size, 0, none⟩ (.int .u64 (q : Int))) (fun j hj => by
    have hj' : j < w.heap.size := by simpa [World.setCell] using hj
    exact ((hk4 j (by omega)).trans (b2.block j (by omega))).trans (K1.out j hj')))
  have B4 := Lib.hid (((B1.out.trans (b2.mono (show base ≤ w1.heap.size by omega))).trans (below_setRow (Below.refl base w2) hbs #[.int .u64 (pn : Int), .int .i64 pf, .int .i64 pt, .int .u64 (pr : Int), .slice va2 vl vc2])).setCell (p := ⟨w.heap.size, 0, none⟩) hbs (.int .u64 (q : Int)))
  have V1 := Lib.hid ((o2.keep (W' := (w2.setRow w.heap.size #[.int .u64 (pn : Int), .int .i64 pf, .int .i64 pt, .int .u64 (pr : Int), .slice va2 vl vc2]).setCell ⟨w.heap.size, 0, none⟩ (.int .u64 (q : Int))) (fun j hj => hk4 j (by have := (o2.base_le j hj).1; omega))).down (base' := w.heap.size + 1) (by omega))
  have N1 := Lib.hid (show RCh g AL nl cl A n c AL nl cl A n c w ((w2.setRow w.heap.size #[.int .u64 (pn : Int), .int .i64 pf, .int .i64 pt, .int .u64 (pr : Int), .slice va2 vl vc2]).setCell ⟨w.heap.size, 0, none⟩ (.int .u64 (q : Int))) from ⟨by omega, fun j hj hg _ _ => by
    rw [hk4 j (by omega), b2.block j (by omega), K1.out j hj, Below.heap_setCell w _ _ j hg], fun j hj => .inl hj, fun j hj => .inl hj⟩)
  have R1 := Lib.hid R4
  have hz1 : w.heap.size < ((w2.setRow w.heap.size #[.int .u64 (pn : Int), .int .i64 pf, .int .i64 pt, .int .u64 (pr : Int), .slice va2 vl vc2]).setCell ⟨w.heap.size, 0, none⟩ (.int .u64 (q : Int))).heap.size := by omega
  have hne0 := Lib.hid (show (Value.slice A n c).ownBlock ≠ some w.heap.size from fun e => by have := (HQ0.out.hf.base_le _ e).2; simp [World.setCell] at this)
  clear R3 hk3 H3 c3 p3 f3 hz3 hk4 R4 hz4 o2 b2 D1
  generalize (w2.setRow w.heap.size #[.int .u64 (pn : Int), .int .i64 pf, .int .i64 pt, .int .u64 (pr : Int), .slice va2 vl vc2]).setCell ⟨w.heap.size, 0, none⟩ (.int .u64 (q : Int)) = w5 at *
  refine wp_region_F 10 [(0, 1), (1, 1), (2, 1), (3, 1), (4, 2), (5, 1), (6, 0), (7, 0), (8, 1), (9, 1), (10, 4)] (fun V => V.heap[w.heap.size]? = some (.cells #[.int .u64 (q : Int), .int .i64 pf, .int .i64 pt, .int .u64 (pr : Int), .slice va2 vl vc2] 34 (0, 0))) (fun V => V.cell? ⟨g, 1, none⟩ = some (.slice A n c)) (by kernel_rfl) (by kernel_rfl) (by kernel_rfl) (by kernel_rfl) (by kernel_rfl) (fun _ => ?_)
  simp only [outE, List.getElem?_cons_zero, List.getElem?_cons_succ, Option.getD_some]
  have H2 := Lib.hid (show RN w5.drew base g AL nl cl LL A n c vs ⟨s.link, s.fl, q⟩ from H1.out.keep fun _ _ => rfl)
  have B2 := Lib.hid B4.out.drew
  have N2 := Lib.hid (show RCh g AL nl cl A n c AL nl cl A n c w w5.drew from ⟨N1.out.size, N1.out.blk, N1.out.ownl, N1.out.own⟩)
  have V2 := Lib.hid V1.out.drew
  have hF : w5.drew.heap[w.heap.size]? = some (.cells #[.int .u64 (q : Int), .int .i64 pf, .int .i64 pt, .int .u64 (pr : Int), .slice va2 vl vc2] 34 (0, 0)) := R1.out
  have hG : w5.drew.cell? ⟨g, 1, none⟩ = some (.slice A n c) := H2.out.c1
  have hz2 : w.heap.size < w5.drew.heap.size := hz1
  clear H1 B1 B4 N1 V1 R1 hz1
  generalize w5.drew = W0 at *
  iterate 4 (refine TF.val1 (v := ?_) ?_ ?_ ?_ ?_ ?_ ?_; rotate_left; (focus rfl); (focus (intro W hSW; (try dsimp only at hSW); (try (obtain ⟨hS1, hSW⟩ := hSW)); (try (obtain ⟨hS2, hSW⟩ := hSW)); (try (obtain ⟨hS3, hSW⟩ := hSW)); (try (obtain ⟨hS4, hSW⟩ := hSW)); (try (obtain ⟨hS5, hSW⟩ := hSW)); (try (obtain ⟨hS6, hSW⟩ := hSW)); (try (obtain ⟨hS7, hSW⟩ := hSW)); (try (obtain ⟨hS8, hSW⟩ := hSW)); go_simp; (try with_reducible rfl); done)); (focus exact fun _ _ _ h => h); (focus exact hF); (focus exact hG); simp only [Act.put, List.setIfInBounds_toArray, List.set_cons_zero, List.set_cons_succ])
  iterate 1 (refine TF.val2 (v := ?_) ?_ ?_ ?_ ?_ ?_ ?_; rotate_left; (focus rfl); (focus (intro W hSW; (try dsimp only at hSW); (try (obtain ⟨hS1, hSW⟩ := hSW)); (try (obtain ⟨hS2, hSW⟩ := hSW)); (try (obtain ⟨hS3, hSW⟩ := hSW)); (try (obtain ⟨hS4, hSW⟩ := hSW)); (try (obtain ⟨hS5, hSW⟩ := hSW)); (try (obtain ⟨hS6, hSW⟩ := hSW)); (try (obtain ⟨hS7, hSW⟩ := hSW)); (try (obtain ⟨hS8, hSW⟩ := hSW)); go_simp; (try with_reducible rfl); done)); (focus exact fun _ _ _ h => h); (focus exact hF); (focus exact hG); simp only [Act.put, List.setIfInBounds_toArray, List.set_cons_zero, List.set_cons_succ])
  refine TF.val1 (v := .agg #[.int .u64 (q : Int), .int .i64 pf, .int .i64 pt, .int .u64 (pr : Int), .slice va2 vl vc2]) ?_ ?_ ?_ ?_ ?_ ?_
  (focus rfl)
  (focus exact fun V hV => exec_load_row 34 (.tmp 3) rfl w.heap.size rfl 34 _ (0, 0) _ hV Try.underlying34 rfl HI.out)
  (focus exact fun _ _ _ h => h)
  (focus exact hF)
  (focus exact hG)
  simp only [Act.put, List.setIfInBounds_toArray, List.set_cons_zero, List.set_cons_succ]
  refine TF.eff0 (by rfl) (fun K hK => ?_); go_simp
  have BA := Lib.hid ((Below.refl W0.heap.size W0).alloc (Nat.le_refl _) (.cells #[.int .u64 (q : Int), .int .i64 pf, .int .i64 pt, .int .u64 (pr : Int), .slice va2 vl vc2] 34))
  have H3 := Lib.hid (H2.out.below BA.out)
  have V3 := Lib.hid (V2.out.below BA.out)
  have B3 := Lib.hid (B2.out.trans (BA.out.mono (show base ≤ W0.heap.size by omega)))
  have N3 := Lib.hid (N2.out.trans (RCh.below BA.out g AL nl cl A n c))
  have hF3 := (BA.out.block w.heap.size hz2).trans hF
  have HNEW := Lib.hid (heap_alloc_new W0 (.cells #[.int .u64 (q : Int), .int .i64 pf, .int .i64 pt, .int .u64 (pr : Int), .slice va2 vl vc2] 34))
  refine hK.out _ _ hF3 H3.out.c1 ?_
  clear hK hF hG
  (try simp only [Act.put, List.setIfInBounds_toArray, List.set_cons_zero, List.set_cons_succ])
  have hz3 : W0.heap.size < (W0.alloc (.cells #[.int .u64 (q : Int), .int .i64 pf, .int .i64 pt, .int .u64 (pr : Int), .slice va2 vl vc2] 34)).heap.size := by simp
  clear BA H2 V2 B2 N2
  generalize W0.alloc (.cells #[.int .u64 (q : Int), .int .i64 pf, .int .i64 pt, .int .u64 (pr : Int), .slice va2 vl vc2] 34) = W1 at *
  obtain ⟨i0, hi, hy0, hy1, hy2⟩ := info_parts info_pk
  refine TF.eff0 (by rfl) (fun K hK => ?_)
  refine wp_append_any W1 (.tmp 23) (.tmp 25) 44 rfl base 34 i0 _ 5 56 Try.underlying44 hi hy0 hy1 hy2 rfl (by decide) (.slice A n c) n (vs.flatMap PkV.cells) rfl H3.out.hf.row (W0.heap.size + 1) (some ⟨W0.heap.size, 0, none⟩) 1 1 #[.int .u64 (q : Int), .int .i64 pf, .int .i64 pt, .int .u64 (pr : Int), .slice va2 vl vc2].toList rfl
    ⟨rfl, fun _ => ⟨_, rfl, Nat.lt_succ_self _, fun j u hu => by rw [add_lit2, Nat.zero_add, heap_cell HNEW.out]; simpa using hu⟩⟩ (by intro u hu; simp at hu; rcases hu with rfl | rfl | rfl | rfl | rfl <;> rfl) (by simp only [maxLen]; omega) (by omega) (by omega) ?_
  intro v' W2 hown hgr hat
  obtain ⟨A', c', rfl, hc'⟩ := own_shape hown
  have hF : W2.heap[w.heap.size]? = some (.cells #[.int .u64 (q : Int), .int .i64 pf, .int .i64 pt, .int .u64 (pr : Int), .slice va2 vl vc2] 34 (0, 0)) := (hgr.block w.heap.size (by omega) (fun e => hne0.out e.symm)).trans hF3
  have hgW : W2.heap[g]? = W1.heap[g]? := hgr.block g H3.out.lt (fun e => H3.out.apart.2.1 e.symm)
  have hG : W2.cell? ⟨g, 1, none⟩ = some (.slice A n c) := (World.cell?_of_block hgW).trans H3.out.c1
  have f2 : W2.frozen? ⟨g, 1, none⟩ = false := frozen_of_row W2 g 1 _ _ (hgW.trans H3.out.hg)
  have V4 : BOwn W2 base va2 vl vc2 pb := (V3.out.keep (fun j hj => hgr.block j (V3.out.base_le j hj).2 (fun e => by have h1 := (V3.out.base_le j hj).1; have h2 := (HQ0.out.hf.base_le _ e.symm).2; simp [World.setCell] at h2; omega))).down (by omega)
  have HP := Lib.hid (show PkRow W2 base A' (n + 1) c' (vs ++ [⟨⟨q, pf, pt, pr, pb⟩, va2, vl, vc2⟩]) from
    ⟨by rw [List.flatMap_append]; exact hown, hc', fun u hu => by
      rcases List.mem_append.1 hu with hu | hu
      · exact H3.out.bytes_keep hgr u hu
      · rw [List.mem_singleton.1 hu]; exact ⟨V4, hbl⟩⟩)
  obtain ⟨H5, b5, n5⟩ := H3.out.newRow hgr HP.out (fun j hj => by
    rcases hat with e | e
    · exact .inl (e ▸ hj)
    · exact .inr (by have := Option.some.inj (hj.symm.trans e); omega))
  have HH5 := Lib.hid H5
  have BB5 := Lib.hid (B3.out.trans b5)
  have NN5 := Lib.hid (N3.out.trans n5)
  have R5 : (W2.setCell ⟨g, 1, none⟩ (.slice A' (n + 1) c')).heap[w.heap.size]? = some (.cells #[.int .u64 (q : Int), .int .i64 pf, .int .i64 pt, .int .u64 (pr : Int), .slice va2 vl vc2] 34 (0, 0)) := (heap_setCell_other W2 ⟨g, 1, none⟩ w.heap.size _ (by show w.heap.size ≠ g; omega)).trans hF
  refine hK.out _ _ hF hG ?_
  clear hK hF3 H5 b5 n5 hown hat hgW HNEW V3
  (try simp only [Act.put, List.setIfInBounds_toArray, List.set_cons_zero, List.set_cons_succ])
  iterate 2 (refine TF.val1 (v := ?_) ?_ ?_ ?_ ?_ ?_ ?_; rotate_left; (focus rfl); (focus (intro W hSW; (try dsimp only at hSW); (try (obtain ⟨hS1, hSW⟩ := hSW)); (try (obtain ⟨hS2, hSW⟩ := hSW)); (try (obtain ⟨hS3, hSW⟩ := hSW)); (try (obtain ⟨hS4, hSW⟩ := hSW)); (try (obtain ⟨hS5, hSW⟩ := hSW)); (try (obtain ⟨hS6, hSW⟩ := hSW)); (try (obtain ⟨hS7, hSW⟩ := hSW)); (try (obtain ⟨hS8, hSW⟩ := hSW)); go_simp; (try with_reducible rfl); done)); (focus exact fun _ _ _ h => h); (focus exact hF); (focus exact hG); simp only [Act.put, List.setIfInBounds_toArray, List.set_cons_zero, List.set_cons_succ])
  refine TF.eff4 (by rfl) (fun K hK => ?_); go_simp
  refine hK.out _ _ R5 ?_
  clear hK
  (try simp only [Act.put, List.setIfInBounds_toArray, List.set_cons_zero, List.set_cons_succ])
  refine TF.done ?_
  have HFL := Lib.hid (show (vs ++ [(⟨⟨q, pf, pt, pr, pb⟩, va2, vl, vc2⟩ : PkV)]).map (·.pk) = s.fl ++ [⟨q, pf, pt, pr, pb⟩] by rw [List.map_append, H3.out.hv]; rfl)
  clear hF hG f2 V4 HP H3 B3 N3 hgr R5
  generalize W2.setCell ⟨g, 1, none⟩ (.slice A' (n + 1) c') = w5 at *
  have c5 := HH5.out.c2
  go_wp2_with fail
  have HPUT := Lib.hid (show (⟨s.link, (vs ++ [(⟨⟨q, pf, pt, pr, pb⟩, va2, vl, vc2⟩ : PkV)]).map (·.pk), q⟩ : NS) = s.put pf pt pr pb by rw [HFL.out]; simp only [NS.put, HQ.out])
  go_ret
  exact ⟨by first | rfl | (rw [← e2]; rfl) | (rw [HQ.out]; rfl), A', c', ⟨_, LL, by rw [← HPUT.out]; exact HH5.out⟩, BB5.out, NN5.out⟩
end Go.Proofs.Ythajlhifgafpkaa
