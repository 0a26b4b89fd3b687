/-
  Nets, the reference: the law's like.
-/
import Derived.Test.YthajlhifgafpkaaNetRi
namespace Go.Proofs.Ythajlhifgafpkaa
open Go.RowKit Go.Shelf
section
variable {W W' : World} {base g nl cl n c j nl' cl' n' c' : Nat} {AL A AL' A' : Option Addr} {s : NS} {cs : Array Value}
theorem RNy.setAns (h : RNy W base g AL nl cl A n c s) (hj : W.heap[j]? = some (.cells cs 47 (0, 0))) (new : Array Value) : RNy (W.setRow j new) base g AL nl cl A n c s := by
  obtain ⟨vs, LL, h⟩ := h
  refine ⟨vs, LL, h.keep' (setRow_other W j g new fun e => ?_) (fun i hi => setRow_other W j i new fun e => ?_) (fun i hi => setRow_other W j i new fun e => ?_) (fun v hv i hi => setRow_other W j i new fun e => ?_)⟩
  · have := h.hg
    rw [e, hj] at this
    simp at this
  · obtain ⟨cur, hc⟩ := own_cells' h.hl hi
    rw [e, hj] at hc
    simp at hc
  · obtain ⟨cur, hc⟩ := h.hf.isCells hi
    rw [e, hj] at hc
    simp at hc
  · obtain ⟨cur, hc⟩ := (h.hf.bytes v hv).1.isCells hi
    rw [e, hj] at hc
    simp at hc
theorem RCh.setAns (h : RCh g AL nl cl A n c AL' nl' cl' A' n' c' W W') (hj : W.heap.size ≤ j) (new : Array Value) : RCh g AL nl cl A n c AL' nl' cl' A' n' c' W (W'.setRow j new) :=
  ⟨by have := h.size; simpa using this, fun i hi h1 h2 h3 => (setRow_other W' j i new (by omega)).trans (h.blk i hi h1 h2 h3), h.ownl, h.own⟩
theorem RNy.facts (h : RNy W base g AL nl cl A n c s) : base ≤ g ∧ g < W.heap.size ∧ s.fl.length = n ∧ (∀ j, (Value.slice AL nl cl).ownBlock = some j → base ≤ j ∧ j < W.heap.size) ∧ (∀ j, (Value.slice A n c).ownBlock = some j → base ≤ j ∧ j < W.heap.size) := by
  obtain ⟨vs, LL, h⟩ := h
  exact ⟨h.b1, h.lt, h.len, h.hl.lt, h.hf.base_le⟩
end
theorem upy_v {base g nl cl n c : Nat} {AL A : Option Addr} {s : NS} (a b : Int) (w : World) (h : RNy w base g AL nl cl A n c s) (hnl : nl ≤ 1000000) (N : Nat) (hN : s.small N) (hN2 : N < 1000000) :
    Calls Try.prog 46 #[.pointer (some ⟨g, 0, none⟩), .int .i64 a, .int .i64 b] w fun e w' => e = .returned (.int .i64 ((s.up a b).1 : Int)) ∧ ∃ nl' : Nat, nl' ≤ nl + 1 ∧ ∃ (cl' : Nat) (AL' : Option Addr),
      RNy w' base g AL' nl' cl' A n c (s.up a b).2 ∧ Below base w w' ∧ RCh g AL nl cl A n c AL' nl' cl' A n c w w' := by
  obtain ⟨vs, LL, h⟩ := h
  refine (rup_v a b w h hnl N hN hN2).mono ?_
  rintro e w' ⟨he, nl', hl, cl', AL', h1, h2⟩
  exact ⟨he, nl', hl, cl', AL', ⟨vs, h1⟩, h2⟩
theorem rtake_ex {base g nl cl n c : Nat} {AL A : Option Addr} {s : NS} (num : Nat) (w : World) (h : RNy w base g AL nl cl A n c s) (hn : n ≤ 4096) :
    Calls Try.prog 48 #[.pointer (some ⟨g, 0, none⟩), .int .u64 (num : Int)] w fun e w' => ∃ va vl vc, e = .returned (.tuple #[.agg #[.int .u64 ((s.take num).1.1.num : Int), .int .i64 (s.take num).1.1.frm, .int .i64 (s.take num).1.1.too, .int .u64 ((s.take num).1.1.run : Int), .slice va vl vc], .int .i64 ((s.take num).1.2 : Int)]) ∧ BOwn w' base va vl vc (s.take num).1.1.bytes ∧ vl ≤ 262144 ∧ ∃ n' c' A',
      RNy w' base g AL nl cl A' n' c' (s.take num).2 ∧ Below base w w' ∧ RCh g AL nl cl A n c AL nl cl A' n' c' w w' := by
  refine (rtake_v num w h hn).mono ?_
  rintro e w' ⟨⟨vp, va, vl, vc⟩, he, ⟨e1, e2, e3⟩, h1⟩
  have e1 : vp = (s.take num).1.1 := e1
  subst e1
  exact ⟨va, vl, vc, he, e2, e3, h1⟩
set_option maxRecDepth 100000 in
set_option maxHeartbeats 16000000 in
theorem like_v {base g nl cl m c : Nat} {AL A : Option Addr} {s : NS} (k a b : Int) (n : Nat) (ba : Option Addr) (bl bc B N : Nat) (bs : List UInt8) (w : World) (h : RNy w base g AL nl cl A m c s) (hnl : nl ≤ 900000) (hr : BReads w B ba bl bs) (hB : B ≤ base) (hbl : bl ≤ 140737488355328)
    (hN : s.small N) (hN2 : N < 1000000) :
    Calls Try.prog 29 #[.pointer (some ⟨g, 0, none⟩), .agg #[.int .i64 k, .int .i64 a, .int .i64 b, .int .u64 (n : Int), .slice ba bl bc]] w fun e w' => ∃ va vl vc, e = .returned (.agg #[.int .u64 ((s.call k a b n bs).1.num : Int), .int .u64 ((s.call k a b n bs).1.pk.num : Int), .int .i64 (s.call k a b n bs).1.pk.frm, .int .i64 (s.call k a b n bs).1.pk.too, .int .u64 ((s.call k a b n bs).1.pk.run : Int), .slice va vl vc, .int .i64 ((s.call k a b n bs).1.err : Int)]) ∧ (BOwn w' base va vl vc (s.call k a b n bs).1.pk.bytes ∧ vl ≤ 262144) ∧
      ∃ nl' : Nat, nl' ≤ nl + 1 ∧ ∃ cl' AL' n' c' A', RNy w' base g AL' nl' cl' A' n' c' (s.call k a b n bs).2 ∧ Below base w w' ∧ RCh g AL nl cl A m c AL' nl' cl' A' n' c' w w' := by
  have HI := Lib.hid (show (Try.prog.info? 47).map (·.size) = some 7 by kernel_rfl)
  have PV := Lib.hid (fun W : World => pick_any k 6 W (by omega) (by omega))
  have R0 := heap_alloc2_new w (.cells #[.int .i64 k, .int .i64 a, .int .i64 b, .int .u64 (n : Int), .slice ba bl bc] 43) (.cells #[.int .u64 0, .int .u64 0, .int .i64 0, .int .i64 0, .int .u64 0, .slice none 0 0, .int .i64 0] 47)
  have A0 := heap_alloc2_old w (.cells #[.int .i64 k, .int .i64 a, .int .i64 b, .int .u64 (n : Int), .slice ba bl bc] 43) (.cells #[.int .u64 0, .int .u64 0, .int .i64 0, .int .i64 0, .int .u64 0, .slice none 0 0, .int .i64 0] 47)
  have B0 := ((Below.refl w.heap.size w).alloc (Nat.le_refl _) (.cells #[.int .i64 k, .int .i64 a, .int .i64 b, .int .u64 (n : Int), .slice ba bl bc] 43)).alloc (by simp) (.cells #[.int .u64 0, .int .u64 0, .int .i64 0, .int .i64 0, .int .u64 0, .slice none 0 0, .int .i64 0] 47)
  have hz : ((w.alloc (.cells #[.int .i64 k, .int .i64 a, .int .i64 b, .int .u64 (n : Int), .slice ba bl bc] 43)).alloc (.cells #[.int .u64 0, .int .u64 0, .int .i64 0, .int .i64 0, .int .u64 0, .slice none 0 0, .int .i64 0] 47)).heap.size = w.heap.size + 2 := by simp
  obtain ⟨f1, f2, f3, f4, f5⟩ := h.facts
  have hm : m ≤ 4096 := by rw [← f3]; exact hN.fl
  have hla : s.last < 1000000000 := by have := hN.last; omega
  have hbs : base ≤ w.heap.size := by omega
  have HGL := Lib.hid (show g < w.heap.size ∧ (∀ j, (Value.slice AL nl cl).ownBlock = some j → j < w.heap.size) ∧ ∀ j, (Value.slice A m c).ownBlock = some j → j < w.heap.size from ⟨f2, fun j hj => (f4 j hj).2, fun j hj => (f5 j hj).2⟩)
  have R2 := Lib.hid R0
  have A2 := Lib.hid A0
  have B2 := Lib.hid B0
  have H2 := Lib.hid (h.below B0)
  have RD := Lib.hid (Reads.below hr (B0.mono (Nat.le_trans hB hbs)))
  have HN := Lib.hid hN
  clear R0 A0 B0 hr h hN f1 f2 f3 f4 f5
  go_enter Try.func29, Try.ntmps29
  have c0 : ((w.alloc (.cells #[.int .i64 k, .int .i64 a, .int .i64 b, .int .u64 (n : Int), .slice ba bl bc] 43)).alloc (.cells #[.int .u64 0, .int .u64 0, .int .i64 0, .int .i64 0, .int .u64 0, .slice none 0 0, .int .i64 0] 47)).cell? ⟨w.heap.size, 0, none⟩ = some (.int .i64 k) := by rw [cell_of_row _ _ 0 _ _ _ A2.out]; rfl
  go_wp2_with fail
  generalize (w.alloc (.cells #[.int .i64 k, .int .i64 a, .int .i64 b, .int .u64 (n : Int), .slice ba bl bc] 43)).alloc (.cells #[.int .u64 0, .int .u64 0, .int .i64 0, .int .i64 0, .int .u64 0, .slice none 0 0, .int .i64 0] 47) = w2 at *
  have c1 : w2.cell? ⟨w.heap.size, 1, none⟩ = some (.int .i64 a) := by rw [cell_of_row _ _ 1 _ _ _ A2.out]; rfl
  have c2 : w2.cell? ⟨w.heap.size, 2, none⟩ = some (.int .i64 b) := by rw [cell_of_row _ _ 2 _ _ _ A2.out]; rfl
  have c3 : w2.cell? ⟨w.heap.size, 3, none⟩ = some (.int .u64 (n : Int)) := by rw [cell_of_row _ _ 3 _ _ _ A2.out]; rfl
  have c4 : w2.cell? ⟨w.heap.size, 4, none⟩ = some (.slice ba bl bc) := by rw [cell_of_row _ _ 4 _ _ _ A2.out]; rfl
  refine (PV.out w2).mono ?_
  rintro e _ ⟨rfl, rfl⟩
  have hq0 := Int.emod_nonneg k (show ((6 : Nat) : Int) ≠ 0 by omega)
  have hq1 := Int.emod_lt_of_pos k (show (0 : Int) < ((6 : Nat) : Int) by omega)
  obtain ⟨z, hzq⟩ : ∃ z : Int, k % ((6 : Nat) : Int) = z := ⟨_, rfl⟩
  have hq6 : z = 0 ∨ z = 1 ∨ z = 2 ∨ z = 3 ∨ z = 4 ∨ z = 5 := by omega
  have HK := Lib.hid (show k % 6 = z from hzq)
  rw [hzq]
  clear hq0 hq1 hzq PV
  rcases hq6 with rfl | rfl | rfl | rfl | rfl | rfl
  · skip
    have HR := Lib.hid (show s.call k a b n bs = (⟨0, zeroPk, (s.up a b).1⟩, (s.up a b).2) by unfold NS.call; rw [HK.out]; rfl)
    go_wp2_with fail
    refine (upy_v a b w2 H2.out (by omega) N HN.out hN2).mono ?_
    rintro e w3 ⟨rfl, nl3, hn3, cl3, AL3, h3, b3, n3⟩
    have R3 := Lib.hid ((n3.blk (w.heap.size + 1) (by omega) (by have := HGL.out.1; omega) (fun e => by have := HGL.out.2.1 _ e; omega) (fun e => by have := HGL.out.2.2 _ e; omega)).trans R2.out)
    have H3 := Lib.hid h3
    have B3 := Lib.hid ((B2.out.mono hbs).trans b3)
    have N3 := Lib.hid ((RCh.below B2.out g AL nl cl A m c).trans n3)
    clear h3 b3 n3
    go_wp2_with (first
      | (refine wpList_store_row rfl 47 (.tmp 4) (.tmp 22) rfl (w.heap.size + 1) #[.int .u64 0, .int .u64 0, .int .i64 0, .int .i64 0, .int .u64 0, .slice none 0 0, .int .i64 ((s.up a b).1 : Int)] rfl rfl 47 _ R3.out HI.out rfl (by simp [Value.oneCell']) ?_)
      | fail)
    have RW := Lib.hid (setRow_heap _ (w.heap.size + 1) _ #[.int .u64 0, .int .u64 0, .int .i64 0, .int .i64 0, .int .u64 0, .slice none 0 0, .int .i64 ((s.up a b).1 : Int)] _ _ R3.out)
    have HN3 := Lib.hid (H3.out.setAns R3.out #[.int .u64 0, .int .u64 0, .int .i64 0, .int .i64 0, .int .u64 0, .slice none 0 0, .int .i64 ((s.up a b).1 : Int)])
    have HB := Lib.hid (below_setRow B3.out (show base ≤ w.heap.size + 1 by omega) #[.int .u64 0, .int .u64 0, .int .i64 0, .int .i64 0, .int .u64 0, .slice none 0 0, .int .i64 ((s.up a b).1 : Int)])
    have HCH := Lib.hid (N3.out.setAns (show w.heap.size ≤ w.heap.size + 1 by omega) #[.int .u64 0, .int .u64 0, .int .i64 0, .int .i64 0, .int .u64 0, .slice none 0 0, .int .i64 ((s.up a b).1 : Int)])
    exact bodyPost_ret (results_cell_row Try.results29 _ _ (w.heap.size + 1) _ #[.int .u64 0, .int .u64 0, .int .i64 0, .int .i64 0, .int .u64 0, .slice none 0 0, .int .i64 ((s.up a b).1 : Int)] _ _ rfl RW.out Try.underlying47 rfl HI.out) rfl ⟨none, 0, 0, by rw [HR.out]; rfl, by rw [HR.out]; exact ⟨BOwn.nil_ _ _, Nat.zero_le _⟩, nl3, hn3, _, _, _, _, _, by rw [HR.out]; exact HN3.out, HB.out, HCH.out⟩
  · skip
    have HR := Lib.hid (show s.call k a b n bs = (⟨0, zeroPk, (s.down a b).1⟩, (s.down a b).2) by unfold NS.call; rw [HK.out]; rfl)
    go_wp2_with fail
    refine (rdown_v a b w2 H2.out (by omega) hm).mono ?_
    rintro e w3 ⟨rfl, nl3, hn3, cl3, AL3, n9, c9, A9, h3, b3, n3⟩
    have R3 := Lib.hid ((n3.blk (w.heap.size + 1) (by omega) (by have := HGL.out.1; omega) (fun e => by have := HGL.out.2.1 _ e; omega) (fun e => by have := HGL.out.2.2 _ e; omega)).trans R2.out)
    have H3 := Lib.hid h3
    have B3 := Lib.hid ((B2.out.mono hbs).trans b3)
    have N3 := Lib.hid ((RCh.below B2.out g AL nl cl A m c).trans n3)
    clear h3 b3 n3
    go_wp2_with (first
      | (refine wpList_store_row rfl 47 (.tmp 4) (.tmp 31) rfl (w.heap.size + 1) #[.int .u64 0, .int .u64 0, .int .i64 0, .int .i64 0, .int .u64 0, .slice none 0 0, .int .i64 ((s.down a b).1 : Int)] rfl rfl 47 _ R3.out HI.out rfl (by simp [Value.oneCell']) ?_)
      | fail)
    have RW := Lib.hid (setRow_heap _ (w.heap.size + 1) _ #[.int .u64 0, .int .u64 0, .int .i64 0, .int .i64 0, .int .u64 0, .slice none 0 0, .int .i64 ((s.down a b).1 : Int)] _ _ R3.out)
    have HN3 := Lib.hid (H3.out.setAns R3.out #[.int .u64 0, .int .u64 0, .int .i64 0, .int .i64 0, .int .u64 0, .slice none 0 0, .int .i64 ((s.down a b).1 : Int)])
    have HB := Lib.hid (below_setRow B3.out (show base ≤ w.heap.size + 1 by omega) #[.int .u64 0, .int .u64 0, .int .i64 0, .int .i64 0, .int .u64 0, .slice none 0 0, .int .i64 ((s.down a b).1 : Int)])
    have HCH := Lib.hid (N3.out.setAns (show w.heap.size ≤ w.heap.size + 1 by omega) #[.int .u64 0, .int .u64 0, .int .i64 0, .int .i64 0, .int .u64 0, .slice none 0 0, .int .i64 ((s.down a b).1 : Int)])
    exact bodyPost_ret (results_cell_row Try.results29 _ _ (w.heap.size + 1) _ #[.int .u64 0, .int .u64 0, .int .i64 0, .int .i64 0, .int .u64 0, .slice none 0 0, .int .i64 ((s.down a b).1 : Int)] _ _ rfl RW.out Try.underlying47 rfl HI.out) rfl ⟨none, 0, 0, by rw [HR.out]; rfl, by rw [HR.out]; exact ⟨BOwn.nil_ _ _, Nat.zero_le _⟩, nl3, hn3, _, _, _, _, _, by rw [HR.out]; exact HN3.out, HB.out, HCH.out⟩
  · skip
    have HR := Lib.hid (show s.call k a b n bs = (⟨0, (s.take n).1.1, (s.take n).1.2⟩, (s.take n).2) by unfold NS.call; rw [HK.out]; rfl)
    go_wp2_with fail
    refine (rtake_ex n w2 H2.out hm).mono ?_
    rintro e w3 ⟨va, vl, vc, rfl, ho3, hl3, n9, c9, A9, h3, b3, n3⟩
    have HI5 := Lib.hid (show (Try.prog.info? 34).map (·.size) = some 5 by kernel_rfl)
    have R2' := Lib.hid ((n3.blk (w.heap.size + 1) (by omega) (by have := HGL.out.1; omega) (fun e => by have := HGL.out.2.1 _ e; omega) (fun e => by have := HGL.out.2.2 _ e; omega)).trans R2.out)
    have hz3 := n3.size
    have P4 := Lib.hid (heap_alloc_new w3 (.cells #[.int .u64 ((s.take n).1.1.num : Int), .int .i64 (s.take n).1.1.frm, .int .i64 (s.take n).1.1.too, .int .u64 ((s.take n).1.1.run : Int), .slice va vl vc] 34))
    have BA := Lib.hid ((Below.refl w3.heap.size w3).alloc (Nat.le_refl _) (.cells #[.int .u64 ((s.take n).1.1.num : Int), .int .i64 (s.take n).1.1.frm, .int .i64 (s.take n).1.1.too, .int .u64 ((s.take n).1.1.run : Int), .slice va vl vc] 34))
    have R3 := Lib.hid ((BA.out.block (w.heap.size + 1) (by omega)).trans R2'.out)
    have H3 := Lib.hid (h3.below BA.out)
    have O3 := Lib.hid (ho3.below BA.out)
    have B3 := Lib.hid (((B2.out.mono hbs).trans b3).alloc (by omega) (.cells #[.int .u64 ((s.take n).1.1.num : Int), .int .i64 (s.take n).1.1.frm, .int .i64 (s.take n).1.1.too, .int .u64 ((s.take n).1.1.run : Int), .slice va vl vc] 34))
    have N3 := Lib.hid (((RCh.below B2.out g AL nl cl A m c).trans n3).trans (RCh.below BA.out _ _ _ _ _ _ _))
    clear h3 b3 n3 ho3 BA R2'
    go_wp2_with (first
      | (refine wpList_load_row rfl 34 (.tmp 5) rfl w3.heap.size rfl 34 #[.int .u64 ((s.take n).1.1.num : Int), .int .i64 (s.take n).1.1.frm, .int .i64 (s.take n).1.1.too, .int .u64 ((s.take n).1.1.run : Int), .slice va vl vc] (0, 0) _ P4.out Try.underlying34 rfl HI5.out ?_)
      | (refine wpList_store_row rfl 47 (.tmp 4) (.tmp 43) rfl (w.heap.size + 1) #[.int .u64 0, .int .u64 ((s.take n).1.1.num : Int), .int .i64 (s.take n).1.1.frm, .int .i64 (s.take n).1.1.too, .int .u64 ((s.take n).1.1.run : Int), .slice va vl vc, .int .i64 ((s.take n).1.2 : Int)] rfl rfl 47 _ R3.out HI.out rfl (by simp [Value.oneCell']) ?_)
      | fail)
    have O4 := Lib.hid (O3.out.setAns R3.out #[.int .u64 0, .int .u64 ((s.take n).1.1.num : Int), .int .i64 (s.take n).1.1.frm, .int .i64 (s.take n).1.1.too, .int .u64 ((s.take n).1.1.run : Int), .slice va vl vc, .int .i64 ((s.take n).1.2 : Int)])
    have RW := Lib.hid (setRow_heap _ (w.heap.size + 1) _ #[.int .u64 0, .int .u64 ((s.take n).1.1.num : Int), .int .i64 (s.take n).1.1.frm, .int .i64 (s.take n).1.1.too, .int .u64 ((s.take n).1.1.run : Int), .slice va vl vc, .int .i64 ((s.take n).1.2 : Int)] _ _ R3.out)
    have HN3 := Lib.hid (H3.out.setAns R3.out #[.int .u64 0, .int .u64 ((s.take n).1.1.num : Int), .int .i64 (s.take n).1.1.frm, .int .i64 (s.take n).1.1.too, .int .u64 ((s.take n).1.1.run : Int), .slice va vl vc, .int .i64 ((s.take n).1.2 : Int)])
    have HB := Lib.hid (below_setRow B3.out (show base ≤ w.heap.size + 1 by omega) #[.int .u64 0, .int .u64 ((s.take n).1.1.num : Int), .int .i64 (s.take n).1.1.frm, .int .i64 (s.take n).1.1.too, .int .u64 ((s.take n).1.1.run : Int), .slice va vl vc, .int .i64 ((s.take n).1.2 : Int)])
    have HCH := Lib.hid (N3.out.setAns (show w.heap.size ≤ w.heap.size + 1 by omega) #[.int .u64 0, .int .u64 ((s.take n).1.1.num : Int), .int .i64 (s.take n).1.1.frm, .int .i64 (s.take n).1.1.too, .int .u64 ((s.take n).1.1.run : Int), .slice va vl vc, .int .i64 ((s.take n).1.2 : Int)])
    exact bodyPost_ret (results_cell_row Try.results29 _ _ (w.heap.size + 1) _ #[.int .u64 0, .int .u64 ((s.take n).1.1.num : Int), .int .i64 (s.take n).1.1.frm, .int .i64 (s.take n).1.1.too, .int .u64 ((s.take n).1.1.run : Int), .slice va vl vc, .int .i64 ((s.take n).1.2 : Int)] _ _ rfl RW.out Try.underlying47 rfl HI.out) rfl ⟨va, vl, vc, by rw [HR.out]; rfl, by rw [HR.out]; exact ⟨O4.out, hl3⟩, nl, Nat.le_succ _, _, _, _, _, _, by rw [HR.out]; exact HN3.out, HB.out, HCH.out⟩
  · skip
    have HR := Lib.hid (show s.call k a b n bs = (⟨0, zeroPk, (s.take n).1.2⟩, (s.take n).2) by unfold NS.call; rw [HK.out]; rfl)
    go_wp2_with fail
    refine (rdrop_v n w2 H2.out hm (by omega)).mono ?_
    rintro e w3 ⟨rfl, n9, c9, A9, h3, b3, n3⟩
    have R3 := Lib.hid ((n3.blk (w.heap.size + 1) (by omega) (by have := HGL.out.1; omega) (fun e => by have := HGL.out.2.1 _ e; omega) (fun e => by have := HGL.out.2.2 _ e; omega)).trans R2.out)
    have H3 := Lib.hid h3
    have B3 := Lib.hid ((B2.out.mono hbs).trans b3)
    have N3 := Lib.hid ((RCh.below B2.out g AL nl cl A m c).trans n3)
    clear h3 b3 n3
    go_wp2_with (first
      | (refine wpList_store_row rfl 47 (.tmp 4) (.tmp 50) rfl (w.heap.size + 1) #[.int .u64 0, .int .u64 0, .int .i64 0, .int .i64 0, .int .u64 0, .slice none 0 0, .int .i64 ((s.take n).1.2 : Int)] rfl rfl 47 _ R3.out HI.out rfl (by simp [Value.oneCell']) ?_)
      | fail)
    have RW := Lib.hid (setRow_heap _ (w.heap.size + 1) _ #[.int .u64 0, .int .u64 0, .int .i64 0, .int .i64 0, .int .u64 0, .slice none 0 0, .int .i64 ((s.take n).1.2 : Int)] _ _ R3.out)
    have HN3 := Lib.hid (H3.out.setAns R3.out #[.int .u64 0, .int .u64 0, .int .i64 0, .int .i64 0, .int .u64 0, .slice none 0 0, .int .i64 ((s.take n).1.2 : Int)])
    have HB := Lib.hid (below_setRow B3.out (show base ≤ w.heap.size + 1 by omega) #[.int .u64 0, .int .u64 0, .int .i64 0, .int .i64 0, .int .u64 0, .slice none 0 0, .int .i64 ((s.take n).1.2 : Int)])
    have HCH := Lib.hid (N3.out.setAns (show w.heap.size ≤ w.heap.size + 1 by omega) #[.int .u64 0, .int .u64 0, .int .i64 0, .int .i64 0, .int .u64 0, .slice none 0 0, .int .i64 ((s.take n).1.2 : Int)])
    exact bodyPost_ret (results_cell_row Try.results29 _ _ (w.heap.size + 1) _ #[.int .u64 0, .int .u64 0, .int .i64 0, .int .i64 0, .int .u64 0, .slice none 0 0, .int .i64 ((s.take n).1.2 : Int)] _ _ rfl RW.out Try.underlying47 rfl HI.out) rfl ⟨none, 0, 0, by rw [HR.out]; rfl, by rw [HR.out]; exact ⟨BOwn.nil_ _ _, Nat.zero_le _⟩, nl, Nat.le_succ _, _, _, _, _, _, by rw [HR.out]; exact HN3.out, HB.out, HCH.out⟩
  · skip
    have HR := Lib.hid (show s.call k a b n bs = (⟨(s.twice n).1.1, zeroPk, (s.twice n).1.2⟩, (s.twice n).2) by unfold NS.call; rw [HK.out]; rfl)
    go_wp2_with fail
    refine (rtwice_v n w2 H2.out hm hla).mono ?_
    rintro e w3 ⟨rfl, n9, c9, A9, h3, b3, n3⟩
    have R3 := Lib.hid ((n3.blk (w.heap.size + 1) (by omega) (by have := HGL.out.1; omega) (fun e => by have := HGL.out.2.1 _ e; omega) (fun e => by have := HGL.out.2.2 _ e; omega)).trans R2.out)
    have H3 := Lib.hid h3
    have B3 := Lib.hid ((B2.out.mono hbs).trans b3)
    have N3 := Lib.hid ((RCh.below B2.out g AL nl cl A m c).trans n3)
    clear h3 b3 n3
    go_wp2_with (first
      | (refine wpList_store_row rfl 47 (.tmp 4) (.tmp 62) rfl (w.heap.size + 1) #[.int .u64 ((s.twice n).1.1 : Int), .int .u64 0, .int .i64 0, .int .i64 0, .int .u64 0, .slice none 0 0, .int .i64 ((s.twice n).1.2 : Int)] rfl rfl 47 _ R3.out HI.out rfl (by simp [Value.oneCell']) ?_)
      | fail)
    have RW := Lib.hid (setRow_heap _ (w.heap.size + 1) _ #[.int .u64 ((s.twice n).1.1 : Int), .int .u64 0, .int .i64 0, .int .i64 0, .int .u64 0, .slice none 0 0, .int .i64 ((s.twice n).1.2 : Int)] _ _ R3.out)
    have HN3 := Lib.hid (H3.out.setAns R3.out #[.int .u64 ((s.twice n).1.1 : Int), .int .u64 0, .int .i64 0, .int .i64 0, .int .u64 0, .slice none 0 0, .int .i64 ((s.twice n).1.2 : Int)])
    have HB := Lib.hid (below_setRow B3.out (show base ≤ w.heap.size + 1 by omega) #[.int .u64 ((s.twice n).1.1 : Int), .int .u64 0, .int .i64 0, .int .i64 0, .int .u64 0, .slice none 0 0, .int .i64 ((s.twice n).1.2 : Int)])
    have HCH := Lib.hid (N3.out.setAns (show w.heap.size ≤ w.heap.size + 1 by omega) #[.int .u64 ((s.twice n).1.1 : Int), .int .u64 0, .int .i64 0, .int .i64 0, .int .u64 0, .slice none 0 0, .int .i64 ((s.twice n).1.2 : Int)])
    exact bodyPost_ret (results_cell_row Try.results29 _ _ (w.heap.size + 1) _ #[.int .u64 ((s.twice n).1.1 : Int), .int .u64 0, .int .i64 0, .int .i64 0, .int .u64 0, .slice none 0 0, .int .i64 ((s.twice n).1.2 : Int)] _ _ rfl RW.out Try.underlying47 rfl HI.out) rfl ⟨none, 0, 0, by rw [HR.out]; rfl, by rw [HR.out]; exact ⟨BOwn.nil_ _ _, Nat.zero_le _⟩, nl, Nat.le_succ _, _, _, _, _, _, by rw [HR.out]; exact HN3.out, HB.out, HCH.out⟩
  · skip
    have HR := Lib.hid (show s.call k a b n bs = (⟨(s.send a b bs).1.1, zeroPk, (s.send a b bs).1.2⟩, (s.send a b bs).2) by unfold NS.call; rw [HK.out]; rfl)
    go_wp2_with fail
    refine (rsend_v a b ba bl bc B bs w2 H2.out (by omega) hm hla RD.out hB hbl).mono ?_
    rintro e w3 ⟨rfl, nl3, hn3, cl3, AL3, n9, c9, A9, h3, b3, n3⟩
    have R3 := Lib.hid ((n3.blk (w.heap.size + 1) (by omega) (by have := HGL.out.1; omega) (fun e => by have := HGL.out.2.1 _ e; omega) (fun e => by have := HGL.out.2.2 _ e; omega)).trans R2.out)
    have H3 := Lib.hid h3
    have B3 := Lib.hid ((B2.out.mono hbs).trans b3)
    have N3 := Lib.hid ((RCh.below B2.out g AL nl cl A m c).trans n3)
    clear h3 b3 n3
    go_wp2_with (first
      | (refine wpList_store_row rfl 47 (.tmp 4) (.tmp 76) rfl (w.heap.size + 1) #[.int .u64 ((s.send a b bs).1.1 : Int), .int .u64 0, .int .i64 0, .int .i64 0, .int .u64 0, .slice none 0 0, .int .i64 ((s.send a b bs).1.2 : Int)] rfl rfl 47 _ R3.out HI.out rfl (by simp [Value.oneCell']) ?_)
      | fail)
    have RW := Lib.hid (setRow_heap _ (w.heap.size + 1) _ #[.int .u64 ((s.send a b bs).1.1 : Int), .int .u64 0, .int .i64 0, .int .i64 0, .int .u64 0, .slice none 0 0, .int .i64 ((s.send a b bs).1.2 : Int)] _ _ R3.out)
    have HN3 := Lib.hid (H3.out.setAns R3.out #[.int .u64 ((s.send a b bs).1.1 : Int), .int .u64 0, .int .i64 0, .int .i64 0, .int .u64 0, .slice none 0 0, .int .i64 ((s.send a b bs).1.2 : Int)])
    have HB := Lib.hid (below_setRow B3.out (show base ≤ w.heap.size + 1 by omega) #[.int .u64 ((s.send a b bs).1.1 : Int), .int .u64 0, .int .i64 0, .int .i64 0, .int .u64 0, .slice none 0 0, .int .i64 ((s.send a b bs).1.2 : Int)])
    have HCH := Lib.hid (N3.out.setAns (show w.heap.size ≤ w.heap.size + 1 by omega) #[.int .u64 ((s.send a b bs).1.1 : Int), .int .u64 0, .int .i64 0, .int .i64 0, .int .u64 0, .slice none 0 0, .int .i64 ((s.send a b bs).1.2 : Int)])
    exact bodyPost_ret (results_cell_row Try.results29 _ _ (w.heap.size + 1) _ #[.int .u64 ((s.send a b bs).1.1 : Int), .int .u64 0, .int .i64 0, .int .i64 0, .int .u64 0, .slice none 0 0, .int .i64 ((s.send a b bs).1.2 : Int)] _ _ rfl RW.out Try.underlying47 rfl HI.out) rfl ⟨none, 0, 0, by rw [HR.out]; rfl, by rw [HR.out]; exact ⟨BOwn.nil_ _ _, Nat.zero_le _⟩, nl3, hn3, _, _, _, _, _, by rw [HR.out]; exact HN3.out, HB.out, HCH.out⟩
end Go.Proofs.Ythajlhifgafpkaa
