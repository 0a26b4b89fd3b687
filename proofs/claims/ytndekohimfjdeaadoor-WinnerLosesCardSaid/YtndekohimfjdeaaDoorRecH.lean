/-
  Records: the kit's small records, and the question what is to be done and who wins.
-/
import Derived.Test.YtndekohimfjdeaaDoorRecG
namespace Go.Proofs.YtndekohimfjdeaaDoor
open Go.RowKit Go.Shelf
theorem own_empty (w : World) (e : TypeId) (K : Nat) : (w.alloc (.cells #[] e)).ownsRow w.heap.size e K (.slice (some ⟨w.heap.size, 0, none⟩) 0 0) 0 [] :=
  ⟨by simp, .inr ⟨w.heap.size, 0, #[], rfl, Nat.le_refl _, heap_alloc_new w _, Nat.le_refl _, by decide, by simp, by simp⟩⟩
theorem kat_v (d x : Int) (w : World) : Calls Tryd.prog 22 #[.int .i64 d, .int .u64 x] w fun e w' => e = .returned (.agg #[.int .i64 d, .int .u64 x]) ∧ Below w.heap.size w w' := by
  go_enter Tryd.func22, Tryd.ntmps22
  go_wp2
  go_returns
  exact ⟨rfl, (Below.refl _ _).alloc (Nat.le_refl _) _⟩
theorem clit (w : World) (l : List (Int × Nat)) (C : Array Value) (T : TypeId) (hC : C.toList = cntsC l) : CReads (w.alloc (.cells C T)) (w.heap.size + 1) (some ⟨w.heap.size, 0, none⟩) l.length l := by
  refine ⟨cntsC_len l, fun _ => ⟨_, rfl, Nat.lt_succ_self _, fun j u hu => ?_⟩⟩
  rw [← hC, Array.getElem?_toList] at hu
  rcases j with _ | j
  · rw [add_zero, World.cell?_alloc_at _ _ _ _ rfl]
    exact hu
  · rw [add_pos _ _ (by omega), World.cell?_alloc_at _ _ _ _ rfl]
    simpa using hu
set_option maxRecDepth 100000 in
set_option maxHeartbeats 8000000 in
theorem file_v (p : Bl) (dv : Int) (A : Option Addr) (n c B : Nat) (l : List (Int × Nat)) (w : World) (hr : CReads w B A n l) (hB : B ≤ w.heap.size) (hn : n ≤ 1000) :
    Calls Tryd.prog 42 #[.string (st p), .int .i64 dv, .slice A n c] w fun e w' => ∃ A1 c1, e = .returned (.agg #[.string (st p), .slice A1 n c1, .int .i64 dv, .bool false, .int .i64 4, .int .i64 0, .slice none 0 0]) ∧ COwn w' w.heap.size A1 n c1 l ∧ Below w.heap.size w w' := by
  have HI := Lib.hid (show (Tryd.prog.info? 27).map (·.size) = some 7 by kernel_rfl)
  have B0 := Lib.hid ((Below.refl w.heap.size w).alloc (Nat.le_refl _) (.cells #[.string ⟨#[]⟩, .slice none 0 0, .int .i64 0, .bool false, .int .i64 0, .int .i64 0, .slice none 0 0] 27))
  have Y0 := Lib.hid (heap_alloc_new w (.cells #[.string ⟨#[]⟩, .slice none 0 0, .int .i64 0, .bool false, .int .i64 0, .int .i64 0, .slice none 0 0] 27))
  have HR := Lib.hid hr
  clear hr
  go_enter Tryd.func42, Tryd.ntmps42
  go_upto_region 1 with fail
  have hz : (w.alloc (.cells #[.string ⟨#[]⟩, .slice none 0 0, .int .i64 0, .bool false, .int .i64 0, .int .i64 0, .slice none 0 0] 27)).heap.size = w.heap.size + 1 := by simp
  generalize w.alloc (.cells #[.string ⟨#[]⟩, .slice none 0 0, .int .i64 0, .bool false, .int .i64 0, .int .i64 0, .slice none 0 0] 27) = w0 at *
  have OE := own_empty w0 49 2
  have BE := (Below.refl w0.heap.size w0).alloc (Nat.le_refl _) (.cells #[] 49)
  have R1 := Lib.hid (show CReads (w0.alloc (.cells #[] 49)) B A n l from Reads.below (Reads.below HR.out (B0.out.mono hB)) (BE.mono (by omega)))
  have Y1 := Lib.hid ((BE.block w.heap.size (by omega)).trans Y0.out)
  have B1 := Lib.hid (B0.out.trans (BE.mono (by omega)))
  have hz1 : (w0.alloc (.cells #[] 49)).heap.size = w.heap.size + 2 := by simp [hz]
  rw [hz] at OE
  have O1 : Hid (COwn (w0.alloc (.cells #[] 49)) (w.heap.size + 1) (some ⟨w.heap.size + 1, 0, none⟩) 0 0 []) := Lib.hid ⟨OE, Nat.le_refl _⟩
  clear OE BE Y0 B0
  go_wp2_with (first
    | (at_builtin
       go_must (refine wpList_capp rfl (.tmp 8) (.tmp 9) 22 Tryd.underlying22 rfl (w.heap.size + 1) (some ⟨w.heap.size + 1, 0, none⟩) 0 0 [] rfl O1.out B A n c l rfl R1.out (by omega) (by simp [hz]) ?_)
       intro A1 c1 w1 ho hg
       go_must (
       rw [Nat.zero_add] at ho ⊢
       have Y2 := Lib.hid ((hg.block w.heap.size (by omega) (by simp [Value.ownBlock])).trans Y1.out)
       have B2 := B1.out.grown hg (by omega) (fun k hk => by simp [Value.ownBlock] at hk; omega)
       have XS := Lib.hid (setRow_heap w1 w.heap.size _ #[.string (st p), .slice A1 n c1, .int .i64 dv, .bool false, .int .i64 4, .int .i64 0, .slice none 0 0] _ _ Y2.out)
       have BS := Lib.hid (below_setRow B2 (Nat.le_refl _) #[.string (st p), .slice A1 n c1, .int .i64 dv, .bool false, .int .i64 4, .int .i64 0, .slice none 0 0])
       have OS := Lib.hid (show COwn (w1.setRow w.heap.size #[.string (st p), .slice A1 n c1, .int .i64 dv, .bool false, .int .i64 4, .int .i64 0, .slice none 0 0]) (w.heap.size + 1) A1 n c1 l from ⟨own_keep ho.1 (fun j hj => setRow_other _ _ _ _ (by have := (ho.1.lt j hj).1; omega)), ho.2⟩)))
    | (refine wpList_store_row rfl 27 (.tmp 6) (.tmp 13) rfl w.heap.size #[.string (st p), .slice A1 n c1, .int .i64 dv, .bool false, .int .i64 4, .int .i64 0, .slice none 0 0] rfl rfl 27 _ Y2.out HI.out rfl (by simp [Value.oneCell']) ?_)
    | fail)
  exact bodyPost_ret (results_cell_row Tryd.results42 _ _ w.heap.size _ #[.string (st p), .slice A1 n c1, .int .i64 dv, .bool false, .int .i64 4, .int .i64 0, .slice none 0 0] _ _ rfl XS.out Tryd.underlying27 rfl HI.out) rfl ⟨A1, c1, rfl, OS.out.down (by omega), BS.out⟩
set_option maxRecDepth 100000 in
set_option maxHeartbeats 8000000 in
theorem gone_v (p : Bl) (dv : Int) (A : Option Addr) (n c B : Nat) (l : List (Int × Nat)) (w : World) (hr : CReads w B A n l) (hB : B ≤ w.heap.size) (hn : n ≤ 1000) :
    Calls Tryd.prog 24 #[.string (st p), .int .i64 dv, .slice A n c] w fun e w' => ∃ A1 c1, e = .returned (.agg #[.string (st p), .slice A1 n c1, .int .i64 dv, .bool true, .int .i64 0, .int .i64 0, .slice none 0 0]) ∧ COwn w' w.heap.size A1 n c1 l ∧ Below w.heap.size w w' := by
  have HI := Lib.hid (show (Tryd.prog.info? 27).map (·.size) = some 7 by kernel_rfl)
  have B0 := Lib.hid ((Below.refl w.heap.size w).alloc (Nat.le_refl _) (.cells #[.string ⟨#[]⟩, .slice none 0 0, .int .i64 0, .bool false, .int .i64 0, .int .i64 0, .slice none 0 0] 27))
  have Y0 := Lib.hid (heap_alloc_new w (.cells #[.string ⟨#[]⟩, .slice none 0 0, .int .i64 0, .bool false, .int .i64 0, .int .i64 0, .slice none 0 0] 27))
  have HR := Lib.hid hr
  clear hr
  go_enter Tryd.func24, Tryd.ntmps24
  go_upto_region 1 with fail
  have hz : (w.alloc (.cells #[.string ⟨#[]⟩, .slice none 0 0, .int .i64 0, .bool false, .int .i64 0, .int .i64 0, .slice none 0 0] 27)).heap.size = w.heap.size + 1 := by simp
  generalize w.alloc (.cells #[.string ⟨#[]⟩, .slice none 0 0, .int .i64 0, .bool false, .int .i64 0, .int .i64 0, .slice none 0 0] 27) = w0 at *
  have OE := own_empty w0 49 2
  have BE := (Below.refl w0.heap.size w0).alloc (Nat.le_refl _) (.cells #[] 49)
  have R1 := Lib.hid (show CReads (w0.alloc (.cells #[] 49)) B A n l from Reads.below (Reads.below HR.out (B0.out.mono hB)) (BE.mono (by omega)))
  have Y1 := Lib.hid ((BE.block w.heap.size (by omega)).trans Y0.out)
  have B1 := Lib.hid (B0.out.trans (BE.mono (by omega)))
  have hz1 : (w0.alloc (.cells #[] 49)).heap.size = w.heap.size + 2 := by simp [hz]
  rw [hz] at OE
  have O1 : Hid (COwn (w0.alloc (.cells #[] 49)) (w.heap.size + 1) (some ⟨w.heap.size + 1, 0, none⟩) 0 0 []) := Lib.hid ⟨OE, Nat.le_refl _⟩
  clear OE BE Y0 B0
  go_wp2_with (first
    | (at_builtin
       go_must (refine wpList_capp rfl (.tmp 8) (.tmp 9) 22 Tryd.underlying22 rfl (w.heap.size + 1) (some ⟨w.heap.size + 1, 0, none⟩) 0 0 [] rfl O1.out B A n c l rfl R1.out (by omega) (by simp [hz]) ?_)
       intro A1 c1 w1 ho hg
       go_must (
       rw [Nat.zero_add] at ho ⊢
       have Y2 := Lib.hid ((hg.block w.heap.size (by omega) (by simp [Value.ownBlock])).trans Y1.out)
       have B2 := B1.out.grown hg (by omega) (fun k hk => by simp [Value.ownBlock] at hk; omega)
       have XS := Lib.hid (setRow_heap w1 w.heap.size _ #[.string (st p), .slice A1 n c1, .int .i64 dv, .bool true, .int .i64 0, .int .i64 0, .slice none 0 0] _ _ Y2.out)
       have BS := Lib.hid (below_setRow B2 (Nat.le_refl _) #[.string (st p), .slice A1 n c1, .int .i64 dv, .bool true, .int .i64 0, .int .i64 0, .slice none 0 0])
       have OS := Lib.hid (show COwn (w1.setRow w.heap.size #[.string (st p), .slice A1 n c1, .int .i64 dv, .bool true, .int .i64 0, .int .i64 0, .slice none 0 0]) (w.heap.size + 1) A1 n c1 l from ⟨own_keep ho.1 (fun j hj => setRow_other _ _ _ _ (by have := (ho.1.lt j hj).1; omega)), ho.2⟩)))
    | (refine wpList_store_row rfl 27 (.tmp 6) (.tmp 12) rfl w.heap.size #[.string (st p), .slice A1 n c1, .int .i64 dv, .bool true, .int .i64 0, .int .i64 0, .slice none 0 0] rfl rfl 27 _ Y2.out HI.out rfl (by simp [Value.oneCell']) ?_)
    | fail)
  exact bodyPost_ret (results_cell_row Tryd.results24 _ _ w.heap.size _ #[.string (st p), .slice A1 n c1, .int .i64 dv, .bool true, .int .i64 0, .int .i64 0, .slice none 0 0] _ _ rfl XS.out Tryd.underlying27 rfl HI.out) rfl ⟨A1, c1, rfl, OS.out.down (by omega), BS.out⟩
/-- A digest that begins with a byte. -/
def dg1 (b : Nat) : Dg := ⟨b :: List.replicate 31 0, rfl⟩
theorem dg1_reads {W : World} {g B b : Nat} {t : TypeId} {fr : Nat × Nat} (h : W.heap[g]? = some (.cells #[.int .u8 (b : Int), .int .u8 0, .int .u8 0, .int .u8 0, .int .u8 0, .int .u8 0, .int .u8 0, .int .u8 0, .int .u8 0, .int .u8 0, .int .u8 0, .int .u8 0, .int .u8 0, .int .u8 0, .int .u8 0, .int .u8 0, .int .u8 0, .int .u8 0, .int .u8 0, .int .u8 0, .int .u8 0, .int .u8 0, .int .u8 0, .int .u8 0, .int .u8 0, .int .u8 0, .int .u8 0, .int .u8 0, .int .u8 0, .int .u8 0, .int .u8 0, .int .u8 0] t fr)) (hg : g < B) : DReads W B (some ⟨g, 0, none⟩) 1 [dg1 b] := by
  refine ⟨rfl, fun _ => ⟨_, rfl, hg, fun j u hu => ?_⟩⟩
  refine rcells_at (o := 0) h (fun j v hv => ?_) j u hu
  rw [Nat.zero_add, List.getElem?_toArray]
  exact hv
set_option maxRecDepth 100000 in
set_option maxHeartbeats 8000000 in
theorem filled_v (p : Bl) (dv : Int) (b : Nat) (A : Option Addr) (n c B : Nat) (l : List (Int × Nat)) (w : World) (hr : CReads w B A n l) (hB : B ≤ w.heap.size) (hn : n ≤ 1000) :
    Calls Tryd.prog 23 #[.string (st p), .int .i64 dv, .int .u8 (b : Int), .slice A n c] w fun e w' => ∃ A1 c1 D1, e = .returned (.agg #[.string (st p), .slice A1 n c1, .int .i64 dv, .bool false, .int .i64 4, .int .i64 3, .slice D1 1 1]) ∧ COwn w' w.heap.size A1 n c1 l ∧ DReads w' w'.heap.size D1 1 [dg1 b] ∧ Below w.heap.size w w' := by
  have HI := Lib.hid (show (Tryd.prog.info? 27).map (·.size) = some 7 by kernel_rfl)
  have B0 := Lib.hid ((Below.refl w.heap.size w).alloc (Nat.le_refl _) (.cells #[.string ⟨#[]⟩, .slice none 0 0, .int .i64 0, .bool false, .int .i64 0, .int .i64 0, .slice none 0 0] 27))
  have Y0 := Lib.hid (heap_alloc_new w (.cells #[.string ⟨#[]⟩, .slice none 0 0, .int .i64 0, .bool false, .int .i64 0, .int .i64 0, .slice none 0 0] 27))
  have HR := Lib.hid hr
  clear hr
  go_enter Tryd.func23, Tryd.ntmps23
  go_upto_region 1 with fail
  have hz : (w.alloc (.cells #[.string ⟨#[]⟩, .slice none 0 0, .int .i64 0, .bool false, .int .i64 0, .int .i64 0, .slice none 0 0] 27)).heap.size = w.heap.size + 1 := by simp
  generalize w.alloc (.cells #[.string ⟨#[]⟩, .slice none 0 0, .int .i64 0, .bool false, .int .i64 0, .int .i64 0, .slice none 0 0] 27) = w0 at *
  go_wp2_with fail
  refine (file_v p dv A n c B l w0 (Reads.below HR.out (B0.out.mono hB)) (by omega) hn).mono ?_
  rintro e w1 ⟨A1, c1, rfl, hc1, hb1⟩
  have B1 := Lib.hid (B0.out.trans (hb1.mono (by omega)))
  have Y1 := Lib.hid ((hb1.block w.heap.size (by omega)).trans Y0.out)
  have hz1 : w.heap.size + 1 ≤ w1.heap.size := by have := hb1.size; omega
  have C1 := Lib.hid hc1
  clear hc1 hb1 Y0 B0
  go_upto_region 2 with fail
  have hz2 : (w1.alloc (.cells #[.string (st p), .slice A1 n c1, .int .i64 dv, .bool false, .int .i64 4, .int .i64 0, .slice none 0 0] 27)).heap.size = w1.heap.size + 1 := by simp
  have Z2 := Lib.hid (heap_alloc_new w1 (.cells #[.string (st p), .slice A1 n c1, .int .i64 dv, .bool false, .int .i64 4, .int .i64 0, .slice none 0 0] 27))
  have b2 := (Below.refl w1.heap.size w1).alloc (Nat.le_refl _) (.cells #[.string (st p), .slice A1 n c1, .int .i64 dv, .bool false, .int .i64 4, .int .i64 0, .slice none 0 0] 27)
  generalize w1.alloc (.cells #[.string (st p), .slice A1 n c1, .int .i64 dv, .bool false, .int .i64 4, .int .i64 0, .slice none 0 0] 27) = w2 at *
  have k5 : w2.cell? ⟨w1.heap.size, 5, none⟩ = some (.int .i64 0) := by rw [cell_of_row _ _ 5 _ _ _ Z2.out]; rfl
  have f5 := frozen_of_row _ w1.heap.size 5 _ _ Z2.out
  have X4 : (w2.setCell ⟨w1.heap.size, 5, none⟩ (.int .i64 3)).heap[w1.heap.size]? = some (.cells #[.string (st p), .slice A1 n c1, .int .i64 dv, .bool false, .int .i64 4, .int .i64 3, .slice none 0 0] 27 (0, 0)) := heap_setCell_same _ w1.heap.size 5 _ _ (.int .i64 3) Z2.out
  have k6 : (w2.setCell ⟨w1.heap.size, 5, none⟩ (.int .i64 3)).cell? ⟨w1.heap.size, 6, none⟩ = some (.slice none 0 0) := by rw [cell_of_row _ _ 6 _ _ _ X4]; rfl
  have f6 := frozen_of_row _ w1.heap.size 6 _ _ X4
  have X5' : ((w2.setCell ⟨w1.heap.size, 5, none⟩ (.int .i64 3)).setCell ⟨w1.heap.size, 6, none⟩ (.slice (some ⟨w1.heap.size + 1, 0, none⟩) 1 1)).heap[w1.heap.size]? = some (.cells #[.string (st p), .slice A1 n c1, .int .i64 dv, .bool false, .int .i64 4, .int .i64 3, .slice (some ⟨w1.heap.size + 1, 0, none⟩) 1 1] 27 (0, 0)) := heap_setCell_same _ w1.heap.size 6 _ _ (.slice (some ⟨w1.heap.size + 1, 0, none⟩) 1 1) X4
  have hv5 : ((w2.setCell ⟨w1.heap.size, 5, none⟩ (.int .i64 3)).setCell ⟨w1.heap.size, 6, none⟩ (.slice (some ⟨w1.heap.size + 1, 0, none⟩) 1 1)).heap.size = w1.heap.size + 1 := by simp [hz2]
  have X5 := Lib.hid (show (((w2.setCell ⟨w1.heap.size, 5, none⟩ (.int .i64 3)).setCell ⟨w1.heap.size, 6, none⟩ (.slice (some ⟨w1.heap.size + 1, 0, none⟩) 1 1)).alloc (.cells #[.int .u8 (b : Int), .int .u8 0, .int .u8 0, .int .u8 0, .int .u8 0, .int .u8 0, .int .u8 0, .int .u8 0, .int .u8 0, .int .u8 0, .int .u8 0, .int .u8 0, .int .u8 0, .int .u8 0, .int .u8 0, .int .u8 0, .int .u8 0, .int .u8 0, .int .u8 0, .int .u8 0, .int .u8 0, .int .u8 0, .int .u8 0, .int .u8 0, .int .u8 0, .int .u8 0, .int .u8 0, .int .u8 0, .int .u8 0, .int .u8 0, .int .u8 0, .int .u8 0] 71)).heap[w1.heap.size]? = some (.cells #[.string (st p), .slice A1 n c1, .int .i64 dv, .bool false, .int .i64 4, .int .i64 3, .slice (some ⟨w1.heap.size + 1, 0, none⟩) 1 1] 27 (0, 0)) from (Below.heap_alloc _ (.cells #[.int .u8 (b : Int), .int .u8 0, .int .u8 0, .int .u8 0, .int .u8 0, .int .u8 0, .int .u8 0, .int .u8 0, .int .u8 0, .int .u8 0, .int .u8 0, .int .u8 0, .int .u8 0, .int .u8 0, .int .u8 0, .int .u8 0, .int .u8 0, .int .u8 0, .int .u8 0, .int .u8 0, .int .u8 0, .int .u8 0, .int .u8 0, .int .u8 0, .int .u8 0, .int .u8 0, .int .u8 0, .int .u8 0, .int .u8 0, .int .u8 0, .int .u8 0, .int .u8 0] 71) w1.heap.size (by omega)).trans X5')
  have b4 := (b2.setCell (p := ⟨w1.heap.size, 5, none⟩) (Nat.le_refl _) (.int .i64 3)).setCell (p := ⟨w1.heap.size, 6, none⟩) (Nat.le_refl _) (.slice (some ⟨w1.heap.size + 1, 0, none⟩) 1 1)
  have b5 := Lib.hid (b4.alloc b4.size (.cells #[.int .u8 (b : Int), .int .u8 0, .int .u8 0, .int .u8 0, .int .u8 0, .int .u8 0, .int .u8 0, .int .u8 0, .int .u8 0, .int .u8 0, .int .u8 0, .int .u8 0, .int .u8 0, .int .u8 0, .int .u8 0, .int .u8 0, .int .u8 0, .int .u8 0, .int .u8 0, .int .u8 0, .int .u8 0, .int .u8 0, .int .u8 0, .int .u8 0, .int .u8 0, .int .u8 0, .int .u8 0, .int .u8 0, .int .u8 0, .int .u8 0, .int .u8 0, .int .u8 0] 71))
  have h5 : (((w2.setCell ⟨w1.heap.size, 5, none⟩ (.int .i64 3)).setCell ⟨w1.heap.size, 6, none⟩ (.slice (some ⟨w1.heap.size + 1, 0, none⟩) 1 1)).alloc (.cells #[.int .u8 (b : Int), .int .u8 0, .int .u8 0, .int .u8 0, .int .u8 0, .int .u8 0, .int .u8 0, .int .u8 0, .int .u8 0, .int .u8 0, .int .u8 0, .int .u8 0, .int .u8 0, .int .u8 0, .int .u8 0, .int .u8 0, .int .u8 0, .int .u8 0, .int .u8 0, .int .u8 0, .int .u8 0, .int .u8 0, .int .u8 0, .int .u8 0, .int .u8 0, .int .u8 0, .int .u8 0, .int .u8 0, .int .u8 0, .int .u8 0, .int .u8 0, .int .u8 0] 71)).heap[w1.heap.size + 1]? = some (.cells #[.int .u8 (b : Int), .int .u8 0, .int .u8 0, .int .u8 0, .int .u8 0, .int .u8 0, .int .u8 0, .int .u8 0, .int .u8 0, .int .u8 0, .int .u8 0, .int .u8 0, .int .u8 0, .int .u8 0, .int .u8 0, .int .u8 0, .int .u8 0, .int .u8 0, .int .u8 0, .int .u8 0, .int .u8 0, .int .u8 0, .int .u8 0, .int .u8 0, .int .u8 0, .int .u8 0, .int .u8 0, .int .u8 0, .int .u8 0, .int .u8 0, .int .u8 0, .int .u8 0] 71 (0, 0)) := by
    have e := heap_alloc_new ((w2.setCell ⟨w1.heap.size, 5, none⟩ (.int .i64 3)).setCell ⟨w1.heap.size, 6, none⟩ (.slice (some ⟨w1.heap.size + 1, 0, none⟩) 1 1)) (.cells #[.int .u8 (b : Int), .int .u8 0, .int .u8 0, .int .u8 0, .int .u8 0, .int .u8 0, .int .u8 0, .int .u8 0, .int .u8 0, .int .u8 0, .int .u8 0, .int .u8 0, .int .u8 0, .int .u8 0, .int .u8 0, .int .u8 0, .int .u8 0, .int .u8 0, .int .u8 0, .int .u8 0, .int .u8 0, .int .u8 0, .int .u8 0, .int .u8 0, .int .u8 0, .int .u8 0, .int .u8 0, .int .u8 0, .int .u8 0, .int .u8 0, .int .u8 0, .int .u8 0] 71)
    rwa [hv5] at e
  have H5 := Lib.hid h5
  have hz5 : w1.heap.size + 2 ≤ (((w2.setCell ⟨w1.heap.size, 5, none⟩ (.int .i64 3)).setCell ⟨w1.heap.size, 6, none⟩ (.slice (some ⟨w1.heap.size + 1, 0, none⟩) 1 1)).alloc (.cells #[.int .u8 (b : Int), .int .u8 0, .int .u8 0, .int .u8 0, .int .u8 0, .int .u8 0, .int .u8 0, .int .u8 0, .int .u8 0, .int .u8 0, .int .u8 0, .int .u8 0, .int .u8 0, .int .u8 0, .int .u8 0, .int .u8 0, .int .u8 0, .int .u8 0, .int .u8 0, .int .u8 0, .int .u8 0, .int .u8 0, .int .u8 0, .int .u8 0, .int .u8 0, .int .u8 0, .int .u8 0, .int .u8 0, .int .u8 0, .int .u8 0, .int .u8 0, .int .u8 0] 71)).heap.size := by have := (Array.getElem?_eq_some_iff.1 h5).1; omega
  have Y5 := Lib.hid ((b5.out.block w.heap.size (by omega)).trans Y1.out)
  clear Z2 b2 b4 X4 X5' h5 hv5
  go_upto_region 3 with fail
  generalize (((w2.setCell ⟨w1.heap.size, 5, none⟩ (.int .i64 3)).setCell ⟨w1.heap.size, 6, none⟩ (.slice (some ⟨w1.heap.size + 1, 0, none⟩) 1 1)).alloc (.cells #[.int .u8 (b : Int), .int .u8 0, .int .u8 0, .int .u8 0, .int .u8 0, .int .u8 0, .int .u8 0, .int .u8 0, .int .u8 0, .int .u8 0, .int .u8 0, .int .u8 0, .int .u8 0, .int .u8 0, .int .u8 0, .int .u8 0, .int .u8 0, .int .u8 0, .int .u8 0, .int .u8 0, .int .u8 0, .int .u8 0, .int .u8 0, .int .u8 0, .int .u8 0, .int .u8 0, .int .u8 0, .int .u8 0, .int .u8 0, .int .u8 0, .int .u8 0, .int .u8 0] 71)) = w5 at *
  have XS := Lib.hid (setRow_heap w5 w.heap.size _ #[.string (st p), .slice A1 n c1, .int .i64 dv, .bool false, .int .i64 4, .int .i64 3, .slice (some ⟨w1.heap.size + 1, 0, none⟩) 1 1] _ _ Y5.out)
  have BS := Lib.hid (below_setRow (B1.out.trans (b5.out.mono (by omega))) (Nat.le_refl _) #[.string (st p), .slice A1 n c1, .int .i64 dv, .bool false, .int .i64 4, .int .i64 3, .slice (some ⟨w1.heap.size + 1, 0, none⟩) 1 1])
  have CS := Lib.hid (show COwn (w5.setRow w.heap.size #[.string (st p), .slice A1 n c1, .int .i64 dv, .bool false, .int .i64 4, .int .i64 3, .slice (some ⟨w1.heap.size + 1, 0, none⟩) 1 1]) w0.heap.size A1 n c1 l from by
    have ho := C1.out.below b5.out
    exact ⟨own_keep ho.1 (fun j hj => setRow_other _ _ _ _ (by have := (ho.1.lt j hj).1; omega)), ho.2⟩)
  go_wp2_with (first
    | (refine wpList_load_row rfl 27 (.tmp 9) rfl w1.heap.size rfl 27 _ (0, 0) _ X5.out Tryd.underlying27 rfl HI.out ?_)
    | (refine wpList_store_row rfl 27 (.tmp 8) (.tmp 21) rfl w.heap.size #[.string (st p), .slice A1 n c1, .int .i64 dv, .bool false, .int .i64 4, .int .i64 3, .slice (some ⟨w1.heap.size + 1, 0, none⟩) 1 1] rfl rfl 27 _ Y5.out HI.out rfl (by simp [Value.oneCell']) ?_)
    | fail)
  have hzS : (w5.setRow w.heap.size #[.string (st p), .slice A1 n c1, .int .i64 dv, .bool false, .int .i64 4, .int .i64 3, .slice (some ⟨w1.heap.size + 1, 0, none⟩) 1 1]).heap.size = w5.heap.size := by simp [World.setRow]
  exact bodyPost_ret (results_cell_row Tryd.results23 _ _ w.heap.size _ #[.string (st p), .slice A1 n c1, .int .i64 dv, .bool false, .int .i64 4, .int .i64 3, .slice (some ⟨w1.heap.size + 1, 0, none⟩) 1 1] _ _ rfl XS.out Tryd.underlying27 rfl HI.out) rfl ⟨A1, c1, _, rfl, CS.out.down (by omega), dg1_reads ((setRow_other w5 w.heap.size _ _ (by omega)).trans H5.out) (by rw [hzS]; omega), BS.out⟩
end Go.Proofs.YtndekohimfjdeaaDoor
