/-
  Winner, the reference: Settle.
  Records: the same version (the reference), the same record (the kit), behind; which of many wins.
  Winner: what is settled, in plain Lean.
  Winner: which of many wins.
  Winner, the reference: Of.
  Maps with keys of any kind (integers, arrays, structs): a block that reads as a list of keys and values; look-up, store, removal, length.
  Winner: a place for a conflict copy: the numbers that are tried.
  Paths, the reference: Split, Ending, Within, Temp, Temped, joined.
-/
import Derived.Test.YtndekohimfjdeaaGreatDoorJ1
import Derived.Test.YtndekohimfjdeaaGreatDoorJ2
import Derived.Test.YtndekohimfjdeaaGreatDoorJ3
import Derived.Test.YtndekohimfjdeaaGreatDoorJ4
import Derived.Test.YtndekohimfjdeaaGreatDoorJ5
import Derived.WideKeyArr
import Derived.DeepKeys4
import Derived.Maps.Own
import Derived.Maps.OwnOps
import Derived.Maps.OwnSet
import Derived.RangeFuncNested
import Derived.RangeFuncBound
import Derived.RangeFuncCalls
import Derived.RangeFuncLeaves
import Derived.RangeFuncFrom
import Derived.Shelf.Abstract
import Derived.Shelf.RegionOpen
import Derived.OwnWalkIn
import Derived.TacticsInMore
import Derived.LoopNIn
import Derived.LoopIn
namespace Go.Proofs.YtndekohimfjdeaaGreatDoor
open Go.RowKit Go.Shelf
set_option maxRecDepth 100000 in
set_option maxHeartbeats 16000000 in
theorem rsettle_v (r q : Rcd) (a b : RSh) (B : Nat) (w : World) (hr : RReads w B r a) (hq : RReads w B q b) (hB : B ≤ w.heap.size) :
    Calls Tryz.prog 12 #[.agg #[.string (st r.path), .slice a.A a.n a.c, .int .i64 r.dev, .bool r.gone, .int .i64 r.size, .int .i64 r.len, .slice a.D a.m a.k], .agg #[.string (st q.path), .slice b.A b.n b.c, .int .i64 q.dev, .bool q.gone, .int .i64 q.size, .int .i64 q.len, .slice b.D b.m b.k]] w fun e w' => ∃ x : RSh, e = .returned (.tuple #[.agg #[.string (st (setR r q).1.path), .slice x.A x.n x.c, .int .i64 (setR r q).1.dev, .bool (setR r q).1.gone, .int .i64 (setR r q).1.size, .int .i64 (setR r q).1.len, .slice x.D x.m x.k], .int .i64 ((setR r q).2 : Int)]) ∧ RReads w' w'.heap.size (setR r q).1 x ∧ Below w.heap.size w w' := by
  have HI := Lib.hid (show (Tryz.prog.info? 27).map (·.size) = some 7 by kernel_rfl)
  have BA := Lib.hid ((((Below.refl w.heap.size w).alloc (Nat.le_refl _) (.cells #[.string (st r.path), .slice a.A a.n a.c, .int .i64 r.dev, .bool r.gone, .int .i64 r.size, .int .i64 r.len, .slice a.D a.m a.k] 27)).alloc (by simp) (.cells #[.string (st q.path), .slice b.A b.n b.c, .int .i64 q.dev, .bool q.gone, .int .i64 q.size, .int .i64 q.len, .slice b.D b.m b.k] 27)).alloc (by simp; omega) (.cells #[.string ⟨#[]⟩, .slice none 0 0, .int .i64 0, .bool false, .int .i64 0, .int .i64 0, .slice none 0 0] 27))
  have hz2 : ((w.alloc (.cells #[.string (st r.path), .slice a.A a.n a.c, .int .i64 r.dev, .bool r.gone, .int .i64 r.size, .int .i64 r.len, .slice a.D a.m a.k] 27)).alloc (.cells #[.string (st q.path), .slice b.A b.n b.c, .int .i64 q.dev, .bool q.gone, .int .i64 q.size, .int .i64 q.len, .slice b.D b.m b.k] 27)).heap.size = w.heap.size + 2 := by simp
  have X := Lib.hid ((Below.heap_alloc _ (.cells #[.string ⟨#[]⟩, .slice none 0 0, .int .i64 0, .bool false, .int .i64 0, .int .i64 0, .slice none 0 0] 27) w.heap.size (by omega)).trans (heap_alloc2_old w (.cells #[.string (st r.path), .slice a.A a.n a.c, .int .i64 r.dev, .bool r.gone, .int .i64 r.size, .int .i64 r.len, .slice a.D a.m a.k] 27) (.cells #[.string (st q.path), .slice b.A b.n b.c, .int .i64 q.dev, .bool q.gone, .int .i64 q.size, .int .i64 q.len, .slice b.D b.m b.k] 27)))
  have Y := Lib.hid ((Below.heap_alloc _ (.cells #[.string ⟨#[]⟩, .slice none 0 0, .int .i64 0, .bool false, .int .i64 0, .int .i64 0, .slice none 0 0] 27) (w.heap.size + 1) (by omega)).trans (heap_alloc2_new w (.cells #[.string (st r.path), .slice a.A a.n a.c, .int .i64 r.dev, .bool r.gone, .int .i64 r.size, .int .i64 r.len, .slice a.D a.m a.k] 27) (.cells #[.string (st q.path), .slice b.A b.n b.c, .int .i64 q.dev, .bool q.gone, .int .i64 q.size, .int .i64 q.len, .slice b.D b.m b.k] 27)))
  have Z := Lib.hid (show (((w.alloc (.cells #[.string (st r.path), .slice a.A a.n a.c, .int .i64 r.dev, .bool r.gone, .int .i64 r.size, .int .i64 r.len, .slice a.D a.m a.k] 27)).alloc (.cells #[.string (st q.path), .slice b.A b.n b.c, .int .i64 q.dev, .bool q.gone, .int .i64 q.size, .int .i64 q.len, .slice b.D b.m b.k] 27)).alloc (.cells #[.string ⟨#[]⟩, .slice none 0 0, .int .i64 0, .bool false, .int .i64 0, .int .i64 0, .slice none 0 0] 27)).heap[w.heap.size + 2]? = some (.cells #[.string ⟨#[]⟩, .slice none 0 0, .int .i64 0, .bool false, .int .i64 0, .int .i64 0, .slice none 0 0] 27 (0, 0)) from by
    have e := heap_alloc_new ((w.alloc (.cells #[.string (st r.path), .slice a.A a.n a.c, .int .i64 r.dev, .bool r.gone, .int .i64 r.size, .int .i64 r.len, .slice a.D a.m a.k] 27)).alloc (.cells #[.string (st q.path), .slice b.A b.n b.c, .int .i64 q.dev, .bool q.gone, .int .i64 q.size, .int .i64 q.len, .slice b.D b.m b.k] 27)) (.cells #[.string ⟨#[]⟩, .slice none 0 0, .int .i64 0, .bool false, .int .i64 0, .int .i64 0, .slice none 0 0] 27)
    rwa [hz2] at e)
  have HR := Lib.hid hr
  have HQ := Lib.hid hq
  have hz : w.heap.size + 3 ≤ (((w.alloc (.cells #[.string (st r.path), .slice a.A a.n a.c, .int .i64 r.dev, .bool r.gone, .int .i64 r.size, .int .i64 r.len, .slice a.D a.m a.k] 27)).alloc (.cells #[.string (st q.path), .slice b.A b.n b.c, .int .i64 q.dev, .bool q.gone, .int .i64 q.size, .int .i64 q.len, .slice b.D b.m b.k] 27)).alloc (.cells #[.string ⟨#[]⟩, .slice none 0 0, .int .i64 0, .bool false, .int .i64 0, .int .i64 0, .slice none 0 0] 27)).heap.size := by simp
  clear hr hq hz2
  obtain ⟨S, hS⟩ : ∃ S, setR r q = S := ⟨_, rfl⟩
  rw [hS]
  unfold setR at hS
  have HS := Lib.hid hS
  clear hS
  go_enter Tryz.func12, Tryz.ntmps12
  go_upto_region 1 with fail
  generalize (((w.alloc (.cells #[.string (st r.path), .slice a.A a.n a.c, .int .i64 r.dev, .bool r.gone, .int .i64 r.size, .int .i64 r.len, .slice a.D a.m a.k] 27)).alloc (.cells #[.string (st q.path), .slice b.A b.n b.c, .int .i64 q.dev, .bool q.gone, .int .i64 q.size, .int .i64 q.len, .slice b.D b.m b.k] 27)).alloc (.cells #[.string ⟨#[]⟩, .slice none 0 0, .int .i64 0, .bool false, .int .i64 0, .int .i64 0, .slice none 0 0] 27)) = w3 at *
  go_wp2_with (first | (refine wpList_load_row rfl 27 (.tmp 2) rfl w.heap.size rfl 27 _ (0, 0) _ X.out Tryz.underlying27 rfl HI.out ?_) | (refine wpList_load_row rfl 27 (.tmp 3) rfl (w.heap.size + 1) rfl 27 _ (0, 0) _ Y.out Tryz.underlying27 rfl HI.out ?_) | fail)
  refine (rwinner_v r q a b B w3 (HR.out.below (BA.out.mono hB)) (HQ.out.below (BA.out.mono hB)) (by omega)).mono ?_
  rintro e w4 ⟨rfl, b3⟩
  replace X := Lib.hid ((b3.block w.heap.size (by omega)).trans X.out)
  replace Y := Lib.hid ((b3.block (w.heap.size + 1) (by omega)).trans Y.out)
  replace Z := Lib.hid ((b3.block (w.heap.size + 2) (by omega)).trans Z.out)
  replace BA := Lib.hid (BA.out.trans (b3.mono (by omega)))
  replace hz : w.heap.size + 3 ≤ (w4).heap.size := by have := b3.size; omega
  clear b3
  by_cases h1 : twoE r q = 0
  case neg =>
    have d1 : ((twoE r q : Int) != 0) = true := by rw [bne_iff_ne]; omega
    have HW := Lib.hid (show winR r q = (0, twoE r q) from if_pos h1)
    obtain rfl : (zeroR, twoE r q) = S := (if_pos h1).symm.trans HS.out
    rw [HW.out]
    clear h1
    have XS := Lib.hid (setRow_heap w4 (w.heap.size + 2) _ #[.string ⟨#[]⟩, .slice none 0 0, .int .i64 0, .bool false, .int .i64 0, .int .i64 0, .slice none 0 0] _ _ Z.out)
    have BS := Lib.hid (below_setRow BA.out (show w.heap.size ≤ w.heap.size + 2 by omega) #[.string ⟨#[]⟩, .slice none 0 0, .int .i64 0, .bool false, .int .i64 0, .int .i64 0, .slice none 0 0])
    go_wp2_with (first
      | (refine wpList_store_row rfl 27 (.tmp 4) (.tmp 17) rfl (w.heap.size + 2) #[.string ⟨#[]⟩, .slice none 0 0, .int .i64 0, .bool false, .int .i64 0, .int .i64 0, .slice none 0 0] rfl rfl 27 _ Z.out HI.out rfl (by simp [Value.oneCell']) ?_)
      | fail)
    exact bodyPost_ret (results_row_tmp Tryz.results12 _ _ (w.heap.size + 2) _ #[.string ⟨#[]⟩, .slice none 0 0, .int .i64 0, .bool false, .int .i64 0, .int .i64 0, .slice none 0 0] _ _ rfl XS.out Tryz.underlying27 rfl HI.out) rfl ⟨⟨none, 0, 0, none, 0, 0⟩, rfl, zero_reads _, BS.out⟩
  replace HS := Lib.hid (show ({winX r q with v := mergeV [r.v, q.v]}, 0) = S from (if_neg (fun h => h h1)).symm.trans HS.out)
  have HME := Lib.hid (show mergeE [r.v, q.v] = 0 by
    obtain ⟨k1, k2, _⟩ := twoE_zero h1
    have h3 : allOk [r.v, q.v] = true := by simp [allOk, okR_v' k1, okR_v' k2]
    exact (merge_ok _ h3).1)
  have hn1 := HR.out.hn
  have hn2 := HQ.out.hn
  have hw : winR r q = if 0 < ordV q.v r.v then (1, 0) else (0, 0) := if_neg (fun h => h h1)
  have HXR0 := Lib.hid (show winX r q = if 0 < ordV q.v r.v then q else r from rfl)
  by_cases h2 : 0 < ordV q.v r.v
  · rw [hw, if_pos h2]
    have HXR := Lib.hid (HXR0.out.trans (if_pos h2))
    clear hw h2 h1 HXR0
    dsimp only
    rw [HXR.out] at HS
    have hgz := hz
    have Q := Lib.hid (heap_alloc_new w4 (.cells #[.string (st r.path), .slice a.A a.n a.c, .int .i64 r.dev, .bool r.gone, .int .i64 r.size, .int .i64 r.len, .slice a.D a.m a.k] 27))
    have b3 := (Below.refl w4.heap.size w4).alloc (Nat.le_refl _) (.cells #[.string (st r.path), .slice a.A a.n a.c, .int .i64 r.dev, .bool r.gone, .int .i64 r.size, .int .i64 r.len, .slice a.D a.m a.k] 27)
    have hg8 : w4.heap.size < (w4.alloc (.cells #[.string (st r.path), .slice a.A a.n a.c, .int .i64 r.dev, .bool r.gone, .int .i64 r.size, .int .i64 r.len, .slice a.D a.m a.k] 27)).heap.size := by simp
    go_upto_region 5 with (first | (refine wpList_load_row rfl 27 (.tmp 2) rfl w.heap.size rfl 27 _ (0, 0) _ X.out Tryz.underlying27 rfl HI.out ?_) | fail)
    replace X := Lib.hid ((b3.block w.heap.size (by omega)).trans X.out)
    replace Y := Lib.hid ((b3.block (w.heap.size + 1) (by omega)).trans Y.out)
    replace Z := Lib.hid ((b3.block (w.heap.size + 2) (by omega)).trans Z.out)
    replace BA := Lib.hid (BA.out.trans (b3.mono (by omega)))
    replace hz : w.heap.size + 3 ≤ (w4.alloc (.cells #[.string (st r.path), .slice a.A a.n a.c, .int .i64 r.dev, .bool r.gone, .int .i64 r.size, .int .i64 r.len, .slice a.D a.m a.k] 27)).heap.size := by have := b3.size; omega
    clear b3
    generalize w4.alloc (.cells #[.string (st r.path), .slice a.A a.n a.c, .int .i64 r.dev, .bool r.gone, .int .i64 r.size, .int .i64 r.len, .slice a.D a.m a.k] 27) = w5 at *
    generalize w4.heap.size = g8 at *
    have Q' := Lib.hid (setRow_heap w5 g8 _ #[.string (st q.path), .slice b.A b.n b.c, .int .i64 q.dev, .bool q.gone, .int .i64 q.size, .int .i64 q.len, .slice b.D b.m b.k] _ _ Q.out)
    go_upto_region 7 with (first | (refine wpList_load_row rfl 27 (.tmp 3) rfl (w.heap.size + 1) rfl 27 _ (0, 0) _ Y.out Tryz.underlying27 rfl HI.out ?_) | (refine wpList_store_row rfl 27 (.tmp 8) (.tmp 22) rfl g8 #[.string (st q.path), .slice b.A b.n b.c, .int .i64 q.dev, .bool q.gone, .int .i64 q.size, .int .i64 q.len, .slice b.D b.m b.k] rfl rfl 27 _ Q.out HI.out rfl (by simp [Value.oneCell']) ?_) | fail)
    have e0 : (w5.setRow g8 #[.string (st q.path), .slice b.A b.n b.c, .int .i64 q.dev, .bool q.gone, .int .i64 q.size, .int .i64 q.len, .slice b.D b.m b.k]).heap[w.heap.size]? = w5.heap[w.heap.size]? := setRow_other _ _ _ _ (by omega)
    have e1 : (w5.setRow g8 #[.string (st q.path), .slice b.A b.n b.c, .int .i64 q.dev, .bool q.gone, .int .i64 q.size, .int .i64 q.len, .slice b.D b.m b.k]).heap[w.heap.size + 1]? = w5.heap[w.heap.size + 1]? := setRow_other _ _ _ _ (by omega)
    have e2 : (w5.setRow g8 #[.string (st q.path), .slice b.A b.n b.c, .int .i64 q.dev, .bool q.gone, .int .i64 q.size, .int .i64 q.len, .slice b.D b.m b.k]).heap[w.heap.size + 2]? = w5.heap[w.heap.size + 2]? := setRow_other _ _ _ _ (by omega)
    replace X := Lib.hid (e0.trans X.out)
    replace Y := Lib.hid (e1.trans Y.out)
    replace Z := Lib.hid (e2.trans Z.out)
    clear e0 e1 e2
    replace BA := Lib.hid (below_setRow BA.out (show w.heap.size ≤ g8 by omega) #[.string (st q.path), .slice b.A b.n b.c, .int .i64 q.dev, .bool q.gone, .int .i64 q.size, .int .i64 q.len, .slice b.D b.m b.k])
    replace hz : w.heap.size + 3 ≤ (w5.setRow g8 #[.string (st q.path), .slice b.A b.n b.c, .int .i64 q.dev, .bool q.gone, .int .i64 q.size, .int .i64 q.len, .slice b.D b.m b.k]).heap.size := by rw [setRow_size]; omega
    replace hg8 : g8 < (w5.setRow g8 #[.string (st q.path), .slice b.A b.n b.c, .int .i64 q.dev, .bool q.gone, .int .i64 q.size, .int .i64 q.len, .slice b.D b.m b.k]).heap.size := by rw [setRow_size]; omega
    clear Q
    have Q := Lib.hid Q'.out
    clear Q'
    generalize w5.setRow g8 #[.string (st q.path), .slice b.A b.n b.c, .int .i64 q.dev, .bool q.gone, .int .i64 q.size, .int .i64 q.len, .slice b.D b.m b.k] = wq at *
    go_wp2_with (first | (refine wpList_load_row rfl 27 (.tmp 8) rfl g8 rfl 27 _ (0, 0) _ Q.out Tryz.underlying27 rfl HI.out ?_) | fail)
    refine (rrecCopy_v q b B wq (HQ.out.below (BA.out.mono hB)) (by omega)).mono ?_
    rintro e w6 ⟨A1, c1, D1, k1, rfl, o1, o2, b3⟩
    have O2 := Lib.hid (own_dn o2 (show g8 + 1 ≤ wq.heap.size by omega))
    clear o1 o2
    replace Q := Lib.hid ((b3.block g8 (by omega)).trans Q.out)
    replace hg8 : g8 < w6.heap.size := by have := b3.size; omega
    replace X := Lib.hid ((b3.block w.heap.size (by omega)).trans X.out)
    replace Y := Lib.hid ((b3.block (w.heap.size + 1) (by omega)).trans Y.out)
    replace Z := Lib.hid ((b3.block (w.heap.size + 2) (by omega)).trans Z.out)
    replace BA := Lib.hid (BA.out.trans (b3.mono (by omega)))
    replace hz : w.heap.size + 3 ≤ (w6).heap.size := by have := b3.size; omega
    clear b3
    have hnm := HQ.out.hm
    have Q2 := Lib.hid (setRow_heap w6 g8 _ #[.string (st q.path), .slice A1 b.n c1, .int .i64 q.dev, .bool q.gone, .int .i64 q.size, .int .i64 q.len, .slice D1 b.m k1] _ _ Q.out)
    have P2 := Lib.hid (own_keep O2.out (w' := w6.setRow g8 #[.string (st q.path), .slice A1 b.n c1, .int .i64 q.dev, .bool q.gone, .int .i64 q.size, .int .i64 q.len, .slice D1 b.m k1]) (fun j hj => setRow_other _ _ _ _ (by have := (O2.out.lt j hj).1; omega)))
    have e0 : (w6.setRow g8 #[.string (st q.path), .slice A1 b.n c1, .int .i64 q.dev, .bool q.gone, .int .i64 q.size, .int .i64 q.len, .slice D1 b.m k1]).heap[w.heap.size]? = w6.heap[w.heap.size]? := setRow_other _ _ _ _ (by omega)
    have e1 : (w6.setRow g8 #[.string (st q.path), .slice A1 b.n c1, .int .i64 q.dev, .bool q.gone, .int .i64 q.size, .int .i64 q.len, .slice D1 b.m k1]).heap[w.heap.size + 1]? = w6.heap[w.heap.size + 1]? := setRow_other _ _ _ _ (by omega)
    have e2 : (w6.setRow g8 #[.string (st q.path), .slice A1 b.n c1, .int .i64 q.dev, .bool q.gone, .int .i64 q.size, .int .i64 q.len, .slice D1 b.m k1]).heap[w.heap.size + 2]? = w6.heap[w.heap.size + 2]? := setRow_other _ _ _ _ (by omega)
    replace X := Lib.hid (e0.trans X.out)
    replace Y := Lib.hid (e1.trans Y.out)
    replace Z := Lib.hid (e2.trans Z.out)
    clear e0 e1 e2
    replace BA := Lib.hid (below_setRow BA.out (show w.heap.size ≤ g8 by omega) #[.string (st q.path), .slice A1 b.n c1, .int .i64 q.dev, .bool q.gone, .int .i64 q.size, .int .i64 q.len, .slice D1 b.m k1])
    replace hz : w.heap.size + 3 ≤ (w6.setRow g8 #[.string (st q.path), .slice A1 b.n c1, .int .i64 q.dev, .bool q.gone, .int .i64 q.size, .int .i64 q.len, .slice D1 b.m k1]).heap.size := by rw [setRow_size]; omega
    replace hg8 : g8 < (w6.setRow g8 #[.string (st q.path), .slice A1 b.n c1, .int .i64 q.dev, .bool q.gone, .int .i64 q.size, .int .i64 q.len, .slice D1 b.m k1]).heap.size := by rw [setRow_size]; omega
    clear O2
    go_upto_region 8 with (first
      | (refine wpList_store_row rfl 27 (.tmp 8) (.tmp 24) rfl g8 #[.string (st q.path), .slice A1 b.n c1, .int .i64 q.dev, .bool q.gone, .int .i64 q.size, .int .i64 q.len, .slice D1 b.m k1] rfl rfl 27 _ Q.out HI.out rfl (by simp [Value.oneCell']) ?_)
      | fail)
    clear Q
    generalize w6.setRow g8 #[.string (st q.path), .slice A1 b.n c1, .int .i64 q.dev, .bool q.gone, .int .i64 q.size, .int .i64 q.len, .slice D1 b.m k1] = w7 at *
    have c1' := cell_of_row _ _ 1 _ _ _ X.out
    have c2' := cell_of_row _ _ 1 _ _ _ Y.out
    have ML := Lib.hid (MReads.lit w7 B [⟨a.A, a.n, a.c, r.v⟩, ⟨b.A, b.n, b.c, q.v⟩] #[.slice a.A a.n a.c, .slice b.A b.n b.c] 22 rfl (by omega) (by
      intro v hv
      simp only [List.mem_cons, List.not_mem_nil, or_false] at hv
      rcases hv with rfl | rfl
      · exact ⟨Reads.below HR.out.cs (BA.out.mono hB), by dsimp only; omega⟩
      · exact ⟨Reads.below HQ.out.cs (BA.out.mono hB), by dsimp only; omega⟩))
    have b3 := (Below.refl w7.heap.size w7).alloc (Nat.le_refl _) (.cells #[.slice a.A a.n a.c, .slice b.A b.n b.c] 22)
    have hz5 : w7.heap.size + 1 ≤ (w7.alloc (.cells #[.slice a.A a.n a.c, .slice b.A b.n b.c] 22)).heap.size := by simp
    go_wp2_with fail
    clear c1' c2'
    generalize w7.alloc (.cells #[.slice a.A a.n a.c, .slice b.A b.n b.c] 22) = w8 at *
    have Q3 := Lib.hid ((b3.block g8 hg8).trans Q2.out)
    have P3 := Lib.hid (own_keep P2.out (w' := w8) (fun j hj => b3.block j (P2.out.lt j hj).2))
    replace hg8 : g8 < w8.heap.size := by omega
    generalize hg5 : w7.heap.size = g7 at *
    replace X := Lib.hid ((b3.block w.heap.size (by omega)).trans X.out)
    replace Y := Lib.hid ((b3.block (w.heap.size + 1) (by omega)).trans Y.out)
    replace Z := Lib.hid ((b3.block (w.heap.size + 2) (by omega)).trans Z.out)
    replace BA := Lib.hid (BA.out.trans (b3.mono (by omega)))
    replace hz : w.heap.size + 3 ≤ (w8).heap.size := by have := b3.size; omega
    clear b3
    clear hg5 Q2 P2
    refine (rmerge_v (g7 + 1) (some ⟨g7, 0, none⟩) 2 2 [⟨a.A, a.n, a.c, r.v⟩, ⟨b.A, b.n, b.c, q.v⟩] w8 ML.out (by omega) (by omega) (by
      intro v hv
      simp only [List.mem_cons, List.not_mem_nil, or_false] at hv
      rcases hv with rfl | rfl
      · exact HR.out.ft
      · exact HQ.out.ft)).mono ?_
    rintro e w9 ⟨A', n', c', rfl, ho, b3⟩
    have O6 := Lib.hid (own_dn ho.1 (show g8 + 1 ≤ w8.heap.size by omega))
    rw [show ([⟨a.A, a.n, a.c, r.v⟩, ⟨b.A, b.n, b.c, q.v⟩] : List Vec).map Vec.l = [r.v, q.v] from rfl, HME.out]
    have Q4 := Lib.hid ((b3.block g8 hg8).trans Q3.out)
    have P4 := Lib.hid (own_keep P3.out (w' := w9) (fun j hj => b3.block j (P3.out.lt j hj).2))
    replace hg8 : g8 < w9.heap.size := by have := b3.size; omega
    clear ho ML hz5 Q3 P3
    replace X := Lib.hid ((b3.block w.heap.size (by omega)).trans X.out)
    replace Y := Lib.hid ((b3.block (w.heap.size + 1) (by omega)).trans Y.out)
    replace Z := Lib.hid ((b3.block (w.heap.size + 2) (by omega)).trans Z.out)
    replace BA := Lib.hid (BA.out.trans (b3.mono (by omega)))
    replace hz : w.heap.size + 3 ≤ (w9).heap.size := by have := b3.size; omega
    clear b3
    have k9 : w9.cell? ⟨g8, 1, none⟩ = some (.slice A1 b.n c1) := by rw [cell_of_row _ _ 1 _ _ _ Q4.out]; rfl
    have f9 := frozen_of_row _ g8 1 _ _ Q4.out
    have Q10 := Lib.hid (show (w9.setCell ⟨g8, 1, none⟩ (.slice A' n' c')).heap[g8]? = some (.cells #[.string (st q.path), .slice A' n' c', .int .i64 q.dev, .bool q.gone, .int .i64 q.size, .int .i64 q.len, .slice D1 b.m k1] 27 (0, 0)) from heap_setCell_same _ g8 1 _ _ (.slice A' n' c') Q4.out)
    have Z10 := Lib.hid ((Below.heap_setCell w9 ⟨g8, 1, none⟩ (.slice A' n' c') (w.heap.size + 2) (by simp; omega)).trans Z.out)
    have B10 := Lib.hid (BA.out.setCell (p := ⟨g8, 1, none⟩) (show w.heap.size ≤ g8 by omega) (.slice A' n' c'))
    have P6 := Lib.hid (own_keep O6.out (w' := w9.setCell ⟨g8, 1, none⟩ (.slice A' n' c')) (fun j hj => Below.heap_setCell w9 _ _ j (by have := (O6.out.lt j hj).1; simp; omega)))
    have P8 := Lib.hid (own_keep P4.out (w' := w9.setCell ⟨g8, 1, none⟩ (.slice A' n' c')) (fun j hj => Below.heap_setCell w9 _ _ j (by have := (P4.out.lt j hj).1; simp; omega)))
    have hnl := CReads.len (show CReads w9 w9.heap.size A' n' (mergeV [r.v, q.v]) from Reads.of_own O6.out)
    have hn16 : n' ≤ 16 := by have := merge_len [r.v, q.v]; omega
    clear Q4 X Y BA Z O6 P4 hnl
    go_upto_region 9 with fail
    clear k9 f9
    generalize w9.setCell ⟨g8, 1, none⟩ (.slice A' n' c') = w10 at *
    have XS := Lib.hid (setRow_heap w10 (w.heap.size + 2) _ #[.string (st q.path), .slice A' n' c', .int .i64 q.dev, .bool q.gone, .int .i64 q.size, .int .i64 q.len, .slice D1 b.m k1] _ _ Z10.out)
    have BS := Lib.hid (below_setRow B10.out (show w.heap.size ≤ w.heap.size + 2 by omega) #[.string (st q.path), .slice A' n' c', .int .i64 q.dev, .bool q.gone, .int .i64 q.size, .int .i64 q.len, .slice D1 b.m k1])
    have S6 := Lib.hid (show CReads (w10.setRow (w.heap.size + 2) #[.string (st q.path), .slice A' n' c', .int .i64 q.dev, .bool q.gone, .int .i64 q.size, .int .i64 q.len, .slice D1 b.m k1]) (w10.setRow (w.heap.size + 2) #[.string (st q.path), .slice A' n' c', .int .i64 q.dev, .bool q.gone, .int .i64 q.size, .int .i64 q.len, .slice D1 b.m k1]).heap.size A' n' (mergeV [r.v, q.v]) from Reads.of_own (own_keep P6.out (fun j hj => setRow_other _ _ _ _ (by have := (P6.out.lt j hj).1; omega))))
    have S8 := Lib.hid (show DReads (w10.setRow (w.heap.size + 2) #[.string (st q.path), .slice A' n' c', .int .i64 q.dev, .bool q.gone, .int .i64 q.size, .int .i64 q.len, .slice D1 b.m k1]) (w10.setRow (w.heap.size + 2) #[.string (st q.path), .slice A' n' c', .int .i64 q.dev, .bool q.gone, .int .i64 q.size, .int .i64 q.len, .slice D1 b.m k1]).heap.size D1 b.m q.ds from Reads.of_own (own_keep P8.out (fun j hj => setRow_other _ _ _ _ (by have := (P8.out.lt j hj).1; omega))))
    obtain rfl := HS.out
    go_wp2_with (first
      | (refine wpList_load_row rfl 27 (.tmp 8) rfl g8 rfl 27 _ (0, 0) _ Q10.out Tryz.underlying27 rfl HI.out ?_)
      | (refine wpList_store_row rfl 27 (.tmp 4) (.tmp 35) rfl (w.heap.size + 2) #[.string (st q.path), .slice A' n' c', .int .i64 q.dev, .bool q.gone, .int .i64 q.size, .int .i64 q.len, .slice D1 b.m k1] rfl rfl 27 _ Z10.out HI.out rfl (by simp [Value.oneCell']) ?_)
      | fail)
    exact bodyPost_ret (results_row_tmp Tryz.results12 _ _ (w.heap.size + 2) _ #[.string (st q.path), .slice A' n' c', .int .i64 q.dev, .bool q.gone, .int .i64 q.size, .int .i64 q.len, .slice D1 b.m k1] _ _ rfl XS.out Tryz.underlying27 rfl HI.out) rfl ⟨⟨A', n', c', D1, b.m, k1⟩, rfl, ⟨S6.out, S8.out, by dsimp only; omega, hnm, merge_fit _ (by
      intro v hv
      simp only [List.mem_cons, List.not_mem_nil, or_false] at hv
      rcases hv with rfl | rfl
      · exact HR.out.ft
      · exact HQ.out.ft)⟩, BS.out⟩
  · rw [hw, if_neg h2]
    have HXR := Lib.hid (HXR0.out.trans (if_neg h2))
    clear hw h2 h1 HXR0
    dsimp only
    rw [HXR.out] at HS
    have hgz := hz
    have Q := Lib.hid (heap_alloc_new w4 (.cells #[.string (st r.path), .slice a.A a.n a.c, .int .i64 r.dev, .bool r.gone, .int .i64 r.size, .int .i64 r.len, .slice a.D a.m a.k] 27))
    have b3 := (Below.refl w4.heap.size w4).alloc (Nat.le_refl _) (.cells #[.string (st r.path), .slice a.A a.n a.c, .int .i64 r.dev, .bool r.gone, .int .i64 r.size, .int .i64 r.len, .slice a.D a.m a.k] 27)
    have hg8 : w4.heap.size < (w4.alloc (.cells #[.string (st r.path), .slice a.A a.n a.c, .int .i64 r.dev, .bool r.gone, .int .i64 r.size, .int .i64 r.len, .slice a.D a.m a.k] 27)).heap.size := by simp
    go_upto_region 5 with (first | (refine wpList_load_row rfl 27 (.tmp 2) rfl w.heap.size rfl 27 _ (0, 0) _ X.out Tryz.underlying27 rfl HI.out ?_) | fail)
    replace X := Lib.hid ((b3.block w.heap.size (by omega)).trans X.out)
    replace Y := Lib.hid ((b3.block (w.heap.size + 1) (by omega)).trans Y.out)
    replace Z := Lib.hid ((b3.block (w.heap.size + 2) (by omega)).trans Z.out)
    replace BA := Lib.hid (BA.out.trans (b3.mono (by omega)))
    replace hz : w.heap.size + 3 ≤ (w4.alloc (.cells #[.string (st r.path), .slice a.A a.n a.c, .int .i64 r.dev, .bool r.gone, .int .i64 r.size, .int .i64 r.len, .slice a.D a.m a.k] 27)).heap.size := by have := b3.size; omega
    clear b3
    generalize w4.alloc (.cells #[.string (st r.path), .slice a.A a.n a.c, .int .i64 r.dev, .bool r.gone, .int .i64 r.size, .int .i64 r.len, .slice a.D a.m a.k] 27) = w5 at *
    generalize w4.heap.size = g8 at *
    go_wp2_with (first | (refine wpList_load_row rfl 27 (.tmp 8) rfl g8 rfl 27 _ (0, 0) _ Q.out Tryz.underlying27 rfl HI.out ?_) | fail)
    refine (rrecCopy_v r a B w5 (HR.out.below (BA.out.mono hB)) (by omega)).mono ?_
    rintro e w6 ⟨A1, c1, D1, k1, rfl, o1, o2, b3⟩
    have O2 := Lib.hid (own_dn o2 (show g8 + 1 ≤ w5.heap.size by omega))
    clear o1 o2
    replace Q := Lib.hid ((b3.block g8 (by omega)).trans Q.out)
    replace hg8 : g8 < w6.heap.size := by have := b3.size; omega
    replace X := Lib.hid ((b3.block w.heap.size (by omega)).trans X.out)
    replace Y := Lib.hid ((b3.block (w.heap.size + 1) (by omega)).trans Y.out)
    replace Z := Lib.hid ((b3.block (w.heap.size + 2) (by omega)).trans Z.out)
    replace BA := Lib.hid (BA.out.trans (b3.mono (by omega)))
    replace hz : w.heap.size + 3 ≤ (w6).heap.size := by have := b3.size; omega
    clear b3
    have hnm := HR.out.hm
    have Q2 := Lib.hid (setRow_heap w6 g8 _ #[.string (st r.path), .slice A1 a.n c1, .int .i64 r.dev, .bool r.gone, .int .i64 r.size, .int .i64 r.len, .slice D1 a.m k1] _ _ Q.out)
    have P2 := Lib.hid (own_keep O2.out (w' := w6.setRow g8 #[.string (st r.path), .slice A1 a.n c1, .int .i64 r.dev, .bool r.gone, .int .i64 r.size, .int .i64 r.len, .slice D1 a.m k1]) (fun j hj => setRow_other _ _ _ _ (by have := (O2.out.lt j hj).1; omega)))
    have e0 : (w6.setRow g8 #[.string (st r.path), .slice A1 a.n c1, .int .i64 r.dev, .bool r.gone, .int .i64 r.size, .int .i64 r.len, .slice D1 a.m k1]).heap[w.heap.size]? = w6.heap[w.heap.size]? := setRow_other _ _ _ _ (by omega)
    have e1 : (w6.setRow g8 #[.string (st r.path), .slice A1 a.n c1, .int .i64 r.dev, .bool r.gone, .int .i64 r.size, .int .i64 r.len, .slice D1 a.m k1]).heap[w.heap.size + 1]? = w6.heap[w.heap.size + 1]? := setRow_other _ _ _ _ (by omega)
    have e2 : (w6.setRow g8 #[.string (st r.path), .slice A1 a.n c1, .int .i64 r.dev, .bool r.gone, .int .i64 r.size, .int .i64 r.len, .slice D1 a.m k1]).heap[w.heap.size + 2]? = w6.heap[w.heap.size + 2]? := setRow_other _ _ _ _ (by omega)
    replace X := Lib.hid (e0.trans X.out)
    replace Y := Lib.hid (e1.trans Y.out)
    replace Z := Lib.hid (e2.trans Z.out)
    clear e0 e1 e2
    replace BA := Lib.hid (below_setRow BA.out (show w.heap.size ≤ g8 by omega) #[.string (st r.path), .slice A1 a.n c1, .int .i64 r.dev, .bool r.gone, .int .i64 r.size, .int .i64 r.len, .slice D1 a.m k1])
    replace hz : w.heap.size + 3 ≤ (w6.setRow g8 #[.string (st r.path), .slice A1 a.n c1, .int .i64 r.dev, .bool r.gone, .int .i64 r.size, .int .i64 r.len, .slice D1 a.m k1]).heap.size := by rw [setRow_size]; omega
    replace hg8 : g8 < (w6.setRow g8 #[.string (st r.path), .slice A1 a.n c1, .int .i64 r.dev, .bool r.gone, .int .i64 r.size, .int .i64 r.len, .slice D1 a.m k1]).heap.size := by rw [setRow_size]; omega
    clear O2
    go_upto_region 8 with (first
      | (refine wpList_store_row rfl 27 (.tmp 8) (.tmp 24) rfl g8 #[.string (st r.path), .slice A1 a.n c1, .int .i64 r.dev, .bool r.gone, .int .i64 r.size, .int .i64 r.len, .slice D1 a.m k1] rfl rfl 27 _ Q.out HI.out rfl (by simp [Value.oneCell']) ?_)
      | fail)
    clear Q
    generalize w6.setRow g8 #[.string (st r.path), .slice A1 a.n c1, .int .i64 r.dev, .bool r.gone, .int .i64 r.size, .int .i64 r.len, .slice D1 a.m k1] = w7 at *
    have c1' := cell_of_row _ _ 1 _ _ _ X.out
    have c2' := cell_of_row _ _ 1 _ _ _ Y.out
    have ML := Lib.hid (MReads.lit w7 B [⟨a.A, a.n, a.c, r.v⟩, ⟨b.A, b.n, b.c, q.v⟩] #[.slice a.A a.n a.c, .slice b.A b.n b.c] 22 rfl (by omega) (by
      intro v hv
      simp only [List.mem_cons, List.not_mem_nil, or_false] at hv
      rcases hv with rfl | rfl
      · exact ⟨Reads.below HR.out.cs (BA.out.mono hB), by dsimp only; omega⟩
      · exact ⟨Reads.below HQ.out.cs (BA.out.mono hB), by dsimp only; omega⟩))
    have b3 := (Below.refl w7.heap.size w7).alloc (Nat.le_refl _) (.cells #[.slice a.A a.n a.c, .slice b.A b.n b.c] 22)
    have hz5 : w7.heap.size + 1 ≤ (w7.alloc (.cells #[.slice a.A a.n a.c, .slice b.A b.n b.c] 22)).heap.size := by simp
    go_wp2_with fail
    clear c1' c2'
    generalize w7.alloc (.cells #[.slice a.A a.n a.c, .slice b.A b.n b.c] 22) = w8 at *
    have Q3 := Lib.hid ((b3.block g8 hg8).trans Q2.out)
    have P3 := Lib.hid (own_keep P2.out (w' := w8) (fun j hj => b3.block j (P2.out.lt j hj).2))
    replace hg8 : g8 < w8.heap.size := by omega
    generalize hg5 : w7.heap.size = g7 at *
    replace X := Lib.hid ((b3.block w.heap.size (by omega)).trans X.out)
    replace Y := Lib.hid ((b3.block (w.heap.size + 1) (by omega)).trans Y.out)
    replace Z := Lib.hid ((b3.block (w.heap.size + 2) (by omega)).trans Z.out)
    replace BA := Lib.hid (BA.out.trans (b3.mono (by omega)))
    replace hz : w.heap.size + 3 ≤ (w8).heap.size := by have := b3.size; omega
    clear b3
    clear hg5 Q2 P2
    refine (rmerge_v (g7 + 1) (some ⟨g7, 0, none⟩) 2 2 [⟨a.A, a.n, a.c, r.v⟩, ⟨b.A, b.n, b.c, q.v⟩] w8 ML.out (by omega) (by omega) (by
      intro v hv
      simp only [List.mem_cons, List.not_mem_nil, or_false] at hv
      rcases hv with rfl | rfl
      · exact HR.out.ft
      · exact HQ.out.ft)).mono ?_
    rintro e w9 ⟨A', n', c', rfl, ho, b3⟩
    have O6 := Lib.hid (own_dn ho.1 (show g8 + 1 ≤ w8.heap.size by omega))
    rw [show ([⟨a.A, a.n, a.c, r.v⟩, ⟨b.A, b.n, b.c, q.v⟩] : List Vec).map Vec.l = [r.v, q.v] from rfl, HME.out]
    have Q4 := Lib.hid ((b3.block g8 hg8).trans Q3.out)
    have P4 := Lib.hid (own_keep P3.out (w' := w9) (fun j hj => b3.block j (P3.out.lt j hj).2))
    replace hg8 : g8 < w9.heap.size := by have := b3.size; omega
    clear ho ML hz5 Q3 P3
    replace X := Lib.hid ((b3.block w.heap.size (by omega)).trans X.out)
    replace Y := Lib.hid ((b3.block (w.heap.size + 1) (by omega)).trans Y.out)
    replace Z := Lib.hid ((b3.block (w.heap.size + 2) (by omega)).trans Z.out)
    replace BA := Lib.hid (BA.out.trans (b3.mono (by omega)))
    replace hz : w.heap.size + 3 ≤ (w9).heap.size := by have := b3.size; omega
    clear b3
    have k9 : w9.cell? ⟨g8, 1, none⟩ = some (.slice A1 a.n c1) := by rw [cell_of_row _ _ 1 _ _ _ Q4.out]; rfl
    have f9 := frozen_of_row _ g8 1 _ _ Q4.out
    have Q10 := Lib.hid (show (w9.setCell ⟨g8, 1, none⟩ (.slice A' n' c')).heap[g8]? = some (.cells #[.string (st r.path), .slice A' n' c', .int .i64 r.dev, .bool r.gone, .int .i64 r.size, .int .i64 r.len, .slice D1 a.m k1] 27 (0, 0)) from heap_setCell_same _ g8 1 _ _ (.slice A' n' c') Q4.out)
    have Z10 := Lib.hid ((Below.heap_setCell w9 ⟨g8, 1, none⟩ (.slice A' n' c') (w.heap.size + 2) (by simp; omega)).trans Z.out)
    have B10 := Lib.hid (BA.out.setCell (p := ⟨g8, 1, none⟩) (show w.heap.size ≤ g8 by omega) (.slice A' n' c'))
    have P6 := Lib.hid (own_keep O6.out (w' := w9.setCell ⟨g8, 1, none⟩ (.slice A' n' c')) (fun j hj => Below.heap_setCell w9 _ _ j (by have := (O6.out.lt j hj).1; simp; omega)))
    have P8 := Lib.hid (own_keep P4.out (w' := w9.setCell ⟨g8, 1, none⟩ (.slice A' n' c')) (fun j hj => Below.heap_setCell w9 _ _ j (by have := (P4.out.lt j hj).1; simp; omega)))
    have hnl := CReads.len (show CReads w9 w9.heap.size A' n' (mergeV [r.v, q.v]) from Reads.of_own O6.out)
    have hn16 : n' ≤ 16 := by have := merge_len [r.v, q.v]; omega
    clear Q4 X Y BA Z O6 P4 hnl
    go_upto_region 9 with fail
    clear k9 f9
    generalize w9.setCell ⟨g8, 1, none⟩ (.slice A' n' c') = w10 at *
    have XS := Lib.hid (setRow_heap w10 (w.heap.size + 2) _ #[.string (st r.path), .slice A' n' c', .int .i64 r.dev, .bool r.gone, .int .i64 r.size, .int .i64 r.len, .slice D1 a.m k1] _ _ Z10.out)
    have BS := Lib.hid (below_setRow B10.out (show w.heap.size ≤ w.heap.size + 2 by omega) #[.string (st r.path), .slice A' n' c', .int .i64 r.dev, .bool r.gone, .int .i64 r.size, .int .i64 r.len, .slice D1 a.m k1])
    have S6 := Lib.hid (show CReads (w10.setRow (w.heap.size + 2) #[.string (st r.path), .slice A' n' c', .int .i64 r.dev, .bool r.gone, .int .i64 r.size, .int .i64 r.len, .slice D1 a.m k1]) (w10.setRow (w.heap.size + 2) #[.string (st r.path), .slice A' n' c', .int .i64 r.dev, .bool r.gone, .int .i64 r.size, .int .i64 r.len, .slice D1 a.m k1]).heap.size A' n' (mergeV [r.v, q.v]) from Reads.of_own (own_keep P6.out (fun j hj => setRow_other _ _ _ _ (by have := (P6.out.lt j hj).1; omega))))
    have S8 := Lib.hid (show DReads (w10.setRow (w.heap.size + 2) #[.string (st r.path), .slice A' n' c', .int .i64 r.dev, .bool r.gone, .int .i64 r.size, .int .i64 r.len, .slice D1 a.m k1]) (w10.setRow (w.heap.size + 2) #[.string (st r.path), .slice A' n' c', .int .i64 r.dev, .bool r.gone, .int .i64 r.size, .int .i64 r.len, .slice D1 a.m k1]).heap.size D1 a.m r.ds from Reads.of_own (own_keep P8.out (fun j hj => setRow_other _ _ _ _ (by have := (P8.out.lt j hj).1; omega))))
    obtain rfl := HS.out
    go_wp2_with (first
      | (refine wpList_load_row rfl 27 (.tmp 8) rfl g8 rfl 27 _ (0, 0) _ Q10.out Tryz.underlying27 rfl HI.out ?_)
      | (refine wpList_store_row rfl 27 (.tmp 4) (.tmp 35) rfl (w.heap.size + 2) #[.string (st r.path), .slice A' n' c', .int .i64 r.dev, .bool r.gone, .int .i64 r.size, .int .i64 r.len, .slice D1 a.m k1] rfl rfl 27 _ Z10.out HI.out rfl (by simp [Value.oneCell']) ?_)
      | fail)
    exact bodyPost_ret (results_row_tmp Tryz.results12 _ _ (w.heap.size + 2) _ #[.string (st r.path), .slice A' n' c', .int .i64 r.dev, .bool r.gone, .int .i64 r.size, .int .i64 r.len, .slice D1 a.m k1] _ _ rfl XS.out Tryz.underlying27 rfl HI.out) rfl ⟨⟨A', n', c', D1, a.m, k1⟩, rfl, ⟨S6.out, S8.out, by dsimp only; omega, hnm, merge_fit _ (by
      intro v hv
      simp only [List.mem_cons, List.not_mem_nil, or_false] at hv
      rcases hv with rfl | rfl
      · exact HR.out.ft
      · exact HQ.out.ft)⟩, BS.out⟩
end Go.Proofs.YtndekohimfjdeaaGreatDoor

namespace Go.Proofs.YtndekohimfjdeaaGreatDoor
open Go.RowKit Go.Shelf
def verR (r q : Rcd) : Bool := decide (r.path = q.path) && decide (cmpV r.v q.v = 1)
def behindR (r q : Rcd) : Bool := decide (cmpV r.v q.v = 2 ∨ cmpV r.v q.v = 1)
/-- Are records the same? -/
def sameR (r q : Rcd) : Bool := decide (r.path = q.path) && (decide (r.v = q.v) && (decide (r.dev = q.dev) && (decide (r.gone = q.gone) && sameP r.size r.len q.size q.len r.ds q.ds)))
set_option maxRecDepth 100000 in
set_option maxHeartbeats 8000000 in
theorem krec_v (r q : Rcd) (a b : RSh) (B : Nat) (w : World) (hr : RReads w B r a) (hq : RReads w B q b) (hB : B ≤ w.heap.size) :
    Calls Tryz.prog 18 #[.agg #[.string (st r.path), .slice a.A a.n a.c, .int .i64 r.dev, .bool r.gone, .int .i64 r.size, .int .i64 r.len, .slice a.D a.m a.k], .agg #[.string (st q.path), .slice b.A b.n b.c, .int .i64 q.dev, .bool q.gone, .int .i64 q.size, .int .i64 q.len, .slice b.D b.m b.k]] w fun e w' => e = .returned (.bool (sameR r q)) ∧ Below w.heap.size w w' := by
  have HI := Lib.hid (show (Tryz.prog.info? 27).map (·.size) = some 7 by kernel_rfl)
  have HL := Lib.hid (show (Tryz.prog.info? 25).map (·.size) = some 3 by kernel_rfl)
  have BA := Lib.hid (((Below.refl w.heap.size w).alloc (Nat.le_refl _) (.cells #[.string (st r.path), .slice a.A a.n a.c, .int .i64 r.dev, .bool r.gone, .int .i64 r.size, .int .i64 r.len, .slice a.D a.m a.k] 27)).alloc (by simp) (.cells #[.string (st q.path), .slice b.A b.n b.c, .int .i64 q.dev, .bool q.gone, .int .i64 q.size, .int .i64 q.len, .slice b.D b.m b.k] 27))
  have Y := Lib.hid (heap_alloc2_new w (.cells #[.string (st r.path), .slice a.A a.n a.c, .int .i64 r.dev, .bool r.gone, .int .i64 r.size, .int .i64 r.len, .slice a.D a.m a.k] 27) (.cells #[.string (st q.path), .slice b.A b.n b.c, .int .i64 q.dev, .bool q.gone, .int .i64 q.size, .int .i64 q.len, .slice b.D b.m b.k] 27))
  have X := Lib.hid (heap_alloc2_old w (.cells #[.string (st r.path), .slice a.A a.n a.c, .int .i64 r.dev, .bool r.gone, .int .i64 r.size, .int .i64 r.len, .slice a.D a.m a.k] 27) (.cells #[.string (st q.path), .slice b.A b.n b.c, .int .i64 q.dev, .bool q.gone, .int .i64 q.size, .int .i64 q.len, .slice b.D b.m b.k] 27))
  have HR := Lib.hid hr
  have HQ := Lib.hid hq
  have hn1 := hr.hn
  have hn2 := hq.hn
  have hm1 := hr.hm
  have hm2 := hq.hm
  have hz : w.heap.size + 2 ≤ ((w.alloc (.cells #[.string (st r.path), .slice a.A a.n a.c, .int .i64 r.dev, .bool r.gone, .int .i64 r.size, .int .i64 r.len, .slice a.D a.m a.k] 27)).alloc (.cells #[.string (st q.path), .slice b.A b.n b.c, .int .i64 q.dev, .bool q.gone, .int .i64 q.size, .int .i64 q.len, .slice b.D b.m b.k] 27)).heap.size := by simp
  clear hr hq
  go_enter Tryz.func18, Tryz.ntmps18
  go_upto_region 1 with fail
  generalize (w.alloc (.cells #[.string (st r.path), .slice a.A a.n a.c, .int .i64 r.dev, .bool r.gone, .int .i64 r.size, .int .i64 r.len, .slice a.D a.m a.k] 27)).alloc (.cells #[.string (st q.path), .slice b.A b.n b.c, .int .i64 q.dev, .bool q.gone, .int .i64 q.size, .int .i64 q.len, .slice b.D b.m b.k] 27) = w2 at *
  have c1 := cell_of_row _ _ 0 _ _ _ X.out
  have c2 := cell_of_row _ _ 0 _ _ _ Y.out
  have c3 := cell_of_row _ _ 1 _ _ _ X.out
  have c4 := cell_of_row _ _ 1 _ _ _ Y.out
  have dp := st_beq r.path q.path
  by_cases hp : r.path = q.path
  case neg =>
    rw [decide_eq_false hp] at dp
    have HF := Lib.hid (show sameR r q = false by unfold sameR; simp [hp])
    clear hp
    go_wp2
    go_ret
    exact ⟨by rw [HF.out]; rfl, BA.out⟩
  rw [decide_eq_true hp] at dp
  have HP := Lib.hid hp
  clear hp
  go_wp2_with fail
  refine (same_v B a.A b.A a.n a.c b.n b.c r.v q.v w2 (Reads.below HR.out.cs (BA.out.mono hB)) (Reads.below HQ.out.cs (BA.out.mono hB)) (by omega) (by omega)).mono ?_
  rintro e w3 ⟨rfl, b3⟩
  clear c1 c2 c3 c4
  replace X := Lib.hid ((b3.block w.heap.size (by omega)).trans X.out)
  replace Y := Lib.hid ((b3.block (w.heap.size + 1) (by omega)).trans Y.out)
  replace BA := Lib.hid (BA.out.trans (b3.mono (by omega)))
  replace hz : w.heap.size + 2 ≤ w3.heap.size := by have := b3.size; omega
  clear b3
  by_cases h1 : r.v = q.v
  case neg =>
    rw [decide_eq_false h1]
    have HF := Lib.hid (show sameR r q = false by unfold sameR; simp [h1])
    clear h1
    go_wp2
    go_ret
    exact ⟨by rw [HF.out]; rfl, BA.out⟩
  rw [decide_eq_true h1]
  have c1 := cell_of_row _ _ 2 _ _ _ X.out
  have c2 := cell_of_row _ _ 2 _ _ _ Y.out
  by_cases h2 : r.dev = q.dev
  case neg =>
    have d2 : (r.dev == q.dev) = false := by rw [beq_eq_false_iff_ne]; exact h2
    have HF := Lib.hid (show sameR r q = false by unfold sameR; simp [h2])
    clear h2
    go_wp2
    go_ret
    exact ⟨by rw [HF.out]; rfl, BA.out⟩
  have d2 : (r.dev == q.dev) = true := by rw [beq_iff_eq]; exact h2
  have c3 := cell_of_row _ _ 3 _ _ _ X.out
  have c4 := cell_of_row _ _ 3 _ _ _ Y.out
  by_cases h3 : r.gone = q.gone
  case neg =>
    have d3 : (r.gone == q.gone) = false := by rw [beq_eq_false_iff_ne]; exact h3
    have HF := Lib.hid (show sameR r q = false by unfold sameR; simp [h3])
    clear h3
    go_wp2
    go_ret
    exact ⟨by rw [HF.out]; rfl, BA.out⟩
  have d3 : (r.gone == q.gone) = true := by rw [beq_iff_eq]; exact h3
  have HF := Lib.hid (show sameR r q = sameP r.size r.len q.size q.len r.ds q.ds by unfold sameR; simp [HP.out, h1, h2, h3])
  clear h1 h2 h3
  go_wp2_with (first
    | (refine wpList_load_slot rfl 25 (.tmp 32) rfl ⟨w.heap.size, 4, none⟩ rfl [.int .i64 r.size, .int .i64 r.len, .slice a.D a.m a.k] _ (rcells_at X.out (three_at rfl rfl rfl)) Tryz.underlying25 rfl HL.out ?_)
    | (refine wpList_load_slot rfl 25 (.tmp 34) rfl ⟨w.heap.size + 1, 4, none⟩ rfl [.int .i64 q.size, .int .i64 q.len, .slice b.D b.m b.k] _ (rcells_at Y.out (three_at rfl rfl rfl)) Tryz.underlying25 rfl HL.out ?_)
    | fail)
  refine (list_v r.size r.len q.size q.len a.D b.D a.m a.k b.m b.k B r.ds q.ds w3 (HR.out.dg.below (BA.out.mono hB)) (HQ.out.dg.below (BA.out.mono hB)) (by omega) (by omega)).mono ?_
  rintro e w4 ⟨rfl, b3⟩
  clear c1 c2 c3 c4
  replace X := Lib.hid ((b3.block w.heap.size (by omega)).trans X.out)
  replace Y := Lib.hid ((b3.block (w.heap.size + 1) (by omega)).trans Y.out)
  replace BA := Lib.hid (BA.out.trans (b3.mono (by omega)))
  replace hz : w.heap.size + 2 ≤ w4.heap.size := by have := b3.size; omega
  clear b3
  cases hs : sameP r.size r.len q.size q.len r.ds q.ds
  all_goals
    rw [hs] at HF
    clear hs
    go_wp2
    go_ret
    exact ⟨by rw [HF.out]; rfl, BA.out⟩
end Go.Proofs.YtndekohimfjdeaaGreatDoor

namespace Go.Proofs.YtndekohimfjdeaaGreatDoor
open Go.RowKit Go.Shelf
theorem hstep {w w' : World} {g : Nat} {o : Obj} (h : w.heap[g]? = some o) (b : Below w.heap.size w w') : w'.heap[g]? = some o := (b.block g (Array.getElem?_eq_some_iff.1 h).1).trans h
theorem RReads.step {w w' : World} {r : Rcd} {a : RSh} (h : RReads w w.heap.size r a) (b : Below w.heap.size w w') : RReads w' w'.heap.size r a := (h.below b).more b.size
theorem okR_iff (r : Rcd) : okR r = 0 ↔ checkL r.path = 0 ∧ okV 0 r.v = true ∧ chk r.size r.len r.ds.length ≠ 3 ∧ ¬(val r.v r.dev = 0 ∨ (r.gone = true ∧ emptyR r = false) ∨ (r.gone = false ∧ chk r.size r.len r.ds.length ≠ 0)) := by
  unfold okR
  constructor
  · intro h
    split at h
    · omega
    · rename_i h1
      split at h
      · cases h
      · rename_i h2
        split at h
        · cases h
        · rename_i h3
          split at h
          · cases h
          · rename_i h4
            exact ⟨by omega, by simpa using h2, h3, h4⟩
  · rintro ⟨h1, h2, h3, h4⟩
    rw [if_neg (by omega), if_neg (by rw [h2]; decide), if_neg h3, if_neg h4]
theorem twoE_iff (r q : Rcd) : twoE r q = 0 ↔ okR r = 0 ∧ okR q = 0 ∧ r.path = q.path := by
  unfold twoE
  constructor
  · intro h
    split at h
    · omega
    · split at h
      · omega
      · split at h
        · exact ⟨by omega, by omega, by assumption⟩
        · cases h
  · rintro ⟨h1, h2, h3⟩
    rw [if_neg (by omega), if_neg (by omega), if_pos h3]
theorem twoE_swap (r q : Rcd) : twoE r q = 0 ↔ twoE q r = 0 := by
  rw [twoE_iff, twoE_iff]
  constructor
  · rintro ⟨h1, h2, h3⟩; exact ⟨h2, h1, h3.symm⟩
  · rintro ⟨h1, h2, h3⟩; exact ⟨h2, h1, h3.symm⟩
section
variable {l m n : List (Int × Nat)}
theorem leF_refl (f : Int → Nat) : leF f f := fun _ _ _ => Nat.le_refl _
theorem cmp_of_le (hl : okV 0 l = true) (hm : okV 0 m = true) (h : leF (val l) (val m)) : cmpV l m = 2 ∨ cmpV l m = 1 := by
  have := (least_iff l m hl hm).2 h
  unfold leastV at this
  exact of_decide_eq_true this
theorem le_anti (hl : okV 0 l = true) (hm : okV 0 m = true) (h : leF (val l) (val m)) (h' : leF (val m) (val l)) : l = m := by
  have h1 := cmp_of_le hl hm h
  have h2 := cmp_of_le hm hl h'
  rw [cmp_turn l m hl hm] at h2
  refine (same_iff l m hl hm).1 ?_
  rcases h1 with e | e
  · rw [e] at h2
    simp [turnedV] at h2
  · exact e
theorem ok_merge2 (hl : okV 0 l = true) (hm : okV 0 m = true) : okV 0 (mergeV [l, m]) = true := ok_merge _ (by simp [allOk, hl, hm])
theorem merge_eat (hl : okV 0 l = true) (hm : okV 0 m = true) (h : leF (val m) (val l)) : mergeV [l, m] = l :=
  le_anti (ok_merge2 hl hm) hl (merge_least hl hm (leF_refl _) h) (merge_upper hl hm).1
end
/-- The settled one of two that may be. -/
def setX (r q : Rcd) : Rcd := {winX r q with v := mergeV [r.v, q.v]}
theorem setR_ok {r q : Rcd} (h : twoE r q = 0) : setR r q = (setX r q, 0) := by
  unfold setR
  rw [if_neg (fun x => x h)]
  rfl
theorem winX_cases (r q : Rcd) : winX r q = r ∨ winX r q = q := by unfold winX; split <;> simp
theorem setX_ok {r q : Rcd} (h : okR r = 0) (h' : okR q = 0) (hp : r.path = q.path) : okR (setX r q) = 0 ∧ (setX r q).path = r.path := by
  have hv := ok_merge2 (okR_v h) (okR_v h')
  have key : ∀ x : Rcd, okR x = 0 → leF (val x.v) (val (mergeV [r.v, q.v])) → okR {x with v := mergeV [r.v, q.v]} = 0 := by
    intro x hx hle
    obtain ⟨k1, k2, k3, k4⟩ := (okR_iff x).1 hx
    refine (okR_iff _).2 ⟨k1, hv, k3, fun hc => k4 ?_⟩
    rcases hc with hc | hc
    · refine .inl ?_
      dsimp only at hc
      by_cases hd : 1 ≤ x.dev ∧ x.dev ≤ 16
      · have := hle x.dev hd.1 hd.2
        omega
      · rcases Int.lt_or_le x.dev 1 with h1 | h1
        · exact val_low x.v 0 x.dev k2 (by omega)
        · exact val_hi x.v 0 x.dev k2 (by omega)
    · exact .inr hc
  have hu := merge_upper (okR_v h) (okR_v h')
  unfold setX
  rcases winX_cases r q with e | e <;> rw [e]
  · exact ⟨key r h hu.1, rfl⟩
  · exact ⟨key q h' hu.2, hp.symm⟩
theorem settle_each {r q : Rcd} (h : okR r = 0) (h' : okR q = 0) (hp : r.path = q.path) (o : Rcd) (ho : o = r ∨ o = q) :
    okR o = 0 ∧ o.path = (setX r q).path ∧ twoE (setX r q) o = 0 ∧ verR (setX (setX r q) o) (setX r q) = true ∧ doR (setX r q) o = (1, 0) ∧
      (cmpV (setX r q).v o.v = 1 ∧ doR o (setX r q) = (1, 0) ∨ cmpV (setX r q).v o.v = 3 ∧ doR o (setX r q) = (2, 0)) := by
  obtain ⟨hx, hxp⟩ := setX_ok h h' hp
  have hv := ok_merge2 (okR_v h) (okR_v h')
  have hu := merge_upper (okR_v h) (okR_v h')
  have hoo : okR o = 0 := by rcases ho with rfl | rfl <;> assumption
  have hop : o.path = (setX r q).path := by rw [hxp]; rcases ho with rfl | rfl; rfl; exact hp.symm
  have hol : leF (val o.v) (val (setX r q).v) := by rcases ho with rfl | rfl; exact hu.1; exact hu.2
  have htwo : twoE (setX r q) o = 0 := (twoE_iff _ _).2 ⟨hx, hoo, hop.symm⟩
  have hvx : okV 0 (setX r q).v = true := hv
  have heat : mergeV [(setX r q).v, o.v] = (setX r q).v := merge_eat hvx (okR_v hoo) hol
  have hc := cmp_of_le (okR_v hoo) hvx hol
  have hct := cmp_turn o.v (setX r q).v (okR_v hoo) hvx
  obtain ⟨d, n, e1, _, e3⟩ := do_ok hx hoo hop.symm
  obtain ⟨d', n', e1', _, e3'⟩ := do_ok hoo hx hop
  have hcc : cmpV (setX r q).v o.v = 1 ∧ cmpV o.v (setX r q).v = 1 ∨ cmpV (setX r q).v o.v = 3 ∧ cmpV o.v (setX r q).v = 2 := by
    rcases hc with e | e
    · rw [e] at hct
      exact .inr ⟨by rw [hct]; rfl, e⟩
    · rw [e] at hct
      exact .inl ⟨by rw [hct]; rfl, e⟩
  refine ⟨hoo, hop, htwo, ?_, ?_, ?_⟩
  · have e : (setX (setX r q) o).path = (setX r q).path := (setX_ok hx hoo hop.symm).2
    have ev : (setX (setX r q) o).v = (setX r q).v := heat
    unfold verR
    rw [e, ev, decide_eq_true rfl, (same_iff _ _ hvx hvx).2 rfl]
    rfl
  · rw [e1]
    rcases hcc with ⟨c1, _⟩ | ⟨c1, _⟩
    · rcases e3 with ⟨a1, a2⟩ | ⟨a1, a2⟩ | ⟨a1, a2⟩ | ⟨a1, a2⟩ | ⟨a1, a2⟩
      · rw [a2]
      all_goals (rw [c1] at a1; cases a1)
    · rcases e3 with ⟨a1, a2⟩ | ⟨a1, a2⟩ | ⟨a1, a2⟩ | ⟨a1, a2⟩ | ⟨a1, a2⟩
      · rw [c1] at a1; cases a1
      · rw [a2]
      all_goals (rw [c1] at a1; cases a1)
  · rw [e1']
    rcases hcc with ⟨c1, c2⟩ | ⟨c1, c2⟩
    · refine .inl ⟨c1, ?_⟩
      rcases e3' with ⟨a1, a2⟩ | ⟨a1, a2⟩ | ⟨a1, a2⟩ | ⟨a1, a2⟩ | ⟨a1, a2⟩
      · rw [a2]
      all_goals (rw [c2] at a1; cases a1)
    · refine .inr ⟨c1, ?_⟩
      rcases e3' with ⟨a1, a2⟩ | ⟨a1, a2⟩ | ⟨a1, a2⟩ | ⟨a1, a2⟩ | ⟨a1, a2⟩
      · rw [c2] at a1; cases a1
      · rw [c2] at a1; cases a1
      · rw [a2]
      all_goals (rw [c2] at a1; cases a1)
theorem setX_same {r q : Rcd} (h : okR r = 0) (h' : okR q = 0) (hp : r.path = q.path) (hs : cmpV r.v q.v = 1) : verR (setX r q) r = true ∧ (setX r q).v = r.v := by
  have e := (same_iff _ _ (okR_v h) (okR_v h')).1 hs
  have ev : (setX r q).v = r.v := merge_eat (okR_v h) (okR_v h') (by rw [e]; exact leF_refl _)
  refine ⟨?_, ev⟩
  unfold verR
  rw [(setX_ok h h' hp).2, ev, decide_eq_true rfl, (same_iff _ _ (okR_v h) (okR_v h)).2 rfl]
  rfl
theorem setX_swap {r q : Rcd} (h : okR r = 0) (h' : okR q = 0) (hs : cmpV r.v q.v ≠ 1) : setX q r = setX r q := by
  have hz : ordV r.v q.v ≠ 0 := fun x => hs ((ord_zero (okR_v h) (okR_v h')).1 x)
  have ht := ordV_turn r.v q.v
  have hw : winX q r = winX r q := by
    unfold winX
    by_cases h1 : 0 < ordV r.v q.v
    · rw [if_pos h1, if_neg (by omega)]
    · rw [if_neg h1, if_pos (by omega)]
  unfold setX
  rw [hw, merge_swap (okR_v h) (okR_v h')]
theorem sameR_self (r : Rcd) : sameR r r = true := by simp [sameR, sameP]
theorem sameP_self (s l : Int) (ds : List Dg) : sameP s l s l ds ds = true := by simp [sameP]
end Go.Proofs.YtndekohimfjdeaaGreatDoor

namespace Go.Proofs.YtndekohimfjdeaaGreatDoor
open Go.RowKit Go.Shelf
/-- The first one that may not be. -/
def badR : List Rcd → Nat
  | [] => 0
  | r :: l => if okR r ≠ 0 then okR r else badR l
/-- Which of the first ones wins. -/
def bestR (l : List Rcd) : Nat → Nat
  | 0 => 0
  | i + 1 => if 0 < ordV ((l[i]?).getD zeroR).v ((l[bestR l i]?).getD zeroR).v then i else bestR l i
def pathsR (l : List Rcd) : Bool := l.all fun r => decide (r.path = ((l[0]?).getD zeroR).path)
/-- Which of many wins. -/
def ofR (l : List Rcd) : Nat × Nat := if l.length = 0 then (0, 2) else if badR l ≠ 0 then (0, badR l) else if pathsR l then (bestR l l.length, 0) else (0, 2)
theorem best_lt (l : List Rcd) (h : 0 < l.length) : ∀ i, i ≤ l.length → bestR l i < l.length
  | 0, _ => h
  | i + 1, hi => by
    unfold bestR
    split
    · omega
    · exact best_lt l h i (by omega)
theorem bad_step {l : List Rcd} {k : Nat} {r : Rcd} (h : l[k]? = some r) : badR (l.drop k) = if okR r ≠ 0 then okR r else badR (l.drop (k + 1)) := by
  obtain ⟨hk, e⟩ := List.getElem?_eq_some_iff.1 h
  rw [List.drop_eq_getElem_cons hk, e]
  rfl
set_option maxRecDepth 100000 in
set_option maxHeartbeats 16000000 in
theorem of_v' (l : List (Rcd × RSh)) (A : Option Addr) (n c B : Nat) (w : World) (he : EnvM w) (hr : RRows w B A n l) (hB : B ≤ w.heap.size) (hn : n ≤ 1000000) :
    Calls Tryz.prog 13 #[.slice A n c] w fun e w' => e = .returned (.tuple #[.int .i64 ((ofR (l.map Prod.fst)).1 : Int), .int .i64 ((ofR (l.map Prod.fst)).2 : Int)]) ∧ Below w.heap.size w w' := by
  have HI := Lib.hid (show (Tryz.prog.info? 27).map (·.size) = some 7 by kernel_rfl)
  have HR := Lib.hid hr
  have HE := Lib.hid he
  have HLN := Lib.hid hr.len
  obtain ⟨o, ho⟩ : ∃ o, ofR (l.map Prod.fst) = o := ⟨_, rfl⟩
  rw [ho]
  unfold ofR at ho
  have HO := Lib.hid ho
  clear hr he ho
  go_enter Tryz.func13, Tryz.ntmps13
  by_cases h0 : n = 0
  · subst h0
    obtain rfl := if_p HO.out (by rw [List.length_map, HLN.out])
    go_wp2
    go_ret2
    exact ⟨rfl, Below.refl _ _⟩
  have dn : ((n : Int) == 0) = false := by rw [beq_eq_false_iff_ne]; omega
  replace HO := Lib.hid (if_n HO.out (by rw [List.length_map, HLN.out]; exact h0))
  go_upto_region 4 with fail
  go_loopw [15] (fun i wr => ∃ k : Nat, k ≤ n ∧ i = .int .i64 (k : Int) ∧ badR (l.map Prod.fst) = badR ((l.map Prod.fst).drop k) ∧ Below w.heap.size w wr) (fun i _ => n - (intOf i).toNat)
  case atStart => exact ⟨0, Nat.zero_le _, rfl, by rw [List.drop_zero], Below.refl _ _⟩
  case round =>
    obtain ⟨k, hk, rfl, hbad, hb⟩ := hrel
    have HBD := Lib.hid hbad
    clear hbad
    have k0 : (0 : Int) ≤ (k : Int) := by omega
    by_cases hlt : k < n
    · obtain ⟨ad, x, rfl, hx, hx2, hc⟩ := HR.out.at_ hlt
      have HX := Lib.hid (show (l.map Prod.fst)[k]? = some x.1 by rw [List.getElem?_map, hx]; rfl)
      have HC := Lib.hid (hc wr (hb.mono hB))
      have b1 := Lib.hid (hb.alloc hb.size (.cells #[.string (st x.1.path), .slice x.2.A x.2.n x.2.c, .int .i64 x.1.dev, .bool x.1.gone, .int .i64 x.1.size, .int .i64 x.1.len, .slice x.2.D x.2.m x.2.k] 27))
      have HX2 := Lib.hid ((hx2.below (b1.out.mono hB)))
      clear hx hc hx2
      go_wp2_with (first
        | (refine wpList_load_slot rfl 27 (.tmp 17) rfl (ad.add (k * 7)) rfl [.string (st x.1.path), .slice x.2.A x.2.n x.2.c, .int .i64 x.1.dev, .bool x.1.gone, .int .i64 x.1.size, .int .i64 x.1.len, .slice x.2.D x.2.m x.2.k] _ HC.out Tryz.underlying27 rfl HI.out ?_)
        | fail)
      refine (recCheck_v x.1 x.2 B _ (HE.out.below b1.out) HX2.out (Nat.le_trans hB b1.out.size)).mono ?_
      rintro e w4 ⟨rfl, b4⟩
      have E2 := Lib.hid (b1.out.trans (b4.mono b1.out.size))
      clear b4 b1 hb
      by_cases h3 : okR x.1 = 0
      · have d3 : ((okR x.1 : Int) != 0) = false := by rw [bne_eq_false_iff_eq]; omega
        have H3 := Lib.hid (show badR (l.map Prod.fst) = badR ((l.map Prod.fst).drop (k + 1)) by rw [HBD.out, bad_step HX.out, if_neg (by omega)])
        clear h3
        go_wp2
        go_roundw
        case rel => exact ⟨k + 1, hlt, by go_num, H3.out, E2.out⟩
        case measure => simp [intOf]; omega
      · have d3 : ((okR x.1 : Int) != 0) = true := by rw [bne_iff_ne]; omega
        have H3 : badR (l.map Prod.fst) = okR x.1 := by rw [HBD.out, bad_step HX.out, if_pos h3]
        obtain rfl := if_p HO.out (by rw [H3]; exact h3)
        have H4 := Lib.hid H3
        clear h3 H3
        go_wp2
        go_ret2
        exact ⟨by rw [H4.out]; rfl, E2.out⟩
    · obtain rfl : k = n := by omega
      have hb0 : badR (l.map Prod.fst) = 0 := by
        rw [HBD.out, List.drop_of_length_le (by rw [List.length_map, HLN.out]; exact Nat.le_refl _)]
        rfl
      replace HO := Lib.hid (if_n HO.out (fun h => h hb0))
      clear hb0 hlt HBD
      have E0 := Lib.hid hb
      clear hb
      go_upto_region 12 with fail
      go_loopw [7, 27] (fun bs i wr => ∃ j : Nat, j ≤ k ∧ i = .int .i64 (j : Int) ∧ bs = .int .i64 (bestR (l.map Prod.fst) j : Int) ∧ (((l.map Prod.fst).take j).all fun r => decide (r.path = (((l.map Prod.fst)[0]?).getD zeroR).path)) = true ∧ Below w.heap.size w wr) (fun _ i _ => k - (intOf i).toNat)
      case atStart => exact ⟨0, Nat.zero_le _, rfl, rfl, rfl, E0.out⟩
      case round =>
        obtain ⟨j, hj, rfl, rfl, hal, hb⟩ := hrel
        have HA := Lib.hid hal
        clear hal
        have j0 : (0 : Int) ≤ (j : Int) := by omega
        by_cases hlt : j < k
        · obtain ⟨ad, x, rfl, hx, hx2, hc⟩ := HR.out.at_ hlt
          obtain ⟨ad', x0, hA', hx0, hx02, hc0⟩ := HR.out.at_ (show 0 < k by omega)
          obtain rfl := Option.some.inj hA'
          have hbl := best_lt (l.map Prod.fst) (by rw [List.length_map, HLN.out]; omega) j (by rw [List.length_map, HLN.out]; omega)
          rw [List.length_map, HLN.out] at hbl
          obtain ⟨ad', xb, hA'', hxb, hxb2, hcb⟩ := HR.out.at_ hbl
          obtain rfl := Option.some.inj hA''
          have HX := Lib.hid (show (l.map Prod.fst)[j]? = some x.1 by rw [List.getElem?_map, hx]; rfl)
          have HXB := Lib.hid (show (l.map Prod.fst)[bestR (l.map Prod.fst) j]? = some xb.1 by rw [List.getElem?_map, hxb]; rfl)
          have HX0 := Lib.hid (show (((l.map Prod.fst)[0]?).getD zeroR) = x0.1 by rw [List.getElem?_map, hx0]; rfl)
          have HBR := Lib.hid (show bestR (l.map Prod.fst) (j + 1) = if 0 < ordV x.1.v xb.1.v then j else bestR (l.map Prod.fst) j by rw [bestR, HX.out, HXB.out]; rfl)
          have HBL := Lib.hid hbl
          have b1 := Lib.hid (hb.alloc hb.size (.cells #[.string (st x.1.path), .slice x.2.A x.2.n x.2.c, .int .i64 x.1.dev, .bool x.1.gone, .int .i64 x.1.size, .int .i64 x.1.len, .slice x.2.D x.2.m x.2.k] 27))
          have bb := (Below.refl wr.heap.size wr).alloc (Nat.le_refl _) (.cells #[.string (st x.1.path), .slice x.2.A x.2.n x.2.c, .int .i64 x.1.dev, .bool x.1.gone, .int .i64 x.1.size, .int .i64 x.1.len, .slice x.2.D x.2.m x.2.k] 27)
          have HC := Lib.hid (hc wr (hb.mono hB))
          have PO := Lib.hid (heap_alloc_new wr (.cells #[.string (st x.1.path), .slice x.2.A x.2.n x.2.c, .int .i64 x.1.dev, .bool x.1.gone, .int .i64 x.1.size, .int .i64 x.1.len, .slice x.2.D x.2.m x.2.k] 27))
          have p0 : (wr.alloc (.cells #[.string (st x.1.path), .slice x.2.A x.2.n x.2.c, .int .i64 x.1.dev, .bool x.1.gone, .int .i64 x.1.size, .int .i64 x.1.len, .slice x.2.D x.2.m x.2.k] 27)).cell? ⟨wr.heap.size, 0, none⟩ = some (.string (st x.1.path)) := by rw [cell_of_row _ _ 0 _ _ _ PO.out]; rfl
          have p1 : (wr.alloc (.cells #[.string (st x.1.path), .slice x.2.A x.2.n x.2.c, .int .i64 x.1.dev, .bool x.1.gone, .int .i64 x.1.size, .int .i64 x.1.len, .slice x.2.D x.2.m x.2.k] 27)).cell? ad = some (.string (st x0.1.path)) := by
            have := hc0 _ (b1.out.mono hB) 0 _ rfl
            rwa [add_zero, show 0 * 7 = 0 from rfl, add_zero] at this
          have HCB := Lib.hid (hcb _ (b1.out.mono hB))
          have HX2 := Lib.hid ((hx2.below (b1.out.mono hB)).more (Nat.le_trans hB b1.out.size))
          have HXB2 := Lib.hid ((hxb2.below (b1.out.mono hB)).more (Nat.le_trans hB b1.out.size))
          clear hc hc0 hcb hx hx0 hxb hx2 hx02 hxb2 hA' hA'' hb bb
          go_upto_region 14 with (first
            | (refine wpList_load_slot rfl 27 (.tmp 30) rfl (ad.add (j * 7)) rfl [.string (st x.1.path), .slice x.2.A x.2.n x.2.c, .int .i64 x.1.dev, .bool x.1.gone, .int .i64 x.1.size, .int .i64 x.1.len, .slice x.2.D x.2.m x.2.k] _ HC.out Tryz.underlying27 rfl HI.out ?_)
            | fail)
          have dp := st_beq x.1.path x0.1.path
          clear HC
          generalize wr.alloc (.cells #[.string (st x.1.path), .slice x.2.A x.2.n x.2.c, .int .i64 x.1.dev, .bool x.1.gone, .int .i64 x.1.size, .int .i64 x.1.len, .slice x.2.D x.2.m x.2.k] 27) = w1 at *
          generalize wr.heap.size = go at *
          by_cases hp : x.1.path = x0.1.path
          case neg =>
            rw [decide_eq_false hp] at dp
            have HPN := Lib.hid hp
            clear hp
            have hpf : pathsR (l.map Prod.fst) = false := all_not HX.out (decide_eq_false (by rw [HX0.out]; exact HPN.out))
            obtain rfl := if_n HO.out (by rw [hpf]; decide)
            clear hpf
            go_quiet (fail)
            go_wp2
            go_ret2
            exact ⟨rfl, below_drewN b1.out _⟩
          rw [decide_eq_true hp] at dp
          have HAN := Lib.hid (all_step HA.out HX.out (decide_eq_true (show x.1.path = (((l.map Prod.fst)[0]?).getD zeroR).path by rw [HX0.out]; exact hp)))
          clear hp
          go_quiet (fail)
          clear p0 p1 dp
          go_upto_region 16 with fail
          have j1 : (0 : Int) ≤ (bestR (l.map Prod.fst) j : Int) := by omega
          have j2 : (bestR (l.map Prod.fst) j : Int) < (k : Int) := by have := HBL.out; omega
          refine wp_region_text [(0, false), (1, false), (2, false), (3, false), (4, false), (5, false), (6, false), (7, true)] (fun V => V.heap[go]? = some (.cells #[.string (st x.1.path), .slice x.2.A x.2.n x.2.c, .int .i64 x.1.dev, .bool x.1.gone, .int .i64 x.1.size, .int .i64 x.1.len, .slice x.2.D x.2.m x.2.k] 27 (0, 0)) ∧ ∀ j' u, (rcC xb)[j']? = some u → V.cell? ((ad.add (bestR (l.map Prod.fst) j * 7)).add j') = some u) (by kernel_rfl) (by kernel_rfl) (by kernel_rfl) (by kernel_rfl) (by kernel_rfl) (fun _ => ?_)
          simp only [outOf, List.getElem?_cons_zero, List.getElem?_cons_succ, Option.getD_some]
          have hS : (w1.drewN nq).drew.heap[go]? = some (.cells #[.string (st x.1.path), .slice x.2.A x.2.n x.2.c, .int .i64 x.1.dev, .bool x.1.gone, .int .i64 x.1.size, .int .i64 x.1.len, .slice x.2.D x.2.m x.2.k] 27 (0, 0)) ∧ ∀ j' u, (rcC xb)[j']? = some u → (w1.drewN nq).drew.cell? ((ad.add (bestR (l.map Prod.fst) j * 7)).add j') = some u := ⟨PO.out, HCB.out⟩
          have T2 := Lib.hid (below_drewN b1.out nq).drew
          have R1 := Lib.hid (show RReads (w1.drewN nq).drew (w1.drewN nq).drew.heap.size x.1 x.2 from ⟨HX2.out.cs, HX2.out.dg, HX2.out.hn, HX2.out.hm, HX2.out.ft⟩)
          have R2 := Lib.hid (show RReads (w1.drewN nq).drew (w1.drewN nq).drew.heap.size xb.1 xb.2 from ⟨HXB2.out.cs, HXB2.out.dg, HXB2.out.hn, HXB2.out.hm, HXB2.out.ft⟩)
          generalize (w1.drewN nq).drew = w3 at *
          refine TW.val2 (v := .agg #[.string (st x.1.path), .slice x.2.A x.2.n x.2.c, .int .i64 x.1.dev, .bool x.1.gone, .int .i64 x.1.size, .int .i64 x.1.len, .slice x.2.D x.2.m x.2.k]) ?_ ?_ ?_ ?_ ?_
          (focus rfl)
          (focus exact fun V hV => exec_load_slot 27 (.tmp 9) rfl ⟨go, 0, none⟩ rfl [.string (st x.1.path), .slice x.2.A x.2.n x.2.c, .int .i64 x.1.dev, .bool x.1.gone, .int .i64 x.1.size, .int .i64 x.1.len, .slice x.2.D x.2.m x.2.k] _ (rcells_at hV.1 arr_at) Tryz.underlying27 rfl HI.out)
          (focus exact fun _ _ _ h => h)
          (focus exact hS)
          simp only [Act.put, List.setIfInBounds_toArray, List.set_cons_zero, List.set_cons_succ]
          iterate 4 ((first | (refine TW.val2 (v := ?_) ?_ ?_ ?_ ?_ ?_; rotate_left; (focus rfl); (focus (intro W hSW; (try dsimp only at hSW); (try (obtain ⟨hS1, hSW⟩ := hSW)); (try (obtain ⟨hS2, hSW⟩ := hSW)); (try (obtain ⟨hS3, hSW⟩ := hSW)); (try (obtain ⟨hS4, hSW⟩ := hSW)); (try (obtain ⟨hS5, hSW⟩ := hSW)); (try (obtain ⟨hS6, hSW⟩ := hSW)); (try (obtain ⟨hS7, hSW⟩ := hSW)); (try (obtain ⟨hS8, hSW⟩ := hSW)); go_simp; (try with_reducible rfl); done)); (focus exact fun _ _ _ h => h); (focus assumption)) | (refine TW.skip (e := false) ?_ ?_ ?_ ?_; (focus rfl); (focus exact fun _ _ _ h => h); (focus assumption))); simp only [Act.put, List.setIfInBounds_toArray, List.set_cons_zero, List.set_cons_succ])
          refine TW.val2 (v := .agg #[.string (st xb.1.path), .slice xb.2.A xb.2.n xb.2.c, .int .i64 xb.1.dev, .bool xb.1.gone, .int .i64 xb.1.size, .int .i64 xb.1.len, .slice xb.2.D xb.2.m xb.2.k]) ?_ ?_ ?_ ?_ ?_
          (focus rfl)
          (focus exact fun V hV => exec_load_slot 27 (.tmp 43) rfl (ad.add (bestR (l.map Prod.fst) j * 7)) rfl [.string (st xb.1.path), .slice xb.2.A xb.2.n xb.2.c, .int .i64 xb.1.dev, .bool xb.1.gone, .int .i64 xb.1.size, .int .i64 xb.1.len, .slice xb.2.D xb.2.m xb.2.k] _ hV.2 Tryz.underlying27 rfl HI.out)
          (focus exact fun _ _ _ h => h)
          (focus exact hS)
          simp only [Act.put, List.setIfInBounds_toArray, List.set_cons_zero, List.set_cons_succ]
          iterate 1 ((first | (refine TW.val2 (v := ?_) ?_ ?_ ?_ ?_ ?_; rotate_left; (focus rfl); (focus (intro W hSW; (try dsimp only at hSW); (try (obtain ⟨hS1, hSW⟩ := hSW)); (try (obtain ⟨hS2, hSW⟩ := hSW)); (try (obtain ⟨hS3, hSW⟩ := hSW)); (try (obtain ⟨hS4, hSW⟩ := hSW)); (try (obtain ⟨hS5, hSW⟩ := hSW)); (try (obtain ⟨hS6, hSW⟩ := hSW)); (try (obtain ⟨hS7, hSW⟩ := hSW)); (try (obtain ⟨hS8, hSW⟩ := hSW)); go_simp; (try with_reducible rfl); done)); (focus exact fun _ _ _ h => h); (focus assumption)) | (refine TW.skip (e := false) ?_ ?_ ?_ ?_; (focus rfl); (focus exact fun _ _ _ h => h); (focus assumption))); simp only [Act.put, List.setIfInBounds_toArray, List.set_cons_zero, List.set_cons_succ])
          refine TW.eff (by rfl) (fun K hK => ?_); go_simp
          refine (beats_v x.1 xb.1 x.2 xb.2 w3.heap.size w3 R1.out R2.out (Nat.le_refl _)).mono ?_
          rintro e w4 ⟨rfl, b4⟩
          have hS2 : w4.heap[go]? = some (.cells #[.string (st x.1.path), .slice x.2.A x.2.n x.2.c, .int .i64 x.1.dev, .bool x.1.gone, .int .i64 x.1.size, .int .i64 x.1.len, .slice x.2.D x.2.m x.2.k] 27 (0, 0)) ∧ ∀ j' u, (rcC xb)[j']? = some u → w4.cell? ((ad.add (bestR (l.map Prod.fst) j * 7)).add j') = some u := ⟨hstep hS.1 b4, fun j' u hu => (b4.cell (World.block_lt_of_cell? w3 _ (hS.2 j' u hu))).trans (hS.2 j' u hu)⟩
          have E2 := Lib.hid (T2.out.trans (b4.mono T2.out.size))
          clear hS b4
          refine hK.out _ _ hS2 ?_
          clear hK hS2
          (try simp only [Act.put, List.setIfInBounds_toArray, List.set_cons_zero, List.set_cons_succ])
          refine TW.done ?_
          by_cases h5 : 0 < ordV x.1.v xb.1.v
          · rw [if_pos h5] at HBR
            rw [decide_eq_true h5]
            clear h5
            go_wp2
            go_roundw
            case rel => exact ⟨j + 1, hlt, by go_num, by rw [HBR.out], HAN.out, E2.out⟩
            case measure => simp [intOf]; omega
          · rw [if_neg h5] at HBR
            rw [decide_eq_false h5]
            clear h5
            go_wp2
            go_roundw
            case rel => exact ⟨j + 1, hlt, by go_num, by rw [HBR.out], HAN.out, E2.out⟩
            case measure => simp [intOf]; omega
        · obtain rfl : j = k := by omega
          have hpt : pathsR (l.map Prod.fst) = true := by
            have := HA.out
            rwa [List.take_of_length_le (by rw [List.length_map, HLN.out]; exact Nat.le_refl _)] at this
          have h1 := if_p HO.out hpt
          rw [List.length_map, HLN.out] at h1
          obtain rfl := h1
          have EB := Lib.hid hb
          clear hpt hb
          go_wp2
          go_ret2
          exact ⟨rfl, EB.out⟩
end Go.Proofs.YtndekohimfjdeaaGreatDoor

namespace Go.Proofs.YtndekohimfjdeaaGreatDoor
open Go.RowKit Go.Shelf
theorem bad_all : ∀ {l : List Rcd}, badR l = 0 → ∀ r ∈ l, okR r = 0
  | [], _, r, hr => by cases hr
  | x :: l, h, r, hr => by
    unfold badR at h
    by_cases hx : okR x = 0
    · rw [if_neg (fun k => k hx)] at h
      rcases List.mem_cons.1 hr with rfl | hr
      · exact hx
      · exact bad_all h r hr
    · rw [if_pos hx] at h
      exact absurd h hx
theorem best_lt' (l : List Rcd) : ∀ i, 1 ≤ i → bestR l i < i
  | 0, h => by omega
  | 1, _ => by
    unfold bestR
    split
    · omega
    · show bestR l 0 < 1
      unfold bestR
      omega
  | i + 2, _ => by
    unfold bestR
    split
    · omega
    · have := best_lt' l (i + 1) (by omega)
      omega
theorem all_at {α : Type} {p : α → Bool} {l : List α} {j k : Nat} {x : α} (h : ((l.take j).all p) = true) (hx : l[k]? = some x) (hk : k < j) : p x = true := by
  rw [List.all_eq_true] at h
  obtain ⟨hk', e⟩ := List.getElem?_eq_some_iff.1 hx
  refine h x (List.mem_iff_getElem?.2 ⟨k, ?_⟩)
  rw [List.getElem?_take_of_lt hk, hx]
theorem win_of {r q : Rcd} (h1 : okR r = 0) (h2 : okR q = 0) : winR r q = if r.path = q.path then (if 0 < ordV q.v r.v then (1, 0) else (0, 0)) else (0, 2) := by
  have ht : twoE r q = if r.path = q.path then 0 else 2 := by
    unfold twoE
    rw [if_neg (fun h => h h1), if_neg (fun h => h h2)]
  unfold winR
  rw [ht]
  by_cases hp : r.path = q.path
  · rw [if_pos hp, if_pos hp, if_neg (fun h => h rfl)]
  · rw [if_neg hp, if_neg hp, if_pos (by decide)]
set_option maxRecDepth 100000 in
set_option maxHeartbeats 16000000 in
theorem rof_v (l : List (Rcd × RSh)) (A : Option Addr) (n c B : Nat) (w : World) (hr : RRows w B A n l) (hB : B ≤ w.heap.size) (hn : n ≤ 1000000) :
    Calls Tryz.prog 14 #[.slice A n c] w fun e w' => e = .returned (.tuple #[.int .i64 ((ofR (l.map Prod.fst)).1 : Int), .int .i64 ((ofR (l.map Prod.fst)).2 : Int)]) ∧ Below w.heap.size w w' := by
  have HI := Lib.hid (show (Tryz.prog.info? 27).map (·.size) = some 7 by kernel_rfl)
  have HR := Lib.hid hr
  have HLN := Lib.hid hr.len
  obtain ⟨o, ho⟩ : ∃ o, ofR (l.map Prod.fst) = o := ⟨_, rfl⟩
  rw [ho]
  unfold ofR at ho
  have HO := Lib.hid ho
  clear hr ho
  go_enter Tryz.func14, Tryz.ntmps14
  by_cases h0 : n = 0
  · subst h0
    obtain rfl := if_p HO.out (by rw [List.length_map, HLN.out])
    go_wp2
    go_ret2
    exact ⟨rfl, Below.refl _ _⟩
  have dn : ((n : Int) == 0) = false := by rw [beq_eq_false_iff_ne]; omega
  replace HO := Lib.hid (if_n HO.out (by rw [List.length_map, HLN.out]; exact h0))
  go_upto_region 4 with fail
  go_loopw [4] (fun i wr => ∃ k : Nat, k ≤ n ∧ i = .int .i64 (k : Int) ∧ badR (l.map Prod.fst) = badR ((l.map Prod.fst).drop k) ∧ Below w.heap.size w wr) (fun i _ => n - (intOf i).toNat)
  case atStart => exact ⟨0, Nat.zero_le _, rfl, by rw [List.drop_zero], Below.refl _ _⟩
  case round =>
    obtain ⟨k, hk, rfl, hbad, hb⟩ := hrel
    have HBD := Lib.hid hbad
    clear hbad
    have k0 : (0 : Int) ≤ (k : Int) := by omega
    by_cases hlt : k < n
    · obtain ⟨ad, x, rfl, hx, hx2, hc⟩ := HR.out.at_ hlt
      have HX := Lib.hid (show (l.map Prod.fst)[k]? = some x.1 by rw [List.getElem?_map, hx]; rfl)
      have HC := Lib.hid (hc wr (hb.mono hB))
      have HX2 := Lib.hid ((hx2.below (hb.mono hB)))
      have b1 := Lib.hid hb
      clear hx hc hx2
      go_wp2_with (first
        | (refine wpList_load_slot rfl 27 (.tmp 21) rfl (ad.add (k * 7)) rfl [.string (st x.1.path), .slice x.2.A x.2.n x.2.c, .int .i64 x.1.dev, .bool x.1.gone, .int .i64 x.1.size, .int .i64 x.1.len, .slice x.2.D x.2.m x.2.k] _ HC.out Tryz.underlying27 rfl HI.out ?_)
        | fail)
      refine (rrecCheck_v x.1 x.2 B _ HX2.out (Nat.le_trans hB b1.out.size)).mono ?_
      rintro e w4 ⟨rfl, b4⟩
      have E2 := Lib.hid (b1.out.trans (b4.mono b1.out.size))
      clear b4 b1 hb
      by_cases h3 : okR x.1 = 0
      · have d3 : ((okR x.1 : Int) != 0) = false := by rw [bne_eq_false_iff_eq]; omega
        have H3 := Lib.hid (show badR (l.map Prod.fst) = badR ((l.map Prod.fst).drop (k + 1)) by rw [HBD.out, bad_step HX.out, if_neg (by omega)])
        clear h3
        go_wp2
        go_roundw
        case rel => exact ⟨k + 1, hlt, by go_num, H3.out, E2.out⟩
        case measure => simp [intOf]; omega
      · have d3 : ((okR x.1 : Int) != 0) = true := by rw [bne_iff_ne]; omega
        have H3 : badR (l.map Prod.fst) = okR x.1 := by rw [HBD.out, bad_step HX.out, if_pos h3]
        obtain rfl := if_p HO.out (by rw [H3]; exact h3)
        have H4 := Lib.hid H3
        clear h3 H3
        go_wp2
        go_ret2
        exact ⟨by rw [H4.out]; rfl, E2.out⟩
    · obtain rfl : k = n := by omega
      have hb0 : badR (l.map Prod.fst) = 0 := by
        rw [HBD.out, List.drop_of_length_le (by rw [List.length_map, HLN.out]; exact Nat.le_refl _)]
        rfl
      replace HO := Lib.hid (if_n HO.out (fun h => h hb0))
      have OKA := Lib.hid (bad_all hb0)
      clear hb0 hlt HBD
      have E0 := Lib.hid hb
      clear hb
      have H1 := Lib.hid (show bestR (l.map Prod.fst) 1 = 0 by have := best_lt' (l.map Prod.fst) 1 (Nat.le_refl _); omega)
      have HA1 := Lib.hid (show (((l.map Prod.fst).take 1).all fun r => decide (r.path = (((l.map Prod.fst)[0]?).getD zeroR).path)) = true by
        obtain ⟨_, x0, _, hx0, _, _⟩ := HR.out.at_ (show 0 < k by omega)
        have h1 : (l.map Prod.fst)[0]? = some x0.1 := by rw [List.getElem?_map, hx0]; rfl
        exact all_step (k := 0) rfl h1 (decide_eq_true (by rw [h1]; rfl)))
      go_upto_region 11 with fail
      go_loopw [6, 7] (fun bs i wr => ∃ j : Nat, 1 ≤ j ∧ j ≤ k ∧ i = .int .i64 (j : Int) ∧ bs = .int .i64 (bestR (l.map Prod.fst) j : Int) ∧ (((l.map Prod.fst).take j).all fun r => decide (r.path = (((l.map Prod.fst)[0]?).getD zeroR).path)) = true ∧ Below w.heap.size w wr) (fun _ i _ => k - (intOf i).toNat)
      case atStart => exact ⟨1, Nat.le_refl _, by omega, rfl, by rw [H1.out]; rfl, HA1.out, E0.out⟩
      case round =>
        obtain ⟨j, hj1, hj, rfl, rfl, hal, hb⟩ := hrel
        have HA := Lib.hid hal
        have HB := Lib.hid hb
        clear hal hb
        have j0 : (0 : Int) ≤ (j : Int) := by omega
        by_cases hlt : j < k
        · obtain ⟨ad, x, rfl, hx, hx2, hc⟩ := HR.out.at_ hlt
          have hbl' := best_lt' (l.map Prod.fst) j hj1
          have hbl := best_lt (l.map Prod.fst) (by rw [List.length_map, HLN.out]; omega) j (by rw [List.length_map, HLN.out]; omega)
          rw [List.length_map, HLN.out] at hbl
          obtain ⟨ad', xb, hA'', hxb, hxb2, hcb⟩ := HR.out.at_ hbl
          obtain rfl := Option.some.inj hA''
          have HX := Lib.hid (show (l.map Prod.fst)[j]? = some x.1 by rw [List.getElem?_map, hx]; rfl)
          have HXB := Lib.hid (show (l.map Prod.fst)[bestR (l.map Prod.fst) j]? = some xb.1 by rw [List.getElem?_map, hxb]; rfl)
          have HBR := Lib.hid (show bestR (l.map Prod.fst) (j + 1) = if 0 < ordV x.1.v xb.1.v then j else bestR (l.map Prod.fst) j by rw [bestR, HX.out, HXB.out]; rfl)
          have HPB := Lib.hid (show xb.1.path = (((l.map Prod.fst)[0]?).getD zeroR).path from of_decide_eq_true (all_at (p := fun r => decide (r.path = (((l.map Prod.fst)[0]?).getD zeroR).path)) HA.out HXB.out hbl'))
          have HWR := Lib.hid (win_of (r := xb.1) (q := x.1) (OKA.out _ (List.mem_iff_getElem?.2 ⟨_, HXB.out⟩)) (OKA.out _ (List.mem_iff_getElem?.2 ⟨_, HX.out⟩)))
          have HC := Lib.hid (hc wr (HB.out.mono hB))
          have HCB := Lib.hid (hcb wr (HB.out.mono hB))
          have HX2 := Lib.hid ((hx2.below (HB.out.mono hB)).more (Nat.le_trans hB HB.out.size))
          have HXB2 := Lib.hid ((hxb2.below (HB.out.mono hB)).more (Nat.le_trans hB HB.out.size))
          have j1 : (0 : Int) ≤ (bestR (l.map Prod.fst) j : Int) := by omega
          have j2 : (bestR (l.map Prod.fst) j : Int) < (k : Int) := by omega
          have j3 : (j : Int) < (k : Int) := by omega
          clear hc hcb hx hxb hx2 hxb2 hA'' hbl hbl'
          go_upto_region 13 with fail
          by_cases hp : x.1.path = (((l.map Prod.fst)[0]?).getD zeroR).path
          case neg =>
            have HW := Lib.hid (HWR.out.trans (if_neg (fun e => hp (e.symm.trans HPB.out))))
            have hpf : pathsR (l.map Prod.fst) = false := all_not HX.out (decide_eq_false hp)
            obtain rfl := if_n HO.out (by rw [hpf]; decide)
            clear hpf hp
            refine wp_region_text [(0, false), (1, false), (2, false), (3, false), (4, false), (5, false), (6, false), (7, false), (8, true), (9, false), (10, false), (11, false), (12, false), (13, false)] (fun V => (∀ j' u, (rcC xb)[j']? = some u → V.cell? ((ad.add (bestR (l.map Prod.fst) j * 7)).add j') = some u) ∧ ∀ j' u, (rcC x)[j']? = some u → V.cell? ((ad.add (j * 7)).add j') = some u) (by kernel_rfl) (by kernel_rfl) (by kernel_rfl) (by kernel_rfl) (by kernel_rfl) (fun _ => ?_)
            simp only [outOf, List.getElem?_cons_zero, List.getElem?_cons_succ, Option.getD_some]
            have hS : (∀ j' u, (rcC xb)[j']? = some u → wr.drew.cell? ((ad.add (bestR (l.map Prod.fst) j * 7)).add j') = some u) ∧ ∀ j' u, (rcC x)[j']? = some u → wr.drew.cell? ((ad.add (j * 7)).add j') = some u := ⟨HCB.out, HC.out⟩
            have T2 := Lib.hid HB.out.drew
            have R1 := Lib.hid (show RReads wr.drew wr.drew.heap.size x.1 x.2 from ⟨HX2.out.cs, HX2.out.dg, HX2.out.hn, HX2.out.hm, HX2.out.ft⟩)
            have R2 := Lib.hid (show RReads wr.drew wr.drew.heap.size xb.1 xb.2 from ⟨HXB2.out.cs, HXB2.out.dg, HXB2.out.hn, HXB2.out.hm, HXB2.out.ft⟩)
            generalize wr.drew = w3 at *
            iterate 3 ((first | (refine TW.val2 (v := ?_) ?_ ?_ ?_ ?_ ?_; rotate_left; (focus rfl); (focus (intro W hSW; (try dsimp only at hSW); (try (obtain ⟨hS1, hSW⟩ := hSW)); (try (obtain ⟨hS2, hSW⟩ := hSW)); (try (obtain ⟨hS3, hSW⟩ := hSW)); (try (obtain ⟨hS4, hSW⟩ := hSW)); (try (obtain ⟨hS5, hSW⟩ := hSW)); (try (obtain ⟨hS6, hSW⟩ := hSW)); (try (obtain ⟨hS7, hSW⟩ := hSW)); (try (obtain ⟨hS8, hSW⟩ := hSW)); go_simp; (try with_reducible rfl); done)); (focus exact fun _ _ _ h => h); (focus assumption)) | (refine TW.skip (e := false) ?_ ?_ ?_ ?_; (focus rfl); (focus exact fun _ _ _ h => h); (focus assumption))); simp only [Act.put, List.setIfInBounds_toArray, List.set_cons_zero, List.set_cons_succ])
            refine TW.val2 (v := .agg #[.string (st xb.1.path), .slice xb.2.A xb.2.n xb.2.c, .int .i64 xb.1.dev, .bool xb.1.gone, .int .i64 xb.1.size, .int .i64 xb.1.len, .slice xb.2.D xb.2.m xb.2.k]) ?_ ?_ ?_ ?_ ?_
            (focus rfl)
            (focus exact fun V hV => exec_load_slot 27 (.tmp 36) rfl (ad.add (bestR (l.map Prod.fst) j * 7)) rfl [.string (st xb.1.path), .slice xb.2.A xb.2.n xb.2.c, .int .i64 xb.1.dev, .bool xb.1.gone, .int .i64 xb.1.size, .int .i64 xb.1.len, .slice xb.2.D xb.2.m xb.2.k] _ hV.1 Tryz.underlying27 rfl HI.out)
            (focus exact fun _ _ _ h => h)
            (focus exact hS)
            simp only [Act.put, List.setIfInBounds_toArray, List.set_cons_zero, List.set_cons_succ]
            iterate 3 ((first | (refine TW.val2 (v := ?_) ?_ ?_ ?_ ?_ ?_; rotate_left; (focus rfl); (focus (intro W hSW; (try dsimp only at hSW); (try (obtain ⟨hS1, hSW⟩ := hSW)); (try (obtain ⟨hS2, hSW⟩ := hSW)); (try (obtain ⟨hS3, hSW⟩ := hSW)); (try (obtain ⟨hS4, hSW⟩ := hSW)); (try (obtain ⟨hS5, hSW⟩ := hSW)); (try (obtain ⟨hS6, hSW⟩ := hSW)); (try (obtain ⟨hS7, hSW⟩ := hSW)); (try (obtain ⟨hS8, hSW⟩ := hSW)); go_simp; (try with_reducible rfl); done)); (focus exact fun _ _ _ h => h); (focus assumption)) | (refine TW.skip (e := false) ?_ ?_ ?_ ?_; (focus rfl); (focus exact fun _ _ _ h => h); (focus assumption))); simp only [Act.put, List.setIfInBounds_toArray, List.set_cons_zero, List.set_cons_succ])
            refine TW.val2 (v := .agg #[.string (st x.1.path), .slice x.2.A x.2.n x.2.c, .int .i64 x.1.dev, .bool x.1.gone, .int .i64 x.1.size, .int .i64 x.1.len, .slice x.2.D x.2.m x.2.k]) ?_ ?_ ?_ ?_ ?_
            (focus rfl)
            (focus exact fun V hV => exec_load_slot 27 (.tmp 40) rfl (ad.add (j * 7)) rfl [.string (st x.1.path), .slice x.2.A x.2.n x.2.c, .int .i64 x.1.dev, .bool x.1.gone, .int .i64 x.1.size, .int .i64 x.1.len, .slice x.2.D x.2.m x.2.k] _ hV.2 Tryz.underlying27 rfl HI.out)
            (focus exact fun _ _ _ h => h)
            (focus exact hS)
            simp only [Act.put, List.setIfInBounds_toArray, List.set_cons_zero, List.set_cons_succ]
            refine TW.eff (by rfl) (fun K hK => ?_); go_simp
            refine (rwinner_v xb.1 x.1 xb.2 x.2 w3.heap.size w3 R2.out R1.out (Nat.le_refl _)).mono ?_
            rintro e w4 ⟨rfl, b4⟩
            rw [HW.out]
            have hS2 : (∀ j' u, (rcC xb)[j']? = some u → w4.cell? ((ad.add (bestR (l.map Prod.fst) j * 7)).add j') = some u) ∧ ∀ j' u, (rcC x)[j']? = some u → w4.cell? ((ad.add (j * 7)).add j') = some u := ⟨fun j' u hu => (b4.cell (World.block_lt_of_cell? w3 _ (hS.1 j' u hu))).trans (hS.1 j' u hu), fun j' u hu => (b4.cell (World.block_lt_of_cell? w3 _ (hS.2 j' u hu))).trans (hS.2 j' u hu)⟩
            have E2 := Lib.hid (T2.out.trans (b4.mono T2.out.size))
            clear hS b4 T2
            refine hK.out _ _ hS2 ?_
            clear hK
            have hS := hS2
            clear hS2
            (try simp only [Act.put, List.setIfInBounds_toArray, List.set_cons_zero, List.set_cons_succ])
            iterate 5 ((first | (refine TW.val2 (v := ?_) ?_ ?_ ?_ ?_ ?_; rotate_left; (focus rfl); (focus (intro W hSW; (try dsimp only at hSW); (try (obtain ⟨hS1, hSW⟩ := hSW)); (try (obtain ⟨hS2, hSW⟩ := hSW)); (try (obtain ⟨hS3, hSW⟩ := hSW)); (try (obtain ⟨hS4, hSW⟩ := hSW)); (try (obtain ⟨hS5, hSW⟩ := hSW)); (try (obtain ⟨hS6, hSW⟩ := hSW)); (try (obtain ⟨hS7, hSW⟩ := hSW)); (try (obtain ⟨hS8, hSW⟩ := hSW)); go_simp; (try with_reducible rfl); done)); (focus exact fun _ _ _ h => h); (focus assumption)) | (refine TW.skip (e := false) ?_ ?_ ?_ ?_; (focus rfl); (focus exact fun _ _ _ h => h); (focus assumption))); simp only [Act.put, List.setIfInBounds_toArray, List.set_cons_zero, List.set_cons_succ])
            refine TW.done ?_
            clear hS
            go_wp2
            go_ret2
            exact ⟨rfl, E2.out⟩
          have HAN := Lib.hid (all_step HA.out HX.out (decide_eq_true hp))
          replace HWR := Lib.hid (HWR.out.trans (if_pos (HPB.out.trans hp.symm)))
          clear hp
          by_cases h5 : 0 < ordV x.1.v xb.1.v
          · have HW := Lib.hid (HWR.out.trans (if_pos h5))
            replace HBR := Lib.hid (HBR.out.trans (if_pos h5))
            clear h5 HWR
            refine wp_region_text [(0, false), (1, false), (2, false), (3, false), (4, false), (5, false), (6, false), (7, false), (8, true), (9, false), (10, false), (11, false), (12, false), (13, false)] (fun V => (∀ j' u, (rcC xb)[j']? = some u → V.cell? ((ad.add (bestR (l.map Prod.fst) j * 7)).add j') = some u) ∧ ∀ j' u, (rcC x)[j']? = some u → V.cell? ((ad.add (j * 7)).add j') = some u) (by kernel_rfl) (by kernel_rfl) (by kernel_rfl) (by kernel_rfl) (by kernel_rfl) (fun _ => ?_)
            simp only [outOf, List.getElem?_cons_zero, List.getElem?_cons_succ, Option.getD_some]
            have hS : (∀ j' u, (rcC xb)[j']? = some u → wr.drew.cell? ((ad.add (bestR (l.map Prod.fst) j * 7)).add j') = some u) ∧ ∀ j' u, (rcC x)[j']? = some u → wr.drew.cell? ((ad.add (j * 7)).add j') = some u := ⟨HCB.out, HC.out⟩
            have T2 := Lib.hid HB.out.drew
            have R1 := Lib.hid (show RReads wr.drew wr.drew.heap.size x.1 x.2 from ⟨HX2.out.cs, HX2.out.dg, HX2.out.hn, HX2.out.hm, HX2.out.ft⟩)
            have R2 := Lib.hid (show RReads wr.drew wr.drew.heap.size xb.1 xb.2 from ⟨HXB2.out.cs, HXB2.out.dg, HXB2.out.hn, HXB2.out.hm, HXB2.out.ft⟩)
            generalize wr.drew = w3 at *
            iterate 3 ((first | (refine TW.val2 (v := ?_) ?_ ?_ ?_ ?_ ?_; rotate_left; (focus rfl); (focus (intro W hSW; (try dsimp only at hSW); (try (obtain ⟨hS1, hSW⟩ := hSW)); (try (obtain ⟨hS2, hSW⟩ := hSW)); (try (obtain ⟨hS3, hSW⟩ := hSW)); (try (obtain ⟨hS4, hSW⟩ := hSW)); (try (obtain ⟨hS5, hSW⟩ := hSW)); (try (obtain ⟨hS6, hSW⟩ := hSW)); (try (obtain ⟨hS7, hSW⟩ := hSW)); (try (obtain ⟨hS8, hSW⟩ := hSW)); go_simp; (try with_reducible rfl); done)); (focus exact fun _ _ _ h => h); (focus assumption)) | (refine TW.skip (e := false) ?_ ?_ ?_ ?_; (focus rfl); (focus exact fun _ _ _ h => h); (focus assumption))); simp only [Act.put, List.setIfInBounds_toArray, List.set_cons_zero, List.set_cons_succ])
            refine TW.val2 (v := .agg #[.string (st xb.1.path), .slice xb.2.A xb.2.n xb.2.c, .int .i64 xb.1.dev, .bool xb.1.gone, .int .i64 xb.1.size, .int .i64 xb.1.len, .slice xb.2.D xb.2.m xb.2.k]) ?_ ?_ ?_ ?_ ?_
            (focus rfl)
            (focus exact fun V hV => exec_load_slot 27 (.tmp 36) rfl (ad.add (bestR (l.map Prod.fst) j * 7)) rfl [.string (st xb.1.path), .slice xb.2.A xb.2.n xb.2.c, .int .i64 xb.1.dev, .bool xb.1.gone, .int .i64 xb.1.size, .int .i64 xb.1.len, .slice xb.2.D xb.2.m xb.2.k] _ hV.1 Tryz.underlying27 rfl HI.out)
            (focus exact fun _ _ _ h => h)
            (focus exact hS)
            simp only [Act.put, List.setIfInBounds_toArray, List.set_cons_zero, List.set_cons_succ]
            iterate 3 ((first | (refine TW.val2 (v := ?_) ?_ ?_ ?_ ?_ ?_; rotate_left; (focus rfl); (focus (intro W hSW; (try dsimp only at hSW); (try (obtain ⟨hS1, hSW⟩ := hSW)); (try (obtain ⟨hS2, hSW⟩ := hSW)); (try (obtain ⟨hS3, hSW⟩ := hSW)); (try (obtain ⟨hS4, hSW⟩ := hSW)); (try (obtain ⟨hS5, hSW⟩ := hSW)); (try (obtain ⟨hS6, hSW⟩ := hSW)); (try (obtain ⟨hS7, hSW⟩ := hSW)); (try (obtain ⟨hS8, hSW⟩ := hSW)); go_simp; (try with_reducible rfl); done)); (focus exact fun _ _ _ h => h); (focus assumption)) | (refine TW.skip (e := false) ?_ ?_ ?_ ?_; (focus rfl); (focus exact fun _ _ _ h => h); (focus assumption))); simp only [Act.put, List.setIfInBounds_toArray, List.set_cons_zero, List.set_cons_succ])
            refine TW.val2 (v := .agg #[.string (st x.1.path), .slice x.2.A x.2.n x.2.c, .int .i64 x.1.dev, .bool x.1.gone, .int .i64 x.1.size, .int .i64 x.1.len, .slice x.2.D x.2.m x.2.k]) ?_ ?_ ?_ ?_ ?_
            (focus rfl)
            (focus exact fun V hV => exec_load_slot 27 (.tmp 40) rfl (ad.add (j * 7)) rfl [.string (st x.1.path), .slice x.2.A x.2.n x.2.c, .int .i64 x.1.dev, .bool x.1.gone, .int .i64 x.1.size, .int .i64 x.1.len, .slice x.2.D x.2.m x.2.k] _ hV.2 Tryz.underlying27 rfl HI.out)
            (focus exact fun _ _ _ h => h)
            (focus exact hS)
            simp only [Act.put, List.setIfInBounds_toArray, List.set_cons_zero, List.set_cons_succ]
            refine TW.eff (by rfl) (fun K hK => ?_); go_simp
            refine (rwinner_v xb.1 x.1 xb.2 x.2 w3.heap.size w3 R2.out R1.out (Nat.le_refl _)).mono ?_
            rintro e w4 ⟨rfl, b4⟩
            rw [HW.out]
            have hS2 : (∀ j' u, (rcC xb)[j']? = some u → w4.cell? ((ad.add (bestR (l.map Prod.fst) j * 7)).add j') = some u) ∧ ∀ j' u, (rcC x)[j']? = some u → w4.cell? ((ad.add (j * 7)).add j') = some u := ⟨fun j' u hu => (b4.cell (World.block_lt_of_cell? w3 _ (hS.1 j' u hu))).trans (hS.1 j' u hu), fun j' u hu => (b4.cell (World.block_lt_of_cell? w3 _ (hS.2 j' u hu))).trans (hS.2 j' u hu)⟩
            have E2 := Lib.hid (T2.out.trans (b4.mono T2.out.size))
            clear hS b4 T2
            refine hK.out _ _ hS2 ?_
            clear hK
            have hS := hS2
            clear hS2
            (try simp only [Act.put, List.setIfInBounds_toArray, List.set_cons_zero, List.set_cons_succ])
            iterate 5 ((first | (refine TW.val2 (v := ?_) ?_ ?_ ?_ ?_ ?_; rotate_left; (focus rfl); (focus (intro W hSW; (try dsimp only at hSW); (try (obtain ⟨hS1, hSW⟩ := hSW)); (try (obtain ⟨hS2, hSW⟩ := hSW)); (try (obtain ⟨hS3, hSW⟩ := hSW)); (try (obtain ⟨hS4, hSW⟩ := hSW)); (try (obtain ⟨hS5, hSW⟩ := hSW)); (try (obtain ⟨hS6, hSW⟩ := hSW)); (try (obtain ⟨hS7, hSW⟩ := hSW)); (try (obtain ⟨hS8, hSW⟩ := hSW)); go_simp; (try with_reducible rfl); done)); (focus exact fun _ _ _ h => h); (focus assumption)) | (refine TW.skip (e := false) ?_ ?_ ?_ ?_; (focus rfl); (focus exact fun _ _ _ h => h); (focus assumption))); simp only [Act.put, List.setIfInBounds_toArray, List.set_cons_zero, List.set_cons_succ])
            refine TW.done ?_
            clear hS
            go_wp2
            go_roundw
            case rel => exact ⟨j + 1, by omega, hlt, by go_num, by rw [HBR.out], HAN.out, E2.out⟩
            case measure => simp [intOf]; omega
          · have HW := Lib.hid (HWR.out.trans (if_neg h5))
            replace HBR := Lib.hid (HBR.out.trans (if_neg h5))
            clear h5 HWR
            refine wp_region_text [(0, false), (1, false), (2, false), (3, false), (4, false), (5, false), (6, false), (7, false), (8, true), (9, false), (10, false), (11, false), (12, false), (13, false)] (fun V => (∀ j' u, (rcC xb)[j']? = some u → V.cell? ((ad.add (bestR (l.map Prod.fst) j * 7)).add j') = some u) ∧ ∀ j' u, (rcC x)[j']? = some u → V.cell? ((ad.add (j * 7)).add j') = some u) (by kernel_rfl) (by kernel_rfl) (by kernel_rfl) (by kernel_rfl) (by kernel_rfl) (fun _ => ?_)
            simp only [outOf, List.getElem?_cons_zero, List.getElem?_cons_succ, Option.getD_some]
            have hS : (∀ j' u, (rcC xb)[j']? = some u → wr.drew.cell? ((ad.add (bestR (l.map Prod.fst) j * 7)).add j') = some u) ∧ ∀ j' u, (rcC x)[j']? = some u → wr.drew.cell? ((ad.add (j * 7)).add j') = some u := ⟨HCB.out, HC.out⟩
            have T2 := Lib.hid HB.out.drew
            have R1 := Lib.hid (show RReads wr.drew wr.drew.heap.size x.1 x.2 from ⟨HX2.out.cs, HX2.out.dg, HX2.out.hn, HX2.out.hm, HX2.out.ft⟩)
            have R2 := Lib.hid (show RReads wr.drew wr.drew.heap.size xb.1 xb.2 from ⟨HXB2.out.cs, HXB2.out.dg, HXB2.out.hn, HXB2.out.hm, HXB2.out.ft⟩)
            generalize wr.drew = w3 at *
            iterate 3 ((first | (refine TW.val2 (v := ?_) ?_ ?_ ?_ ?_ ?_; rotate_left; (focus rfl); (focus (intro W hSW; (try dsimp only at hSW); (try (obtain ⟨hS1, hSW⟩ := hSW)); (try (obtain ⟨hS2, hSW⟩ := hSW)); (try (obtain ⟨hS3, hSW⟩ := hSW)); (try (obtain ⟨hS4, hSW⟩ := hSW)); (try (obtain ⟨hS5, hSW⟩ := hSW)); (try (obtain ⟨hS6, hSW⟩ := hSW)); (try (obtain ⟨hS7, hSW⟩ := hSW)); (try (obtain ⟨hS8, hSW⟩ := hSW)); go_simp; (try with_reducible rfl); done)); (focus exact fun _ _ _ h => h); (focus assumption)) | (refine TW.skip (e := false) ?_ ?_ ?_ ?_; (focus rfl); (focus exact fun _ _ _ h => h); (focus assumption))); simp only [Act.put, List.setIfInBounds_toArray, List.set_cons_zero, List.set_cons_succ])
            refine TW.val2 (v := .agg #[.string (st xb.1.path), .slice xb.2.A xb.2.n xb.2.c, .int .i64 xb.1.dev, .bool xb.1.gone, .int .i64 xb.1.size, .int .i64 xb.1.len, .slice xb.2.D xb.2.m xb.2.k]) ?_ ?_ ?_ ?_ ?_
            (focus rfl)
            (focus exact fun V hV => exec_load_slot 27 (.tmp 36) rfl (ad.add (bestR (l.map Prod.fst) j * 7)) rfl [.string (st xb.1.path), .slice xb.2.A xb.2.n xb.2.c, .int .i64 xb.1.dev, .bool xb.1.gone, .int .i64 xb.1.size, .int .i64 xb.1.len, .slice xb.2.D xb.2.m xb.2.k] _ hV.1 Tryz.underlying27 rfl HI.out)
            (focus exact fun _ _ _ h => h)
            (focus exact hS)
            simp only [Act.put, List.setIfInBounds_toArray, List.set_cons_zero, List.set_cons_succ]
            iterate 3 ((first | (refine TW.val2 (v := ?_) ?_ ?_ ?_ ?_ ?_; rotate_left; (focus rfl); (focus (intro W hSW; (try dsimp only at hSW); (try (obtain ⟨hS1, hSW⟩ := hSW)); (try (obtain ⟨hS2, hSW⟩ := hSW)); (try (obtain ⟨hS3, hSW⟩ := hSW)); (try (obtain ⟨hS4, hSW⟩ := hSW)); (try (obtain ⟨hS5, hSW⟩ := hSW)); (try (obtain ⟨hS6, hSW⟩ := hSW)); (try (obtain ⟨hS7, hSW⟩ := hSW)); (try (obtain ⟨hS8, hSW⟩ := hSW)); go_simp; (try with_reducible rfl); done)); (focus exact fun _ _ _ h => h); (focus assumption)) | (refine TW.skip (e := false) ?_ ?_ ?_ ?_; (focus rfl); (focus exact fun _ _ _ h => h); (focus assumption))); simp only [Act.put, List.setIfInBounds_toArray, List.set_cons_zero, List.set_cons_succ])
            refine TW.val2 (v := .agg #[.string (st x.1.path), .slice x.2.A x.2.n x.2.c, .int .i64 x.1.dev, .bool x.1.gone, .int .i64 x.1.size, .int .i64 x.1.len, .slice x.2.D x.2.m x.2.k]) ?_ ?_ ?_ ?_ ?_
            (focus rfl)
            (focus exact fun V hV => exec_load_slot 27 (.tmp 40) rfl (ad.add (j * 7)) rfl [.string (st x.1.path), .slice x.2.A x.2.n x.2.c, .int .i64 x.1.dev, .bool x.1.gone, .int .i64 x.1.size, .int .i64 x.1.len, .slice x.2.D x.2.m x.2.k] _ hV.2 Tryz.underlying27 rfl HI.out)
            (focus exact fun _ _ _ h => h)
            (focus exact hS)
            simp only [Act.put, List.setIfInBounds_toArray, List.set_cons_zero, List.set_cons_succ]
            refine TW.eff (by rfl) (fun K hK => ?_); go_simp
            refine (rwinner_v xb.1 x.1 xb.2 x.2 w3.heap.size w3 R2.out R1.out (Nat.le_refl _)).mono ?_
            rintro e w4 ⟨rfl, b4⟩
            rw [HW.out]
            have hS2 : (∀ j' u, (rcC xb)[j']? = some u → w4.cell? ((ad.add (bestR (l.map Prod.fst) j * 7)).add j') = some u) ∧ ∀ j' u, (rcC x)[j']? = some u → w4.cell? ((ad.add (j * 7)).add j') = some u := ⟨fun j' u hu => (b4.cell (World.block_lt_of_cell? w3 _ (hS.1 j' u hu))).trans (hS.1 j' u hu), fun j' u hu => (b4.cell (World.block_lt_of_cell? w3 _ (hS.2 j' u hu))).trans (hS.2 j' u hu)⟩
            have E2 := Lib.hid (T2.out.trans (b4.mono T2.out.size))
            clear hS b4 T2
            refine hK.out _ _ hS2 ?_
            clear hK
            have hS := hS2
            clear hS2
            (try simp only [Act.put, List.setIfInBounds_toArray, List.set_cons_zero, List.set_cons_succ])
            iterate 5 ((first | (refine TW.val2 (v := ?_) ?_ ?_ ?_ ?_ ?_; rotate_left; (focus rfl); (focus (intro W hSW; (try dsimp only at hSW); (try (obtain ⟨hS1, hSW⟩ := hSW)); (try (obtain ⟨hS2, hSW⟩ := hSW)); (try (obtain ⟨hS3, hSW⟩ := hSW)); (try (obtain ⟨hS4, hSW⟩ := hSW)); (try (obtain ⟨hS5, hSW⟩ := hSW)); (try (obtain ⟨hS6, hSW⟩ := hSW)); (try (obtain ⟨hS7, hSW⟩ := hSW)); (try (obtain ⟨hS8, hSW⟩ := hSW)); go_simp; (try with_reducible rfl); done)); (focus exact fun _ _ _ h => h); (focus assumption)) | (refine TW.skip (e := false) ?_ ?_ ?_ ?_; (focus rfl); (focus exact fun _ _ _ h => h); (focus assumption))); simp only [Act.put, List.setIfInBounds_toArray, List.set_cons_zero, List.set_cons_succ])
            refine TW.done ?_
            clear hS
            go_wp2
            go_roundw
            case rel => exact ⟨j + 1, by omega, hlt, by go_num, by rw [HBR.out], HAN.out, E2.out⟩
            case measure => simp [intOf]; omega
        · obtain rfl : j = k := by omega
          have hpt : pathsR (l.map Prod.fst) = true := by
            have := HA.out
            rwa [List.take_of_length_le (by rw [List.length_map, HLN.out]; exact Nat.le_refl _)] at this
          have h1 := if_p HO.out hpt
          rw [List.length_map, HLN.out] at h1
          obtain rfl := h1
          clear hpt
          go_wp2
          go_ret2
          exact ⟨rfl, HB.out⟩
end Go.Proofs.YtndekohimfjdeaaGreatDoor

namespace Go.Proofs.YtndekohimfjdeaaGreatDoor
open Go.RowKit Go.MapKept Go.ChangeMaps
open Go.Maps (Keyed)
section
variable {α β : Type} [DecidableEq α]
def aget (k : α) : List (α × β) → Option β
  | [] => none
  | x :: l => if x.1 = k then some x.2 else aget k l
def aput (k : α) (v : β) : List (α × β) → List (α × β)
  | [] => [(k, v)]
  | x :: l => if x.1 = k then (k, v) :: l else x :: aput k v l
def adel (k : α) : List (α × β) → List (α × β)
  | [] => []
  | x :: l => if x.1 = k then l else x :: adel k l
theorem aget_none {k : α} : ∀ {l : List (α × β)}, (∀ x ∈ l, x.1 ≠ k) → aget k l = none
  | [], _ => rfl
  | x :: l, h => by rw [aget, if_neg (h x List.mem_cons_self), aget_none fun y hy => h y (List.mem_cons_of_mem _ hy)]
theorem aget_some {k : α} : ∀ {l : List (α × β)} {v : β}, aget k l = some v → (k, v) ∈ l
  | [], _, h => by simp [aget] at h
  | x :: l, v, h => by
    rw [aget] at h
    split at h
    · rename_i e
      injection h with h
      subst e; subst h
      exact List.mem_cons_self
    · exact List.mem_cons_of_mem _ (aget_some h)
theorem aget_at {k : α} : ∀ {l : List (α × β)} {j : Nat} {v : β}, l.Pairwise (fun x y => x.1 ≠ y.1) → l[j]? = some (k, v) → aget k l = some v
  | [], _, _, _, h => by simp at h
  | x :: l, 0, v, _, h => by
    simp only [List.getElem?_cons_zero, Option.some.injEq] at h
    subst h
    simp [aget]
  | x :: l, j + 1, v, hp, h => by
    rw [List.getElem?_cons_succ] at h
    rw [List.pairwise_cons] at hp
    rw [aget, if_neg (hp.1 _ (List.mem_of_getElem? h)), aget_at hp.2 h]
theorem aput_none {k : α} {v : β} : ∀ {l : List (α × β)}, (∀ x ∈ l, x.1 ≠ k) → aput k v l = l ++ [(k, v)]
  | [], _ => rfl
  | x :: l, h => by rw [aput, if_neg (h x List.mem_cons_self), aput_none fun y hy => h y (List.mem_cons_of_mem _ hy)]; rfl
theorem aput_at {k : α} {v u : β} : ∀ {l : List (α × β)} {j : Nat}, l.Pairwise (fun x y => x.1 ≠ y.1) → l[j]? = some (k, u) → aput k v l = l.set j (k, v)
  | [], _, _, h => by simp at h
  | x :: l, 0, _, h => by
    simp only [List.getElem?_cons_zero, Option.some.injEq] at h
    subst h
    simp [aput]
  | x :: l, j + 1, hp, h => by
    rw [List.getElem?_cons_succ] at h
    rw [List.pairwise_cons] at hp
    rw [aput, if_neg (hp.1 _ (List.mem_of_getElem? h)), aput_at hp.2 h, List.set_cons_succ]
theorem adel_none {k : α} : ∀ {l : List (α × β)}, (∀ x ∈ l, x.1 ≠ k) → adel k l = l
  | [], _ => rfl
  | x :: l, h => by rw [adel, if_neg (h x List.mem_cons_self), adel_none fun y hy => h y (List.mem_cons_of_mem _ hy)]
theorem adel_at {k : α} {u : β} : ∀ {l : List (α × β)} {j : Nat}, l.Pairwise (fun x y => x.1 ≠ y.1) → l[j]? = some (k, u) → adel k l = l.eraseIdx j
  | [], _, _, h => by simp at h
  | x :: l, 0, _, h => by
    simp only [List.getElem?_cons_zero, Option.some.injEq] at h
    subst h
    simp [adel]
  | x :: l, j + 1, hp, h => by
    rw [List.getElem?_cons_succ] at h
    rw [List.pairwise_cons] at hp
    rw [adel, if_neg (hp.1 _ (List.mem_of_getElem? h)), adel_at hp.2 h]
    rfl
theorem mem_aput {k : α} {v : β} : ∀ {l : List (α × β)} {y : α × β}, y ∈ aput k v l → y = (k, v) ∨ y ∈ l
  | [], y, h => by simpa [aput] using h
  | x :: l, y, h => by
    rw [aput] at h
    split at h
    · rcases List.mem_cons.1 h with h | h
      · exact .inl h
      · exact .inr (List.mem_cons_of_mem _ h)
    · rcases List.mem_cons.1 h with h | h
      · exact .inr (h ▸ List.mem_cons_self)
      · rcases mem_aput h with h | h
        · exact .inl h
        · exact .inr (List.mem_cons_of_mem _ h)
theorem aput_pair {k : α} {v : β} : ∀ {l : List (α × β)}, l.Pairwise (fun x y => x.1 ≠ y.1) → (aput k v l).Pairwise (fun x y => x.1 ≠ y.1)
  | [], _ => by simp [aput]
  | x :: l, h => by
    rw [List.pairwise_cons] at h
    rw [aput]
    split
    · rename_i e
      rw [List.pairwise_cons]
      exact ⟨fun y hy => e ▸ h.1 y hy, h.2⟩
    · rename_i e
      rw [List.pairwise_cons]
      refine ⟨fun y hy => ?_, aput_pair h.2⟩
      rcases mem_aput hy with rfl | hy
      · exact e
      · exact h.1 y hy
theorem aget_aput (k q : α) (v : β) : ∀ l : List (α × β), aget q (aput k v l) = if k = q then some v else aget q l
  | [] => by simp [aput, aget]
  | x :: l => by
    rw [aput]
    split
    · rename_i e
      subst e
      rw [aget, aget]
      split <;> simp_all
    · rename_i e
      rw [aget, aget, aget_aput k q v l]
      split
      · rename_i e2
        rw [if_neg (fun e3 => e (e2.trans e3.symm))]
      · rfl
theorem adel_sub {k : α} : ∀ {l : List (α × β)}, (adel k l).Sublist l
  | [] => .slnil
  | x :: l => by
    rw [adel]
    split
    · exact List.sublist_cons_self _ _
    · exact adel_sub.cons_cons _
theorem aget_adel (k q : α) : ∀ {l : List (α × β)}, l.Pairwise (fun x y => x.1 ≠ y.1) → aget q (adel k l) = if k = q then none else aget q l
  | [], _ => by simp [adel, aget]
  | x :: l, h => by
    rw [List.pairwise_cons] at h
    rw [adel]
    split
    · rename_i e
      subst e
      rw [aget]
      split
      · rename_i e2
        rw [aget_none fun y hy => e2 ▸ (h.1 y hy).symm]
      · rfl
    · rename_i e
      rw [aget, aget, aget_adel k q h.2]
      split
      · rename_i e2
        rw [if_neg (fun e3 => e (e2.trans e3.symm))]
      · rfl
end
section
variable {P : Program} {k e t : TypeId} {α β : Type} [DecidableEq α] {ek : α → Value} {ev : β → Value} {w w' : World} {b : Nat} {l : List (α × β)}
/-- Block b is a map that reads as the list l. -/
def MapIs (P : Program) (k : TypeId) (ek : α → Value) (ev : β → Value) (w : World) (b : Nat) (l : List (α × β)) : Prop :=
  ∃ es clock, w.heap[b]? = some (.map es clock) ∧ es.toList.map (fun x => (x.key, x.val)) = l.map (fun x => (ek x.1, ev x.2)) ∧ (∀ x ∈ l, ∃ q, keyOf P k (ek x.1) = some q) ∧ l.Pairwise (fun x y => x.1 ≠ y.1)
omit [DecidableEq α] in
theorem MapIs.made (w : World) : MapIs P k ek ev (w.alloc (.map #[] 0)) w.heap.size ([] : List (α × β)) :=
  ⟨#[], 0, (MapKept.heap_alloc w _).1, rfl, by simp, List.Pairwise.nil⟩
omit [DecidableEq α] in
theorem MapIs.keep (h : MapIs P k ek ev w b l) (hb : w'.heap[b]? = w.heap[b]?) : MapIs P k ek ev w' b l := by
  obtain ⟨es, clock, h1, h2⟩ := h
  exact ⟨es, clock, hb.trans h1, h2⟩
omit [DecidableEq α] in
theorem MapIs.lt (h : MapIs P k ek ev w b l) : b < w.heap.size := by
  obtain ⟨es, clock, hb, _⟩ := h
  exact (Array.getElem?_eq_some_iff.1 hb).1
omit [DecidableEq α] in
theorem MapIs.pair (h : MapIs P k ek ev w b l) : l.Pairwise (fun x y => x.1 ≠ y.1) := by
  obtain ⟨_, _, _, _, _, h⟩ := h
  exact h
omit [DecidableEq α] in
theorem mapIs_find (K : Keyed P k) (hinj : ∀ x y : α, ek x = ek y → x = y) {es : Array MapEntry} (hm : es.toList.map (fun x => (x.key, x.val)) = l.map (fun x => (ek x.1, ev x.2))) (hk : ∀ x ∈ l, ∃ q, keyOf P k (ek x.1) = some q)
    (w : World) {x : α} {q : Lit} (hx : keyOf P k (ek x) = some q) :
    ((Instr.findKey k (ek x) es.toList).run P w = .ok none w ∧ ∀ y ∈ l, y.1 ≠ x) ∨ ∃ (j : Nat) (e0 : MapEntry) (u : β), (Instr.findKey k (ek x) es.toList).run P w = .ok (some (j, ev u)) w ∧ es.toList[j]? = some e0 ∧ e0.key = ek x ∧ e0.val = ev u ∧ l[j]? = some (x, u) := by
  have hkeys : ∀ y ∈ es.toList, ∃ q, keyOf P k y.key = some q := fun y hy => by
    have : (y.key, y.val) ∈ es.toList.map (fun x => (x.key, x.val)) := List.mem_map_of_mem hy
    rw [hm] at this
    obtain ⟨z, hz, he⟩ := List.mem_map.1 this
    obtain ⟨q, hq⟩ := hk z hz
    injection he with h1 h2
    exact ⟨q, h1 ▸ hq⟩
  rcases K.find w hx es.toList hkeys with ⟨h1, h2⟩ | ⟨j, e0, h1, h2, h3⟩
  · refine .inl ⟨h1, fun y hy e => ?_⟩
    have : (ek y.1, ev y.2) ∈ l.map (fun x => (ek x.1, ev x.2)) := List.mem_map.2 ⟨y, hy, rfl⟩
    rw [← hm] at this
    obtain ⟨z, hz, he⟩ := List.mem_map.1 this
    injection he with h4 h5
    exact h2 z hz (h4.trans (by rw [e]))
  · have h4 : (es.toList.map (fun x => (x.key, x.val)))[j]? = some (e0.key, e0.val) := by rw [List.getElem?_map, h2]; rfl
    rw [hm, List.getElem?_map] at h4
    cases hl : l[j]? with
    | none => rw [hl] at h4; cases h4
    | some y =>
      rw [hl] at h4
      simp only [Option.map_some, Option.some.injEq, Prod.mk.injEq] at h4
      obtain ⟨y1, y2⟩ := y
      have : y1 = x := hinj _ _ (h4.1.trans h3)
      subst this
      exact .inr ⟨j, e0, y2, by rw [h1, ← h4.2], h2, h3, h4.2.symm, hl⟩
theorem MapIs.look (h : MapIs P k ek ev w b l) (K : Keyed P k) (hinj : ∀ x y : α, ek x = ek y → x = y) (ht : P.underlying t = some (.map k e)) {z : Value} (hz : (zeroValue e).run P w = .ok z w) (c : Bool) {x : α} {q : Lit} (hx : keyOf P k (ek x) = some q) :
    (Instr.lookup t (.map (some b)) (ek x) c).run P w = .ok (if c then .tuple #[((aget x l).map ev).getD z, .bool (aget x l).isSome] else ((aget x l).map ev).getD z) w := by
  obtain ⟨es, clock, hb, hm, hk, hp⟩ := h
  rcases mapIs_find K hinj hm hk w hx with ⟨h1, h2⟩ | ⟨j, e0, u, h1, h2, h3, h4, h5⟩
  · rw [aget_none h2]
    cases c <;> simp [Instr.lookup, run_underlying ht, MapKept.run_getObj_map hb, K.check w _ hx, h1, hz, Result.andThen]
  · rw [aget_at hp h5]
    cases c <;> simp [Instr.lookup, run_underlying ht, MapKept.run_getObj_map hb, K.check w _ hx, h1, Result.andThen]
theorem look_nil (K : Keyed P k) (ht : P.underlying t = some (.map k e)) {z : Value} (hz : (zeroValue e).run P w = .ok z w) (c : Bool) {key : Value} {q : Lit} (hx : keyOf P k key = some q) :
    (Instr.lookup t (.map none) key c).run P w = .ok (if c then .tuple #[z, .bool false] else z) w := Maps.look_nil c K ht hz hx
theorem MapIs.store (h : MapIs P k ek ev w b l) (K : Keyed P k) (hinj : ∀ x y : α, ek x = ek y → x = y) (ht : P.underlying t = some (.map k e)) {x : α} {q : Lit} (hx : keyOf P k (ek x) = some q) (v : β) :
    ∃ w', (Instr.mapUpdate t (.map (some b)) (ek x) (ev v)).run P w = .ok () w' ∧ MapIs P k ek ev w' b (aput x v l) ∧ w.grownBy w' (some b) ∧ w'.heap.size = w.heap.size := by
  obtain ⟨es, clock, hb, hm, hk, hp⟩ := h
  have hg : ∀ es' clock', w.grownBy (setBlock w b (.map es' clock')) (some b) := fun es' clock' => ⟨rfl, rfl, rfl, by simp [setBlock], fun i _ hi => heap_setBlock_other hb _ (fun e => hi (by rw [e]))⟩
  have hK' : ∀ y ∈ aput x v l, ∃ q, keyOf P k (ek y.1) = some q := fun y hy => by
    rcases mem_aput hy with rfl | hy
    · exact ⟨q, hx⟩
    · exact hk y hy
  rcases mapIs_find K hinj hm hk w hx with ⟨h1, h2⟩ | ⟨j, e0, u, h1, h2, h3, h4, h5⟩
  · refine ⟨setBlock w b (.map (es.push ⟨ek x, ev v, clock⟩) (clock + 1)), ?_, ⟨_, _, heap_setBlock_same hb _, ?_, hK', aput_pair hp⟩, hg _ _, by simp [setBlock]⟩
    · simp [Instr.mapUpdate, run_underlying ht, MapKept.run_getObj_map hb, K.check w false hx, h1, MapKept.run_setObj_map _ hb, Result.andThen, setBlock]
    · rw [aput_none h2, Array.toList_push, List.map_append, hm, List.map_append]; rfl
  · have hjs : j < es.size := by simpa using (List.getElem?_eq_some_iff.1 h2).1
    have hej : es[j]? = some e0 := by rw [← Array.getElem?_toList]; exact h2
    refine ⟨setBlock w b (.map (es.modify j fun e => { e with key := ek x, val := ev v }) clock), ?_, ⟨_, _, heap_setBlock_same hb _, ?_, hK', aput_pair hp⟩, hg _ _, by simp [setBlock]⟩
    · simp [Instr.mapUpdate, run_underlying ht, MapKept.run_getObj_map hb, K.check w false hx, h1, MapKept.run_setObj_map _ hb, Result.andThen, setBlock, hej, h3, K.stays w hx]
    · rw [aput_at hp h5, List.map_set, ← hm]
      apply List.ext_getElem?
      intro i
      rw [List.getElem?_map, List.getElem?_set, Array.getElem?_toList, Array.getElem?_modify, List.length_map, List.getElem?_map, Array.getElem?_toList]
      by_cases hi : j = i
      · subst hi
        simp [hjs, Array.length_toList]
      · simp [hi]
theorem MapIs.drop (h : MapIs P k ek ev w b l) (K : Keyed P k) (hinj : ∀ x y : α, ek x = ek y → x = y) (ht : P.underlying t = some (.map k e)) {x : α} {q : Lit} (hx : keyOf P k (ek x) = some q) (ty : TypeId) :
    ∃ w', (Builtin.delete_ #[t, k] ty #[.map (some b), ek x]).run P w = .ok (.tuple #[]) w' ∧ MapIs P k ek ev w' b (adel x l) ∧ w.grownBy w' (some b) ∧ w'.heap.size = w.heap.size := by
  obtain ⟨es, clock, hb, hm, hk, hp⟩ := h
  have hg : ∀ es' clock', w.grownBy (setBlock w b (.map es' clock')) (some b) := fun es' clock' => ⟨rfl, rfl, rfl, by simp [setBlock], fun i _ hi => heap_setBlock_other hb _ (fun e => hi (by rw [e]))⟩
  have hK' : ∀ y ∈ adel x l, ∃ q, keyOf P k (ek y.1) = some q := fun y hy => hk y (adel_sub.subset hy)
  rcases mapIs_find K hinj hm hk w hx with ⟨h1, h2⟩ | ⟨j, e0, u, h1, h2, h3, h4, h5⟩
  · refine ⟨setBlock w b (.map es clock), ?_, ⟨_, _, heap_setBlock_same hb _, ?_, hK', hp.sublist adel_sub⟩, hg _ _, by simp [setBlock]⟩
    · simp [Builtin.delete_, run_underlying ht, MapKept.run_getObj_map hb, K.check w _ hx, h1, MapKept.run_setObj_map _ hb, Result.andThen, setBlock]
    · rw [adel_none h2, hm]
  · have hjl : j < es.toList.length := (List.getElem?_eq_some_iff.1 h2).1
    have hjs : j < es.size := by simpa using hjl
    have hsub : (es.eraseIdxIfInBounds j).toList = es.toList.eraseIdx j := by
      unfold Array.eraseIdxIfInBounds
      rw [dif_pos hjs]
      simp
    refine ⟨setBlock w b (.map (es.eraseIdxIfInBounds j) clock), ?_, ⟨_, _, heap_setBlock_same hb _, ?_, hK', hp.sublist adel_sub⟩, hg _ _, by simp [setBlock]⟩
    · simp [Builtin.delete_, run_underlying ht, MapKept.run_getObj_map hb, K.check w _ hx, h1, MapKept.run_setObj_map _ hb, Result.andThen, setBlock]
    · rw [adel_at hp h5, hsub]
      have e1 : ∀ {γ δ : Type} (f : γ → δ) (l : List γ) (i : Nat), (l.eraseIdx i).map f = (l.map f).eraseIdx i := fun f l i => by
        induction l generalizing i with
        | nil => rfl
        | cons a l ih => cases i <;> simp [ih]
      rw [e1, hm, e1]
end
end Go.Proofs.YtndekohimfjdeaaGreatDoor

namespace Go.Proofs.YtndekohimfjdeaaGreatDoor
open Go.RowKit Go.Shelf
attribute [local go_sem] Oper.semAt_some
/-- The numbers below a thousand. -/
abbrev Nm := { k : Nat // k < 1000 }
set_option maxRecDepth 100000 in
set_option maxHeartbeats 4000000 in
theorem numbers_stops (w : World) (m : Nat) : SeqStopsK Fence.wide m Tryz.prog 63 #[] (fun x : Nm => #[.int .i64 (x.1 : Int)]) (fun _ _ => True)
      (fun xs => xs.map (·.1) = List.range 1000) (fun pre => ∃ k, k < 1000 ∧ pre.map (·.1) = List.range (k + 1)) 1000 w := fun l J Jx W hW hJ hJx hY h0 => by
  refine callsIn_of_wp Tryz.func63 rfl trivial ?_ rfl
  simp only [Tryz.ntmps63, List.size_toArray, List.length_cons, List.length_nil, Nat.reduceAdd, Nat.reduceSub, Array.replicate_succ, Array.replicate_zero, List.push_toArray, List.append_toArray, List.nil_append, List.cons_append]
  gi_wp2
  gi_loopw [3] (fun i wr => ∃ (k : Nat) (pre : List Nm), k ≤ 1000 ∧ i = .int .i64 (k : Int) ∧ pre.map (·.1) = List.range k ∧ J pre wr) (fun i _ => 1000 - (intOf i).toNat)
  case atStart => exact ⟨0, [], Nat.zero_le _, rfl, rfl, h0⟩
  case round =>
    obtain ⟨k, pre, hk, rfl, hpre, hJs⟩ := hrel
    by_cases hlt : k < 1000
    · obtain ⟨fn, tmps, assign, body, hy, hR⟩ := hY pre ⟨k, hlt⟩ wr hJs (by have := congrArg List.length hpre; simp at this; omega)
      dsimp only at hy
      have k1 : (k : Int) < 1000 := by omega
      gi_wp2
      refine ⟨fun h => by simp [Fence.wide] at h, hR.mono ?_⟩
      rintro e1 W3 (⟨rfl, hJ3, _⟩ | ⟨rfl, hJx3⟩)
      · gi_wp2
        go_roundw
        case rel => exact ⟨k + 1, pre ++ [⟨k, hlt⟩], hlt, by go_num, by rw [List.map_append, hpre, List.range_succ]; rfl, hJ3⟩
        case measure => simp [intOf]; omega
      · gi_wp2
        refine bodyPost_ret (results_none rfl _ _ _) rfl ?_
        exact ⟨⟨_, rfl⟩, .inr ⟨_, ⟨k, hlt, by rw [List.map_append, hpre, List.range_succ]; rfl⟩, hJx3⟩⟩
    · obtain rfl : k = 1000 := by omega
      gi_wp2
      go_end0
      exact ⟨⟨_, rfl⟩, .inl ⟨pre, hpre, hJs⟩⟩
theorem numbers_v (w : World) : Calls Tryz.prog 37 #[] w fun e w' => e = .returned (.func (.func 63) #[] #[]) ∧ w = w' := by
  go_enter Tryz.func37, Tryz.ntmps37
  go_wp2
  go_ret
  exact ⟨rfl, rfl⟩
/-- The first number that serves. -/
def placeF (tk : Bl → Bool) (p : Bl) (dv : Int) : List Nat → Bl × Nat
  | [] => ([], 3)
  | n :: ns => if (copyL p dv n).2 ≠ 0 then ([], (copyL p dv n).2) else if tk (copyL p dv n).1 = false then ((copyL p dv n).1, 0) else placeF tk p dv ns
def placeR (tk : Bl → Bool) (r : Rcd) : Bl × Nat := if okR r ≠ 0 then ([], okR r) else placeF tk r.path r.dev (List.range 1000)
theorem run_loadVar_one {P : Program} (w : World) (ad : Addr) (ty : TypeId) (v : Value) (d : TypeDesc) (hu : P.underlying ty = some d) (hd : (match d with | .struct _ | .array _ _ => true | _ => false) = false) (hc : w.cell? ad = some v) :
    (loadVar ty ad).run P w = .ok v w := by
  have hagg : (isAgg ty).run P w = .ok false w := by
    unfold isAgg
    rw [Sem.run_bind, run_underlying hu w]
    cases d <;> simp_all
  simp [loadVar, Sem.run_bind, hagg, hc, go_sem]
theorem results_cells2 {P : Program} {fn : Func} {p q : Tmp} {ty ty2 : TypeId} (h : fn.results = #[.cell p ty, .cell q ty2]) (tmps : Array Value) (w : World) (a b : Addr) (va vb : Value) (d d2 : TypeDesc)
    (hp : tmps.getD p undef = .pointer (some a)) (hq : tmps.getD q undef = .pointer (some b)) (ha : w.cell? a = some va) (hb : w.cell? b = some vb)
    (hu : P.underlying ty = some d) (hd : (match d with | .struct _ | .array _ _ => true | _ => false) = false) (hu2 : P.underlying ty2 = some d2) (hd2 : (match d2 with | .struct _ | .array _ _ => true | _ => false) = false) :
    (results fn tmps).run P w = .ok (.tuple #[va, vb]) w := by
  have hp' : tmps[p]?.getD undef = .pointer (some a) := by simpa using hp
  have hq' : tmps[q]?.getD undef = .pointer (some b) := by simpa using hq
  simp [results, h, hp', hq', asAddr, run_loadVar_one w a ty va d hu hd ha, run_loadVar_one w b ty2 vb d2 hu2 hd2 hb]
theorem eqIn_nilF (V : World) (d : Nat) : (Op.equalIn (d + 1) 42 .nilFunc .nilFunc).run Tryz.prog V = .ok true V := by simp [Op.equalIn, run_underlying Tryz.underlying42]
theorem eqIn_fnF (V : World) (d : Nat) (f : Fn) (x y : Array Value) : (Op.equalIn (d + 1) 42 (.func f x y) .nilFunc).run Tryz.prog V = .ok false V := by simp [Op.equalIn, run_underlying Tryz.underlying42]
theorem eq_nilF (V : World) : (binOp .eql 42 .nilFunc .nilFunc).run Tryz.prog V = .ok (.bool true) V := by
  have h : (Op.equal 42 .nilFunc .nilFunc).run Tryz.prog V = .ok true V := eqIn_nilF V 9999
  simp only [binOp]
  simp [h]
theorem eq_fnF (V : World) (f : Fn) (x y : Array Value) : (binOp .eql 42 (.func f x y) .nilFunc).run Tryz.prog V = .ok (.bool false) V := by
  have h : (Op.equal 42 (.func f x y) .nilFunc).run Tryz.prog V = .ok false V := eqIn_fnF V 9999 f x y
  simp only [binOp]
  simp [h]
theorem four_allocs (w : World) (a b c d : Obj) : (((((w.alloc a).alloc b).alloc c).alloc d).heap[w.heap.size]? = some a ∧ ((((w.alloc a).alloc b).alloc c).alloc d).heap[w.heap.size + 1]? = some b ∧ ((((w.alloc a).alloc b).alloc c).alloc d).heap[w.heap.size + 2]? = some c ∧ ((((w.alloc a).alloc b).alloc c).alloc d).heap[w.heap.size + 3]? = some d) ∧ Below w.heap.size w ((((w.alloc a).alloc b).alloc c).alloc d) ∧ ((((w.alloc a).alloc b).alloc c).alloc d).heap.size = w.heap.size + 4 := by
  have z1 : (w.alloc a).heap.size = w.heap.size + 1 := by simp
  have z2 : ((w.alloc a).alloc b).heap.size = w.heap.size + 2 := by simp
  have z3 : (((w.alloc a).alloc b).alloc c).heap.size = w.heap.size + 3 := by simp
  refine ⟨⟨?_, ?_, ?_, ?_⟩, (((((Below.refl _ w).alloc (Nat.le_refl _) a).alloc (by omega) b).alloc (by omega) c).alloc (by omega) d), by simp⟩
  · exact (Below.heap_alloc _ d _ (by omega)).trans ((Below.heap_alloc _ c _ (by omega)).trans ((Below.heap_alloc _ b _ (by omega)).trans (heap_alloc_new w a)))
  · have e := heap_alloc_new (w.alloc a) b
    rw [z1] at e
    exact (Below.heap_alloc _ d _ (by omega)).trans ((Below.heap_alloc _ c _ (by omega)).trans e)
  · have e := heap_alloc_new ((w.alloc a).alloc b) c
    rw [z2] at e
    exact (Below.heap_alloc _ d _ (by omega)).trans e
  · have e := heap_alloc_new (((w.alloc a).alloc b).alloc c) d
    rwa [z3] at e
set_option maxRecDepth 100000 in
set_option maxHeartbeats 8000000 in
/-- No question: an error. -/
theorem place_nil (r : Rcd) (a : RSh) (B : Nat) (w : World) (he : EnvM w) (hr : RReads w B r a) (hB : B ≤ w.heap.size) (hok : okR r = 0) :
    Calls Tryz.prog 15 #[.agg #[.string (st r.path), .slice a.A a.n a.c, .int .i64 r.dev, .bool r.gone, .int .i64 r.size, .int .i64 r.len, .slice a.D a.m a.k], .nilFunc] w fun e w' => e = .returned (.tuple #[.string ⟨#[]⟩, .int .i64 2]) ∧ Below w.heap.size w w' := by
  have HI := Lib.hid (show (Tryz.prog.info? 27).map (·.size) = some 7 by kernel_rfl)
  obtain ⟨⟨x0, x1, x2, x3⟩, ba, hz⟩ := four_allocs w (.cells #[.string (st r.path), .slice a.A a.n a.c, .int .i64 r.dev, .bool r.gone, .int .i64 r.size, .int .i64 r.len, .slice a.D a.m a.k] 27) (.cells #[.nilFunc] 42) (.cells #[.string ⟨#[]⟩] 9) (.cells #[.int .i64 0] 33)
  have X0 := Lib.hid x0
  have X1 := Lib.hid x1
  have X2 := Lib.hid x2
  have X3 := Lib.hid x3
  have BA := Lib.hid ba
  have HR := Lib.hid hr
  have HE := Lib.hid he
  have HOK := Lib.hid hok
  clear x0 x1 x2 x3 ba hr he hok
  go_enter Tryz.func15, Tryz.ntmps15
  go_upto_region 1 with fail
  generalize ((((w.alloc (.cells #[.string (st r.path), .slice a.A a.n a.c, .int .i64 r.dev, .bool r.gone, .int .i64 r.size, .int .i64 r.len, .slice a.D a.m a.k] 27)).alloc (.cells #[.nilFunc] 42)).alloc (.cells #[.string ⟨#[]⟩] 9)).alloc (.cells #[.int .i64 0] 33)) = w1 at *
  go_wp2_with (first
    | (refine wpList_load_row rfl 27 (.tmp 2) rfl w.heap.size rfl 27 _ (0, 0) _ X0.out Tryz.underlying27 rfl HI.out ?_)
    | fail)
  refine (recCheck_v r a B w1 (HE.out.below BA.out) (HR.out.below (BA.out.mono hB)) (by omega)).mono ?_
  rintro e w2 ⟨rfl, b3⟩
  rw [HOK.out]
  have c1 : w2.cell? ⟨w.heap.size + 1, 0, none⟩ = some .nilFunc := by rw [cell_of_row _ _ 0 _ _ _ ((b3.block (w.heap.size + 1) (by omega)).trans X1.out)]; rfl
  have c2 : w2.cell? ⟨w.heap.size + 2, 0, none⟩ = some (.string ⟨#[]⟩) := by rw [cell_of_row _ _ 0 _ _ _ ((b3.block (w.heap.size + 2) (by omega)).trans X2.out)]; rfl
  have c3 : w2.cell? ⟨w.heap.size + 3, 0, none⟩ = some (.int .i64 0) := by rw [cell_of_row _ _ 0 _ _ _ ((b3.block (w.heap.size + 3) (by omega)).trans X3.out)]; rfl
  have f2 := frozen_of_row _ (w.heap.size + 2) 0 _ _ ((b3.block (w.heap.size + 2) (by omega)).trans X2.out)
  have f3 := frozen_of_row _ (w.heap.size + 3) 0 _ _ ((b3.block (w.heap.size + 3) (by omega)).trans X3.out)
  replace BA := Lib.hid (BA.out.trans (b3.mono (by omega)))
  clear b3
  have hn := eq_nilF w2
  go_wp2
  have e2 : ((w2.setCell ⟨w.heap.size + 2, 0, none⟩ (.string ⟨#[]⟩)).setCell ⟨w.heap.size + 3, 0, none⟩ (.int .i64 2)).cell? ⟨w.heap.size + 2, 0, none⟩ = some (.string ⟨#[]⟩) := by
    rw [World.cell?_setCell_other _ _ _ _ (fun e => by injection e with e; omega)]
    exact World.cell?_setCell_same' _ _ _ (by rw [c2]; rfl)
  have e3 : ((w2.setCell ⟨w.heap.size + 2, 0, none⟩ (.string ⟨#[]⟩)).setCell ⟨w.heap.size + 3, 0, none⟩ (.int .i64 2)).cell? ⟨w.heap.size + 3, 0, none⟩ = some (.int .i64 2) :=
    World.cell?_setCell_same' _ _ _ (by rw [World.cell?_setCell_other _ _ _ _ (fun e => by injection e with e; omega), c3]; rfl)
  exact bodyPost_ret (results_cells2 Tryz.results15 _ _ ⟨w.heap.size + 2, 0, none⟩ ⟨w.heap.size + 3, 0, none⟩ _ _ _ _ rfl rfl e2 e3 Tryz.underlying9 rfl Tryz.underlying33 rfl) rfl ⟨rfl, (BA.out.setCell (p := ⟨w.heap.size + 2, 0, none⟩) (by simp) _).setCell (p := ⟨w.heap.size + 3, 0, none⟩) (by simp) _⟩
set_option maxRecDepth 100000 in
set_option maxHeartbeats 8000000 in
/-- A record that may not be: an error. -/
theorem place_bad (r : Rcd) (a : RSh) (B tf : Nat) (caps : Array Value) (w : World) (he : EnvM w) (hr : RReads w B r a) (hB : B ≤ w.heap.size) (hok : okR r ≠ 0) :
    Calls Tryz.prog 15 #[.agg #[.string (st r.path), .slice a.A a.n a.c, .int .i64 r.dev, .bool r.gone, .int .i64 r.size, .int .i64 r.len, .slice a.D a.m a.k], .func (.func tf) #[] caps] w fun e w' => e = .returned (.tuple #[.string ⟨#[]⟩, .int .i64 (okR r : Int)]) ∧ Below w.heap.size w w' := by
  have HI := Lib.hid (show (Tryz.prog.info? 27).map (·.size) = some 7 by kernel_rfl)
  obtain ⟨⟨x0, x1, x2, x3⟩, ba, hz⟩ := four_allocs w (.cells #[.string (st r.path), .slice a.A a.n a.c, .int .i64 r.dev, .bool r.gone, .int .i64 r.size, .int .i64 r.len, .slice a.D a.m a.k] 27) (.cells #[.func (.func tf) #[] caps] 42) (.cells #[.string ⟨#[]⟩] 9) (.cells #[.int .i64 0] 33)
  have X0 := Lib.hid x0
  have X2 := Lib.hid x2
  have X3 := Lib.hid x3
  have BA := Lib.hid ba
  have HR := Lib.hid hr
  have HE := Lib.hid he
  have d1 : ((okR r : Int) != 0) = true := by rw [bne_iff_ne]; omega
  clear x0 x1 x2 x3 ba hr he hok
  obtain ⟨k, hk⟩ : ∃ k, okR r = k := ⟨_, rfl⟩
  have HK := Lib.hid hk
  rw [hk] at d1 ⊢
  clear hk
  go_enter Tryz.func15, Tryz.ntmps15
  go_upto_region 1 with fail
  generalize ((((w.alloc (.cells #[.string (st r.path), .slice a.A a.n a.c, .int .i64 r.dev, .bool r.gone, .int .i64 r.size, .int .i64 r.len, .slice a.D a.m a.k] 27)).alloc (.cells #[.func (.func tf) #[] caps] 42)).alloc (.cells #[.string ⟨#[]⟩] 9)).alloc (.cells #[.int .i64 0] 33)) = w1 at *
  go_wp2_with (first
    | (refine wpList_load_row rfl 27 (.tmp 2) rfl w.heap.size rfl 27 _ (0, 0) _ X0.out Tryz.underlying27 rfl HI.out ?_)
    | fail)
  refine (recCheck_v r a B w1 (HE.out.below BA.out) (HR.out.below (BA.out.mono hB)) (by omega)).mono ?_
  rintro e w2 ⟨rfl, b3⟩
  rw [HK.out]
  have c2 : w2.cell? ⟨w.heap.size + 2, 0, none⟩ = some (.string ⟨#[]⟩) := by rw [cell_of_row _ _ 0 _ _ _ ((b3.block (w.heap.size + 2) (by omega)).trans X2.out)]; rfl
  have c3 : w2.cell? ⟨w.heap.size + 3, 0, none⟩ = some (.int .i64 0) := by rw [cell_of_row _ _ 0 _ _ _ ((b3.block (w.heap.size + 3) (by omega)).trans X3.out)]; rfl
  have f2 := frozen_of_row _ (w.heap.size + 2) 0 _ _ ((b3.block (w.heap.size + 2) (by omega)).trans X2.out)
  have f3 := frozen_of_row _ (w.heap.size + 3) 0 _ _ ((b3.block (w.heap.size + 3) (by omega)).trans X3.out)
  replace BA := Lib.hid (BA.out.trans (b3.mono (by omega)))
  clear b3
  go_wp2
  have e2 : ((w2.setCell ⟨w.heap.size + 2, 0, none⟩ (.string ⟨#[]⟩)).setCell ⟨w.heap.size + 3, 0, none⟩ (.int .i64 (k : Int))).cell? ⟨w.heap.size + 2, 0, none⟩ = some (.string ⟨#[]⟩) := by
    rw [World.cell?_setCell_other _ _ _ _ (fun e => by injection e with e; omega)]
    exact World.cell?_setCell_same' _ _ _ (by rw [c2]; rfl)
  have e3 : ((w2.setCell ⟨w.heap.size + 2, 0, none⟩ (.string ⟨#[]⟩)).setCell ⟨w.heap.size + 3, 0, none⟩ (.int .i64 (k : Int))).cell? ⟨w.heap.size + 3, 0, none⟩ = some (.int .i64 (k : Int)) :=
    World.cell?_setCell_same' _ _ _ (by rw [World.cell?_setCell_other _ _ _ _ (fun e => by injection e with e; omega), c3]; rfl)
  exact bodyPost_ret (results_cells2 Tryz.results15 _ _ ⟨w.heap.size + 2, 0, none⟩ ⟨w.heap.size + 3, 0, none⟩ _ _ _ _ rfl rfl e2 e3 Tryz.underlying9 rfl Tryz.underlying33 rfl) rfl ⟨rfl, (BA.out.setCell (p := ⟨w.heap.size + 2, 0, none⟩) (by simp) _).setCell (p := ⟨w.heap.size + 3, 0, none⟩) (by simp) _⟩
/-- What lies while the numbers are tried. -/
structure PlI (w : World) (g : Nat) (row : Array Value) (fv v2 v3 : Value) (W : World) : Prop where
  x0 : W.heap[g]? = some (.cells row 27 (0, 0))
  x1 : W.heap[g + 1]? = some (.cells #[fv] 42 (0, 0))
  x2 : W.heap[g + 2]? = some (.cells #[v2] 9 (0, 0))
  x3 : W.heap[g + 3]? = some (.cells #[v3] 33 (0, 0))
  hb : Below g w W
theorem PlI.step {w W W' : World} {g : Nat} {row : Array Value} {fv v2 v3 : Value} (h : PlI w g row fv v2 v3 W) (b : Below W.heap.size W W') : PlI w g row fv v2 v3 W' := by
  have l0 := (Array.getElem?_eq_some_iff.1 h.x0).1
  have l1 := (Array.getElem?_eq_some_iff.1 h.x1).1
  have l2 := (Array.getElem?_eq_some_iff.1 h.x2).1
  have l3 := (Array.getElem?_eq_some_iff.1 h.x3).1
  exact ⟨(b.block _ l0).trans h.x0, (b.block _ l1).trans h.x1, (b.block _ l2).trans h.x2, (b.block _ l3).trans h.x3, h.hb.trans (b.mono (by omega))⟩
theorem PlI.own {w : World} {g B : Nat} {row : Array Value} {fv : Value} {β : Type} (hB : g + 4 ≤ B) (v2 v3 : β → Value) : OwnFrom B (fun (s : β) W => PlI w g row fv (v2 s) (v3 s) W) := by
  intro s W W' rw' h hg hr
  have key : ∀ k, k < g + 4 → k < W.heap.size → W'.heap[k]? = W.heap[k]? := fun k h1 h2 => hg.block k h2 (fun e => by have := (hr k e.symm).1; omega)
  have l0 := (Array.getElem?_eq_some_iff.1 h.x0).1
  have l1 := (Array.getElem?_eq_some_iff.1 h.x1).1
  have l2 := (Array.getElem?_eq_some_iff.1 h.x2).1
  have l3 := (Array.getElem?_eq_some_iff.1 h.x3).1
  exact ⟨(key _ (by omega) l0).trans h.x0, (key _ (by omega) l1).trans h.x1, (key _ (by omega) l2).trans h.x2, (key _ (by omega) l3).trans h.x3, h.hb.grown hg (by omega) (fun k e => by have := (hr k e).1; omega)⟩
theorem PlI.set {w W : World} {g : Nat} {row : Array Value} {fv v2 v3 : Value} (h : PlI w g row fv v2 v3 W) (u2 u3 : Value) : PlI w g row fv u2 u3 ((W.setCell ⟨g + 2, 0, none⟩ u2).setCell ⟨g + 3, 0, none⟩ u3) := by
  refine ⟨?_, ?_, ?_, ?_, (h.hb.setCell (p := ⟨g + 2, 0, none⟩) (by simp) u2).setCell (p := ⟨g + 3, 0, none⟩) (by simp) u3⟩
  · exact (Below.heap_setCell _ ⟨g + 3, 0, none⟩ _ g (by simp)).trans ((Below.heap_setCell _ ⟨g + 2, 0, none⟩ _ g (by simp)).trans h.x0)
  · exact (Below.heap_setCell _ ⟨g + 3, 0, none⟩ _ (g + 1) (by simp)).trans ((Below.heap_setCell _ ⟨g + 2, 0, none⟩ _ (g + 1) (by simp)).trans h.x1)
  · exact (Below.heap_setCell _ ⟨g + 3, 0, none⟩ _ (g + 2) (by simp)).trans (heap_setCell_same _ (g + 2) 0 _ _ u2 h.x2)
  · exact heap_setCell_same _ (g + 3) 0 _ _ u3 ((Below.heap_setCell _ ⟨g + 2, 0, none⟩ _ (g + 3) (by simp)).trans h.x3)
theorem keeps_below {W W' : World} (h : Below W.heap.size W W') : KeepsOthers W W' := ⟨h.size, fun k o hk _ => (h.block k (Array.getElem?_eq_some_iff.1 hk).1).trans hk⟩
theorem place_skip {tk : Bl → Bool} {p : Bl} {dv : Int} : ∀ (pre rest : List Nat), (∀ n ∈ pre, (copyL p dv n).2 = 0 ∧ tk (copyL p dv n).1 = true) → placeF tk p dv (pre ++ rest) = placeF tk p dv rest
  | [], _, _ => rfl
  | n :: pre, rest, h => by
    have h1 := h n List.mem_cons_self
    rw [List.cons_append, placeF, if_neg (by rw [h1.1]; decide), if_neg (by rw [h1.2]; decide)]
    exact place_skip pre rest fun x hx => h x (List.mem_cons_of_mem _ hx)
theorem copyL_len {l : Bl} {d n : Int} : (copyL l d n).1.length ≤ 64 := by
  unfold copyL
  split
  · simp
  · split
    · simp
    · split
      · rename_i h
        unfold prightL at h
        rw [Bool.and_eq_true, Bool.and_eq_true, decide_eq_true_eq, decide_eq_true_eq] at h
        exact h.2.2
      · simp
theorem range_split {k : Nat} (h : k < 1000) : ∃ rest, List.range 1000 = List.range k ++ k :: rest := by
  refine ⟨(List.range 1000).drop (k + 1), ?_⟩
  have e : List.range k = (List.range 1000).take k := by rw [List.take_range, Nat.min_eq_left (by omega)]
  have hk : k < (List.range 1000).length := by simpa using h
  rw [e]
  conv => lhs; rw [← List.take_append_drop k (List.range 1000)]
  rw [List.drop_eq_getElem_cons hk]
  simp
set_option maxRecDepth 100000 in
set_option maxHeartbeats 16000000 in
theorem place_v (r : Rcd) (a : RSh) (B tf : Nat) (caps : Array Value) (tk : Bl → Bool) (w : World) (he : Env w) (hr : RReads w B r a) (hB : B ≤ w.heap.size) (hok : okR r = 0)
    (hcf : ∀ args W, (callFunc tf args).run Tryz.prog W = .ok (.enter tf args) W)
    (ht : ∀ (s : Bl) (W : World), s.length ≤ 64 → Below w.heap.size w W → Calls Tryz.prog tf (#[.string (st s)] ++ caps) W fun e W' => e = .returned (.bool (tk s)) ∧ Below W.heap.size W W') :
    Calls Tryz.prog 15 #[.agg #[.string (st r.path), .slice a.A a.n a.c, .int .i64 r.dev, .bool r.gone, .int .i64 r.size, .int .i64 r.len, .slice a.D a.m a.k], .func (.func tf) #[] caps] w fun e w' => e = .returned (.tuple #[.string (st (placeF tk r.path r.dev (List.range 1000)).1), .int .i64 ((placeF tk r.path r.dev (List.range 1000)).2 : Int)]) ∧ Below w.heap.size w w' := by
  have HI := Lib.hid (show (Tryz.prog.info? 27).map (·.size) = some 7 by kernel_rfl)
  obtain ⟨⟨x0, x1, x2, x3⟩, ba, hz⟩ := four_allocs w (.cells #[.string (st r.path), .slice a.A a.n a.c, .int .i64 r.dev, .bool r.gone, .int .i64 r.size, .int .i64 r.len, .slice a.D a.m a.k] 27) (.cells #[.func (.func tf) #[] caps] 42) (.cells #[.string ⟨#[]⟩] 9) (.cells #[.int .i64 0] 33)
  have PI := Lib.hid (show PlI w w.heap.size #[.string (st r.path), .slice a.A a.n a.c, .int .i64 r.dev, .bool r.gone, .int .i64 r.size, .int .i64 r.len, .slice a.D a.m a.k] (.func (.func tf) #[] caps) (.string ⟨#[]⟩) (.int .i64 0) ((((w.alloc (.cells #[.string (st r.path), .slice a.A a.n a.c, .int .i64 r.dev, .bool r.gone, .int .i64 r.size, .int .i64 r.len, .slice a.D a.m a.k] 27)).alloc (.cells #[.func (.func tf) #[] caps] 42)).alloc (.cells #[.string ⟨#[]⟩] 9)).alloc (.cells #[.int .i64 0] 33)) from ⟨x0, x1, x2, x3, ba⟩)
  have HR := Lib.hid hr
  have HE := Lib.hid he
  have HOK := Lib.hid hok
  have HT := Lib.hid ht
  have HCF := Lib.hid hcf
  obtain ⟨O, hO⟩ : ∃ O, placeF tk r.path r.dev (List.range 1000) = O := ⟨_, rfl⟩
  rw [hO]
  have HO := Lib.hid hO
  clear x0 x1 x2 x3 ba hr he hok ht hcf hO
  refine (callsIn_wide (n := 9)).1 ?_
  refine callsIn_of_wp_marks Tryz.func15 rfl trivial ?_ rfl
  simp only [Tryz.ntmps15, List.size_toArray, List.length_cons, List.length_nil, Nat.reduceAdd, Nat.reduceSub, Array.replicate_succ, Array.replicate_zero, List.push_toArray, List.append_toArray, List.nil_append, List.cons_append]
  gi_wp2_with fail
  generalize ((((w.alloc (.cells #[.string (st r.path), .slice a.A a.n a.c, .int .i64 r.dev, .bool r.gone, .int .i64 r.size, .int .i64 r.len, .slice a.D a.m a.k] 27)).alloc (.cells #[.func (.func tf) #[] caps] 42)).alloc (.cells #[.string ⟨#[]⟩] 9)).alloc (.cells #[.int .i64 0] 33)) = w1 at *
  refine ⟨trivial, (callsIn_wide.2 (recCheck_v r a B w1 (HE.out.m.below PI.out.hb) (HR.out.below (PI.out.hb.mono hB)) (by omega))).mono ?_⟩
  rintro e w2 ⟨rfl, b3⟩
  rw [HOK.out]
  replace PI := Lib.hid (PI.out.step b3)
  have hz2 : w.heap.size + 4 ≤ w2.heap.size := by have := b3.size; omega
  clear b3
  have c1 : w2.cell? ⟨w.heap.size + 1, 0, none⟩ = some (.func (.func tf) #[] caps) := by rw [cell_of_row _ _ 0 _ _ _ PI.out.x1]; rfl
  have hn := eq_fnF w2 (.func tf) #[] caps
  gi_wp2_with fail
  refine ⟨trivial, (callsIn_wide.2 (numbers_v w2)).mono ?_⟩
  rintro e _ ⟨rfl, rfl⟩
  gi_wp2_with fail
  clear c1 hn
  refine wpIn_rangeFunc_ownF rfl (by omega) (gf := 63) (lb := #[]) rfl trivial (enters_of Tryz.func63 (by kernel_rfl) rfl)
    (numbers_stops w2 8) (fun _ _ => trivial) (fun _ _ _ _ _ _ _ _ => trivial) (Below.refl _ _) (fun _ => rfl)
    (fun pre W => PlI w w.heap.size #[.string (st r.path), .slice a.A a.n a.c, .int .i64 r.dev, .bool r.gone, .int .i64 r.size, .int .i64 r.len, .slice a.D a.m a.k] (.func (.func tf) #[] caps) (.string ⟨#[]⟩) (.int .i64 0) W ∧ ∀ x ∈ pre, (copyL r.path r.dev (x.1 : Int)).2 = 0 ∧ tk (copyL r.path r.dev (x.1 : Int)).1 = true)
    (fun c xs W => c = .ret ∧ ∃ (pre : List Nm) (x : Nm) (res : Bl × Nat), xs = pre ++ [x] ∧ (∀ y ∈ pre, (copyL r.path r.dev (y.1 : Int)).2 = 0 ∧ tk (copyL r.path r.dev (y.1 : Int)).1 = true) ∧
      ((copyL r.path r.dev (x.1 : Int)).2 ≠ 0 ∧ res = ([], (copyL r.path r.dev (x.1 : Int)).2) ∨ (copyL r.path r.dev (x.1 : Int)).2 = 0 ∧ tk (copyL r.path r.dev (x.1 : Int)).1 = false ∧ res = ((copyL r.path r.dev (x.1 : Int)).1, 0)) ∧
      PlI w w.heap.size #[.string (st r.path), .slice a.A a.n a.c, .int .i64 r.dev, .bool r.gone, .int .i64 r.size, .int .i64 r.len, .slice a.D a.m a.k] (.func (.func tf) #[] caps) (.string (st res.1)) (.int .i64 (res.2 : Int)) W)
    (OwnFrom.and (PlI.own hz2 (fun _ => .string ⟨#[]⟩) (fun _ => .int .i64 0)) (fun _ _ _ _ hs _ _ => hs))
    (fun c => by
      rintro xs W W' row ⟨hc, pre, x, res, h1, h2, h3, h4⟩ hg hr
      exact ⟨hc, pre, x, res, h1, h2, h3, PlI.own hz2 (fun _ : Unit => .string (st res.1)) (fun _ => .int .i64 (res.2 : Int)) () W W' row h4 hg hr⟩)
    ⟨PI.out, fun x hx => by cases hx⟩
    (fun x => { tmps := #[.agg #[.string (st r.path), .slice a.A a.n a.c, .int .i64 r.dev, .bool r.gone, .int .i64 r.size, .int .i64 r.len, .slice a.D a.m a.k], .func (.func tf) #[] caps, .pointer (some ⟨w.heap.size, 0, none⟩), .pointer (some ⟨w.heap.size + 1, 0, none⟩), .pointer (some ⟨w.heap.size + 1 + 1, 0, none⟩), .pointer (some ⟨w.heap.size + 1 + 1 + 1, 0, none⟩), .int .i64 0, .int .i64 (x.1 : Int), undef, undef, .agg #[.string (st r.path), .slice a.A a.n a.c, .int .i64 r.dev, .bool r.gone, .int .i64 r.size, .int .i64 r.len, .slice a.D a.m a.k], .int .i64 0, .int .i64 0, .bool false, undef, .func (.func tf) #[] caps, .bool false, .func (.func 63) #[] #[], .int .i64 (x.1 : Int), undef, undef, undef, undef, undef, undef, undef, undef, undef, undef, undef, undef, undef, undef, undef, undef, undef], defers := [] }) ?assign ?body ?done ?stop
  case assign =>
    intro l x W K hK
    gi_wp2
    exact hK
  case body =>
    rintro l pre x W ⟨hP, hall⟩ hlen
    have P := Lib.hid hP
    have ALL := Lib.hid hall
    clear hP hall PI
    have c0 : W.cell? ⟨w.heap.size, 0, none⟩ = some (.string (st r.path)) := by rw [cell_of_row _ _ 0 _ _ _ P.out.x0]; rfl
    have c2 : W.cell? ⟨w.heap.size, 2, none⟩ = some (.int .i64 r.dev) := by rw [cell_of_row _ _ 2 _ _ _ P.out.x0]; rfl
    gi_wp2_with fail
    refine ⟨trivial, (CallsIn.inRound l (callsIn_wide.2 (copy_v r.path r.dev (x.1 : Int) W (HE.out.below P.out.hb)))).mono ?_⟩
    rintro e W1 ⟨rfl, b1⟩
    clear c0 c2
    have P1 := Lib.hid (P.out.step b1)
    have K1 := Lib.hid (keeps_below b1)
    have B1 := Lib.hid b1
    clear b1
    obtain ⟨cp, hcp⟩ : ∃ cp, copyL r.path r.dev (x.1 : Int) = cp := ⟨_, rfl⟩
    have HCP := Lib.hid hcp
    rw [hcp]
    clear hcp
    have c1 : W1.cell? ⟨w.heap.size + 1, 0, none⟩ = some (.func (.func tf) #[] caps) := by rw [cell_of_row _ _ 0 _ _ _ P1.out.x1]; rfl
    by_cases h1 : cp.2 = 0
    case neg =>
      have d1 : ((cp.2 : Int) != 0) = true := by rw [bne_iff_ne]; omega
      have c4 : W1.cell? ⟨w.heap.size + 2, 0, none⟩ = some (.string ⟨#[]⟩) := by rw [cell_of_row _ _ 0 _ _ _ P1.out.x2]; rfl
      have c5 : W1.cell? ⟨w.heap.size + 3, 0, none⟩ = some (.int .i64 0) := by rw [cell_of_row _ _ 0 _ _ _ P1.out.x3]; rfl
      have f4 := frozen_of_row _ (w.heap.size + 2) 0 _ _ P1.out.x2
      have f5 := frozen_of_row _ (w.heap.size + 3) 0 _ _ P1.out.x3
      have H1 := Lib.hid h1
      clear h1
      gi_wp2
      exact ⟨(K1.out.trans (KeepsOthers.setCell _ _ _)).trans (KeepsOthers.setCell _ _ _), rfl, pre, x, ([], cp.2), rfl, ALL.out, .inl ⟨by rw [HCP.out]; exact H1.out, by rw [HCP.out]⟩, P1.out.set _ _⟩
    have H1 := Lib.hid h1
    rw [h1]
    clear h1
    have hw := fun args => HCF.out args W1
    gi_wp2_with fail
    clear hw
    refine ⟨trivial, (CallsIn.inRound l (callsIn_wide.2 (HT.out cp.1 W1 (by rw [← HCP.out]; exact copyL_len) P1.out.hb))).mono ?_⟩
    rintro e W2 ⟨rfl, b2⟩
    have P2 := Lib.hid (P1.out.step b2)
    have K2 := Lib.hid (K1.out.trans (keeps_below b2))
    clear b2 c1
    cases htk : tk cp.1
    · have HTK := Lib.hid htk
      have c4 : W2.cell? ⟨w.heap.size + 2, 0, none⟩ = some (.string ⟨#[]⟩) := by rw [cell_of_row _ _ 0 _ _ _ P2.out.x2]; rfl
      have c5 : W2.cell? ⟨w.heap.size + 3, 0, none⟩ = some (.int .i64 0) := by rw [cell_of_row _ _ 0 _ _ _ P2.out.x3]; rfl
      have f4 := frozen_of_row _ (w.heap.size + 2) 0 _ _ P2.out.x2
      have f5 := frozen_of_row _ (w.heap.size + 3) 0 _ _ P2.out.x3
      clear htk
      gi_wp2
      exact ⟨(K2.out.trans (KeepsOthers.setCell _ _ _)).trans (KeepsOthers.setCell _ _ _), rfl, pre, x, (cp.1, 0), rfl, ALL.out, .inr ⟨by rw [HCP.out]; exact H1.out, by rw [HCP.out]; exact HTK.out, by rw [HCP.out]⟩, P2.out.set _ _⟩
    · have HTK := Lib.hid htk
      clear htk
      gi_wp2
      refine ⟨K2.out, trivial, P2.out, fun y hy => ?_⟩
      rcases List.mem_append.1 hy with hy | hy
      · exact ALL.out y hy
      · rw [List.mem_singleton.1 hy, HCP.out]
        exact ⟨H1.out, HTK.out⟩
  case done =>
    intro D xs W hD hS hI hK
    have P := Lib.hid hI.1
    have HK := Lib.hid hK
    have HD := Lib.hid hD
    have hO2 : O = ([], 3) := by
      rw [← HO.out, ← hS]
      have := place_skip (tk := tk) (p := r.path) (dv := r.dev) (xs.map (·.1)) [] (fun n hn => by
        obtain ⟨x, hx, rfl⟩ := List.mem_map.1 hn
        exact hI.2 x hx)
      rw [List.append_nil] at this
      exact this
    subst hO2
    have c4 : W.cell? ⟨w.heap.size + 2, 0, none⟩ = some (.string ⟨#[]⟩) := by rw [cell_of_row _ _ 0 _ _ _ P.out.x2]; rfl
    have c5 : W.cell? ⟨w.heap.size + 3, 0, none⟩ = some (.int .i64 0) := by rw [cell_of_row _ _ 0 _ _ _ P.out.x3]; rfl
    have f4 := frozen_of_row _ (w.heap.size + 2) 0 _ _ P.out.x2
    have f5 := frozen_of_row _ (w.heap.size + 3) 0 _ _ P.out.x3
    clear hS hI hK hD
    gi_wp2
    have P2 := P.out.set (.string ⟨#[]⟩) (.int .i64 3)
    have hk2 : ((W.setCell ⟨w.heap.size + 2, 0, none⟩ (.string ⟨#[]⟩)).setCell ⟨w.heap.size + 3, 0, none⟩ (.int .i64 3)).heap[D]? = some (.deferred (some [])) :=
      (Below.heap_setCell _ ⟨w.heap.size + 3, 0, none⟩ _ D (by have := HD.out; simp; omega)).trans ((Below.heap_setCell _ ⟨w.heap.size + 2, 0, none⟩ _ D (by have := HD.out; simp; omega)).trans HK.out)
    refine ⟨by simp, .inl ⟨_, _, rfl, run_takeDeferred hk2, ?_⟩⟩
    have P3 := PlI.own (β := Unit) hz2 (fun _ => .string ⟨#[]⟩) (fun _ => .int .i64 3) () _ _ (some D) P2 (grownBy_putObj' _ D (.deferred none)) (fun r e => by cases e; exact ⟨HD.out, _, hk2, rfl⟩)
    exact ⟨_, results_cells2 Tryz.results15 _ _ ⟨w.heap.size + 2, 0, none⟩ ⟨w.heap.size + 3, 0, none⟩ (.string ⟨#[]⟩) (.int .i64 3) _ _ rfl rfl (by rw [cell_of_row _ _ 0 _ _ _ P3.x2]; rfl) (by rw [cell_of_row _ _ 0 _ _ _ P3.x3]; rfl) Tryz.underlying9 rfl Tryz.underlying33 rfl, rfl, P3.hb⟩
  case stop =>
    rintro D c pre W hD hS hX hK
    obtain ⟨rfl, pre', x, res, rfl, h2, h3, hP⟩ := hX
    obtain ⟨k, hk, hpre⟩ := hS
    have hO2 : O = res := by
      rw [List.map_append, List.range_succ] at hpre
      obtain ⟨e1, e2⟩ := List.append_inj' hpre rfl
      have e3 : x.1 = k := by simpa using e2
      obtain ⟨rest, hrest⟩ := range_split hk
      rw [← HO.out, hrest, ← e1, place_skip (pre'.map (·.1)) _ (fun n hn => by
        obtain ⟨y, hy, rfl⟩ := List.mem_map.1 hn
        exact h2 y hy), placeF, ← e3]
      rcases h3 with ⟨a1, a2⟩ | ⟨a1, a2, a3⟩
      · rw [if_pos a1, a2]
      · rw [if_neg (by omega), if_pos a2, a3]
    subst hO2
    have HK := Lib.hid hK
    have HD := Lib.hid hD
    have P := Lib.hid hP
    clear hK hD hP h2 h3 hpre
    gi_wp2
    refine ⟨by simp, .inl ⟨_, _, rfl, run_takeDeferred HK.out, ?_⟩⟩
    have P3 := PlI.own (β := Unit) hz2 (fun _ => .string (st O.1)) (fun _ => .int .i64 (O.2 : Int)) () _ _ (some D) P.out (grownBy_putObj' _ D (.deferred none)) (fun r e => by cases e; exact ⟨HD.out, _, HK.out, rfl⟩)
    exact ⟨_, results_cells2 Tryz.results15 _ _ ⟨w.heap.size + 2, 0, none⟩ ⟨w.heap.size + 3, 0, none⟩ (.string (st O.1)) (.int .i64 (O.2 : Int)) _ _ rfl rfl (by rw [cell_of_row _ _ 0 _ _ _ P3.x2]; rfl) (by rw [cell_of_row _ _ 0 _ _ _ P3.x3]; rfl) Tryz.underlying9 rfl Tryz.underlying33 rfl, rfl, P3.hb⟩
end Go.Proofs.YtndekohimfjdeaaGreatDoor

namespace Go.Proofs.YtndekohimfjdeaaGreatDoor
open Go.RowKit
theorem last_cases (c : UInt8) (l : Bl) : (lastN c l = -1 ∧ cutL c l = none) ∨ ∃ i : Nat, i < l.length ∧ lastN c l = (i : Int) ∧ cutL c l = some (l.take i, l.drop (i + 1)) := by
  cases h : cutL c l with
  | none => exact .inl ⟨by unfold lastN; rw [h], rfl⟩
  | some p =>
    obtain ⟨a, b⟩ := p
    obtain ⟨e, hb⟩ := cutL_some.1 h
    refine .inr ⟨a.length, by rw [e]; simp, by unfold lastN; rw [h], ?_⟩
    rw [e]
    simp
set_option maxRecDepth 100000 in
theorem rsplit_v (l : Bl) (w : World) : Calls Tryz.prog 68 #[.string (st l)] w fun e w' => e = .returned (.tuple #[.string (st (splitP l).1), .string (st (splitP l).2)]) ∧ Below w.heap.size w w' := by
  have CV := prcheck_v l w
  obtain ⟨k, hk⟩ : ∃ k, checkL l = k := ⟨_, rfl⟩
  have HK := Lib.hid hk
  rw [hk] at CV
  clear hk
  go_enter Tryz.func68, Tryz.ntmps68
  go_wp2_with fail
  refine CV.mono ?_
  rintro e w1 ⟨rfl, b1⟩
  by_cases h : k = 0
  case neg =>
    have HS := Lib.hid (show splitP l = ([], []) by unfold splitP; rw [if_neg (by rw [HK.out]; exact h)])
    have d1 : ((k : Int) != 0) = true := by simp; omega
    clear h
    go_wp2_with fail
    go_returns
    exact ⟨by rw [HS.out]; rfl, b1⟩
  subst h
  have hl := check_len HK.out
  have d1 : (((0 : Nat) : Int) != 0) = false := rfl
  have LV := rlast_v l 47 w1 (by omega)
  rcases last_cases 47 l with ⟨h1, h2⟩ | ⟨i, hi, h1, h2⟩
  · have HS := Lib.hid (show splitP l = ([], l) by unfold splitP; rw [if_pos HK.out]; unfold folderL baseL; rw [h2])
    rw [h1] at LV
    clear h1 h2
    go_wp2_with fail
    refine LV.mono ?_
    rintro e _ ⟨rfl, rfl⟩
    go_wp2_with fail
    go_returns
    exact ⟨by rw [HS.out]; rfl, b1⟩
  · have HS := Lib.hid (show splitP l = (l.take i, l.drop (i + 1)) by unfold splitP; rw [if_pos HK.out]; unfold folderL baseL; rw [h2])
    rw [h1] at LV
    have hz := st_size l
    have i0 : (0 : Int) ≤ (i : Int) := by omega
    have i00 : decide ((i : Int) < 0) = false := decide_eq_false (by omega)
    have i1 : (i : Int) ≤ (st l).size := by omega
    have i2 : (i : Int) + 1 ≤ (st l).size := by omega
    have i3 : IntKind.i64.wrap ((i : Int) + 1) = (i : Int) + 1 := IntWalk.i64_in _ ⟨by omega, by omega⟩
    have i4 : (0 : Int) ≤ (i : Int) + 1 := by omega
    have i5 : ((i : Int) + 1).toNat = i + 1 := by omega
    have HT := Lib.hid (st_take l i)
    have HD := Lib.hid (st_drop l (i + 1))
    clear h1 h2 hz
    go_wp2_with fail
    refine LV.mono ?_
    rintro e _ ⟨rfl, rfl⟩
    go_upto_region 6 with fail
    go_quiet (fail)
    go_wp2_with fail
    go_returns
    exact ⟨by rw [HS.out, ← HT.out, ← HD.out]; rfl, below_drewN b1 _⟩
theorem endP_nil {l : Bl} (h : splitP l = ([], [])) : endP l = ([], []) := by
  unfold splitP at h
  unfold endP
  by_cases hc : checkL l = 0
  · rw [if_pos hc] at h
    injection h with _ h2
    rw [if_pos hc, h2]
    rfl
  · rw [if_neg hc]
theorem endP_of (l : Bl) : endP l = (stemB (splitP l).2, endB (splitP l).2) := by
  unfold endP splitP
  by_cases hc : checkL l = 0
  · rw [if_pos hc, if_pos hc]
  · rw [if_neg hc, if_neg hc]
    rfl
theorem splitP_len (l : Bl) : (splitP l).2.length ≤ 64 := by
  unfold splitP
  by_cases hc : checkL l = 0
  · rw [if_pos hc]
    have := (base_len l).2.1
    have := check_len hc
    show (baseL l).length ≤ 64
    omega
  · rw [if_neg hc]
    simp
set_option maxRecDepth 100000 in
theorem rend_v (l : Bl) (w : World) : Calls Tryz.prog 69 #[.string (st l)] w fun e w' => e = .returned (.tuple #[.string (st (endP l).1), .string (st (endP l).2)]) ∧ Below w.heap.size w w' := by
  have SV := rsplit_v l w
  have HE := Lib.hid (endP_of l)
  have hbl := splitP_len l
  obtain ⟨q, hq⟩ : ∃ q, splitP l = q := ⟨_, rfl⟩
  rw [hq] at SV HE hbl
  clear hq
  obtain ⟨f, b⟩ := q
  simp only at SV HE hbl
  have LV := Lib.hid (fun w => rlast_v b 46 w (by omega))
  have hz := st_size b
  rcases last_cases 46 b with ⟨h1, h2⟩ | ⟨i, hi, h1, h2⟩
  · have HF := Lib.hid (show stemB b = b ∧ endB b = [] by unfold stemB endB; rw [h2]; exact ⟨rfl, rfl⟩)
    rw [h1] at LV
    clear h1 h2 hz
    go_enter Tryz.func69, Tryz.ntmps69
    go_wp2_with fail
    refine SV.mono ?_
    rintro e w1 ⟨rfl, b1⟩
    go_wp2_with fail
    refine (LV.out w1).mono ?_
    rintro e _ ⟨rfl, rfl⟩
    go_wp2_with fail
    go_returns
    exact ⟨by rw [HE.out, HF.out.1, HF.out.2]; rfl, b1⟩
  · have HF := Lib.hid (show stemB b = b.take i ∧ endB b = b.drop i by
      have e := cutL_some.1 h2
      unfold stemB endB
      rw [h2]
      refine ⟨rfl, ?_⟩
      exact ((congrArg (List.drop i) e.1).trans (List.drop_left' (by rw [List.length_take]; omega))).symm)
    rw [h1] at LV
    have i0 : (0 : Int) ≤ (i : Int) := by omega
    have i00 : decide ((i : Int) < 0) = false := decide_eq_false (by omega)
    have i1 : (i : Int) ≤ (st b).size := by omega
    have HT := Lib.hid (st_take b i)
    have HD := Lib.hid (st_drop b i)
    clear h1 h2 hz
    go_enter Tryz.func69, Tryz.ntmps69
    go_wp2_with fail
    refine SV.mono ?_
    rintro e w1 ⟨rfl, b1⟩
    go_wp2_with fail
    refine (LV.out w1).mono ?_
    rintro e _ ⟨rfl, rfl⟩
    go_upto_region 5 with fail
    go_quiet (fail)
    go_wp2_with fail
    go_returns
    exact ⟨by rw [HE.out, HF.out.1, HF.out.2, ← HT.out, ← HD.out]; rfl, below_drewN b1 _⟩
theorem within_rest {f l : Bl} (hl : checkL l = 0) (hf : f ≠ []) (hq : checkL f = 0) : withinL f l = decide (f ++ [47] <+: l) := by
  unfold withinL
  rw [if_neg (by rw [hl]; simp), decide_eq_false hf, hq]
  rfl
theorem pre_iff {f l : Bl} (h : f.length < l.length) (x : UInt8) (hx : l[f.length]? = some x) : f ++ [47] <+: l ↔ l.take f.length = f ∧ x = 47 := by
  constructor
  · rintro ⟨t, rfl⟩
    rw [List.append_assoc, List.singleton_append] at hx ⊢
    refine ⟨List.take_left, ?_⟩
    rw [List.getElem?_append_right (Nat.le_refl _), Nat.sub_self] at hx
    simpa using hx.symm
  · rintro ⟨h1, rfl⟩
    refine ⟨l.drop (f.length + 1), ?_⟩
    obtain ⟨hl, e⟩ := List.getElem?_eq_some_iff.1 hx
    have h5 := List.drop_eq_getElem_cons hl
    rw [e] at h5
    rw [List.append_assoc, List.singleton_append, ← h5]
    conv => lhs; lhs; rw [← h1]
    rw [List.take_append_drop]
set_option maxRecDepth 100000 in
theorem rjoined_v (f b : Bl) (w : World) (hf : f.length ≤ 1000) (hb : b.length ≤ 1000) : Calls Tryz.prog 70 #[.string (st f), .string (st b)] w fun e w' => e = .returned (.string (st (joinF f b))) ∧ w = w' := by
  have z1 : (st f).size ≤ 1000 := by rw [st_size]; exact hf
  have z2 : (st b).size ≤ 1000 := by rw [st_size]; exact hb
  by_cases h : f = []
  · have d2 : (st f).toList.isEmpty = true := by rw [str_empty]; exact decide_eq_true h
    have HS := Lib.hid (show joinF f b = b by unfold joinF; rw [if_pos h])
    clear h
    go_enter Tryz.func70, Tryz.ntmps70
    go_wp2_with fail
    go_ret
    exact ⟨by rw [HS.out]; rfl, rfl⟩
  · have d2 : (st f).toList.isEmpty = false := by rw [str_empty]; exact decide_eq_false h
    have HS := Lib.hid (show joinF f b = f ++ [47] ++ b by unfold joinF; rw [if_neg h])
    have e1 : st f ++ (⟨#[47]⟩ : ByteArray) = st (f ++ [47]) := st_app f [47]
    have e2 : st (f ++ [47]) ++ st b = st (f ++ [47] ++ b) := st_app _ _
    have z3 : (st (f ++ [47])).size ≤ 1001 := by rw [st_size]; simp; omega
    clear h
    go_enter Tryz.func70, Tryz.ntmps70
    go_wp2_with fail
    go_ret
    exact ⟨by rw [HS.out, List.append_assoc]; rfl, rfl⟩
end Go.Proofs.YtndekohimfjdeaaGreatDoor
