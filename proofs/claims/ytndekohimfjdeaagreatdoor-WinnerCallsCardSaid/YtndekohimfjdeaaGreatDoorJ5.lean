/-
  Records: the reference's Copy.
  Winner: Settle.
  Records: the kit's small records, and the question what is to be done and who wins.
  Winner: the chapter's examples live.
  Records: few parts each.
  Winner: WinnerLoses.
-/
import Derived.Test.YtndekohimfjdeaaGreatDoorJ1
import Derived.Test.YtndekohimfjdeaaGreatDoorJ2
import Derived.Test.YtndekohimfjdeaaGreatDoorJ3
import Derived.Test.YtndekohimfjdeaaGreatDoorJ4
namespace Go.Proofs.YtndekohimfjdeaaGreatDoor
open Go.RowKit Go.Shelf
set_option maxRecDepth 100000 in
set_option maxHeartbeats 16000000 in
theorem rrecCopy_v (r : Rcd) (a : RSh) (B : Nat) (w : World) (hr : RReads w B r a) (hB : B ≤ w.heap.size) :
    Calls Tryz.prog 35 #[.agg #[.string (st r.path), .slice a.A a.n a.c, .int .i64 r.dev, .bool r.gone, .int .i64 r.size, .int .i64 r.len, .slice a.D a.m a.k]] w fun e w' => ∃ A1 c1 D1 k1, e = .returned (.agg #[.string (st r.path), .slice A1 a.n c1, .int .i64 r.dev, .bool r.gone, .int .i64 r.size, .int .i64 r.len, .slice D1 a.m k1]) ∧ COwn w' w.heap.size A1 a.n c1 r.v ∧ w'.ownsRow w.heap.size 70 32 (.slice D1 a.m k1) a.m (r.ds.flatMap Dg.cells) ∧ Below w.heap.size w w' := by
  have HI := Lib.hid (show (Tryz.prog.info? 27).map (·.size) = some 7 by kernel_rfl)
  have BA := Lib.hid (((Below.refl w.heap.size w).alloc (Nat.le_refl _) (.cells #[.string (st r.path), .slice a.A a.n a.c, .int .i64 r.dev, .bool r.gone, .int .i64 r.size, .int .i64 r.len, .slice a.D a.m a.k] 27)).alloc (by simp) (.cells #[.string ⟨#[]⟩, .slice none 0 0, .int .i64 0, .bool false, .int .i64 0, .int .i64 0, .slice none 0 0] 27))
  have Y := Lib.hid (heap_alloc2_new w (.cells #[.string (st r.path), .slice a.A a.n a.c, .int .i64 r.dev, .bool r.gone, .int .i64 r.size, .int .i64 r.len, .slice a.D a.m a.k] 27) (.cells #[.string ⟨#[]⟩, .slice none 0 0, .int .i64 0, .bool false, .int .i64 0, .int .i64 0, .slice none 0 0] 27))
  have X := Lib.hid (heap_alloc2_old w (.cells #[.string (st r.path), .slice a.A a.n a.c, .int .i64 r.dev, .bool r.gone, .int .i64 r.size, .int .i64 r.len, .slice a.D a.m a.k] 27) (.cells #[.string ⟨#[]⟩, .slice none 0 0, .int .i64 0, .bool false, .int .i64 0, .int .i64 0, .slice none 0 0] 27))
  have HR := Lib.hid hr
  have hn := hr.hn
  have hm := hr.hm
  have hz : w.heap.size + 2 ≤ ((w.alloc (.cells #[.string (st r.path), .slice a.A a.n a.c, .int .i64 r.dev, .bool r.gone, .int .i64 r.size, .int .i64 r.len, .slice a.D a.m a.k] 27)).alloc (.cells #[.string ⟨#[]⟩, .slice none 0 0, .int .i64 0, .bool false, .int .i64 0, .int .i64 0, .slice none 0 0] 27)).heap.size := by simp
  obtain ⟨i0, hi0, hz0, hz1, hz2⟩ := info_parts info_cnt
  obtain ⟨j0, hj0, hy0, hy1, hy2⟩ := info_parts info_dg
  clear hr
  go_enter Tryz.func35, Tryz.ntmps35
  go_upto_region 1 with fail
  generalize (w.alloc (.cells #[.string (st r.path), .slice a.A a.n a.c, .int .i64 r.dev, .bool r.gone, .int .i64 r.size, .int .i64 r.len, .slice a.D a.m a.k] 27)).alloc (.cells #[.string ⟨#[]⟩, .slice none 0 0, .int .i64 0, .bool false, .int .i64 0, .int .i64 0, .slice none 0 0] 27) = w2 at *
  refine wp_region_ts (fun _ => True) (fun V => V.cell? ⟨w.heap.size, 1, none⟩ = some (.slice a.A a.n a.c) ∧ V.cell? ⟨w.heap.size, 6, none⟩ = some (.slice a.D a.m a.k)) 10 14 #[false, false, false, false, false, false, false, false, false, false, false, false, false, false] (by kernel_rfl) (by kernel_rfl) (by kernel_rfl) ?_
  replace X := Lib.hid (show w2.drew.heap[w.heap.size]? = some (.cells #[.string (st r.path), .slice a.A a.n a.c, .int .i64 r.dev, .bool r.gone, .int .i64 r.size, .int .i64 r.len, .slice a.D a.m a.k] 27 (0, 0)) from X.out)
  replace Y := Lib.hid (show w2.drew.heap[w.heap.size + 1]? = some (.cells #[.string ⟨#[]⟩, .slice none 0 0, .int .i64 0, .bool false, .int .i64 0, .int .i64 0, .slice none 0 0] 27 (0, 0)) from Y.out)
  replace BA := Lib.hid BA.out.drew
  replace hz : w.heap.size + 2 ≤ w2.drew.heap.size := hz
  have hG : w2.drew.cell? ⟨w.heap.size, 1, none⟩ = some (.slice a.A a.n a.c) ∧ w2.drew.cell? ⟨w.heap.size, 6, none⟩ = some (.slice a.D a.m a.k) := ⟨by rw [cell_of_row _ _ 1 _ _ _ X.out]; rfl, by rw [cell_of_row _ _ 6 _ _ _ X.out]; rfl⟩
  generalize w2.drew = v0 at *
  (refine TS.val1 (v := ?_) 1 _ (by simp only [List.getElem?_toArray, List.getElem?_cons_succ, List.getElem?_cons_zero]; rfl) (by kernel_rfl) (by kernel_rfl) ?_ ?_ ?_ ?_ ?_; rotate_left; (focus rfl); (focus (intro W hSW; (try dsimp only at hSW); (try (obtain ⟨_, hSW⟩ := hSW)); (try (obtain ⟨hS1, hSW⟩ := hSW)); go_simp; (try with_reducible rfl); done)); (focus exact fun _ _ _ h => h); (focus exact ⟨trivial, .inr hG⟩); simp only [Act.put, List.setIfInBounds_toArray, List.set_cons_zero, List.set_cons_succ])
  (refine TS.val2 (v := ?_) 2 _ (by simp only [List.getElem?_toArray, List.getElem?_cons_succ, List.getElem?_cons_zero]; rfl) (by kernel_rfl) (by kernel_rfl) ?_ ?_ ?_ ?_ ?_; rotate_left; (focus rfl); (focus (intro W hSW; (try dsimp only at hSW); (try (obtain ⟨_, hSW⟩ := hSW)); (try (obtain ⟨hS1, hSW⟩ := hSW)); go_simp; (try with_reducible rfl); done)); (focus exact fun _ _ _ h => h); (focus exact ⟨trivial, .inr hG⟩); simp only [Act.put, List.setIfInBounds_toArray, List.set_cons_zero, List.set_cons_succ])
  (refine TS.val1 (v := ?_) 5 _ (by simp only [List.getElem?_toArray, List.getElem?_cons_succ, List.getElem?_cons_zero]; rfl) (by kernel_rfl) (by kernel_rfl) ?_ ?_ ?_ ?_ ?_; rotate_left; (focus rfl); (focus (intro W hSW; (try dsimp only at hSW); (try (obtain ⟨_, hSW⟩ := hSW)); (try (obtain ⟨hS1, hSW⟩ := hSW)); go_simp; (try with_reducible rfl); done)); (focus exact fun _ _ _ h => h); (focus exact ⟨trivial, .inr hG⟩); simp only [Act.put, List.setIfInBounds_toArray, List.set_cons_zero, List.set_cons_succ])
  (refine TS.val1 (v := ?_) 6 _ (by simp only [List.getElem?_toArray, List.getElem?_cons_succ, List.getElem?_cons_zero]; rfl) (by kernel_rfl) (by kernel_rfl) ?_ ?_ ?_ ?_ ?_; rotate_left; (focus rfl); (focus (intro W hSW; (try dsimp only at hSW); (try (obtain ⟨_, hSW⟩ := hSW)); (try (obtain ⟨hS1, hSW⟩ := hSW)); go_simp; (try with_reducible rfl); done)); (focus exact fun _ _ _ h => h); (focus exact ⟨trivial, .inr hG⟩); simp only [Act.put, List.setIfInBounds_toArray, List.set_cons_zero, List.set_cons_succ])
  (refine TS.val2 (v := ?_) 7 _ (by simp only [List.getElem?_toArray, List.getElem?_cons_succ, List.getElem?_cons_zero]; rfl) (by kernel_rfl) (by kernel_rfl) ?_ ?_ ?_ ?_ ?_; rotate_left; (focus rfl); (focus (intro W hSW; (try dsimp only at hSW); (try (obtain ⟨_, hSW⟩ := hSW)); (try (obtain ⟨hS1, hSW⟩ := hSW)); go_simp; (try with_reducible rfl); done)); (focus exact fun _ _ _ h => h); (focus exact ⟨trivial, .inr hG⟩); simp only [Act.put, List.setIfInBounds_toArray, List.set_cons_zero, List.set_cons_succ])
  refine TS.all2 0 4 (by kernel_rfl) ?_ ?_
  ·
    refine ⟨_, (by simp only [List.getElem?_toArray, List.getElem?_cons_succ, List.getElem?_cons_zero]; rfl), (by rfl), fun K hK => ?_⟩
    go_simp
    have bb := (Below.refl (w.heap.size + 2) v0).alloc hz (.cells #[] 50)
    have OA := Lib.hid (own_dn (own_empty' v0 50 2) hz)
    (try replace OD := Lib.hid (own_keep OD.out (w' := v0.alloc (.cells #[] 50)) (fun j hj => Below.heap_alloc _ _ j (OD.out.lt j hj).2)))
    (try have hgl := (OD.out.lt gd rfl).2)
    have hgx : v0.heap.size < (v0.alloc (.cells #[] 50)).heap.size := by simp
    replace X := Lib.hid ((bb.block w.heap.size (by omega)).trans X.out)
    replace Y := Lib.hid ((bb.block (w.heap.size + 1) (by omega)).trans Y.out)
    replace BA := Lib.hid (BA.out.trans (bb.mono (by omega)))
    replace hz : w.heap.size + 2 ≤ (v0.alloc (.cells #[] 50)).heap.size := by have := bb.size; omega
    clear bb hG
    have hG : (v0.alloc (.cells #[] 50)).cell? ⟨w.heap.size, 1, none⟩ = some (.slice a.A a.n a.c) ∧ (v0.alloc (.cells #[] 50)).cell? ⟨w.heap.size, 6, none⟩ = some (.slice a.D a.m a.k) := ⟨by rw [cell_of_row _ _ 1 _ _ _ X.out]; rfl, by rw [cell_of_row _ _ 6 _ _ _ X.out]; rfl⟩
    refine hK.out _ _ ⟨trivial, .inr hG⟩ ?_
    clear hK
    (try simp only [Act.put, List.setIfInBounds_toArray, List.set_cons_zero, List.set_cons_succ])
    generalize v0.alloc (.cells #[] 50) = v1 at *
    generalize v0.heap.size = ga at *
    refine TS.all2 3 4 (by kernel_rfl) ?_ ?_
    ·
      refine ⟨_, (by simp only [List.getElem?_toArray, List.getElem?_cons_succ, List.getElem?_cons_zero]; rfl), (by rfl), fun K hK => ?_⟩
      refine wp_append_any v1 (.tmp 3) (.tmp 5) 22 rfl (w.heap.size + 2) 50 i0 _ 2 16 Tryz.underlying22 hi0 hz0 hz1 hz2 rfl (by decide) (.slice (some ⟨ga, 0, none⟩) 0 0) 0 [] rfl OA.out B a.A a.n a.c (cntsC r.v) rfl (Reads.below HR.out.cs (BA.out.mono hB)) (oneCell_cnt r.v) (by simp only [maxLen]; omega) (by omega) hz ?_
      intro v' v2 ho1 hg1 hw1
      rw [Nat.zero_add] at ho1
      obtain ⟨A1, c1, rfl, _⟩ := own_shape ho1
      have bb := (Below.refl (w.heap.size + 2) v1).grown hg1 hz (fun j hj => (OA.out.lt j hj).1)
      (try replace OD := Lib.hid (own_keep OD.out (w' := v2) (fun j hj => hg1.block j (OD.out.lt j hj).2 (fun e => hgd (by have e1 : gd = j := Option.some.inj hj; have e2 : j = ga := Option.some.inj e; omega)))))
      (try have DIS := Lib.hid (show ∀ j, (Value.slice A1 a.n c1).ownBlock = some j → j ≠ gd from fun j hj => hw1.elim (fun h => by have e1 : some j = some ga := hj.symm.trans h; have e2 := Option.some.inj e1; omega) (fun h => by have e1 : some j = some v1.heap.size := hj.symm.trans h; have e2 := Option.some.inj e1; omega)))
      clear hg1 hw1 OA
      have OA := Lib.hid ho1
      clear ho1
      replace X := Lib.hid ((bb.block w.heap.size (by omega)).trans X.out)
      replace Y := Lib.hid ((bb.block (w.heap.size + 1) (by omega)).trans Y.out)
      replace BA := Lib.hid (BA.out.trans (bb.mono (by omega)))
      replace hz : w.heap.size + 2 ≤ (v2).heap.size := by have := bb.size; omega
      clear bb hG
      have hG : (v2).cell? ⟨w.heap.size, 1, none⟩ = some (.slice a.A a.n a.c) ∧ (v2).cell? ⟨w.heap.size, 6, none⟩ = some (.slice a.D a.m a.k) := ⟨by rw [cell_of_row _ _ 1 _ _ _ X.out]; rfl, by rw [cell_of_row _ _ 6 _ _ _ X.out]; rfl⟩
      refine hK.out _ _ ⟨trivial, .inr hG⟩ ?_
      clear hK
      (try simp only [Act.put, List.setIfInBounds_toArray, List.set_cons_zero, List.set_cons_succ])
      (refine TS.val1 (v := ?_) 9 _ (by simp only [List.getElem?_toArray, List.getElem?_cons_succ, List.getElem?_cons_zero]; rfl) (by kernel_rfl) (by kernel_rfl) ?_ ?_ ?_ ?_ ?_; rotate_left; (focus rfl); (focus (intro W hSW; (try dsimp only at hSW); (try (obtain ⟨_, hSW⟩ := hSW)); (try (obtain ⟨hS1, hSW⟩ := hSW)); go_simp; (try with_reducible rfl); done)); (focus exact fun _ _ _ h => h); (focus exact ⟨trivial, .inr hG⟩); simp only [Act.put, List.setIfInBounds_toArray, List.set_cons_zero, List.set_cons_succ])
      refine TS.all1 4 (by kernel_rfl) ?_
      refine ⟨_, (by simp only [List.getElem?_toArray, List.getElem?_cons_succ, List.getElem?_cons_zero]; rfl), (by rfl), fun K hK => ?_⟩
      go_simp
      have bb := (Below.refl (w.heap.size + 2) v2).alloc hz (.cells #[] 70)
      have OD := Lib.hid (own_dn (own_empty' v2 70 32) hz)
      (try have L0 := fun j hj => (OA.out.lt j hj).2)
      (try replace OA := Lib.hid (own_keep OA.out (w' := v2.alloc (.cells #[] 70)) (fun j hj => Below.heap_alloc _ _ j (OA.out.lt j hj).2)))
      (try have hgl := (OA.out.lt ga rfl).2)
      have hgz : v2.heap.size < (v2.alloc (.cells #[] 70)).heap.size := by simp
      replace X := Lib.hid ((bb.block w.heap.size (by omega)).trans X.out)
      replace Y := Lib.hid ((bb.block (w.heap.size + 1) (by omega)).trans Y.out)
      replace BA := Lib.hid (BA.out.trans (bb.mono (by omega)))
      replace hz : w.heap.size + 2 ≤ (v2.alloc (.cells #[] 70)).heap.size := by have := bb.size; omega
      clear bb hG
      have hG : (v2.alloc (.cells #[] 70)).cell? ⟨w.heap.size, 1, none⟩ = some (.slice a.A a.n a.c) ∧ (v2.alloc (.cells #[] 70)).cell? ⟨w.heap.size, 6, none⟩ = some (.slice a.D a.m a.k) := ⟨by rw [cell_of_row _ _ 1 _ _ _ X.out]; rfl, by rw [cell_of_row _ _ 6 _ _ _ X.out]; rfl⟩
      refine hK.out _ _ ⟨trivial, .inr hG⟩ ?_
      clear hK
      (try simp only [Act.put, List.setIfInBounds_toArray, List.set_cons_zero, List.set_cons_succ])
      generalize v2.alloc (.cells #[] 70) = v3 at *
      generalize v2.heap.size = gd at *
      have DIS := Lib.hid (show ∀ j, (Value.slice A1 a.n c1).ownBlock = some j → j ≠ gd from fun j hj => Nat.ne_of_lt (L0 j hj))
      clear L0
      refine TS.all1 8 (by kernel_rfl) ?_
      refine ⟨_, (by simp only [List.getElem?_toArray, List.getElem?_cons_succ, List.getElem?_cons_zero]; rfl), (by rfl), fun K hK => ?_⟩
      refine wp_append_any v3 (.tmp 7) (.tmp 10) 23 rfl (w.heap.size + 2) 70 j0 _ 32 32 Tryz.underlying23 hj0 hy0 hy1 hy2 rfl (by decide) (.slice (some ⟨gd, 0, none⟩) 0 0) 0 [] rfl OD.out B a.D a.m a.k (r.ds.flatMap Dg.cells) rfl (HR.out.dg.below (BA.out.mono hB)) (oneCell_dg r.ds) (by simp only [maxLen]; omega) (by omega) hz ?_
      intro v' v4 ho1 hg1 hw1
      rw [Nat.zero_add] at ho1
      obtain ⟨D1, k1, rfl, _⟩ := own_shape ho1
      have bb := (Below.refl (w.heap.size + 2) v3).grown hg1 hz (fun j hj => (OD.out.lt j hj).1)
      replace OA := Lib.hid (own_keep OA.out (w' := v4) (fun j hj => hg1.block j (OA.out.lt j hj).2 (fun e => DIS.out j hj (by injection e))))
      clear hg1 hw1 OD DIS
      have OD := Lib.hid ho1
      clear ho1
      replace X := Lib.hid ((bb.block w.heap.size (by omega)).trans X.out)
      replace Y := Lib.hid ((bb.block (w.heap.size + 1) (by omega)).trans Y.out)
      replace BA := Lib.hid (BA.out.trans (bb.mono (by omega)))
      replace hz : w.heap.size + 2 ≤ (v4).heap.size := by have := bb.size; omega
      clear bb hG
      have hG : (v4).cell? ⟨w.heap.size, 1, none⟩ = some (.slice a.A a.n a.c) ∧ (v4).cell? ⟨w.heap.size, 6, none⟩ = some (.slice a.D a.m a.k) := ⟨by rw [cell_of_row _ _ 1 _ _ _ X.out]; rfl, by rw [cell_of_row _ _ 6 _ _ _ X.out]; rfl⟩
      refine hK.out _ _ ⟨trivial, .inr hG⟩ ?_
      clear hK
      (try simp only [Act.put, List.setIfInBounds_toArray, List.set_cons_zero, List.set_cons_succ])
      have hnc : a.n ≤ c1 := by obtain ⟨_, c2, e1, e2⟩ := own_shape OA.out; cases e1; exact e2
      have k1' : v4.cell? ⟨w.heap.size, 1, none⟩ = some (.slice a.A a.n a.c) := hG.1
      have f1 := frozen_of_row _ w.heap.size 1 _ _ X.out
      replace X := Lib.hid (show (v4.setCell ⟨w.heap.size, 1, none⟩ (.slice A1 a.n c1)).heap[w.heap.size]? = some (.cells #[.string (st r.path), .slice A1 a.n c1, .int .i64 r.dev, .bool r.gone, .int .i64 r.size, .int .i64 r.len, .slice a.D a.m a.k] 27 (0, 0)) from heap_setCell_same _ w.heap.size 1 _ _ (.slice A1 a.n c1) X.out)
      replace Y := Lib.hid ((Below.heap_setCell v4 ⟨w.heap.size, 1, none⟩ (.slice A1 a.n c1) (w.heap.size + 1) (by simp)).trans Y.out)
      clear hG
      have B1 := Lib.hid (BA.out.setCell (p := ⟨w.heap.size, 1, none⟩) (Nat.le_refl _) (.slice A1 a.n c1))
      have P1 := Lib.hid (own_keep OA.out (w' := v4.setCell ⟨w.heap.size, 1, none⟩ (.slice A1 a.n c1)) (fun j hj => Below.heap_setCell v4 _ _ j (by have := (OA.out.lt j hj).1; simp; omega)))
      have P2 := Lib.hid (own_keep OD.out (w' := v4.setCell ⟨w.heap.size, 1, none⟩ (.slice A1 a.n c1)) (fun j hj => Below.heap_setCell v4 _ _ j (by have := (OD.out.lt j hj).1; simp; omega)))
      refine TS.all1 10 (by kernel_rfl) ⟨_, (by simp only [List.getElem?_toArray, List.getElem?_cons_succ, List.getElem?_cons_zero]; rfl), (by rfl), fun K hK => ?_⟩
      go_simp
      refine hK.out _ _ ⟨trivial, .inl (by rfl)⟩ ?_
      clear hK OA OD k1' f1 BA
      (try simp only [Act.put, List.setIfInBounds_toArray, List.set_cons_zero, List.set_cons_succ])
      generalize v4.setCell ⟨w.heap.size, 1, none⟩ (.slice A1 a.n c1) = w6 at *
      (refine TS.val1 (v := ?_) 11 _ (by simp only [List.getElem?_toArray, List.getElem?_cons_succ, List.getElem?_cons_zero]; rfl) (by kernel_rfl) (by kernel_rfl) ?_ ?_ ?_ ?_ ?_; rotate_left; (focus rfl); (focus (intro W hSW; (try dsimp only at hSW); (try (obtain ⟨_, hSW⟩ := hSW)); (try (obtain ⟨hS1, hSW⟩ := hSW)); go_simp; (try with_reducible rfl); done)); (focus exact fun _ _ _ h => h); (focus exact ⟨trivial, .inl (by rfl)⟩); simp only [Act.put, List.setIfInBounds_toArray, List.set_cons_zero, List.set_cons_succ])
      (refine TS.val1 (v := ?_) 12 _ (by simp only [List.getElem?_toArray, List.getElem?_cons_succ, List.getElem?_cons_zero]; rfl) (by kernel_rfl) (by kernel_rfl) ?_ ?_ ?_ ?_ ?_; rotate_left; (focus rfl); (focus (intro W hSW; (try dsimp only at hSW); (try (obtain ⟨_, hSW⟩ := hSW)); (try (obtain ⟨hS1, hSW⟩ := hSW)); go_simp; (try with_reducible rfl); done)); (focus exact fun _ _ _ h => h); (focus exact ⟨trivial, .inl (by rfl)⟩); simp only [Act.put, List.setIfInBounds_toArray, List.set_cons_zero, List.set_cons_succ])
      have k6 : w6.cell? ⟨w.heap.size, 6, none⟩ = some (.slice a.D a.m a.k) := by rw [cell_of_row _ _ 6 _ _ _ X.out]; rfl
      have f6 := frozen_of_row _ w.heap.size 6 _ _ X.out
      replace X := Lib.hid (show (w6.setCell ⟨w.heap.size, 6, none⟩ (.slice D1 a.m k1)).heap[w.heap.size]? = some (.cells #[.string (st r.path), .slice A1 a.n c1, .int .i64 r.dev, .bool r.gone, .int .i64 r.size, .int .i64 r.len, .slice D1 a.m k1] 27 (0, 0)) from heap_setCell_same _ w.heap.size 6 _ _ (.slice D1 a.m k1) X.out)
      replace Y := Lib.hid ((Below.heap_setCell w6 ⟨w.heap.size, 6, none⟩ (.slice D1 a.m k1) (w.heap.size + 1) (by simp)).trans Y.out)
      have B2 := Lib.hid (B1.out.setCell (p := ⟨w.heap.size, 6, none⟩) (Nat.le_refl _) (.slice D1 a.m k1))
      have Q1 := Lib.hid (own_keep P1.out (w' := w6.setCell ⟨w.heap.size, 6, none⟩ (.slice D1 a.m k1)) (fun j hj => Below.heap_setCell w6 _ _ j (by have := (P1.out.lt j hj).1; simp; omega)))
      have Q2 := Lib.hid (own_keep P2.out (w' := w6.setCell ⟨w.heap.size, 6, none⟩ (.slice D1 a.m k1)) (fun j hj => Below.heap_setCell w6 _ _ j (by have := (P2.out.lt j hj).1; simp; omega)))
      refine TS.all1 13 (by kernel_rfl) ⟨_, (by simp only [List.getElem?_toArray, List.getElem?_cons_succ, List.getElem?_cons_zero]; rfl), (by rfl), fun K hK => ?_⟩
      go_simp
      refine hK.out _ _ ⟨trivial, .inl (by rfl)⟩ ?_
      clear hK P1 P2 k6 f6 B1
      (try simp only [Act.put, List.setIfInBounds_toArray, List.set_cons_zero, List.set_cons_succ])
      generalize w6.setCell ⟨w.heap.size, 6, none⟩ (.slice D1 a.m k1) = w7 at *
      refine TS.done (by kernel_rfl) ?_
      have XS := Lib.hid (setRow_heap w7 (w.heap.size + 1) _ #[.string (st r.path), .slice A1 a.n c1, .int .i64 r.dev, .bool r.gone, .int .i64 r.size, .int .i64 r.len, .slice D1 a.m k1] _ _ Y.out)
      have BS := Lib.hid (below_setRow B2.out (show w.heap.size ≤ w.heap.size + 1 by omega) #[.string (st r.path), .slice A1 a.n c1, .int .i64 r.dev, .bool r.gone, .int .i64 r.size, .int .i64 r.len, .slice D1 a.m k1])
      have S1 := Lib.hid (show COwn (w7.setRow (w.heap.size + 1) #[.string (st r.path), .slice A1 a.n c1, .int .i64 r.dev, .bool r.gone, .int .i64 r.size, .int .i64 r.len, .slice D1 a.m k1]) w.heap.size A1 a.n c1 r.v from ⟨own_dn (own_keep Q1.out (fun j hj => setRow_other _ _ _ _ (by have := (Q1.out.lt j hj).1; omega))) (by omega), hnc⟩)
      have S2 := Lib.hid (own_dn (own_keep Q2.out (w' := w7.setRow (w.heap.size + 1) #[.string (st r.path), .slice A1 a.n c1, .int .i64 r.dev, .bool r.gone, .int .i64 r.size, .int .i64 r.len, .slice D1 a.m k1]) (fun j hj => setRow_other _ _ _ _ (by have := (Q2.out.lt j hj).1; omega))) (show w.heap.size ≤ w.heap.size + 2 by omega))
      go_wp2_with (first
        | (refine wpList_load_row rfl 27 (.tmp 1) rfl w.heap.size rfl 27 _ (0, 0) _ X.out Tryz.underlying27 rfl HI.out ?_)
        | (refine wpList_store_row rfl 27 (.tmp 2) (.tmp 15) rfl (w.heap.size + 1) #[.string (st r.path), .slice A1 a.n c1, .int .i64 r.dev, .bool r.gone, .int .i64 r.size, .int .i64 r.len, .slice D1 a.m k1] rfl rfl 27 _ Y.out HI.out rfl (by simp [Value.oneCell']) ?_)
        | fail)
      exact bodyPost_ret (results_cell_row Tryz.results35 _ _ (w.heap.size + 1) _ #[.string (st r.path), .slice A1 a.n c1, .int .i64 r.dev, .bool r.gone, .int .i64 r.size, .int .i64 r.len, .slice D1 a.m k1] _ _ rfl XS.out Tryz.underlying27 rfl HI.out) rfl ⟨A1, c1, D1, k1, rfl, S1.out, S2.out, BS.out⟩
    ·
      refine ⟨_, (by simp only [List.getElem?_toArray, List.getElem?_cons_succ, List.getElem?_cons_zero]; rfl), (by rfl), fun K hK => ?_⟩
      go_simp
      have bb := (Below.refl (w.heap.size + 2) v1).alloc hz (.cells #[] 70)
      have OD := Lib.hid (own_dn (own_empty' v1 70 32) hz)
      (try have L0 := fun j hj => (OA.out.lt j hj).2)
      (try replace OA := Lib.hid (own_keep OA.out (w' := v1.alloc (.cells #[] 70)) (fun j hj => Below.heap_alloc _ _ j (OA.out.lt j hj).2)))
      (try have hgl := (OA.out.lt ga rfl).2)
      have hgz : v1.heap.size < (v1.alloc (.cells #[] 70)).heap.size := by simp
      replace X := Lib.hid ((bb.block w.heap.size (by omega)).trans X.out)
      replace Y := Lib.hid ((bb.block (w.heap.size + 1) (by omega)).trans Y.out)
      replace BA := Lib.hid (BA.out.trans (bb.mono (by omega)))
      replace hz : w.heap.size + 2 ≤ (v1.alloc (.cells #[] 70)).heap.size := by have := bb.size; omega
      clear bb hG
      have hG : (v1.alloc (.cells #[] 70)).cell? ⟨w.heap.size, 1, none⟩ = some (.slice a.A a.n a.c) ∧ (v1.alloc (.cells #[] 70)).cell? ⟨w.heap.size, 6, none⟩ = some (.slice a.D a.m a.k) := ⟨by rw [cell_of_row _ _ 1 _ _ _ X.out]; rfl, by rw [cell_of_row _ _ 6 _ _ _ X.out]; rfl⟩
      refine hK.out _ _ ⟨trivial, .inr hG⟩ ?_
      clear hK
      (try simp only [Act.put, List.setIfInBounds_toArray, List.set_cons_zero, List.set_cons_succ])
      generalize v1.alloc (.cells #[] 70) = v2 at *
      generalize v1.heap.size = gd at *
      have hgd : gd ≠ ga := by omega
      refine TS.all1 3 (by kernel_rfl) ?_
      refine ⟨_, (by simp only [List.getElem?_toArray, List.getElem?_cons_succ, List.getElem?_cons_zero]; rfl), (by rfl), fun K hK => ?_⟩
      refine wp_append_any v2 (.tmp 3) (.tmp 5) 22 rfl (w.heap.size + 2) 50 i0 _ 2 16 Tryz.underlying22 hi0 hz0 hz1 hz2 rfl (by decide) (.slice (some ⟨ga, 0, none⟩) 0 0) 0 [] rfl OA.out B a.A a.n a.c (cntsC r.v) rfl (Reads.below HR.out.cs (BA.out.mono hB)) (oneCell_cnt r.v) (by simp only [maxLen]; omega) (by omega) hz ?_
      intro v' v3 ho1 hg1 hw1
      rw [Nat.zero_add] at ho1
      obtain ⟨A1, c1, rfl, _⟩ := own_shape ho1
      have bb := (Below.refl (w.heap.size + 2) v2).grown hg1 hz (fun j hj => (OA.out.lt j hj).1)
      (try replace OD := Lib.hid (own_keep OD.out (w' := v3) (fun j hj => hg1.block j (OD.out.lt j hj).2 (fun e => hgd (by have e1 : gd = j := Option.some.inj hj; have e2 : j = ga := Option.some.inj e; omega)))))
      (try have DIS := Lib.hid (show ∀ j, (Value.slice A1 a.n c1).ownBlock = some j → j ≠ gd from fun j hj => hw1.elim (fun h => by have e1 : some j = some ga := hj.symm.trans h; have e2 := Option.some.inj e1; omega) (fun h => by have e1 : some j = some v2.heap.size := hj.symm.trans h; have e2 := Option.some.inj e1; omega)))
      clear hg1 hw1 OA
      have OA := Lib.hid ho1
      clear ho1
      replace X := Lib.hid ((bb.block w.heap.size (by omega)).trans X.out)
      replace Y := Lib.hid ((bb.block (w.heap.size + 1) (by omega)).trans Y.out)
      replace BA := Lib.hid (BA.out.trans (bb.mono (by omega)))
      replace hz : w.heap.size + 2 ≤ (v3).heap.size := by have := bb.size; omega
      clear bb hG
      have hG : (v3).cell? ⟨w.heap.size, 1, none⟩ = some (.slice a.A a.n a.c) ∧ (v3).cell? ⟨w.heap.size, 6, none⟩ = some (.slice a.D a.m a.k) := ⟨by rw [cell_of_row _ _ 1 _ _ _ X.out]; rfl, by rw [cell_of_row _ _ 6 _ _ _ X.out]; rfl⟩
      refine hK.out _ _ ⟨trivial, .inr hG⟩ ?_
      clear hK
      (try simp only [Act.put, List.setIfInBounds_toArray, List.set_cons_zero, List.set_cons_succ])
      (refine TS.val1 (v := ?_) 9 _ (by simp only [List.getElem?_toArray, List.getElem?_cons_succ, List.getElem?_cons_zero]; rfl) (by kernel_rfl) (by kernel_rfl) ?_ ?_ ?_ ?_ ?_; rotate_left; (focus rfl); (focus (intro W hSW; (try dsimp only at hSW); (try (obtain ⟨_, hSW⟩ := hSW)); (try (obtain ⟨hS1, hSW⟩ := hSW)); go_simp; (try with_reducible rfl); done)); (focus exact fun _ _ _ h => h); (focus exact ⟨trivial, .inr hG⟩); simp only [Act.put, List.setIfInBounds_toArray, List.set_cons_zero, List.set_cons_succ])
      refine TS.all1 8 (by kernel_rfl) ?_
      refine ⟨_, (by simp only [List.getElem?_toArray, List.getElem?_cons_succ, List.getElem?_cons_zero]; rfl), (by rfl), fun K hK => ?_⟩
      refine wp_append_any v3 (.tmp 7) (.tmp 10) 23 rfl (w.heap.size + 2) 70 j0 _ 32 32 Tryz.underlying23 hj0 hy0 hy1 hy2 rfl (by decide) (.slice (some ⟨gd, 0, none⟩) 0 0) 0 [] rfl OD.out B a.D a.m a.k (r.ds.flatMap Dg.cells) rfl (HR.out.dg.below (BA.out.mono hB)) (oneCell_dg r.ds) (by simp only [maxLen]; omega) (by omega) hz ?_
      intro v' v4 ho1 hg1 hw1
      rw [Nat.zero_add] at ho1
      obtain ⟨D1, k1, rfl, _⟩ := own_shape ho1
      have bb := (Below.refl (w.heap.size + 2) v3).grown hg1 hz (fun j hj => (OD.out.lt j hj).1)
      replace OA := Lib.hid (own_keep OA.out (w' := v4) (fun j hj => hg1.block j (OA.out.lt j hj).2 (fun e => DIS.out j hj (by injection e))))
      clear hg1 hw1 OD DIS
      have OD := Lib.hid ho1
      clear ho1
      replace X := Lib.hid ((bb.block w.heap.size (by omega)).trans X.out)
      replace Y := Lib.hid ((bb.block (w.heap.size + 1) (by omega)).trans Y.out)
      replace BA := Lib.hid (BA.out.trans (bb.mono (by omega)))
      replace hz : w.heap.size + 2 ≤ (v4).heap.size := by have := bb.size; omega
      clear bb hG
      have hG : (v4).cell? ⟨w.heap.size, 1, none⟩ = some (.slice a.A a.n a.c) ∧ (v4).cell? ⟨w.heap.size, 6, none⟩ = some (.slice a.D a.m a.k) := ⟨by rw [cell_of_row _ _ 1 _ _ _ X.out]; rfl, by rw [cell_of_row _ _ 6 _ _ _ X.out]; rfl⟩
      refine hK.out _ _ ⟨trivial, .inr hG⟩ ?_
      clear hK
      (try simp only [Act.put, List.setIfInBounds_toArray, List.set_cons_zero, List.set_cons_succ])
      have hnc : a.n ≤ c1 := by obtain ⟨_, c2, e1, e2⟩ := own_shape OA.out; cases e1; exact e2
      have k1' : v4.cell? ⟨w.heap.size, 1, none⟩ = some (.slice a.A a.n a.c) := hG.1
      have f1 := frozen_of_row _ w.heap.size 1 _ _ X.out
      replace X := Lib.hid (show (v4.setCell ⟨w.heap.size, 1, none⟩ (.slice A1 a.n c1)).heap[w.heap.size]? = some (.cells #[.string (st r.path), .slice A1 a.n c1, .int .i64 r.dev, .bool r.gone, .int .i64 r.size, .int .i64 r.len, .slice a.D a.m a.k] 27 (0, 0)) from heap_setCell_same _ w.heap.size 1 _ _ (.slice A1 a.n c1) X.out)
      replace Y := Lib.hid ((Below.heap_setCell v4 ⟨w.heap.size, 1, none⟩ (.slice A1 a.n c1) (w.heap.size + 1) (by simp)).trans Y.out)
      clear hG
      have B1 := Lib.hid (BA.out.setCell (p := ⟨w.heap.size, 1, none⟩) (Nat.le_refl _) (.slice A1 a.n c1))
      have P1 := Lib.hid (own_keep OA.out (w' := v4.setCell ⟨w.heap.size, 1, none⟩ (.slice A1 a.n c1)) (fun j hj => Below.heap_setCell v4 _ _ j (by have := (OA.out.lt j hj).1; simp; omega)))
      have P2 := Lib.hid (own_keep OD.out (w' := v4.setCell ⟨w.heap.size, 1, none⟩ (.slice A1 a.n c1)) (fun j hj => Below.heap_setCell v4 _ _ j (by have := (OD.out.lt j hj).1; simp; omega)))
      refine TS.all1 10 (by kernel_rfl) ⟨_, (by simp only [List.getElem?_toArray, List.getElem?_cons_succ, List.getElem?_cons_zero]; rfl), (by rfl), fun K hK => ?_⟩
      go_simp
      refine hK.out _ _ ⟨trivial, .inl (by rfl)⟩ ?_
      clear hK OA OD k1' f1 BA
      (try simp only [Act.put, List.setIfInBounds_toArray, List.set_cons_zero, List.set_cons_succ])
      generalize v4.setCell ⟨w.heap.size, 1, none⟩ (.slice A1 a.n c1) = w6 at *
      (refine TS.val1 (v := ?_) 11 _ (by simp only [List.getElem?_toArray, List.getElem?_cons_succ, List.getElem?_cons_zero]; rfl) (by kernel_rfl) (by kernel_rfl) ?_ ?_ ?_ ?_ ?_; rotate_left; (focus rfl); (focus (intro W hSW; (try dsimp only at hSW); (try (obtain ⟨_, hSW⟩ := hSW)); (try (obtain ⟨hS1, hSW⟩ := hSW)); go_simp; (try with_reducible rfl); done)); (focus exact fun _ _ _ h => h); (focus exact ⟨trivial, .inl (by rfl)⟩); simp only [Act.put, List.setIfInBounds_toArray, List.set_cons_zero, List.set_cons_succ])
      (refine TS.val1 (v := ?_) 12 _ (by simp only [List.getElem?_toArray, List.getElem?_cons_succ, List.getElem?_cons_zero]; rfl) (by kernel_rfl) (by kernel_rfl) ?_ ?_ ?_ ?_ ?_; rotate_left; (focus rfl); (focus (intro W hSW; (try dsimp only at hSW); (try (obtain ⟨_, hSW⟩ := hSW)); (try (obtain ⟨hS1, hSW⟩ := hSW)); go_simp; (try with_reducible rfl); done)); (focus exact fun _ _ _ h => h); (focus exact ⟨trivial, .inl (by rfl)⟩); simp only [Act.put, List.setIfInBounds_toArray, List.set_cons_zero, List.set_cons_succ])
      have k6 : w6.cell? ⟨w.heap.size, 6, none⟩ = some (.slice a.D a.m a.k) := by rw [cell_of_row _ _ 6 _ _ _ X.out]; rfl
      have f6 := frozen_of_row _ w.heap.size 6 _ _ X.out
      replace X := Lib.hid (show (w6.setCell ⟨w.heap.size, 6, none⟩ (.slice D1 a.m k1)).heap[w.heap.size]? = some (.cells #[.string (st r.path), .slice A1 a.n c1, .int .i64 r.dev, .bool r.gone, .int .i64 r.size, .int .i64 r.len, .slice D1 a.m k1] 27 (0, 0)) from heap_setCell_same _ w.heap.size 6 _ _ (.slice D1 a.m k1) X.out)
      replace Y := Lib.hid ((Below.heap_setCell w6 ⟨w.heap.size, 6, none⟩ (.slice D1 a.m k1) (w.heap.size + 1) (by simp)).trans Y.out)
      have B2 := Lib.hid (B1.out.setCell (p := ⟨w.heap.size, 6, none⟩) (Nat.le_refl _) (.slice D1 a.m k1))
      have Q1 := Lib.hid (own_keep P1.out (w' := w6.setCell ⟨w.heap.size, 6, none⟩ (.slice D1 a.m k1)) (fun j hj => Below.heap_setCell w6 _ _ j (by have := (P1.out.lt j hj).1; simp; omega)))
      have Q2 := Lib.hid (own_keep P2.out (w' := w6.setCell ⟨w.heap.size, 6, none⟩ (.slice D1 a.m k1)) (fun j hj => Below.heap_setCell w6 _ _ j (by have := (P2.out.lt j hj).1; simp; omega)))
      refine TS.all1 13 (by kernel_rfl) ⟨_, (by simp only [List.getElem?_toArray, List.getElem?_cons_succ, List.getElem?_cons_zero]; rfl), (by rfl), fun K hK => ?_⟩
      go_simp
      refine hK.out _ _ ⟨trivial, .inl (by rfl)⟩ ?_
      clear hK P1 P2 k6 f6 B1
      (try simp only [Act.put, List.setIfInBounds_toArray, List.set_cons_zero, List.set_cons_succ])
      generalize w6.setCell ⟨w.heap.size, 6, none⟩ (.slice D1 a.m k1) = w7 at *
      refine TS.done (by kernel_rfl) ?_
      have XS := Lib.hid (setRow_heap w7 (w.heap.size + 1) _ #[.string (st r.path), .slice A1 a.n c1, .int .i64 r.dev, .bool r.gone, .int .i64 r.size, .int .i64 r.len, .slice D1 a.m k1] _ _ Y.out)
      have BS := Lib.hid (below_setRow B2.out (show w.heap.size ≤ w.heap.size + 1 by omega) #[.string (st r.path), .slice A1 a.n c1, .int .i64 r.dev, .bool r.gone, .int .i64 r.size, .int .i64 r.len, .slice D1 a.m k1])
      have S1 := Lib.hid (show COwn (w7.setRow (w.heap.size + 1) #[.string (st r.path), .slice A1 a.n c1, .int .i64 r.dev, .bool r.gone, .int .i64 r.size, .int .i64 r.len, .slice D1 a.m k1]) w.heap.size A1 a.n c1 r.v from ⟨own_dn (own_keep Q1.out (fun j hj => setRow_other _ _ _ _ (by have := (Q1.out.lt j hj).1; omega))) (by omega), hnc⟩)
      have S2 := Lib.hid (own_dn (own_keep Q2.out (w' := w7.setRow (w.heap.size + 1) #[.string (st r.path), .slice A1 a.n c1, .int .i64 r.dev, .bool r.gone, .int .i64 r.size, .int .i64 r.len, .slice D1 a.m k1]) (fun j hj => setRow_other _ _ _ _ (by have := (Q2.out.lt j hj).1; omega))) (show w.heap.size ≤ w.heap.size + 2 by omega))
      go_wp2_with (first
        | (refine wpList_load_row rfl 27 (.tmp 1) rfl w.heap.size rfl 27 _ (0, 0) _ X.out Tryz.underlying27 rfl HI.out ?_)
        | (refine wpList_store_row rfl 27 (.tmp 2) (.tmp 15) rfl (w.heap.size + 1) #[.string (st r.path), .slice A1 a.n c1, .int .i64 r.dev, .bool r.gone, .int .i64 r.size, .int .i64 r.len, .slice D1 a.m k1] rfl rfl 27 _ Y.out HI.out rfl (by simp [Value.oneCell']) ?_)
        | fail)
      exact bodyPost_ret (results_cell_row Tryz.results35 _ _ (w.heap.size + 1) _ #[.string (st r.path), .slice A1 a.n c1, .int .i64 r.dev, .bool r.gone, .int .i64 r.size, .int .i64 r.len, .slice D1 a.m k1] _ _ rfl XS.out Tryz.underlying27 rfl HI.out) rfl ⟨A1, c1, D1, k1, rfl, S1.out, S2.out, BS.out⟩
  ·
    refine ⟨_, (by simp only [List.getElem?_toArray, List.getElem?_cons_succ, List.getElem?_cons_zero]; rfl), (by rfl), fun K hK => ?_⟩
    go_simp
    have bb := (Below.refl (w.heap.size + 2) v0).alloc hz (.cells #[] 70)
    have OD := Lib.hid (own_dn (own_empty' v0 70 32) hz)
    (try have L0 := fun j hj => (OA.out.lt j hj).2)
    (try replace OA := Lib.hid (own_keep OA.out (w' := v0.alloc (.cells #[] 70)) (fun j hj => Below.heap_alloc _ _ j (OA.out.lt j hj).2)))
    (try have hgl := (OA.out.lt ga rfl).2)
    have hgz : v0.heap.size < (v0.alloc (.cells #[] 70)).heap.size := by simp
    replace X := Lib.hid ((bb.block w.heap.size (by omega)).trans X.out)
    replace Y := Lib.hid ((bb.block (w.heap.size + 1) (by omega)).trans Y.out)
    replace BA := Lib.hid (BA.out.trans (bb.mono (by omega)))
    replace hz : w.heap.size + 2 ≤ (v0.alloc (.cells #[] 70)).heap.size := by have := bb.size; omega
    clear bb hG
    have hG : (v0.alloc (.cells #[] 70)).cell? ⟨w.heap.size, 1, none⟩ = some (.slice a.A a.n a.c) ∧ (v0.alloc (.cells #[] 70)).cell? ⟨w.heap.size, 6, none⟩ = some (.slice a.D a.m a.k) := ⟨by rw [cell_of_row _ _ 1 _ _ _ X.out]; rfl, by rw [cell_of_row _ _ 6 _ _ _ X.out]; rfl⟩
    refine hK.out _ _ ⟨trivial, .inr hG⟩ ?_
    clear hK
    (try simp only [Act.put, List.setIfInBounds_toArray, List.set_cons_zero, List.set_cons_succ])
    generalize v0.alloc (.cells #[] 70) = v1 at *
    generalize v0.heap.size = gd at *
    refine TS.all1 0 (by kernel_rfl) ?_
    refine ⟨_, (by simp only [List.getElem?_toArray, List.getElem?_cons_succ, List.getElem?_cons_zero]; rfl), (by rfl), fun K hK => ?_⟩
    go_simp
    have bb := (Below.refl (w.heap.size + 2) v1).alloc hz (.cells #[] 50)
    have OA := Lib.hid (own_dn (own_empty' v1 50 2) hz)
    (try replace OD := Lib.hid (own_keep OD.out (w' := v1.alloc (.cells #[] 50)) (fun j hj => Below.heap_alloc _ _ j (OD.out.lt j hj).2)))
    (try have hgl := (OD.out.lt gd rfl).2)
    have hgx : v1.heap.size < (v1.alloc (.cells #[] 50)).heap.size := by simp
    replace X := Lib.hid ((bb.block w.heap.size (by omega)).trans X.out)
    replace Y := Lib.hid ((bb.block (w.heap.size + 1) (by omega)).trans Y.out)
    replace BA := Lib.hid (BA.out.trans (bb.mono (by omega)))
    replace hz : w.heap.size + 2 ≤ (v1.alloc (.cells #[] 50)).heap.size := by have := bb.size; omega
    clear bb hG
    have hG : (v1.alloc (.cells #[] 50)).cell? ⟨w.heap.size, 1, none⟩ = some (.slice a.A a.n a.c) ∧ (v1.alloc (.cells #[] 50)).cell? ⟨w.heap.size, 6, none⟩ = some (.slice a.D a.m a.k) := ⟨by rw [cell_of_row _ _ 1 _ _ _ X.out]; rfl, by rw [cell_of_row _ _ 6 _ _ _ X.out]; rfl⟩
    refine hK.out _ _ ⟨trivial, .inr hG⟩ ?_
    clear hK
    (try simp only [Act.put, List.setIfInBounds_toArray, List.set_cons_zero, List.set_cons_succ])
    generalize v1.alloc (.cells #[] 50) = v2 at *
    generalize v1.heap.size = ga at *
    have hgd : gd ≠ ga := by omega
    refine TS.all1 3 (by kernel_rfl) ?_
    refine ⟨_, (by simp only [List.getElem?_toArray, List.getElem?_cons_succ, List.getElem?_cons_zero]; rfl), (by rfl), fun K hK => ?_⟩
    refine wp_append_any v2 (.tmp 3) (.tmp 5) 22 rfl (w.heap.size + 2) 50 i0 _ 2 16 Tryz.underlying22 hi0 hz0 hz1 hz2 rfl (by decide) (.slice (some ⟨ga, 0, none⟩) 0 0) 0 [] rfl OA.out B a.A a.n a.c (cntsC r.v) rfl (Reads.below HR.out.cs (BA.out.mono hB)) (oneCell_cnt r.v) (by simp only [maxLen]; omega) (by omega) hz ?_
    intro v' v3 ho1 hg1 hw1
    rw [Nat.zero_add] at ho1
    obtain ⟨A1, c1, rfl, _⟩ := own_shape ho1
    have bb := (Below.refl (w.heap.size + 2) v2).grown hg1 hz (fun j hj => (OA.out.lt j hj).1)
    (try replace OD := Lib.hid (own_keep OD.out (w' := v3) (fun j hj => hg1.block j (OD.out.lt j hj).2 (fun e => hgd (by have e1 : gd = j := Option.some.inj hj; have e2 : j = ga := Option.some.inj e; omega)))))
    (try have DIS := Lib.hid (show ∀ j, (Value.slice A1 a.n c1).ownBlock = some j → j ≠ gd from fun j hj => hw1.elim (fun h => by have e1 : some j = some ga := hj.symm.trans h; have e2 := Option.some.inj e1; omega) (fun h => by have e1 : some j = some v2.heap.size := hj.symm.trans h; have e2 := Option.some.inj e1; omega)))
    clear hg1 hw1 OA
    have OA := Lib.hid ho1
    clear ho1
    replace X := Lib.hid ((bb.block w.heap.size (by omega)).trans X.out)
    replace Y := Lib.hid ((bb.block (w.heap.size + 1) (by omega)).trans Y.out)
    replace BA := Lib.hid (BA.out.trans (bb.mono (by omega)))
    replace hz : w.heap.size + 2 ≤ (v3).heap.size := by have := bb.size; omega
    clear bb hG
    have hG : (v3).cell? ⟨w.heap.size, 1, none⟩ = some (.slice a.A a.n a.c) ∧ (v3).cell? ⟨w.heap.size, 6, none⟩ = some (.slice a.D a.m a.k) := ⟨by rw [cell_of_row _ _ 1 _ _ _ X.out]; rfl, by rw [cell_of_row _ _ 6 _ _ _ X.out]; rfl⟩
    refine hK.out _ _ ⟨trivial, .inr hG⟩ ?_
    clear hK
    (try simp only [Act.put, List.setIfInBounds_toArray, List.set_cons_zero, List.set_cons_succ])
    (refine TS.val1 (v := ?_) 9 _ (by simp only [List.getElem?_toArray, List.getElem?_cons_succ, List.getElem?_cons_zero]; rfl) (by kernel_rfl) (by kernel_rfl) ?_ ?_ ?_ ?_ ?_; rotate_left; (focus rfl); (focus (intro W hSW; (try dsimp only at hSW); (try (obtain ⟨_, hSW⟩ := hSW)); (try (obtain ⟨hS1, hSW⟩ := hSW)); go_simp; (try with_reducible rfl); done)); (focus exact fun _ _ _ h => h); (focus exact ⟨trivial, .inr hG⟩); simp only [Act.put, List.setIfInBounds_toArray, List.set_cons_zero, List.set_cons_succ])
    refine TS.all1 8 (by kernel_rfl) ?_
    refine ⟨_, (by simp only [List.getElem?_toArray, List.getElem?_cons_succ, List.getElem?_cons_zero]; rfl), (by rfl), fun K hK => ?_⟩
    refine wp_append_any v3 (.tmp 7) (.tmp 10) 23 rfl (w.heap.size + 2) 70 j0 _ 32 32 Tryz.underlying23 hj0 hy0 hy1 hy2 rfl (by decide) (.slice (some ⟨gd, 0, none⟩) 0 0) 0 [] rfl OD.out B a.D a.m a.k (r.ds.flatMap Dg.cells) rfl (HR.out.dg.below (BA.out.mono hB)) (oneCell_dg r.ds) (by simp only [maxLen]; omega) (by omega) hz ?_
    intro v' v4 ho1 hg1 hw1
    rw [Nat.zero_add] at ho1
    obtain ⟨D1, k1, rfl, _⟩ := own_shape ho1
    have bb := (Below.refl (w.heap.size + 2) v3).grown hg1 hz (fun j hj => (OD.out.lt j hj).1)
    replace OA := Lib.hid (own_keep OA.out (w' := v4) (fun j hj => hg1.block j (OA.out.lt j hj).2 (fun e => DIS.out j hj (by injection e))))
    clear hg1 hw1 OD DIS
    have OD := Lib.hid ho1
    clear ho1
    replace X := Lib.hid ((bb.block w.heap.size (by omega)).trans X.out)
    replace Y := Lib.hid ((bb.block (w.heap.size + 1) (by omega)).trans Y.out)
    replace BA := Lib.hid (BA.out.trans (bb.mono (by omega)))
    replace hz : w.heap.size + 2 ≤ (v4).heap.size := by have := bb.size; omega
    clear bb hG
    have hG : (v4).cell? ⟨w.heap.size, 1, none⟩ = some (.slice a.A a.n a.c) ∧ (v4).cell? ⟨w.heap.size, 6, none⟩ = some (.slice a.D a.m a.k) := ⟨by rw [cell_of_row _ _ 1 _ _ _ X.out]; rfl, by rw [cell_of_row _ _ 6 _ _ _ X.out]; rfl⟩
    refine hK.out _ _ ⟨trivial, .inr hG⟩ ?_
    clear hK
    (try simp only [Act.put, List.setIfInBounds_toArray, List.set_cons_zero, List.set_cons_succ])
    have hnc : a.n ≤ c1 := by obtain ⟨_, c2, e1, e2⟩ := own_shape OA.out; cases e1; exact e2
    have k1' : v4.cell? ⟨w.heap.size, 1, none⟩ = some (.slice a.A a.n a.c) := hG.1
    have f1 := frozen_of_row _ w.heap.size 1 _ _ X.out
    replace X := Lib.hid (show (v4.setCell ⟨w.heap.size, 1, none⟩ (.slice A1 a.n c1)).heap[w.heap.size]? = some (.cells #[.string (st r.path), .slice A1 a.n c1, .int .i64 r.dev, .bool r.gone, .int .i64 r.size, .int .i64 r.len, .slice a.D a.m a.k] 27 (0, 0)) from heap_setCell_same _ w.heap.size 1 _ _ (.slice A1 a.n c1) X.out)
    replace Y := Lib.hid ((Below.heap_setCell v4 ⟨w.heap.size, 1, none⟩ (.slice A1 a.n c1) (w.heap.size + 1) (by simp)).trans Y.out)
    clear hG
    have B1 := Lib.hid (BA.out.setCell (p := ⟨w.heap.size, 1, none⟩) (Nat.le_refl _) (.slice A1 a.n c1))
    have P1 := Lib.hid (own_keep OA.out (w' := v4.setCell ⟨w.heap.size, 1, none⟩ (.slice A1 a.n c1)) (fun j hj => Below.heap_setCell v4 _ _ j (by have := (OA.out.lt j hj).1; simp; omega)))
    have P2 := Lib.hid (own_keep OD.out (w' := v4.setCell ⟨w.heap.size, 1, none⟩ (.slice A1 a.n c1)) (fun j hj => Below.heap_setCell v4 _ _ j (by have := (OD.out.lt j hj).1; simp; omega)))
    refine TS.all1 10 (by kernel_rfl) ⟨_, (by simp only [List.getElem?_toArray, List.getElem?_cons_succ, List.getElem?_cons_zero]; rfl), (by rfl), fun K hK => ?_⟩
    go_simp
    refine hK.out _ _ ⟨trivial, .inl (by rfl)⟩ ?_
    clear hK OA OD k1' f1 BA
    (try simp only [Act.put, List.setIfInBounds_toArray, List.set_cons_zero, List.set_cons_succ])
    generalize v4.setCell ⟨w.heap.size, 1, none⟩ (.slice A1 a.n c1) = w6 at *
    (refine TS.val1 (v := ?_) 11 _ (by simp only [List.getElem?_toArray, List.getElem?_cons_succ, List.getElem?_cons_zero]; rfl) (by kernel_rfl) (by kernel_rfl) ?_ ?_ ?_ ?_ ?_; rotate_left; (focus rfl); (focus (intro W hSW; (try dsimp only at hSW); (try (obtain ⟨_, hSW⟩ := hSW)); (try (obtain ⟨hS1, hSW⟩ := hSW)); go_simp; (try with_reducible rfl); done)); (focus exact fun _ _ _ h => h); (focus exact ⟨trivial, .inl (by rfl)⟩); simp only [Act.put, List.setIfInBounds_toArray, List.set_cons_zero, List.set_cons_succ])
    (refine TS.val1 (v := ?_) 12 _ (by simp only [List.getElem?_toArray, List.getElem?_cons_succ, List.getElem?_cons_zero]; rfl) (by kernel_rfl) (by kernel_rfl) ?_ ?_ ?_ ?_ ?_; rotate_left; (focus rfl); (focus (intro W hSW; (try dsimp only at hSW); (try (obtain ⟨_, hSW⟩ := hSW)); (try (obtain ⟨hS1, hSW⟩ := hSW)); go_simp; (try with_reducible rfl); done)); (focus exact fun _ _ _ h => h); (focus exact ⟨trivial, .inl (by rfl)⟩); simp only [Act.put, List.setIfInBounds_toArray, List.set_cons_zero, List.set_cons_succ])
    have k6 : w6.cell? ⟨w.heap.size, 6, none⟩ = some (.slice a.D a.m a.k) := by rw [cell_of_row _ _ 6 _ _ _ X.out]; rfl
    have f6 := frozen_of_row _ w.heap.size 6 _ _ X.out
    replace X := Lib.hid (show (w6.setCell ⟨w.heap.size, 6, none⟩ (.slice D1 a.m k1)).heap[w.heap.size]? = some (.cells #[.string (st r.path), .slice A1 a.n c1, .int .i64 r.dev, .bool r.gone, .int .i64 r.size, .int .i64 r.len, .slice D1 a.m k1] 27 (0, 0)) from heap_setCell_same _ w.heap.size 6 _ _ (.slice D1 a.m k1) X.out)
    replace Y := Lib.hid ((Below.heap_setCell w6 ⟨w.heap.size, 6, none⟩ (.slice D1 a.m k1) (w.heap.size + 1) (by simp)).trans Y.out)
    have B2 := Lib.hid (B1.out.setCell (p := ⟨w.heap.size, 6, none⟩) (Nat.le_refl _) (.slice D1 a.m k1))
    have Q1 := Lib.hid (own_keep P1.out (w' := w6.setCell ⟨w.heap.size, 6, none⟩ (.slice D1 a.m k1)) (fun j hj => Below.heap_setCell w6 _ _ j (by have := (P1.out.lt j hj).1; simp; omega)))
    have Q2 := Lib.hid (own_keep P2.out (w' := w6.setCell ⟨w.heap.size, 6, none⟩ (.slice D1 a.m k1)) (fun j hj => Below.heap_setCell w6 _ _ j (by have := (P2.out.lt j hj).1; simp; omega)))
    refine TS.all1 13 (by kernel_rfl) ⟨_, (by simp only [List.getElem?_toArray, List.getElem?_cons_succ, List.getElem?_cons_zero]; rfl), (by rfl), fun K hK => ?_⟩
    go_simp
    refine hK.out _ _ ⟨trivial, .inl (by rfl)⟩ ?_
    clear hK P1 P2 k6 f6 B1
    (try simp only [Act.put, List.setIfInBounds_toArray, List.set_cons_zero, List.set_cons_succ])
    generalize w6.setCell ⟨w.heap.size, 6, none⟩ (.slice D1 a.m k1) = w7 at *
    refine TS.done (by kernel_rfl) ?_
    have XS := Lib.hid (setRow_heap w7 (w.heap.size + 1) _ #[.string (st r.path), .slice A1 a.n c1, .int .i64 r.dev, .bool r.gone, .int .i64 r.size, .int .i64 r.len, .slice D1 a.m k1] _ _ Y.out)
    have BS := Lib.hid (below_setRow B2.out (show w.heap.size ≤ w.heap.size + 1 by omega) #[.string (st r.path), .slice A1 a.n c1, .int .i64 r.dev, .bool r.gone, .int .i64 r.size, .int .i64 r.len, .slice D1 a.m k1])
    have S1 := Lib.hid (show COwn (w7.setRow (w.heap.size + 1) #[.string (st r.path), .slice A1 a.n c1, .int .i64 r.dev, .bool r.gone, .int .i64 r.size, .int .i64 r.len, .slice D1 a.m k1]) w.heap.size A1 a.n c1 r.v from ⟨own_dn (own_keep Q1.out (fun j hj => setRow_other _ _ _ _ (by have := (Q1.out.lt j hj).1; omega))) (by omega), hnc⟩)
    have S2 := Lib.hid (own_dn (own_keep Q2.out (w' := w7.setRow (w.heap.size + 1) #[.string (st r.path), .slice A1 a.n c1, .int .i64 r.dev, .bool r.gone, .int .i64 r.size, .int .i64 r.len, .slice D1 a.m k1]) (fun j hj => setRow_other _ _ _ _ (by have := (Q2.out.lt j hj).1; omega))) (show w.heap.size ≤ w.heap.size + 2 by omega))
    go_wp2_with (first
      | (refine wpList_load_row rfl 27 (.tmp 1) rfl w.heap.size rfl 27 _ (0, 0) _ X.out Tryz.underlying27 rfl HI.out ?_)
      | (refine wpList_store_row rfl 27 (.tmp 2) (.tmp 15) rfl (w.heap.size + 1) #[.string (st r.path), .slice A1 a.n c1, .int .i64 r.dev, .bool r.gone, .int .i64 r.size, .int .i64 r.len, .slice D1 a.m k1] rfl rfl 27 _ Y.out HI.out rfl (by simp [Value.oneCell']) ?_)
      | fail)
    exact bodyPost_ret (results_cell_row Tryz.results35 _ _ (w.heap.size + 1) _ #[.string (st r.path), .slice A1 a.n c1, .int .i64 r.dev, .bool r.gone, .int .i64 r.size, .int .i64 r.len, .slice D1 a.m k1] _ _ rfl XS.out Tryz.underlying27 rfl HI.out) rfl ⟨A1, c1, D1, k1, rfl, S1.out, S2.out, BS.out⟩
end Go.Proofs.YtndekohimfjdeaaGreatDoor

namespace Go.Proofs.YtndekohimfjdeaaGreatDoor
open Go.RowKit Go.Shelf
theorem results_row_tmp {P : Program} {fn : Func} {p q : Tmp} {ty : TypeId} (h : fn.results = #[.cell p ty, .tmp q]) (tmps : Array Value) (w : World) (g : Nat) (t : TypeId) (cs : Array Value) (fr : Nat × Nat) (d : TypeDesc)
    (hp : tmps.getD p undef = .pointer (some ⟨g, 0, none⟩)) (hg : w.heap[g]? = some (.cells cs t fr))
    (hu : P.underlying ty = some d) (hd : (match d with | .struct _ | .array _ _ => true | _ => false) = true) (hi : (P.info? ty).map (·.size) = some cs.size) :
    (results fn tmps).run P w = .ok (.tuple #[.agg cs, tmps.getD q undef]) w := by
  have hp' : tmps[p]?.getD undef = .pointer (some ⟨g, 0, none⟩) := by simpa using hp
  simp [results, h, hp', asAddr, run_loadVar_row w g t ty cs fr d hg hu hd hi]
theorem MReads.lit (w : World) (B : Nat) (vs : List Vec) (C : Array Value) (T : TypeId) (hC : C.toList = vs.map Vec.v) (hB : B ≤ w.heap.size) (h : ∀ v ∈ vs, CReads w B v.A v.n v.l ∧ v.n ≤ 9223372036854775807) :
    MReads (w.alloc (.cells C T)) (w.heap.size + 1) (some ⟨w.heap.size, 0, none⟩) vs.length vs := by
  refine ⟨⟨by simp, fun _ => ⟨_, rfl, Nat.lt_succ_self _, fun j u hu => ?_⟩⟩, fun v hv => ⟨Reads.more (Reads.alloc (h v hv).1 hB _) (by omega), (h v hv).2⟩⟩
  rw [← hC, Array.getElem?_toList] at hu
  rcases j with _ | j
  · rw [add_zero, World.cell?_alloc_at _ _ _ _ rfl]
    exact hu
  · rw [add_pos _ _ (by omega), World.cell?_alloc_at _ _ _ _ rfl]
    simpa using hu
/-- The record of which two the settled one is. -/
def winX (r q : Rcd) : Rcd := if 0 < ordV q.v r.v then q else r
def zeroR : Rcd := ⟨[], [], 0, false, 0, 0, []⟩
/-- The settled version of two. -/
def setR (r q : Rcd) : Rcd × Nat := if twoE r q ≠ 0 then (zeroR, twoE r q) else ({winX r q with v := mergeV [r.v, q.v]}, 0)
theorem zero_reads (w : World) : RReads w w.heap.size zeroR ⟨none, 0, 0, none, 0, 0⟩ := ⟨Reads.none_, Reads.none_, Nat.zero_le _, Nat.zero_le _, fun x hx => by cases hx⟩
theorem len_ofN16 : ∀ (k : Nat) (d : Int) (f : Int → Nat), (ofN f k d).length ≤ k
  | 0, _, _ => by simp [ofN]
  | k + 1, d, f => by
    have := len_ofN16 k (d + 1) f
    rw [ofN, List.length_append]
    split <;> simp <;> omega
theorem okR_v' {r : Rcd} (h : okR r = 0) : okV 0 r.v = true := by
  unfold okR at h
  split at h
  · rename_i h1; exact absurd h h1
  · split at h
    · cases h
    · rename_i h2; simpa using h2
theorem merge_len (vs : List (List (Int × Nat))) : (mergeV vs).length ≤ 16 := by
  unfold mergeV
  split
  · exact len_ofN16 16 1 _
  · exact Nat.zero_le _
theorem own_lo {w : World} {base K n c : Nat} {e : TypeId} {A : Option Addr} {xs : List Value} (h : w.ownsRow base e K (.slice A n c) n xs) : ∀ ad, A = some ad → base ≤ ad.block := by
  rintro ad rfl
  rcases h.2 with ⟨hv, _⟩ | ⟨g, cap, cur, hv, hg, _⟩
  · cases hv
  · injection hv with h1
    injection h1 with h1
    rw [h1]
    exact hg
theorem merge_fit (vs : List (List (Int × Nat))) (h : ∀ v ∈ vs, fitV v) : fitV (mergeV vs) := by
  unfold mergeV
  split
  · exact fit_ofV _ fun e => fit_merge vs e h
  · exact fun x hx => by cases hx
set_option maxRecDepth 100000 in
set_option maxHeartbeats 16000000 in
theorem settle_o (r q : Rcd) (a b : RSh) (B : Nat) (w : World) (he : EnvM w) (hr : RReads w B r a) (hq : RReads w B q b) (hB : B ≤ w.heap.size) :
    Calls Tryz.prog 11 #[.agg #[.string (st r.path), .slice a.A a.n a.c, .int .i64 r.dev, .bool r.gone, .int .i64 r.size, .int .i64 r.len, .slice a.D a.m a.k], .agg #[.string (st q.path), .slice b.A b.n b.c, .int .i64 q.dev, .bool q.gone, .int .i64 q.size, .int .i64 q.len, .slice b.D b.m b.k]] w fun e w' => ∃ x : RSh, e = .returned (.tuple #[.agg #[.string (st (setR r q).1.path), .slice x.A x.n x.c, .int .i64 (setR r q).1.dev, .bool (setR r q).1.gone, .int .i64 (setR r q).1.size, .int .i64 (setR r q).1.len, .slice x.D x.m x.k], .int .i64 ((setR r q).2 : Int)]) ∧ RReads w' w'.heap.size (setR r q).1 x ∧ (∀ ad, x.A = some ad → w.heap.size ≤ ad.block) ∧ (∀ ad, x.D = some ad → w.heap.size ≤ ad.block) ∧ Below w.heap.size w w' := by
  have HI := Lib.hid (show (Tryz.prog.info? 27).map (·.size) = some 7 by kernel_rfl)
  have BA := Lib.hid ((((Below.refl w.heap.size w).alloc (Nat.le_refl _) (.cells #[.string (st r.path), .slice a.A a.n a.c, .int .i64 r.dev, .bool r.gone, .int .i64 r.size, .int .i64 r.len, .slice a.D a.m a.k] 27)).alloc (by simp) (.cells #[.string (st q.path), .slice b.A b.n b.c, .int .i64 q.dev, .bool q.gone, .int .i64 q.size, .int .i64 q.len, .slice b.D b.m b.k] 27)).alloc (by simp; omega) (.cells #[.string ⟨#[]⟩, .slice none 0 0, .int .i64 0, .bool false, .int .i64 0, .int .i64 0, .slice none 0 0] 27))
  have hz2 : ((w.alloc (.cells #[.string (st r.path), .slice a.A a.n a.c, .int .i64 r.dev, .bool r.gone, .int .i64 r.size, .int .i64 r.len, .slice a.D a.m a.k] 27)).alloc (.cells #[.string (st q.path), .slice b.A b.n b.c, .int .i64 q.dev, .bool q.gone, .int .i64 q.size, .int .i64 q.len, .slice b.D b.m b.k] 27)).heap.size = w.heap.size + 2 := by simp
  have X := Lib.hid ((Below.heap_alloc _ (.cells #[.string ⟨#[]⟩, .slice none 0 0, .int .i64 0, .bool false, .int .i64 0, .int .i64 0, .slice none 0 0] 27) w.heap.size (by omega)).trans (heap_alloc2_old w (.cells #[.string (st r.path), .slice a.A a.n a.c, .int .i64 r.dev, .bool r.gone, .int .i64 r.size, .int .i64 r.len, .slice a.D a.m a.k] 27) (.cells #[.string (st q.path), .slice b.A b.n b.c, .int .i64 q.dev, .bool q.gone, .int .i64 q.size, .int .i64 q.len, .slice b.D b.m b.k] 27)))
  have Y := Lib.hid ((Below.heap_alloc _ (.cells #[.string ⟨#[]⟩, .slice none 0 0, .int .i64 0, .bool false, .int .i64 0, .int .i64 0, .slice none 0 0] 27) (w.heap.size + 1) (by omega)).trans (heap_alloc2_new w (.cells #[.string (st r.path), .slice a.A a.n a.c, .int .i64 r.dev, .bool r.gone, .int .i64 r.size, .int .i64 r.len, .slice a.D a.m a.k] 27) (.cells #[.string (st q.path), .slice b.A b.n b.c, .int .i64 q.dev, .bool q.gone, .int .i64 q.size, .int .i64 q.len, .slice b.D b.m b.k] 27)))
  have Z := Lib.hid (show (((w.alloc (.cells #[.string (st r.path), .slice a.A a.n a.c, .int .i64 r.dev, .bool r.gone, .int .i64 r.size, .int .i64 r.len, .slice a.D a.m a.k] 27)).alloc (.cells #[.string (st q.path), .slice b.A b.n b.c, .int .i64 q.dev, .bool q.gone, .int .i64 q.size, .int .i64 q.len, .slice b.D b.m b.k] 27)).alloc (.cells #[.string ⟨#[]⟩, .slice none 0 0, .int .i64 0, .bool false, .int .i64 0, .int .i64 0, .slice none 0 0] 27)).heap[w.heap.size + 2]? = some (.cells #[.string ⟨#[]⟩, .slice none 0 0, .int .i64 0, .bool false, .int .i64 0, .int .i64 0, .slice none 0 0] 27 (0, 0)) from by
    have e := heap_alloc_new ((w.alloc (.cells #[.string (st r.path), .slice a.A a.n a.c, .int .i64 r.dev, .bool r.gone, .int .i64 r.size, .int .i64 r.len, .slice a.D a.m a.k] 27)).alloc (.cells #[.string (st q.path), .slice b.A b.n b.c, .int .i64 q.dev, .bool q.gone, .int .i64 q.size, .int .i64 q.len, .slice b.D b.m b.k] 27)) (.cells #[.string ⟨#[]⟩, .slice none 0 0, .int .i64 0, .bool false, .int .i64 0, .int .i64 0, .slice none 0 0] 27)
    rwa [hz2] at e)
  have HR := Lib.hid hr
  have HQ := Lib.hid hq
  have HE := Lib.hid he
  have hz : w.heap.size + 3 ≤ (((w.alloc (.cells #[.string (st r.path), .slice a.A a.n a.c, .int .i64 r.dev, .bool r.gone, .int .i64 r.size, .int .i64 r.len, .slice a.D a.m a.k] 27)).alloc (.cells #[.string (st q.path), .slice b.A b.n b.c, .int .i64 q.dev, .bool q.gone, .int .i64 q.size, .int .i64 q.len, .slice b.D b.m b.k] 27)).alloc (.cells #[.string ⟨#[]⟩, .slice none 0 0, .int .i64 0, .bool false, .int .i64 0, .int .i64 0, .slice none 0 0] 27)).heap.size := by simp
  clear hr hq he hz2
  obtain ⟨S, hS⟩ : ∃ S, setR r q = S := ⟨_, rfl⟩
  rw [hS]
  unfold setR at hS
  have HS := Lib.hid hS
  clear hS
  go_enter Tryz.func11, Tryz.ntmps11
  go_upto_region 1 with fail
  generalize (((w.alloc (.cells #[.string (st r.path), .slice a.A a.n a.c, .int .i64 r.dev, .bool r.gone, .int .i64 r.size, .int .i64 r.len, .slice a.D a.m a.k] 27)).alloc (.cells #[.string (st q.path), .slice b.A b.n b.c, .int .i64 q.dev, .bool q.gone, .int .i64 q.size, .int .i64 q.len, .slice b.D b.m b.k] 27)).alloc (.cells #[.string ⟨#[]⟩, .slice none 0 0, .int .i64 0, .bool false, .int .i64 0, .int .i64 0, .slice none 0 0] 27)) = w3 at *
  go_wp2_with (first
    | (refine wpList_load_row rfl 27 (.tmp 2) rfl w.heap.size rfl 27 _ (0, 0) _ X.out Tryz.underlying27 rfl HI.out ?_)
    | (refine wpList_load_row rfl 27 (.tmp 3) rfl (w.heap.size + 1) rfl 27 _ (0, 0) _ Y.out Tryz.underlying27 rfl HI.out ?_)
    | fail)
  refine (winner_v r q a b B w3 (HE.out.below BA.out) (HR.out.below (BA.out.mono hB)) (HQ.out.below (BA.out.mono hB)) (by omega)).mono ?_
  rintro e w4 ⟨rfl, b3⟩
  replace X := Lib.hid ((b3.block w.heap.size (by omega)).trans X.out)
  replace Y := Lib.hid ((b3.block (w.heap.size + 1) (by omega)).trans Y.out)
  replace Z := Lib.hid ((b3.block (w.heap.size + 2) (by omega)).trans Z.out)
  replace BA := Lib.hid (BA.out.trans (b3.mono (by omega)))
  replace hz : w.heap.size + 3 ≤ w4.heap.size := by have := b3.size; omega
  clear b3
  by_cases h1 : twoE r q = 0
  case neg =>
    have d1 : ((twoE r q : Int) != 0) = true := by rw [bne_iff_ne]; omega
    have HW := Lib.hid (show winR r q = (0, twoE r q) from if_pos h1)
    obtain rfl : (zeroR, twoE r q) = S := (if_pos h1).symm.trans HS.out
    rw [HW.out]
    clear h1
    have XS := Lib.hid (setRow_heap w4 (w.heap.size + 2) _ #[.string ⟨#[]⟩, .slice none 0 0, .int .i64 0, .bool false, .int .i64 0, .int .i64 0, .slice none 0 0] _ _ Z.out)
    have BS := Lib.hid (below_setRow BA.out (show w.heap.size ≤ w.heap.size + 2 by omega) #[.string ⟨#[]⟩, .slice none 0 0, .int .i64 0, .bool false, .int .i64 0, .int .i64 0, .slice none 0 0])
    go_wp2_with (first
      | (refine wpList_store_row rfl 27 (.tmp 4) (.tmp 18) rfl (w.heap.size + 2) #[.string ⟨#[]⟩, .slice none 0 0, .int .i64 0, .bool false, .int .i64 0, .int .i64 0, .slice none 0 0] rfl rfl 27 _ Z.out HI.out rfl (by simp [Value.oneCell']) ?_)
      | fail)
    exact bodyPost_ret (results_row_tmp Tryz.results11 _ _ (w.heap.size + 2) _ #[.string ⟨#[]⟩, .slice none 0 0, .int .i64 0, .bool false, .int .i64 0, .int .i64 0, .slice none 0 0] _ _ rfl XS.out Tryz.underlying27 rfl HI.out) rfl ⟨⟨none, 0, 0, none, 0, 0⟩, rfl, zero_reads _, (fun _ h => by cases h), (fun _ h => by cases h), BS.out⟩
  replace HS := Lib.hid (show ({winX r q with v := mergeV [r.v, q.v]}, 0) = S from (if_neg (fun h => h h1)).symm.trans HS.out)
  obtain ⟨k, x, hk, hx, hw, hxr⟩ : ∃ (k : Nat) (x : Rcd × RSh), k < 2 ∧ [(r, a), (q, b)][k]? = some x ∧ winR r q = (k, 0) ∧ winX r q = x.1 := by
    by_cases h2 : 0 < ordV q.v r.v
    · exact ⟨1, (q, b), by omega, rfl, by unfold winR; rw [if_neg (fun h => h h1), if_pos h2], by unfold winX; rw [if_pos h2]⟩
    · exact ⟨0, (r, a), by omega, rfl, by unfold winR; rw [if_neg (fun h => h h1), if_neg h2], by unfold winX; rw [if_neg h2]⟩
  have HME := Lib.hid (show mergeE [r.v, q.v] = 0 by
    have hr0 : okR r = 0 := by
      unfold twoE at h1
      split at h1
      · omega
      · rename_i h; omega
    have hq0 : okR q = 0 := by
      unfold twoE at h1
      rw [if_neg (by omega)] at h1
      split at h1
      · omega
      · rename_i h; omega
    have h3 : allOk [r.v, q.v] = true := by simp [allOk, okR_v' hr0, okR_v' hq0]
    exact (merge_ok _ h3).1)
  have HX := Lib.hid hx
  have HW := Lib.hid hw
  have HXR := Lib.hid hxr
  rw [HW.out]
  clear h1 hx hw hxr
  rw [HXR.out] at HS
  have c1 := cell_of_row _ _ 1 _ _ _ X.out
  have c2 := cell_of_row _ _ 1 _ _ _ Y.out
  have hn1 := HR.out.hn
  have hn2 := HQ.out.hn
  have ML := Lib.hid (MReads.lit w4 B [⟨a.A, a.n, a.c, r.v⟩, ⟨b.A, b.n, b.c, q.v⟩] #[.slice a.A a.n a.c, .slice b.A b.n b.c] 22 rfl (by omega) (by
    intro v hv
    simp only [List.mem_cons, List.not_mem_nil, or_false] at hv
    rcases hv with rfl | rfl
    · exact ⟨Reads.below HR.out.cs (BA.out.mono hB), by dsimp only; omega⟩
    · exact ⟨Reads.below HQ.out.cs (BA.out.mono hB), by dsimp only; omega⟩))
  have b3 := (Below.refl w4.heap.size w4).alloc (Nat.le_refl _) (.cells #[.slice a.A a.n a.c, .slice b.A b.n b.c] 22)
  have hz5 : w4.heap.size + 1 ≤ (w4.alloc (.cells #[.slice a.A a.n a.c, .slice b.A b.n b.c] 22)).heap.size := by simp
  go_wp2_with fail
  clear c1 c2
  generalize w4.alloc (.cells #[.slice a.A a.n a.c, .slice b.A b.n b.c] 22) = w5 at *
  generalize hg5 : w4.heap.size = g5 at *
  replace X := Lib.hid ((b3.block w.heap.size (by omega)).trans X.out)
  replace Y := Lib.hid ((b3.block (w.heap.size + 1) (by omega)).trans Y.out)
  replace Z := Lib.hid ((b3.block (w.heap.size + 2) (by omega)).trans Z.out)
  replace BA := Lib.hid (BA.out.trans (b3.mono (by omega)))
  replace hz : w.heap.size + 3 ≤ w5.heap.size := by omega
  clear b3 hg5
  refine (merge_v (g5 + 1) (some ⟨g5, 0, none⟩) 2 2 [⟨a.A, a.n, a.c, r.v⟩, ⟨b.A, b.n, b.c, q.v⟩] w5 ML.out (by omega) (by omega) (by
    intro v hv
    simp only [List.mem_cons, List.not_mem_nil, or_false] at hv
    rcases hv with rfl | rfl
    · exact HR.out.ft
    · exact HQ.out.ft)).mono ?_
  rintro e w6 ⟨A', n', c', rfl, ho, b3⟩
  have O6 := Lib.hid (show COwn w6 w5.heap.size A' n' c' (mergeV [r.v, q.v]) from ho)
  rw [show ([⟨a.A, a.n, a.c, r.v⟩, ⟨b.A, b.n, b.c, q.v⟩] : List Vec).map Vec.l = [r.v, q.v] from rfl, HME.out]
  have hz6 := hz
  clear ho ML hz5
  replace X := Lib.hid ((b3.block w.heap.size (by omega)).trans X.out)
  replace Y := Lib.hid ((b3.block (w.heap.size + 1) (by omega)).trans Y.out)
  replace Z := Lib.hid ((b3.block (w.heap.size + 2) (by omega)).trans Z.out)
  replace BA := Lib.hid (BA.out.trans (b3.mono (by omega)))
  replace hz : w.heap.size + 3 ≤ w6.heap.size := by have := b3.size; omega
  clear b3
  have b3 := (Below.refl w6.heap.size w6).alloc (Nat.le_refl _) (.cells (rcC (r, a) ++ rcC (q, b)).toArray 27)
  have hz7 : w6.heap.size + 1 ≤ (w6.alloc (.cells (rcC (r, a) ++ rcC (q, b)).toArray 27)).heap.size := by simp
  have RW := Lib.hid (rows2 (x := (r, a)) (y := (q, b)) (heap_alloc_new w6 (.cells (rcC (r, a) ++ rcC (q, b)).toArray 27)) (Nat.lt_succ_self _)
    (((HR.out.below (BA.out.mono hB)).below (b3.mono (by have := BA.out.size; omega))).more (by have := BA.out.size; omega)) (((HQ.out.below (BA.out.mono hB)).below (b3.mono (by have := BA.out.size; omega))).more (by have := BA.out.size; omega)))
  obtain ⟨ad, x', hA, hx', hx2, hc⟩ := RW.out.at_ hk
  obtain rfl := Option.some.inj hA
  obtain rfl : x = x' := Option.some.inj (HX.out.symm.trans hx')
  have HX2 := Lib.hid hx2
  have HC := Lib.hid (show ∀ j u, (rcC x)[j]? = some u → (w6.alloc (.cells (rcC (r, a) ++ rcC (q, b)).toArray 27)).cell? ((⟨w6.heap.size, k * 7, none⟩ : Addr).add j) = some u by
    have := hc _ (Below.refl _ _)
    rwa [add_hd] at this)
  have k0 : (0 : Int) ≤ (k : Int) := by omega
  clear RW hA hx' hx2 hc
  go_wp2_with (first
    | (refine wpList_load_row rfl 27 (.tmp 2) rfl w.heap.size rfl 27 _ (0, 0) _ X.out Tryz.underlying27 rfl HI.out ?_)
    | (refine wpList_load_row rfl 27 (.tmp 3) rfl (w.heap.size + 1) rfl 27 _ (0, 0) _ Y.out Tryz.underlying27 rfl HI.out ?_)
    | (refine wpList_load_slot rfl 27 (.tmp 37) rfl ⟨w6.heap.size, k * 7, none⟩ rfl [.string (st x.1.path), .slice x.2.A x.2.n x.2.c, .int .i64 x.1.dev, .bool x.1.gone, .int .i64 x.1.size, .int .i64 x.1.len, .slice x.2.D x.2.m x.2.k] _ HC.out Tryz.underlying27 rfl HI.out ?_)
    | fail)
  clear HC
  change Calls Tryz.prog 34 _ (w6.alloc (.cells (rcC (r, a) ++ rcC (q, b)).toArray 27)) _
  replace X := Lib.hid ((b3.block w.heap.size (by omega)).trans X.out)
  replace Y := Lib.hid ((b3.block (w.heap.size + 1) (by omega)).trans Y.out)
  replace Z := Lib.hid ((b3.block (w.heap.size + 2) (by omega)).trans Z.out)
  replace BA := Lib.hid (BA.out.trans (b3.mono (by omega)))
  replace O6 := Lib.hid (O6.out.below b3)
  replace hz : w.heap.size + 3 ≤ (w6.alloc (.cells (rcC (r, a) ++ rcC (q, b)).toArray 27)).heap.size := by omega
  clear b3
  generalize w6.alloc (.cells (rcC (r, a) ++ rcC (q, b)).toArray 27) = w7 at *
  generalize w6.heap.size = g6 at *
  refine (recCopy_v x.1 x.2 (g6 + 1) w7 HX2.out hz7).mono ?_
  rintro e w8 ⟨A1, c1, D1, k1, rfl, o1, o2, b3⟩
  replace O6 := Lib.hid (O6.out.below b3)
  have O8 := Lib.hid (own_dn o2 hz)
  clear o1 o2
  replace X := Lib.hid ((b3.block w.heap.size (by omega)).trans X.out)
  replace Y := Lib.hid ((b3.block (w.heap.size + 1) (by omega)).trans Y.out)
  replace Z := Lib.hid ((b3.block (w.heap.size + 2) (by omega)).trans Z.out)
  replace BA := Lib.hid (BA.out.trans (b3.mono (by omega)))
  replace hz : w.heap.size + 3 ≤ w8.heap.size := by have := b3.size; omega
  clear b3
  have hnm := HX2.out.hm
  have b3 := (Below.refl w8.heap.size w8).alloc (Nat.le_refl _) (.cells #[.string (st x.1.path), .slice A1 x.2.n c1, .int .i64 x.1.dev, .bool x.1.gone, .int .i64 x.1.size, .int .i64 x.1.len, .slice D1 x.2.m k1] 27)
  have Q9 := heap_alloc_new w8 (.cells #[.string (st x.1.path), .slice A1 x.2.n c1, .int .i64 x.1.dev, .bool x.1.gone, .int .i64 x.1.size, .int .i64 x.1.len, .slice D1 x.2.m k1] 27)
  have hz9 : w8.heap.size + 1 ≤ (w8.alloc (.cells #[.string (st x.1.path), .slice A1 x.2.n c1, .int .i64 x.1.dev, .bool x.1.gone, .int .i64 x.1.size, .int .i64 x.1.len, .slice D1 x.2.m k1] 27)).heap.size := by simp
  go_upto_region 8 with fail
  generalize w8.alloc (.cells #[.string (st x.1.path), .slice A1 x.2.n c1, .int .i64 x.1.dev, .bool x.1.gone, .int .i64 x.1.size, .int .i64 x.1.len, .slice D1 x.2.m k1] 27) = w9 at *
  have L6 : ∀ j, (Value.slice A' n' c').ownBlock = some j → j < w8.heap.size := fun j hj => (O6.out.1.lt j hj).2
  have L8 : ∀ j, (Value.slice D1 x.2.m k1).ownBlock = some j → j < w8.heap.size := fun j hj => (O8.out.lt j hj).2
  replace O6 := Lib.hid (O6.out.below b3)
  replace O8 := Lib.hid (own_keep O8.out (w' := w9) (fun j hj => b3.block j (O8.out.lt j hj).2))
  have hz8 := hz
  replace X := Lib.hid ((b3.block w.heap.size (by omega)).trans X.out)
  replace Y := Lib.hid ((b3.block (w.heap.size + 1) (by omega)).trans Y.out)
  replace Z := Lib.hid ((b3.block (w.heap.size + 2) (by omega)).trans Z.out)
  replace BA := Lib.hid (BA.out.trans (b3.mono (by omega)))
  have k9 : w9.cell? ⟨w8.heap.size, 1, none⟩ = some (.slice A1 x.2.n c1) := by rw [cell_of_row _ _ 1 _ _ _ Q9]; rfl
  have f9 := frozen_of_row _ w8.heap.size 1 _ _ Q9
  have Q10 := Lib.hid (show (w9.setCell ⟨w8.heap.size, 1, none⟩ (.slice A' n' c')).heap[w8.heap.size]? = some (.cells #[.string (st x.1.path), .slice A' n' c', .int .i64 x.1.dev, .bool x.1.gone, .int .i64 x.1.size, .int .i64 x.1.len, .slice D1 x.2.m k1] 27 (0, 0)) from heap_setCell_same _ w8.heap.size 1 _ _ (.slice A' n' c') Q9)
  have Z10 := Lib.hid ((Below.heap_setCell w9 ⟨w8.heap.size, 1, none⟩ (.slice A' n' c') (w.heap.size + 2) (by simp; omega)).trans Z.out)
  have B10 := Lib.hid (BA.out.setCell (p := ⟨w8.heap.size, 1, none⟩) (show w.heap.size ≤ w8.heap.size by omega) (.slice A' n' c'))
  have P6 := Lib.hid (own_keep O6.out.1 (w' := w9.setCell ⟨w8.heap.size, 1, none⟩ (.slice A' n' c')) (fun j hj => Below.heap_setCell w9 _ _ j (by have := L6 j hj; simp; omega)))
  have P8 := Lib.hid (own_keep O8.out (w' := w9.setCell ⟨w8.heap.size, 1, none⟩ (.slice A' n' c')) (fun j hj => Below.heap_setCell w9 _ _ j (by have := L8 j hj; simp; omega)))
  have hnl := O6.out.reads.len
  have hn16 : n' ≤ 16 := by have := merge_len [r.v, q.v]; omega
  clear Q9 X Y BA Z L6 L8 O6 O8 b3 hnl
  go_upto_region 9 with fail
  clear k9 f9
  generalize w9.setCell ⟨w8.heap.size, 1, none⟩ (.slice A' n' c') = w10 at *
  generalize w8.heap.size = g8 at *
  have XS := Lib.hid (setRow_heap w10 (w.heap.size + 2) _ #[.string (st x.1.path), .slice A' n' c', .int .i64 x.1.dev, .bool x.1.gone, .int .i64 x.1.size, .int .i64 x.1.len, .slice D1 x.2.m k1] _ _ Z10.out)
  have BS := Lib.hid (below_setRow B10.out (show w.heap.size ≤ w.heap.size + 2 by omega) #[.string (st x.1.path), .slice A' n' c', .int .i64 x.1.dev, .bool x.1.gone, .int .i64 x.1.size, .int .i64 x.1.len, .slice D1 x.2.m k1])
  have S6 := Lib.hid (show CReads (w10.setRow (w.heap.size + 2) #[.string (st x.1.path), .slice A' n' c', .int .i64 x.1.dev, .bool x.1.gone, .int .i64 x.1.size, .int .i64 x.1.len, .slice D1 x.2.m k1]) (w10.setRow (w.heap.size + 2) #[.string (st x.1.path), .slice A' n' c', .int .i64 x.1.dev, .bool x.1.gone, .int .i64 x.1.size, .int .i64 x.1.len, .slice D1 x.2.m k1]).heap.size A' n' (mergeV [r.v, q.v]) from Reads.of_own (own_keep P6.out (fun j hj => setRow_other _ _ _ _ (by have := (P6.out.lt j hj).1; omega))))
  have S8 := Lib.hid (show DReads (w10.setRow (w.heap.size + 2) #[.string (st x.1.path), .slice A' n' c', .int .i64 x.1.dev, .bool x.1.gone, .int .i64 x.1.size, .int .i64 x.1.len, .slice D1 x.2.m k1]) (w10.setRow (w.heap.size + 2) #[.string (st x.1.path), .slice A' n' c', .int .i64 x.1.dev, .bool x.1.gone, .int .i64 x.1.size, .int .i64 x.1.len, .slice D1 x.2.m k1]).heap.size D1 x.2.m x.1.ds from Reads.of_own (own_keep P8.out (fun j hj => setRow_other _ _ _ _ (by have := (P8.out.lt j hj).1; omega))))
  obtain rfl := HS.out
  go_wp2_with (first
    | (refine wpList_load_row rfl 27 (.tmp 9) rfl g8 rfl 27 _ (0, 0) _ Q10.out Tryz.underlying27 rfl HI.out ?_)
    | (refine wpList_store_row rfl 27 (.tmp 4) (.tmp 42) rfl (w.heap.size + 2) #[.string (st x.1.path), .slice A' n' c', .int .i64 x.1.dev, .bool x.1.gone, .int .i64 x.1.size, .int .i64 x.1.len, .slice D1 x.2.m k1] rfl rfl 27 _ Z10.out HI.out rfl (by simp [Value.oneCell']) ?_)
    | fail)
  exact bodyPost_ret (results_row_tmp Tryz.results11 _ _ (w.heap.size + 2) _ #[.string (st x.1.path), .slice A' n' c', .int .i64 x.1.dev, .bool x.1.gone, .int .i64 x.1.size, .int .i64 x.1.len, .slice D1 x.2.m k1] _ _ rfl XS.out Tryz.underlying27 rfl HI.out) rfl ⟨⟨A', n', c', D1, x.2.m, k1⟩, rfl, ⟨S6.out, S8.out, by dsimp only; omega, hnm, merge_fit _ (by
    intro v hv
    simp only [List.mem_cons, List.not_mem_nil, or_false] at hv
    rcases hv with rfl | rfl
    · exact HR.out.ft
    · exact HQ.out.ft)⟩, (fun ad h => by have := own_lo P6.out ad h; omega), (fun ad h => by have := own_lo P8.out ad h; omega), BS.out⟩
theorem settle_v (r q : Rcd) (a b : RSh) (B : Nat) (w : World) (he : EnvM w) (hr : RReads w B r a) (hq : RReads w B q b) (hB : B ≤ w.heap.size) :
    Calls Tryz.prog 11 #[.agg #[.string (st r.path), .slice a.A a.n a.c, .int .i64 r.dev, .bool r.gone, .int .i64 r.size, .int .i64 r.len, .slice a.D a.m a.k], .agg #[.string (st q.path), .slice b.A b.n b.c, .int .i64 q.dev, .bool q.gone, .int .i64 q.size, .int .i64 q.len, .slice b.D b.m b.k]] w fun e w' => ∃ x : RSh, e = .returned (.tuple #[.agg #[.string (st (setR r q).1.path), .slice x.A x.n x.c, .int .i64 (setR r q).1.dev, .bool (setR r q).1.gone, .int .i64 (setR r q).1.size, .int .i64 (setR r q).1.len, .slice x.D x.m x.k], .int .i64 ((setR r q).2 : Int)]) ∧ RReads w' w'.heap.size (setR r q).1 x ∧ Below w.heap.size w w' := by
  refine (settle_o r q a b B w he hr hq hB).mono ?_
  rintro e w' ⟨x, h1, h2, _, _, h3⟩
  exact ⟨x, h1, h2, h3⟩
end Go.Proofs.YtndekohimfjdeaaGreatDoor

namespace Go.Proofs.YtndekohimfjdeaaGreatDoor
open Go.RowKit Go.Shelf
theorem own_empty (w : World) (e : TypeId) (K : Nat) : (w.alloc (.cells #[] e)).ownsRow w.heap.size e K (.slice (some ⟨w.heap.size, 0, none⟩) 0 0) 0 [] :=
  ⟨by simp, .inr ⟨w.heap.size, 0, #[], rfl, Nat.le_refl _, heap_alloc_new w _, Nat.le_refl _, by decide, by simp, by simp⟩⟩
theorem kat_v (d x : Int) (w : World) : Calls Tryz.prog 19 #[.int .i64 d, .int .u64 x] w fun e w' => e = .returned (.agg #[.int .i64 d, .int .u64 x]) ∧ Below w.heap.size w w' := by
  go_enter Tryz.func19, Tryz.ntmps19
  go_wp2
  go_returns
  exact ⟨rfl, (Below.refl _ _).alloc (Nat.le_refl _) _⟩
theorem clit (w : World) (l : List (Int × Nat)) (C : Array Value) (T : TypeId) (hC : C.toList = cntsC l) : CReads (w.alloc (.cells C T)) (w.heap.size + 1) (some ⟨w.heap.size, 0, none⟩) l.length l := by
  refine ⟨cntsC_len l, fun _ => ⟨_, rfl, Nat.lt_succ_self _, fun j u hu => ?_⟩⟩
  rw [← hC, Array.getElem?_toList] at hu
  rcases j with _ | j
  · rw [add_zero, World.cell?_alloc_at _ _ _ _ rfl]
    exact hu
  · rw [add_pos _ _ (by omega), World.cell?_alloc_at _ _ _ _ rfl]
    simpa using hu
set_option maxRecDepth 100000 in
set_option maxHeartbeats 8000000 in
theorem file_v (p : Bl) (dv : Int) (A : Option Addr) (n c B : Nat) (l : List (Int × Nat)) (w : World) (hr : CReads w B A n l) (hB : B ≤ w.heap.size) (hn : n ≤ 1000) :
    Calls Tryz.prog 42 #[.string (st p), .int .i64 dv, .slice A n c] w fun e w' => ∃ A1 c1, e = .returned (.agg #[.string (st p), .slice A1 n c1, .int .i64 dv, .bool false, .int .i64 4, .int .i64 0, .slice none 0 0]) ∧ COwn w' w.heap.size A1 n c1 l ∧ Below w.heap.size w w' := by
  have HI := Lib.hid (show (Tryz.prog.info? 27).map (·.size) = some 7 by kernel_rfl)
  have B0 := Lib.hid ((Below.refl w.heap.size w).alloc (Nat.le_refl _) (.cells #[.string ⟨#[]⟩, .slice none 0 0, .int .i64 0, .bool false, .int .i64 0, .int .i64 0, .slice none 0 0] 27))
  have Y0 := Lib.hid (heap_alloc_new w (.cells #[.string ⟨#[]⟩, .slice none 0 0, .int .i64 0, .bool false, .int .i64 0, .int .i64 0, .slice none 0 0] 27))
  have HR := Lib.hid hr
  clear hr
  go_enter Tryz.func42, Tryz.ntmps42
  go_upto_region 1 with fail
  have hz : (w.alloc (.cells #[.string ⟨#[]⟩, .slice none 0 0, .int .i64 0, .bool false, .int .i64 0, .int .i64 0, .slice none 0 0] 27)).heap.size = w.heap.size + 1 := by simp
  generalize w.alloc (.cells #[.string ⟨#[]⟩, .slice none 0 0, .int .i64 0, .bool false, .int .i64 0, .int .i64 0, .slice none 0 0] 27) = w0 at *
  have OE := own_empty w0 50 2
  have BE := (Below.refl w0.heap.size w0).alloc (Nat.le_refl _) (.cells #[] 50)
  have R1 := Lib.hid (show CReads (w0.alloc (.cells #[] 50)) B A n l from Reads.below (Reads.below HR.out (B0.out.mono hB)) (BE.mono (by omega)))
  have Y1 := Lib.hid ((BE.block w.heap.size (by omega)).trans Y0.out)
  have B1 := Lib.hid (B0.out.trans (BE.mono (by omega)))
  have hz1 : (w0.alloc (.cells #[] 50)).heap.size = w.heap.size + 2 := by simp [hz]
  rw [hz] at OE
  have O1 : Hid (COwn (w0.alloc (.cells #[] 50)) (w.heap.size + 1) (some ⟨w.heap.size + 1, 0, none⟩) 0 0 []) := Lib.hid ⟨OE, Nat.le_refl _⟩
  clear OE BE Y0 B0
  go_wp2_with (first
    | (at_builtin
       go_must (refine wpList_capp rfl (.tmp 8) (.tmp 9) 22 Tryz.underlying22 rfl (w.heap.size + 1) (some ⟨w.heap.size + 1, 0, none⟩) 0 0 [] rfl O1.out B A n c l rfl R1.out (by omega) (by simp [hz]) ?_)
       intro A1 c1 w1 ho hg
       go_must (
       rw [Nat.zero_add] at ho ⊢
       have Y2 := Lib.hid ((hg.block w.heap.size (by omega) (by simp [Value.ownBlock])).trans Y1.out)
       have B2 := B1.out.grown hg (by omega) (fun k hk => by simp [Value.ownBlock] at hk; omega)
       have XS := Lib.hid (setRow_heap w1 w.heap.size _ #[.string (st p), .slice A1 n c1, .int .i64 dv, .bool false, .int .i64 4, .int .i64 0, .slice none 0 0] _ _ Y2.out)
       have BS := Lib.hid (below_setRow B2 (Nat.le_refl _) #[.string (st p), .slice A1 n c1, .int .i64 dv, .bool false, .int .i64 4, .int .i64 0, .slice none 0 0])
       have OS := Lib.hid (show COwn (w1.setRow w.heap.size #[.string (st p), .slice A1 n c1, .int .i64 dv, .bool false, .int .i64 4, .int .i64 0, .slice none 0 0]) (w.heap.size + 1) A1 n c1 l from ⟨own_keep ho.1 (fun j hj => setRow_other _ _ _ _ (by have := (ho.1.lt j hj).1; omega)), ho.2⟩)))
    | (refine wpList_store_row rfl 27 (.tmp 6) (.tmp 13) rfl w.heap.size #[.string (st p), .slice A1 n c1, .int .i64 dv, .bool false, .int .i64 4, .int .i64 0, .slice none 0 0] rfl rfl 27 _ Y2.out HI.out rfl (by simp [Value.oneCell']) ?_)
    | fail)
  exact bodyPost_ret (results_cell_row Tryz.results42 _ _ w.heap.size _ #[.string (st p), .slice A1 n c1, .int .i64 dv, .bool false, .int .i64 4, .int .i64 0, .slice none 0 0] _ _ rfl XS.out Tryz.underlying27 rfl HI.out) rfl ⟨A1, c1, rfl, OS.out.down (by omega), BS.out⟩
/-- A digest that begins with a byte. -/
def dg1 (b : Nat) : Dg := ⟨b :: List.replicate 31 0, rfl⟩
theorem dg1_reads {W : World} {g B b : Nat} {t : TypeId} {fr : Nat × Nat} (h : W.heap[g]? = some (.cells #[.int .u8 (b : Int), .int .u8 0, .int .u8 0, .int .u8 0, .int .u8 0, .int .u8 0, .int .u8 0, .int .u8 0, .int .u8 0, .int .u8 0, .int .u8 0, .int .u8 0, .int .u8 0, .int .u8 0, .int .u8 0, .int .u8 0, .int .u8 0, .int .u8 0, .int .u8 0, .int .u8 0, .int .u8 0, .int .u8 0, .int .u8 0, .int .u8 0, .int .u8 0, .int .u8 0, .int .u8 0, .int .u8 0, .int .u8 0, .int .u8 0, .int .u8 0, .int .u8 0] t fr)) (hg : g < B) : DReads W B (some ⟨g, 0, none⟩) 1 [dg1 b] := by
  refine ⟨rfl, fun _ => ⟨_, rfl, hg, fun j u hu => ?_⟩⟩
  refine rcells_at (o := 0) h (fun j v hv => ?_) j u hu
  rw [Nat.zero_add, List.getElem?_toArray]
  exact hv
set_option maxRecDepth 100000 in
set_option maxHeartbeats 8000000 in
theorem filled_v (p : Bl) (dv : Int) (b : Nat) (A : Option Addr) (n c B : Nat) (l : List (Int × Nat)) (w : World) (hr : CReads w B A n l) (hB : B ≤ w.heap.size) (hn : n ≤ 1000) :
    Calls Tryz.prog 20 #[.string (st p), .int .i64 dv, .int .u8 (b : Int), .slice A n c] w fun e w' => ∃ A1 c1 D1, e = .returned (.agg #[.string (st p), .slice A1 n c1, .int .i64 dv, .bool false, .int .i64 4, .int .i64 3, .slice D1 1 1]) ∧ COwn w' w.heap.size A1 n c1 l ∧ DReads w' w'.heap.size D1 1 [dg1 b] ∧ Below w.heap.size w w' := by
  have HI := Lib.hid (show (Tryz.prog.info? 27).map (·.size) = some 7 by kernel_rfl)
  have B0 := Lib.hid ((Below.refl w.heap.size w).alloc (Nat.le_refl _) (.cells #[.string ⟨#[]⟩, .slice none 0 0, .int .i64 0, .bool false, .int .i64 0, .int .i64 0, .slice none 0 0] 27))
  have Y0 := Lib.hid (heap_alloc_new w (.cells #[.string ⟨#[]⟩, .slice none 0 0, .int .i64 0, .bool false, .int .i64 0, .int .i64 0, .slice none 0 0] 27))
  have HR := Lib.hid hr
  clear hr
  go_enter Tryz.func20, Tryz.ntmps20
  go_upto_region 1 with fail
  have hz : (w.alloc (.cells #[.string ⟨#[]⟩, .slice none 0 0, .int .i64 0, .bool false, .int .i64 0, .int .i64 0, .slice none 0 0] 27)).heap.size = w.heap.size + 1 := by simp
  generalize w.alloc (.cells #[.string ⟨#[]⟩, .slice none 0 0, .int .i64 0, .bool false, .int .i64 0, .int .i64 0, .slice none 0 0] 27) = w0 at *
  go_wp2_with fail
  refine (file_v p dv A n c B l w0 (Reads.below HR.out (B0.out.mono hB)) (by omega) hn).mono ?_
  rintro e w1 ⟨A1, c1, rfl, hc1, hb1⟩
  have B1 := Lib.hid (B0.out.trans (hb1.mono (by omega)))
  have Y1 := Lib.hid ((hb1.block w.heap.size (by omega)).trans Y0.out)
  have hz1 : w.heap.size + 1 ≤ w1.heap.size := by have := hb1.size; omega
  have C1 := Lib.hid hc1
  clear hc1 hb1 Y0 B0
  go_upto_region 2 with fail
  have hz2 : (w1.alloc (.cells #[.string (st p), .slice A1 n c1, .int .i64 dv, .bool false, .int .i64 4, .int .i64 0, .slice none 0 0] 27)).heap.size = w1.heap.size + 1 := by simp
  have Z2 := Lib.hid (heap_alloc_new w1 (.cells #[.string (st p), .slice A1 n c1, .int .i64 dv, .bool false, .int .i64 4, .int .i64 0, .slice none 0 0] 27))
  have b2 := (Below.refl w1.heap.size w1).alloc (Nat.le_refl _) (.cells #[.string (st p), .slice A1 n c1, .int .i64 dv, .bool false, .int .i64 4, .int .i64 0, .slice none 0 0] 27)
  generalize w1.alloc (.cells #[.string (st p), .slice A1 n c1, .int .i64 dv, .bool false, .int .i64 4, .int .i64 0, .slice none 0 0] 27) = w2 at *
  have k5 : w2.cell? ⟨w1.heap.size, 5, none⟩ = some (.int .i64 0) := by rw [cell_of_row _ _ 5 _ _ _ Z2.out]; rfl
  have f5 := frozen_of_row _ w1.heap.size 5 _ _ Z2.out
  have X4 : (w2.setCell ⟨w1.heap.size, 5, none⟩ (.int .i64 3)).heap[w1.heap.size]? = some (.cells #[.string (st p), .slice A1 n c1, .int .i64 dv, .bool false, .int .i64 4, .int .i64 3, .slice none 0 0] 27 (0, 0)) := heap_setCell_same _ w1.heap.size 5 _ _ (.int .i64 3) Z2.out
  have k6 : (w2.setCell ⟨w1.heap.size, 5, none⟩ (.int .i64 3)).cell? ⟨w1.heap.size, 6, none⟩ = some (.slice none 0 0) := by rw [cell_of_row _ _ 6 _ _ _ X4]; rfl
  have f6 := frozen_of_row _ w1.heap.size 6 _ _ X4
  have X5' : ((w2.setCell ⟨w1.heap.size, 5, none⟩ (.int .i64 3)).setCell ⟨w1.heap.size, 6, none⟩ (.slice (some ⟨w1.heap.size + 1, 0, none⟩) 1 1)).heap[w1.heap.size]? = some (.cells #[.string (st p), .slice A1 n c1, .int .i64 dv, .bool false, .int .i64 4, .int .i64 3, .slice (some ⟨w1.heap.size + 1, 0, none⟩) 1 1] 27 (0, 0)) := heap_setCell_same _ w1.heap.size 6 _ _ (.slice (some ⟨w1.heap.size + 1, 0, none⟩) 1 1) X4
  have hv5 : ((w2.setCell ⟨w1.heap.size, 5, none⟩ (.int .i64 3)).setCell ⟨w1.heap.size, 6, none⟩ (.slice (some ⟨w1.heap.size + 1, 0, none⟩) 1 1)).heap.size = w1.heap.size + 1 := by simp [hz2]
  have X5 := Lib.hid (show (((w2.setCell ⟨w1.heap.size, 5, none⟩ (.int .i64 3)).setCell ⟨w1.heap.size, 6, none⟩ (.slice (some ⟨w1.heap.size + 1, 0, none⟩) 1 1)).alloc (.cells #[.int .u8 (b : Int), .int .u8 0, .int .u8 0, .int .u8 0, .int .u8 0, .int .u8 0, .int .u8 0, .int .u8 0, .int .u8 0, .int .u8 0, .int .u8 0, .int .u8 0, .int .u8 0, .int .u8 0, .int .u8 0, .int .u8 0, .int .u8 0, .int .u8 0, .int .u8 0, .int .u8 0, .int .u8 0, .int .u8 0, .int .u8 0, .int .u8 0, .int .u8 0, .int .u8 0, .int .u8 0, .int .u8 0, .int .u8 0, .int .u8 0, .int .u8 0, .int .u8 0] 70)).heap[w1.heap.size]? = some (.cells #[.string (st p), .slice A1 n c1, .int .i64 dv, .bool false, .int .i64 4, .int .i64 3, .slice (some ⟨w1.heap.size + 1, 0, none⟩) 1 1] 27 (0, 0)) from (Below.heap_alloc _ (.cells #[.int .u8 (b : Int), .int .u8 0, .int .u8 0, .int .u8 0, .int .u8 0, .int .u8 0, .int .u8 0, .int .u8 0, .int .u8 0, .int .u8 0, .int .u8 0, .int .u8 0, .int .u8 0, .int .u8 0, .int .u8 0, .int .u8 0, .int .u8 0, .int .u8 0, .int .u8 0, .int .u8 0, .int .u8 0, .int .u8 0, .int .u8 0, .int .u8 0, .int .u8 0, .int .u8 0, .int .u8 0, .int .u8 0, .int .u8 0, .int .u8 0, .int .u8 0, .int .u8 0] 70) w1.heap.size (by omega)).trans X5')
  have b4 := (b2.setCell (p := ⟨w1.heap.size, 5, none⟩) (Nat.le_refl _) (.int .i64 3)).setCell (p := ⟨w1.heap.size, 6, none⟩) (Nat.le_refl _) (.slice (some ⟨w1.heap.size + 1, 0, none⟩) 1 1)
  have b5 := Lib.hid (b4.alloc b4.size (.cells #[.int .u8 (b : Int), .int .u8 0, .int .u8 0, .int .u8 0, .int .u8 0, .int .u8 0, .int .u8 0, .int .u8 0, .int .u8 0, .int .u8 0, .int .u8 0, .int .u8 0, .int .u8 0, .int .u8 0, .int .u8 0, .int .u8 0, .int .u8 0, .int .u8 0, .int .u8 0, .int .u8 0, .int .u8 0, .int .u8 0, .int .u8 0, .int .u8 0, .int .u8 0, .int .u8 0, .int .u8 0, .int .u8 0, .int .u8 0, .int .u8 0, .int .u8 0, .int .u8 0] 70))
  have h5 : (((w2.setCell ⟨w1.heap.size, 5, none⟩ (.int .i64 3)).setCell ⟨w1.heap.size, 6, none⟩ (.slice (some ⟨w1.heap.size + 1, 0, none⟩) 1 1)).alloc (.cells #[.int .u8 (b : Int), .int .u8 0, .int .u8 0, .int .u8 0, .int .u8 0, .int .u8 0, .int .u8 0, .int .u8 0, .int .u8 0, .int .u8 0, .int .u8 0, .int .u8 0, .int .u8 0, .int .u8 0, .int .u8 0, .int .u8 0, .int .u8 0, .int .u8 0, .int .u8 0, .int .u8 0, .int .u8 0, .int .u8 0, .int .u8 0, .int .u8 0, .int .u8 0, .int .u8 0, .int .u8 0, .int .u8 0, .int .u8 0, .int .u8 0, .int .u8 0, .int .u8 0] 70)).heap[w1.heap.size + 1]? = some (.cells #[.int .u8 (b : Int), .int .u8 0, .int .u8 0, .int .u8 0, .int .u8 0, .int .u8 0, .int .u8 0, .int .u8 0, .int .u8 0, .int .u8 0, .int .u8 0, .int .u8 0, .int .u8 0, .int .u8 0, .int .u8 0, .int .u8 0, .int .u8 0, .int .u8 0, .int .u8 0, .int .u8 0, .int .u8 0, .int .u8 0, .int .u8 0, .int .u8 0, .int .u8 0, .int .u8 0, .int .u8 0, .int .u8 0, .int .u8 0, .int .u8 0, .int .u8 0, .int .u8 0] 70 (0, 0)) := by
    have e := heap_alloc_new ((w2.setCell ⟨w1.heap.size, 5, none⟩ (.int .i64 3)).setCell ⟨w1.heap.size, 6, none⟩ (.slice (some ⟨w1.heap.size + 1, 0, none⟩) 1 1)) (.cells #[.int .u8 (b : Int), .int .u8 0, .int .u8 0, .int .u8 0, .int .u8 0, .int .u8 0, .int .u8 0, .int .u8 0, .int .u8 0, .int .u8 0, .int .u8 0, .int .u8 0, .int .u8 0, .int .u8 0, .int .u8 0, .int .u8 0, .int .u8 0, .int .u8 0, .int .u8 0, .int .u8 0, .int .u8 0, .int .u8 0, .int .u8 0, .int .u8 0, .int .u8 0, .int .u8 0, .int .u8 0, .int .u8 0, .int .u8 0, .int .u8 0, .int .u8 0, .int .u8 0] 70)
    rwa [hv5] at e
  have H5 := Lib.hid h5
  have hz5 : w1.heap.size + 2 ≤ (((w2.setCell ⟨w1.heap.size, 5, none⟩ (.int .i64 3)).setCell ⟨w1.heap.size, 6, none⟩ (.slice (some ⟨w1.heap.size + 1, 0, none⟩) 1 1)).alloc (.cells #[.int .u8 (b : Int), .int .u8 0, .int .u8 0, .int .u8 0, .int .u8 0, .int .u8 0, .int .u8 0, .int .u8 0, .int .u8 0, .int .u8 0, .int .u8 0, .int .u8 0, .int .u8 0, .int .u8 0, .int .u8 0, .int .u8 0, .int .u8 0, .int .u8 0, .int .u8 0, .int .u8 0, .int .u8 0, .int .u8 0, .int .u8 0, .int .u8 0, .int .u8 0, .int .u8 0, .int .u8 0, .int .u8 0, .int .u8 0, .int .u8 0, .int .u8 0, .int .u8 0] 70)).heap.size := by have := (Array.getElem?_eq_some_iff.1 h5).1; omega
  have Y5 := Lib.hid ((b5.out.block w.heap.size (by omega)).trans Y1.out)
  clear Z2 b2 b4 X4 X5' h5 hv5
  go_upto_region 3 with fail
  generalize (((w2.setCell ⟨w1.heap.size, 5, none⟩ (.int .i64 3)).setCell ⟨w1.heap.size, 6, none⟩ (.slice (some ⟨w1.heap.size + 1, 0, none⟩) 1 1)).alloc (.cells #[.int .u8 (b : Int), .int .u8 0, .int .u8 0, .int .u8 0, .int .u8 0, .int .u8 0, .int .u8 0, .int .u8 0, .int .u8 0, .int .u8 0, .int .u8 0, .int .u8 0, .int .u8 0, .int .u8 0, .int .u8 0, .int .u8 0, .int .u8 0, .int .u8 0, .int .u8 0, .int .u8 0, .int .u8 0, .int .u8 0, .int .u8 0, .int .u8 0, .int .u8 0, .int .u8 0, .int .u8 0, .int .u8 0, .int .u8 0, .int .u8 0, .int .u8 0, .int .u8 0] 70)) = w5 at *
  have XS := Lib.hid (setRow_heap w5 w.heap.size _ #[.string (st p), .slice A1 n c1, .int .i64 dv, .bool false, .int .i64 4, .int .i64 3, .slice (some ⟨w1.heap.size + 1, 0, none⟩) 1 1] _ _ Y5.out)
  have BS := Lib.hid (below_setRow (B1.out.trans (b5.out.mono (by omega))) (Nat.le_refl _) #[.string (st p), .slice A1 n c1, .int .i64 dv, .bool false, .int .i64 4, .int .i64 3, .slice (some ⟨w1.heap.size + 1, 0, none⟩) 1 1])
  have CS := Lib.hid (show COwn (w5.setRow w.heap.size #[.string (st p), .slice A1 n c1, .int .i64 dv, .bool false, .int .i64 4, .int .i64 3, .slice (some ⟨w1.heap.size + 1, 0, none⟩) 1 1]) w0.heap.size A1 n c1 l from by
    have ho := C1.out.below b5.out
    exact ⟨own_keep ho.1 (fun j hj => setRow_other _ _ _ _ (by have := (ho.1.lt j hj).1; omega)), ho.2⟩)
  go_wp2_with (first
    | (refine wpList_load_row rfl 27 (.tmp 9) rfl w1.heap.size rfl 27 _ (0, 0) _ X5.out Tryz.underlying27 rfl HI.out ?_)
    | (refine wpList_store_row rfl 27 (.tmp 8) (.tmp 21) rfl w.heap.size #[.string (st p), .slice A1 n c1, .int .i64 dv, .bool false, .int .i64 4, .int .i64 3, .slice (some ⟨w1.heap.size + 1, 0, none⟩) 1 1] rfl rfl 27 _ Y5.out HI.out rfl (by simp [Value.oneCell']) ?_)
    | fail)
  have hzS : (w5.setRow w.heap.size #[.string (st p), .slice A1 n c1, .int .i64 dv, .bool false, .int .i64 4, .int .i64 3, .slice (some ⟨w1.heap.size + 1, 0, none⟩) 1 1]).heap.size = w5.heap.size := by simp [World.setRow]
  exact bodyPost_ret (results_cell_row Tryz.results20 _ _ w.heap.size _ #[.string (st p), .slice A1 n c1, .int .i64 dv, .bool false, .int .i64 4, .int .i64 3, .slice (some ⟨w1.heap.size + 1, 0, none⟩) 1 1] _ _ rfl XS.out Tryz.underlying27 rfl HI.out) rfl ⟨A1, c1, _, rfl, CS.out.down (by omega), dg1_reads ((setRow_other w5 w.heap.size _ _ (by omega)).trans H5.out) (by rw [hzS]; omega), BS.out⟩
end Go.Proofs.YtndekohimfjdeaaGreatDoor

namespace Go.Proofs.YtndekohimfjdeaaGreatDoor
open Go.RowKit Go.Shelf
set_option maxRecDepth 100000 in
set_option maxHeartbeats 16000000 in
theorem does_v (r q : Rcd) (a b : RSh) (win dd B : Nat) (w : World) (he : EnvM w) (hr : RReads w B r a) (hq : RReads w B q b) (hB : B ≤ w.heap.size) (hw : winR r q = (win, 0)) (hd : doR r q = (dd, 0)) :
    Calls Tryz.prog 21 #[.agg #[.string (st r.path), .slice a.A a.n a.c, .int .i64 r.dev, .bool r.gone, .int .i64 r.size, .int .i64 r.len, .slice a.D a.m a.k], .agg #[.string (st q.path), .slice b.A b.n b.c, .int .i64 q.dev, .bool q.gone, .int .i64 q.size, .int .i64 q.len, .slice b.D b.m b.k], .int .i64 (win : Int), .int .i64 (dd : Int)] w fun e w' => e = .returned (.bool true) ∧ Below w.heap.size w w' := by
  have HI := Lib.hid (show (Tryz.prog.info? 27).map (·.size) = some 7 by kernel_rfl)
  have BA := Lib.hid (((Below.refl w.heap.size w).alloc (Nat.le_refl _) (.cells #[.string (st r.path), .slice a.A a.n a.c, .int .i64 r.dev, .bool r.gone, .int .i64 r.size, .int .i64 r.len, .slice a.D a.m a.k] 27)).alloc (by simp) (.cells #[.string (st q.path), .slice b.A b.n b.c, .int .i64 q.dev, .bool q.gone, .int .i64 q.size, .int .i64 q.len, .slice b.D b.m b.k] 27))
  have Y := Lib.hid (heap_alloc2_new w (.cells #[.string (st r.path), .slice a.A a.n a.c, .int .i64 r.dev, .bool r.gone, .int .i64 r.size, .int .i64 r.len, .slice a.D a.m a.k] 27) (.cells #[.string (st q.path), .slice b.A b.n b.c, .int .i64 q.dev, .bool q.gone, .int .i64 q.size, .int .i64 q.len, .slice b.D b.m b.k] 27))
  have X := Lib.hid (heap_alloc2_old w (.cells #[.string (st r.path), .slice a.A a.n a.c, .int .i64 r.dev, .bool r.gone, .int .i64 r.size, .int .i64 r.len, .slice a.D a.m a.k] 27) (.cells #[.string (st q.path), .slice b.A b.n b.c, .int .i64 q.dev, .bool q.gone, .int .i64 q.size, .int .i64 q.len, .slice b.D b.m b.k] 27))
  have HR := Lib.hid hr
  have HQ := Lib.hid hq
  have HE := Lib.hid he
  have HW := Lib.hid hw
  have HD := Lib.hid hd
  have hz : w.heap.size + 2 ≤ ((w.alloc (.cells #[.string (st r.path), .slice a.A a.n a.c, .int .i64 r.dev, .bool r.gone, .int .i64 r.size, .int .i64 r.len, .slice a.D a.m a.k] 27)).alloc (.cells #[.string (st q.path), .slice b.A b.n b.c, .int .i64 q.dev, .bool q.gone, .int .i64 q.size, .int .i64 q.len, .slice b.D b.m b.k] 27)).heap.size := by simp
  clear hr hq he hw hd
  go_enter Tryz.func21, Tryz.ntmps21
  go_upto_region 1 with fail
  generalize (w.alloc (.cells #[.string (st r.path), .slice a.A a.n a.c, .int .i64 r.dev, .bool r.gone, .int .i64 r.size, .int .i64 r.len, .slice a.D a.m a.k] 27)).alloc (.cells #[.string (st q.path), .slice b.A b.n b.c, .int .i64 q.dev, .bool q.gone, .int .i64 q.size, .int .i64 q.len, .slice b.D b.m b.k] 27) = w2 at *
  go_wp2_with (first
    | (refine wpList_load_row rfl 27 (.tmp 4) rfl w.heap.size rfl 27 _ (0, 0) _ X.out Tryz.underlying27 rfl HI.out ?_)
    | (refine wpList_load_row rfl 27 (.tmp 5) rfl (w.heap.size + 1) rfl 27 _ (0, 0) _ Y.out Tryz.underlying27 rfl HI.out ?_)
    | fail)
  refine (winner_v r q a b B w2 (HE.out.below BA.out) (HR.out.below (BA.out.mono hB)) (HQ.out.below (BA.out.mono hB)) (by omega)).mono ?_
  rintro e w3 ⟨rfl, b3⟩
  rw [HW.out]
  replace X := Lib.hid ((b3.block w.heap.size (by omega)).trans X.out)
  replace Y := Lib.hid ((b3.block (w.heap.size + 1) (by omega)).trans Y.out)
  replace BA := Lib.hid (BA.out.trans (b3.mono (by omega)))
  replace hz : w.heap.size + 2 ≤ w3.heap.size := by have := b3.size; omega
  clear b3
  go_wp2_with (first
    | (refine wpList_load_row rfl 27 (.tmp 4) rfl w.heap.size rfl 27 _ (0, 0) _ X.out Tryz.underlying27 rfl HI.out ?_)
    | (refine wpList_load_row rfl 27 (.tmp 5) rfl (w.heap.size + 1) rfl 27 _ (0, 0) _ Y.out Tryz.underlying27 rfl HI.out ?_)
    | fail)
  refine (do_v r q a b B w3 (HE.out.below BA.out) (HR.out.below (BA.out.mono hB)) (HQ.out.below (BA.out.mono hB)) (by omega)).mono ?_
  rintro e w4 ⟨rfl, b3⟩
  rw [HD.out]
  replace BA := Lib.hid (BA.out.trans (b3.mono (by omega)))
  clear b3
  go_wp2
  go_ret
  exact ⟨rfl, BA.out⟩
/-- A record of one block. -/
def rcF (dv : Int) (b : Nat) (v : List (Int × Nat)) : Rcd := ⟨[102], v, dv, false, 4, 3, [dg1 b]⟩
theorem rcF_reads {W : World} {base c1 n dv b : Nat} {A1 D1 : Option Addr} {v : List (Int × Nat)} (h : COwn W base A1 n c1 v) (hd : DReads W W.heap.size D1 1 [dg1 b]) (hn : n ≤ 100) (hf : fitV v) : RReads W W.heap.size (rcF dv b v) ⟨A1, n, c1, D1, 1, 1⟩ :=
  ⟨h.reads, hd, by dsimp only; omega, by dsimp only; omega, hf⟩
theorem fit1 (x y : Int) (a : Nat) (h : a < 100) : fitV [(x, a)] := fun z hz => by rw [List.mem_singleton.1 hz]; dsimp only; omega
theorem fit2 (x y : Int) (a b : Nat) (h : a < 100) (h' : b < 100) : fitV [(x, a), (y, b)] := fun z hz => by
  rcases List.mem_cons.1 hz with rfl | hz
  · dsimp only; omega
  · rw [List.mem_singleton.1 hz]; dsimp only; omega
theorem ex1 : winR (rcF 1 7 [(1, 1)]) (rcF 2 8 [(1, 1), (2, 1)]) = (1, 0) ∧ doR (rcF 1 7 [(1, 1)]) (rcF 2 8 [(1, 1), (2, 1)]) = (2, 0) := by constructor <;> kernel_rfl
theorem ex2 : winR (rcF 1 7 [(1, 2)]) (rcF 2 8 [(2, 1)]) = (0, 0) ∧ doR (rcF 1 7 [(1, 2)]) (rcF 2 8 [(2, 1)]) = (1, 0) := by constructor <;> kernel_rfl
theorem ex3 : winR (rcF 1 7 [(1, 1)]) (rcF 2 8 [(2, 2)]) = (1, 0) ∧ doR (rcF 1 7 [(1, 1)]) (rcF 2 8 [(2, 2)]) = (3, 0) := by constructor <;> kernel_rfl
theorem RReads.drew {w : World} {B : Nat} {r : Rcd} {a : RSh} (h : RReads w B r a) : RReads w.drew B r a := ⟨Reads.drew h.cs, Reads.drew h.dg, h.hn, h.hm, h.ft⟩
set_option maxRecDepth 100000 in
set_option maxHeartbeats 16000000 in
theorem lives_v (w : World) (he : EnvM w) : Calls Tryz.prog 4 #[] w fun e w' => e = .returned (.bool true) ∧ Below w.heap.size w w' := by
  have HI := Lib.hid (show (Tryz.prog.info? 27).map (·.size) = some 7 by kernel_rfl)
  have HE := Lib.hid he
  clear he
  go_enter Tryz.func4, Tryz.ntmps4
  go_wp2_with fail
  refine (kat_v 1 1 w).mono ?_
  rintro e w1 ⟨rfl, b1⟩
  have C1 := Lib.hid (clit w1 [(1, 1)] #[.int .i64 1, .int .u64 1] 50 rfl)
  have B1 := Lib.hid (b1.alloc b1.size (.cells #[.int .i64 1, .int .u64 1] 50))
  have hz1 : (w1.alloc (.cells #[.int .i64 1, .int .u64 1] 50)).heap.size = w1.heap.size + 1 := by simp
  clear b1
  go_wp2_with fail
  generalize w1.alloc (.cells #[.int .i64 1, .int .u64 1] 50) = w2 at *
  refine (filled_v [102] 1 7 (some ⟨w1.heap.size, 0, none⟩) 1 1 (w1.heap.size + 1) [(1, 1)] w2 C1.out (by omega) (by omega)).mono ?_
  rintro e w3 ⟨A1, c1, D1, rfl, ho, hd, b3⟩
  have RA := Lib.hid (rcF_reads (dv := 1) ho hd (by omega) (fit1 1 1 1 (by omega)))
  have B3 := Lib.hid (B1.out.trans (b3.mono B1.out.size))
  have Z3 := heap_alloc_new w3 (.cells #[.string (st [102]), .slice A1 1 c1, .int .i64 1, .bool false, .int .i64 4, .int .i64 3, .slice D1 1 1] 27)
  have RA4 := Lib.hid (RA.out.below ((Below.refl w3.heap.size w3).alloc (Nat.le_refl _) (.cells #[.string (st [102]), .slice A1 1 c1, .int .i64 1, .bool false, .int .i64 4, .int .i64 3, .slice D1 1 1] 27)))
  have B4 := Lib.hid (B3.out.alloc B3.out.size (.cells #[.string (st [102]), .slice A1 1 c1, .int .i64 1, .bool false, .int .i64 4, .int .i64 3, .slice D1 1 1] 27))
  have hz4 : w3.heap.size ≤ (w3.alloc (.cells #[.string (st [102]), .slice A1 1 c1, .int .i64 1, .bool false, .int .i64 4, .int .i64 3, .slice D1 1 1] 27)).heap.size := by simp
  clear ho hd b3 C1 B1 hz1 RA B3
  go_upto_region 3 with fail
  generalize w3.alloc (.cells #[.string (st [102]), .slice A1 1 c1, .int .i64 1, .bool false, .int .i64 4, .int .i64 3, .slice D1 1 1] 27) = w4 at *
  generalize w3.heap.size = ga at *
  have hS : w4.drew.heap[ga]? = some (.cells #[.string (st [102]), .slice A1 1 c1, .int .i64 1, .bool false, .int .i64 4, .int .i64 3, .slice D1 1 1] 27 (0, 0)) := Z3
  have E := Lib.hid B4.out.drew
  have F := Lib.hid (Below.refl w4.heap.size w4).drew
  have RA := Lib.hid RA4.out.drew
  have hga : ga ≤ w4.drew.heap.size := hz4
  clear Z3 B4 RA4
  refine wp_region_text [(0, false), (1, false), (3, false), (2, true), (4, true), (5, true), (6, true), (7, true), (8, false), (9, false), (13, false), (10, true), (11, true), (12, true), (14, true), (15, true), (16, true), (17, true), (18, false), (19, false), (20, false), (21, false), (22, true), (23, true), (24, true), (25, true), (26, false), (27, false)] (fun V => V.heap[ga]? = some (.cells #[.string (st [102]), .slice A1 1 c1, .int .i64 1, .bool false, .int .i64 4, .int .i64 3, .slice D1 1 1] 27 (0, 0))) (by kernel_rfl) (by kernel_rfl) (by kernel_rfl) (by kernel_rfl) (by kernel_rfl) (fun _ => ?_)
  simp only [outOf, List.getElem?_cons_zero, List.getElem?_cons_succ, Option.getD_some]
  replace F : Hid (Below w4.drew.heap.size w4.drew w4.drew) := Lib.hid (Below.refl _ _)
  generalize w4.drew = ws at *
  refine TW.val2 (v := .agg #[.string (st [102]), .slice A1 1 c1, .int .i64 1, .bool false, .int .i64 4, .int .i64 3, .slice D1 1 1]) ?_ ?_ ?_ ?_ ?_
  (focus rfl)
  (focus exact fun V hV => exec_load_slot 27 (.tmp 2) rfl ⟨ga, 0, none⟩ rfl (#[.string (st [102]), .slice A1 1 c1, .int .i64 1, .bool false, .int .i64 4, .int .i64 3, .slice D1 1 1]).toList _ (rcells_at hV (fun j v h => by rw [Nat.zero_add]; simpa using h)) Tryz.underlying27 rfl HI.out)
  (focus exact fun _ _ _ h => h)
  (focus exact hS)
  simp only [Act.put, List.setIfInBounds_toArray, List.set_cons_zero, List.set_cons_succ]
  iterate 2 ((first | (refine TW.val2 (v := ?_) ?_ ?_ ?_ ?_ ?_; rotate_left; (focus rfl); (focus (intro W hSW; (try dsimp only at hSW); (try (obtain ⟨hS1, hSW⟩ := hSW)); (try (obtain ⟨hS2, hSW⟩ := hSW)); (try (obtain ⟨hS3, hSW⟩ := hSW)); (try (obtain ⟨hS4, hSW⟩ := hSW)); (try (obtain ⟨hS5, hSW⟩ := hSW)); (try (obtain ⟨hS6, hSW⟩ := hSW)); (try (obtain ⟨hS7, hSW⟩ := hSW)); (try (obtain ⟨hS8, hSW⟩ := hSW)); go_simp; (try with_reducible rfl); done)); (focus exact fun _ _ _ h => h); (focus assumption)) | (refine TW.skip (e := false) ?_ ?_ ?_ ?_; (focus rfl); (focus exact fun _ _ _ h => h); (focus assumption))); simp only [Act.put, List.setIfInBounds_toArray, List.set_cons_zero, List.set_cons_succ])
  refine TW.eff (by rfl) (fun K hK => ?_); go_simp
  refine (kat_v 1 1 _).mono ?_
  rintro e wn ⟨rfl, bn⟩
  have hSn : wn.heap[ga]? = some (.cells #[.string (st [102]), .slice A1 1 c1, .int .i64 1, .bool false, .int .i64 4, .int .i64 3, .slice D1 1 1] 27 (0, 0)) := (bn.block ga (Array.getElem?_eq_some_iff.1 hS).1).trans hS
  replace E := Lib.hid (E.out.trans (bn.mono E.out.size))
  replace F := Lib.hid (F.out.trans (bn.mono F.out.size))
  (try replace G := Lib.hid (G.out.trans (bn.mono G.out.size)))
  clear hS bn
  go_wp2_with fail; refine hK.out _ _ hSn ?_; clear hK; (try simp only [Act.put, List.setIfInBounds_toArray, List.set_cons_zero, List.set_cons_succ])
  have hS : wn.heap[ga]? = some (.cells #[.string (st [102]), .slice A1 1 c1, .int .i64 1, .bool false, .int .i64 4, .int .i64 3, .slice D1 1 1] 27 (0, 0)) := hSn
  clear hSn
  refine TW.eff (by rfl) (fun K hK => ?_); go_simp
  refine (kat_v 2 1 _).mono ?_
  rintro e wn ⟨rfl, bn⟩
  have hSn : wn.heap[ga]? = some (.cells #[.string (st [102]), .slice A1 1 c1, .int .i64 1, .bool false, .int .i64 4, .int .i64 3, .slice D1 1 1] 27 (0, 0)) := (bn.block ga (Array.getElem?_eq_some_iff.1 hS).1).trans hS
  replace E := Lib.hid (E.out.trans (bn.mono E.out.size))
  replace F := Lib.hid (F.out.trans (bn.mono F.out.size))
  (try replace G := Lib.hid (G.out.trans (bn.mono G.out.size)))
  clear hS bn
  go_wp2_with fail; refine hK.out _ _ hSn ?_; clear hK; (try simp only [Act.put, List.setIfInBounds_toArray, List.set_cons_zero, List.set_cons_succ])
  have hS : wn.heap[ga]? = some (.cells #[.string (st [102]), .slice A1 1 c1, .int .i64 1, .bool false, .int .i64 4, .int .i64 3, .slice D1 1 1] 27 (0, 0)) := hSn
  clear hSn
  refine TW.eff (by rfl) (fun K hK => ?_); go_simp
  have C := Lib.hid (clit wn [(1, 1), (2, 1)] #[.int .i64 1, .int .u64 1, .int .i64 2, .int .u64 1] 50 rfl)
  have bn := (Below.refl wn.heap.size wn).alloc (Nat.le_refl _) (.cells #[.int .i64 1, .int .u64 1, .int .i64 2, .int .u64 1] 50)
  have hzb : wn.heap.size + 1 ≤ (wn.alloc (.cells #[.int .i64 1, .int .u64 1, .int .i64 2, .int .u64 1] 50)).heap.size := by simp
  replace E := Lib.hid (E.out.trans (bn.mono E.out.size))
  replace F := Lib.hid (F.out.trans (bn.mono F.out.size))
  (try replace G := Lib.hid (G.out.trans (bn.mono G.out.size)))
  have hSn : (wn.alloc (.cells #[.int .i64 1, .int .u64 1, .int .i64 2, .int .u64 1] 50)).heap[ga]? = some (.cells #[.string (st [102]), .slice A1 1 c1, .int .i64 1, .bool false, .int .i64 4, .int .i64 3, .slice D1 1 1] 27 (0, 0)) := (bn.block ga (Array.getElem?_eq_some_iff.1 hS).1).trans hS
  clear hS bn
  generalize wn.alloc (.cells #[.int .i64 1, .int .u64 1, .int .i64 2, .int .u64 1] 50) = wb at *
  generalize wn.heap.size = gb at *
  (try (go_wp2_with fail)); refine hK.out _ _ hSn ?_; clear hK; (try simp only [Act.put, List.setIfInBounds_toArray, List.set_cons_zero, List.set_cons_succ])
  have hS : wb.heap[ga]? = some (.cells #[.string (st [102]), .slice A1 1 c1, .int .i64 1, .bool false, .int .i64 4, .int .i64 3, .slice D1 1 1] 27 (0, 0)) := hSn
  clear hSn
  refine TW.eff (by rfl) (fun K hK => ?_); go_simp
  refine (filled_v [102] 2 8 (some ⟨gb, 0, none⟩) 2 2 (gb + 1) [(1, 1), (2, 1)] wb C.out (by omega) (by omega)).mono ?_
  rintro e wn ⟨A2, c2, D2, rfl, ho, hd, bn⟩
  have RB := Lib.hid (rcF_reads (dv := 2) ho hd (by omega) (fit2 1 2 1 1 (by omega) (by omega)))
  clear ho hd C hzb
  have hSn : wn.heap[ga]? = some (.cells #[.string (st [102]), .slice A1 1 c1, .int .i64 1, .bool false, .int .i64 4, .int .i64 3, .slice D1 1 1] 27 (0, 0)) := (bn.block ga (Array.getElem?_eq_some_iff.1 hS).1).trans hS
  replace E := Lib.hid (E.out.trans (bn.mono E.out.size))
  replace F := Lib.hid (F.out.trans (bn.mono F.out.size))
  (try replace G := Lib.hid (G.out.trans (bn.mono G.out.size)))
  clear hS bn
  go_wp2_with fail; refine hK.out _ _ hSn ?_; clear hK; (try simp only [Act.put, List.setIfInBounds_toArray, List.set_cons_zero, List.set_cons_succ])
  have hS : wn.heap[ga]? = some (.cells #[.string (st [102]), .slice A1 1 c1, .int .i64 1, .bool false, .int .i64 4, .int .i64 3, .slice D1 1 1] 27 (0, 0)) := hSn
  clear hSn
  have RAn := Lib.hid ((RA.out.below (F.out.mono hga)).more (Nat.le_trans hga F.out.size))
  refine TW.eff (by rfl) (fun K hK => ?_); go_simp
  refine (does_v (rcF 1 7 [(1, 1)]) (rcF 2 8 [(1, 1), (2, 1)]) ⟨A1, 1, c1, D1, 1, 1⟩ ⟨A2, 2, c2, D2, 1, 1⟩ 1 2 wn.heap.size wn (HE.out.below E.out) (RAn.out) (RB.out) (Nat.le_refl _) ex1.1 ex1.2).mono ?_
  rintro e wn ⟨rfl, bn⟩
  have hSn : wn.heap[ga]? = some (.cells #[.string (st [102]), .slice A1 1 c1, .int .i64 1, .bool false, .int .i64 4, .int .i64 3, .slice D1 1 1] 27 (0, 0)) := (bn.block ga (Array.getElem?_eq_some_iff.1 hS).1).trans hS
  replace E := Lib.hid (E.out.trans (bn.mono E.out.size))
  replace F := Lib.hid (F.out.trans (bn.mono F.out.size))
  (try replace G := Lib.hid (G.out.trans (bn.mono G.out.size)))
  clear hS bn
  go_wp2_with fail; refine hK.out _ _ hSn ?_; clear hK; (try simp only [Act.put, List.setIfInBounds_toArray, List.set_cons_zero, List.set_cons_succ])
  have hS : wn.heap[ga]? = some (.cells #[.string (st [102]), .slice A1 1 c1, .int .i64 1, .bool false, .int .i64 4, .int .i64 3, .slice D1 1 1] 27 (0, 0)) := hSn
  clear hSn
  clear RB RAn
  iterate 3 ((first | (refine TW.val2 (v := ?_) ?_ ?_ ?_ ?_ ?_; rotate_left; (focus rfl); (focus (intro W hSW; (try dsimp only at hSW); (try (obtain ⟨hS1, hSW⟩ := hSW)); (try (obtain ⟨hS2, hSW⟩ := hSW)); (try (obtain ⟨hS3, hSW⟩ := hSW)); (try (obtain ⟨hS4, hSW⟩ := hSW)); (try (obtain ⟨hS5, hSW⟩ := hSW)); (try (obtain ⟨hS6, hSW⟩ := hSW)); (try (obtain ⟨hS7, hSW⟩ := hSW)); (try (obtain ⟨hS8, hSW⟩ := hSW)); go_simp; (try with_reducible rfl); done)); (focus exact fun _ _ _ h => h); (focus assumption)) | (refine TW.skip (e := false) ?_ ?_ ?_ ?_; (focus rfl); (focus exact fun _ _ _ h => h); (focus assumption))); simp only [Act.put, List.setIfInBounds_toArray, List.set_cons_zero, List.set_cons_succ])
  refine TW.eff (by rfl) (fun K hK => ?_); go_simp
  refine (kat_v 1 2 _).mono ?_
  rintro e wn ⟨rfl, bn⟩
  have hSn : wn.heap[ga]? = some (.cells #[.string (st [102]), .slice A1 1 c1, .int .i64 1, .bool false, .int .i64 4, .int .i64 3, .slice D1 1 1] 27 (0, 0)) := (bn.block ga (Array.getElem?_eq_some_iff.1 hS).1).trans hS
  replace E := Lib.hid (E.out.trans (bn.mono E.out.size))
  replace F := Lib.hid (F.out.trans (bn.mono F.out.size))
  (try replace G := Lib.hid (G.out.trans (bn.mono G.out.size)))
  clear hS bn
  go_wp2_with fail; refine hK.out _ _ hSn ?_; clear hK; (try simp only [Act.put, List.setIfInBounds_toArray, List.set_cons_zero, List.set_cons_succ])
  have hS : wn.heap[ga]? = some (.cells #[.string (st [102]), .slice A1 1 c1, .int .i64 1, .bool false, .int .i64 4, .int .i64 3, .slice D1 1 1] 27 (0, 0)) := hSn
  clear hSn
  refine TW.eff (by rfl) (fun K hK => ?_); go_simp
  have C := Lib.hid (clit wn [(1, 2)] #[.int .i64 1, .int .u64 2] 50 rfl)
  have bn := (Below.refl wn.heap.size wn).alloc (Nat.le_refl _) (.cells #[.int .i64 1, .int .u64 2] 50)
  have hzb : wn.heap.size + 1 ≤ (wn.alloc (.cells #[.int .i64 1, .int .u64 2] 50)).heap.size := by simp
  replace E := Lib.hid (E.out.trans (bn.mono E.out.size))
  replace F := Lib.hid (F.out.trans (bn.mono F.out.size))
  (try replace G := Lib.hid (G.out.trans (bn.mono G.out.size)))
  have hSn : (wn.alloc (.cells #[.int .i64 1, .int .u64 2] 50)).heap[ga]? = some (.cells #[.string (st [102]), .slice A1 1 c1, .int .i64 1, .bool false, .int .i64 4, .int .i64 3, .slice D1 1 1] 27 (0, 0)) := (bn.block ga (Array.getElem?_eq_some_iff.1 hS).1).trans hS
  clear hS bn
  generalize wn.alloc (.cells #[.int .i64 1, .int .u64 2] 50) = wb at *
  generalize wn.heap.size = gb at *
  (try (go_wp2_with fail)); refine hK.out _ _ hSn ?_; clear hK; (try simp only [Act.put, List.setIfInBounds_toArray, List.set_cons_zero, List.set_cons_succ])
  have hS : wb.heap[ga]? = some (.cells #[.string (st [102]), .slice A1 1 c1, .int .i64 1, .bool false, .int .i64 4, .int .i64 3, .slice D1 1 1] 27 (0, 0)) := hSn
  clear hSn
  refine TW.eff (by rfl) (fun K hK => ?_); go_simp
  refine (filled_v [102] 1 7 (some ⟨gb, 0, none⟩) 1 1 (gb + 1) [(1, 2)] wb C.out (by omega) (by omega)).mono ?_
  rintro e wn ⟨A3, c3, D3, rfl, ho, hd, bn⟩
  have RB := Lib.hid (rcF_reads (dv := 1) ho hd (by omega) (fit1 1 1 2 (by omega)))
  clear ho hd C hzb
  have hSn : wn.heap[ga]? = some (.cells #[.string (st [102]), .slice A1 1 c1, .int .i64 1, .bool false, .int .i64 4, .int .i64 3, .slice D1 1 1] 27 (0, 0)) := (bn.block ga (Array.getElem?_eq_some_iff.1 hS).1).trans hS
  replace E := Lib.hid (E.out.trans (bn.mono E.out.size))
  replace F := Lib.hid (F.out.trans (bn.mono F.out.size))
  (try replace G := Lib.hid (G.out.trans (bn.mono G.out.size)))
  clear hS bn
  go_wp2_with fail; refine hK.out _ _ hSn ?_; clear hK; (try simp only [Act.put, List.setIfInBounds_toArray, List.set_cons_zero, List.set_cons_succ])
  have hS : wn.heap[ga]? = some (.cells #[.string (st [102]), .slice A1 1 c1, .int .i64 1, .bool false, .int .i64 4, .int .i64 3, .slice D1 1 1] 27 (0, 0)) := hSn
  clear hSn
  have G := Lib.hid (Below.refl wn.heap.size wn)
  refine TW.eff (by rfl) (fun K hK => ?_); go_simp
  refine (kat_v 2 1 _).mono ?_
  rintro e wn ⟨rfl, bn⟩
  have hSn : wn.heap[ga]? = some (.cells #[.string (st [102]), .slice A1 1 c1, .int .i64 1, .bool false, .int .i64 4, .int .i64 3, .slice D1 1 1] 27 (0, 0)) := (bn.block ga (Array.getElem?_eq_some_iff.1 hS).1).trans hS
  replace E := Lib.hid (E.out.trans (bn.mono E.out.size))
  replace F := Lib.hid (F.out.trans (bn.mono F.out.size))
  (try replace G := Lib.hid (G.out.trans (bn.mono G.out.size)))
  clear hS bn
  go_wp2_with fail; refine hK.out _ _ hSn ?_; clear hK; (try simp only [Act.put, List.setIfInBounds_toArray, List.set_cons_zero, List.set_cons_succ])
  have hS : wn.heap[ga]? = some (.cells #[.string (st [102]), .slice A1 1 c1, .int .i64 1, .bool false, .int .i64 4, .int .i64 3, .slice D1 1 1] 27 (0, 0)) := hSn
  clear hSn
  refine TW.eff (by rfl) (fun K hK => ?_); go_simp
  have C := Lib.hid (clit wn [(2, 1)] #[.int .i64 2, .int .u64 1] 50 rfl)
  have bn := (Below.refl wn.heap.size wn).alloc (Nat.le_refl _) (.cells #[.int .i64 2, .int .u64 1] 50)
  have hzb : wn.heap.size + 1 ≤ (wn.alloc (.cells #[.int .i64 2, .int .u64 1] 50)).heap.size := by simp
  replace E := Lib.hid (E.out.trans (bn.mono E.out.size))
  replace F := Lib.hid (F.out.trans (bn.mono F.out.size))
  (try replace G := Lib.hid (G.out.trans (bn.mono G.out.size)))
  have hSn : (wn.alloc (.cells #[.int .i64 2, .int .u64 1] 50)).heap[ga]? = some (.cells #[.string (st [102]), .slice A1 1 c1, .int .i64 1, .bool false, .int .i64 4, .int .i64 3, .slice D1 1 1] 27 (0, 0)) := (bn.block ga (Array.getElem?_eq_some_iff.1 hS).1).trans hS
  clear hS bn
  generalize wn.alloc (.cells #[.int .i64 2, .int .u64 1] 50) = wb at *
  generalize wn.heap.size = gb at *
  (try (go_wp2_with fail)); refine hK.out _ _ hSn ?_; clear hK; (try simp only [Act.put, List.setIfInBounds_toArray, List.set_cons_zero, List.set_cons_succ])
  have hS : wb.heap[ga]? = some (.cells #[.string (st [102]), .slice A1 1 c1, .int .i64 1, .bool false, .int .i64 4, .int .i64 3, .slice D1 1 1] 27 (0, 0)) := hSn
  clear hSn
  refine TW.eff (by rfl) (fun K hK => ?_); go_simp
  refine (filled_v [102] 2 8 (some ⟨gb, 0, none⟩) 1 1 (gb + 1) [(2, 1)] wb C.out (by omega) (by omega)).mono ?_
  rintro e wn ⟨A2, c2, D2, rfl, ho, hd, bn⟩
  have RC := Lib.hid (rcF_reads (dv := 2) ho hd (by omega) (fit1 2 2 1 (by omega)))
  clear ho hd C hzb
  have hSn : wn.heap[ga]? = some (.cells #[.string (st [102]), .slice A1 1 c1, .int .i64 1, .bool false, .int .i64 4, .int .i64 3, .slice D1 1 1] 27 (0, 0)) := (bn.block ga (Array.getElem?_eq_some_iff.1 hS).1).trans hS
  replace E := Lib.hid (E.out.trans (bn.mono E.out.size))
  replace F := Lib.hid (F.out.trans (bn.mono F.out.size))
  (try replace G := Lib.hid (G.out.trans (bn.mono G.out.size)))
  clear hS bn
  go_wp2_with fail; refine hK.out _ _ hSn ?_; clear hK; (try simp only [Act.put, List.setIfInBounds_toArray, List.set_cons_zero, List.set_cons_succ])
  have hS : wn.heap[ga]? = some (.cells #[.string (st [102]), .slice A1 1 c1, .int .i64 1, .bool false, .int .i64 4, .int .i64 3, .slice D1 1 1] 27 (0, 0)) := hSn
  clear hSn
  have RBn := Lib.hid ((RB.out.below G.out).more G.out.size)
  clear G
  refine TW.eff (by rfl) (fun K hK => ?_); go_simp
  refine (does_v (rcF 1 7 [(1, 2)]) (rcF 2 8 [(2, 1)]) ⟨A3, 1, c3, D3, 1, 1⟩ ⟨A2, 1, c2, D2, 1, 1⟩ 0 1 wn.heap.size wn (HE.out.below E.out) (RBn.out) (RC.out) (Nat.le_refl _) ex2.1 ex2.2).mono ?_
  rintro e wn ⟨rfl, bn⟩
  have hSn : wn.heap[ga]? = some (.cells #[.string (st [102]), .slice A1 1 c1, .int .i64 1, .bool false, .int .i64 4, .int .i64 3, .slice D1 1 1] 27 (0, 0)) := (bn.block ga (Array.getElem?_eq_some_iff.1 hS).1).trans hS
  replace E := Lib.hid (E.out.trans (bn.mono E.out.size))
  replace F := Lib.hid (F.out.trans (bn.mono F.out.size))
  (try replace G := Lib.hid (G.out.trans (bn.mono G.out.size)))
  clear hS bn
  go_wp2_with fail; refine hK.out _ _ hSn ?_; clear hK; (try simp only [Act.put, List.setIfInBounds_toArray, List.set_cons_zero, List.set_cons_succ])
  have hS : wn.heap[ga]? = some (.cells #[.string (st [102]), .slice A1 1 c1, .int .i64 1, .bool false, .int .i64 4, .int .i64 3, .slice D1 1 1] 27 (0, 0)) := hSn
  clear hSn
  clear RB RBn RC
  iterate 2 ((first | (refine TW.val2 (v := ?_) ?_ ?_ ?_ ?_ ?_; rotate_left; (focus rfl); (focus (intro W hSW; (try dsimp only at hSW); (try (obtain ⟨hS1, hSW⟩ := hSW)); (try (obtain ⟨hS2, hSW⟩ := hSW)); (try (obtain ⟨hS3, hSW⟩ := hSW)); (try (obtain ⟨hS4, hSW⟩ := hSW)); (try (obtain ⟨hS5, hSW⟩ := hSW)); (try (obtain ⟨hS6, hSW⟩ := hSW)); (try (obtain ⟨hS7, hSW⟩ := hSW)); (try (obtain ⟨hS8, hSW⟩ := hSW)); go_simp; (try with_reducible rfl); done)); (focus exact fun _ _ _ h => h); (focus assumption)) | (refine TW.skip (e := false) ?_ ?_ ?_ ?_; (focus rfl); (focus exact fun _ _ _ h => h); (focus assumption))); simp only [Act.put, List.setIfInBounds_toArray, List.set_cons_zero, List.set_cons_succ])
  refine TW.val2 (v := .agg #[.string (st [102]), .slice A1 1 c1, .int .i64 1, .bool false, .int .i64 4, .int .i64 3, .slice D1 1 1]) ?_ ?_ ?_ ?_ ?_
  (focus rfl)
  (focus exact fun V hV => exec_load_slot 27 (.tmp 2) rfl ⟨ga, 0, none⟩ rfl (#[.string (st [102]), .slice A1 1 c1, .int .i64 1, .bool false, .int .i64 4, .int .i64 3, .slice D1 1 1]).toList _ (rcells_at hV (fun j v h => by rw [Nat.zero_add]; simpa using h)) Tryz.underlying27 rfl HI.out)
  (focus exact fun _ _ _ h => h)
  (focus exact hS)
  simp only [Act.put, List.setIfInBounds_toArray, List.set_cons_zero, List.set_cons_succ]
  iterate 1 ((first | (refine TW.val2 (v := ?_) ?_ ?_ ?_ ?_ ?_; rotate_left; (focus rfl); (focus (intro W hSW; (try dsimp only at hSW); (try (obtain ⟨hS1, hSW⟩ := hSW)); (try (obtain ⟨hS2, hSW⟩ := hSW)); (try (obtain ⟨hS3, hSW⟩ := hSW)); (try (obtain ⟨hS4, hSW⟩ := hSW)); (try (obtain ⟨hS5, hSW⟩ := hSW)); (try (obtain ⟨hS6, hSW⟩ := hSW)); (try (obtain ⟨hS7, hSW⟩ := hSW)); (try (obtain ⟨hS8, hSW⟩ := hSW)); go_simp; (try with_reducible rfl); done)); (focus exact fun _ _ _ h => h); (focus assumption)) | (refine TW.skip (e := false) ?_ ?_ ?_ ?_; (focus rfl); (focus exact fun _ _ _ h => h); (focus assumption))); simp only [Act.put, List.setIfInBounds_toArray, List.set_cons_zero, List.set_cons_succ])
  refine TW.eff (by rfl) (fun K hK => ?_); go_simp
  refine (kat_v 2 2 _).mono ?_
  rintro e wn ⟨rfl, bn⟩
  have hSn : wn.heap[ga]? = some (.cells #[.string (st [102]), .slice A1 1 c1, .int .i64 1, .bool false, .int .i64 4, .int .i64 3, .slice D1 1 1] 27 (0, 0)) := (bn.block ga (Array.getElem?_eq_some_iff.1 hS).1).trans hS
  replace E := Lib.hid (E.out.trans (bn.mono E.out.size))
  replace F := Lib.hid (F.out.trans (bn.mono F.out.size))
  (try replace G := Lib.hid (G.out.trans (bn.mono G.out.size)))
  clear hS bn
  go_wp2_with fail; refine hK.out _ _ hSn ?_; clear hK; (try simp only [Act.put, List.setIfInBounds_toArray, List.set_cons_zero, List.set_cons_succ])
  have hS : wn.heap[ga]? = some (.cells #[.string (st [102]), .slice A1 1 c1, .int .i64 1, .bool false, .int .i64 4, .int .i64 3, .slice D1 1 1] 27 (0, 0)) := hSn
  clear hSn
  refine TW.eff (by rfl) (fun K hK => ?_); go_simp
  have C := Lib.hid (clit wn [(2, 2)] #[.int .i64 2, .int .u64 2] 50 rfl)
  have bn := (Below.refl wn.heap.size wn).alloc (Nat.le_refl _) (.cells #[.int .i64 2, .int .u64 2] 50)
  have hzb : wn.heap.size + 1 ≤ (wn.alloc (.cells #[.int .i64 2, .int .u64 2] 50)).heap.size := by simp
  replace E := Lib.hid (E.out.trans (bn.mono E.out.size))
  replace F := Lib.hid (F.out.trans (bn.mono F.out.size))
  (try replace G := Lib.hid (G.out.trans (bn.mono G.out.size)))
  have hSn : (wn.alloc (.cells #[.int .i64 2, .int .u64 2] 50)).heap[ga]? = some (.cells #[.string (st [102]), .slice A1 1 c1, .int .i64 1, .bool false, .int .i64 4, .int .i64 3, .slice D1 1 1] 27 (0, 0)) := (bn.block ga (Array.getElem?_eq_some_iff.1 hS).1).trans hS
  clear hS bn
  generalize wn.alloc (.cells #[.int .i64 2, .int .u64 2] 50) = wb at *
  generalize wn.heap.size = gb at *
  (try (go_wp2_with fail)); refine hK.out _ _ hSn ?_; clear hK; (try simp only [Act.put, List.setIfInBounds_toArray, List.set_cons_zero, List.set_cons_succ])
  have hS : wb.heap[ga]? = some (.cells #[.string (st [102]), .slice A1 1 c1, .int .i64 1, .bool false, .int .i64 4, .int .i64 3, .slice D1 1 1] 27 (0, 0)) := hSn
  clear hSn
  refine TW.eff (by rfl) (fun K hK => ?_); go_simp
  refine (filled_v [102] 2 8 (some ⟨gb, 0, none⟩) 1 1 (gb + 1) [(2, 2)] wb C.out (by omega) (by omega)).mono ?_
  rintro e wn ⟨A2, c2, D2, rfl, ho, hd, bn⟩
  have RC := Lib.hid (rcF_reads (dv := 2) ho hd (by omega) (fit1 2 2 2 (by omega)))
  clear ho hd C hzb
  have hSn : wn.heap[ga]? = some (.cells #[.string (st [102]), .slice A1 1 c1, .int .i64 1, .bool false, .int .i64 4, .int .i64 3, .slice D1 1 1] 27 (0, 0)) := (bn.block ga (Array.getElem?_eq_some_iff.1 hS).1).trans hS
  replace E := Lib.hid (E.out.trans (bn.mono E.out.size))
  replace F := Lib.hid (F.out.trans (bn.mono F.out.size))
  (try replace G := Lib.hid (G.out.trans (bn.mono G.out.size)))
  clear hS bn
  go_wp2_with fail; refine hK.out _ _ hSn ?_; clear hK; (try simp only [Act.put, List.setIfInBounds_toArray, List.set_cons_zero, List.set_cons_succ])
  have hS : wn.heap[ga]? = some (.cells #[.string (st [102]), .slice A1 1 c1, .int .i64 1, .bool false, .int .i64 4, .int .i64 3, .slice D1 1 1] 27 (0, 0)) := hSn
  clear hSn
  have RAn := Lib.hid ((RA.out.below (F.out.mono hga)).more (Nat.le_trans hga F.out.size))
  refine TW.eff (by rfl) (fun K hK => ?_); go_simp
  refine (does_v (rcF 1 7 [(1, 1)]) (rcF 2 8 [(2, 2)]) ⟨A1, 1, c1, D1, 1, 1⟩ ⟨A2, 1, c2, D2, 1, 1⟩ 1 3 wn.heap.size wn (HE.out.below E.out) (RAn.out) (RC.out) (Nat.le_refl _) ex3.1 ex3.2).mono ?_
  rintro e wn ⟨rfl, bn⟩
  have hSn : wn.heap[ga]? = some (.cells #[.string (st [102]), .slice A1 1 c1, .int .i64 1, .bool false, .int .i64 4, .int .i64 3, .slice D1 1 1] 27 (0, 0)) := (bn.block ga (Array.getElem?_eq_some_iff.1 hS).1).trans hS
  replace E := Lib.hid (E.out.trans (bn.mono E.out.size))
  replace F := Lib.hid (F.out.trans (bn.mono F.out.size))
  (try replace G := Lib.hid (G.out.trans (bn.mono G.out.size)))
  clear hS bn
  go_wp2_with fail; refine hK.out _ _ hSn ?_; clear hK; (try simp only [Act.put, List.setIfInBounds_toArray, List.set_cons_zero, List.set_cons_succ])
  have hS : wn.heap[ga]? = some (.cells #[.string (st [102]), .slice A1 1 c1, .int .i64 1, .bool false, .int .i64 4, .int .i64 3, .slice D1 1 1] 27 (0, 0)) := hSn
  clear hSn
  iterate 2 ((first | (refine TW.val2 (v := ?_) ?_ ?_ ?_ ?_ ?_; rotate_left; (focus rfl); (focus (intro W hSW; (try dsimp only at hSW); (try (obtain ⟨hS1, hSW⟩ := hSW)); (try (obtain ⟨hS2, hSW⟩ := hSW)); (try (obtain ⟨hS3, hSW⟩ := hSW)); (try (obtain ⟨hS4, hSW⟩ := hSW)); (try (obtain ⟨hS5, hSW⟩ := hSW)); (try (obtain ⟨hS6, hSW⟩ := hSW)); (try (obtain ⟨hS7, hSW⟩ := hSW)); (try (obtain ⟨hS8, hSW⟩ := hSW)); go_simp; (try with_reducible rfl); done)); (focus exact fun _ _ _ h => h); (focus assumption)) | (refine TW.skip (e := false) ?_ ?_ ?_ ?_; (focus rfl); (focus exact fun _ _ _ h => h); (focus assumption))); simp only [Act.put, List.setIfInBounds_toArray, List.set_cons_zero, List.set_cons_succ])
  refine TW.done ?_
  go_wp2
  go_ret
  exact ⟨rfl, E.out⟩
end Go.Proofs.YtndekohimfjdeaaGreatDoor

namespace Go.Proofs.YtndekohimfjdeaaGreatDoor
open Go.RowKit Go.Shelf
/-- Has a record few parts? -/
def lightX (most : Nat) (x : Rcd × RSh) : Bool := decide (x.1.path.length ≤ most) && decide (x.2.n ≤ most) && decide (x.2.m ≤ most)
set_option maxRecDepth 100000 in
set_option maxHeartbeats 4000000 in
theorem light_v (r : Rcd) (a : RSh) (most : Nat) (w : World) :
    Calls Tryz.prog 22 #[.agg #[.string (st r.path), .slice a.A a.n a.c, .int .i64 r.dev, .bool r.gone, .int .i64 r.size, .int .i64 r.len, .slice a.D a.m a.k], .int .i64 (most : Int)] w fun e w' => e = .returned (.bool (lightX most (r, a))) ∧ Below w.heap.size w w' := by
  have BA := Lib.hid ((Below.refl w.heap.size w).alloc (Nat.le_refl _) (.cells #[.string (st r.path), .slice a.A a.n a.c, .int .i64 r.dev, .bool r.gone, .int .i64 r.size, .int .i64 r.len, .slice a.D a.m a.k] 27))
  have X := heap_alloc_new w (.cells #[.string (st r.path), .slice a.A a.n a.c, .int .i64 r.dev, .bool r.gone, .int .i64 r.size, .int .i64 r.len, .slice a.D a.m a.k] 27)
  have c0 := cell_of_row _ _ 0 _ _ _ X
  have c1 := cell_of_row _ _ 1 _ _ _ X
  have c6 := cell_of_row _ _ 6 _ _ _ X
  have hz := st_size r.path
  clear X
  go_enter Tryz.func22, Tryz.ntmps22
  by_cases h1 : r.path.length ≤ most
  · have d1 : decide (((st r.path).size : Int) ≤ (most : Int)) = true := decide_eq_true (by omega)
    have d1n : decide ((st r.path).size ≤ most) = true := decide_eq_true (by omega)
    by_cases h2 : a.n ≤ most
    · have d2 : decide ((a.n : Int) ≤ (most : Int)) = true := decide_eq_true (by omega)
      have d2n : decide (a.n ≤ most) = true := decide_eq_true (by omega)
      by_cases h3 : a.m ≤ most
      · have d3 : decide ((a.m : Int) ≤ (most : Int)) = true := decide_eq_true (by omega)
        have d3n : decide (a.m ≤ most) = true := decide_eq_true (by omega)
        have HF := Lib.hid (show lightX most (r, a) = true by simp [lightX, h1, h2, h3])
        clear h1 h2 h3 hz
        go_wp2
        go_ret
        exact ⟨by rw [HF.out]; first | rfl | simp [d3], BA.out⟩
      · have d3 : decide ((a.m : Int) ≤ (most : Int)) = false := decide_eq_false (by omega)
        have d3n : decide (a.m ≤ most) = false := decide_eq_false (by omega)
        have HF := Lib.hid (show lightX most (r, a) = false by simp [lightX, h3])
        clear h1 h2 h3 hz
        go_wp2
        go_ret
        exact ⟨by rw [HF.out]; first | rfl | simp [d3], BA.out⟩
    · have d2 : decide ((a.n : Int) ≤ (most : Int)) = false := decide_eq_false (by omega)
      have d2n : decide (a.n ≤ most) = false := decide_eq_false (by omega)
      have HF := Lib.hid (show lightX most (r, a) = false by simp [lightX, h2])
      clear h1 h2 hz
      go_wp2
      go_ret
      exact ⟨by rw [HF.out]; first | rfl | simp [d2], BA.out⟩
  · have d1 : decide (((st r.path).size : Int) ≤ (most : Int)) = false := decide_eq_false (by omega)
    have d1n : decide ((st r.path).size ≤ most) = false := decide_eq_false (by omega)
    have HF := Lib.hid (show lightX most (r, a) = false by simp [lightX, h1])
    clear h1 hz
    go_wp2
    go_ret
    exact ⟨by rw [HF.out]; first | rfl | simp [d1], BA.out⟩
theorem reads7_at {w : World} {B n k : Nat} {A : Option Addr} {l : List (Rcd × RSh)} (h : Reads w B 7 A n (l.flatMap rcC)) (hl : l.length = n) (hk : k < n) :
    ∃ ad x, A = some ad ∧ l[k]? = some x ∧ ∀ W, Below B w W → ∀ j u, (rcC x)[j]? = some u → W.cell? ((ad.add (k * 7)).add j) = some u := by
  have hl : k < l.length := by omega
  obtain ⟨ad, e, hb, hc⟩ := h.2 (by omega)
  refine ⟨ad, l[k], e, List.getElem?_eq_getElem hl, fun W hW j u hu => ?_⟩
  have hj : j < 7 := by
    have := (List.getElem?_eq_some_iff.1 hu).1
    rwa [rcC_len] at this
  rw [add_of_add]
  refine (hW.cell (p := ad.add (k * 7 + j)) (by rw [block_of_add]; exact hb)).trans (hc _ u ?_)
  rw [flat_at rcC_len l (List.getElem?_eq_getElem hl) hj]
  exact hu
theorem all_step {α : Type} {p : α → Bool} {l : List α} {k : Nat} {x : α} (h : ((l.take k).all p) = true) (hx : l[k]? = some x) (hp : p x = true) : ((l.take (k + 1)).all p) = true := by
  rw [List.take_add_one, hx, List.all_append, h]
  simpa using hp
theorem all_not {α : Type} {p : α → Bool} {l : List α} {k : Nat} {x : α} (hx : l[k]? = some x) (hp : p x = false) : l.all p = false := by
  obtain ⟨hk, e⟩ := List.getElem?_eq_some_iff.1 hx
  rw [List.all_eq_false]
  exact ⟨x, e ▸ List.getElem_mem hk, by rw [hp]; decide⟩
/-- Have records few parts each, and are they few? -/
def lightsX (most n : Nat) (l : List (Rcd × RSh)) : Bool := decide (l.length ≤ n) && l.all (lightX most)
set_option maxRecDepth 100000 in
set_option maxHeartbeats 8000000 in
theorem lights_v (l : List (Rcd × RSh)) (A : Option Addr) (len c B n most : Nat) (w : World) (hr : Reads w B 7 A len (l.flatMap rcC)) (hll : l.length = len) (hB : B ≤ w.heap.size) (hn : n ≤ 1000) (hlen : len ≤ 9007199254740992) :
    Calls Tryz.prog 5 #[.slice A len c, .int .i64 (n : Int), .int .i64 (most : Int)] w fun e w' => e = .returned (.bool (lightsX most n l)) ∧ Below w.heap.size w w' := by
  have HI := Lib.hid (show (Tryz.prog.info? 27).map (·.size) = some 7 by kernel_rfl)
  have HR := Lib.hid hr
  clear hr
  go_enter Tryz.func5, Tryz.ntmps5
  go_upto_region 2 with fail
  go_loopw [7] (fun i wr => ∃ k : Nat, k ≤ len ∧ k ≤ n + 1 ∧ i = .int .i64 (k : Int) ∧ ((l.take k).all (lightX most)) = true ∧ Below w.heap.size w wr) (fun i _ => len - (intOf i).toNat)
  case atStart => exact ⟨0, Nat.zero_le _, Nat.zero_le _, rfl, by simp, Below.refl _ _⟩
  case round =>
    obtain ⟨k, hk, hk2, rfl, hal, hb⟩ := hrel
    have HA := Lib.hid hal
    clear hal
    have k0 : (0 : Int) ≤ (k : Int) := by omega
    by_cases hlt : k < len
    · have d1 : decide ((k : Int) < (len : Int)) = true := decide_eq_true (by omega)
      have d1n : decide (k < len) = true := decide_eq_true (by omega)
      by_cases hle : k ≤ n
      · have d2 : decide ((k : Int) ≤ (n : Int)) = true := decide_eq_true (by omega)
        have d2n : decide (k ≤ n) = true := decide_eq_true (by omega)
        obtain ⟨ad, x, rfl, hx, hc⟩ := reads7_at HR.out hll hlt
        have HX := Lib.hid hx
        have HC := Lib.hid (hc wr (hb.mono hB))
        have HB := Lib.hid hb
        clear hx hc hb
        go_wp2_with (first
          | (refine wpList_load_slot rfl 27 (.tmp 21) rfl (ad.add (k * 7)) rfl [.string (st x.1.path), .slice x.2.A x.2.n x.2.c, .int .i64 x.1.dev, .bool x.1.gone, .int .i64 x.1.size, .int .i64 x.1.len, .slice x.2.D x.2.m x.2.k] _ HC.out Tryz.underlying27 rfl HI.out ?_)
          | fail)
        refine (light_v x.1 x.2 most wr).mono ?_
        rintro e w2 ⟨rfl, b2⟩
        have B2 := Lib.hid (HB.out.trans (b2.mono HB.out.size))
        clear b2
        cases hL : lightX most (x.1, x.2)
        · have HF := Lib.hid (show lightsX most n l = false by unfold lightsX; rw [all_not HX.out hL, Bool.and_false])
          clear hL
          go_wp2
          go_ret
          exact ⟨by rw [HF.out]; rfl, B2.out⟩
        · have HF := Lib.hid (all_step HA.out HX.out hL)
          clear hL
          go_wp2
          go_roundw
          case rel => exact ⟨k + 1, hlt, by omega, by go_num, HF.out, B2.out⟩
          case measure => simp [intOf]; omega
      · have d2 : decide ((k : Int) ≤ (n : Int)) = false := decide_eq_false (by omega)
        have d2n : decide (k ≤ n) = false := decide_eq_false (by omega)
        have d3 : decide ((len : Int) ≤ (n : Int)) = false := decide_eq_false (by omega)
        have d3n : decide (len ≤ n) = false := decide_eq_false (by omega)
        have HF := Lib.hid (show lightsX most n l = false by unfold lightsX; rw [decide_eq_false (by omega), Bool.false_and])
        have HB := Lib.hid hb
        clear hb hle
        go_wp2
        go_ret
        exact ⟨by rw [HF.out]; first | rfl | simp [d3], HB.out⟩
    · obtain rfl : k = len := by omega
      have d1 : decide ((k : Int) < (k : Int)) = false := decide_eq_false (by omega)
      have d1n : decide (k < k) = false := decide_eq_false (by omega)
      have HB := Lib.hid hb
      have HL := Lib.hid (show l.all (lightX most) = true by have := HA.out; rwa [List.take_of_length_le (by omega)] at this)
      by_cases h3 : k ≤ n
      · have d3 : decide ((k : Int) ≤ (n : Int)) = true := decide_eq_true (by omega)
        have d3n : decide (k ≤ n) = true := decide_eq_true (by omega)
        have HF := Lib.hid (show lightsX most n l = true by unfold lightsX; rw [HL.out, decide_eq_true (by omega)]; rfl)
        clear hb
        go_wp2
        go_ret
        exact ⟨by rw [HF.out]; first | rfl | simp [d3], HB.out⟩
      · have d3 : decide ((k : Int) ≤ (n : Int)) = false := decide_eq_false (by omega)
        have d3n : decide (k ≤ n) = false := decide_eq_false (by omega)
        have HF := Lib.hid (show lightsX most n l = false by unfold lightsX; rw [decide_eq_false (by omega), Bool.false_and])
        clear hb
        go_wp2
        go_ret
        exact ⟨by rw [HF.out]; first | rfl | simp [d3], HB.out⟩
end Go.Proofs.YtndekohimfjdeaaGreatDoor

namespace Go.Proofs.YtndekohimfjdeaaGreatDoor
open Go.RowKit Go.Shelf
theorem arr_at {us : List Value} : ∀ j v, us[j]? = some v → us.toArray[0 + j]? = some v := by
  intro j v h
  rw [Nat.zero_add]
  simpa using h
/-- What a record that is handed in reads as. -/
structure RIn (w : World) (B : Nat) (r : Rcd) (a : RSh) : Prop where
  cs : CReads w B a.A a.n r.v
  dg : DReads w B a.D a.m r.ds
  ft : fitV r.v
theorem RIn.below {w w' : World} {B : Nat} {r : Rcd} {a : RSh} (h : RIn w B r a) (hb : Below B w w') : RIn w' B r a := ⟨Reads.below h.cs hb, h.dg.below hb, h.ft⟩
theorem RIn.light {w : World} {B most : Nat} {r : Rcd} {a : RSh} (h : RIn w B r a) (hl : lightX most (r, a) = true) (hm : most ≤ 1000) : RReads w B r a := by
  simp only [lightX, Bool.and_eq_true, decide_eq_true_eq] at hl
  exact ⟨h.cs, h.dg, by omega, by omega, h.ft⟩
theorem reads2 {w : World} {B g : Nat} {x y : Rcd × RSh} {t : TypeId} {fr : Nat × Nat} (h : w.heap[g]? = some (.cells (rcC x ++ rcC y).toArray t fr)) (hg : g < B) : Reads w B 7 (some ⟨g, 0, none⟩) 2 ([x, y].flatMap rcC) := by
  refine ⟨rfl, fun _ => ⟨_, rfl, hg, fun j u hu => ?_⟩⟩
  rw [flat2] at hu
  exact rcells_at (o := 0) h (fun j v hv => by simpa using hv) j u hu
/-! ### What the answers are of records that may be -/
theorem okR_path {r : Rcd} (h : okR r = 0) : checkL r.path = 0 := by
  unfold okR at h
  split at h
  · rename_i h1; exact absurd h h1
  · rename_i h1; omega
theorem okR_ne {r : Rcd} (h : okR r = 0) : r.path ≠ [] := by
  intro e
  have := okR_path h
  rw [e] at this
  revert this
  decide
theorem okR_v {r : Rcd} (h : okR r = 0) : okV 0 r.v = true := by
  unfold okR at h
  split at h
  · rename_i h1; exact absurd h h1
  · split at h
    · cases h
    · rename_i h2; simpa using h2
theorem two_ok {r q : Rcd} (h : okR r = 0) (h' : okR q = 0) (hp : r.path = q.path) : twoE r q = 0 := by
  unfold twoE
  rw [if_neg (by omega), if_neg (by omega), if_pos hp]
theorem win_ok {r q : Rcd} (h : okR r = 0) (h' : okR q = 0) (hp : r.path = q.path) : winR r q = if 0 < ordV q.v r.v then (1, 0) else (0, 0) := by
  unfold winR
  rw [if_neg (by rw [two_ok h h' hp]; omega)]
theorem cmp_four (l m : List (Int × Nat)) (hl : okV 0 l = true) (hm : okV 0 m = true) : cmpV l m = 1 ∨ cmpV l m = 2 ∨ cmpV l m = 3 ∨ cmpV l m = 4 := by
  rw [cmpV, hl, hm, if_pos (by rfl)]
  unfold cmpF
  cases ltN (val l) (val m) 16 <;> cases ltN (val m) (val l) 16 <;> simp
theorem do_ok {r q : Rcd} (h : okR r = 0) (h' : okR q = 0) (hp : r.path = q.path) : ∃ d n : Nat, doR r q = (d, 0) ∧ winR r q = (n, 0) ∧
    (cmpV r.v q.v = 1 ∧ d = 1 ∨ cmpV r.v q.v = 3 ∧ d = 1 ∨ cmpV r.v q.v = 2 ∧ d = 2 ∨ cmpV r.v q.v = 4 ∧ n = 0 ∧ d = 1 ∨
      cmpV r.v q.v = 4 ∧ n = 1 ∧ d = if r.gone = false ∧ (q.gone = true ∨ sameP r.size r.len q.size q.len r.ds q.ds = false) then 3 else 2) := by
  have hne := okR_ne h
  have hd : doR r q = if cmpV r.v q.v = 1 ∨ cmpV r.v q.v = 3 then (1, 0)
      else if cmpV r.v q.v = 2 then (2, 0)
      else if 0 < ordV r.v q.v then (1, 0)
      else if r.gone = false ∧ (q.gone = true ∨ sameP r.size r.len q.size q.len r.ds q.ds = false) then (3, 0)
      else (2, 0) := by
    unfold doR
    rw [if_neg (fun x => x.2 h), if_neg (fun x => x h'), if_neg hne, if_neg (fun x => x hp)]
  rw [hd, win_ok h h' hp]
  rcases cmp_four r.v q.v (okR_v h) (okR_v h') with e | e | e | e
  · refine ⟨1, if 0 < ordV q.v r.v then 1 else 0, by rw [if_pos (.inl e)], by split <;> rfl, .inl ⟨e, rfl⟩⟩
  · refine ⟨2, if 0 < ordV q.v r.v then 1 else 0, by rw [if_neg (by omega), if_pos e], by split <;> rfl, .inr (.inr (.inl ⟨e, rfl⟩))⟩
  · refine ⟨1, if 0 < ordV q.v r.v then 1 else 0, by rw [if_pos (.inr e)], by split <;> rfl, .inr (.inl ⟨e, rfl⟩)⟩
  · rw [if_neg (by omega), if_neg (by omega)]
    have hz : ordV r.v q.v ≠ 0 := fun x => by
      have := (ord_zero (okR_v h) (okR_v h')).1 x
      omega
    have ht := ordV_turn r.v q.v
    by_cases h0 : 0 < ordV r.v q.v
    · rw [if_pos h0, if_neg (by omega)]
      exact ⟨1, 0, rfl, rfl, .inr (.inr (.inr (.inl ⟨e, rfl, rfl⟩)))⟩
    · rw [if_neg h0, if_pos (show 0 < ordV q.v r.v by omega)]
      exact ⟨_, 1, by split <;> rfl, rfl, .inr (.inr (.inr (.inr ⟨e, rfl, rfl⟩)))⟩
end Go.Proofs.YtndekohimfjdeaaGreatDoor
