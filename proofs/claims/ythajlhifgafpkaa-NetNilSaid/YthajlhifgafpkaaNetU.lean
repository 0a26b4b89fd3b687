/-
  Nets: the law's call of a nil net.
-/
import Derived.Test.YthajlhifgafpkaaNetT
import Derived.Test.YthajlhifgafpkaaNetR0
namespace Go.Proofs.Ythajlhifgafpkaa
open Go.RowKit Go.Shelf
theorem ret_int' {a b : Int} (h : a = b) : (Ending.returned (.int .i64 a) : Ending) = .returned (.int .i64 b) := by rw [h]
set_option maxHeartbeats 1000000 in
theorem pick_v (z m : Int) (w : World) (hm : 0 < m) (hm2 : m ≤ 1000000) :
    Calls Try.prog 20 #[.int .i64 z, .int .i64 m] w fun e w' => ∃ k : Nat, e = .returned (.int .i64 (k : Int)) ∧ (k : Int) < m ∧ w = w' := by
  have hlo : -m < z.tmod m := by
    rcases Int.le_total 0 z with h | h
    · have := Int.tmod_nonneg m h; omega
    · have h1 : z.tmod m = -((-z).tmod m) := by rw [Int.neg_tmod]; omega
      have h2 := Int.tmod_lt_of_pos (-z) hm
      omega
  have hhi := Int.tmod_lt_of_pos z hm
  by_cases h0 : z.tmod m < 0
  · have e1 : IntKind.i64.wrap (z.tmod m) = z.tmod m := IntWalk.i64_in _ (by omega)
    obtain ⟨r, hr⟩ : ∃ r, z.tmod m = r := ⟨_, rfl⟩
    rw [hr] at e1 h0 hlo hhi
    obtain ⟨k, hk⟩ := Int.eq_ofNat_of_zero_le (show 0 ≤ r + m by omega)
    have HK := Lib.hid hk
    clear hk
    go_enter Try.func20, Try.ntmps20
    go_wp2
    go_ret
    have hk := HK.out
    exact ⟨k, ret_int' hk, by omega, rfl⟩
  · have hzz : z.tmod m = z.tmod m := rfl
    obtain ⟨k, hk⟩ := Int.eq_ofNat_of_zero_le (show 0 ≤ z.tmod m by omega)
    have e1 : IntKind.i64.wrap (z.tmod m) = z.tmod m := IntWalk.i64_in _ (by omega)
    have e2 : 0 ≤ z → z % m = z.tmod m := fun h => (Int.tmod_eq_emod_of_nonneg h).symm
    rcases Int.le_total 0 z with h | h
    · have e3 := e2 h
      rw [hk] at e1 e3 hhi
      clear hzz hlo e2 h0
      have hk0 : ¬ (k : Int) < 0 := by omega
      go_enter Try.func20, Try.ntmps20
      go_wp2
      go_ret
      exact ⟨k, rfl, by omega, rfl⟩
    · rw [hk] at e1 hhi
      clear hzz hlo e2 h0
      have hk0 : ¬ (k : Int) < 0 := by omega
      go_enter Try.func20, Try.ntmps20
      go_wp2
      go_ret
      exact ⟨k, rfl, by omega, rfl⟩
set_option maxRecDepth 100000 in
set_option maxHeartbeats 8000000 in
theorem callnil_v (k a b n : Int) (ba : Option Addr) (bl bc B : Nat) (bs : List UInt8) (w : World) (hr : BReads w B ba bl bs) (hB : B ≤ w.heap.size) (hbl : bl ≤ 140737488355328) :
    Calls Try.prog 18 #[.pointer none, .agg #[.int .i64 k, .int .i64 a, .int .i64 b, .int .u64 n, .slice ba bl bc]] w fun e w' => e = .returned (.agg #[.int .u64 0, .int .u64 0, .int .i64 0, .int .i64 0, .int .u64 0, .slice none 0 0, .int .i64 1]) ∧ Below w.heap.size w w' := by
  have HI := Lib.hid (show (Try.prog.info? 47).map (·.size) = some 7 by kernel_rfl)
  have PV := Lib.hid (fun W : World => pick_v k 6 W (by omega) (by omega))
  have R0 := heap_alloc2_new w (.cells #[.int .i64 k, .int .i64 a, .int .i64 b, .int .u64 n, .slice ba bl bc] 43) (.cells #[.int .u64 0, .int .u64 0, .int .i64 0, .int .i64 0, .int .u64 0, .slice none 0 0, .int .i64 0] 47)
  have A0 := heap_alloc2_old w (.cells #[.int .i64 k, .int .i64 a, .int .i64 b, .int .u64 n, .slice ba bl bc] 43) (.cells #[.int .u64 0, .int .u64 0, .int .i64 0, .int .i64 0, .int .u64 0, .slice none 0 0, .int .i64 0] 47)
  have B0 := ((Below.refl w.heap.size w).alloc (Nat.le_refl _) (.cells #[.int .i64 k, .int .i64 a, .int .i64 b, .int .u64 n, .slice ba bl bc] 43)).alloc (by simp) (.cells #[.int .u64 0, .int .u64 0, .int .i64 0, .int .i64 0, .int .u64 0, .slice none 0 0, .int .i64 0] 47)
  have hz : ((w.alloc (.cells #[.int .i64 k, .int .i64 a, .int .i64 b, .int .u64 n, .slice ba bl bc] 43)).alloc (.cells #[.int .u64 0, .int .u64 0, .int .i64 0, .int .i64 0, .int .u64 0, .slice none 0 0, .int .i64 0] 47)).heap.size = w.heap.size + 2 := by simp
  have R2 := Lib.hid R0
  have A2 := Lib.hid A0
  have B2 := Lib.hid B0
  have RD := Lib.hid (Reads.below hr (B0.mono hB))
  clear R0 A0 B0 hr
  go_enter Try.func18, Try.ntmps18
  have c0 : ((w.alloc (.cells #[.int .i64 k, .int .i64 a, .int .i64 b, .int .u64 n, .slice ba bl bc] 43)).alloc (.cells #[.int .u64 0, .int .u64 0, .int .i64 0, .int .i64 0, .int .u64 0, .slice none 0 0, .int .i64 0] 47)).cell? ⟨w.heap.size, 0, none⟩ = some (.int .i64 k) := by rw [cell_of_row _ _ 0 _ _ _ A2.out]; rfl
  go_wp2_with fail
  generalize (w.alloc (.cells #[.int .i64 k, .int .i64 a, .int .i64 b, .int .u64 n, .slice ba bl bc] 43)).alloc (.cells #[.int .u64 0, .int .u64 0, .int .i64 0, .int .i64 0, .int .u64 0, .slice none 0 0, .int .i64 0] 47) = w2 at *
  have c1 : w2.cell? ⟨w.heap.size, 1, none⟩ = some (.int .i64 a) := by rw [cell_of_row _ _ 1 _ _ _ A2.out]; rfl
  have c2 : w2.cell? ⟨w.heap.size, 2, none⟩ = some (.int .i64 b) := by rw [cell_of_row _ _ 2 _ _ _ A2.out]; rfl
  have c3 : w2.cell? ⟨w.heap.size, 3, none⟩ = some (.int .u64 n) := by rw [cell_of_row _ _ 3 _ _ _ A2.out]; rfl
  have c4 : w2.cell? ⟨w.heap.size, 4, none⟩ = some (.slice ba bl bc) := by rw [cell_of_row _ _ 4 _ _ _ A2.out]; rfl
  refine (PV.out w2).mono ?_
  rintro e _ ⟨q, rfl, hq, rfl⟩
  obtain ⟨z, hzq⟩ : ∃ z : Int, (q : Int) = z := ⟨_, rfl⟩
  have hq6 : z = 0 ∨ z = 1 ∨ z = 2 ∨ z = 3 ∨ z = 4 ∨ z = 5 := by omega
  rw [hzq]
  clear hq hzq PV
  rcases hq6 with rfl | rfl | rfl | rfl | rfl | rfl
  · skip
    go_wp2_with fail
    refine (upnil_v a b w2).mono ?_
    rintro e _ ⟨rfl, rfl⟩
    have R3 := Lib.hid R2.out
    have B3 := Lib.hid B2.out
    go_wp2_with (first
      | (refine wpList_store_row rfl 47 (.tmp 4) (.tmp 22) rfl (w.heap.size + 1) #[.int .u64 0, .int .u64 0, .int .i64 0, .int .i64 0, .int .u64 0, .slice none 0 0, .int .i64 1] rfl rfl 47 _ R3.out HI.out rfl (by simp [Value.oneCell']) ?_)
      | fail)
    have RW := Lib.hid (setRow_heap w2 (w.heap.size + 1) _ #[.int .u64 0, .int .u64 0, .int .i64 0, .int .i64 0, .int .u64 0, .slice none 0 0, .int .i64 1] _ _ R3.out)
    have HB := Lib.hid (below_setRow B3.out (Nat.le_succ w.heap.size) #[.int .u64 0, .int .u64 0, .int .i64 0, .int .i64 0, .int .u64 0, .slice none 0 0, .int .i64 1])
    exact bodyPost_ret (results_cell_row Try.results18 _ _ (w.heap.size + 1) _ #[.int .u64 0, .int .u64 0, .int .i64 0, .int .i64 0, .int .u64 0, .slice none 0 0, .int .i64 1] _ _ rfl RW.out Try.underlying47 rfl HI.out) rfl ⟨rfl, HB.out⟩
  · skip
    go_wp2_with fail
    refine (downnil_v a b w2).mono ?_
    rintro e w3 ⟨rfl, hb3⟩
    have R3 := Lib.hid ((hb3.block (w.heap.size + 1) (by omega)).trans R2.out)
    have B3 := Lib.hid (B2.out.trans (hb3.mono (by omega)))
    clear hb3
    go_wp2_with (first
      | (refine wpList_store_row rfl 47 (.tmp 4) (.tmp 31) rfl (w.heap.size + 1) #[.int .u64 0, .int .u64 0, .int .i64 0, .int .i64 0, .int .u64 0, .slice none 0 0, .int .i64 1] rfl rfl 47 _ R3.out HI.out rfl (by simp [Value.oneCell']) ?_)
      | fail)
    have RW := Lib.hid (setRow_heap w3 (w.heap.size + 1) _ #[.int .u64 0, .int .u64 0, .int .i64 0, .int .i64 0, .int .u64 0, .slice none 0 0, .int .i64 1] _ _ R3.out)
    have HB := Lib.hid (below_setRow B3.out (Nat.le_succ w.heap.size) #[.int .u64 0, .int .u64 0, .int .i64 0, .int .i64 0, .int .u64 0, .slice none 0 0, .int .i64 1])
    exact bodyPost_ret (results_cell_row Try.results18 _ _ (w.heap.size + 1) _ #[.int .u64 0, .int .u64 0, .int .i64 0, .int .i64 0, .int .u64 0, .slice none 0 0, .int .i64 1] _ _ rfl RW.out Try.underlying47 rfl HI.out) rfl ⟨rfl, HB.out⟩
  · have HI5 := Lib.hid (show (Try.prog.info? 34).map (·.size) = some 5 by kernel_rfl)
    go_wp2_with fail
    refine (takenil_v n w2).mono ?_
    rintro e w3 ⟨rfl, hb3⟩
    have R3 := Lib.hid ((hb3.block (w.heap.size + 1) (by omega)).trans R2.out)
    have B3 := Lib.hid (B2.out.trans (hb3.mono (by omega)))
    have hz3 := hb3.size
    clear hb3
    have P4 := Lib.hid (heap_alloc_new w3 (.cells #[.int .u64 0, .int .i64 0, .int .i64 0, .int .u64 0, .slice none 0 0] 34))
    have R4 := Lib.hid (((Below.refl w3.heap.size w3).alloc (Nat.le_refl _) (.cells #[.int .u64 0, .int .i64 0, .int .i64 0, .int .u64 0, .slice none 0 0] 34)).block (w.heap.size + 1) (by omega) |>.trans R3.out)
    have B4 := Lib.hid (B3.out.alloc (by omega) (.cells #[.int .u64 0, .int .i64 0, .int .i64 0, .int .u64 0, .slice none 0 0] 34))
    go_wp2_with (first
      | (refine wpList_load_row rfl 34 (.tmp 5) rfl w3.heap.size rfl 34 #[.int .u64 0, .int .i64 0, .int .i64 0, .int .u64 0, .slice none 0 0] (0, 0) _ P4.out Try.underlying34 rfl HI5.out ?_)
      | (refine wpList_store_row rfl 47 (.tmp 4) (.tmp 43) rfl (w.heap.size + 1) #[.int .u64 0, .int .u64 0, .int .i64 0, .int .i64 0, .int .u64 0, .slice none 0 0, .int .i64 1] rfl rfl 47 _ R4.out HI.out rfl (by simp [Value.oneCell']) ?_)
      | fail)
    have RW := Lib.hid (setRow_heap _ (w.heap.size + 1) _ #[.int .u64 0, .int .u64 0, .int .i64 0, .int .i64 0, .int .u64 0, .slice none 0 0, .int .i64 1] _ _ R4.out)
    have HB := Lib.hid (below_setRow B4.out (Nat.le_succ w.heap.size) #[.int .u64 0, .int .u64 0, .int .i64 0, .int .i64 0, .int .u64 0, .slice none 0 0, .int .i64 1])
    exact bodyPost_ret (results_cell_row Try.results18 _ _ (w.heap.size + 1) _ #[.int .u64 0, .int .u64 0, .int .i64 0, .int .i64 0, .int .u64 0, .slice none 0 0, .int .i64 1] _ _ rfl RW.out Try.underlying47 rfl HI.out) rfl ⟨rfl, HB.out⟩
  · skip
    go_wp2_with fail
    refine (dropnil_v n w2).mono ?_
    rintro e w3 ⟨rfl, hb3⟩
    have R3 := Lib.hid ((hb3.block (w.heap.size + 1) (by omega)).trans R2.out)
    have B3 := Lib.hid (B2.out.trans (hb3.mono (by omega)))
    clear hb3
    go_wp2_with (first
      | (refine wpList_store_row rfl 47 (.tmp 4) (.tmp 50) rfl (w.heap.size + 1) #[.int .u64 0, .int .u64 0, .int .i64 0, .int .i64 0, .int .u64 0, .slice none 0 0, .int .i64 1] rfl rfl 47 _ R3.out HI.out rfl (by simp [Value.oneCell']) ?_)
      | fail)
    have RW := Lib.hid (setRow_heap w3 (w.heap.size + 1) _ #[.int .u64 0, .int .u64 0, .int .i64 0, .int .i64 0, .int .u64 0, .slice none 0 0, .int .i64 1] _ _ R3.out)
    have HB := Lib.hid (below_setRow B3.out (Nat.le_succ w.heap.size) #[.int .u64 0, .int .u64 0, .int .i64 0, .int .i64 0, .int .u64 0, .slice none 0 0, .int .i64 1])
    exact bodyPost_ret (results_cell_row Try.results18 _ _ (w.heap.size + 1) _ #[.int .u64 0, .int .u64 0, .int .i64 0, .int .i64 0, .int .u64 0, .slice none 0 0, .int .i64 1] _ _ rfl RW.out Try.underlying47 rfl HI.out) rfl ⟨rfl, HB.out⟩
  · skip
    go_wp2_with fail
    refine (twicenil_v n w2).mono ?_
    rintro e _ ⟨rfl, rfl⟩
    have R3 := Lib.hid R2.out
    have B3 := Lib.hid B2.out
    go_wp2_with (first
      | (refine wpList_store_row rfl 47 (.tmp 4) (.tmp 62) rfl (w.heap.size + 1) #[.int .u64 0, .int .u64 0, .int .i64 0, .int .i64 0, .int .u64 0, .slice none 0 0, .int .i64 1] rfl rfl 47 _ R3.out HI.out rfl (by simp [Value.oneCell']) ?_)
      | fail)
    have RW := Lib.hid (setRow_heap w2 (w.heap.size + 1) _ #[.int .u64 0, .int .u64 0, .int .i64 0, .int .i64 0, .int .u64 0, .slice none 0 0, .int .i64 1] _ _ R3.out)
    have HB := Lib.hid (below_setRow B3.out (Nat.le_succ w.heap.size) #[.int .u64 0, .int .u64 0, .int .i64 0, .int .i64 0, .int .u64 0, .slice none 0 0, .int .i64 1])
    exact bodyPost_ret (results_cell_row Try.results18 _ _ (w.heap.size + 1) _ #[.int .u64 0, .int .u64 0, .int .i64 0, .int .i64 0, .int .u64 0, .slice none 0 0, .int .i64 1] _ _ rfl RW.out Try.underlying47 rfl HI.out) rfl ⟨rfl, HB.out⟩
  · go_wp2_with fail
    refine wp_region_tree (SK.one 0 false <| .one 1 false <| .one 2 false <| .one 3 false <| .one 4 false <| .one 5 false <| .one 6 false <| .one 7 true <| .one 8 true <| .one 9 false <| .one 10 false <| .one 11 false <| .one 12 false <| .one 13 false .done) (fun V => V.cell? ⟨w.heap.size, 1, none⟩ = some (.int .i64 a) ∧ V.cell? ⟨w.heap.size, 2, none⟩ = some (.int .i64 b) ∧ V.cell? ⟨w.heap.size, 4, none⟩ = some (.slice ba bl bc)) (by kernel_rfl) (by kernel_rfl) (by kernel_rfl) (by kernel_rfl) ?_
    have hS : w2.drew.cell? ⟨w.heap.size, 1, none⟩ = some (.int .i64 a) ∧ w2.drew.cell? ⟨w.heap.size, 2, none⟩ = some (.int .i64 b) ∧ w2.drew.cell? ⟨w.heap.size, 4, none⟩ = some (.slice ba bl bc) := ⟨c1, c2, c4⟩
    have R3 := Lib.hid (show w2.drew.heap[w.heap.size + 1]? = _ from R2.out)
    have A3 := Lib.hid (show w2.drew.heap[w.heap.size]? = _ from A2.out)
    have B3 := Lib.hid B2.out.drew
    have RD3 := Lib.hid (Reads.below RD.out (show Below B w2 w2.drew from (Below.refl B w2).drew))
    have hz3 : w2.drew.heap.size = w.heap.size + 2 := hz
    clear R2 A2 B2 RD c0 c1 c2 c3 c4
    generalize w2.drew = w3 at *
    ((first | (refine TR.val2 (v := ?_) _ (by simp only [List.getElem?_toArray, List.getElem?_cons_zero]; rfl) ?_ ?_ ?_ ?_ ?_; rotate_left; (focus rfl); (focus (intro W hSW; (try dsimp only at hSW); (try (obtain ⟨hS1, hSW⟩ := hSW)); (try (obtain ⟨hS2, hSW⟩ := hSW)); (try (obtain ⟨hS3, hSW⟩ := hSW)); (try (obtain ⟨hS4, hSW⟩ := hSW)); (try (obtain ⟨hS5, hSW⟩ := hSW)); go_simp; (try with_reducible rfl); done)); (focus exact fun _ _ _ h => h); (focus assumption)) | (refine TR.skip _ (by simp only [List.getElem?_toArray, List.getElem?_cons_zero]; rfl) ?_ ?_ ?_ ?_; (focus rfl); (focus exact fun _ _ _ h => h); (focus assumption))); simp only [Act.put, List.setIfInBounds_toArray, List.set_cons_zero, List.set_cons_succ])
    iterate 6 ((first | (refine TR.val2 (v := ?_) _ (by simp only [List.getElem?_toArray, List.getElem?_cons_succ, List.getElem?_cons_zero]; rfl) ?_ ?_ ?_ ?_ ?_; rotate_left; (focus rfl); (focus (intro W hSW; (try dsimp only at hSW); (try (obtain ⟨hS1, hSW⟩ := hSW)); (try (obtain ⟨hS2, hSW⟩ := hSW)); (try (obtain ⟨hS3, hSW⟩ := hSW)); (try (obtain ⟨hS4, hSW⟩ := hSW)); (try (obtain ⟨hS5, hSW⟩ := hSW)); go_simp; (try with_reducible rfl); done)); (focus exact fun _ _ _ h => h); (focus assumption)) | (refine TR.skip _ (by simp only [List.getElem?_toArray, List.getElem?_cons_succ, List.getElem?_cons_zero]; rfl) ?_ ?_ ?_ ?_; (focus rfl); (focus exact fun _ _ _ h => h); (focus assumption))); simp only [Act.put, List.setIfInBounds_toArray, List.set_cons_zero, List.set_cons_succ])
    refine TR.eff _ (by simp only [List.getElem?_toArray, List.getElem?_cons_succ, List.getElem?_cons_zero]; rfl) (by rfl) (fun K hK => ?_); go_simp
    refine (own_any B ba bl bc bs w3 RD3.out (by omega) hbl).mono ?_
    rintro e w4 ⟨A4, c4', rfl, _, hb4⟩
    have R4 := Lib.hid ((hb4.block (w.heap.size + 1) (by omega)).trans R3.out)
    have e4 := hb4.block w.heap.size (by omega)
    have B4 := Lib.hid (B3.out.trans (hb4.mono (by omega)))
    have hS4 : w4.cell? ⟨w.heap.size, 1, none⟩ = some (.int .i64 a) ∧ w4.cell? ⟨w.heap.size, 2, none⟩ = some (.int .i64 b) ∧ w4.cell? ⟨w.heap.size, 4, none⟩ = some (.slice ba bl bc) := ⟨(World.cell?_of_block e4).trans hS.1, (World.cell?_of_block e4).trans hS.2.1, (World.cell?_of_block e4).trans hS.2.2⟩
    refine hK.out _ _ hS4 ?_
    clear hK hS R3 A3 B3 RD3 hb4 e4
    have hS := hS4
    clear hS4
    (try simp only [Act.put, List.setIfInBounds_toArray, List.set_cons_zero, List.set_cons_succ])
    refine TR.eff _ (by simp only [List.getElem?_toArray, List.getElem?_cons_succ, List.getElem?_cons_zero]; rfl) (by rfl) (fun K hK => ?_); go_simp
    refine (sendnil_v a b _ w4).mono ?_
    rintro e _ ⟨rfl, rfl⟩
    refine hK.out _ _ hS ?_
    clear hK
    (try simp only [Act.put, List.setIfInBounds_toArray, List.set_cons_zero, List.set_cons_succ])
    iterate 5 ((first | (refine TR.val2 (v := ?_) _ (by simp only [List.getElem?_toArray, List.getElem?_cons_succ, List.getElem?_cons_zero]; rfl) ?_ ?_ ?_ ?_ ?_; rotate_left; (focus rfl); (focus (intro W hSW; (try dsimp only at hSW); (try (obtain ⟨hS1, hSW⟩ := hSW)); (try (obtain ⟨hS2, hSW⟩ := hSW)); (try (obtain ⟨hS3, hSW⟩ := hSW)); (try (obtain ⟨hS4, hSW⟩ := hSW)); (try (obtain ⟨hS5, hSW⟩ := hSW)); go_simp; (try with_reducible rfl); done)); (focus exact fun _ _ _ h => h); (focus assumption)) | (refine TR.skip _ (by simp only [List.getElem?_toArray, List.getElem?_cons_succ, List.getElem?_cons_zero]; rfl) ?_ ?_ ?_ ?_; (focus rfl); (focus exact fun _ _ _ h => h); (focus assumption))); simp only [Act.put, List.setIfInBounds_toArray, List.set_cons_zero, List.set_cons_succ])
    refine TR.done ?_
    go_wp2_with (first
      | (refine wpList_store_row rfl 47 (.tmp 4) (.tmp 77) rfl (w.heap.size + 1) #[.int .u64 0, .int .u64 0, .int .i64 0, .int .i64 0, .int .u64 0, .slice none 0 0, .int .i64 1] rfl rfl 47 _ R4.out HI.out rfl (by simp [Value.oneCell']) ?_)
      | fail)
    have RW := Lib.hid (setRow_heap w4 (w.heap.size + 1) _ #[.int .u64 0, .int .u64 0, .int .i64 0, .int .i64 0, .int .u64 0, .slice none 0 0, .int .i64 1] _ _ R4.out)
    have HB := Lib.hid (below_setRow B4.out (Nat.le_succ w.heap.size) #[.int .u64 0, .int .u64 0, .int .i64 0, .int .i64 0, .int .u64 0, .slice none 0 0, .int .i64 1])
    exact bodyPost_ret (results_cell_row Try.results18 _ _ (w.heap.size + 1) _ #[.int .u64 0, .int .u64 0, .int .i64 0, .int .i64 0, .int .u64 0, .slice none 0 0, .int .i64 1] _ _ rfl RW.out Try.underlying47 rfl HI.out) rfl ⟨rfl, HB.out⟩
end Go.Proofs.Ythajlhifgafpkaa
