/-
  Blocks: Cut.
-/
import Derived.Test.YtmaehbebpldpcaaBlkE
import Derived.RangeFuncBox
namespace Go.Proofs.Ytmaehbebpldpcaa
open Go.RowKit Go.Shelf
attribute [local go_sem] Oper.semAt_some
set_option maxRecDepth 100000 in
set_option maxHeartbeats 8000000 in
theorem cut_v (A : Option Addr) (n c : Nat) (L : List UInt8) (z : Int) (w : World) (hr : BReads w w.heap.size A n L) (hn : n ≤ 1000000) (hnc : n ≤ c) :
    Calls Try.prog 10 #[.slice A n c, .int .i64 z] w fun e w' => ∃ A' c', e = .returned (.tuple #[.agg #[.int .i64 (cutP L z).2.1, .int .i64 (cutP L z).2.2.1, .slice A' (cutP L z).2.2.2.length c'], .int .i64 ((cutP L z).1 : Int)]) ∧
      w'.ownsRow w.heap.size 59 32 (.slice A' (cutP L z).2.2.2.length c') (cutP L z).2.2.2.length ((cutP L z).2.2.2.flatMap Dg.cells) ∧ Below w.heap.size w w' := by
  have HR := Lib.hid hr
  have hll := hr.len
  have HI := Lib.hid (show (Try.prog.info? 24).map (·.size) = some 3 by kernel_rfl)
  have BA := Lib.hid ((Below.refl w.heap.size w).alloc (Nat.le_refl _) (.cells #[.int .i64 0, .int .i64 0, .slice none 0 0] 24))
  have X0 := Lib.hid (heap_alloc_new w (.cells #[.int .i64 0, .int .i64 0, .slice none 0 0] 24))
  have hz1 : (w.alloc (.cells #[.int .i64 0, .int .i64 0, .slice none 0 0] 24)).heap.size = w.heap.size + 1 := by simp
  clear hr
  by_cases h1 : z < 1
  · have d1 : decide (z < 1) = true := by simpa using h1
    have HC := Lib.hid (show cutP L z = (2, 0, 0, []) by unfold cutP; rw [if_pos h1])
    go_enter Try.func10, Try.ntmps10
    go_upto_region 1 with fail
    generalize w.alloc (.cells #[.int .i64 0, .int .i64 0, .slice none 0 0] 24) = w1 at *
    have XS := Lib.hid (setRow_heap w1 w.heap.size _ #[.int .i64 0, .int .i64 0, .slice none 0 0] _ _ X0.out)
    have BS := Lib.hid (below_setRow BA.out (Nat.le_refl _) #[.int .i64 0, .int .i64 0, .slice none 0 0])
    go_wp2_with (first
      | (refine wpList_store_row rfl 24 (.tmp 4) (.tmp 14) rfl w.heap.size #[.int .i64 0, .int .i64 0, .slice none 0 0] rfl rfl 24 _ X0.out HI.out rfl (by simp [Value.oneCell']) ?_)
      | fail)
    exact bodyPost_ret (results_row_tmp Try.results10 _ _ w.heap.size _ #[.int .i64 0, .int .i64 0, .slice none 0 0] _ _ rfl XS.out Try.underlying24 rfl HI.out) rfl
      ⟨none, 0, by rw [HC.out]; rfl, by rw [HC.out]; exact World.ownsRow_nil _ _ _ 32, BS.out⟩
  have d1 : decide (z < 1) = false := by simpa using h1
  by_cases h2 : 65536 < z
  · have d2 : decide (65536 < z) = true := by simpa using h2
    have HC := Lib.hid (show cutP L z = (2, 0, 0, []) by unfold cutP; rw [if_neg h1, if_pos h2])
    go_enter Try.func10, Try.ntmps10
    go_upto_region 1 with fail
    generalize w.alloc (.cells #[.int .i64 0, .int .i64 0, .slice none 0 0] 24) = w1 at *
    have XS := Lib.hid (setRow_heap w1 w.heap.size _ #[.int .i64 0, .int .i64 0, .slice none 0 0] _ _ X0.out)
    have BS := Lib.hid (below_setRow BA.out (Nat.le_refl _) #[.int .i64 0, .int .i64 0, .slice none 0 0])
    go_wp2_with (first
      | (refine wpList_store_row rfl 24 (.tmp 4) (.tmp 14) rfl w.heap.size #[.int .i64 0, .int .i64 0, .slice none 0 0] rfl rfl 24 _ X0.out HI.out rfl (by simp [Value.oneCell']) ?_)
      | fail)
    exact bodyPost_ret (results_row_tmp Try.results10 _ _ w.heap.size _ #[.int .i64 0, .int .i64 0, .slice none 0 0] _ _ rfl XS.out Try.underlying24 rfl HI.out) rfl
      ⟨none, 0, by rw [HC.out]; rfl, by rw [HC.out]; exact World.ownsRow_nil _ _ _ 32, BS.out⟩
  have d2 : decide (65536 < z) = false := by simpa using h2
  have h3 : ¬ 4194304 < n := by omega
  have d3 : decide (4194304 < n) = false := by simpa using h3
  obtain ⟨Z, rfl⟩ : ∃ Z : Nat, z = (Z : Int) := ⟨z.toNat, by omega⟩
  have hZ : 0 < Z := by omega
  have hZ2 : Z ≤ 65536 := by omega
  have CV := Lib.hid (count_v (n : Int) (Z : Int) (w.alloc (.cells #[.int .i64 0, .int .i64 0, .slice none 0 0] 24)) (by omega) (by omega) (by omega) (by omega))
  have HN := Lib.hid (chunkN_int n Z hZ)
  rw [HN.out] at CV
  by_cases h4 : 1024 < chunkN n Z
  · have d4 : decide (1024 < chunkN n Z) = true := by simpa using h4
    have HC := Lib.hid (show cutP L (Z : Int) = (3, 0, 0, []) by unfold cutP; rw [if_neg h1, if_neg h2, hll, if_neg (by omega), HN.out, if_pos (by omega)])
    go_enter Try.func10, Try.ntmps10
    go_upto_region 1 with fail
    generalize w.alloc (.cells #[.int .i64 0, .int .i64 0, .slice none 0 0] 24) = w1 at *
    have XS := Lib.hid (setRow_heap w1 w.heap.size _ #[.int .i64 0, .int .i64 0, .slice none 0 0] _ _ X0.out)
    have BS := Lib.hid (below_setRow BA.out (Nat.le_refl _) #[.int .i64 0, .int .i64 0, .slice none 0 0])
    go_wp2_with fail
    refine CV.out.mono ?_
    rintro e _ ⟨rfl, rfl⟩
    go_wp2_with (first
      | (refine wpList_store_row rfl 24 (.tmp 4) (.tmp 25) rfl w.heap.size #[.int .i64 0, .int .i64 0, .slice none 0 0] rfl rfl 24 _ X0.out HI.out rfl (by simp [Value.oneCell']) ?_)
      | fail)
    exact bodyPost_ret (results_row_tmp Try.results10 _ _ w.heap.size _ #[.int .i64 0, .int .i64 0, .slice none 0 0] _ _ rfl XS.out Try.underlying24 rfl HI.out) rfl
      ⟨none, 0, by rw [HC.out]; rfl, by rw [HC.out]; exact World.ownsRow_nil _ _ _ 32, BS.out⟩
  have d4 : decide (1024 < chunkN n Z) = false := by simpa using h4
  have HC := Lib.hid (show cutP L (Z : Int) = (0, (Z : Int), (n : Int), cutL L Z) by unfold cutP; rw [if_neg h1, if_neg h2, hll, if_neg (by omega), HN.out, if_neg (by omega)]; rfl)
  clear h1 h2 h3
  refine (callsIn_wide (n := 9)).1 ?_
  refine callsIn_of_wp_marks Try.func10 rfl trivial ?_ rfl
  simp only [Try.ntmps10, List.size_toArray, List.length_cons, List.length_nil, Nat.reduceAdd, Nat.reduceSub, Array.replicate_succ, Array.replicate_zero, List.push_toArray, List.append_toArray, List.nil_append, List.cons_append]
  gi_wp2_with fail
  generalize w.alloc (.cells #[.int .i64 0, .int .i64 0, .slice none 0 0] 24) = w1 at *
  refine ⟨trivial, (callsIn_wide.2 CV.out).mono ?_⟩
  rintro e _ ⟨rfl, rfl⟩
  have X1 := Lib.hid ((Below.heap_alloc w1 (.cells #[.int .i64 (Z : Int), .int .i64 (n : Int), .slice none 0 0] 24) w.heap.size (by omega)).trans X0.out)
  have Y1 := Lib.hid (heap_alloc_new w1 (.cells #[.int .i64 (Z : Int), .int .i64 (n : Int), .slice none 0 0] 24))
  have BB := Lib.hid (BA.out.alloc (by omega) (.cells #[.int .i64 (Z : Int), .int .i64 (n : Int), .slice none 0 0] 24))
  have hz2 : (w1.alloc (.cells #[.int .i64 (Z : Int), .int .i64 (n : Int), .slice none 0 0] 24)).heap.size = w.heap.size + 2 := by simp [hz1]
  gi_wp2_with fail
  generalize w1.alloc (.cells #[.int .i64 (Z : Int), .int .i64 (n : Int), .slice none 0 0] 24) = w2 at *
  refine ⟨trivial, (callsIn_wide.2 (callsIn_wide.1 (chunk_v A n c Z w2 hZ (by omega)))).mono ?_⟩
  rintro e w7 ⟨rfl, rfl⟩
  gi_wp2_with fail
  obtain ⟨ad, had⟩ : ∃ ad : Addr, A.getD ⟨0, 0, none⟩ = ad := ⟨_, rfl⟩
  have HAD := Lib.hid (show 0 < n → A = some ad by
    intro h0
    obtain ⟨a', e, _⟩ := HR.out.2 h0
    rw [← had, e]
    rfl)
  have ca : ((w2.alloc (.cells #[.slice A n c] 25)).alloc (.cells #[.int .i64 (Z : Int)] 3)).cell? ⟨w.heap.size + 2, 0, none⟩ = some (.slice A n c) := by
    have h1 := cell_new w2 #[.slice A n c] 25 0
    rw [hz2] at h1
    exact (World.cell?_alloc_lt _ _ ⟨w.heap.size + 2, 0, none⟩ (show w.heap.size + 2 < _ by simp [hz2])).trans h1
  have cb : ((w2.alloc (.cells #[.slice A n c] 25)).alloc (.cells #[.int .i64 (Z : Int)] 3)).cell? ⟨w.heap.size + 2 + 1, 0, none⟩ = some (.int .i64 (Z : Int)) := by
    have h1 := cell_new (w2.alloc (.cells #[.slice A n c] 25)) #[.int .i64 (Z : Int)] 3 0
    rw [World.size_alloc, hz2] at h1
    exact h1
  have B7 := Lib.hid ((BB.out.alloc (by omega) (.cells #[.slice A n c] 25)).alloc (by simp; omega) (.cells #[.int .i64 (Z : Int)] 3))
  have X7 := Lib.hid (((Below.heap_alloc (w2.alloc (.cells #[.slice A n c] 25)) (.cells #[.int .i64 (Z : Int)] 3) w.heap.size (by simp; omega)).trans (Below.heap_alloc w2 (.cells #[.slice A n c] 25) w.heap.size (by omega))).trans X1.out)
  have Y7 := Lib.hid (((Below.heap_alloc (w2.alloc (.cells #[.slice A n c] 25)) (.cells #[.int .i64 (Z : Int)] 3) (w.heap.size + 1) (by simp; omega)).trans (Below.heap_alloc w2 (.cells #[.slice A n c] 25) (w.heap.size + 1) (by omega))).trans (show w2.heap[w.heap.size + 1]? = some (.cells #[.int .i64 (Z : Int), .int .i64 (n : Int), .slice none 0 0] 24 (0, 0)) by have := Y1.out; first | exact this | rwa [hz1] at this))
  have hz7 : ((w2.alloc (.cells #[.slice A n c] 25)).alloc (.cells #[.int .i64 (Z : Int)] 3)).heap.size = w.heap.size + 4 := by simp [hz2]
  clear X0 BA X1 Y1 BB CV
  generalize (w2.alloc (.cells #[.slice A n c] 25)).alloc (.cells #[.int .i64 (Z : Int)] 3) = w7 at *
  have SEQ := Lib.hid (show SeqStopsK Fence.wide 8 Try.prog 45 #[.pointer (some ⟨w.heap.size + 2, 0, none⟩), .pointer (some ⟨w.heap.size + 2 + 1, 0, none⟩)] (fun x : Ix (chunkN n Z) => #[chunkV ad n Z x.1]) (KpB (w.heap.size + 2) (w.heap.size + 2 + 1)) (fun xs => xs.map (·.1) = List.range (chunkN n Z)) (fun _ => True) (chunkN n Z) w7 by
    rcases Nat.eq_zero_or_pos n with h0 | h0
    · subst h0
      exact chunk_stops0 (w.heap.size + 2) (w.heap.size + 2 + 1) ad A c Z w7 8 (by omega) ca
    · have e := HAD.out h0
      rw [e] at ca
      exact chunk_stops (w.heap.size + 2) (w.heap.size + 2 + 1) ad n c Z w7 8 (by omega) (by omega) ca cb hZ (by omega) hnc (by omega))
  have I0 : CutI w w7.heap.size w.heap.size (w.heap.size + 1) (Z : Int) (n : Int) ((([] : List (Ix (chunkN n Z))).map (·.1)).map fun k => dgOf (chunkB L Z k)) w7 :=
    ⟨X7.out, ⟨none, 0, Y7.out, World.ownsRow_nil _ _ _ 32⟩, B7.out, Nat.le_refl _⟩
  clear ca cb X7 Y7 had
  refine wpIn_rangeFunc_ownF rfl (by omega) (gf := 45) (lb := #[.pointer (some ⟨w.heap.size + 2, 0, none⟩), .pointer (some ⟨w.heap.size + 2 + 1, 0, none⟩)]) rfl trivial (enters_of Try.func45 (by kernel_rfl) rfl)
    SEQ.out (fun h k => ⟨k.1.trans h.1, k.2.trans h.2⟩)
    (fun W l o o' hl _ _ _ => ⟨World.putObj_heap_other (by omega), World.putObj_heap_other (by omega)⟩) (Below.refl _ _) (fun _ => rfl)
    (fun pre W => CutI w w7.heap.size w.heap.size (w.heap.size + 1) (Z : Int) (n : Int) ((pre.map (·.1)).map fun k => dgOf (chunkB L Z k)) W) (fun _ _ _ => False)
    (CutI.own (by omega) (by omega) (by omega) _) (fun _ _ _ _ _ hs _ _ => hs) I0
    (fun x => { tmps := #[.slice A n c, .int .i64 (Z : Int), undef, undef, .pointer (some ⟨w.heap.size, 0, none⟩), .int .i64 0, .pointer (some ⟨w.heap.size + 1, 0, none⟩), chunkV ad n Z x.1, .int .i64 (Z : Int), .bool false, .bool false, .int .i64 (Z : Int), .bool false, .bool false, undef, .slice A n c, .int .i64 (n : Int), .bool (decide ((4194304 : Int) < (n : Int))), .bool (decide ((4194304 : Int) < (n : Int))), .slice A n c, .int .i64 (n : Int), .int .i64 (Z : Int), .int .i64 (chunkN n Z : Int), .bool (decide ((1024 : Int) < (chunkN n Z : Int))), .bool (decide ((4194304 : Int) < (n : Int)) || decide ((1024 : Int) < (chunkN n Z : Int))), undef, .int .i64 (Z : Int), .slice A n c, .int .i64 (n : Int), .agg #[.int .i64 (Z : Int), .int .i64 (n : Int), .slice none 0 0], .slice A n c, .int .i64 (Z : Int), .func (.func 45) #[] #[.pointer (some ⟨w.heap.size + 2, 0, none⟩), .pointer (some ⟨w.heap.size + 2 + 1, 0, none⟩)], chunkV ad n Z x.1, undef, undef, undef, undef, undef, undef, undef, undef], defers := [] }) ?assign ?body ?done ?stop
  case assign =>
    intro l x W K hK
    gi_wp2
    exact hK
  case body =>
    rintro r pre x W hI _
    have CI := Lib.hid hI
    clear hI I0 SEQ
    have hxk := (chunk_lt hZ).1 x.2
    obtain rfl := HAD.out (by omega)
    obtain ⟨d, hd⟩ : ∃ d, dgOf (chunkB L Z x.1) = d := ⟨_, rfl⟩
    have HS := Lib.hid (show ((pre ++ [x]).map (·.1)).map (fun k => dgOf (chunkB L Z k)) = ((pre.map (·.1)).map fun k => dgOf (chunkB L Z k)) ++ [d] by rw [List.map_append, List.map_append, ← hd]; rfl)
    have OV := Lib.hid (fun (V : World) (hV : Below W.heap.size W V) => of_v (some (ad.add (x.1 * Z))) (chunkL n Z x.1) (chunkL n Z x.1) (chunkB L Z x.1) V (chunkB_reads (Reads.below HR.out (CI.out.hb.trans (hV.mono CI.out.hb.size))) (Nat.le_trans CI.out.hb.size hV.size) hxk) (by unfold chunkL; omega))
    have HD := Lib.hid (show ((sha ((chunkB L Z x.1).map UInt8.toNat)).map fun x : Nat => Value.int .u8 (x : Int)) = d.cells by rw [← hd]; rfl)
    rw [HD.out] at OV
    have hpl : ((pre.map (·.1)).map fun k => dgOf (chunkB L Z k)).length ≤ 1024 := by
      have := x.2
      simp
      omega
    clear HD hd
    dsimp only [chunkV]
    generalize ((pre.map (·.1)).map fun k => dgOf (chunkB L Z k)) = ds at *
    obtain ⟨k, hdl⟩ : ∃ k, ds.length = k := ⟨_, rfl⟩
    obtain ⟨A6, c6, h61, h62⟩ := CI.out.h6
    rw [hdl] at h61 h62 hpl
    have H61 := Lib.hid h61
    have H62 := Lib.hid h62
    have c62 : W.cell? ⟨w.heap.size + 1, 2, none⟩ = some (.slice A6 k c6) := by rw [cell_of_row _ _ 2 _ _ _ H61.out]; rfl
    clear h61 h62
    obtain ⟨i0, hi, hy0, hy1, hy2⟩ := info_parts info_dg
    gi_wp2_with fail
    refine wpIn_region_E 5 [(0, 1), (1, 2), (2, 1), (3, 0), (4, 0), (5, 4), (6, 3), (7, 4)] (fun _ => True) (fun V => V.cell? ⟨w.heap.size + 1, 2, none⟩ = some (.slice A6 k c6)) (by kernel_rfl) (by kernel_rfl) (by kernel_rfl) (by kernel_rfl) (by kernel_rfl) (by kernel_rfl) (by rintro ⟨_, _, h⟩; exact h) ?_
    intro dd
    simp only [outE, List.getElem?_cons_zero, List.getElem?_cons_succ, Option.getD_some]
    have hF : True := trivial
    have hG : W.drew.cell? ⟨w.heap.size + 1, 2, none⟩ = some (.slice A6 k c6) := c62
    have BW := Lib.hid ((Below.refl W.heap.size W).drew)
    generalize W.drew = w3 at *
    iterate 1 (refine TE.val1 (v := ?_) ?_ ?_ ?_ ?_ ?_ ?_; rotate_left; (focus rfl); (focus (intro W hSW; (try dsimp only at hSW); (try (obtain ⟨hS1, hSW⟩ := hSW)); (try (obtain ⟨hS2, hSW⟩ := hSW)); (try (obtain ⟨hS3, hSW⟩ := hSW)); (try (obtain ⟨hS4, hSW⟩ := hSW)); (try (obtain ⟨hS5, hSW⟩ := hSW)); go_simp; (try with_reducible rfl); done)); (focus exact fun _ _ _ h => h); (focus exact hF); (focus exact hG); simp only [Act.put, List.setIfInBounds_toArray, List.set_cons_zero, List.set_cons_succ])
    iterate 1 (refine TE.val2 (v := ?_) ?_ ?_ ?_ ?_ ?_ ?_; rotate_left; (focus rfl); (focus (intro W hSW; (try dsimp only at hSW); (try (obtain ⟨hS1, hSW⟩ := hSW)); (try (obtain ⟨hS2, hSW⟩ := hSW)); (try (obtain ⟨hS3, hSW⟩ := hSW)); (try (obtain ⟨hS4, hSW⟩ := hSW)); (try (obtain ⟨hS5, hSW⟩ := hSW)); go_simp; (try with_reducible rfl); done)); (focus exact fun _ _ _ h => h); (focus exact hF); (focus exact hG); simp only [Act.put, List.setIfInBounds_toArray, List.set_cons_zero, List.set_cons_succ])
    iterate 1 (refine TE.val1 (v := ?_) ?_ ?_ ?_ ?_ ?_ ?_; rotate_left; (focus rfl); (focus (intro W hSW; (try dsimp only at hSW); (try (obtain ⟨hS1, hSW⟩ := hSW)); (try (obtain ⟨hS2, hSW⟩ := hSW)); (try (obtain ⟨hS3, hSW⟩ := hSW)); (try (obtain ⟨hS4, hSW⟩ := hSW)); (try (obtain ⟨hS5, hSW⟩ := hSW)); go_simp; (try with_reducible rfl); done)); (focus exact fun _ _ _ h => h); (focus exact hF); (focus exact hG); simp only [Act.put, List.setIfInBounds_toArray, List.set_cons_zero, List.set_cons_succ])
    refine TE.eff0 (by rfl) (fun K hK => ?_); go_simp
    refine (OV.out w3 BW.out).mono ?_
    rintro e w4 ⟨rfl, b4⟩
    have B4 := Lib.hid (BW.out.trans (b4.mono BW.out.size))
    have hG4 : w4.cell? ⟨w.heap.size + 1, 2, none⟩ = some (.slice A6 k c6) := (World.cell?_of_block (b4.block (w.heap.size + 1) (by have := BW.out.size; have := CI.out.hz; omega))).trans hG
    refine hK.out _ _ trivial hG4 ?_
    clear hK hG b4
    (try simp only [Act.put, List.setIfInBounds_toArray, List.set_cons_zero, List.set_cons_succ])
    refine TE.eff0 (by rfl) (fun K hK => ?_)
    refine wp_build_dg (.tmp 37) rfl d rfl ?_
    have B5 := Lib.hid (B4.out.alloc B4.out.size (.cells d.cells.toArray 59))
    have hG5 : (w4.alloc (.cells d.cells.toArray 59)).cell? ⟨w.heap.size + 1, 2, none⟩ = some (.slice A6 k c6) := (World.cell?_alloc_lt w4 _ ⟨w.heap.size + 1, 2, none⟩ (show w.heap.size + 1 < w4.heap.size by have := B4.out.size; have := CI.out.hz; omega)).trans hG4
    refine hK.out _ _ trivial hG5 ?_
    clear hK hG4
    (try simp only [Act.put, List.setIfInBounds_toArray, List.set_cons_zero, List.set_cons_succ])
    have ON := Lib.hid (dg_one w4 d 59)
    have OW := Lib.hid (own_keep' H62.out (w' := w4.alloc (.cells d.cells.toArray 59)) (fun j hj => B5.out.block j (H62.out.lt j hj).2))
    have hz5 : w7.heap.size ≤ (w4.alloc (.cells d.cells.toArray 59)).heap.size := Nat.le_trans CI.out.hz B5.out.size
    generalize hw5 : w4.alloc (.cells d.cells.toArray 59) = w5 at *
    refine TE.eff4 (by rfl) (fun K hK => ?_)
    refine wp_append_own w5 (.tmp 35) (.tmp 38) 22 rfl w7.heap.size 59 i0 _ 32 32 Try.underlying22 hi hy0 hy1 hy2 rfl (by decide) (.slice A6 k c6) k (ds.flatMap Dg.cells) rfl OW.out ⟨w4.heap.size, 0, none⟩ 1 1 d.cells rfl (by rw [Dg.cells_len]) ON.out d.one (by simp only [maxLen]; omega) (by omega) hz5 ?_
    intro v' w6 ho6 hg6 _
    obtain ⟨g7, c7, rfl⟩ := ownsRow_succ ho6
    have GR := Lib.hid (CutI.grow' hdl CI.out (by omega) (by omega) (by omega) H61.out H62.out B5.out d ho6 hg6)
    have e7 : w6.heap[w.heap.size + 1]? = W.heap[w.heap.size + 1]? := (hg6.block (w.heap.size + 1) (by omega) (fun e => by have := (H62.out.lt _ e.symm).1; omega)).trans (B5.out.block (w.heap.size + 1) (by have := CI.out.hz; omega))
    have c7' : w6.cell? ⟨w.heap.size + 1, 2, none⟩ = some (.slice A6 k c6) := (World.cell?_of_block e7).trans c62
    have f7 : w6.frozen? ⟨w.heap.size + 1, 2, none⟩ = false := frozen_of_row w6 (w.heap.size + 1) 2 _ _ (e7.trans H61.out)
    refine hK.out _ _ trivial ?_
    clear hK ho6 hg6
    (try simp only [Act.put, List.setIfInBounds_toArray, List.set_cons_zero, List.set_cons_succ])
    iterate 1 (refine TE.val3 (v := ?_) ?_ ?_ ?_ ?_ ?_; rotate_left; (focus rfl); (focus (intro W hSW; (try dsimp only at hSW); (try (obtain ⟨hS1, hSW⟩ := hSW)); (try (obtain ⟨hS2, hSW⟩ := hSW)); (try (obtain ⟨hS3, hSW⟩ := hSW)); (try (obtain ⟨hS4, hSW⟩ := hSW)); (try (obtain ⟨hS5, hSW⟩ := hSW)); go_simp; (try with_reducible rfl); done)); (focus exact fun _ _ _ h => h); (focus exact hF); simp only [Act.put, List.setIfInBounds_toArray, List.set_cons_zero, List.set_cons_succ])
    refine TE.eff4 (by rfl) (fun K hK => ?_); go_simp
    refine hK.out _ _ trivial ?_
    clear hK
    refine TE.done ?_
    exact ⟨GR.out.2.1, ⟨GR.out.2.2 _ (by omega) (by omega), GR.out.2.2 _ (by omega) (by omega)⟩, by dsimp only; rw [HS.out]; exact GR.out.1⟩
  case done =>
    intro D xs W hD hS hI hK
    have HCL := Lib.hid (show (xs.map (·.1)).map (fun k => dgOf (chunkB L Z k)) = cutL L Z by rw [hS]; unfold cutL; rw [hll])
    rw [HCL.out] at hI
    have CI := Lib.hid hI
    have HKD := Lib.hid hK
    clear hI hS hK
    obtain ⟨A6, c6, h61, h62⟩ := CI.out.h6
    have H61 := Lib.hid h61
    have H4 := Lib.hid CI.out.h4
    have XS := Lib.hid (setRow_heap W w.heap.size _ #[.int .i64 (Z : Int), .int .i64 (n : Int), .slice A6 (cutL L Z).length c6] _ _ H4.out)
    have OS := Lib.hid (own_keep' h62 (w' := W.setRow w.heap.size #[.int .i64 (Z : Int), .int .i64 (n : Int), .slice A6 (cutL L Z).length c6]) (fun j hj => setRow_other _ _ _ _ (by have := (h62.lt j hj).1; omega)))
    have BS := Lib.hid (below_setRow CI.out.hb (Nat.le_refl _) #[.int .i64 (Z : Int), .int .i64 (n : Int), .slice A6 (cutL L Z).length c6])
    clear h61 h62
    gi_wp2_with (first
      | (refine wpListIn_load_row rfl 24 (.tmp 6) rfl (w.heap.size + 1) rfl 24 _ (0, 0) _ H61.out Try.underlying24 rfl HI.out ?_)
      | (refine wpListIn_store_row rfl 24 (.tmp 4) (.tmp 41) rfl w.heap.size #[.int .i64 (Z : Int), .int .i64 (n : Int), .slice A6 (cutL L Z).length c6] rfl rfl 24 _ H4.out HI.out rfl (by simp [Value.oneCell']) ?_)
      | fail)
    have HK2 : (W.setRow w.heap.size #[.int .i64 (Z : Int), .int .i64 (n : Int), .slice A6 (cutL L Z).length c6]).heap[D]? = some (.deferred (some [])) := (setRow_other _ _ _ _ (by omega)).trans HKD.out
    refine ⟨by simp, .inl ⟨_, _, rfl, run_takeDeferred HK2, ?_⟩⟩
    refine ⟨_, results_row_tmp Try.results10 _ _ w.heap.size _ #[.int .i64 (Z : Int), .int .i64 (n : Int), .slice A6 (cutL L Z).length c6] _ _ rfl ((World.putObj_heap_other (by omega)).trans XS.out) Try.underlying24 rfl HI.out, A6, c6, by rw [HC.out]; rfl, ?_, ?_⟩
    · rw [HC.out]
      exact own_down' (ownsRow_putObj OS.out _ HK2 rfl) (by omega)
    · exact BS.out.trans (belowK_b (w := w) (Nat.le_refl _) _ D _ _ (by omega) HK2 rfl rfl)
  case stop =>
    rintro D c pre W _ _ h _
    exact h.elim
end Go.Proofs.Ytmaehbebpldpcaa
