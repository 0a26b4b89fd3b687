/-
  Blocks: BlockCalls, walked.
-/
import Derived.Test.YtmaehbebpldpcaaBlkJ
import Derived.Test.YtmaehbebpldpcaaBlkL
import Derived.Deep.Cut
namespace Go.Proofs.Ytmaehbebpldpcaa
open Go.RowKit Go.Shelf
set_option maxHeartbeats 1000000 in
/-- The reference's Cut, its answer as given. -/
theorem rcut_is {A : Option Addr} {n c B : Nat} {L : List UInt8} {z : Int} {w : World} (hr : BReads w B A n L) (hB : B ≤ w.heap.size) (hn : n ≤ 1000000) (hnc : n ≤ c) (er m : Nat) (sz ln : Int) (ds : List Dg) (h : cutP L z = (er, sz, ln, ds)) (hm : ds.length = m) :
    Calls Try.prog 12 #[.slice A n c, .int .i64 z] w fun e w' => ∃ A' c', e = .returned (.tuple #[.agg #[.int .i64 sz, .int .i64 ln, .slice A' m c'], .int .i64 er]) ∧ DReads w' w'.heap.size A' m ds ∧ Below w.heap.size w w' := by
  subst hm
  refine (rcut_v A n c L z w (Reads.more hr hB) hn hnc).mono ?_
  rw [h]
  rintro e w' ⟨A', c', rfl, ho, hb⟩
  exact ⟨A', c', rfl, DReads.of_own ho, hb⟩
theorem cutP_len {L : List UInt8} {z : Int} {er : Nat} {s l : Int} {d : List Dg} (h : cutP L z = (er, s, l, d)) : d.length ≤ 9007199254740992 := by
  unfold cutP at h
  split at h
  · obtain ⟨_, _, _, rfl⟩ : _ ∧ _ ∧ _ ∧ [] = d := by simpa only [Prod.mk.injEq] using h
    simp
  split at h
  · obtain ⟨_, _, _, rfl⟩ : _ ∧ _ ∧ _ ∧ [] = d := by simpa only [Prod.mk.injEq] using h
    simp
  split at h
  · obtain ⟨_, _, _, rfl⟩ : _ ∧ _ ∧ _ ∧ [] = d := by simpa only [Prod.mk.injEq] using h
    simp
  split at h
  · obtain ⟨_, _, _, rfl⟩ : _ ∧ _ ∧ _ ∧ [] = d := by simpa only [Prod.mk.injEq] using h
    simp
  obtain ⟨_, _, _, rfl⟩ : _ ∧ _ ∧ _ ∧ cutL L z.toNat = d := by simpa only [Prod.mk.injEq] using h
  rename_i h1 _ _ h4
  rw [cutL_len rfl]
  have h5 := chunkN_int L.length z.toNat (by omega)
  rw [Int.toNat_of_nonneg (by omega)] at h5
  omega
theorem sameP_refl (s l : Int) (ds : List Dg) : sameP s l s l ds ds = true := by simp [sameP]
set_option maxRecDepth 100000 in
set_option maxHeartbeats 16000000 in
theorem calls_v (sx lx so lo_ : Int) (ax ao : Option Addr) (nx cx no co : Nat) (dx do_ : List Dg) (A : Option Addr) (m c : Nat) (L : List UInt8) (size n : Int) (w : World)
    (hx : DReads w w.heap.size ax nx dx) (ho : DReads w w.heap.size ao no do_) (hnx : nx ≤ 9223372036854775807) (hno : no ≤ 9223372036854775807) (hr : BReads w w.heap.size A m L) (hmc : m ≤ c) (hc : c ≤ 9223372036854775807) :
    Calls Try.prog 3 #[.agg #[.int .i64 sx, .int .i64 lx, .slice ax nx cx], .agg #[.int .i64 so, .int .i64 lo_, .slice ao no co], .slice A m c, .int .i64 size, .int .i64 n] w fun e w' => e = .returned (.bool true) ∧ Below w.heap.size w w' := by
  have HI := Lib.hid (show (Try.prog.info? 24).map (·.size) = some 3 by kernel_rfl)
  have HR := Lib.hid hr
  have HX := Lib.hid hx
  have HO := Lib.hid ho
  have BA := Lib.hid (((Below.refl w.heap.size w).alloc (Nat.le_refl _) (.cells #[.int .i64 sx, .int .i64 lx, .slice ax nx cx] 24)).alloc (by simp) (.cells #[.int .i64 so, .int .i64 lo_, .slice ao no co] 24))
  have Y := Lib.hid (heap_alloc2_new w (.cells #[.int .i64 sx, .int .i64 lx, .slice ax nx cx] 24) (.cells #[.int .i64 so, .int .i64 lo_, .slice ao no co] 24))
  have Y0 := Lib.hid ((Below.heap_alloc (w.alloc (.cells #[.int .i64 sx, .int .i64 lx, .slice ax nx cx] 24)) (.cells #[.int .i64 so, .int .i64 lo_, .slice ao no co] 24) w.heap.size (by simp)).trans (heap_alloc_new w (.cells #[.int .i64 sx, .int .i64 lx, .slice ax nx cx] 24)))
  have hz0 : ((w.alloc (.cells #[.int .i64 sx, .int .i64 lx, .slice ax nx cx] 24)).alloc (.cells #[.int .i64 so, .int .i64 lo_, .slice ao no co] 24)).heap.size = w.heap.size + 2 := by simp
  clear hr hx ho
  go_enter Try.func3, Try.ntmps3
  go_wp2_with fail
  generalize (w.alloc (.cells #[.int .i64 sx, .int .i64 lx, .slice ax nx cx] 24)).alloc (.cells #[.int .i64 so, .int .i64 lo_, .slice ao no co] 24) = w0 at *
  have hzw := BA.out.size
  generalize hg : w.heap.size = g at *
  refine (lives_v w0).mono ?_
  rintro e w1 ⟨rfl, b1⟩
  have B1 := Lib.hid (BA.out.trans (b1.mono hzw))
  have X1 := Lib.hid ((b1.block g (by omega)).trans Y0.out)
  have O1 := Lib.hid ((b1.block (g + 1) (by omega)).trans Y.out)
  have hz1 := b1.size
  clear b1 Y Y0 BA hzw
  go_upto_region 3 with fail
  go_cut [56] from 21 (fun v wx => ∃ bo : Bool, v = .bool bo ∧ (bo = false → m ≤ 2000 ∧ nx ≤ 1100 ∧ no ≤ 1100) ∧ Below g w wx ∧ g + 2 ≤ wx.heap.size ∧ wx.heap[g]? = some (.cells #[.int .i64 sx, .int .i64 lx, .slice ax nx cx] 24 (0, 0)) ∧ wx.heap[g + 1]? = some (.cells #[.int .i64 so, .int .i64 lo_, .slice ao no co] 24 (0, 0)))
  case first =>
    have c51 : w1.cell? ⟨g, 0, none⟩ = some (.int .i64 sx) := by rw [cell_of_row _ _ 0 _ _ _ X1.out]; rfl
    go_wp2_with (first
      | (refine wpList_load_row rfl 24 (.tmp 5) rfl g rfl 24 _ (0, 0) _ X1.out Try.underlying24 rfl HI.out ?_)
      | (refine wpList_load_row rfl 24 (.tmp 6) rfl (g + 1) rfl 24 _ (0, 0) _ O1.out Try.underlying24 rfl HI.out ?_)
      | fail)
    have b2 := (Below.refl w1.heap.size w1).alloc (Nat.le_refl _) (.cells #[.int .i64 sx, .int .i64 lx, .slice ax nx cx, .int .i64 so, .int .i64 lo_, .slice ao no co] 24)
    have hz2 : w1.heap.size ≤ (w1.alloc (.cells #[.int .i64 sx, .int .i64 lx, .slice ax nx cx, .int .i64 so, .int .i64 lo_, .slice ao no co] 24)).heap.size := b2.size
    have hgw : g ≤ w1.heap.size := by omega
    have B2 := Lib.hid (B1.out.trans (b2.mono hgw))
    have X2 := Lib.hid ((b2.block g (by omega)).trans X1.out)
    have O2 := Lib.hid ((b2.block (g + 1) (by omega)).trans O1.out)
    have RL : Reads (w1.alloc (.cells #[.int .i64 sx, .int .i64 lx, .slice ax nx cx, .int .i64 so, .int .i64 lo_, .slice ao no co] 24)) (w1.heap.size + 1) 3 (some ⟨w1.heap.size, 0, none⟩) 2 ([⟨sx, lx, ax, nx, cx⟩, ⟨so, lo_, ao, no, co⟩].flatMap LV.cells) :=
      ⟨rfl, fun _ => ⟨_, rfl, Nat.lt_succ_self _, fun j u hu => by rw [add_head, cell_new]; simpa [LV.cells] using hu⟩⟩
    refine (light_v (some ⟨w1.heap.size, 0, none⟩) 2 2 (w1.heap.size + 1) [⟨sx, lx, ax, nx, cx⟩, ⟨so, lo_, ao, no, co⟩] _ RL (by decide) (by intro y hy; simp only [List.mem_cons, List.not_mem_nil, or_false] at hy; rcases hy with rfl | rfl; exact hnx; exact hno)).mono ?_
    clear RL b2
    by_cases hl : nx ≤ 1100 ∧ no ≤ 1100
    · rw [show lightP [⟨sx, lx, ax, nx, cx⟩, ⟨so, lo_, ao, no, co⟩] = true by simp [lightP, hl.1, hl.2]]
      rintro e _ ⟨rfl, rfl⟩
      generalize w1.alloc (.cells #[.int .i64 sx, .int .i64 lx, .slice ax nx cx, .int .i64 so, .int .i64 lo_, .slice ao no co] 24) = w2 at *
      have c52 : w2.cell? ⟨g, 0, none⟩ = some (.int .i64 sx) := by rw [cell_of_row _ _ 0 _ _ _ X2.out]; rfl
      have HL := Lib.hid hl
      have hz3 : g + 2 ≤ w2.heap.size := by omega
      clear hl c51 hz2 hz1 hgw
      by_cases h1 : 2000 < m
      · have d1 : decide (2000 < m) = true := by simpa using h1
        go_wp2_with fail
        go_meet
        exact ⟨_, rfl, by simp, B2.out, hz3, X2.out, O2.out⟩
      have d1 : decide (2000 < m) = false := by simpa using h1
      have hm2 : m ≤ 2000 := by omega
      clear h1
      have QZ : ∀ y : Int, 0 < y → ∃ q : Nat, (m : Int).tdiv y = (q : Int) ∧ (m : Int) / y = (q : Int) ∧ q ≤ m := fun y hy => by
        have e := Int.tdiv_eq_ediv_of_nonneg (b := y) (show (0 : Int) ≤ (m : Int) by omega)
        have p0 := Int.ediv_nonneg (show (0 : Int) ≤ (m : Int) by omega) (show 0 ≤ y by omega)
        have p1 := Int.ediv_le_self y (show (0 : Int) ≤ (m : Int) by omega)
        exact ⟨((m : Int) / y).toNat, by rw [e]; omega, by omega, by omega⟩
      have SZ : (size ≤ 0) ∨ (0 < size ∧ ∃ q : Nat, (m : Int).tdiv size = (q : Int) ∧ (m : Int) / size = (q : Int) ∧ q ≤ m) := by
        rcases Int.lt_or_le 0 size with h | h
        · exact .inr ⟨h, QZ size h⟩
        · exact .inl h
      have XZ : (sx ≤ 0) ∨ (0 < sx ∧ ∃ q : Nat, (m : Int).tdiv sx = (q : Int) ∧ (m : Int) / sx = (q : Int) ∧ q ≤ m) := by
        rcases Int.lt_or_le 0 sx with h | h
        · exact .inr ⟨h, QZ sx h⟩
        · exact .inl h
      clear QZ
      have HFIN := Lib.hid (show m ≤ 2000 ∧ nx ≤ 1100 ∧ no ≤ 1100 from ⟨hm2, HL.out.1, HL.out.2⟩)
      rcases SZ with hs | ⟨hs, q1, hq1, hq2, hqm⟩
      · have d2 : decide (0 < size) = false := by simpa using hs
        rcases XZ with hy | ⟨hy, q3, hq3, hq4, hqn⟩
        · have d3 : decide (0 < sx) = false := by simpa using hy
          go_wp2_with fail
          go_meet
          exact ⟨_, rfl, fun _ => HFIN.out, B2.out, hz3, X2.out, O2.out⟩
        · have d3 : decide (0 < sx) = true := by simpa using hy
          have hy0 : sx ≠ 0 := by omega
          have hy1 : sx ≠ -1 := by omega
          go_wp2_with fail
          go_meet
          exact ⟨_, rfl, fun _ => HFIN.out, B2.out, hz3, X2.out, O2.out⟩
      · have d2 : decide (0 < size) = true := by simpa using hs
        have hs0 : size ≠ 0 := by omega
        have hs1 : size ≠ -1 := by omega
        by_cases h4 : 200 < q1
        · have d4 : decide (200 < q1) = true := by simpa using h4
          go_wp2_with fail
          go_meet
          exact ⟨_, rfl, by simp, B2.out, hz3, X2.out, O2.out⟩
        have d4 : decide (200 < q1) = false := by simpa using h4
        rcases XZ with hy | ⟨hy, q3, hq3, hq4, hqn⟩
        · have d3 : decide (0 < sx) = false := by simpa using hy
          go_wp2_with fail
          go_meet
          exact ⟨_, rfl, fun _ => HFIN.out, B2.out, hz3, X2.out, O2.out⟩
        · have d3 : decide (0 < sx) = true := by simpa using hy
          have hy0 : sx ≠ 0 := by omega
          have hy1 : sx ≠ -1 := by omega
          go_wp2_with fail
          go_meet
          exact ⟨_, rfl, fun _ => HFIN.out, B2.out, hz3, X2.out, O2.out⟩
    · rw [show lightP [⟨sx, lx, ax, nx, cx⟩, ⟨so, lo_, ao, no, co⟩] = false by simp [lightP]; omega]
      rintro e _ ⟨rfl, rfl⟩
      go_wp2_with fail
      go_meet
      exact ⟨_, rfl, by simp, B2.out, by omega, X2.out, O2.out⟩
  obtain ⟨bo, rfl, hbo, b2, hz2, x2, o2⟩ := hcut
  have B2 := Lib.hid b2
  have X2 := Lib.hid x2
  have O2 := Lib.hid o2
  clear b2 x2 o2 B1 X1 O1
  cases bo with
  | true =>
    go_wp2_with fail
    go_ret
    exact ⟨rfl, hg ▸ B2.out⟩
  | false =>
  obtain ⟨hm2, hnx2, hno2⟩ := hbo rfl
  clear hbo hnx hno
  go_wp2_with fail
  obtain ⟨er, s1, l1, d1, hcp⟩ : ∃ er s1 l1 d1, cutP L size = (er, s1, l1, d1) := ⟨_, _, _, _, rfl⟩
  have HCP := Lib.hid hcp
  have hgc : g ≤ wc.heap.size := by omega
  clear hcp
  refine (own_any g A m c L wc (Reads.below HR.out B2.out) hgc (by omega)).mono ?_
  rintro e w3 ⟨A2, c2, rfl, ho2, b3⟩
  have B3 := Lib.hid (B2.out.trans (b3.mono (by omega)))
  have X3 := Lib.hid ((b3.block g (by omega)).trans X2.out)
  have O3 := Lib.hid ((b3.block (g + 1) (by omega)).trans O2.out)
  have hz3 := b3.size
  have OW := Lib.hid ho2.reads
  have hc2 := ho2.2
  clear b3 ho2 X2 O2
  go_wp2_with (first | (refine wpList_load_row rfl 24 (.tmp 5) rfl g rfl 24 _ (0, 0) _ X3.out Try.underlying24 rfl HI.out ?_) | fail)
  refine (cut_is OW.out (by omega) hc2 er d1.length (er : Int) s1 l1 d1 HCP.out rfl rfl).mono ?_
  rintro e w4 ⟨A3, c3, rfl, d4, b4⟩
  have B4 := Lib.hid (B3.out.trans (b4.mono (by omega)))
  have X4 := Lib.hid ((b4.block g (by omega)).trans X3.out)
  have O4 := Lib.hid ((b4.block (g + 1) (by omega)).trans O3.out)
  have hz4 := b4.size
  have b5 := (Below.refl w4.heap.size w4).alloc (Nat.le_refl _) (.cells #[.int .i64 s1, .int .i64 l1, .slice A3 (List.length d1) c3] 24)
  have B5 := Lib.hid (B4.out.trans (b5.mono (by omega)))
  have X5 := Lib.hid ((b5.block g (by omega)).trans X4.out)
  have O5 := Lib.hid ((b5.block (g + 1) (by omega)).trans O4.out)
  have P5 := Lib.hid (heap_alloc_new w4 (.cells #[.int .i64 s1, .int .i64 l1, .slice A3 (List.length d1) c3] 24))
  have D5 := Lib.hid (d4.below b5)
  have hz5 : (w4.alloc (.cells #[.int .i64 s1, .int .i64 l1, .slice A3 (List.length d1) c3] 24)).heap.size = w4.heap.size + 1 := by simp
  clear b4 d4 b5 X3 O3 X4 O4 OW
  go_wp2_with (first | (refine wpList_load_row rfl 24 (.tmp 5) rfl g rfl 24 _ (0, 0) _ X5.out Try.underlying24 rfl HI.out ?_) | fail)
  generalize w4.alloc (.cells #[.int .i64 s1, .int .i64 l1, .slice A3 (List.length d1) c3] 24) = w5 at *
  generalize w4.heap.size = gx at *
  refine (rcut_is (Reads.below HR.out B5.out) (show g ≤ w5.heap.size by omega) (by omega) hmc er d1.length s1 l1 d1 HCP.out rfl).mono ?_
  rintro e w6 ⟨A5, c5, rfl, d6, b6⟩
  have B6 := Lib.hid (B5.out.trans (b6.mono (by omega)))
  have X6 := Lib.hid ((b6.block g (by omega)).trans X5.out)
  have O6 := Lib.hid ((b6.block (g + 1) (by omega)).trans O5.out)
  have P6 := Lib.hid ((b6.block gx (by omega)).trans P5.out)
  have hz6 := b6.size
  have D6 := Lib.hid (D5.out.below (b6.mono (by omega)))
  have b7 := (Below.refl w6.heap.size w6).alloc (Nat.le_refl _) (.cells #[.int .i64 s1, .int .i64 l1, .slice A5 (List.length d1) c5] 24)
  have B7 := Lib.hid (B6.out.trans (b7.mono (by omega)))
  have X7 := Lib.hid ((b7.block g (by omega)).trans X6.out)
  have O7 := Lib.hid ((b7.block (g + 1) (by omega)).trans O6.out)
  have P7 := Lib.hid ((b7.block gx (by omega)).trans P6.out)
  have Q7 := Lib.hid (heap_alloc_new w6 (.cells #[.int .i64 s1, .int .i64 l1, .slice A5 (List.length d1) c5] 24))
  have D7 := Lib.hid (D6.out.below (b7.mono (by omega)))
  have E7 := Lib.hid (d6.below b7)
  have hz7 : (w6.alloc (.cells #[.int .i64 s1, .int .i64 l1, .slice A5 (List.length d1) c5] 24)).heap.size = w6.heap.size + 1 := by simp
  clear b6 d6 b7 X5 O5 P5 X6 O6 P6 D5 D6
  go_wp2_with (first | (refine wpList_load_row rfl 24 (.tmp 5) rfl g rfl 24 _ (0, 0) _ X7.out Try.underlying24 rfl HI.out ?_) | fail)
  generalize w6.alloc (.cells #[.int .i64 s1, .int .i64 l1, .slice A5 (List.length d1) c5] 24) = w7 at *
  generalize w6.heap.size = gy at *
  generalize hap : atP sx lx nx n = ap
  obtain ⟨fr, tt, ok⟩ := ap
  refine (at_v sx lx n ax nx cx w7 (by omega)).mono ?_
  rw [hap]
  rintro e w8 ⟨rfl, b8⟩
  have B8 := Lib.hid (B7.out.trans (b8.mono (by omega)))
  have X8 := Lib.hid ((b8.block g (by omega)).trans X7.out)
  have O8 := Lib.hid ((b8.block (g + 1) (by omega)).trans O7.out)
  have P8 := Lib.hid ((b8.block gx (by omega)).trans P7.out)
  have Q8 := Lib.hid ((b8.block gy (by omega)).trans Q7.out)
  have hz8 := b8.size
  have D8 := Lib.hid (D7.out.below (b8.mono (by omega)))
  have E8 := Lib.hid (E7.out.below (b8.mono (by omega)))
  clear b8 X7 O7 P7 Q7 D7 E7
  go_wp2_with (first | (refine wpList_load_row rfl 24 (.tmp 5) rfl g rfl 24 _ (0, 0) _ X8.out Try.underlying24 rfl HI.out ?_) | fail)
  refine (rat_v sx lx n ax nx cx w8 (by omega)).mono ?_
  rw [hap]
  rintro e w9 ⟨rfl, b9⟩
  have B9 := Lib.hid (B8.out.trans (b9.mono (by omega)))
  have X9 := Lib.hid ((b9.block g (by omega)).trans X8.out)
  have O9 := Lib.hid ((b9.block (g + 1) (by omega)).trans O8.out)
  have P9 := Lib.hid ((b9.block gx (by omega)).trans P8.out)
  have Q9 := Lib.hid ((b9.block gy (by omega)).trans Q8.out)
  have hz9 := b9.size
  have D9 := Lib.hid (D8.out.below (b9.mono (by omega)))
  have E9 := Lib.hid (E8.out.below (b9.mono (by omega)))
  clear b9 X8 O8 P8 Q8 D8 E8 hap
  go_upto_region 9 with fail
  have KS := Lib.hid (show ∀ V : World, Below w9.heap.size w9 V → V.heap[g]? = some (.cells #[.int .i64 sx, .int .i64 lx, .slice ax nx cx] 24 (0, 0)) ∧ V.heap[g + 1]? = some (.cells #[.int .i64 so, .int .i64 lo_, .slice ao no co] 24 (0, 0)) ∧ V.heap[gx]? = some (.cells #[.int .i64 s1, .int .i64 l1, .slice A3 (List.length d1) c3] 24 (0, 0)) ∧ V.heap[gy]? = some (.cells #[.int .i64 s1, .int .i64 l1, .slice A5 (List.length d1) c5] 24 (0, 0)) from fun V hV => ⟨(hV.block g (by omega)).trans X9.out, (hV.block (g + 1) (by omega)).trans O9.out, (hV.block gx (by omega)).trans P9.out, (hV.block gy (by omega)).trans Q9.out⟩)
  have hgx : gx ≤ w9.heap.size := by omega
  have hgy : gy + 1 ≤ w9.heap.size := by omega
  have hg9 : g ≤ w9.heap.size := by omega
  have HLN := Lib.hid (cutP_len HCP.out)
  clear X9 O9 P9 Q9
  refine wp_region_tree (SK.one 0 false <| .one 1 false <| .one 2 true <| .one 3 false <| .one 4 false <| .one 5 false <| .one 6 false <| .one 7 false <| .one 8 false <| .one 9 false <| .one 10 false <| .one 11 false <| .one 12 false <| .one 13 false <| .one 14 false <| .one 15 false <| .one 16 false <| .one 17 false <| .one 18 false <| .one 19 false <| .one 20 false <| .one 21 false <| .one 22 false <| .one 23 false <| .one 24 false <| .one 26 false <| .one 25 true <| .one 27 true <| .one 28 false <| .one 29 false <| .one 30 false <| .one 31 false <| .one 32 false <| .one 33 false <| .one 36 false <| .one 37 false <| .one 38 false <| .one 34 true <| .one 35 true <| .one 39 true <| .one 40 false <| .one 41 false <| .one 42 false <| .one 43 false <| .one 44 false <| .one 47 false <| .one 48 false <| .one 45 true <| .one 46 true <| .one 49 true <| .one 50 false <| .one 51 false <| .one 52 false <| .one 53 false <| .one 54 false <| .one 56 false <| .one 57 false <| .one 55 true <| .one 58 true <| .one 59 false <| .one 60 false <| .one 61 false .done) (fun V => V.heap[g]? = some (.cells #[.int .i64 sx, .int .i64 lx, .slice ax nx cx] 24 (0, 0)) ∧ V.heap[g + 1]? = some (.cells #[.int .i64 so, .int .i64 lo_, .slice ao no co] 24 (0, 0)) ∧ V.heap[gx]? = some (.cells #[.int .i64 s1, .int .i64 l1, .slice A3 (List.length d1) c3] 24 (0, 0)) ∧ V.heap[gy]? = some (.cells #[.int .i64 s1, .int .i64 l1, .slice A5 (List.length d1) c5] 24 (0, 0))) (by kernel_rfl) (by kernel_rfl) (by kernel_rfl) (by kernel_rfl) ?_
  have B10 := Lib.hid ((Below.refl w9.heap.size w9).drew)
  have hS := KS.out _ B10.out
  generalize w9.drew = w10 at *
  refine TR.val2 (v := .agg #[.int .i64 s1, .int .i64 l1, .slice A3 (List.length d1) c3]) _ (by simp only [List.getElem?_toArray, List.getElem?_cons_zero]; rfl) ?_ ?_ ?_ ?_ ?_
  (focus rfl)
  (focus exact fun V hV => exec_load_slot 24 (.tmp 11) rfl ⟨gx, 0, none⟩ rfl [.int .i64 s1, .int .i64 l1, .slice A3 (List.length d1) c3] _ (row_cells hV.2.2.1) Try.underlying24 rfl HI.out)
  (focus exact fun _ _ _ h => h)
  (focus exact hS)
  simp only [Act.put, List.setIfInBounds_toArray, List.set_cons_zero, List.set_cons_succ]
  refine TR.val2 (v := .agg #[.int .i64 s1, .int .i64 l1, .slice A5 (List.length d1) c5]) _ (by simp only [List.getElem?_toArray, List.getElem?_cons_succ, List.getElem?_cons_zero]; rfl) ?_ ?_ ?_ ?_ ?_
  (focus rfl)
  (focus exact fun V hV => exec_load_slot 24 (.tmp 13) rfl ⟨gy, 0, none⟩ rfl [.int .i64 s1, .int .i64 l1, .slice A5 (List.length d1) c5] _ (row_cells hV.2.2.2) Try.underlying24 rfl HI.out)
  (focus exact fun _ _ _ h => h)
  (focus exact hS)
  simp only [Act.put, List.setIfInBounds_toArray, List.set_cons_zero, List.set_cons_succ]
  refine TR.eff _ (by simp only [List.getElem?_toArray, List.getElem?_cons_succ, List.getElem?_cons_zero]; rfl) (by rfl) (fun K hK => ?_); go_simp
  refine (list_v s1 l1 s1 l1 A3 A5 d1.length c3 d1.length c5 w9.heap.size d1 d1 w10 (Reads.more (D9.out.below (B10.out.mono hgx)) hgx) (Reads.more (E9.out.below (B10.out.mono (by omega))) (by omega)) (by have := B10.out.size; omega) HLN.out).mono ?_
  rw [sameP_refl]
  rintro e w11 ⟨rfl, b_⟩
  have B11 := Lib.hid (B10.out.trans (b_.mono B10.out.size))
  have hS2 := KS.out _ B11.out
  refine hK.out _ _ hS2 ?_
  clear hK hS b_ 
  have hS := hS2
  clear hS2
  (try simp only [Act.put, List.setIfInBounds_toArray, List.set_cons_zero, List.set_cons_succ])
  iterate 1 ((first | (refine TR.val2 (v := ?_) _ (by simp only [List.getElem?_toArray, List.getElem?_cons_succ, List.getElem?_cons_zero]; rfl) ?_ ?_ ?_ ?_ ?_; rotate_left; (focus rfl); (focus (intro W hSW; (try dsimp only at hSW); (try (obtain ⟨hS1, hSW⟩ := hSW)); (try (obtain ⟨hS2, hSW⟩ := hSW)); (try (obtain ⟨hS3, hSW⟩ := hSW)); (try (obtain ⟨hS4, hSW⟩ := hSW)); (try (obtain ⟨hS5, hSW⟩ := hSW)); go_simp; (try with_reducible rfl); done)); (focus exact fun _ _ _ h => h); (focus assumption)) | (refine TR.skip _ (by simp only [List.getElem?_toArray, List.getElem?_cons_succ, List.getElem?_cons_zero]; rfl) ?_ ?_ ?_ ?_; (focus rfl); (focus exact fun _ _ _ h => h); (focus assumption))); simp only [Act.put, List.setIfInBounds_toArray, List.set_cons_zero, List.set_cons_succ])
  iterate 1 ((first | (refine TR.val2 (v := ?_) _ (by simp only [List.getElem?_toArray, List.getElem?_cons_succ, List.getElem?_cons_zero]; rfl) ?_ ?_ ?_ ?_ ?_; rotate_left; (focus rfl); (focus (intro W hSW; (try dsimp only at hSW); (try (obtain ⟨hS1, hSW⟩ := hSW)); (try (obtain ⟨hS2, hSW⟩ := hSW)); (try (obtain ⟨hS3, hSW⟩ := hSW)); (try (obtain ⟨hS4, hSW⟩ := hSW)); (try (obtain ⟨hS5, hSW⟩ := hSW)); go_simp; (try with_reducible rfl); done)); (focus exact fun _ _ _ h => h); (focus assumption)) | (refine TR.skip _ (by simp only [List.getElem?_toArray, List.getElem?_cons_succ, List.getElem?_cons_zero]; rfl) ?_ ?_ ?_ ?_; (focus rfl); (focus exact fun _ _ _ h => h); (focus assumption))); simp only [Act.put, List.setIfInBounds_toArray, List.set_cons_zero, List.set_cons_succ])
  iterate 1 ((first | (refine TR.val2 (v := ?_) _ (by simp only [List.getElem?_toArray, List.getElem?_cons_succ, List.getElem?_cons_zero]; rfl) ?_ ?_ ?_ ?_ ?_; rotate_left; (focus rfl); (focus (intro W hSW; (try dsimp only at hSW); (try (obtain ⟨hS1, hSW⟩ := hSW)); (try (obtain ⟨hS2, hSW⟩ := hSW)); (try (obtain ⟨hS3, hSW⟩ := hSW)); (try (obtain ⟨hS4, hSW⟩ := hSW)); (try (obtain ⟨hS5, hSW⟩ := hSW)); go_simp; (try with_reducible rfl); done)); (focus exact fun _ _ _ h => h); (focus assumption)) | (refine TR.skip _ (by simp only [List.getElem?_toArray, List.getElem?_cons_succ, List.getElem?_cons_zero]; rfl) ?_ ?_ ?_ ?_; (focus rfl); (focus exact fun _ _ _ h => h); (focus assumption))); simp only [Act.put, List.setIfInBounds_toArray, List.set_cons_zero, List.set_cons_succ])
  iterate 1 ((first | (refine TR.val2 (v := ?_) _ (by simp only [List.getElem?_toArray, List.getElem?_cons_succ, List.getElem?_cons_zero]; rfl) ?_ ?_ ?_ ?_ ?_; rotate_left; (focus rfl); (focus (intro W hSW; (try dsimp only at hSW); (try (obtain ⟨hS1, hSW⟩ := hSW)); (try (obtain ⟨hS2, hSW⟩ := hSW)); (try (obtain ⟨hS3, hSW⟩ := hSW)); (try (obtain ⟨hS4, hSW⟩ := hSW)); (try (obtain ⟨hS5, hSW⟩ := hSW)); go_simp; (try with_reducible rfl); done)); (focus exact fun _ _ _ h => h); (focus assumption)) | (refine TR.skip _ (by simp only [List.getElem?_toArray, List.getElem?_cons_succ, List.getElem?_cons_zero]; rfl) ?_ ?_ ?_ ?_; (focus rfl); (focus exact fun _ _ _ h => h); (focus assumption))); simp only [Act.put, List.setIfInBounds_toArray, List.set_cons_zero, List.set_cons_succ])
  iterate 1 ((first | (refine TR.val2 (v := ?_) _ (by simp only [List.getElem?_toArray, List.getElem?_cons_succ, List.getElem?_cons_zero]; rfl) ?_ ?_ ?_ ?_ ?_; rotate_left; (focus rfl); (focus (intro W hSW; (try dsimp only at hSW); (try (obtain ⟨hS1, hSW⟩ := hSW)); (try (obtain ⟨hS2, hSW⟩ := hSW)); (try (obtain ⟨hS3, hSW⟩ := hSW)); (try (obtain ⟨hS4, hSW⟩ := hSW)); (try (obtain ⟨hS5, hSW⟩ := hSW)); go_simp; (try with_reducible rfl); done)); (focus exact fun _ _ _ h => h); (focus assumption)) | (refine TR.skip _ (by simp only [List.getElem?_toArray, List.getElem?_cons_succ, List.getElem?_cons_zero]; rfl) ?_ ?_ ?_ ?_; (focus rfl); (focus exact fun _ _ _ h => h); (focus assumption))); simp only [Act.put, List.setIfInBounds_toArray, List.set_cons_zero, List.set_cons_succ])
  iterate 1 ((first | (refine TR.val2 (v := ?_) _ (by simp only [List.getElem?_toArray, List.getElem?_cons_succ, List.getElem?_cons_zero]; rfl) ?_ ?_ ?_ ?_ ?_; rotate_left; (focus rfl); (focus (intro W hSW; (try dsimp only at hSW); (try (obtain ⟨hS1, hSW⟩ := hSW)); (try (obtain ⟨hS2, hSW⟩ := hSW)); (try (obtain ⟨hS3, hSW⟩ := hSW)); (try (obtain ⟨hS4, hSW⟩ := hSW)); (try (obtain ⟨hS5, hSW⟩ := hSW)); go_simp; (try with_reducible rfl); done)); (focus exact fun _ _ _ h => h); (focus assumption)) | (refine TR.skip _ (by simp only [List.getElem?_toArray, List.getElem?_cons_succ, List.getElem?_cons_zero]; rfl) ?_ ?_ ?_ ?_; (focus rfl); (focus exact fun _ _ _ h => h); (focus assumption))); simp only [Act.put, List.setIfInBounds_toArray, List.set_cons_zero, List.set_cons_succ])
  iterate 1 ((first | (refine TR.val2 (v := ?_) _ (by simp only [List.getElem?_toArray, List.getElem?_cons_succ, List.getElem?_cons_zero]; rfl) ?_ ?_ ?_ ?_ ?_; rotate_left; (focus rfl); (focus (intro W hSW; (try dsimp only at hSW); (try (obtain ⟨hS1, hSW⟩ := hSW)); (try (obtain ⟨hS2, hSW⟩ := hSW)); (try (obtain ⟨hS3, hSW⟩ := hSW)); (try (obtain ⟨hS4, hSW⟩ := hSW)); (try (obtain ⟨hS5, hSW⟩ := hSW)); go_simp; (try with_reducible rfl); done)); (focus exact fun _ _ _ h => h); (focus assumption)) | (refine TR.skip _ (by simp only [List.getElem?_toArray, List.getElem?_cons_succ, List.getElem?_cons_zero]; rfl) ?_ ?_ ?_ ?_; (focus rfl); (focus exact fun _ _ _ h => h); (focus assumption))); simp only [Act.put, List.setIfInBounds_toArray, List.set_cons_zero, List.set_cons_succ])
  iterate 1 ((first | (refine TR.val2 (v := ?_) _ (by simp only [List.getElem?_toArray, List.getElem?_cons_succ, List.getElem?_cons_zero]; rfl) ?_ ?_ ?_ ?_ ?_; rotate_left; (focus rfl); (focus (intro W hSW; (try dsimp only at hSW); (try (obtain ⟨hS1, hSW⟩ := hSW)); (try (obtain ⟨hS2, hSW⟩ := hSW)); (try (obtain ⟨hS3, hSW⟩ := hSW)); (try (obtain ⟨hS4, hSW⟩ := hSW)); (try (obtain ⟨hS5, hSW⟩ := hSW)); go_simp; (try with_reducible rfl); done)); (focus exact fun _ _ _ h => h); (focus assumption)) | (refine TR.skip _ (by simp only [List.getElem?_toArray, List.getElem?_cons_succ, List.getElem?_cons_zero]; rfl) ?_ ?_ ?_ ?_; (focus rfl); (focus exact fun _ _ _ h => h); (focus assumption))); simp only [Act.put, List.setIfInBounds_toArray, List.set_cons_zero, List.set_cons_succ])
  iterate 1 ((first | (refine TR.val2 (v := ?_) _ (by simp only [List.getElem?_toArray, List.getElem?_cons_succ, List.getElem?_cons_zero]; rfl) ?_ ?_ ?_ ?_ ?_; rotate_left; (focus rfl); (focus (intro W hSW; (try dsimp only at hSW); (try (obtain ⟨hS1, hSW⟩ := hSW)); (try (obtain ⟨hS2, hSW⟩ := hSW)); (try (obtain ⟨hS3, hSW⟩ := hSW)); (try (obtain ⟨hS4, hSW⟩ := hSW)); (try (obtain ⟨hS5, hSW⟩ := hSW)); go_simp; (try with_reducible rfl); done)); (focus exact fun _ _ _ h => h); (focus assumption)) | (refine TR.skip _ (by simp only [List.getElem?_toArray, List.getElem?_cons_succ, List.getElem?_cons_zero]; rfl) ?_ ?_ ?_ ?_; (focus rfl); (focus exact fun _ _ _ h => h); (focus assumption))); simp only [Act.put, List.setIfInBounds_toArray, List.set_cons_zero, List.set_cons_succ])
  iterate 1 ((first | (refine TR.val2 (v := ?_) _ (by simp only [List.getElem?_toArray, List.getElem?_cons_succ, List.getElem?_cons_zero]; rfl) ?_ ?_ ?_ ?_ ?_; rotate_left; (focus rfl); (focus (intro W hSW; (try dsimp only at hSW); (try (obtain ⟨hS1, hSW⟩ := hSW)); (try (obtain ⟨hS2, hSW⟩ := hSW)); (try (obtain ⟨hS3, hSW⟩ := hSW)); (try (obtain ⟨hS4, hSW⟩ := hSW)); (try (obtain ⟨hS5, hSW⟩ := hSW)); go_simp; (try with_reducible rfl); done)); (focus exact fun _ _ _ h => h); (focus assumption)) | (refine TR.skip _ (by simp only [List.getElem?_toArray, List.getElem?_cons_succ, List.getElem?_cons_zero]; rfl) ?_ ?_ ?_ ?_; (focus rfl); (focus exact fun _ _ _ h => h); (focus assumption))); simp only [Act.put, List.setIfInBounds_toArray, List.set_cons_zero, List.set_cons_succ])
  iterate 1 ((first | (refine TR.val2 (v := ?_) _ (by simp only [List.getElem?_toArray, List.getElem?_cons_succ, List.getElem?_cons_zero]; rfl) ?_ ?_ ?_ ?_ ?_; rotate_left; (focus rfl); (focus (intro W hSW; (try dsimp only at hSW); (try (obtain ⟨hS1, hSW⟩ := hSW)); (try (obtain ⟨hS2, hSW⟩ := hSW)); (try (obtain ⟨hS3, hSW⟩ := hSW)); (try (obtain ⟨hS4, hSW⟩ := hSW)); (try (obtain ⟨hS5, hSW⟩ := hSW)); go_simp; (try with_reducible rfl); done)); (focus exact fun _ _ _ h => h); (focus assumption)) | (refine TR.skip _ (by simp only [List.getElem?_toArray, List.getElem?_cons_succ, List.getElem?_cons_zero]; rfl) ?_ ?_ ?_ ?_; (focus rfl); (focus exact fun _ _ _ h => h); (focus assumption))); simp only [Act.put, List.setIfInBounds_toArray, List.set_cons_zero, List.set_cons_succ])
  iterate 1 ((first | (refine TR.val2 (v := ?_) _ (by simp only [List.getElem?_toArray, List.getElem?_cons_succ, List.getElem?_cons_zero]; rfl) ?_ ?_ ?_ ?_ ?_; rotate_left; (focus rfl); (focus (intro W hSW; (try dsimp only at hSW); (try (obtain ⟨hS1, hSW⟩ := hSW)); (try (obtain ⟨hS2, hSW⟩ := hSW)); (try (obtain ⟨hS3, hSW⟩ := hSW)); (try (obtain ⟨hS4, hSW⟩ := hSW)); (try (obtain ⟨hS5, hSW⟩ := hSW)); go_simp; (try with_reducible rfl); done)); (focus exact fun _ _ _ h => h); (focus assumption)) | (refine TR.skip _ (by simp only [List.getElem?_toArray, List.getElem?_cons_succ, List.getElem?_cons_zero]; rfl) ?_ ?_ ?_ ?_; (focus rfl); (focus exact fun _ _ _ h => h); (focus assumption))); simp only [Act.put, List.setIfInBounds_toArray, List.set_cons_zero, List.set_cons_succ])
  iterate 1 ((first | (refine TR.val2 (v := ?_) _ (by simp only [List.getElem?_toArray, List.getElem?_cons_succ, List.getElem?_cons_zero]; rfl) ?_ ?_ ?_ ?_ ?_; rotate_left; (focus rfl); (focus (intro W hSW; (try dsimp only at hSW); (try (obtain ⟨hS1, hSW⟩ := hSW)); (try (obtain ⟨hS2, hSW⟩ := hSW)); (try (obtain ⟨hS3, hSW⟩ := hSW)); (try (obtain ⟨hS4, hSW⟩ := hSW)); (try (obtain ⟨hS5, hSW⟩ := hSW)); go_simp; (try with_reducible rfl); done)); (focus exact fun _ _ _ h => h); (focus assumption)) | (refine TR.skip _ (by simp only [List.getElem?_toArray, List.getElem?_cons_succ, List.getElem?_cons_zero]; rfl) ?_ ?_ ?_ ?_; (focus rfl); (focus exact fun _ _ _ h => h); (focus assumption))); simp only [Act.put, List.setIfInBounds_toArray, List.set_cons_zero, List.set_cons_succ])
  iterate 1 ((first | (refine TR.val2 (v := ?_) _ (by simp only [List.getElem?_toArray, List.getElem?_cons_succ, List.getElem?_cons_zero]; rfl) ?_ ?_ ?_ ?_ ?_; rotate_left; (focus rfl); (focus (intro W hSW; (try dsimp only at hSW); (try (obtain ⟨hS1, hSW⟩ := hSW)); (try (obtain ⟨hS2, hSW⟩ := hSW)); (try (obtain ⟨hS3, hSW⟩ := hSW)); (try (obtain ⟨hS4, hSW⟩ := hSW)); (try (obtain ⟨hS5, hSW⟩ := hSW)); go_simp; (try with_reducible rfl); done)); (focus exact fun _ _ _ h => h); (focus assumption)) | (refine TR.skip _ (by simp only [List.getElem?_toArray, List.getElem?_cons_succ, List.getElem?_cons_zero]; rfl) ?_ ?_ ?_ ?_; (focus rfl); (focus exact fun _ _ _ h => h); (focus assumption))); simp only [Act.put, List.setIfInBounds_toArray, List.set_cons_zero, List.set_cons_succ])
  iterate 1 ((first | (refine TR.val2 (v := ?_) _ (by simp only [List.getElem?_toArray, List.getElem?_cons_succ, List.getElem?_cons_zero]; rfl) ?_ ?_ ?_ ?_ ?_; rotate_left; (focus rfl); (focus (intro W hSW; (try dsimp only at hSW); (try (obtain ⟨hS1, hSW⟩ := hSW)); (try (obtain ⟨hS2, hSW⟩ := hSW)); (try (obtain ⟨hS3, hSW⟩ := hSW)); (try (obtain ⟨hS4, hSW⟩ := hSW)); (try (obtain ⟨hS5, hSW⟩ := hSW)); go_simp; (try with_reducible rfl); done)); (focus exact fun _ _ _ h => h); (focus assumption)) | (refine TR.skip _ (by simp only [List.getElem?_toArray, List.getElem?_cons_succ, List.getElem?_cons_zero]; rfl) ?_ ?_ ?_ ?_; (focus rfl); (focus exact fun _ _ _ h => h); (focus assumption))); simp only [Act.put, List.setIfInBounds_toArray, List.set_cons_zero, List.set_cons_succ])
  iterate 1 ((first | (refine TR.val2 (v := ?_) _ (by simp only [List.getElem?_toArray, List.getElem?_cons_succ, List.getElem?_cons_zero]; rfl) ?_ ?_ ?_ ?_ ?_; rotate_left; (focus rfl); (focus (intro W hSW; (try dsimp only at hSW); (try (obtain ⟨hS1, hSW⟩ := hSW)); (try (obtain ⟨hS2, hSW⟩ := hSW)); (try (obtain ⟨hS3, hSW⟩ := hSW)); (try (obtain ⟨hS4, hSW⟩ := hSW)); (try (obtain ⟨hS5, hSW⟩ := hSW)); go_simp; (try with_reducible rfl); done)); (focus exact fun _ _ _ h => h); (focus assumption)) | (refine TR.skip _ (by simp only [List.getElem?_toArray, List.getElem?_cons_succ, List.getElem?_cons_zero]; rfl) ?_ ?_ ?_ ?_; (focus rfl); (focus exact fun _ _ _ h => h); (focus assumption))); simp only [Act.put, List.setIfInBounds_toArray, List.set_cons_zero, List.set_cons_succ])
  iterate 1 ((first | (refine TR.val2 (v := ?_) _ (by simp only [List.getElem?_toArray, List.getElem?_cons_succ, List.getElem?_cons_zero]; rfl) ?_ ?_ ?_ ?_ ?_; rotate_left; (focus rfl); (focus (intro W hSW; (try dsimp only at hSW); (try (obtain ⟨hS1, hSW⟩ := hSW)); (try (obtain ⟨hS2, hSW⟩ := hSW)); (try (obtain ⟨hS3, hSW⟩ := hSW)); (try (obtain ⟨hS4, hSW⟩ := hSW)); (try (obtain ⟨hS5, hSW⟩ := hSW)); go_simp; (try with_reducible rfl); done)); (focus exact fun _ _ _ h => h); (focus assumption)) | (refine TR.skip _ (by simp only [List.getElem?_toArray, List.getElem?_cons_succ, List.getElem?_cons_zero]; rfl) ?_ ?_ ?_ ?_; (focus rfl); (focus exact fun _ _ _ h => h); (focus assumption))); simp only [Act.put, List.setIfInBounds_toArray, List.set_cons_zero, List.set_cons_succ])
  iterate 1 ((first | (refine TR.val2 (v := ?_) _ (by simp only [List.getElem?_toArray, List.getElem?_cons_succ, List.getElem?_cons_zero]; rfl) ?_ ?_ ?_ ?_ ?_; rotate_left; (focus rfl); (focus (intro W hSW; (try dsimp only at hSW); (try (obtain ⟨hS1, hSW⟩ := hSW)); (try (obtain ⟨hS2, hSW⟩ := hSW)); (try (obtain ⟨hS3, hSW⟩ := hSW)); (try (obtain ⟨hS4, hSW⟩ := hSW)); (try (obtain ⟨hS5, hSW⟩ := hSW)); go_simp; (try with_reducible rfl); done)); (focus exact fun _ _ _ h => h); (focus assumption)) | (refine TR.skip _ (by simp only [List.getElem?_toArray, List.getElem?_cons_succ, List.getElem?_cons_zero]; rfl) ?_ ?_ ?_ ?_; (focus rfl); (focus exact fun _ _ _ h => h); (focus assumption))); simp only [Act.put, List.setIfInBounds_toArray, List.set_cons_zero, List.set_cons_succ])
  iterate 1 ((first | (refine TR.val2 (v := ?_) _ (by simp only [List.getElem?_toArray, List.getElem?_cons_succ, List.getElem?_cons_zero]; rfl) ?_ ?_ ?_ ?_ ?_; rotate_left; (focus rfl); (focus (intro W hSW; (try dsimp only at hSW); (try (obtain ⟨hS1, hSW⟩ := hSW)); (try (obtain ⟨hS2, hSW⟩ := hSW)); (try (obtain ⟨hS3, hSW⟩ := hSW)); (try (obtain ⟨hS4, hSW⟩ := hSW)); (try (obtain ⟨hS5, hSW⟩ := hSW)); go_simp; (try with_reducible rfl); done)); (focus exact fun _ _ _ h => h); (focus assumption)) | (refine TR.skip _ (by simp only [List.getElem?_toArray, List.getElem?_cons_succ, List.getElem?_cons_zero]; rfl) ?_ ?_ ?_ ?_; (focus rfl); (focus exact fun _ _ _ h => h); (focus assumption))); simp only [Act.put, List.setIfInBounds_toArray, List.set_cons_zero, List.set_cons_succ])
  iterate 1 ((first | (refine TR.val2 (v := ?_) _ (by simp only [List.getElem?_toArray, List.getElem?_cons_succ, List.getElem?_cons_zero]; rfl) ?_ ?_ ?_ ?_ ?_; rotate_left; (focus rfl); (focus (intro W hSW; (try dsimp only at hSW); (try (obtain ⟨hS1, hSW⟩ := hSW)); (try (obtain ⟨hS2, hSW⟩ := hSW)); (try (obtain ⟨hS3, hSW⟩ := hSW)); (try (obtain ⟨hS4, hSW⟩ := hSW)); (try (obtain ⟨hS5, hSW⟩ := hSW)); go_simp; (try with_reducible rfl); done)); (focus exact fun _ _ _ h => h); (focus assumption)) | (refine TR.skip _ (by simp only [List.getElem?_toArray, List.getElem?_cons_succ, List.getElem?_cons_zero]; rfl) ?_ ?_ ?_ ?_; (focus rfl); (focus exact fun _ _ _ h => h); (focus assumption))); simp only [Act.put, List.setIfInBounds_toArray, List.set_cons_zero, List.set_cons_succ])
  iterate 1 ((first | (refine TR.val2 (v := ?_) _ (by simp only [List.getElem?_toArray, List.getElem?_cons_succ, List.getElem?_cons_zero]; rfl) ?_ ?_ ?_ ?_ ?_; rotate_left; (focus rfl); (focus (intro W hSW; (try dsimp only at hSW); (try (obtain ⟨hS1, hSW⟩ := hSW)); (try (obtain ⟨hS2, hSW⟩ := hSW)); (try (obtain ⟨hS3, hSW⟩ := hSW)); (try (obtain ⟨hS4, hSW⟩ := hSW)); (try (obtain ⟨hS5, hSW⟩ := hSW)); go_simp; (try with_reducible rfl); done)); (focus exact fun _ _ _ h => h); (focus assumption)) | (refine TR.skip _ (by simp only [List.getElem?_toArray, List.getElem?_cons_succ, List.getElem?_cons_zero]; rfl) ?_ ?_ ?_ ?_; (focus rfl); (focus exact fun _ _ _ h => h); (focus assumption))); simp only [Act.put, List.setIfInBounds_toArray, List.set_cons_zero, List.set_cons_succ])
  refine TR.val2 (v := .agg #[.int .i64 sx, .int .i64 lx, .slice ax nx cx]) _ (by simp only [List.getElem?_toArray, List.getElem?_cons_succ, List.getElem?_cons_zero]; rfl) ?_ ?_ ?_ ?_ ?_
  (focus rfl)
  (focus exact fun V hV => exec_load_slot 24 (.tmp 5) rfl ⟨g, 0, none⟩ rfl [.int .i64 sx, .int .i64 lx, .slice ax nx cx] _ (row_cells hV.1) Try.underlying24 rfl HI.out)
  (focus exact fun _ _ _ h => h)
  (focus exact hS)
  simp only [Act.put, List.setIfInBounds_toArray, List.set_cons_zero, List.set_cons_succ]
  refine TR.val2 (v := .agg #[.int .i64 sx, .int .i64 lx, .slice ax nx cx]) _ (by simp only [List.getElem?_toArray, List.getElem?_cons_succ, List.getElem?_cons_zero]; rfl) ?_ ?_ ?_ ?_ ?_
  (focus rfl)
  (focus exact fun V hV => exec_load_slot 24 (.tmp 5) rfl ⟨g, 0, none⟩ rfl [.int .i64 sx, .int .i64 lx, .slice ax nx cx] _ (row_cells hV.1) Try.underlying24 rfl HI.out)
  (focus exact fun _ _ _ h => h)
  (focus exact hS)
  simp only [Act.put, List.setIfInBounds_toArray, List.set_cons_zero, List.set_cons_succ]
  refine TR.eff _ (by simp only [List.getElem?_toArray, List.getElem?_cons_succ, List.getElem?_cons_zero]; rfl) (by rfl) (fun K hK => ?_); go_simp
  refine (check_v sx lx ax nx cx w11 (by omega)).mono ?_
  rintro e w12 ⟨rfl, b_⟩
  have B12 := Lib.hid (B11.out.trans (b_.mono B11.out.size))
  have hS2 := KS.out _ B12.out
  refine hK.out _ _ hS2 ?_
  clear hK hS b_ 
  have hS := hS2
  clear hS2
  (try simp only [Act.put, List.setIfInBounds_toArray, List.set_cons_zero, List.set_cons_succ])
  refine TR.eff _ (by simp only [List.getElem?_toArray, List.getElem?_cons_succ, List.getElem?_cons_zero]; rfl) (by rfl) (fun K hK => ?_); go_simp
  refine (rcheck_v sx lx ax nx cx w12 (by omega)).mono ?_
  rintro e w13 ⟨rfl, b_⟩
  have B13 := Lib.hid (B12.out.trans (b_.mono B12.out.size))
  have hS2 := KS.out _ B13.out
  refine hK.out _ _ hS2 ?_
  clear hK hS b_ 
  have hS := hS2
  clear hS2
  (try simp only [Act.put, List.setIfInBounds_toArray, List.set_cons_zero, List.set_cons_succ])
  iterate 1 ((first | (refine TR.val2 (v := ?_) _ (by simp only [List.getElem?_toArray, List.getElem?_cons_succ, List.getElem?_cons_zero]; rfl) ?_ ?_ ?_ ?_ ?_; rotate_left; (focus rfl); (focus (intro W hSW; (try dsimp only at hSW); (try (obtain ⟨hS1, hSW⟩ := hSW)); (try (obtain ⟨hS2, hSW⟩ := hSW)); (try (obtain ⟨hS3, hSW⟩ := hSW)); (try (obtain ⟨hS4, hSW⟩ := hSW)); (try (obtain ⟨hS5, hSW⟩ := hSW)); go_simp; (try with_reducible rfl); done)); (focus exact fun _ _ _ h => h); (focus assumption)) | (refine TR.skip _ (by simp only [List.getElem?_toArray, List.getElem?_cons_succ, List.getElem?_cons_zero]; rfl) ?_ ?_ ?_ ?_; (focus rfl); (focus exact fun _ _ _ h => h); (focus assumption))); simp only [Act.put, List.setIfInBounds_toArray, List.set_cons_zero, List.set_cons_succ])
  iterate 1 ((first | (refine TR.val2 (v := ?_) _ (by simp only [List.getElem?_toArray, List.getElem?_cons_succ, List.getElem?_cons_zero]; rfl) ?_ ?_ ?_ ?_ ?_; rotate_left; (focus rfl); (focus (intro W hSW; (try dsimp only at hSW); (try (obtain ⟨hS1, hSW⟩ := hSW)); (try (obtain ⟨hS2, hSW⟩ := hSW)); (try (obtain ⟨hS3, hSW⟩ := hSW)); (try (obtain ⟨hS4, hSW⟩ := hSW)); (try (obtain ⟨hS5, hSW⟩ := hSW)); go_simp; (try with_reducible rfl); done)); (focus exact fun _ _ _ h => h); (focus assumption)) | (refine TR.skip _ (by simp only [List.getElem?_toArray, List.getElem?_cons_succ, List.getElem?_cons_zero]; rfl) ?_ ?_ ?_ ?_; (focus rfl); (focus exact fun _ _ _ h => h); (focus assumption))); simp only [Act.put, List.setIfInBounds_toArray, List.set_cons_zero, List.set_cons_succ])
  iterate 1 ((first | (refine TR.val2 (v := ?_) _ (by simp only [List.getElem?_toArray, List.getElem?_cons_succ, List.getElem?_cons_zero]; rfl) ?_ ?_ ?_ ?_ ?_; rotate_left; (focus rfl); (focus (intro W hSW; (try dsimp only at hSW); (try (obtain ⟨hS1, hSW⟩ := hSW)); (try (obtain ⟨hS2, hSW⟩ := hSW)); (try (obtain ⟨hS3, hSW⟩ := hSW)); (try (obtain ⟨hS4, hSW⟩ := hSW)); (try (obtain ⟨hS5, hSW⟩ := hSW)); go_simp; (try with_reducible rfl); done)); (focus exact fun _ _ _ h => h); (focus assumption)) | (refine TR.skip _ (by simp only [List.getElem?_toArray, List.getElem?_cons_succ, List.getElem?_cons_zero]; rfl) ?_ ?_ ?_ ?_; (focus rfl); (focus exact fun _ _ _ h => h); (focus assumption))); simp only [Act.put, List.setIfInBounds_toArray, List.set_cons_zero, List.set_cons_succ])
  refine TR.val2 (v := .agg #[.int .i64 sx, .int .i64 lx, .slice ax nx cx]) _ (by simp only [List.getElem?_toArray, List.getElem?_cons_succ, List.getElem?_cons_zero]; rfl) ?_ ?_ ?_ ?_ ?_
  (focus rfl)
  (focus exact fun V hV => exec_load_slot 24 (.tmp 5) rfl ⟨g, 0, none⟩ rfl [.int .i64 sx, .int .i64 lx, .slice ax nx cx] _ (row_cells hV.1) Try.underlying24 rfl HI.out)
  (focus exact fun _ _ _ h => h)
  (focus exact hS)
  simp only [Act.put, List.setIfInBounds_toArray, List.set_cons_zero, List.set_cons_succ]
  iterate 1 ((first | (refine TR.val2 (v := ?_) _ (by simp only [List.getElem?_toArray, List.getElem?_cons_succ, List.getElem?_cons_zero]; rfl) ?_ ?_ ?_ ?_ ?_; rotate_left; (focus rfl); (focus (intro W hSW; (try dsimp only at hSW); (try (obtain ⟨hS1, hSW⟩ := hSW)); (try (obtain ⟨hS2, hSW⟩ := hSW)); (try (obtain ⟨hS3, hSW⟩ := hSW)); (try (obtain ⟨hS4, hSW⟩ := hSW)); (try (obtain ⟨hS5, hSW⟩ := hSW)); go_simp; (try with_reducible rfl); done)); (focus exact fun _ _ _ h => h); (focus assumption)) | (refine TR.skip _ (by simp only [List.getElem?_toArray, List.getElem?_cons_succ, List.getElem?_cons_zero]; rfl) ?_ ?_ ?_ ?_; (focus rfl); (focus exact fun _ _ _ h => h); (focus assumption))); simp only [Act.put, List.setIfInBounds_toArray, List.set_cons_zero, List.set_cons_succ])
  iterate 1 ((first | (refine TR.val2 (v := ?_) _ (by simp only [List.getElem?_toArray, List.getElem?_cons_succ, List.getElem?_cons_zero]; rfl) ?_ ?_ ?_ ?_ ?_; rotate_left; (focus rfl); (focus (intro W hSW; (try dsimp only at hSW); (try (obtain ⟨hS1, hSW⟩ := hSW)); (try (obtain ⟨hS2, hSW⟩ := hSW)); (try (obtain ⟨hS3, hSW⟩ := hSW)); (try (obtain ⟨hS4, hSW⟩ := hSW)); (try (obtain ⟨hS5, hSW⟩ := hSW)); go_simp; (try with_reducible rfl); done)); (focus exact fun _ _ _ h => h); (focus assumption)) | (refine TR.skip _ (by simp only [List.getElem?_toArray, List.getElem?_cons_succ, List.getElem?_cons_zero]; rfl) ?_ ?_ ?_ ?_; (focus rfl); (focus exact fun _ _ _ h => h); (focus assumption))); simp only [Act.put, List.setIfInBounds_toArray, List.set_cons_zero, List.set_cons_succ])
  refine TR.val2 (v := .agg #[.int .i64 sx, .int .i64 lx, .slice ax nx cx]) _ (by simp only [List.getElem?_toArray, List.getElem?_cons_succ, List.getElem?_cons_zero]; rfl) ?_ ?_ ?_ ?_ ?_
  (focus rfl)
  (focus exact fun V hV => exec_load_slot 24 (.tmp 5) rfl ⟨g, 0, none⟩ rfl [.int .i64 sx, .int .i64 lx, .slice ax nx cx] _ (row_cells hV.1) Try.underlying24 rfl HI.out)
  (focus exact fun _ _ _ h => h)
  (focus exact hS)
  simp only [Act.put, List.setIfInBounds_toArray, List.set_cons_zero, List.set_cons_succ]
  iterate 1 ((first | (refine TR.val2 (v := ?_) _ (by simp only [List.getElem?_toArray, List.getElem?_cons_succ, List.getElem?_cons_zero]; rfl) ?_ ?_ ?_ ?_ ?_; rotate_left; (focus rfl); (focus (intro W hSW; (try dsimp only at hSW); (try (obtain ⟨hS1, hSW⟩ := hSW)); (try (obtain ⟨hS2, hSW⟩ := hSW)); (try (obtain ⟨hS3, hSW⟩ := hSW)); (try (obtain ⟨hS4, hSW⟩ := hSW)); (try (obtain ⟨hS5, hSW⟩ := hSW)); go_simp; (try with_reducible rfl); done)); (focus exact fun _ _ _ h => h); (focus assumption)) | (refine TR.skip _ (by simp only [List.getElem?_toArray, List.getElem?_cons_succ, List.getElem?_cons_zero]; rfl) ?_ ?_ ?_ ?_; (focus rfl); (focus exact fun _ _ _ h => h); (focus assumption))); simp only [Act.put, List.setIfInBounds_toArray, List.set_cons_zero, List.set_cons_succ])
  iterate 1 ((first | (refine TR.val2 (v := ?_) _ (by simp only [List.getElem?_toArray, List.getElem?_cons_succ, List.getElem?_cons_zero]; rfl) ?_ ?_ ?_ ?_ ?_; rotate_left; (focus rfl); (focus (intro W hSW; (try dsimp only at hSW); (try (obtain ⟨hS1, hSW⟩ := hSW)); (try (obtain ⟨hS2, hSW⟩ := hSW)); (try (obtain ⟨hS3, hSW⟩ := hSW)); (try (obtain ⟨hS4, hSW⟩ := hSW)); (try (obtain ⟨hS5, hSW⟩ := hSW)); go_simp; (try with_reducible rfl); done)); (focus exact fun _ _ _ h => h); (focus assumption)) | (refine TR.skip _ (by simp only [List.getElem?_toArray, List.getElem?_cons_succ, List.getElem?_cons_zero]; rfl) ?_ ?_ ?_ ?_; (focus rfl); (focus exact fun _ _ _ h => h); (focus assumption))); simp only [Act.put, List.setIfInBounds_toArray, List.set_cons_zero, List.set_cons_succ])
  refine TR.eff _ (by simp only [List.getElem?_toArray, List.getElem?_cons_succ, List.getElem?_cons_zero]; rfl) (by rfl) (fun K hK => ?_); go_simp
  refine (own_any g A m c L w13 (Reads.below HR.out (B9.out.trans (B13.out.mono hg9))) (by have := B13.out.size; omega) (by omega)).mono ?_
  rintro e w14 ⟨Ao, co_, rfl, hoo, b_⟩
  have OO := Lib.hid hoo.reads
  have hco := hoo.2
  have B14 := Lib.hid (B13.out.trans (b_.mono B13.out.size))
  have hS2 := KS.out _ B14.out
  refine hK.out _ _ hS2 ?_
  clear hK hS b_ hoo
  have hS := hS2
  clear hS2
  (try simp only [Act.put, List.setIfInBounds_toArray, List.set_cons_zero, List.set_cons_succ])
  refine TR.eff _ (by simp only [List.getElem?_toArray, List.getElem?_cons_succ, List.getElem?_cons_zero]; rfl) (by rfl) (fun K hK => ?_); go_simp
  refine (fits_v sx lx n ax Ao nx cx m co_ w14.heap.size dx L w14 (Reads.more (HX.out.below (B9.out.trans (B14.out.mono hg9))) (by have := B14.out.size; omega)) OO.out (Nat.le_refl _) (by omega) (by omega)).mono ?_
  rintro e w15 ⟨rfl, b_⟩
  have B15 := Lib.hid (B14.out.trans (b_.mono B14.out.size))
  have hS2 := KS.out _ B15.out
  refine hK.out _ _ hS2 ?_
  clear hK hS b_ 
  have hS := hS2
  clear hS2
  (try simp only [Act.put, List.setIfInBounds_toArray, List.set_cons_zero, List.set_cons_succ])
  clear OO hco
  refine TR.eff _ (by simp only [List.getElem?_toArray, List.getElem?_cons_succ, List.getElem?_cons_zero]; rfl) (by rfl) (fun K hK => ?_); go_simp
  refine (rfits_v sx lx n ax A nx cx m c g dx L w15 (HX.out.below (B9.out.trans (B15.out.mono hg9))) (Reads.below HR.out (B9.out.trans (B15.out.mono hg9))) (by have := B15.out.size; omega) (by omega) (by omega)).mono ?_
  rintro e w16 ⟨rfl, b_⟩
  have B16 := Lib.hid (B15.out.trans (b_.mono B15.out.size))
  have hS2 := KS.out _ B16.out
  refine hK.out _ _ hS2 ?_
  clear hK hS b_ 
  have hS := hS2
  clear hS2
  (try simp only [Act.put, List.setIfInBounds_toArray, List.set_cons_zero, List.set_cons_succ])
  iterate 1 ((first | (refine TR.val2 (v := ?_) _ (by simp only [List.getElem?_toArray, List.getElem?_cons_succ, List.getElem?_cons_zero]; rfl) ?_ ?_ ?_ ?_ ?_; rotate_left; (focus rfl); (focus (intro W hSW; (try dsimp only at hSW); (try (obtain ⟨hS1, hSW⟩ := hSW)); (try (obtain ⟨hS2, hSW⟩ := hSW)); (try (obtain ⟨hS3, hSW⟩ := hSW)); (try (obtain ⟨hS4, hSW⟩ := hSW)); (try (obtain ⟨hS5, hSW⟩ := hSW)); go_simp; (try with_reducible rfl); done)); (focus exact fun _ _ _ h => h); (focus assumption)) | (refine TR.skip _ (by simp only [List.getElem?_toArray, List.getElem?_cons_succ, List.getElem?_cons_zero]; rfl) ?_ ?_ ?_ ?_; (focus rfl); (focus exact fun _ _ _ h => h); (focus assumption))); simp only [Act.put, List.setIfInBounds_toArray, List.set_cons_zero, List.set_cons_succ])
  iterate 1 ((first | (refine TR.val2 (v := ?_) _ (by simp only [List.getElem?_toArray, List.getElem?_cons_succ, List.getElem?_cons_zero]; rfl) ?_ ?_ ?_ ?_ ?_; rotate_left; (focus rfl); (focus (intro W hSW; (try dsimp only at hSW); (try (obtain ⟨hS1, hSW⟩ := hSW)); (try (obtain ⟨hS2, hSW⟩ := hSW)); (try (obtain ⟨hS3, hSW⟩ := hSW)); (try (obtain ⟨hS4, hSW⟩ := hSW)); (try (obtain ⟨hS5, hSW⟩ := hSW)); go_simp; (try with_reducible rfl); done)); (focus exact fun _ _ _ h => h); (focus assumption)) | (refine TR.skip _ (by simp only [List.getElem?_toArray, List.getElem?_cons_succ, List.getElem?_cons_zero]; rfl) ?_ ?_ ?_ ?_; (focus rfl); (focus exact fun _ _ _ h => h); (focus assumption))); simp only [Act.put, List.setIfInBounds_toArray, List.set_cons_zero, List.set_cons_succ])
  iterate 1 ((first | (refine TR.val2 (v := ?_) _ (by simp only [List.getElem?_toArray, List.getElem?_cons_succ, List.getElem?_cons_zero]; rfl) ?_ ?_ ?_ ?_ ?_; rotate_left; (focus rfl); (focus (intro W hSW; (try dsimp only at hSW); (try (obtain ⟨hS1, hSW⟩ := hSW)); (try (obtain ⟨hS2, hSW⟩ := hSW)); (try (obtain ⟨hS3, hSW⟩ := hSW)); (try (obtain ⟨hS4, hSW⟩ := hSW)); (try (obtain ⟨hS5, hSW⟩ := hSW)); go_simp; (try with_reducible rfl); done)); (focus exact fun _ _ _ h => h); (focus assumption)) | (refine TR.skip _ (by simp only [List.getElem?_toArray, List.getElem?_cons_succ, List.getElem?_cons_zero]; rfl) ?_ ?_ ?_ ?_; (focus rfl); (focus exact fun _ _ _ h => h); (focus assumption))); simp only [Act.put, List.setIfInBounds_toArray, List.set_cons_zero, List.set_cons_succ])
  refine TR.val2 (v := .agg #[.int .i64 sx, .int .i64 lx, .slice ax nx cx]) _ (by simp only [List.getElem?_toArray, List.getElem?_cons_succ, List.getElem?_cons_zero]; rfl) ?_ ?_ ?_ ?_ ?_
  (focus rfl)
  (focus exact fun V hV => exec_load_slot 24 (.tmp 5) rfl ⟨g, 0, none⟩ rfl [.int .i64 sx, .int .i64 lx, .slice ax nx cx] _ (row_cells hV.1) Try.underlying24 rfl HI.out)
  (focus exact fun _ _ _ h => h)
  (focus exact hS)
  simp only [Act.put, List.setIfInBounds_toArray, List.set_cons_zero, List.set_cons_succ]
  iterate 1 ((first | (refine TR.val2 (v := ?_) _ (by simp only [List.getElem?_toArray, List.getElem?_cons_succ, List.getElem?_cons_zero]; rfl) ?_ ?_ ?_ ?_ ?_; rotate_left; (focus rfl); (focus (intro W hSW; (try dsimp only at hSW); (try (obtain ⟨hS1, hSW⟩ := hSW)); (try (obtain ⟨hS2, hSW⟩ := hSW)); (try (obtain ⟨hS3, hSW⟩ := hSW)); (try (obtain ⟨hS4, hSW⟩ := hSW)); (try (obtain ⟨hS5, hSW⟩ := hSW)); go_simp; (try with_reducible rfl); done)); (focus exact fun _ _ _ h => h); (focus assumption)) | (refine TR.skip _ (by simp only [List.getElem?_toArray, List.getElem?_cons_succ, List.getElem?_cons_zero]; rfl) ?_ ?_ ?_ ?_; (focus rfl); (focus exact fun _ _ _ h => h); (focus assumption))); simp only [Act.put, List.setIfInBounds_toArray, List.set_cons_zero, List.set_cons_succ])
  refine TR.val2 (v := .agg #[.int .i64 sx, .int .i64 lx, .slice ax nx cx]) _ (by simp only [List.getElem?_toArray, List.getElem?_cons_succ, List.getElem?_cons_zero]; rfl) ?_ ?_ ?_ ?_ ?_
  (focus rfl)
  (focus exact fun V hV => exec_load_slot 24 (.tmp 5) rfl ⟨g, 0, none⟩ rfl [.int .i64 sx, .int .i64 lx, .slice ax nx cx] _ (row_cells hV.1) Try.underlying24 rfl HI.out)
  (focus exact fun _ _ _ h => h)
  (focus exact hS)
  simp only [Act.put, List.setIfInBounds_toArray, List.set_cons_zero, List.set_cons_succ]
  iterate 1 ((first | (refine TR.val2 (v := ?_) _ (by simp only [List.getElem?_toArray, List.getElem?_cons_succ, List.getElem?_cons_zero]; rfl) ?_ ?_ ?_ ?_ ?_; rotate_left; (focus rfl); (focus (intro W hSW; (try dsimp only at hSW); (try (obtain ⟨hS1, hSW⟩ := hSW)); (try (obtain ⟨hS2, hSW⟩ := hSW)); (try (obtain ⟨hS3, hSW⟩ := hSW)); (try (obtain ⟨hS4, hSW⟩ := hSW)); (try (obtain ⟨hS5, hSW⟩ := hSW)); go_simp; (try with_reducible rfl); done)); (focus exact fun _ _ _ h => h); (focus assumption)) | (refine TR.skip _ (by simp only [List.getElem?_toArray, List.getElem?_cons_succ, List.getElem?_cons_zero]; rfl) ?_ ?_ ?_ ?_; (focus rfl); (focus exact fun _ _ _ h => h); (focus assumption))); simp only [Act.put, List.setIfInBounds_toArray, List.set_cons_zero, List.set_cons_succ])
  refine TR.eff _ (by simp only [List.getElem?_toArray, List.getElem?_cons_succ, List.getElem?_cons_zero]; rfl) (by rfl) (fun K hK => ?_); go_simp
  refine (own_any g A m c L w16 (Reads.below HR.out (B9.out.trans (B16.out.mono hg9))) (by have := B16.out.size; omega) (by omega)).mono ?_
  rintro e w17 ⟨Ao, co_, rfl, hoo, b_⟩
  have OO := Lib.hid hoo.reads
  have hco := hoo.2
  have B17 := Lib.hid (B16.out.trans (b_.mono B16.out.size))
  have hS2 := KS.out _ B17.out
  refine hK.out _ _ hS2 ?_
  clear hK hS b_ hoo
  have hS := hS2
  clear hS2
  (try simp only [Act.put, List.setIfInBounds_toArray, List.set_cons_zero, List.set_cons_succ])
  refine TR.eff _ (by simp only [List.getElem?_toArray, List.getElem?_cons_succ, List.getElem?_cons_zero]; rfl) (by rfl) (fun K hK => ?_); go_simp
  refine (whole_v sx lx ax Ao nx cx m co_ w17.heap.size dx L w17 (Reads.more (HX.out.below (B9.out.trans (B17.out.mono hg9))) (by have := B17.out.size; omega)) OO.out (Nat.le_refl _) (by omega) (by omega) hco).mono ?_
  rintro e w18 ⟨rfl, b_⟩
  have B18 := Lib.hid (B17.out.trans (b_.mono B17.out.size))
  have hS2 := KS.out _ B18.out
  refine hK.out _ _ hS2 ?_
  clear hK hS b_ 
  have hS := hS2
  clear hS2
  (try simp only [Act.put, List.setIfInBounds_toArray, List.set_cons_zero, List.set_cons_succ])
  clear OO hco
  refine TR.eff _ (by simp only [List.getElem?_toArray, List.getElem?_cons_succ, List.getElem?_cons_zero]; rfl) (by rfl) (fun K hK => ?_); go_simp
  refine (rwhole_v sx lx ax A nx cx m c g dx L w18 (HX.out.below (B9.out.trans (B18.out.mono hg9))) (Reads.below HR.out (B9.out.trans (B18.out.mono hg9))) (by have := B18.out.size; omega) (by omega) (by omega) hmc).mono ?_
  rintro e w19 ⟨rfl, b_⟩
  have B19 := Lib.hid (B18.out.trans (b_.mono B18.out.size))
  have hS2 := KS.out _ B19.out
  refine hK.out _ _ hS2 ?_
  clear hK hS b_ 
  have hS := hS2
  clear hS2
  (try simp only [Act.put, List.setIfInBounds_toArray, List.set_cons_zero, List.set_cons_succ])
  iterate 1 ((first | (refine TR.val2 (v := ?_) _ (by simp only [List.getElem?_toArray, List.getElem?_cons_succ, List.getElem?_cons_zero]; rfl) ?_ ?_ ?_ ?_ ?_; rotate_left; (focus rfl); (focus (intro W hSW; (try dsimp only at hSW); (try (obtain ⟨hS1, hSW⟩ := hSW)); (try (obtain ⟨hS2, hSW⟩ := hSW)); (try (obtain ⟨hS3, hSW⟩ := hSW)); (try (obtain ⟨hS4, hSW⟩ := hSW)); (try (obtain ⟨hS5, hSW⟩ := hSW)); go_simp; (try with_reducible rfl); done)); (focus exact fun _ _ _ h => h); (focus assumption)) | (refine TR.skip _ (by simp only [List.getElem?_toArray, List.getElem?_cons_succ, List.getElem?_cons_zero]; rfl) ?_ ?_ ?_ ?_; (focus rfl); (focus exact fun _ _ _ h => h); (focus assumption))); simp only [Act.put, List.setIfInBounds_toArray, List.set_cons_zero, List.set_cons_succ])
  iterate 1 ((first | (refine TR.val2 (v := ?_) _ (by simp only [List.getElem?_toArray, List.getElem?_cons_succ, List.getElem?_cons_zero]; rfl) ?_ ?_ ?_ ?_ ?_; rotate_left; (focus rfl); (focus (intro W hSW; (try dsimp only at hSW); (try (obtain ⟨hS1, hSW⟩ := hSW)); (try (obtain ⟨hS2, hSW⟩ := hSW)); (try (obtain ⟨hS3, hSW⟩ := hSW)); (try (obtain ⟨hS4, hSW⟩ := hSW)); (try (obtain ⟨hS5, hSW⟩ := hSW)); go_simp; (try with_reducible rfl); done)); (focus exact fun _ _ _ h => h); (focus assumption)) | (refine TR.skip _ (by simp only [List.getElem?_toArray, List.getElem?_cons_succ, List.getElem?_cons_zero]; rfl) ?_ ?_ ?_ ?_; (focus rfl); (focus exact fun _ _ _ h => h); (focus assumption))); simp only [Act.put, List.setIfInBounds_toArray, List.set_cons_zero, List.set_cons_succ])
  iterate 1 ((first | (refine TR.val2 (v := ?_) _ (by simp only [List.getElem?_toArray, List.getElem?_cons_succ, List.getElem?_cons_zero]; rfl) ?_ ?_ ?_ ?_ ?_; rotate_left; (focus rfl); (focus (intro W hSW; (try dsimp only at hSW); (try (obtain ⟨hS1, hSW⟩ := hSW)); (try (obtain ⟨hS2, hSW⟩ := hSW)); (try (obtain ⟨hS3, hSW⟩ := hSW)); (try (obtain ⟨hS4, hSW⟩ := hSW)); (try (obtain ⟨hS5, hSW⟩ := hSW)); go_simp; (try with_reducible rfl); done)); (focus exact fun _ _ _ h => h); (focus assumption)) | (refine TR.skip _ (by simp only [List.getElem?_toArray, List.getElem?_cons_succ, List.getElem?_cons_zero]; rfl) ?_ ?_ ?_ ?_; (focus rfl); (focus exact fun _ _ _ h => h); (focus assumption))); simp only [Act.put, List.setIfInBounds_toArray, List.set_cons_zero, List.set_cons_succ])
  refine TR.val2 (v := .agg #[.int .i64 sx, .int .i64 lx, .slice ax nx cx]) _ (by simp only [List.getElem?_toArray, List.getElem?_cons_succ, List.getElem?_cons_zero]; rfl) ?_ ?_ ?_ ?_ ?_
  (focus rfl)
  (focus exact fun V hV => exec_load_slot 24 (.tmp 5) rfl ⟨g, 0, none⟩ rfl [.int .i64 sx, .int .i64 lx, .slice ax nx cx] _ (row_cells hV.1) Try.underlying24 rfl HI.out)
  (focus exact fun _ _ _ h => h)
  (focus exact hS)
  simp only [Act.put, List.setIfInBounds_toArray, List.set_cons_zero, List.set_cons_succ]
  refine TR.val2 (v := .agg #[.int .i64 so, .int .i64 lo_, .slice ao no co]) _ (by simp only [List.getElem?_toArray, List.getElem?_cons_succ, List.getElem?_cons_zero]; rfl) ?_ ?_ ?_ ?_ ?_
  (focus rfl)
  (focus exact fun V hV => exec_load_slot 24 (.tmp 6) rfl ⟨(g + 1), 0, none⟩ rfl [.int .i64 so, .int .i64 lo_, .slice ao no co] _ (row_cells hV.2.1) Try.underlying24 rfl HI.out)
  (focus exact fun _ _ _ h => h)
  (focus exact hS)
  simp only [Act.put, List.setIfInBounds_toArray, List.set_cons_zero, List.set_cons_succ]
  refine TR.val2 (v := .agg #[.int .i64 sx, .int .i64 lx, .slice ax nx cx]) _ (by simp only [List.getElem?_toArray, List.getElem?_cons_succ, List.getElem?_cons_zero]; rfl) ?_ ?_ ?_ ?_ ?_
  (focus rfl)
  (focus exact fun V hV => exec_load_slot 24 (.tmp 5) rfl ⟨g, 0, none⟩ rfl [.int .i64 sx, .int .i64 lx, .slice ax nx cx] _ (row_cells hV.1) Try.underlying24 rfl HI.out)
  (focus exact fun _ _ _ h => h)
  (focus exact hS)
  simp only [Act.put, List.setIfInBounds_toArray, List.set_cons_zero, List.set_cons_succ]
  refine TR.val2 (v := .agg #[.int .i64 so, .int .i64 lo_, .slice ao no co]) _ (by simp only [List.getElem?_toArray, List.getElem?_cons_succ, List.getElem?_cons_zero]; rfl) ?_ ?_ ?_ ?_ ?_
  (focus rfl)
  (focus exact fun V hV => exec_load_slot 24 (.tmp 6) rfl ⟨(g + 1), 0, none⟩ rfl [.int .i64 so, .int .i64 lo_, .slice ao no co] _ (row_cells hV.2.1) Try.underlying24 rfl HI.out)
  (focus exact fun _ _ _ h => h)
  (focus exact hS)
  simp only [Act.put, List.setIfInBounds_toArray, List.set_cons_zero, List.set_cons_succ]
  refine TR.eff _ (by simp only [List.getElem?_toArray, List.getElem?_cons_succ, List.getElem?_cons_zero]; rfl) (by rfl) (fun K hK => ?_); go_simp
  refine (same_v sx lx so lo_ ax ao nx cx no co g dx do_ w19 (HX.out.below (B9.out.trans (B19.out.mono hg9))) (HO.out.below (B9.out.trans (B19.out.mono hg9))) (by have := B19.out.size; omega) (by omega)).mono ?_
  rintro e w20 ⟨rfl, b_⟩
  have B20 := Lib.hid (B19.out.trans (b_.mono B19.out.size))
  have hS2 := KS.out _ B20.out
  refine hK.out _ _ hS2 ?_
  clear hK hS b_ 
  have hS := hS2
  clear hS2
  (try simp only [Act.put, List.setIfInBounds_toArray, List.set_cons_zero, List.set_cons_succ])
  refine TR.eff _ (by simp only [List.getElem?_toArray, List.getElem?_cons_succ, List.getElem?_cons_zero]; rfl) (by rfl) (fun K hK => ?_); go_simp
  refine (rsame_v sx lx so lo_ ax ao nx cx no co g dx do_ w20 (HX.out.below (B9.out.trans (B20.out.mono hg9))) (HO.out.below (B9.out.trans (B20.out.mono hg9))) (by have := B20.out.size; omega) (by omega)).mono ?_
  rintro e w21 ⟨rfl, b_⟩
  have B21 := Lib.hid (B20.out.trans (b_.mono B20.out.size))
  have hS2 := KS.out _ B21.out
  refine hK.out _ _ hS2 ?_
  clear hK hS b_ 
  have hS := hS2
  clear hS2
  (try simp only [Act.put, List.setIfInBounds_toArray, List.set_cons_zero, List.set_cons_succ])
  iterate 1 ((first | (refine TR.val2 (v := ?_) _ (by simp only [List.getElem?_toArray, List.getElem?_cons_succ, List.getElem?_cons_zero]; rfl) ?_ ?_ ?_ ?_ ?_; rotate_left; (focus rfl); (focus (intro W hSW; (try dsimp only at hSW); (try (obtain ⟨hS1, hSW⟩ := hSW)); (try (obtain ⟨hS2, hSW⟩ := hSW)); (try (obtain ⟨hS3, hSW⟩ := hSW)); (try (obtain ⟨hS4, hSW⟩ := hSW)); (try (obtain ⟨hS5, hSW⟩ := hSW)); go_simp; (try with_reducible rfl); done)); (focus exact fun _ _ _ h => h); (focus assumption)) | (refine TR.skip _ (by simp only [List.getElem?_toArray, List.getElem?_cons_succ, List.getElem?_cons_zero]; rfl) ?_ ?_ ?_ ?_; (focus rfl); (focus exact fun _ _ _ h => h); (focus assumption))); simp only [Act.put, List.setIfInBounds_toArray, List.set_cons_zero, List.set_cons_succ])
  iterate 1 ((first | (refine TR.val2 (v := ?_) _ (by simp only [List.getElem?_toArray, List.getElem?_cons_succ, List.getElem?_cons_zero]; rfl) ?_ ?_ ?_ ?_ ?_; rotate_left; (focus rfl); (focus (intro W hSW; (try dsimp only at hSW); (try (obtain ⟨hS1, hSW⟩ := hSW)); (try (obtain ⟨hS2, hSW⟩ := hSW)); (try (obtain ⟨hS3, hSW⟩ := hSW)); (try (obtain ⟨hS4, hSW⟩ := hSW)); (try (obtain ⟨hS5, hSW⟩ := hSW)); go_simp; (try with_reducible rfl); done)); (focus exact fun _ _ _ h => h); (focus assumption)) | (refine TR.skip _ (by simp only [List.getElem?_toArray, List.getElem?_cons_succ, List.getElem?_cons_zero]; rfl) ?_ ?_ ?_ ?_; (focus rfl); (focus exact fun _ _ _ h => h); (focus assumption))); simp only [Act.put, List.setIfInBounds_toArray, List.set_cons_zero, List.set_cons_succ])
  iterate 1 ((first | (refine TR.val2 (v := ?_) _ (by simp only [List.getElem?_toArray, List.getElem?_cons_succ, List.getElem?_cons_zero]; rfl) ?_ ?_ ?_ ?_ ?_; rotate_left; (focus rfl); (focus (intro W hSW; (try dsimp only at hSW); (try (obtain ⟨hS1, hSW⟩ := hSW)); (try (obtain ⟨hS2, hSW⟩ := hSW)); (try (obtain ⟨hS3, hSW⟩ := hSW)); (try (obtain ⟨hS4, hSW⟩ := hSW)); (try (obtain ⟨hS5, hSW⟩ := hSW)); go_simp; (try with_reducible rfl); done)); (focus exact fun _ _ _ h => h); (focus assumption)) | (refine TR.skip _ (by simp only [List.getElem?_toArray, List.getElem?_cons_succ, List.getElem?_cons_zero]; rfl) ?_ ?_ ?_ ?_; (focus rfl); (focus exact fun _ _ _ h => h); (focus assumption))); simp only [Act.put, List.setIfInBounds_toArray, List.set_cons_zero, List.set_cons_succ])
  refine TR.done ?_
  clear hS
  go_wp2
  go_ret
  exact ⟨rfl, hg ▸ (B9.out.trans (B21.out.mono hg9))⟩
end Go.Proofs.Ytmaehbebpldpcaa
