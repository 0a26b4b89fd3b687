/-
  Records: the reference's Check.
-/
import Derived.Test.YtndekohimfjdeaaDoorRecD
namespace Go.Proofs.YtndekohimfjdeaaDoor
open Go.RowKit Go.Shelf
theorem chk_zero (l : Int) (m : Nat) : chk 0 l m ≠ 0 := by
  intro h
  have := chk_ok h
  omega
set_option maxRecDepth 100000 in
set_option maxHeartbeats 8000000 in
theorem rrecCheck_v (r : Rcd) (a : RSh) (B : Nat) (w : World) (hr : RReads w B r a) (hB : B ≤ w.heap.size) :
    Calls Tryd.prog 9 #[.agg #[.string (st r.path), .slice a.A a.n a.c, .int .i64 r.dev, .bool r.gone, .int .i64 r.size, .int .i64 r.len, .slice a.D a.m a.k]] w fun e w' => e = .returned (.int .i64 (okR r : Int)) ∧ Below w.heap.size w w' := by
  obtain ⟨p, v, dv, g, s, l, ds⟩ := r
  obtain ⟨A, n, c, D, m, k⟩ := a
  dsimp only
  have HI := Lib.hid (show (Tryd.prog.info? 25).map (·.size) = some 3 by kernel_rfl)
  have HR := Lib.hid hr
  have hn := hr.hn
  have hm := hr.hm
  have hml : ds.length = m := hr.dg.len
  dsimp only at hn hm
  clear hr
  have BA := Lib.hid ((Below.refl w.heap.size w).alloc (Nat.le_refl _) (.cells #[.string (st p), .slice A n c, .int .i64 dv, .bool g, .int .i64 s, .int .i64 l, .slice D m k] 27))
  have X1 := Lib.hid (heap_alloc_new w (.cells #[.string (st p), .slice A n c, .int .i64 dv, .bool g, .int .i64 s, .int .i64 l, .slice D m k] 27))
  have hz : (w.alloc (.cells #[.string (st p), .slice A n c, .int .i64 dv, .bool g, .int .i64 s, .int .i64 l, .slice D m k] 27)).heap.size = w.heap.size + 1 := by simp
  have HOK := Lib.hid (show okR ⟨p, v, dv, g, s, l, ds⟩ = if checkL p ≠ 0 then checkL p else if okV 0 v = false then 2 else if chk s l m = 3 then 3 else if val v dv = 0 ∨ (g = true ∧ (decide (s = 0) && decide (l = 0) && decide (m = 0)) = false) ∨ (g = false ∧ chk s l m ≠ 0) then 2 else 0 by
    rw [← hml]; rfl)
  go_enter Tryd.func9, Tryd.ntmps9
  go_wp2_with fail
  generalize w.alloc (.cells #[.string (st p), .slice A n c, .int .i64 dv, .bool g, .int .i64 s, .int .i64 l, .slice D m k] 27) = w1 at *
  refine (prcheck_v p w1).mono ?_
  rintro e w2 ⟨rfl, b2⟩
  have X2 := Lib.hid ((b2.block w.heap.size (by omega)).trans X1.out)
  have B2 := Lib.hid (BA.out.trans (b2.mono (by omega)))
  have hz2 : w.heap.size + 1 ≤ w2.heap.size := by have := b2.size; omega
  clear X1 BA b2
  by_cases h1 : checkL p = 0
  case neg =>
    have d1 : ((checkL p : Int) == 0) = false := by rw [beq_eq_false_iff_ne]; omega
    have d2 : ((checkL p : Int) != 0) = true := by rw [bne_iff_ne]; omega
    have HQ := Lib.hid (show okR ⟨p, v, dv, g, s, l, ds⟩ = checkL p by rw [HOK.out, if_pos h1])
    clear h1
    generalize checkL p = q at *
    go_wp2
    go_ret
    exact ⟨by rw [HQ.out]; rfl, B2.out⟩
  have HQ1 := Lib.hid (HOK.out.trans (if_neg (by omega)))
  clear HOK
  rw [h1]
  clear h1
  have c1 : w2.cell? ⟨w.heap.size, 1, none⟩ = some (.slice A n c) := by rw [cell_of_row _ _ 1 _ _ _ X2.out]; rfl
  go_wp2_with fail
  refine (rcheck_v B A n c v w2 (Reads.below HR.out.cs (B2.out.mono hB)) (by omega) (by omega)).mono ?_
  rintro e w3 ⟨rfl, b3⟩
  have X3 := Lib.hid ((b3.block w.heap.size (by omega)).trans X2.out)
  have B3 := Lib.hid (B2.out.trans (b3.mono (by omega)))
  have hz3 : w.heap.size + 1 ≤ w3.heap.size := by have := b3.size; omega
  clear X2 B2 b3 c1
  cases h2 : okV 0 v
  · have HQ := Lib.hid (HQ1.out.trans (if_pos h2))
    clear h2
    go_wp2
    go_ret
    exact ⟨by rw [HQ.out]; rfl, B3.out⟩
  have HQ2 := Lib.hid (HQ1.out.trans (if_neg (by rw [h2]; decide)))
  clear HQ1 h2
  go_wp2_with (first
    | (refine wpList_load_slot rfl 25 (.tmp 16) rfl ⟨w.heap.size, 4, none⟩ rfl [.int .i64 s, .int .i64 l, .slice D m k] _ (rcells_at X3.out (three_at rfl rfl rfl)) Tryd.underlying25 rfl HI.out ?_)
    | fail)
  refine (brcheck_v s l D m k w3 (by omega)).mono ?_
  rintro e w4 ⟨rfl, b4⟩
  have X4 := Lib.hid ((b4.block w.heap.size (by omega)).trans X3.out)
  have B4 := Lib.hid (B3.out.trans (b4.mono (by omega)))
  have hz4 : w.heap.size + 1 ≤ w4.heap.size := by have := b4.size; omega
  clear X3 B3 b4
  by_cases h3 : chk s l m = 3
  · have HQ := Lib.hid (HQ2.out.trans (if_pos h3))
    rw [h3]
    clear h3
    go_wp2
    go_ret
    exact ⟨by rw [HQ.out]; rfl, B4.out⟩
  have HQ3 := Lib.hid (HQ2.out.trans (if_neg h3))
  have HZ := Lib.hid (show (decide (s = 0) && decide (l = 0) && decide (m = 0)) = true → chk s l m ≠ 0 by
    intro h
    simp only [Bool.and_eq_true, decide_eq_true_eq] at h
    rw [h.1.1]
    exact chk_zero l m)
  have d3 : ((chk s l m : Int) == 3) = false := by rw [beq_eq_false_iff_ne]; omega
  have HEM := Lib.hid (bare_v s l D m k)
  obtain ⟨em, hem⟩ : ∃ em, (decide (s = 0) && decide (l = 0) && decide (m = 0)) = em := ⟨_, rfl⟩
  have HS4 := Lib.hid (show ∀ V : World, V.heap[w.heap.size]? = some (.cells #[.string (st p), .slice A n c, .int .i64 dv, .bool g, .int .i64 s, .int .i64 l, .slice D m k] 27) → V.cell? ⟨w.heap.size, 1, none⟩ = some (.slice A n c) ∧ V.cell? ⟨w.heap.size, 2, none⟩ = some (.int .i64 dv) ∧ V.cell? ⟨w.heap.size, 3, none⟩ = some (.bool g) ∧ V.heap[w.heap.size]? = some (.cells #[.string (st p), .slice A n c, .int .i64 dv, .bool g, .int .i64 s, .int .i64 l, .slice D m k] 27) from fun V h => ⟨by rw [cell_of_row _ _ 1 _ _ _ h]; rfl, by rw [cell_of_row _ _ 2 _ _ _ h]; rfl, by rw [cell_of_row _ _ 3 _ _ _ h]; rfl, h⟩)
  rw [hem] at HEM HQ3 HZ
  clear HQ2 h3 hem
  generalize chk s l m = q at *
  by_cases h4 : val v dv = 0
  · have HQ := Lib.hid (HQ3.out.trans (if_pos (.inl h4)))
    have d4 : ((val v dv : Int) == 0) = true := by rw [beq_iff_eq]; omega
    clear h4 HQ3 HZ
    go_upto_region 9 with fail
    have hS : w4.drew.cell? ⟨w.heap.size, 1, none⟩ = some (.slice A n c) ∧ w4.drew.cell? ⟨w.heap.size, 2, none⟩ = some (.int .i64 dv) ∧ w4.drew.cell? ⟨w.heap.size, 3, none⟩ = some (.bool g) ∧ w4.drew.heap[w.heap.size]? = some (.cells #[.string (st p), .slice A n c, .int .i64 dv, .bool g, .int .i64 s, .int .i64 l, .slice D m k] 27) := HS4.out _ X4.out
    refine wp_region_text [(0, false), (1, false), (2, false), (3, false), (4, true), (5, false), (6, false), (7, false), (8, false), (9, false), (10, false), (11, true), (12, false), (13, false), (14, false), (15, false), (16, false), (17, false), (18, false), (19, false), (20, false), (21, false), (22, false)] (fun V => V.cell? ⟨w.heap.size, 1, none⟩ = some (.slice A n c) ∧ V.cell? ⟨w.heap.size, 2, none⟩ = some (.int .i64 dv) ∧ V.cell? ⟨w.heap.size, 3, none⟩ = some (.bool g) ∧ V.heap[w.heap.size]? = some (.cells #[.string (st p), .slice A n c, .int .i64 dv, .bool g, .int .i64 s, .int .i64 l, .slice D m k] 27)) (by kernel_rfl) (by kernel_rfl) (by kernel_rfl) (by kernel_rfl) (by kernel_rfl) (fun _ => ?_)
    simp only [outOf, List.getElem?_cons_zero, List.getElem?_cons_succ, Option.getD_some]
    have E4 := Lib.hid B4.out.drew
    have hz5 : w.heap.size + 1 ≤ w4.drew.heap.size := hz4
    generalize w4.drew = w5 at *
    iterate 4 ((first | (refine TW.val2 (v := ?_) ?_ ?_ ?_ ?_ ?_; rotate_left; (focus rfl); (focus (intro W hSW; (try dsimp only at hSW); (try (obtain ⟨hS1, hSW⟩ := hSW)); (try (obtain ⟨hS2, hSW⟩ := hSW)); (try (obtain ⟨hS3, hSW⟩ := hSW)); (try (obtain ⟨hS4, hSW⟩ := hSW)); (try (obtain ⟨hS5, hSW⟩ := hSW)); (try (obtain ⟨hS6, hSW⟩ := hSW)); (try (obtain ⟨hS7, hSW⟩ := hSW)); (try (obtain ⟨hS8, hSW⟩ := hSW)); go_simp; (try with_reducible rfl); done)); (focus exact fun _ _ _ h => h); (focus assumption)) | (refine TW.skip (e := false) ?_ ?_ ?_ ?_; (focus rfl); (focus exact fun _ _ _ h => h); (focus assumption))); simp only [Act.put, List.setIfInBounds_toArray, List.set_cons_zero, List.set_cons_succ])
    refine TW.eff (by rfl) (fun K hK => ?_); go_simp
    refine (rvalue_v B A n c v dv w5 (Reads.below HR.out.cs (E4.out.mono hB)) (by have := E4.out.size; omega) (by omega)).mono ?_
    rintro e w6 ⟨rfl, rfl⟩
    go_wp2_with fail; refine hK.out _ _ hS ?_; clear hK; (try simp only [Act.put, List.setIfInBounds_toArray, List.set_cons_zero, List.set_cons_succ])
    generalize val v dv = x at *
    iterate 18 ((first | (refine TW.val2 (v := ?_) ?_ ?_ ?_ ?_ ?_; rotate_left; (focus rfl); (focus (intro W hSW; (try dsimp only at hSW); (try (obtain ⟨hS1, hSW⟩ := hSW)); (try (obtain ⟨hS2, hSW⟩ := hSW)); (try (obtain ⟨hS3, hSW⟩ := hSW)); (try (obtain ⟨hS4, hSW⟩ := hSW)); (try (obtain ⟨hS5, hSW⟩ := hSW)); (try (obtain ⟨hS6, hSW⟩ := hSW)); (try (obtain ⟨hS7, hSW⟩ := hSW)); (try (obtain ⟨hS8, hSW⟩ := hSW)); go_simp; (try with_reducible rfl); done)); (focus exact fun _ _ _ h => h); (focus assumption)) | (refine TW.skip (e := false) ?_ ?_ ?_ ?_; (focus rfl); (focus exact fun _ _ _ h => h); (focus assumption)) | (refine TW.skip (e := true) ?_ ?_ ?_ ?_; (focus rfl); (focus exact fun _ _ _ h => h); (focus assumption))); simp only [Act.put, List.setIfInBounds_toArray, List.set_cons_zero, List.set_cons_succ])
    refine TW.done ?_
    clear hS HS4
    go_wp2
    go_ret
    exact ⟨by rw [HQ.out]; rfl, E4.out⟩
  have d4 : ((val v dv : Int) == 0) = false := by rw [beq_eq_false_iff_ne]; omega
  cases g
  · by_cases h5 : q = 0
    · have d5 : ((q : Int) != 0) = false := by rw [bne_eq_false_iff_eq]; omega
      cases em
      · have HQ := Lib.hid (HQ3.out.trans (if_neg (by simp [h4, h5])))
        clear h4 h5 HQ3 HZ
        go_upto_region 9 with fail
        have hS : w4.drew.cell? ⟨w.heap.size, 1, none⟩ = some (.slice A n c) ∧ w4.drew.cell? ⟨w.heap.size, 2, none⟩ = some (.int .i64 dv) ∧ w4.drew.cell? ⟨w.heap.size, 3, none⟩ = some (.bool false) ∧ w4.drew.heap[w.heap.size]? = some (.cells #[.string (st p), .slice A n c, .int .i64 dv, .bool false, .int .i64 s, .int .i64 l, .slice D m k] 27) := HS4.out _ X4.out
        refine wp_region_text [(0, false), (1, false), (2, false), (3, false), (4, true), (5, false), (6, false), (7, false), (8, false), (9, false), (10, false), (11, true), (12, false), (13, false), (14, false), (15, false), (16, false), (17, false), (18, false), (19, false), (20, false), (21, false), (22, false)] (fun V => V.cell? ⟨w.heap.size, 1, none⟩ = some (.slice A n c) ∧ V.cell? ⟨w.heap.size, 2, none⟩ = some (.int .i64 dv) ∧ V.cell? ⟨w.heap.size, 3, none⟩ = some (.bool false) ∧ V.heap[w.heap.size]? = some (.cells #[.string (st p), .slice A n c, .int .i64 dv, .bool false, .int .i64 s, .int .i64 l, .slice D m k] 27)) (by kernel_rfl) (by kernel_rfl) (by kernel_rfl) (by kernel_rfl) (by kernel_rfl) (fun _ => ?_)
        simp only [outOf, List.getElem?_cons_zero, List.getElem?_cons_succ, Option.getD_some]
        have E4 := Lib.hid B4.out.drew
        have hz5 : w.heap.size + 1 ≤ w4.drew.heap.size := hz4
        generalize w4.drew = w5 at *
        iterate 4 ((first | (refine TW.val2 (v := ?_) ?_ ?_ ?_ ?_ ?_; rotate_left; (focus rfl); (focus (intro W hSW; (try dsimp only at hSW); (try (obtain ⟨hS1, hSW⟩ := hSW)); (try (obtain ⟨hS2, hSW⟩ := hSW)); (try (obtain ⟨hS3, hSW⟩ := hSW)); (try (obtain ⟨hS4, hSW⟩ := hSW)); (try (obtain ⟨hS5, hSW⟩ := hSW)); (try (obtain ⟨hS6, hSW⟩ := hSW)); (try (obtain ⟨hS7, hSW⟩ := hSW)); (try (obtain ⟨hS8, hSW⟩ := hSW)); go_simp; (try with_reducible rfl); done)); (focus exact fun _ _ _ h => h); (focus assumption)) | (refine TW.skip (e := false) ?_ ?_ ?_ ?_; (focus rfl); (focus exact fun _ _ _ h => h); (focus assumption))); simp only [Act.put, List.setIfInBounds_toArray, List.set_cons_zero, List.set_cons_succ])
        refine TW.eff (by rfl) (fun K hK => ?_); go_simp
        refine (rvalue_v B A n c v dv w5 (Reads.below HR.out.cs (E4.out.mono hB)) (by have := E4.out.size; omega) (by omega)).mono ?_
        rintro e w6 ⟨rfl, rfl⟩
        go_wp2_with fail; refine hK.out _ _ hS ?_; clear hK; (try simp only [Act.put, List.setIfInBounds_toArray, List.set_cons_zero, List.set_cons_succ])
        generalize val v dv = x at *
        iterate 5 ((first | (refine TW.val2 (v := ?_) ?_ ?_ ?_ ?_ ?_; rotate_left; (focus rfl); (focus (intro W hSW; (try dsimp only at hSW); (try (obtain ⟨hS1, hSW⟩ := hSW)); (try (obtain ⟨hS2, hSW⟩ := hSW)); (try (obtain ⟨hS3, hSW⟩ := hSW)); (try (obtain ⟨hS4, hSW⟩ := hSW)); (try (obtain ⟨hS5, hSW⟩ := hSW)); (try (obtain ⟨hS6, hSW⟩ := hSW)); (try (obtain ⟨hS7, hSW⟩ := hSW)); (try (obtain ⟨hS8, hSW⟩ := hSW)); go_simp; (try with_reducible rfl); done)); (focus exact fun _ _ _ h => h); (focus assumption)) | (refine TW.skip (e := false) ?_ ?_ ?_ ?_; (focus rfl); (focus exact fun _ _ _ h => h); (focus assumption))); simp only [Act.put, List.setIfInBounds_toArray, List.set_cons_zero, List.set_cons_succ])
        refine TW.val2 (v := .agg [.int .i64 s, .int .i64 l, .slice D m k].toArray) ?_ ?_ ?_ ?_ ?_
        (focus rfl)
        (focus exact fun V hV => exec_load_slot 25 (.tmp 30) rfl ⟨w.heap.size, 4, none⟩ rfl [.int .i64 s, .int .i64 l, .slice D m k] _ (rcells_at hV.2.2.2 (three_at rfl rfl rfl)) Tryd.underlying25 rfl HI.out)
        (focus exact fun _ _ _ h => h)
        (focus exact hS)
        simp only [Act.put, List.setIfInBounds_toArray, List.set_cons_zero, List.set_cons_succ]
        refine TW.eff (by rfl) (fun K hK => ?_); go_simp
        refine (HEM.out w5 (by omega)).mono ?_
        rintro e w6 ⟨rfl, b6⟩
        have hS2 : w6.cell? ⟨w.heap.size, 1, none⟩ = some (.slice A n c) ∧ w6.cell? ⟨w.heap.size, 2, none⟩ = some (.int .i64 dv) ∧ w6.cell? ⟨w.heap.size, 3, none⟩ = some (.bool false) ∧ w6.heap[w.heap.size]? = some (.cells #[.string (st p), .slice A n c, .int .i64 dv, .bool false, .int .i64 s, .int .i64 l, .slice D m k] 27) := HS4.out _ ((b6.block w.heap.size (by omega)).trans hS.2.2.2)
        have E6 := Lib.hid (E4.out.trans (b6.mono E4.out.size))
        clear hS b6 E4
        go_wp2_with fail; refine hK.out _ _ hS2 ?_; clear hK; (try simp only [Act.put, List.setIfInBounds_toArray, List.set_cons_zero, List.set_cons_succ])
        iterate 11 ((first | (refine TW.val2 (v := ?_) ?_ ?_ ?_ ?_ ?_; rotate_left; (focus rfl); (focus (intro W hSW; (try dsimp only at hSW); (try (obtain ⟨hS1, hSW⟩ := hSW)); (try (obtain ⟨hS2, hSW⟩ := hSW)); (try (obtain ⟨hS3, hSW⟩ := hSW)); (try (obtain ⟨hS4, hSW⟩ := hSW)); (try (obtain ⟨hS5, hSW⟩ := hSW)); (try (obtain ⟨hS6, hSW⟩ := hSW)); (try (obtain ⟨hS7, hSW⟩ := hSW)); (try (obtain ⟨hS8, hSW⟩ := hSW)); go_simp; (try with_reducible rfl); done)); (focus exact fun _ _ _ h => h); (focus assumption)) | (refine TW.skip (e := false) ?_ ?_ ?_ ?_; (focus rfl); (focus exact fun _ _ _ h => h); (focus assumption)) | (refine TW.skip (e := true) ?_ ?_ ?_ ?_; (focus rfl); (focus exact fun _ _ _ h => h); (focus assumption))); simp only [Act.put, List.setIfInBounds_toArray, List.set_cons_zero, List.set_cons_succ])
        refine TW.done ?_
        clear hS2
        go_wp2
        go_ret
        exact ⟨by rw [HQ.out]; rfl, E6.out⟩
      · exact absurd h5 (HZ.out rfl)
    · have d5 : ((q : Int) != 0) = true := by rw [bne_iff_ne]; omega
      have HQ := Lib.hid (HQ3.out.trans (if_pos (.inr (.inr ⟨rfl, h5⟩))))
      clear h4 h5 HQ3 HZ
      cases em
      ·
        go_upto_region 9 with fail
        have hS : w4.drew.cell? ⟨w.heap.size, 1, none⟩ = some (.slice A n c) ∧ w4.drew.cell? ⟨w.heap.size, 2, none⟩ = some (.int .i64 dv) ∧ w4.drew.cell? ⟨w.heap.size, 3, none⟩ = some (.bool false) ∧ w4.drew.heap[w.heap.size]? = some (.cells #[.string (st p), .slice A n c, .int .i64 dv, .bool false, .int .i64 s, .int .i64 l, .slice D m k] 27) := HS4.out _ X4.out
        refine wp_region_text [(0, false), (1, false), (2, false), (3, false), (4, true), (5, false), (6, false), (7, false), (8, false), (9, false), (10, false), (11, true), (12, false), (13, false), (14, false), (15, false), (16, false), (17, false), (18, false), (19, false), (20, false), (21, false), (22, false)] (fun V => V.cell? ⟨w.heap.size, 1, none⟩ = some (.slice A n c) ∧ V.cell? ⟨w.heap.size, 2, none⟩ = some (.int .i64 dv) ∧ V.cell? ⟨w.heap.size, 3, none⟩ = some (.bool false) ∧ V.heap[w.heap.size]? = some (.cells #[.string (st p), .slice A n c, .int .i64 dv, .bool false, .int .i64 s, .int .i64 l, .slice D m k] 27)) (by kernel_rfl) (by kernel_rfl) (by kernel_rfl) (by kernel_rfl) (by kernel_rfl) (fun _ => ?_)
        simp only [outOf, List.getElem?_cons_zero, List.getElem?_cons_succ, Option.getD_some]
        have E4 := Lib.hid B4.out.drew
        have hz5 : w.heap.size + 1 ≤ w4.drew.heap.size := hz4
        generalize w4.drew = w5 at *
        iterate 4 ((first | (refine TW.val2 (v := ?_) ?_ ?_ ?_ ?_ ?_; rotate_left; (focus rfl); (focus (intro W hSW; (try dsimp only at hSW); (try (obtain ⟨hS1, hSW⟩ := hSW)); (try (obtain ⟨hS2, hSW⟩ := hSW)); (try (obtain ⟨hS3, hSW⟩ := hSW)); (try (obtain ⟨hS4, hSW⟩ := hSW)); (try (obtain ⟨hS5, hSW⟩ := hSW)); (try (obtain ⟨hS6, hSW⟩ := hSW)); (try (obtain ⟨hS7, hSW⟩ := hSW)); (try (obtain ⟨hS8, hSW⟩ := hSW)); go_simp; (try with_reducible rfl); done)); (focus exact fun _ _ _ h => h); (focus assumption)) | (refine TW.skip (e := false) ?_ ?_ ?_ ?_; (focus rfl); (focus exact fun _ _ _ h => h); (focus assumption))); simp only [Act.put, List.setIfInBounds_toArray, List.set_cons_zero, List.set_cons_succ])
        refine TW.eff (by rfl) (fun K hK => ?_); go_simp
        refine (rvalue_v B A n c v dv w5 (Reads.below HR.out.cs (E4.out.mono hB)) (by have := E4.out.size; omega) (by omega)).mono ?_
        rintro e w6 ⟨rfl, rfl⟩
        go_wp2_with fail; refine hK.out _ _ hS ?_; clear hK; (try simp only [Act.put, List.setIfInBounds_toArray, List.set_cons_zero, List.set_cons_succ])
        generalize val v dv = x at *
        iterate 5 ((first | (refine TW.val2 (v := ?_) ?_ ?_ ?_ ?_ ?_; rotate_left; (focus rfl); (focus (intro W hSW; (try dsimp only at hSW); (try (obtain ⟨hS1, hSW⟩ := hSW)); (try (obtain ⟨hS2, hSW⟩ := hSW)); (try (obtain ⟨hS3, hSW⟩ := hSW)); (try (obtain ⟨hS4, hSW⟩ := hSW)); (try (obtain ⟨hS5, hSW⟩ := hSW)); (try (obtain ⟨hS6, hSW⟩ := hSW)); (try (obtain ⟨hS7, hSW⟩ := hSW)); (try (obtain ⟨hS8, hSW⟩ := hSW)); go_simp; (try with_reducible rfl); done)); (focus exact fun _ _ _ h => h); (focus assumption)) | (refine TW.skip (e := false) ?_ ?_ ?_ ?_; (focus rfl); (focus exact fun _ _ _ h => h); (focus assumption))); simp only [Act.put, List.setIfInBounds_toArray, List.set_cons_zero, List.set_cons_succ])
        refine TW.val2 (v := .agg [.int .i64 s, .int .i64 l, .slice D m k].toArray) ?_ ?_ ?_ ?_ ?_
        (focus rfl)
        (focus exact fun V hV => exec_load_slot 25 (.tmp 30) rfl ⟨w.heap.size, 4, none⟩ rfl [.int .i64 s, .int .i64 l, .slice D m k] _ (rcells_at hV.2.2.2 (three_at rfl rfl rfl)) Tryd.underlying25 rfl HI.out)
        (focus exact fun _ _ _ h => h)
        (focus exact hS)
        simp only [Act.put, List.setIfInBounds_toArray, List.set_cons_zero, List.set_cons_succ]
        refine TW.eff (by rfl) (fun K hK => ?_); go_simp
        refine (HEM.out w5 (by omega)).mono ?_
        rintro e w6 ⟨rfl, b6⟩
        have hS2 : w6.cell? ⟨w.heap.size, 1, none⟩ = some (.slice A n c) ∧ w6.cell? ⟨w.heap.size, 2, none⟩ = some (.int .i64 dv) ∧ w6.cell? ⟨w.heap.size, 3, none⟩ = some (.bool false) ∧ w6.heap[w.heap.size]? = some (.cells #[.string (st p), .slice A n c, .int .i64 dv, .bool false, .int .i64 s, .int .i64 l, .slice D m k] 27) := HS4.out _ ((b6.block w.heap.size (by omega)).trans hS.2.2.2)
        have E6 := Lib.hid (E4.out.trans (b6.mono E4.out.size))
        clear hS b6 E4
        go_wp2_with fail; refine hK.out _ _ hS2 ?_; clear hK; (try simp only [Act.put, List.setIfInBounds_toArray, List.set_cons_zero, List.set_cons_succ])
        iterate 11 ((first | (refine TW.val2 (v := ?_) ?_ ?_ ?_ ?_ ?_; rotate_left; (focus rfl); (focus (intro W hSW; (try dsimp only at hSW); (try (obtain ⟨hS1, hSW⟩ := hSW)); (try (obtain ⟨hS2, hSW⟩ := hSW)); (try (obtain ⟨hS3, hSW⟩ := hSW)); (try (obtain ⟨hS4, hSW⟩ := hSW)); (try (obtain ⟨hS5, hSW⟩ := hSW)); (try (obtain ⟨hS6, hSW⟩ := hSW)); (try (obtain ⟨hS7, hSW⟩ := hSW)); (try (obtain ⟨hS8, hSW⟩ := hSW)); go_simp; (try with_reducible rfl); done)); (focus exact fun _ _ _ h => h); (focus assumption)) | (refine TW.skip (e := false) ?_ ?_ ?_ ?_; (focus rfl); (focus exact fun _ _ _ h => h); (focus assumption)) | (refine TW.skip (e := true) ?_ ?_ ?_ ?_; (focus rfl); (focus exact fun _ _ _ h => h); (focus assumption))); simp only [Act.put, List.setIfInBounds_toArray, List.set_cons_zero, List.set_cons_succ])
        refine TW.done ?_
        clear hS2
        go_wp2
        go_ret
        exact ⟨by rw [HQ.out]; rfl, E6.out⟩
      ·
        go_upto_region 9 with fail
        have hS : w4.drew.cell? ⟨w.heap.size, 1, none⟩ = some (.slice A n c) ∧ w4.drew.cell? ⟨w.heap.size, 2, none⟩ = some (.int .i64 dv) ∧ w4.drew.cell? ⟨w.heap.size, 3, none⟩ = some (.bool false) ∧ w4.drew.heap[w.heap.size]? = some (.cells #[.string (st p), .slice A n c, .int .i64 dv, .bool false, .int .i64 s, .int .i64 l, .slice D m k] 27) := HS4.out _ X4.out
        refine wp_region_text [(0, false), (1, false), (2, false), (3, false), (4, true), (5, false), (6, false), (7, false), (8, false), (9, false), (10, false), (11, true), (12, false), (13, false), (14, false), (15, false), (16, false), (17, false), (18, false), (19, false), (20, false), (21, false), (22, false)] (fun V => V.cell? ⟨w.heap.size, 1, none⟩ = some (.slice A n c) ∧ V.cell? ⟨w.heap.size, 2, none⟩ = some (.int .i64 dv) ∧ V.cell? ⟨w.heap.size, 3, none⟩ = some (.bool false) ∧ V.heap[w.heap.size]? = some (.cells #[.string (st p), .slice A n c, .int .i64 dv, .bool false, .int .i64 s, .int .i64 l, .slice D m k] 27)) (by kernel_rfl) (by kernel_rfl) (by kernel_rfl) (by kernel_rfl) (by kernel_rfl) (fun _ => ?_)
        simp only [outOf, List.getElem?_cons_zero, List.getElem?_cons_succ, Option.getD_some]
        have E4 := Lib.hid B4.out.drew
        have hz5 : w.heap.size + 1 ≤ w4.drew.heap.size := hz4
        generalize w4.drew = w5 at *
        iterate 4 ((first | (refine TW.val2 (v := ?_) ?_ ?_ ?_ ?_ ?_; rotate_left; (focus rfl); (focus (intro W hSW; (try dsimp only at hSW); (try (obtain ⟨hS1, hSW⟩ := hSW)); (try (obtain ⟨hS2, hSW⟩ := hSW)); (try (obtain ⟨hS3, hSW⟩ := hSW)); (try (obtain ⟨hS4, hSW⟩ := hSW)); (try (obtain ⟨hS5, hSW⟩ := hSW)); (try (obtain ⟨hS6, hSW⟩ := hSW)); (try (obtain ⟨hS7, hSW⟩ := hSW)); (try (obtain ⟨hS8, hSW⟩ := hSW)); go_simp; (try with_reducible rfl); done)); (focus exact fun _ _ _ h => h); (focus assumption)) | (refine TW.skip (e := false) ?_ ?_ ?_ ?_; (focus rfl); (focus exact fun _ _ _ h => h); (focus assumption))); simp only [Act.put, List.setIfInBounds_toArray, List.set_cons_zero, List.set_cons_succ])
        refine TW.eff (by rfl) (fun K hK => ?_); go_simp
        refine (rvalue_v B A n c v dv w5 (Reads.below HR.out.cs (E4.out.mono hB)) (by have := E4.out.size; omega) (by omega)).mono ?_
        rintro e w6 ⟨rfl, rfl⟩
        go_wp2_with fail; refine hK.out _ _ hS ?_; clear hK; (try simp only [Act.put, List.setIfInBounds_toArray, List.set_cons_zero, List.set_cons_succ])
        generalize val v dv = x at *
        iterate 5 ((first | (refine TW.val2 (v := ?_) ?_ ?_ ?_ ?_ ?_; rotate_left; (focus rfl); (focus (intro W hSW; (try dsimp only at hSW); (try (obtain ⟨hS1, hSW⟩ := hSW)); (try (obtain ⟨hS2, hSW⟩ := hSW)); (try (obtain ⟨hS3, hSW⟩ := hSW)); (try (obtain ⟨hS4, hSW⟩ := hSW)); (try (obtain ⟨hS5, hSW⟩ := hSW)); (try (obtain ⟨hS6, hSW⟩ := hSW)); (try (obtain ⟨hS7, hSW⟩ := hSW)); (try (obtain ⟨hS8, hSW⟩ := hSW)); go_simp; (try with_reducible rfl); done)); (focus exact fun _ _ _ h => h); (focus assumption)) | (refine TW.skip (e := false) ?_ ?_ ?_ ?_; (focus rfl); (focus exact fun _ _ _ h => h); (focus assumption))); simp only [Act.put, List.setIfInBounds_toArray, List.set_cons_zero, List.set_cons_succ])
        refine TW.val2 (v := .agg [.int .i64 s, .int .i64 l, .slice D m k].toArray) ?_ ?_ ?_ ?_ ?_
        (focus rfl)
        (focus exact fun V hV => exec_load_slot 25 (.tmp 30) rfl ⟨w.heap.size, 4, none⟩ rfl [.int .i64 s, .int .i64 l, .slice D m k] _ (rcells_at hV.2.2.2 (three_at rfl rfl rfl)) Tryd.underlying25 rfl HI.out)
        (focus exact fun _ _ _ h => h)
        (focus exact hS)
        simp only [Act.put, List.setIfInBounds_toArray, List.set_cons_zero, List.set_cons_succ]
        refine TW.eff (by rfl) (fun K hK => ?_); go_simp
        refine (HEM.out w5 (by omega)).mono ?_
        rintro e w6 ⟨rfl, b6⟩
        have hS2 : w6.cell? ⟨w.heap.size, 1, none⟩ = some (.slice A n c) ∧ w6.cell? ⟨w.heap.size, 2, none⟩ = some (.int .i64 dv) ∧ w6.cell? ⟨w.heap.size, 3, none⟩ = some (.bool false) ∧ w6.heap[w.heap.size]? = some (.cells #[.string (st p), .slice A n c, .int .i64 dv, .bool false, .int .i64 s, .int .i64 l, .slice D m k] 27) := HS4.out _ ((b6.block w.heap.size (by omega)).trans hS.2.2.2)
        have E6 := Lib.hid (E4.out.trans (b6.mono E4.out.size))
        clear hS b6 E4
        go_wp2_with fail; refine hK.out _ _ hS2 ?_; clear hK; (try simp only [Act.put, List.setIfInBounds_toArray, List.set_cons_zero, List.set_cons_succ])
        iterate 11 ((first | (refine TW.val2 (v := ?_) ?_ ?_ ?_ ?_ ?_; rotate_left; (focus rfl); (focus (intro W hSW; (try dsimp only at hSW); (try (obtain ⟨hS1, hSW⟩ := hSW)); (try (obtain ⟨hS2, hSW⟩ := hSW)); (try (obtain ⟨hS3, hSW⟩ := hSW)); (try (obtain ⟨hS4, hSW⟩ := hSW)); (try (obtain ⟨hS5, hSW⟩ := hSW)); (try (obtain ⟨hS6, hSW⟩ := hSW)); (try (obtain ⟨hS7, hSW⟩ := hSW)); (try (obtain ⟨hS8, hSW⟩ := hSW)); go_simp; (try with_reducible rfl); done)); (focus exact fun _ _ _ h => h); (focus assumption)) | (refine TW.skip (e := false) ?_ ?_ ?_ ?_; (focus rfl); (focus exact fun _ _ _ h => h); (focus assumption)) | (refine TW.skip (e := true) ?_ ?_ ?_ ?_; (focus rfl); (focus exact fun _ _ _ h => h); (focus assumption))); simp only [Act.put, List.setIfInBounds_toArray, List.set_cons_zero, List.set_cons_succ])
        refine TW.done ?_
        clear hS2
        go_wp2
        go_ret
        exact ⟨by rw [HQ.out]; rfl, E6.out⟩
  · cases em
    · have HQ := Lib.hid (HQ3.out.trans (if_pos (.inr (.inl ⟨rfl, rfl⟩))))
      clear h4 HQ3 HZ
      go_upto_region 9 with fail
      have hS : w4.drew.cell? ⟨w.heap.size, 1, none⟩ = some (.slice A n c) ∧ w4.drew.cell? ⟨w.heap.size, 2, none⟩ = some (.int .i64 dv) ∧ w4.drew.cell? ⟨w.heap.size, 3, none⟩ = some (.bool true) ∧ w4.drew.heap[w.heap.size]? = some (.cells #[.string (st p), .slice A n c, .int .i64 dv, .bool true, .int .i64 s, .int .i64 l, .slice D m k] 27) := HS4.out _ X4.out
      refine wp_region_text [(0, false), (1, false), (2, false), (3, false), (4, true), (5, false), (6, false), (7, false), (8, false), (9, false), (10, false), (11, true), (12, false), (13, false), (14, false), (15, false), (16, false), (17, false), (18, false), (19, false), (20, false), (21, false), (22, false)] (fun V => V.cell? ⟨w.heap.size, 1, none⟩ = some (.slice A n c) ∧ V.cell? ⟨w.heap.size, 2, none⟩ = some (.int .i64 dv) ∧ V.cell? ⟨w.heap.size, 3, none⟩ = some (.bool true) ∧ V.heap[w.heap.size]? = some (.cells #[.string (st p), .slice A n c, .int .i64 dv, .bool true, .int .i64 s, .int .i64 l, .slice D m k] 27)) (by kernel_rfl) (by kernel_rfl) (by kernel_rfl) (by kernel_rfl) (by kernel_rfl) (fun _ => ?_)
      simp only [outOf, List.getElem?_cons_zero, List.getElem?_cons_succ, Option.getD_some]
      have E4 := Lib.hid B4.out.drew
      have hz5 : w.heap.size + 1 ≤ w4.drew.heap.size := hz4
      generalize w4.drew = w5 at *
      iterate 4 ((first | (refine TW.val2 (v := ?_) ?_ ?_ ?_ ?_ ?_; rotate_left; (focus rfl); (focus (intro W hSW; (try dsimp only at hSW); (try (obtain ⟨hS1, hSW⟩ := hSW)); (try (obtain ⟨hS2, hSW⟩ := hSW)); (try (obtain ⟨hS3, hSW⟩ := hSW)); (try (obtain ⟨hS4, hSW⟩ := hSW)); (try (obtain ⟨hS5, hSW⟩ := hSW)); (try (obtain ⟨hS6, hSW⟩ := hSW)); (try (obtain ⟨hS7, hSW⟩ := hSW)); (try (obtain ⟨hS8, hSW⟩ := hSW)); go_simp; (try with_reducible rfl); done)); (focus exact fun _ _ _ h => h); (focus assumption)) | (refine TW.skip (e := false) ?_ ?_ ?_ ?_; (focus rfl); (focus exact fun _ _ _ h => h); (focus assumption))); simp only [Act.put, List.setIfInBounds_toArray, List.set_cons_zero, List.set_cons_succ])
      refine TW.eff (by rfl) (fun K hK => ?_); go_simp
      refine (rvalue_v B A n c v dv w5 (Reads.below HR.out.cs (E4.out.mono hB)) (by have := E4.out.size; omega) (by omega)).mono ?_
      rintro e w6 ⟨rfl, rfl⟩
      go_wp2_with fail; refine hK.out _ _ hS ?_; clear hK; (try simp only [Act.put, List.setIfInBounds_toArray, List.set_cons_zero, List.set_cons_succ])
      generalize val v dv = x at *
      iterate 5 ((first | (refine TW.val2 (v := ?_) ?_ ?_ ?_ ?_ ?_; rotate_left; (focus rfl); (focus (intro W hSW; (try dsimp only at hSW); (try (obtain ⟨hS1, hSW⟩ := hSW)); (try (obtain ⟨hS2, hSW⟩ := hSW)); (try (obtain ⟨hS3, hSW⟩ := hSW)); (try (obtain ⟨hS4, hSW⟩ := hSW)); (try (obtain ⟨hS5, hSW⟩ := hSW)); (try (obtain ⟨hS6, hSW⟩ := hSW)); (try (obtain ⟨hS7, hSW⟩ := hSW)); (try (obtain ⟨hS8, hSW⟩ := hSW)); go_simp; (try with_reducible rfl); done)); (focus exact fun _ _ _ h => h); (focus assumption)) | (refine TW.skip (e := false) ?_ ?_ ?_ ?_; (focus rfl); (focus exact fun _ _ _ h => h); (focus assumption))); simp only [Act.put, List.setIfInBounds_toArray, List.set_cons_zero, List.set_cons_succ])
      refine TW.val2 (v := .agg [.int .i64 s, .int .i64 l, .slice D m k].toArray) ?_ ?_ ?_ ?_ ?_
      (focus rfl)
      (focus exact fun V hV => exec_load_slot 25 (.tmp 30) rfl ⟨w.heap.size, 4, none⟩ rfl [.int .i64 s, .int .i64 l, .slice D m k] _ (rcells_at hV.2.2.2 (three_at rfl rfl rfl)) Tryd.underlying25 rfl HI.out)
      (focus exact fun _ _ _ h => h)
      (focus exact hS)
      simp only [Act.put, List.setIfInBounds_toArray, List.set_cons_zero, List.set_cons_succ]
      refine TW.eff (by rfl) (fun K hK => ?_); go_simp
      refine (HEM.out w5 (by omega)).mono ?_
      rintro e w6 ⟨rfl, b6⟩
      have hS2 : w6.cell? ⟨w.heap.size, 1, none⟩ = some (.slice A n c) ∧ w6.cell? ⟨w.heap.size, 2, none⟩ = some (.int .i64 dv) ∧ w6.cell? ⟨w.heap.size, 3, none⟩ = some (.bool true) ∧ w6.heap[w.heap.size]? = some (.cells #[.string (st p), .slice A n c, .int .i64 dv, .bool true, .int .i64 s, .int .i64 l, .slice D m k] 27) := HS4.out _ ((b6.block w.heap.size (by omega)).trans hS.2.2.2)
      have E6 := Lib.hid (E4.out.trans (b6.mono E4.out.size))
      clear hS b6 E4
      go_wp2_with fail; refine hK.out _ _ hS2 ?_; clear hK; (try simp only [Act.put, List.setIfInBounds_toArray, List.set_cons_zero, List.set_cons_succ])
      iterate 11 ((first | (refine TW.val2 (v := ?_) ?_ ?_ ?_ ?_ ?_; rotate_left; (focus rfl); (focus (intro W hSW; (try dsimp only at hSW); (try (obtain ⟨hS1, hSW⟩ := hSW)); (try (obtain ⟨hS2, hSW⟩ := hSW)); (try (obtain ⟨hS3, hSW⟩ := hSW)); (try (obtain ⟨hS4, hSW⟩ := hSW)); (try (obtain ⟨hS5, hSW⟩ := hSW)); (try (obtain ⟨hS6, hSW⟩ := hSW)); (try (obtain ⟨hS7, hSW⟩ := hSW)); (try (obtain ⟨hS8, hSW⟩ := hSW)); go_simp; (try with_reducible rfl); done)); (focus exact fun _ _ _ h => h); (focus assumption)) | (refine TW.skip (e := false) ?_ ?_ ?_ ?_; (focus rfl); (focus exact fun _ _ _ h => h); (focus assumption)) | (refine TW.skip (e := true) ?_ ?_ ?_ ?_; (focus rfl); (focus exact fun _ _ _ h => h); (focus assumption))); simp only [Act.put, List.setIfInBounds_toArray, List.set_cons_zero, List.set_cons_succ])
      refine TW.done ?_
      clear hS2
      go_wp2
      go_ret
      exact ⟨by rw [HQ.out]; rfl, E6.out⟩
    · have HQ := Lib.hid (HQ3.out.trans (if_neg (by simp [h4])))
      clear h4 HQ3 HZ
      go_upto_region 9 with fail
      have hS : w4.drew.cell? ⟨w.heap.size, 1, none⟩ = some (.slice A n c) ∧ w4.drew.cell? ⟨w.heap.size, 2, none⟩ = some (.int .i64 dv) ∧ w4.drew.cell? ⟨w.heap.size, 3, none⟩ = some (.bool true) ∧ w4.drew.heap[w.heap.size]? = some (.cells #[.string (st p), .slice A n c, .int .i64 dv, .bool true, .int .i64 s, .int .i64 l, .slice D m k] 27) := HS4.out _ X4.out
      refine wp_region_text [(0, false), (1, false), (2, false), (3, false), (4, true), (5, false), (6, false), (7, false), (8, false), (9, false), (10, false), (11, true), (12, false), (13, false), (14, false), (15, false), (16, false), (17, false), (18, false), (19, false), (20, false), (21, false), (22, false)] (fun V => V.cell? ⟨w.heap.size, 1, none⟩ = some (.slice A n c) ∧ V.cell? ⟨w.heap.size, 2, none⟩ = some (.int .i64 dv) ∧ V.cell? ⟨w.heap.size, 3, none⟩ = some (.bool true) ∧ V.heap[w.heap.size]? = some (.cells #[.string (st p), .slice A n c, .int .i64 dv, .bool true, .int .i64 s, .int .i64 l, .slice D m k] 27)) (by kernel_rfl) (by kernel_rfl) (by kernel_rfl) (by kernel_rfl) (by kernel_rfl) (fun _ => ?_)
      simp only [outOf, List.getElem?_cons_zero, List.getElem?_cons_succ, Option.getD_some]
      have E4 := Lib.hid B4.out.drew
      have hz5 : w.heap.size + 1 ≤ w4.drew.heap.size := hz4
      generalize w4.drew = w5 at *
      iterate 4 ((first | (refine TW.val2 (v := ?_) ?_ ?_ ?_ ?_ ?_; rotate_left; (focus rfl); (focus (intro W hSW; (try dsimp only at hSW); (try (obtain ⟨hS1, hSW⟩ := hSW)); (try (obtain ⟨hS2, hSW⟩ := hSW)); (try (obtain ⟨hS3, hSW⟩ := hSW)); (try (obtain ⟨hS4, hSW⟩ := hSW)); (try (obtain ⟨hS5, hSW⟩ := hSW)); (try (obtain ⟨hS6, hSW⟩ := hSW)); (try (obtain ⟨hS7, hSW⟩ := hSW)); (try (obtain ⟨hS8, hSW⟩ := hSW)); go_simp; (try with_reducible rfl); done)); (focus exact fun _ _ _ h => h); (focus assumption)) | (refine TW.skip (e := false) ?_ ?_ ?_ ?_; (focus rfl); (focus exact fun _ _ _ h => h); (focus assumption))); simp only [Act.put, List.setIfInBounds_toArray, List.set_cons_zero, List.set_cons_succ])
      refine TW.eff (by rfl) (fun K hK => ?_); go_simp
      refine (rvalue_v B A n c v dv w5 (Reads.below HR.out.cs (E4.out.mono hB)) (by have := E4.out.size; omega) (by omega)).mono ?_
      rintro e w6 ⟨rfl, rfl⟩
      go_wp2_with fail; refine hK.out _ _ hS ?_; clear hK; (try simp only [Act.put, List.setIfInBounds_toArray, List.set_cons_zero, List.set_cons_succ])
      generalize val v dv = x at *
      iterate 5 ((first | (refine TW.val2 (v := ?_) ?_ ?_ ?_ ?_ ?_; rotate_left; (focus rfl); (focus (intro W hSW; (try dsimp only at hSW); (try (obtain ⟨hS1, hSW⟩ := hSW)); (try (obtain ⟨hS2, hSW⟩ := hSW)); (try (obtain ⟨hS3, hSW⟩ := hSW)); (try (obtain ⟨hS4, hSW⟩ := hSW)); (try (obtain ⟨hS5, hSW⟩ := hSW)); (try (obtain ⟨hS6, hSW⟩ := hSW)); (try (obtain ⟨hS7, hSW⟩ := hSW)); (try (obtain ⟨hS8, hSW⟩ := hSW)); go_simp; (try with_reducible rfl); done)); (focus exact fun _ _ _ h => h); (focus assumption)) | (refine TW.skip (e := false) ?_ ?_ ?_ ?_; (focus rfl); (focus exact fun _ _ _ h => h); (focus assumption))); simp only [Act.put, List.setIfInBounds_toArray, List.set_cons_zero, List.set_cons_succ])
      refine TW.val2 (v := .agg [.int .i64 s, .int .i64 l, .slice D m k].toArray) ?_ ?_ ?_ ?_ ?_
      (focus rfl)
      (focus exact fun V hV => exec_load_slot 25 (.tmp 30) rfl ⟨w.heap.size, 4, none⟩ rfl [.int .i64 s, .int .i64 l, .slice D m k] _ (rcells_at hV.2.2.2 (three_at rfl rfl rfl)) Tryd.underlying25 rfl HI.out)
      (focus exact fun _ _ _ h => h)
      (focus exact hS)
      simp only [Act.put, List.setIfInBounds_toArray, List.set_cons_zero, List.set_cons_succ]
      refine TW.eff (by rfl) (fun K hK => ?_); go_simp
      refine (HEM.out w5 (by omega)).mono ?_
      rintro e w6 ⟨rfl, b6⟩
      have hS2 : w6.cell? ⟨w.heap.size, 1, none⟩ = some (.slice A n c) ∧ w6.cell? ⟨w.heap.size, 2, none⟩ = some (.int .i64 dv) ∧ w6.cell? ⟨w.heap.size, 3, none⟩ = some (.bool true) ∧ w6.heap[w.heap.size]? = some (.cells #[.string (st p), .slice A n c, .int .i64 dv, .bool true, .int .i64 s, .int .i64 l, .slice D m k] 27) := HS4.out _ ((b6.block w.heap.size (by omega)).trans hS.2.2.2)
      have E6 := Lib.hid (E4.out.trans (b6.mono E4.out.size))
      clear hS b6 E4
      go_wp2_with fail; refine hK.out _ _ hS2 ?_; clear hK; (try simp only [Act.put, List.setIfInBounds_toArray, List.set_cons_zero, List.set_cons_succ])
      iterate 11 ((first | (refine TW.val2 (v := ?_) ?_ ?_ ?_ ?_ ?_; rotate_left; (focus rfl); (focus (intro W hSW; (try dsimp only at hSW); (try (obtain ⟨hS1, hSW⟩ := hSW)); (try (obtain ⟨hS2, hSW⟩ := hSW)); (try (obtain ⟨hS3, hSW⟩ := hSW)); (try (obtain ⟨hS4, hSW⟩ := hSW)); (try (obtain ⟨hS5, hSW⟩ := hSW)); (try (obtain ⟨hS6, hSW⟩ := hSW)); (try (obtain ⟨hS7, hSW⟩ := hSW)); (try (obtain ⟨hS8, hSW⟩ := hSW)); go_simp; (try with_reducible rfl); done)); (focus exact fun _ _ _ h => h); (focus assumption)) | (refine TW.skip (e := false) ?_ ?_ ?_ ?_; (focus rfl); (focus exact fun _ _ _ h => h); (focus assumption)) | (refine TW.skip (e := true) ?_ ?_ ?_ ?_; (focus rfl); (focus exact fun _ _ _ h => h); (focus assumption))); simp only [Act.put, List.setIfInBounds_toArray, List.set_cons_zero, List.set_cons_succ])
      refine TW.done ?_
      clear hS2
      go_wp2
      go_ret
      exact ⟨by rw [HQ.out]; rfl, E6.out⟩
end Go.Proofs.YtndekohimfjdeaaDoor
