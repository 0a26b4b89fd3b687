/-
  Matrices: the kit's comparison.
-/
import Derived.Test.YtikegnnlmfidfaaMatW
namespace Go.Proofs.Ytikegnnlmfidfaa
open Go.RowKit
def eqM (a b : PM) : Bool := decide (a.1 = b.1 ∧ a.2 = b.2)
set_option maxRecDepth 100000 in
set_option maxHeartbeats 8000000 in
theorem matrix_v (oa ob : Int) (A A' : Option Addr) (n c n' c' B : Nat) (rs rs' : List Rw) (w : World) (hr : RowsR w B A n rs) (hr' : RowsR w B A' n' rs') (hB : B ≤ w.heap.size) (hn : n ≤ 9223372036854775807) (hn' : n' ≤ 9223372036854775807) :
    Calls Try.prog 27 #[.agg #[.int .i64 oa, .slice A n c], .agg #[.int .i64 ob, .slice A' n' c']] w fun e w' => e = .returned (.bool (eqM (oa, rs.map Rw.p) (ob, rs'.map Rw.p))) ∧ Below w.heap.size w w' := by
  have HR := Lib.hid hr
  have HR' := Lib.hid hr'
  have HL := Lib.hid hr.len
  have HL' := Lib.hid hr'.len
  have B0 := Lib.hid (((Below.refl w.heap.size w).alloc (Nat.le_refl _) (.cells #[.int .i64 oa, .slice A n c] 27)).alloc (by simp) (.cells #[.int .i64 ob, .slice A' n' c'] 27))
  have X0 := Lib.hid (show ((w.alloc (.cells #[.int .i64 oa, .slice A n c] 27)).alloc (.cells #[.int .i64 ob, .slice A' n' c'] 27)).heap[w.heap.size]? = some (.cells #[.int .i64 oa, .slice A n c] 27 (0, 0)) from (Below.heap_alloc _ _ _ (by simp)).trans (heap_alloc_new w _))
  have Y0 := Lib.hid (show ((w.alloc (.cells #[.int .i64 oa, .slice A n c] 27)).alloc (.cells #[.int .i64 ob, .slice A' n' c'] 27)).heap[w.heap.size + 1]? = some (.cells #[.int .i64 ob, .slice A' n' c'] 27 (0, 0)) from by
    have h := heap_alloc_new (w.alloc (.cells #[.int .i64 oa, .slice A n c] 27)) (.cells #[.int .i64 ob, .slice A' n' c'] 27)
    simpa using h)
  have hz0 : w.heap.size + 2 ≤ ((w.alloc (.cells #[.int .i64 oa, .slice A n c] 27)).alloc (.cells #[.int .i64 ob, .slice A' n' c'] 27)).heap.size := by simp
  clear hr hr'
  go_enter Try.func27, Try.ntmps27
  go_upto_region 1 with fail
  generalize (w.alloc (.cells #[.int .i64 oa, .slice A n c] 27)).alloc (.cells #[.int .i64 ob, .slice A' n' c'] 27) = w0 at *
  generalize hg : w.heap.size = g at *
  have c00 : w0.cell? ⟨g, 0, none⟩ = some (.int .i64 oa) := by rw [cell_of_row _ _ 0 _ _ _ X0.out]; rfl
  have c01 : w0.cell? ⟨g, 1, none⟩ = some (.slice A n c) := by rw [cell_of_row _ _ 1 _ _ _ X0.out]; rfl
  have c02 : w0.cell? ⟨g + 1, 0, none⟩ = some (.int .i64 ob) := by rw [cell_of_row _ _ 0 _ _ _ Y0.out]; rfl
  have c03 : w0.cell? ⟨g + 1, 1, none⟩ = some (.slice A' n' c') := by rw [cell_of_row _ _ 1 _ _ _ Y0.out]; rfl
  by_cases ho : oa = ob
  case neg =>
    have d1 : (oa != ob) = true := bne_iff_ne.2 ho
    have HE := Lib.hid (show eqM (oa, rs.map Rw.p) (ob, rs'.map Rw.p) = false from decide_eq_false fun h => ho h.1)
    clear ho
    go_wp2_with fail
    go_ret
    exact ⟨by rw [HE.out]; rfl, hg ▸ B0.out⟩
  subst ho
  have d1 : (oa != oa) = false := by simp
  by_cases hnn : n = n'
  case neg =>
    have d2 : ((n : Int) != (n' : Int)) = true := bne_iff_ne.2 (by omega)
    have HE := Lib.hid (show eqM (oa, rs.map Rw.p) (oa, rs'.map Rw.p) = false from decide_eq_false fun h => hnn (by
      have h1 := congrArg List.length h.2
      rwa [List.length_map, List.length_map, HL.out, HL'.out] at h1))
    clear hnn
    go_wp2_with fail
    go_ret
    exact ⟨by rw [HE.out]; rfl, hg ▸ B0.out⟩
  subst hnn
  have d2 : ((n : Int) != (n : Int)) = false := by simp
  go_wp2_with fail
  clear d1 d2 c00 c01 c02 c03
  go_loopw [5] (fun i wr => ∃ k : Nat, k ≤ n ∧ i = .int .i64 (k : Int) ∧ (rs.map Rw.p).take k = (rs'.map Rw.p).take k ∧ Below w0.heap.size w0 wr) (fun i _ => n - (intOf i).toNat)
  case atStart => exact ⟨0, Nat.zero_le _, rfl, by simp, Below.refl _ _⟩
  case round =>
    obtain ⟨k, hk, rfl, ht, hb⟩ := hrel
    have HT := Lib.hid ht
    have HB := Lib.hid hb
    have hzb := hb.size
    have HBB := Lib.hid (B0.out.trans (hb.mono (by omega)))
    have c11 : wr.cell? ⟨g, 1, none⟩ = some (.slice A n c) := by rw [cell_of_row _ _ 1 _ _ _ ((hb.block g (by omega)).trans X0.out)]; rfl
    have c13 : wr.cell? ⟨g + 1, 1, none⟩ = some (.slice A' n c') := by rw [cell_of_row _ _ 1 _ _ _ ((hb.block (g + 1) (by omega)).trans Y0.out)]; rfl
    clear ht hb
    by_cases hlt : k < n
    · obtain ⟨ad, rf, ra, rn, rc, ds, rfl, hx, ⟨hri, hrn, hrc, hfs⟩, hcs, hc2⟩ := HR.out.at_ hlt
      obtain ⟨ad', rf', ra', rn', rc', ds', rfl, hx', ⟨hri', hrn', hrc', hfs'⟩, hcs', hc2'⟩ := HR'.out.at_ hlt
      have HX := Lib.hid (p_at hx)
      have HX' := Lib.hid (p_at hx')
      have HRI := Lib.hid hri
      have HRI' := Lib.hid hri'
      have k0 : (0 : Int) ≤ (k : Int) := by omega
      obtain ⟨q0, q1⟩ := hc2 wr (HBB.out.mono hB)
      obtain ⟨q2, q3⟩ := hc2' wr (HBB.out.mono hB)
      clear hx hx' hri hri' hcs hcs' hc2 hc2'
      go_upto_region 6 with fail
      by_cases hf : rf = rf'
      · have e1 : (rf.toList == rf'.toList) = true := (kbeq_iff rf rf').2 hf
        have e2 : (rf.toList != rf'.toList) = false := by rw [bne, e1]; rfl
        have hS : wr.drew.cell? ⟨g, 1, none⟩ = some (.slice (some ad) n c) ∧ wr.drew.cell? ⟨g + 1, 1, none⟩ = some (.slice (some ad') n c') ∧ wr.drew.cell? (ad.add (k * 2)) = some (.string rf) ∧ wr.drew.cell? (ad'.add (k * 2)) = some (.string rf') ∧ wr.drew.cell? ⟨(ad.add (k * 2)).block, (ad.add (k * 2)).off + 1, none⟩ = some (.slice ra rn rc) ∧ wr.drew.cell? ⟨(ad'.add (k * 2)).block, (ad'.add (k * 2)).off + 1, none⟩ = some (.slice ra' rn' rc') := ⟨c11, c13, q0, q2, q1, q3⟩
        have HB1 := Lib.hid (HB.out.drew)
        have HBB1 := Lib.hid (HBB.out.drew)
        refine wp_region_text [(0, false), (1, false), (2, false), (3, false), (4, false), (5, false), (6, false), (7, false), (8, false), (9, false), (10, false), (11, false), (12, false), (13, false), (14, false), (15, false), (16, false), (17, false), (18, false), (19, false), (20, false), (21, false), (22, false), (23, false), (24, false), (25, false), (26, true), (27, false), (28, false)] (fun V => V.cell? ⟨g, 1, none⟩ = some (.slice (some ad) n c) ∧ V.cell? ⟨g + 1, 1, none⟩ = some (.slice (some ad') n c') ∧ V.cell? (ad.add (k * 2)) = some (.string rf) ∧ V.cell? (ad'.add (k * 2)) = some (.string rf') ∧ V.cell? ⟨(ad.add (k * 2)).block, (ad.add (k * 2)).off + 1, none⟩ = some (.slice ra rn rc) ∧ V.cell? ⟨(ad'.add (k * 2)).block, (ad'.add (k * 2)).off + 1, none⟩ = some (.slice ra' rn' rc')) (by kernel_rfl) (by kernel_rfl) (by kernel_rfl) (by kernel_rfl) (by kernel_rfl) (fun _ => ?_)
        simp only [outOf, List.getElem?_cons_zero, List.getElem?_cons_succ, Option.getD_some]
        clear c11 c13 q0 q1 q2 q3 HB HBB
        generalize wr.drew = w1 at *
        iterate 26 ((first | (refine TW.val2 (v := ?_) ?_ ?_ ?_ ?_ ?_; rotate_left; (focus rfl); (focus (intro W hSW; (try dsimp only at hSW); (try (obtain ⟨hS1, hSW⟩ := hSW)); (try (obtain ⟨hS2, hSW⟩ := hSW)); (try (obtain ⟨hS3, hSW⟩ := hSW)); (try (obtain ⟨hS4, hSW⟩ := hSW)); (try (obtain ⟨hS5, hSW⟩ := hSW)); (try (obtain ⟨hS6, hSW⟩ := hSW)); (try (obtain ⟨hS7, hSW⟩ := hSW)); (try (obtain ⟨hS8, hSW⟩ := hSW)); go_simp; (try with_reducible rfl); done)); (focus exact fun _ _ _ h => h); (focus assumption)) | (refine TW.skip (e := false) ?_ ?_ ?_ ?_; (focus rfl); (focus exact fun _ _ _ h => h); (focus assumption))); simp only [Act.put, List.setIfInBounds_toArray, List.set_cons_zero, List.set_cons_succ])
        refine TW.eff (by rfl) (fun K hK => ?_); go_simp
        refine (ints_v ra ra' rn rc rn' rc' B ds ds' w1 (Reads.below HRI.out (HBB1.out.mono hB)) (Reads.below HRI'.out (HBB1.out.mono hB)) (by omega) (by omega)).mono ?_
        rintro e w2 ⟨rfl, b5⟩
        have HB2 := Lib.hid (HB1.out.trans (b5.mono (by have := HB1.out.size; omega)))
        have HBB2 := Lib.hid (HBB1.out.trans (b5.mono (by have := HBB1.out.size; omega)))
        have hS2 := (⟨keepc b5 hS.1, keepc b5 hS.2.1, keepc b5 hS.2.2.1, keepc b5 hS.2.2.2.1, keepc b5 hS.2.2.2.2.1, keepc b5 hS.2.2.2.2.2⟩ : w2.cell? ⟨g, 1, none⟩ = some (.slice (some ad) n c) ∧ w2.cell? ⟨g + 1, 1, none⟩ = some (.slice (some ad') n c') ∧ w2.cell? (ad.add (k * 2)) = some (.string rf) ∧ w2.cell? (ad'.add (k * 2)) = some (.string rf') ∧ w2.cell? ⟨(ad.add (k * 2)).block, (ad.add (k * 2)).off + 1, none⟩ = some (.slice ra rn rc) ∧ w2.cell? ⟨(ad'.add (k * 2)).block, (ad'.add (k * 2)).off + 1, none⟩ = some (.slice ra' rn' rc'))
        clear hS b5 HB1 HBB1
        go_wp2_with fail; refine hK.out _ _ hS2 ?_; clear hK; (try simp only [Act.put, List.setIfInBounds_toArray, List.set_cons_zero, List.set_cons_succ])
        iterate 2 ((first | (refine TW.val2 (v := ?_) ?_ ?_ ?_ ?_ ?_; rotate_left; (focus rfl); (focus (intro W hSW; (try dsimp only at hSW); (try (obtain ⟨hS1, hSW⟩ := hSW)); (try (obtain ⟨hS2, hSW⟩ := hSW)); (try (obtain ⟨hS3, hSW⟩ := hSW)); (try (obtain ⟨hS4, hSW⟩ := hSW)); (try (obtain ⟨hS5, hSW⟩ := hSW)); (try (obtain ⟨hS6, hSW⟩ := hSW)); (try (obtain ⟨hS7, hSW⟩ := hSW)); (try (obtain ⟨hS8, hSW⟩ := hSW)); go_simp; (try with_reducible rfl); done)); (focus exact fun _ _ _ h => h); (focus assumption)) | (refine TW.skip (e := false) ?_ ?_ ?_ ?_; (focus rfl); (focus exact fun _ _ _ h => h); (focus assumption))); simp only [Act.put, List.setIfInBounds_toArray, List.set_cons_zero, List.set_cons_succ])
        refine TW.done ?_
        clear hS2
        by_cases hd : ds = ds'
        · have d3 : decide (ds = ds') = true := decide_eq_true hd
          have HN := Lib.hid (show (rs.map Rw.p).take (k + 1) = (rs'.map Rw.p).take (k + 1) by rw [List.take_add_one, List.take_add_one, HT.out, HX.out, HX'.out, hf, hd])
          clear hd hf
          rw [d3]
          go_wp2_with fail
          go_roundw
          case rel => exact ⟨k + 1, hlt, by go_num, HN.out, HB2.out⟩
          case measure => simp [intOf]; omega
        · have d3 : decide (ds = ds') = false := decide_eq_false hd
          have HN := Lib.hid (show eqM (oa, rs.map Rw.p) (oa, rs'.map Rw.p) = false from decide_eq_false fun h => by
            have h1 := HX.out
            rw [show rs.map Rw.p = rs'.map Rw.p from h.2, HX'.out] at h1
            injection h1 with h1
            injection h1 with _ h2
            exact hd h2.symm)
          clear hd hf
          rw [d3]
          go_wp2_with fail
          go_ret
          exact ⟨by rw [HN.out]; rfl, hg ▸ HBB2.out⟩
      · have e1 : (rf.toList == rf'.toList) = false := (kbeq_false rf rf').2 hf
        have e2 : (rf.toList != rf'.toList) = true := by rw [bne, e1]; rfl
        have HN := Lib.hid (show eqM (oa, rs.map Rw.p) (oa, rs'.map Rw.p) = false from decide_eq_false fun h => by
          have h1 := HX.out
          rw [show rs.map Rw.p = rs'.map Rw.p from h.2, HX'.out] at h1
          injection h1 with h1
          injection h1 with h2 _
          exact hf h2.symm)
        clear hf
        go_quiet (fail)
        go_wp2_with fail
        go_ret
        exact ⟨by rw [HN.out]; rfl, hg ▸ below_drewN HBB.out _⟩
    · obtain rfl : k = n := by omega
      have HN := Lib.hid (show eqM (oa, rs.map Rw.p) (oa, rs'.map Rw.p) = true from decide_eq_true ⟨rfl, by
        have h1 := HT.out
        rwa [List.take_of_length_le (by rw [List.length_map, HL.out]; exact Nat.le_refl _), List.take_of_length_le (by rw [List.length_map, HL'.out]; exact Nat.le_refl _)] at h1⟩)
      go_wp2_with fail
      go_ret
      exact ⟨by rw [HN.out]; rfl, hg ▸ HBB.out⟩
end Go.Proofs.Ytikegnnlmfidfaa
