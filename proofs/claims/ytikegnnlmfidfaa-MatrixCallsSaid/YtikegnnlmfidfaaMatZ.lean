/-
  Matrices: the reference's Same.
-/
import Derived.Test.YtikegnnlmfidfaaMatY
namespace Go.Proofs.Ytikegnnlmfidfaa
open Go.RowKit
set_option maxRecDepth 100000 in
set_option maxHeartbeats 16000000 in
theorem rsame_v (oa ob : Int) (A A' : Option Addr) (n c n' c' B : Nat) (rs rs' : List Rw) (w : World) (hr : RowsR w B A n rs) (hr' : RowsR w B A' n' rs') (hB : B ≤ w.heap.size) (hn : n ≤ 9223372036854775807) (hn' : n' ≤ 9223372036854775807) :
    Calls Try.prog 35 #[.agg #[.int .i64 oa, .slice A n c], .agg #[.int .i64 ob, .slice A' n' c']] w fun e w' => e = .returned (.bool (sameM (oa, rs.map Rw.p) (ob, rs'.map Rw.p))) ∧ Below w.heap.size w w' := by
  have HI := Lib.hid (show (Try.prog.info? 56).map (·.size) = some 2 by kernel_rfl)
  have HR := Lib.hid hr
  have HR' := Lib.hid hr'
  have HL := Lib.hid hr.len
  have HL' := Lib.hid hr'.len
  have B0 := Lib.hid (((Below.refl w.heap.size w).alloc (Nat.le_refl _) (.cells #[.int .i64 oa, .slice A n c] 27)).alloc (by simp) (.cells #[.int .i64 ob, .slice A' n' c'] 27))
  have X0 := Lib.hid (show ((w.alloc (.cells #[.int .i64 oa, .slice A n c] 27)).alloc (.cells #[.int .i64 ob, .slice A' n' c'] 27)).heap[w.heap.size]? = some (.cells #[.int .i64 oa, .slice A n c] 27 (0, 0)) from (Below.heap_alloc _ _ _ (by simp)).trans (heap_alloc_new w _))
  have Y0 := Lib.hid (show ((w.alloc (.cells #[.int .i64 oa, .slice A n c] 27)).alloc (.cells #[.int .i64 ob, .slice A' n' c'] 27)).heap[w.heap.size + 1]? = some (.cells #[.int .i64 ob, .slice A' n' c'] 27 (0, 0)) from by
    have h := heap_alloc_new (w.alloc (.cells #[.int .i64 oa, .slice A n c] 27)) (.cells #[.int .i64 ob, .slice A' n' c'] 27)
    simpa using h)
  have hz0 : w.heap.size + 2 ≤ ((w.alloc (.cells #[.int .i64 oa, .slice A n c] 27)).alloc (.cells #[.int .i64 ob, .slice A' n' c'] 27)).heap.size := by simp
  clear hr hr'
  go_enter Try.func35, Try.ntmps35
  go_upto_region 1 with fail
  generalize (w.alloc (.cells #[.int .i64 oa, .slice A n c] 27)).alloc (.cells #[.int .i64 ob, .slice A' n' c'] 27) = w0 at *
  generalize hg : w.heap.size = g at *
  have D0 := Lib.hid (Below.refl w0.heap.size w0)
  have KC := Lib.hid (show ∀ V, Below w0.heap.size w0 V → V.cell? ⟨g, 0, none⟩ = some (.int .i64 oa) ∧ V.cell? ⟨g, 1, none⟩ = some (.slice A n c) ∧ V.cell? ⟨g + 1, 0, none⟩ = some (.int .i64 ob) ∧ V.cell? ⟨g + 1, 1, none⟩ = some (.slice A' n' c') from fun V hV => by
    have h1 := (hV.block g (by omega)).trans X0.out
    have h2 := (hV.block (g + 1) (by omega)).trans Y0.out
    exact ⟨by rw [cell_of_row _ _ 0 _ _ _ h1]; rfl, by rw [cell_of_row _ _ 1 _ _ _ h1]; rfl, by rw [cell_of_row _ _ 0 _ _ _ h2]; rfl, by rw [cell_of_row _ _ 1 _ _ _ h2]; rfl⟩)
  obtain ⟨c00, c01, c02, c03⟩ := KC.out w0 D0.out
  by_cases ho : oa = ob
  case neg =>
    have d1 : (oa != ob) = true := bne_iff_ne.2 ho
    have HE := Lib.hid (show sameM (oa, rs.map Rw.p) (ob, rs'.map Rw.p) = false by unfold sameM; rw [decide_eq_false (p := (oa, rs.map Rw.p).1 = (ob, rs'.map Rw.p).1) ho]; simp)
    clear ho
    go_wp2_with fail
    go_ret
    exact ⟨by rw [HE.out]; rfl, hg ▸ B0.out⟩
  subst ho
  have d1 : (oa != oa) = false := by simp
  by_cases hnn : n = n'
  case neg =>
    have d2 : ((n : Int) != (n' : Int)) = true := bne_iff_ne.2 (by omega)
    have HE := Lib.hid (show sameM (oa, rs.map Rw.p) (oa, rs'.map Rw.p) = false by
      unfold sameM
      rw [decide_eq_false (p := (oa, rs.map Rw.p).2 = (oa, rs'.map Rw.p).2) (fun h => hnn (by
        have h1 := congrArg List.length h
        simp only [List.length_map] at h1
        rwa [HL.out, HL'.out] at h1))]
      simp)
    clear hnn
    go_wp2_with fail
    go_ret
    exact ⟨by rw [HE.out]; rfl, hg ▸ B0.out⟩
  subst hnn
  have d2 : ((n : Int) != (n : Int)) = false := by simp
  go_wp2_with fail
  clear c00 c01 c02 c03
  have CV := rcheck_v oa A n c B rs w0 (HR.out.below (B0.out.mono hB)) (by have := B0.out.size; omega) hn
  obtain ⟨ck, hck⟩ : ∃ ck, chkM (oa, rs.map Rw.p) = ck := ⟨_, rfl⟩
  have HCA := Lib.hid hck
  rw [hck] at CV
  clear hck
  refine CV.mono ?_
  rintro e w1 ⟨rfl, b1⟩
  have Bw1 := Lib.hid (B0.out.trans (b1.mono (by have := B0.out.size; omega)))
  have Dw1 := Lib.hid (D0.out.trans (b1.mono D0.out.size))
  clear b1 CV
  by_cases h0 : ck = 0
  case neg =>
    have d3 : ((ck : Int) != 0) = true := bne_iff_ne.2 (by omega)
    have HE := Lib.hid (show sameM (oa, rs.map Rw.p) (oa, rs'.map Rw.p) = false by unfold sameM; rw [HCA.out, decide_eq_false h0]; simp)
    clear h0
    go_wp2_with fail
    go_ret
    exact ⟨by rw [HE.out]; rfl, hg ▸ Bw1.out⟩
  subst h0
  obtain ⟨c10, c11, c12, c13⟩ := KC.out w1 Dw1.out
  go_wp2_with fail
  clear c10 c11 c12 c13
  have CV := rcheck_v oa A' n c' B rs' w1 (HR'.out.below (Bw1.out.mono hB)) (by have := Bw1.out.size; omega) hn
  obtain ⟨ck, hck⟩ : ∃ ck, chkM (oa, rs'.map Rw.p) = ck := ⟨_, rfl⟩
  have HCB := Lib.hid hck
  rw [hck] at CV
  clear hck
  refine CV.mono ?_
  rintro e w2 ⟨rfl, b1⟩
  have Bw2 := Lib.hid (Bw1.out.trans (b1.mono (by have := Bw1.out.size; omega)))
  have Dw2 := Lib.hid (Dw1.out.trans (b1.mono Dw1.out.size))
  clear b1 CV
  by_cases h0 : ck = 0
  case neg =>
    have d3 : ((ck : Int) != 0) = true := bne_iff_ne.2 (by omega)
    have HE := Lib.hid (show sameM (oa, rs.map Rw.p) (oa, rs'.map Rw.p) = false by unfold sameM; rw [HCB.out, decide_eq_false h0]; simp)
    clear h0
    go_wp2_with fail
    go_ret
    exact ⟨by rw [HE.out]; rfl, hg ▸ Bw2.out⟩
  subst h0
  have HSM := Lib.hid (show sameM (oa, rs.map Rw.p) (oa, rs'.map Rw.p) = decide (rs.map Rw.p = rs'.map Rw.p) by unfold sameM; rw [HCA.out, HCB.out]; simp)
  obtain ⟨c20, c21, c22, c23⟩ := KC.out w2 Dw2.out
  go_wp2_with fail
  clear d1 d2 c20 c21 c22 c23
  go_loopw [5] (fun i wr => ∃ k : Nat, k ≤ n ∧ i = .int .i64 (k : Int) ∧ (rs.map Rw.p).take k = (rs'.map Rw.p).take k ∧ Below w2.heap.size w2 wr) (fun i _ => n - (intOf i).toNat)
  case atStart => exact ⟨0, Nat.zero_le _, rfl, by simp, Below.refl _ _⟩
  case round =>
    obtain ⟨k, hk, rfl, ht, hb⟩ := hrel
    have HT := Lib.hid ht
    have HB := Lib.hid hb
    have HBB := Lib.hid (Bw2.out.trans (hb.mono (by have := Bw2.out.size; omega)))
    have HDD := Lib.hid (Dw2.out.trans (hb.mono Dw2.out.size))
    obtain ⟨_, c11, _, c13⟩ := KC.out wr HDD.out
    clear ht hb
    by_cases hlt : k < n
    · obtain ⟨ad, rf, ra, rn, rc, ds, rfl, hx, ⟨hri, hrn, hrc, hfs⟩, hcs, hc2⟩ := HR.out.at_ hlt
      obtain ⟨ad', rf', ra', rn', rc', ds', rfl, hx', ⟨hri', hrn', hrc', hfs'⟩, hcs', hc2'⟩ := HR'.out.at_ hlt
      have HX := Lib.hid (p_at hx)
      have HX' := Lib.hid (p_at hx')
      have HRI := Lib.hid hri
      have HRI' := Lib.hid hri'
      have k0 : (0 : Int) ≤ (k : Int) := by omega
      have HKB := Lib.hid (show ∀ V, Below wr.heap.size wr V → Below B w V from fun V hV => (HBB.out.trans (hV.mono (by have := HBB.out.size; omega))).mono hB)
      have q0 : ∀ V, Below wr.heap.size wr V → V.cell? (ad.add (k * 2)) = some (.string rf) := fun V hV => (hc2 V (HKB.out V hV)).1
      have q1 : ∀ V, Below wr.heap.size wr V → V.cell? ⟨(ad.add (k * 2)).block, (ad.add (k * 2)).off + 1, none⟩ = some (.slice ra rn rc) := fun V hV => (hc2 V (HKB.out V hV)).2
      have q2 : ∀ V, Below wr.heap.size wr V → V.cell? (ad'.add (k * 2)) = some (.string rf') := fun V hV => (hc2' V (HKB.out V hV)).1
      have q3 : ∀ V, Below wr.heap.size wr V → V.cell? ⟨(ad'.add (k * 2)).block, (ad'.add (k * 2)).off + 1, none⟩ = some (.slice ra' rn' rc') := fun V hV => (hc2' V (HKB.out V hV)).2
      have q4 : ∀ V, Below wr.heap.size wr V → V.cell? ⟨g, 1, none⟩ = some (.slice (some ad) n c) := fun V hV => keepc hV c11
      have q5 : ∀ V, Below wr.heap.size wr V → V.cell? ⟨g + 1, 1, none⟩ = some (.slice (some ad') n c') := fun V hV => keepc hV c13
      clear hx hx' hri hri' hcs hcs' hc2 hc2'
      go_upto_region 6 with fail
      refine wp_region_tree (SK.one 0 false <| .one 1 false <| .one 2 false <| .one 3 false <| .one 4 false <| .one 5 false <| .one 6 false <| .one 7 false <| .one 8 false <| .one 9 false <| .two 10 (.one 11 true <| .one 12 true <| .one 13 true .done) 11 (.one 10 true <| .one 12 true <| .one 13 true .done)) (fun V => Below wr.heap.size wr V) (by kernel_rfl) (by kernel_rfl) (by kernel_rfl) (by kernel_rfl) ?_
      have hS : Below wr.heap.size wr wr.drew := (Below.refl _ _).drew
      generalize wr.drew = v0 at *
      ((first | (refine TR.val2 (v := ?_) _ (by simp only [List.getElem?_toArray, List.getElem?_cons_zero]; rfl) ?_ ?_ ?_ ?_ ?_; rotate_left; (focus rfl); (focus (intro W hSW; (try dsimp only at hSW); go_simp; (try with_reducible rfl); done)); (focus exact fun _ _ _ h => h); (focus assumption)) | (refine TR.skip _ (by simp only [List.getElem?_toArray, List.getElem?_cons_zero]; rfl) ?_ ?_ ?_ ?_; (focus rfl); (focus exact fun _ _ _ h => h); (focus assumption))); simp only [Act.put, List.setIfInBounds_toArray, List.set_cons_zero, List.set_cons_succ])
      iterate 9 ((first | (refine TR.val2 (v := ?_) _ (by simp only [List.getElem?_toArray, List.getElem?_cons_succ, List.getElem?_cons_zero]; rfl) ?_ ?_ ?_ ?_ ?_; rotate_left; (focus rfl); (focus (intro W hSW; (try dsimp only at hSW); go_simp; (try with_reducible rfl); done)); (focus exact fun _ _ _ h => h); (focus assumption)) | (refine TR.skip _ (by simp only [List.getElem?_toArray, List.getElem?_cons_succ, List.getElem?_cons_zero]; rfl) ?_ ?_ ?_ ?_; (focus rfl); (focus exact fun _ _ _ h => h); (focus assumption))); simp only [Act.put, List.setIfInBounds_toArray, List.set_cons_zero, List.set_cons_succ])
      refine TR.two _ _ (by simp only [List.getElem?_toArray, List.getElem?_cons_succ, List.getElem?_cons_zero]; rfl) (by simp only [List.getElem?_toArray, List.getElem?_cons_succ, List.getElem?_cons_zero]; rfl) (by rfl) (by rfl) (fun K hK => ?_) (fun K hK => ?_)
      · go_simp
        have z0 := Lib.hid (heap_alloc_new v0 (.cells #[.string ⟨#[]⟩, .slice none 0 0] 56))
        have hS1 := hS.alloc hS.size (.cells #[.string ⟨#[]⟩, .slice none 0 0] 56)
        have hl1 : v0.heap.size < (v0.alloc (.cells #[.string ⟨#[]⟩, .slice none 0 0] 56)).heap.size := by simp
        have hlo : wr.heap.size ≤ v0.heap.size := hS.size
        refine hK.out _ _ hS1 ?_
        clear hK hS
        (try simp only [Act.put, List.setIfInBounds_toArray, List.set_cons_zero, List.set_cons_succ])
        generalize v0.alloc (.cells #[.string ⟨#[]⟩, .slice none 0 0] 56) = v1 at *
        generalize v0.heap.size = p6 at *
        have hS := hS1
        clear hS1
        refine TR.eff _ (by simp only [List.getElem?_toArray, List.getElem?_cons_succ, List.getElem?_cons_zero]; rfl) (by rfl) (fun K hK => ?_); go_simp
        have z1 := Lib.hid (heap_alloc_new v1 (.cells #[.string ⟨#[]⟩, .slice none 0 0] 56))
        have z2 := Lib.hid ((Below.heap_alloc v1 (.cells #[.string ⟨#[]⟩, .slice none 0 0] 56) p6 hl1).trans z0.out)
        have hS1 := hS.alloc hS.size (.cells #[.string ⟨#[]⟩, .slice none 0 0] 56)
        refine hK.out _ _ hS1 ?_
        clear hK hS z0
        (try simp only [Act.put, List.setIfInBounds_toArray, List.set_cons_zero, List.set_cons_succ])
        generalize v1.alloc (.cells #[.string ⟨#[]⟩, .slice none 0 0] 56) = v2 at *
        generalize v1.heap.size = p7 at *
        have hS := hS1
        clear hS1
        have y6 := z2
        have y7 := z1
        refine TR.eff _ (by simp only [List.getElem?_toArray, List.getElem?_cons_succ, List.getElem?_cons_zero]; rfl) (by rfl) (fun K hK => ?_)
        refine wp_store_row 56 (.tmp 6) (.tmp 44) rfl p6 #[.string rf, .slice ra rn rc] rfl rfl 56 _ y6.out HI.out rfl (by simp [Value.oneCell']) ?_
        have x6 := Lib.hid (setRow_heap _ p6 _ #[.string rf, .slice ra rn rc] _ _ y6.out)
        have x7 := Lib.hid ((setRow_other v2 p6 p7 #[.string rf, .slice ra rn rc] (by omega)).trans y7.out)
        have hS1 := below_setRow hS (show wr.heap.size ≤ p6 by omega) #[.string rf, .slice ra rn rc]
        refine hK.out _ _ hS1 ?_
        clear hK hS y6 y7 z1 z2
        (try simp only [Act.put, List.setIfInBounds_toArray, List.set_cons_zero, List.set_cons_succ])
        generalize v2.setRow p6 #[.string rf, .slice ra rn rc] = v3 at *
        have hS := hS1
        clear hS1
        refine TR.eff _ (by simp only [List.getElem?_toArray, List.getElem?_cons_succ, List.getElem?_cons_zero]; rfl) (by rfl) (fun K hK => ?_)
        refine wp_store_row 56 (.tmp 7) (.tmp 49) rfl p7 #[.string rf', .slice ra' rn' rc'] rfl rfl 56 _ x7.out HI.out rfl (by simp [Value.oneCell']) ?_
        have x6 := (setRow_other v3 p7 p6 #[.string rf', .slice ra' rn' rc'] (by omega)).trans x6.out
        have x7 := setRow_heap _ p7 _ #[.string rf', .slice ra' rn' rc'] _ _ x7.out
        have hS1 := below_setRow hS (show wr.heap.size ≤ p7 by omega) #[.string rf', .slice ra' rn' rc']
        refine hK.out _ _ hS1 ?_
        clear hK hS
        (try simp only [Act.put, List.setIfInBounds_toArray, List.set_cons_zero, List.set_cons_succ])
        generalize v3.setRow p7 #[.string rf', .slice ra' rn' rc'] = w4 at *
        have hS := hS1
        clear hS1
        refine TR.done ?_
        have X6 := Lib.hid x6
        have X7 := Lib.hid x7
        have T4 := Lib.hid hS
        clear x6 x7 hS q0 q1 q2 q3 q4 q5
        have HBF := Lib.hid (HBB.out.trans (T4.out.mono (by have := HBB.out.size; omega)))
        have HBL := Lib.hid (HB.out.trans (T4.out.mono (by have := HB.out.size; omega)))
        have c60 : w4.cell? ⟨p6, 0, none⟩ = some (.string rf) := by rw [cell_of_row _ _ 0 _ _ _ X6.out]; rfl
        have c61 : w4.cell? ⟨p6, 1, none⟩ = some (.slice ra rn rc) := by rw [cell_of_row _ _ 1 _ _ _ X6.out]; rfl
        have c70 : w4.cell? ⟨p7, 0, none⟩ = some (.string rf') := by rw [cell_of_row _ _ 0 _ _ _ X7.out]; rfl
        have c71 : w4.cell? ⟨p7, 1, none⟩ = some (.slice ra' rn' rc') := by rw [cell_of_row _ _ 1 _ _ _ X7.out]; rfl
        have HRI4 := Lib.hid (show IReads w4 B ra rn ds from Reads.below HRI.out (HBF.out.mono hB))
        have HRI4' := Lib.hid (show IReads w4 B ra' rn' ds' from Reads.below HRI'.out (HBF.out.mono hB))
        have HNO := Lib.hid (show ¬ (rf = rf' ∧ ds = ds') → sameM (oa, rs.map Rw.p) (oa, rs'.map Rw.p) = false from fun h => by
          unfold sameM
          rw [decide_eq_false (p := (oa, rs.map Rw.p).2 = (oa, rs'.map Rw.p).2) (fun e => h (by
            have h1 := HX.out
            rw [show rs.map Rw.p = rs'.map Rw.p from e, HX'.out] at h1
            injection h1 with h1
            injection h1 with h2 h3
            exact ⟨h2.symm, h3.symm⟩))]
          simp)
        by_cases hf : rf = rf'
        case neg =>
          have e1 : (rf.toList == rf'.toList) = false := (kbeq_false rf rf').2 hf
          have e2 : (rf.toList != rf'.toList) = true := by rw [bne, e1]; rfl
          have HE := Lib.hid (HNO.out fun h => hf h.1)
          clear hf
          go_wp2_with fail
          go_ret
          exact ⟨by rw [HE.out]; rfl, hg ▸ HBF.out⟩
        have e1 : (rf.toList == rf'.toList) = true := (kbeq_iff rf rf').2 hf
        have e2 : (rf.toList != rf'.toList) = false := by rw [bne, e1]; rfl
        by_cases hl : rn = rn'
        case neg =>
          have e3 : ((rn : Int) != (rn' : Int)) = true := bne_iff_ne.2 (by omega)
          have HE := Lib.hid (HNO.out fun h => hl (by rw [← HRI4.out.len, ← HRI4'.out.len, h.2]))
          clear hf hl
          go_wp2_with fail
          go_ret
          exact ⟨by rw [HE.out]; rfl, hg ▸ HBF.out⟩
        subst hl
        have e3 : ((rn : Int) != (rn : Int)) = false := by simp
        have HFE := Lib.hid hf
        clear hf
        go_wp2_with fail
        clear e1 e2 e3
        go_loopw [8] (fun j ws => ∃ i : Nat, i ≤ rn ∧ j = .int .i64 (i : Int) ∧ ds.take i = ds'.take i ∧ Below w4.heap.size w4 ws) (fun j _ => rn - (intOf j).toNat)
        case atStart => exact ⟨0, Nat.zero_le _, rfl, by simp, Below.refl _ _⟩
        case round =>
          obtain ⟨i, hi, rfl, ht2, hb2⟩ := hrel
          have HT2 := Lib.hid ht2
          have HB5 := Lib.hid hb2
          have HBF5 := Lib.hid (HBF.out.trans (hb2.mono (by have := HBF.out.size; omega)))
          have HBL5 := Lib.hid (HBL.out.trans (hb2.mono (by have := HBL.out.size; omega)))
          have k61 := keepc hb2 c61
          have k71 := keepc hb2 c71
          clear ht2 hb2
          by_cases hin : i < rn
          · obtain ⟨ai, x, hai, hx, hc⟩ := HRI4.out.at_ hin
            obtain ⟨ai', x', hai', hx', hc'⟩ := HRI4'.out.at_ hin
            subst hai hai'
            have HXI := Lib.hid hx
            have HXI' := Lib.hid hx'
            have i0 : (0 : Int) ≤ (i : Int) := by omega
            have m0 := keepc HB5.out (hc w4 (Below.refl _ _))
            have m1 := keepc HB5.out (hc' w4 (Below.refl _ _))
            clear hx hx' hc hc'
            by_cases hd : x = x'
            · have e4 : (x != x') = false := by simp [hd]
              have HN := Lib.hid (show ds.take (i + 1) = ds'.take (i + 1) by rw [List.take_add_one, List.take_add_one, HT2.out, HXI.out, HXI'.out, hd])
              clear hd
              go_upto_region 12 with fail
              go_quiet (fail)
              go_wp2_with fail
              go_roundw
              case rel => exact ⟨i + 1, hin, by go_num, HN.out, below_drewN HB5.out _⟩
              case measure => simp [intOf]; omega
            · have e4 : (x != x') = true := by simp [hd]
              have HE := Lib.hid (HNO.out fun h => hd (by
                have h1 := HXI.out
                rw [h.2, HXI'.out] at h1
                exact (Option.some.inj h1).symm))
              clear hd
              go_upto_region 12 with fail
              go_quiet (fail)
              go_wp2_with fail
              go_ret
              exact ⟨by rw [HE.out]; rfl, hg ▸ below_drewN HBF5.out _⟩
          · obtain rfl : i = rn := by omega
            have HN := Lib.hid (show (rs.map Rw.p).take (k + 1) = (rs'.map Rw.p).take (k + 1) by
              have h1 := HT2.out
              rw [List.take_of_length_le (by rw [HRI4.out.len]; exact Nat.le_refl _), List.take_of_length_le (by rw [HRI4'.out.len]; exact Nat.le_refl _)] at h1
              rw [List.take_add_one, List.take_add_one, HT.out, HX.out, HX'.out, HFE.out, h1])
            go_wp2_with fail
            go_roundw
            case rel => exact ⟨k + 1, hlt, by go_num, HN.out, HBL5.out⟩
            case measure => simp [intOf]; omega
      · go_simp
        have z0 := Lib.hid (heap_alloc_new v0 (.cells #[.string ⟨#[]⟩, .slice none 0 0] 56))
        have hS1 := hS.alloc hS.size (.cells #[.string ⟨#[]⟩, .slice none 0 0] 56)
        have hl1 : v0.heap.size < (v0.alloc (.cells #[.string ⟨#[]⟩, .slice none 0 0] 56)).heap.size := by simp
        have hlo : wr.heap.size ≤ v0.heap.size := hS.size
        refine hK.out _ _ hS1 ?_
        clear hK hS
        (try simp only [Act.put, List.setIfInBounds_toArray, List.set_cons_zero, List.set_cons_succ])
        generalize v0.alloc (.cells #[.string ⟨#[]⟩, .slice none 0 0] 56) = v1 at *
        generalize v0.heap.size = p7 at *
        have hS := hS1
        clear hS1
        refine TR.eff _ (by simp only [List.getElem?_toArray, List.getElem?_cons_succ, List.getElem?_cons_zero]; rfl) (by rfl) (fun K hK => ?_); go_simp
        have z1 := Lib.hid (heap_alloc_new v1 (.cells #[.string ⟨#[]⟩, .slice none 0 0] 56))
        have z2 := Lib.hid ((Below.heap_alloc v1 (.cells #[.string ⟨#[]⟩, .slice none 0 0] 56) p7 hl1).trans z0.out)
        have hS1 := hS.alloc hS.size (.cells #[.string ⟨#[]⟩, .slice none 0 0] 56)
        refine hK.out _ _ hS1 ?_
        clear hK hS z0
        (try simp only [Act.put, List.setIfInBounds_toArray, List.set_cons_zero, List.set_cons_succ])
        generalize v1.alloc (.cells #[.string ⟨#[]⟩, .slice none 0 0] 56) = v2 at *
        generalize v1.heap.size = p6 at *
        have hS := hS1
        clear hS1
        have y6 := z1
        have y7 := z2
        refine TR.eff _ (by simp only [List.getElem?_toArray, List.getElem?_cons_succ, List.getElem?_cons_zero]; rfl) (by rfl) (fun K hK => ?_)
        refine wp_store_row 56 (.tmp 6) (.tmp 44) rfl p6 #[.string rf, .slice ra rn rc] rfl rfl 56 _ y6.out HI.out rfl (by simp [Value.oneCell']) ?_
        have x6 := Lib.hid (setRow_heap _ p6 _ #[.string rf, .slice ra rn rc] _ _ y6.out)
        have x7 := Lib.hid ((setRow_other v2 p6 p7 #[.string rf, .slice ra rn rc] (by omega)).trans y7.out)
        have hS1 := below_setRow hS (show wr.heap.size ≤ p6 by omega) #[.string rf, .slice ra rn rc]
        refine hK.out _ _ hS1 ?_
        clear hK hS y6 y7 z1 z2
        (try simp only [Act.put, List.setIfInBounds_toArray, List.set_cons_zero, List.set_cons_succ])
        generalize v2.setRow p6 #[.string rf, .slice ra rn rc] = v3 at *
        have hS := hS1
        clear hS1
        refine TR.eff _ (by simp only [List.getElem?_toArray, List.getElem?_cons_succ, List.getElem?_cons_zero]; rfl) (by rfl) (fun K hK => ?_)
        refine wp_store_row 56 (.tmp 7) (.tmp 49) rfl p7 #[.string rf', .slice ra' rn' rc'] rfl rfl 56 _ x7.out HI.out rfl (by simp [Value.oneCell']) ?_
        have x6 := (setRow_other v3 p7 p6 #[.string rf', .slice ra' rn' rc'] (by omega)).trans x6.out
        have x7 := setRow_heap _ p7 _ #[.string rf', .slice ra' rn' rc'] _ _ x7.out
        have hS1 := below_setRow hS (show wr.heap.size ≤ p7 by omega) #[.string rf', .slice ra' rn' rc']
        refine hK.out _ _ hS1 ?_
        clear hK hS
        (try simp only [Act.put, List.setIfInBounds_toArray, List.set_cons_zero, List.set_cons_succ])
        generalize v3.setRow p7 #[.string rf', .slice ra' rn' rc'] = w4 at *
        have hS := hS1
        clear hS1
        refine TR.done ?_
        have X6 := Lib.hid x6
        have X7 := Lib.hid x7
        have T4 := Lib.hid hS
        clear x6 x7 hS q0 q1 q2 q3 q4 q5
        have HBF := Lib.hid (HBB.out.trans (T4.out.mono (by have := HBB.out.size; omega)))
        have HBL := Lib.hid (HB.out.trans (T4.out.mono (by have := HB.out.size; omega)))
        have c60 : w4.cell? ⟨p6, 0, none⟩ = some (.string rf) := by rw [cell_of_row _ _ 0 _ _ _ X6.out]; rfl
        have c61 : w4.cell? ⟨p6, 1, none⟩ = some (.slice ra rn rc) := by rw [cell_of_row _ _ 1 _ _ _ X6.out]; rfl
        have c70 : w4.cell? ⟨p7, 0, none⟩ = some (.string rf') := by rw [cell_of_row _ _ 0 _ _ _ X7.out]; rfl
        have c71 : w4.cell? ⟨p7, 1, none⟩ = some (.slice ra' rn' rc') := by rw [cell_of_row _ _ 1 _ _ _ X7.out]; rfl
        have HRI4 := Lib.hid (show IReads w4 B ra rn ds from Reads.below HRI.out (HBF.out.mono hB))
        have HRI4' := Lib.hid (show IReads w4 B ra' rn' ds' from Reads.below HRI'.out (HBF.out.mono hB))
        have HNO := Lib.hid (show ¬ (rf = rf' ∧ ds = ds') → sameM (oa, rs.map Rw.p) (oa, rs'.map Rw.p) = false from fun h => by
          unfold sameM
          rw [decide_eq_false (p := (oa, rs.map Rw.p).2 = (oa, rs'.map Rw.p).2) (fun e => h (by
            have h1 := HX.out
            rw [show rs.map Rw.p = rs'.map Rw.p from e, HX'.out] at h1
            injection h1 with h1
            injection h1 with h2 h3
            exact ⟨h2.symm, h3.symm⟩))]
          simp)
        by_cases hf : rf = rf'
        case neg =>
          have e1 : (rf.toList == rf'.toList) = false := (kbeq_false rf rf').2 hf
          have e2 : (rf.toList != rf'.toList) = true := by rw [bne, e1]; rfl
          have HE := Lib.hid (HNO.out fun h => hf h.1)
          clear hf
          go_wp2_with fail
          go_ret
          exact ⟨by rw [HE.out]; rfl, hg ▸ HBF.out⟩
        have e1 : (rf.toList == rf'.toList) = true := (kbeq_iff rf rf').2 hf
        have e2 : (rf.toList != rf'.toList) = false := by rw [bne, e1]; rfl
        by_cases hl : rn = rn'
        case neg =>
          have e3 : ((rn : Int) != (rn' : Int)) = true := bne_iff_ne.2 (by omega)
          have HE := Lib.hid (HNO.out fun h => hl (by rw [← HRI4.out.len, ← HRI4'.out.len, h.2]))
          clear hf hl
          go_wp2_with fail
          go_ret
          exact ⟨by rw [HE.out]; rfl, hg ▸ HBF.out⟩
        subst hl
        have e3 : ((rn : Int) != (rn : Int)) = false := by simp
        have HFE := Lib.hid hf
        clear hf
        go_wp2_with fail
        clear e1 e2 e3
        go_loopw [8] (fun j ws => ∃ i : Nat, i ≤ rn ∧ j = .int .i64 (i : Int) ∧ ds.take i = ds'.take i ∧ Below w4.heap.size w4 ws) (fun j _ => rn - (intOf j).toNat)
        case atStart => exact ⟨0, Nat.zero_le _, rfl, by simp, Below.refl _ _⟩
        case round =>
          obtain ⟨i, hi, rfl, ht2, hb2⟩ := hrel
          have HT2 := Lib.hid ht2
          have HB5 := Lib.hid hb2
          have HBF5 := Lib.hid (HBF.out.trans (hb2.mono (by have := HBF.out.size; omega)))
          have HBL5 := Lib.hid (HBL.out.trans (hb2.mono (by have := HBL.out.size; omega)))
          have k61 := keepc hb2 c61
          have k71 := keepc hb2 c71
          clear ht2 hb2
          by_cases hin : i < rn
          · obtain ⟨ai, x, hai, hx, hc⟩ := HRI4.out.at_ hin
            obtain ⟨ai', x', hai', hx', hc'⟩ := HRI4'.out.at_ hin
            subst hai hai'
            have HXI := Lib.hid hx
            have HXI' := Lib.hid hx'
            have i0 : (0 : Int) ≤ (i : Int) := by omega
            have m0 := keepc HB5.out (hc w4 (Below.refl _ _))
            have m1 := keepc HB5.out (hc' w4 (Below.refl _ _))
            clear hx hx' hc hc'
            by_cases hd : x = x'
            · have e4 : (x != x') = false := by simp [hd]
              have HN := Lib.hid (show ds.take (i + 1) = ds'.take (i + 1) by rw [List.take_add_one, List.take_add_one, HT2.out, HXI.out, HXI'.out, hd])
              clear hd
              go_upto_region 12 with fail
              go_quiet (fail)
              go_wp2_with fail
              go_roundw
              case rel => exact ⟨i + 1, hin, by go_num, HN.out, below_drewN HB5.out _⟩
              case measure => simp [intOf]; omega
            · have e4 : (x != x') = true := by simp [hd]
              have HE := Lib.hid (HNO.out fun h => hd (by
                have h1 := HXI.out
                rw [h.2, HXI'.out] at h1
                exact (Option.some.inj h1).symm))
              clear hd
              go_upto_region 12 with fail
              go_quiet (fail)
              go_wp2_with fail
              go_ret
              exact ⟨by rw [HE.out]; rfl, hg ▸ below_drewN HBF5.out _⟩
          · obtain rfl : i = rn := by omega
            have HN := Lib.hid (show (rs.map Rw.p).take (k + 1) = (rs'.map Rw.p).take (k + 1) by
              have h1 := HT2.out
              rw [List.take_of_length_le (by rw [HRI4.out.len]; exact Nat.le_refl _), List.take_of_length_le (by rw [HRI4'.out.len]; exact Nat.le_refl _)] at h1
              rw [List.take_add_one, List.take_add_one, HT.out, HX.out, HX'.out, HFE.out, h1])
            go_wp2_with fail
            go_roundw
            case rel => exact ⟨k + 1, hlt, by go_num, HN.out, HBL5.out⟩
            case measure => simp [intOf]; omega
    · obtain rfl : k = n := by omega
      have HN := Lib.hid (show sameM (oa, rs.map Rw.p) (oa, rs'.map Rw.p) = true by
        rw [HSM.out]
        have h1 := HT.out
        rw [List.take_of_length_le (by rw [List.length_map, HL.out]; exact Nat.le_refl _), List.take_of_length_le (by rw [List.length_map, HL'.out]; exact Nat.le_refl _)] at h1
        exact decide_eq_true h1)
      go_wp2_with fail
      go_ret
      exact ⟨by rw [HN.out]; rfl, hg ▸ HBB.out⟩
end Go.Proofs.Ytikegnnlmfidfaa
