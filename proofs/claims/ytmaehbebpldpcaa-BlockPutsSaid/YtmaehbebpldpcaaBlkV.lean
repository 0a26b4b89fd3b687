/-
  Blocks: the reference's Wanted.
-/
import Derived.Test.YtmaehbebpldpcaaBlkQ
namespace Go.Proofs.Ytmaehbebpldpcaa
open Go.RowKit Go.Shelf
set_option maxRecDepth 100000 in
set_option maxHeartbeats 16000000 in
theorem rwanted_v (sl ll : Int) (al : Option Addr) (nl cl : Nat) (dl : List Dg) (ps : List (Int × Int)) (A : Option Addr) (m c B : Nat) (w : World)
    (hp : Reads w B 2 A m (ps.flatMap srcC)) (hd : DReads w B al nl dl) (hB : B ≤ w.heap.size) (hm : m ≤ 100000) (hnl : nl ≤ 9007199254740992) :
    Calls Try.prog 32 #[.slice A m c, .agg #[.int .i64 sl, .int .i64 ll, .slice al nl cl]] w fun e w' => ∃ A' c', e = .returned (.slice A' (wantP ps dl).length c') ∧ w'.ownsRow w.heap.size 59 32 (.slice A' (wantP ps dl).length c') (wantP ps dl).length ((wantP ps dl).flatMap Dg.cells) ∧ Below w.heap.size w w' := by
  have HID := Lib.hid (show (Try.prog.info? 59).map (·.size) = some 32 by kernel_rfl)
  have HP := Lib.hid hp
  have HD := Lib.hid hd
  have HLP := Lib.hid (show ps.length = m by have h1 := hp.1; rw [flat_len srcC_len] at h1; omega)
  have HLD := Lib.hid hd.len
  have B0 := Lib.hid ((Below.refl w.heap.size w).alloc (Nat.le_refl _) (.cells #[.int .i64 sl, .int .i64 ll, .slice al nl cl] 24))
  have X0 := Lib.hid (heap_alloc_new w (.cells #[.int .i64 sl, .int .i64 ll, .slice al nl cl] 24))
  have hz0 : (w.alloc (.cells #[.int .i64 sl, .int .i64 ll, .slice al nl cl] 24)).heap.size = w.heap.size + 1 := by simp
  have c2 : (w.alloc (.cells #[.int .i64 sl, .int .i64 ll, .slice al nl cl] 24)).cell? ⟨w.heap.size, 2, none⟩ = some (.slice al nl cl) := by rw [cell_of_row _ _ 2 _ _ _ X0.out]; rfl
  clear hp hd
  go_enter Try.func32, Try.ntmps32
  by_cases hmn : m = nl
  case neg =>
    have d1 : ((m : Int) != (nl : Int)) = true := by rw [bne_iff_ne]; omega
    have HW := Lib.hid (show wantP ps dl = [] by unfold wantP; rw [if_neg (by rw [HLP.out, HLD.out]; exact hmn)])
    rw [HW.out]
    go_wp2
    go_ret
    exact ⟨none, 0, rfl, World.ownsRow_nil _ _ _ 32, B0.out⟩
  subst hmn
  have HW := Lib.hid (show wantP ps dl = wantF ((ps.zip dl).take m) by
    unfold wantP
    rw [if_pos (by rw [HLP.out, HLD.out]), List.take_of_length_le (by rw [List.length_zip, HLP.out, HLD.out]; omega)])
  rw [HW.out]
  go_wp2_with fail
  generalize w.alloc (.cells #[.int .i64 sl, .int .i64 ll, .slice al m cl] 24) = w0 at *
  go_loopw [5, 6] (fun o i wr => ∃ (k r : Nat) (A' : Option Addr) (c' : Nat), k ≤ m ∧ i = .int .i64 (k : Int) ∧ (wantF ((ps.zip dl).take k)).length = r ∧ o = .slice A' r c' ∧ DOwn wr w0.heap.size A' r c' (wantF ((ps.zip dl).take k)) ∧ Below w0.heap.size w0 wr) (fun _ i _ => m - (intOf i).toNat)
  case atStart => exact ⟨0, 0, none, 0, Nat.zero_le _, rfl, rfl, rfl, World.ownsRow_nil _ _ _ 32, Below.refl _ _⟩
  case round =>
    obtain ⟨k, r, A', c', hk, rfl, hrl, rfl, ho, hb⟩ := hrel
    have HO := Lib.hid ho
    have HB := Lib.hid hb
    have HRL := Lib.hid hrl
    have hrk : r ≤ k := by
      rw [← hrl]
      exact wantF_len k _ (by rw [List.length_take, List.length_zip, HLP.out, HLD.out]; omega)
    clear ho hb hrl
    have X1 := Lib.hid ((HB.out.block w.heap.size (by omega)).trans X0.out)
    have B1 := Lib.hid (B0.out.trans (HB.out.mono (by omega)))
    have hzb := HB.out.size
    by_cases hlt : k < m
    · obtain ⟨ad, d, rfl, hd, hc⟩ := HD.out.at_ hlt
      obtain ⟨pd, rfl, hpb, hpc⟩ := HP.out.2 (by omega)
      obtain ⟨p, hp⟩ : ∃ p, ps[k]? = some p := ⟨_, List.getElem?_eq_getElem (by rw [HLP.out]; exact hlt)⟩
      have HST := Lib.hid (want_step hp hd)
      have c1 : wr.cell? (pd.add (k * 2)) = some (.int .i64 p.1) := by
        have h1 := hpc (k * 2 + 0) (.int .i64 p.1) (by rw [flat_at srcC_len ps hp (by decide)]; rfl)
        refine ((B1.out.mono hB).cell ?_).trans h1
        rw [block_of_add]
        exact hpb
      have HC := Lib.hid (fun V (hV : Below w.heap.size w V) => hc V (hV.mono hB))
      have k0 : (0 : Int) ≤ (k : Int) := by omega
      have c2 : wr.cell? ⟨w.heap.size, 2, none⟩ = some (.slice (some ad) m cl) := by rw [cell_of_row _ _ 2 _ _ _ X1.out]; rfl
      generalize hout : wantF ((ps.zip dl).take k) = out at *
      have HOUT := Lib.hid hout
      obtain ⟨b0, hb0⟩ : ∃ b0 : Bool, decide (p.1 ≠ -1) = b0 := ⟨_, rfl⟩
      have e0 : (p.1 != -1) = b0 := by rw [← hb0]; by_cases h : p.1 = -1 <;> simp [h]
      have HB0 := Lib.hid hb0
      clear hd hp hc hpc hout hb0
      go_wp2_with fail
      have HOR := Lib.hid (DReads.of_own HO.out)
      go_loopw [7, 8] (fun kn i V => ∃ (j2 : Nat) (b : Bool), j2 ≤ r ∧ i = .int .i64 (j2 : Int) ∧ kn = .bool b ∧ (b = true ↔ (p.1 ≠ -1 ∨ d ∈ out.take j2)) ∧ Below wr.heap.size wr V) (fun _ i _ => r - (intOf i).toNat)
      case atStart => exact ⟨0, b0, Nat.zero_le _, rfl, rfl, by rw [← HB0.out]; simp, Below.refl _ _⟩
      case round =>
        obtain ⟨j2, b, hj2, rfl, rfl, hbb, hb2⟩ := hrel
        have HBB := Lib.hid hbb
        have HB2 := Lib.hid hb2
        have BW := Lib.hid (B1.out.trans (hb2.mono B1.out.size))
        have hz2 := hb2.size
        have c2 : wr.cell? ⟨w.heap.size, 2, none⟩ = some (.slice (some ad) m cl) := by rw [cell_of_row _ _ 2 _ _ _ ((hb2.block w.heap.size (by omega)).trans X1.out)]; rfl
        have DC := Lib.hid (HC.out wr BW.out)
        clear hbb hb2
        by_cases hlt2 : j2 < r
        · obtain ⟨oa, y, rfl, hy, hyc⟩ := HOR.out.at_ hlt2
          have HY := Lib.hid hy
          have OC := Lib.hid (hyc wr HB2.out)
          have k1 : (0 : Int) ≤ (j2 : Int) := by omega
          have HTK := Lib.hid (show ∀ x, x ∈ out.take (j2 + 1) ↔ (x ∈ out.take j2 ∨ x = y) by
            intro x
            rw [List.take_add_one, HY.out, List.mem_append]
            simp)
          clear hy hyc
          cases b with
          | true =>
            have HN := Lib.hid (show (true = true ↔ (p.1 ≠ -1 ∨ d ∈ out.take (j2 + 1))) from ⟨fun _ => by
              rcases HBB.out.1 rfl with h | h
              · exact .inl h
              · exact .inr ((HTK.out d).2 (.inl h)), fun _ => rfl⟩)
            go_upto_region 11 with fail
            refine wp_region_tree (SK.one 0 false <| .one 1 false <| .one 2 false <| .one 3 false <| .one 4 false <| .one 5 false <| .one 6 false <| .one 7 false <| .one 8 false <| .one 9 false <| .one 10 false <| .one 11 false <| .one 12 false <| .one 13 false .done) (fun V => True) (by kernel_rfl) (by kernel_rfl) (by kernel_rfl) (by kernel_rfl) ?_
            have hS : True := trivial
            ((first | (refine TR.val2 (v := ?_) _ (by simp only [List.getElem?_toArray, List.getElem?_cons_zero]; rfl) ?_ ?_ ?_ ?_ ?_; rotate_left; (focus rfl); (focus (intro W hSW; (try dsimp only at hSW); (try (obtain ⟨hS1, hSW⟩ := hSW)); (try (obtain ⟨hS2, hSW⟩ := hSW)); (try (obtain ⟨hS3, hSW⟩ := hSW)); (try (obtain ⟨hS4, hSW⟩ := hSW)); (try (obtain ⟨hS5, hSW⟩ := hSW)); go_simp; (try with_reducible rfl); done)); (focus exact fun _ _ _ h => h); (focus assumption)) | (refine TR.skip _ (by simp only [List.getElem?_toArray, List.getElem?_cons_zero]; rfl) ?_ ?_ ?_ ?_; (focus rfl); (focus exact fun _ _ _ h => h); (focus assumption))); simp only [Act.put, List.setIfInBounds_toArray, List.set_cons_zero, List.set_cons_succ])
            iterate 13 ((first | (refine TR.val2 (v := ?_) _ (by simp only [List.getElem?_toArray, List.getElem?_cons_succ, List.getElem?_cons_zero]; rfl) ?_ ?_ ?_ ?_ ?_; rotate_left; (focus rfl); (focus (intro W hSW; (try dsimp only at hSW); (try (obtain ⟨hS1, hSW⟩ := hSW)); (try (obtain ⟨hS2, hSW⟩ := hSW)); (try (obtain ⟨hS3, hSW⟩ := hSW)); (try (obtain ⟨hS4, hSW⟩ := hSW)); (try (obtain ⟨hS5, hSW⟩ := hSW)); go_simp; (try with_reducible rfl); done)); (focus exact fun _ _ _ h => h); (focus assumption)) | (refine TR.skip _ (by simp only [List.getElem?_toArray, List.getElem?_cons_succ, List.getElem?_cons_zero]; rfl) ?_ ?_ ?_ ?_; (focus rfl); (focus exact fun _ _ _ h => h); (focus assumption))); simp only [Act.put, List.setIfInBounds_toArray, List.set_cons_zero, List.set_cons_succ])
            refine TR.done ?_
            clear hS
            go_wp2_with fail
            go_roundw
            case rel => exact ⟨j2 + 1, true, hlt2, by go_num, rfl, HN.out, HB2.out.drew⟩
            case measure => simp [intOf]; omega
          | false =>
            have he : ∀ V : World, (binOp .eql 59 (.agg y.cells.toArray) (.agg d.cells.toArray)).run Try.prog V = .ok (.bool (y.1 == d.1)) V := fun V => eqd y d V
            obtain ⟨b2, hb2⟩ : ∃ b2 : Bool, (y.1 == d.1) = b2 := ⟨_, rfl⟩
            rw [hb2] at he
            have HN := Lib.hid (show (b2 = true ↔ (p.1 ≠ -1 ∨ d ∈ out.take (j2 + 1))) by
              have h0 : ¬ (p.1 ≠ -1 ∨ d ∈ out.take j2) := fun h => by have := HBB.out.2 h; cases this
              rw [← hb2, HTK.out, beq_iff_eq]
              constructor
              · intro h; exact .inr (.inr (Subtype.ext h.symm))
              · rintro (h | h | h)
                · exact absurd (.inl h) h0
                · exact absurd (.inr h) h0
                · rw [h])
            clear hb2
            go_upto_region 11 with fail
            refine wp_region_tree (SK.one 0 false <| .one 1 false <| .one 2 false <| .one 3 false <| .one 4 false <| .one 5 false <| .one 6 false <| .one 7 false <| .one 8 false <| .one 9 false <| .one 10 false <| .one 11 false <| .one 12 false <| .one 13 false .done) (fun V => V.cell? ⟨w.heap.size, 2, none⟩ = some (.slice (some ad) m cl) ∧ (∀ j u, y.cells[j]? = some u → V.cell? ((oa.add (j2 * 32)).add j) = some u) ∧ (∀ j u, d.cells[j]? = some u → V.cell? ((ad.add (k * 32)).add j) = some u)) (by kernel_rfl) (by kernel_rfl) (by kernel_rfl) (by kernel_rfl) ?_
            have hS : wr.drew.cell? ⟨w.heap.size, 2, none⟩ = some (.slice (some ad) m cl) ∧ (∀ j u, y.cells[j]? = some u → wr.drew.cell? ((oa.add (j2 * 32)).add j) = some u) ∧ (∀ j u, d.cells[j]? = some u → wr.drew.cell? ((ad.add (k * 32)).add j) = some u) := ⟨c2, OC.out, DC.out⟩
            ((first | (refine TR.val2 (v := ?_) _ (by simp only [List.getElem?_toArray, List.getElem?_cons_zero]; rfl) ?_ ?_ ?_ ?_ ?_; rotate_left; (focus rfl); (focus (intro W hSW; (try dsimp only at hSW); (try (obtain ⟨hS1, hSW⟩ := hSW)); (try (obtain ⟨hS2, hSW⟩ := hSW)); (try (obtain ⟨hS3, hSW⟩ := hSW)); (try (obtain ⟨hS4, hSW⟩ := hSW)); (try (obtain ⟨hS5, hSW⟩ := hSW)); go_simp; (try with_reducible rfl); done)); (focus exact fun _ _ _ h => h); (focus assumption)) | (refine TR.skip _ (by simp only [List.getElem?_toArray, List.getElem?_cons_zero]; rfl) ?_ ?_ ?_ ?_; (focus rfl); (focus exact fun _ _ _ h => h); (focus assumption))); simp only [Act.put, List.setIfInBounds_toArray, List.set_cons_zero, List.set_cons_succ])
            iterate 4 ((first | (refine TR.val2 (v := ?_) _ (by simp only [List.getElem?_toArray, List.getElem?_cons_succ, List.getElem?_cons_zero]; rfl) ?_ ?_ ?_ ?_ ?_; rotate_left; (focus rfl); (focus (intro W hSW; (try dsimp only at hSW); (try (obtain ⟨hS1, hSW⟩ := hSW)); (try (obtain ⟨hS2, hSW⟩ := hSW)); (try (obtain ⟨hS3, hSW⟩ := hSW)); (try (obtain ⟨hS4, hSW⟩ := hSW)); (try (obtain ⟨hS5, hSW⟩ := hSW)); go_simp; (try with_reducible rfl); done)); (focus exact fun _ _ _ h => h); (focus assumption)) | (refine TR.skip _ (by simp only [List.getElem?_toArray, List.getElem?_cons_succ, List.getElem?_cons_zero]; rfl) ?_ ?_ ?_ ?_; (focus rfl); (focus exact fun _ _ _ h => h); (focus assumption))); simp only [Act.put, List.setIfInBounds_toArray, List.set_cons_zero, List.set_cons_succ])
            refine TR.val2 (v := .agg y.cells.toArray) _ (by simp only [List.getElem?_toArray, List.getElem?_cons_succ, List.getElem?_cons_zero]; rfl) ?_ ?_ ?_ ?_ ?_
            (focus rfl)
            (focus exact fun V hV => exec_load_slot 59 (.tmp 37) rfl (oa.add (j2 * 32)) rfl y.cells _ (hV.2.1) Try.underlying59 rfl (HID.out.trans (by rw [Dg.cells_len])))
            (focus exact fun _ _ _ h => h)
            (focus exact hS)
            simp only [Act.put, List.setIfInBounds_toArray, List.set_cons_zero, List.set_cons_succ]
            iterate 4 ((first | (refine TR.val2 (v := ?_) _ (by simp only [List.getElem?_toArray, List.getElem?_cons_succ, List.getElem?_cons_zero]; rfl) ?_ ?_ ?_ ?_ ?_; rotate_left; (focus rfl); (focus (intro W hSW; (try dsimp only at hSW); (try (obtain ⟨hS1, hSW⟩ := hSW)); (try (obtain ⟨hS2, hSW⟩ := hSW)); (try (obtain ⟨hS3, hSW⟩ := hSW)); (try (obtain ⟨hS4, hSW⟩ := hSW)); (try (obtain ⟨hS5, hSW⟩ := hSW)); go_simp; (try with_reducible rfl); done)); (focus exact fun _ _ _ h => h); (focus assumption)) | (refine TR.skip _ (by simp only [List.getElem?_toArray, List.getElem?_cons_succ, List.getElem?_cons_zero]; rfl) ?_ ?_ ?_ ?_; (focus rfl); (focus exact fun _ _ _ h => h); (focus assumption))); simp only [Act.put, List.setIfInBounds_toArray, List.set_cons_zero, List.set_cons_succ])
            refine TR.val2 (v := .agg d.cells.toArray) _ (by simp only [List.getElem?_toArray, List.getElem?_cons_succ, List.getElem?_cons_zero]; rfl) ?_ ?_ ?_ ?_ ?_
            (focus rfl)
            (focus exact fun V hV => exec_load_slot 59 (.tmp 42) rfl (ad.add (k * 32)) rfl d.cells _ (hV.2.2) Try.underlying59 rfl (HID.out.trans (by rw [Dg.cells_len])))
            (focus exact fun _ _ _ h => h)
            (focus exact hS)
            simp only [Act.put, List.setIfInBounds_toArray, List.set_cons_zero, List.set_cons_succ]
            iterate 3 ((first | (refine TR.val2 (v := ?_) _ (by simp only [List.getElem?_toArray, List.getElem?_cons_succ, List.getElem?_cons_zero]; rfl) ?_ ?_ ?_ ?_ ?_; rotate_left; (focus rfl); (focus (intro W hSW; (try dsimp only at hSW); (try (obtain ⟨hS1, hSW⟩ := hSW)); (try (obtain ⟨hS2, hSW⟩ := hSW)); (try (obtain ⟨hS3, hSW⟩ := hSW)); (try (obtain ⟨hS4, hSW⟩ := hSW)); (try (obtain ⟨hS5, hSW⟩ := hSW)); go_simp; (try with_reducible rfl); done)); (focus exact fun _ _ _ h => h); (focus assumption)) | (refine TR.skip _ (by simp only [List.getElem?_toArray, List.getElem?_cons_succ, List.getElem?_cons_zero]; rfl) ?_ ?_ ?_ ?_; (focus rfl); (focus exact fun _ _ _ h => h); (focus assumption))); simp only [Act.put, List.setIfInBounds_toArray, List.set_cons_zero, List.set_cons_succ])
            refine TR.done ?_
            clear hS
            go_wp2_with fail
            go_roundw
            case rel => exact ⟨j2 + 1, b2, hlt2, by go_num, rfl, HN.out, HB2.out.drew⟩
            case measure => simp [intOf]; omega
        · obtain rfl : j2 = r := by omega
          have HO2 := Lib.hid (own_keep' HO.out (fun j hj => HB2.out.block j (HO.out.lt j hj).2))
          have HB3 := Lib.hid (HB.out.trans (HB2.out.mono hzb))
          have HBE := Lib.hid (show (b = true ↔ (p.1 ≠ -1 ∨ d ∈ out)) by have h := HBB.out; rwa [List.take_of_length_le (by rw [HRL.out]; exact Nat.le_refl _)] at h)
          cases b with
          | true =>
            have HN := Lib.hid (show wantF ((ps.zip dl).take (k + 1)) = out by
              rw [HST.out, wantF_snoc, HOUT.out]
              refine if_neg (fun h => ?_)
              rcases HBE.out.1 rfl with h2 | h2
              · exact h2 h.1
              · exact h.2 h2)
            go_wp2_with fail
            go_roundw
            case rel => exact ⟨k + 1, j2, A', c', hlt, by go_num, by rw [HN.out]; exact HRL.out, rfl, by rw [HN.out]; exact HO2.out, HB3.out⟩
            case measure => simp [intOf]; omega
          | false =>
            have HN := Lib.hid (show wantF ((ps.zip dl).take (k + 1)) = out ++ [d] by
              rw [HST.out, wantF_snoc, HOUT.out]
              have h0 : ¬ (p.1 ≠ -1 ∨ d ∈ out) := fun h => by have := HBE.out.2 h; cases this
              exact if_pos ⟨Decidable.byContradiction fun h => h0 (.inl h), fun h => h0 (.inr h)⟩)
            have DR := Lib.hid (show DReads (wr.alloc (.cells d.cells.toArray 59)) (wr.heap.size + 1) (some ⟨wr.heap.size, 0, none⟩) 1 [d] from
              ⟨by simp [Dg.cells_len], fun _ => ⟨_, rfl, Nat.lt_succ_self _, fun j u hu => by rw [add_head, cell_new]; simpa using hu⟩⟩)
            have HOX := Lib.hid (show DOwn (wr.alloc (.cells d.cells.toArray 59)) w0.heap.size A' j2 c' out from HO2.out.alloc _)
            have HBX := Lib.hid (HB3.out.alloc HB3.out.size (.cells d.cells.toArray 59))
            go_wp2_with (first
              | (refine wpList_load_slot rfl 59 (.tmp 52) rfl (ad.add (k * 32)) rfl d.cells _ DC.out Try.underlying59 rfl (HID.out.trans (by rw [Dg.cells_len])) ?_)
              | (refine wpList_plain rfl fun K hK => wp_build_dg (.tmp 53) rfl d rfl (hK _ _ ?_))
              | (refine wpList_plain rfl fun K hK => wp_dapp (.tmp 48) (.tmp 54) rfl w0.heap.size A' j2 c' out rfl HOX.out (wr.heap.size + 1) (some ⟨wr.heap.size, 0, none⟩) 1 1 [d] rfl DR.out (by omega) (by simp; omega) (fun A5 c5 w5 ho5 hg5 => hK _ _ ?_))
              | fail)
            have HB5 := Lib.hid (below_dapp HBX.out hg5 HOX.out (Nat.le_refl _) (by simp; omega))
            have HO5 := Lib.hid ho5
            clear ho5 hg5
            go_roundw
            case rel => exact ⟨k + 1, j2 + 1, A5, c5, hlt, by go_num, by rw [HN.out, List.length_append, HRL.out]; rfl, rfl, by rw [HN.out]; exact HO5.out, HB5.out⟩
            case measure => simp [intOf]; omega
    · obtain rfl : k = m := by omega
      have HOE := Lib.hid (own_down' HO.out (show w.heap.size ≤ w0.heap.size by omega))
      rw [← HRL.out] at HOE
      go_wp2_with fail
      go_ret
      exact ⟨A', c', by rw [HRL.out]; rfl, HOE.out, B1.out⟩
end Go.Proofs.Ytmaehbebpldpcaa
