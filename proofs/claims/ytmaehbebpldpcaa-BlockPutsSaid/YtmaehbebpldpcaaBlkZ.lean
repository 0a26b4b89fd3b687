/-
  Blocks: BlockPlans, walked.
-/
import Derived.Test.YtmaehbebpldpcaaBlkU
import Derived.Test.YtmaehbebpldpcaaBlkV
import Derived.Test.YtmaehbebpldpcaaBlkW
import Derived.Test.YtmaehbebpldpcaaBlkX
import Derived.Test.YtmaehbebpldpcaaBlkY
import Derived.Deep.Cut
import Derived.Deep.CutBlock
namespace Go.Proofs.Ytmaehbebpldpcaa
open Go.RowKit Go.Shelf
/-- A row of the call's own of slices of bytes of the call's own. -/
structure OwnRows (V : World) (base : Nat) (A : Option Addr) (n c : Nat) (rs : List BRow) : Prop where
  row : V.ownsRow base 25 1 (.slice A n c) n (rs.map fun r : BRow => Value.slice r.1 r.2.1 r.2.2.1)
  rows : ∀ r ∈ rs, BOwn V base r.1 r.2.1 r.2.2.1 r.2.2.2
theorem BOwn.cm {V : World} {base n c : Nat} {A : Option Addr} {l : List UInt8} (h : BOwn V base A n c l) : c ≤ maxLen := by
  rcases h.1.2 with ⟨hn, _⟩ | ⟨g, cap, cur, ev, hg, hh, h1, h2, rest⟩
  · simp only [Value.slice.injEq] at hn
    omega
  · simp only [Value.slice.injEq] at ev
    obtain ⟨_, _, rfl⟩ := ev
    exact h2
theorem bytes_at {rs rs' : List BRow} (h : rs'.map (fun r : BRow => r.2.2.2) = rs.map (fun r : BRow => r.2.2.2)) {k : Nat} (hk : k < rs.length) : (gD rs' k).2.2.2 = (gD rs k).2.2.2 := by
  have hl : rs'.length = rs.length := by have := congrArg List.length h; simpa using this
  have h1 := congrArg (fun l => l[k]?) h
  simp only [List.getElem?_map] at h1
  rw [gD_some (ls := rs') (by omega), gD_some (ls := rs) hk] at h1
  simpa using h1
theorem putP_congr {sl ll : Int} {dl : List Dg} {rs rs' : List BRow} (h : rs'.map (fun r : BRow => r.2.2.2) = rs.map (fun r : BRow => r.2.2.2)) : putP sl ll dl rs' = putP sl ll dl rs := by
  have hl : rs'.length = rs.length := by have := congrArg List.length h; simpa using this
  have hf : fitsL sl ll dl rs' = fitsL sl ll dl rs := by
    unfold fitsL
    rw [hl]
    refine List.map_congr_left fun k hk => ?_
    rw [bytes_at h (List.mem_range.1 hk)]
  have hc : catB rs' rs'.length = catB rs rs.length := by
    unfold catB
    rw [List.take_of_length_le (Nat.le_refl _), List.take_of_length_le (Nat.le_refl _), List.flatMap_def, List.flatMap_def, h]
  unfold putP
  rw [hf, hc, hl]
theorem info_sl : (Try.prog.info? 25).map (fun i => (i.zero, i.size, i.bytes)) = some (some (.slice none 0 0), 1, 24) := by kernel_rfl
set_option maxRecDepth 100000 in
set_option maxHeartbeats 16000000 in
theorem plans_v (sl ll : Int) (al : Option Addr) (nl cl : Nat) (dl : List Dg) (hv : List LX) (A : Option Addr) (m c : Nat) (ps : List (Int × Int)) (P : Option Addr) (mp cp : Nat) (rs : List BRow) (R : Option Addr) (mr cr : Nat) (w : World)
    (hl : DReads w w.heap.size al nl dl) (hlw : ∀ d ∈ dl, DgW d) (hnl : nl ≤ 9223372036854775807) (hh : Reads w w.heap.size 3 A m (hv.flatMap LX.cells)) (hhi : ∀ x ∈ hv, LInW w w.heap.size x) (hm : m ≤ 9223372036854775807) (hmc : m ≤ c)
    (hp : Reads w w.heap.size 2 P mp (ps.flatMap srcC)) (hmp : mp ≤ 9223372036854775807) (hr : RowsIn w w.heap.size R mr rs) (hmr : mr ≤ 9223372036854775807) :
    Calls Try.prog 6 #[.agg #[.int .i64 sl, .int .i64 ll, .slice al nl cl], .slice A m c, .slice P mp cp, .slice R mr cr] w fun e w' => e = .returned (.bool true) ∧ Below w.heap.size w w' := by
  have HI := Lib.hid (show (Try.prog.info? 24).map (·.size) = some 3 by kernel_rfl)
  have HL := Lib.hid hl
  have HLW := Lib.hid hlw
  have HH := Lib.hid hh
  have HHI := Lib.hid hhi
  have HP := Lib.hid hp
  have HR := Lib.hid hr
  have HLN := Lib.hid (show hv.length = m by have h1 := hh.1; rw [flat_len LX.cells_len] at h1; omega)
  have HXM := Lib.hid (show ∀ x ∈ hv, x.v.n ≤ 9223372036854775807 from fun x hx => Nat.le_trans (hhi x hx).i.lc (by have := (hhi x hx).i.cm; simp only [maxLen] at this; omega))
  have B0 := Lib.hid ((Below.refl w.heap.size w).alloc (Nat.le_refl _) (.cells #[.int .i64 sl, .int .i64 ll, .slice al nl cl] 24))
  have X0 := Lib.hid (heap_alloc_new w (.cells #[.int .i64 sl, .int .i64 ll, .slice al nl cl] 24))
  have hz0 : (w.alloc (.cells #[.int .i64 sl, .int .i64 ll, .slice al nl cl] 24)).heap.size = w.heap.size + 1 := by simp
  clear hl hlw hh hhi hp hr
  go_enter Try.func6, Try.ntmps6
  go_wp2_with fail
  generalize w.alloc (.cells #[.int .i64 sl, .int .i64 ll, .slice al nl cl] 24) = w0 at *
  have hzg := B0.out.size
  generalize hg : w.heap.size = g at *
  refine (lives_v w0).mono ?_
  rintro e w1 ⟨rfl, b1⟩
  have B1 := Lib.hid (B0.out.trans (b1.mono hzg))
  have X1 := Lib.hid ((b1.block g (by omega)).trans X0.out)
  have hz1 : g + 1 ≤ w1.heap.size := by have := b1.size; omega
  clear b1 X0 B0 hzg
  go_upto_block 0 with fail
  go_cut [9] from 21 (fun n wx => ∃ a : Nat, n = .int .i64 (a : Int) ∧ (a ≤ 2000 → mr ≤ 2000 → ∀ r ∈ rs, r.2.1 ≤ 2000) ∧ a ≤ 4001 ∧ w1 = wx)
  case first =>
    go_wp2_with fail
    go_loopw [9, 10] (fun n i wr => ∃ (k a : Nat), k ≤ mr ∧ a ≤ 4001 ∧ n = .int .i64 (a : Int) ∧ i = .int .i64 (k : Int) ∧ (∀ r ∈ rs.take k, min r.2.1 2001 ≤ a) ∧ w1 = wr) (fun _ i _ => mr - (intOf i).toNat)
    case atStart => exact ⟨0, 0, Nat.zero_le _, Nat.zero_le _, rfl, rfl, by simp, rfl⟩
    case round =>
      obtain ⟨k, a, hk, ha, rfl, rfl, hmin, rfl⟩ := hrel
      have HM := Lib.hid hmin
      clear hmin
      by_cases c1 : k < mr
      · have d1 : decide (k < mr) = true := by simpa using c1
        by_cases c2 : k ≤ 2000
        · have d2 : decide (k ≤ 2000) = true := by simpa using c2
          by_cases c3 : a ≤ 2000
          · have d3 : decide (a ≤ 2000) = true := by simpa using c3
            obtain ⟨ad, r, rfl, hx, hc, hbr, h1, h2⟩ := (HR.out.below B1.out).at_ c1
            have k0 : (0 : Int) ≤ (k : Int) := by omega
            obtain ⟨q, hq⟩ : ∃ q, min r.2.1 2001 = q := ⟨_, rfl⟩
            have hq1 : q ≤ 2001 := by omega
            have HN := Lib.hid (show ∀ y ∈ rs.take (k + 1), min y.2.1 2001 ≤ a + q by
              intro y hy
              rw [List.take_add_one, hx] at hy
              rcases List.mem_append.1 hy with hy | hy
              · have := HM.out y hy; omega
              · obtain rfl : y = r := by simpa using hy
                omega)
            obtain ⟨rl, hrl⟩ : ∃ rl, r.2.1 = rl := ⟨_, rfl⟩
            rw [hrl] at hq hc h1
            have e1 : min (rl : Int) 2001 = (q : Int) := by omega
            have e2 : min 2001 (rl : Int) = (q : Int) := by omega
            have e3 : (if (2001 : Int) < (rl : Int) then (2001 : Int) else (rl : Int)) = (q : Int) := by split <;> omega
            have HE3 := Lib.hid e3
            clear hx hbr h2 hrl hq e3
            go_wp2_with fail
            go_roundw
            case rel => exact ⟨k + 1, a + q, c1, by omega, by rw [HE3.out]; go_num, by go_num, HN.out, by trivial⟩
            case measure => simp [intOf]; omega
          · have d3 : decide (a ≤ 2000) = false := by simpa using c3
            go_wp2_with fail
            go_meet
            exact ⟨a, rfl, fun h => absurd h c3, ha, rfl⟩
        · have d2 : decide (k ≤ 2000) = false := by simpa using c2
          go_wp2_with fail
          go_meet
          exact ⟨a, rfl, fun _ h => absurd h (by omega), ha, rfl⟩
      · have d1 : decide (k < mr) = false := by simpa using c1
        have HA := Lib.hid (show a ≤ 2000 → mr ≤ 2000 → ∀ r ∈ rs, r.2.1 ≤ 2000 by
          intro h1 _ r hx
          have h2 := HM.out r (by rw [List.take_of_length_le (by rw [HR.out.len]; omega)]; exact hx)
          omega)
        go_wp2_with fail
        go_meet
        exact ⟨a, rfl, HA.out, ha, rfl⟩
  obtain ⟨a, rfl, hfa, ha, rfl⟩ := hcut
  have HFA := Lib.hid hfa
  clear hfa
  go_upto_region 8 with fail
  go_cut [67] from 21 (fun v wx => ∃ bo : Bool, v = .bool bo ∧ (bo = false → nl ≤ 1100 ∧ (∀ x ∈ hv, x.v.n ≤ 1100) ∧ m ≤ 20 ∧ mp ≤ 2000 ∧ a ≤ 2000 ∧ mr ≤ 2000) ∧ Below g w wx ∧ g + 1 ≤ wx.heap.size ∧ wx.heap[g]? = some (.cells #[.int .i64 sl, .int .i64 ll, .slice al nl cl] 24 (0, 0)))
  case first =>
    have BRW := (Below.refl w1.heap.size w1).alloc (Nat.le_refl _) (.cells #[.int .i64 sl, .int .i64 ll, .slice al nl cl] 24)
    have B2 := Lib.hid (B1.out.trans (BRW.mono (by omega)))
    have X2 := Lib.hid ((BRW.block g (by omega)).trans X1.out)
    have hz2 : g + 1 ≤ (w1.alloc (.cells #[.int .i64 sl, .int .i64 ll, .slice al nl cl] 24)).heap.size := by simp; omega
    have RL := Lib.hid (show Reads (w1.alloc (.cells #[.int .i64 sl, .int .i64 ll, .slice al nl cl] 24)) (w1.heap.size + 1) 3 (some ⟨w1.heap.size, 0, none⟩) 1 ([⟨sl, ll, al, nl, cl⟩].flatMap LV.cells) from
      ⟨rfl, fun _ => ⟨_, rfl, Nat.lt_succ_self _, fun j u hu => by rw [add_head, cell_new]; simpa [LV.cells] using hu⟩⟩)
    have HVR := Lib.hid (show Reads (w1.alloc (.cells #[.int .i64 sl, .int .i64 ll, .slice al nl cl] 24)) g 3 A m ((hv.map (·.v)).flatMap LV.cells) by
      have h := Reads.below HH.out B2.out
      rwa [show (hv.map (·.v)).flatMap LV.cells = hv.flatMap LX.cells by rw [List.flatMap_map]; rfl])
    clear BRW
    go_wp2_with (first
      | (refine wpList_load_row rfl 24 (.tmp 4) rfl g rfl 24 _ (0, 0) _ X1.out Try.underlying24 rfl HI.out ?_)
      | fail)
    have e1 : lightP [⟨sl, ll, al, nl, cl⟩] = decide (nl ≤ 1100) := by simp [lightP]
    refine (light_v (some ⟨w1.heap.size, 0, none⟩) 1 1 (w1.heap.size + 1) [⟨sl, ll, al, nl, cl⟩] _ RL.out (by decide) (by intro y hy; obtain rfl := List.mem_singleton.1 hy; exact hnl)).mono ?_
    rw [e1]
    rintro e _ ⟨rfl, rfl⟩
    generalize w1.alloc (.cells #[.int .i64 sl, .int .i64 ll, .slice al nl cl] 24) = w2 at *
    clear e1
    by_cases k1 : nl ≤ 1100
    case neg =>
      rw [decide_eq_false k1]
      go_wp2_with fail
      go_meet
      exact ⟨true, rfl, by simp, B2.out, hz2, X2.out⟩
    rw [decide_eq_true k1]
    go_wp2_with fail
    refine (light_v A m c g (hv.map (·.v)) w2 HVR.out hm (by intro y hy; obtain ⟨x, hx, rfl⟩ := List.mem_map.1 hy; exact HXM.out x hx)).mono ?_
    rintro e _ ⟨rfl, rfl⟩
    cases hlp : lightP (hv.map (·.v)) with
    | false =>
      go_wp2_with fail
      go_meet
      exact ⟨true, rfl, by simp, B2.out, hz2, X2.out⟩
    | true =>
      have HLP := Lib.hid (show (∀ x ∈ hv, x.v.n ≤ 1100) ∧ m ≤ 20 by
        unfold lightP at hlp
        simp only [Bool.and_eq_true, decide_eq_true_eq, List.length_map] at hlp
        exact ⟨fun x hx => hlp.1 x.v (List.mem_map_of_mem hx), by rw [← HLN.out]; exact hlp.2⟩)
      clear hlp
      go_wp2_with fail
      all_goals (go_meet; refine ⟨_, rfl, fun hb => ?_, B2.out, hz2, X2.out⟩; first | (exact Bool.noConfusion hb) | (simp only [Bool.or_eq_false_iff, decide_eq_false_iff_not] at hb; exact ⟨k1, HLP.out.1, HLP.out.2, by omega, by omega, by omega⟩) | (have h3 := of_decide_eq_false hb; exact ⟨k1, HLP.out.1, HLP.out.2, by omega, by omega, by omega⟩))
  obtain ⟨bo, rfl, hbo, b2, hz2, x2⟩ := hcut
  have B2 := Lib.hid b2
  have X2 := Lib.hid x2
  clear b2 x2 B1 X1
  cases bo with
  | true =>
    go_wp2_with fail
    go_ret
    exact ⟨rfl, hg ▸ B2.out⟩
  | false =>
  obtain ⟨hnl2, hxn, hm2, hmp2, ha2, hmr2⟩ := hbo rfl
  have HRL := Lib.hid (HFA.out ha2 hmr2)
  have HXN := Lib.hid hxn
  clear hbo HXM hxn HFA ha hnl
  go_upto_region 10 with fail
  refine wp_region_tree (SK.one 0 false <| .one 2 false <| .one 1 true <| .one 3 true <| .one 4 true <| .one 5 false <| .one 6 false <| .one 7 false <| .one 8 false <| .one 9 false .done) (fun V => V.heap[g]? = some (.cells #[.int .i64 sl, .int .i64 ll, .slice al nl cl] 24 (0, 0))) (by kernel_rfl) (by kernel_rfl) (by kernel_rfl) (by kernel_rfl) ?_
  have hS : wc.drew.heap[g]? = some (.cells #[.int .i64 sl, .int .i64 ll, .slice al nl cl] 24 (0, 0)) := X2.out
  have B3 := Lib.hid (show Below g w wc.drew from B2.out.drew)
  have hz3 : wc.heap.size ≤ wc.drew.heap.size := Nat.le_refl _
  generalize wc.drew = w3 at *
  refine TR.val2 (v := .agg #[.int .i64 sl, .int .i64 ll, .slice al nl cl]) _ (by simp only [List.getElem?_toArray, List.getElem?_cons_zero]; rfl) ?_ ?_ ?_ ?_ ?_
  (focus rfl)
  (focus exact fun V hV => exec_load_slot 24 (.tmp 4) rfl ⟨g, 0, none⟩ rfl [.int .i64 sl, .int .i64 ll, .slice al nl cl] _ (row_cells hV) Try.underlying24 rfl HI.out)
  (focus exact fun _ _ _ h => h)
  (focus exact hS)
  simp only [Act.put, List.setIfInBounds_toArray, List.set_cons_zero, List.set_cons_succ]
  iterate 1 ((first | (refine TR.val2 (v := ?_) _ (by simp only [List.getElem?_toArray, List.getElem?_cons_succ, List.getElem?_cons_zero]; rfl) ?_ ?_ ?_ ?_ ?_; rotate_left; (focus rfl); (focus (intro W hSW; (try dsimp only at hSW); (try (obtain ⟨hS1, hSW⟩ := hSW)); (try (obtain ⟨hS2, hSW⟩ := hSW)); (try (obtain ⟨hS3, hSW⟩ := hSW)); (try (obtain ⟨hS4, hSW⟩ := hSW)); (try (obtain ⟨hS5, hSW⟩ := hSW)); go_simp; (try with_reducible rfl); done)); (focus exact fun _ _ _ h => h); (focus assumption)) | (refine TR.skip _ (by simp only [List.getElem?_toArray, List.getElem?_cons_succ, List.getElem?_cons_zero]; rfl) ?_ ?_ ?_ ?_; (focus rfl); (focus exact fun _ _ _ h => h); (focus assumption))); simp only [Act.put, List.setIfInBounds_toArray, List.set_cons_zero, List.set_cons_succ])
  refine TR.eff _ (by simp only [List.getElem?_toArray, List.getElem?_cons_succ, List.getElem?_cons_zero]; rfl) (by rfl) (fun K hK => ?_); go_simp
  have B4 := Lib.hid (B3.out.alloc (by omega) (.cells #[] 24))
  have hS2 : (w3.alloc (.cells #[] 24)).heap[g]? = some (.cells #[.int .i64 sl, .int .i64 ll, .slice al nl cl] 24 (0, 0)) := (Below.heap_alloc w3 _ g (by omega)).trans hS
  refine hK.out _ _ hS2 ?_
  clear hK hS B3
  have hS := hS2
  clear hS2
  (try simp only [Act.put, List.setIfInBounds_toArray, List.set_cons_zero, List.set_cons_succ])
  have OE := Lib.hid (show (w3.alloc (.cells #[] 24)).ownsRow w3.heap.size 24 3 (.slice (some ⟨w3.heap.size, 0, none⟩) 0 0) 0 [] from
    ⟨by simp, .inr ⟨w3.heap.size, 0, #[], rfl, Nat.le_refl _, heap_alloc_new w3 _, Nat.le_refl _, by decide, rfl, rfl⟩⟩)
  have hz4 : (w3.alloc (.cells #[] 24)).heap.size = w3.heap.size + 1 := by simp
  generalize w3.alloc (.cells #[] 24) = w4 at *
  obtain ⟨i0, hi, hy0, hy1, hy2⟩ := info_parts info_lst
  refine TR.eff _ (by simp only [List.getElem?_toArray, List.getElem?_cons_succ, List.getElem?_cons_zero]; rfl) (by rfl) (fun K hK => ?_)
  refine wp_append_any w4 (.tmp 70) (.tmp 71) 45 rfl w3.heap.size 24 i0 _ 3 40 Try.underlying45 hi hy0 hy1 hy2 rfl (by decide) (.slice (some ⟨w3.heap.size, 0, none⟩) 0 0) 0 [] rfl OE.out g A m c (hv.flatMap LX.cells) rfl (Reads.below HH.out B4.out) (LX.one hv) (by simp only [maxLen]; omega) (by omega) (by omega) ?_
  intro v' w5 ho5 hg5 _
  rw [Nat.zero_add] at ho5
  obtain ⟨A5, c5, rfl, hc5⟩ := own_shape ho5
  have hbk : ∀ j, (Value.slice (some ⟨w3.heap.size, 0, none⟩) 0 0).ownBlock = some j → w3.heap.size ≤ j := fun j hj => (OE.out.lt j hj).1
  have B5 := Lib.hid (B4.out.grown hg5 (by have := B4.out.size; omega) (fun j hj => by have := hbk j hj; omega))
  have hS2 : w5.heap[g]? = some (.cells #[.int .i64 sl, .int .i64 ll, .slice al nl cl] 24 (0, 0)) := (hg5.block g (by omega) (fun e => by have := hbk g e.symm; omega)).trans hS
  have O5 := Lib.hid (show Reads w5 w5.heap.size 3 A5 m (hv.flatMap LX.cells) from Reads.of_own ho5)
  have hz5 : g ≤ w5.heap.size := by have := B5.out.size; omega
  refine hK.out _ _ hS2 ?_
  clear hK hS ho5 hg5 OE B4 hbk
  have hS := hS2
  clear hS2
  (try simp only [Act.put, List.setIfInBounds_toArray, List.set_cons_zero, List.set_cons_succ])
  have PV := plan_v sl ll al nl cl dl hv A5 m c5 w5 (Reads.more (HL.out.below B5.out) hz5) HLW.out hnl2 O5.out (by omega) hc5 (fun x hx => ⟨Reads.more ((HHI.out x hx).i.r.below B5.out) hz5, HXN.out x hx, (HHI.out x hx).w8⟩)
  obtain ⟨er, her⟩ : ∃ er, errP (⟨⟨sl, ll, al, nl, cl⟩, dl⟩ :: hv) = er := ⟨_, rfl⟩
  obtain ⟨pl, hpl⟩ : ∃ pl, planP ⟨⟨sl, ll, al, nl, cl⟩, dl⟩ hv = pl := ⟨_, rfl⟩
  have HER := Lib.hid her
  have HPL := Lib.hid hpl
  rw [her, hpl] at PV
  clear her hpl
  refine TR.eff _ (by simp only [List.getElem?_toArray, List.getElem?_cons_succ, List.getElem?_cons_zero]; rfl) (by rfl) (fun K hK => ?_); go_simp
  refine PV.mono ?_
  rintro e w6 ⟨A6, n6, c6, rfl, o6, b6⟩
  have B6 := Lib.hid (B5.out.trans (b6.mono hz5))
  have hS2 : w6.heap[g]? = some (.cells #[.int .i64 sl, .int .i64 ll, .slice al nl cl] 24 (0, 0)) := (b6.block g (Array.getElem?_eq_some_iff.1 hS).1).trans hS
  have S6 := Lib.hid (show SReads w6 w6.heap.size A6 n6 pl from Reads.of_own o6)
  have hz6 : g ≤ w6.heap.size := by have := B6.out.size; omega
  refine hK.out _ _ hS2 ?_
  have X6 := Lib.hid hS2
  clear hK hS b6 o6 PV O5 B5
  have hS := hS2
  clear hS2
  (try simp only [Act.put, List.setIfInBounds_toArray, List.set_cons_zero, List.set_cons_succ])
  iterate 5 ((first | (refine TR.val2 (v := ?_) _ (by simp only [List.getElem?_toArray, List.getElem?_cons_succ, List.getElem?_cons_zero]; rfl) ?_ ?_ ?_ ?_ ?_; rotate_left; (focus rfl); (focus (intro W hSW; (try dsimp only at hSW); (try (obtain ⟨hS1, hSW⟩ := hSW)); (try (obtain ⟨hS2, hSW⟩ := hSW)); (try (obtain ⟨hS3, hSW⟩ := hSW)); (try (obtain ⟨hS4, hSW⟩ := hSW)); (try (obtain ⟨hS5, hSW⟩ := hSW)); go_simp; (try with_reducible rfl); done)); (focus exact fun _ _ _ h => h); (focus assumption)) | (refine TR.skip _ (by simp only [List.getElem?_toArray, List.getElem?_cons_succ, List.getElem?_cons_zero]; rfl) ?_ ?_ ?_ ?_; (focus rfl); (focus exact fun _ _ _ h => h); (focus assumption))); simp only [Act.put, List.setIfInBounds_toArray, List.set_cons_zero, List.set_cons_succ])
  refine TR.done ?_
  clear hS
  have hz6b : g + 1 ≤ w6.heap.size := (Array.getElem?_eq_some_iff.1 X6.out).1
  go_wp2_with (first
    | (refine wpList_load_row rfl 24 (.tmp 4) rfl g rfl 24 _ (0, 0) _ X6.out Try.underlying24 rfl HI.out ?_)
    | fail)
  have RV := rplan_v sl ll al nl cl dl hv A m c g w6 (HL.out.below B6.out) (by omega) hnl2 (Reads.below HH.out B6.out) (by omega) (fun x hx => ⟨(HHI.out x hx).i.r.below B6.out, HXN.out x hx⟩)
  rw [HER.out, HPL.out] at RV
  refine RV.mono ?_
  rintro e w7 ⟨A7, n7, c7, rfl, o7, b7⟩
  have B7 := Lib.hid (B6.out.trans (b7.mono hz6))
  have X7 := Lib.hid ((b7.block g (by omega)).trans X6.out)
  have S7 := Lib.hid (show SReads w7 w7.heap.size A7 n7 pl from Reads.of_own o7)
  have S6b := Lib.hid (show SReads w7 w6.heap.size A6 n6 pl from S6.out.below b7)
  have hz7 : w6.heap.size ≤ w7.heap.size := b7.size
  clear b7 o7 RV X6 S6
  have hcm : ∀ r ∈ rs, r.2.1 ≤ 2000 := HRL.out
  go_wp2_with fail
  go_loopw [15, 16] (fun o i wr => ∃ (k : Nat) (A' : Option Addr) (c' : Nat) (rs' : List BRow), k ≤ mr ∧ i = .int .i64 (k : Int) ∧ o = .slice A' k c' ∧ OwnRows wr w7.heap.size A' k c' rs' ∧ rs'.map (fun r : BRow => r.2.2.2) = (rs.take k).map (fun r : BRow => r.2.2.2) ∧ Below w7.heap.size w7 wr) (fun _ i _ => mr - (intOf i).toNat)
  case atStart => exact ⟨0, none, 0, [], Nat.zero_le _, rfl, rfl, ⟨World.ownsRow_nil _ _ _ 1, by simp⟩, by simp, Below.refl _ _⟩
  case round =>
    obtain ⟨k, A', c', rs', hk, rfl, rfl, ho, hbs, hb⟩ := hrel
    have HO := Lib.hid ho
    have HBS := Lib.hid hbs
    have HB := Lib.hid hb
    have hzb := hb.size
    clear ho hbs hb
    by_cases hlt : k < mr
    · have B8 := Lib.hid (B7.out.trans (HB.out.mono (by have := B7.out.size; omega)))
      obtain ⟨ad, r, rfl, hx, hc, hbr, h1, h2⟩ := (HR.out.below B8.out).at_ hlt
      have HX := Lib.hid hx
      have hrl := HRL.out r (List.mem_of_getElem? hx)
      have HBR := Lib.hid hbr
      have k0 : (0 : Int) ≤ (k : Int) := by omega
      clear hx hbr h1 h2
      go_wp2_with fail
      refine (own_any g r.1 r.2.1 r.2.2.1 r.2.2.2 wr HBR.out (by have := B8.out.size; omega) (by omega)).mono ?_
      rintro e w8 ⟨A8, c8, rfl, o8, b8⟩
      have HB8 := Lib.hid (HB.out.trans (b8.mono hzb))
      have O8 := Lib.hid (o8.down hzb)
      have hz8 := b8.size
      have OR8 := Lib.hid (show OwnRows w8 w7.heap.size A' k c' rs' from ⟨own_keep' HO.out.row (fun j hj => b8.block j (HO.out.row.lt j hj).2), fun r hr => (HO.out.rows r hr).below b8⟩)
      obtain ⟨i1, hi1, hx0, hx1, hx2⟩ := info_parts info_sl
      have OW := Lib.hid (show (w8.alloc (.cells #[.slice A8 r.2.1 c8] 25)).ownsRow w7.heap.size 25 1 (.slice A' k c') k (rs'.map fun r : BRow => Value.slice r.1 r.2.1 r.2.2.1) from OR8.out.row.alloc _)
      have RD := Lib.hid (show Reads (w8.alloc (.cells #[.slice A8 r.2.1 c8] 25)) (w8.heap.size + 1) 1 (some ⟨w8.heap.size, 0, none⟩) 1 [.slice A8 r.2.1 c8] from
        ⟨rfl, fun _ => ⟨_, rfl, Nat.lt_succ_self _, fun j u hu => by rw [add_head, cell_new]; simpa using hu⟩⟩)
      have HBW := Lib.hid (HB8.out.alloc HB8.out.size (.cells #[.slice A8 r.2.1 c8] 25))
      clear o8 b8 hc
      go_wp2_with (first
        | (refine wpList_append_any (w8.alloc (.cells #[.slice A8 r.2.1 c8] 25)) rfl (.tmp 88) (.tmp 94) 49 rfl w7.heap.size 25 i1 _ 1 24 Try.underlying49 hi1 hx0 hx1 hx2 rfl (by decide) (.slice A' k c') k (rs'.map fun r : BRow => Value.slice r.1 r.2.1 r.2.2.1) rfl OW.out (w8.heap.size + 1) (some ⟨w8.heap.size, 0, none⟩) 1 1 [.slice A8 r.2.1 c8] rfl RD.out (by intro u hu; obtain rfl := List.mem_singleton.1 hu; rfl) (by simp only [maxLen]; omega) (by omega) (by simp; omega) ?_
           intro v' w9 ho9 hg9 _
           obtain ⟨A9, c9, rfl, _⟩ := own_shape ho9)
        | fail)
      have HB9 := Lib.hid (HBW.out.grown hg9 (by simp; omega) (fun j hj => (OW.out.lt j hj).1))
      have OR9 := Lib.hid (show OwnRows w9 w7.heap.size A9 (k + 1) c9 (rs' ++ [(A8, r.2.1, c8, r.2.2.2)]) from ⟨by rw [List.map_append]; exact ho9, fun y hy => by
        have key : ∀ y : BRow, BOwn w8 w7.heap.size y.1 y.2.1 y.2.2.1 y.2.2.2 → BOwn w9 w7.heap.size y.1 y.2.1 y.2.2.1 y.2.2.2 := fun y h => by
          have h2 := h.alloc (.cells #[.slice A8 r.2.1 c8] 25)
          refine ⟨own_keep' h2.1 (fun j hj => hg9.block j (h2.1.lt j hj).2 (fun e => ?_)), h2.2⟩
          obtain ⟨c1, f1, e1⟩ := own_isCells h2.1 hj
          obtain ⟨c2, f2, e2⟩ := own_isCells OW.out e.symm
          have e3 := Option.some.inj (e1.symm.trans e2)
          injection e3 with _ e4 _
          exact absurd e4 (by decide)
        rcases List.mem_append.1 hy with hy | hy
        · exact key y (OR8.out.rows y hy)
        · obtain rfl := List.mem_singleton.1 hy
          exact key _ O8.out⟩)
      have HBS2 := Lib.hid (show (rs' ++ [(A8, r.2.1, c8, r.2.2.2)]).map (fun r : BRow => r.2.2.2) = (rs.take (k + 1)).map (fun r : BRow => r.2.2.2) by
        rw [List.map_append, HBS.out, List.take_add_one, HX.out, List.map_append]
        rfl)
      clear ho9 hg9
      go_roundw
      case rel => exact ⟨k + 1, A9, c9, _, hlt, by go_num, rfl, OR9.out, HBS2.out, HB9.out⟩
      case measure => simp [intOf]; omega
    · obtain rfl : k = mr := by omega
      have B8 := Lib.hid (B7.out.trans (HB.out.mono (by have := B7.out.size; omega)))
      have X8 := Lib.hid ((HB.out.block g (Array.getElem?_eq_some_iff.1 X7.out).1).trans X7.out)
      have HBA := Lib.hid (show rs'.map (fun r : BRow => r.2.2.2) = rs.map (fun r : BRow => r.2.2.2) by have h := HBS.out; rwa [List.take_of_length_le (by rw [HR.out.len]; exact Nat.le_refl _)] at h)
      have HPU := Lib.hid (show putP sl ll dl rs' = putP sl ll dl rs from putP_congr HBA.out)
      have RI := Lib.hid (show RowsIn wr wr.heap.size A' k rs' from ⟨Reads.of_own HO.out.row, fun r hr => ⟨(HO.out.rows r hr).reads, (HO.out.rows r hr).2, (HO.out.rows r hr).cm⟩⟩)
      have RLN := Lib.hid (show ∀ r ∈ rs', r.2.1 ≤ 1000000 from fun r hr => by
        have h1 : r.2.2.2 ∈ rs.map (fun r : BRow => r.2.2.2) := by rw [← HBA.out]; exact List.mem_map_of_mem hr
        obtain ⟨y, hy, hye⟩ := List.mem_map.1 h1
        have h2 := hcm y hy
        have h3 := ((HR.out.rows y hy).1).len
        have h4 := (HO.out.rows r hr).len
        rw [hye] at h3
        omega)
      have S6c := Lib.hid (show SReads wr w6.heap.size A6 n6 pl from S6b.out.below (HB.out.mono hz7))
      have S7c := Lib.hid (show SReads wr w7.heap.size A7 n7 pl from S7.out.below HB.out)
      have hz8 : g + 1 ≤ wr.heap.size := (Array.getElem?_eq_some_iff.1 X8.out).1
      have hnl3 : nl ≤ 9007199254740992 := by omega
      clear X7 B7 S7 S6b HBS
      go_wp2_with (first
        | (refine wpList_load_row rfl 24 (.tmp 4) rfl g rfl 24 _ (0, 0) _ X8.out Try.underlying24 rfl HI.out ?_)
        | fail)
      have PV := put_v sl ll al nl cl dl rs' A' k c' wr.heap.size wr (Reads.more (HL.out.below B8.out) (by omega)) RI.out (Nat.le_refl _) hnl3 (by omega) RLN.out
      rw [HPU.out] at PV
      obtain ⟨pr, hpr⟩ : ∃ pr, putP sl ll dl rs = pr := ⟨_, rfl⟩
      have HPR := Lib.hid hpr
      rw [hpr] at PV
      clear hpr
      obtain ⟨pe, pb⟩ := pr
      refine PV.mono ?_
      rintro e w8 ⟨A8, c8, rfl, o8, b8⟩
      have hzz := b8.size
      have X9 := Lib.hid ((b8.block g (by omega)).trans X8.out)
      have B9 := Lib.hid (B8.out.trans (b8.mono (by omega)))
      have S6d := Lib.hid (show SReads w8 w6.heap.size A6 n6 pl from S6c.out.below (b8.mono (by omega)))
      have S7d := Lib.hid (show SReads w8 w7.heap.size A7 n7 pl from S7c.out.below (b8.mono (by omega)))
      have R8 := Lib.hid o8.reads
      clear b8 o8 PV RI RLN HO HB B8 X8 S6c S7c HPU HBA
      go_wp2_with (first
        | (refine wpList_load_row rfl 24 (.tmp 4) rfl g rfl 24 _ (0, 0) _ X9.out Try.underlying24 rfl HI.out ?_)
        | fail)
      have RV := rput_v sl ll al nl cl dl rs R k cr g w8 (HL.out.below B9.out) (HR.out.below B9.out) (by omega) hnl3 (by omega) (fun r hr => Nat.le_trans (hcm r hr) (by decide))
      rw [HPR.out] at RV
      refine RV.mono ?_
      rintro e w9 ⟨A9, c9, rfl, o9, b9⟩
      have hzy := b9.size
      have X10 := Lib.hid ((b9.block g (by omega)).trans X9.out)
      have B10 := Lib.hid (B9.out.trans (b9.mono (by omega)))
      have S6e := Lib.hid (show SReads w9 w6.heap.size A6 n6 pl from S6d.out.below (b9.mono (by omega)))
      have S7e := Lib.hid (show SReads w9 w7.heap.size A7 n7 pl from S7d.out.below (b9.mono (by omega)))
      have R9 := Lib.hid (show BReads w9 w8.heap.size A8 pb.length pb from R8.out.below b9)
      have R9' := Lib.hid o9.reads
      clear b9 o9 RV R8 B9 X9 S6d S7d HPR
      go_upto_region 19 with fail
      have hgl := Lib.hid (Array.getElem?_eq_some_iff.1 X10.out).1
      have hzB : g ≤ w9.heap.size := by have := hgl.out; omega
      have hw69 : w6.heap.size ≤ w9.heap.size := by omega
      have hw79 : w7.heap.size ≤ w9.heap.size := by omega
      have hpl := Lib.hid (show n6 ≤ 9007199254740992 by
        have h1 := S6e.out.len
        rw [← HPL.out] at h1
        unfold planP at h1
        split at h1
        · have h2 : (srcP ⟨⟨sl, ll, al, nl, cl⟩, dl⟩ hv).length = nl := by simp [srcP]
          omega
        · simp at h1; omega)
      refine wp_region_tree (SK.one 0 false <| .one 1 false <| .one 2 true <| .one 3 false <| .one 4 false <| .one 5 false <| .one 6 false <| .one 7 false <| .one 8 false <| .one 10 false <| .one 12 false <| .one 14 false <| .one 15 false <| .one 9 true <| .one 11 true <| .one 13 true <| .one 16 true <| .one 17 true <| .one 18 false <| .one 19 false <| .one 20 false <| .one 21 false <| .one 22 false <| .one 23 false <| .one 24 false <| .one 25 false <| .one 26 false <| .one 27 false <| .one 28 false <| .one 29 false <| .one 30 false <| .one 31 false .done) (fun V => Below w9.heap.size w9 V) (by kernel_rfl) (by kernel_rfl) (by kernel_rfl) (by kernel_rfl) ?_
      have hS : Below w9.heap.size w9 w9.drew := (Below.refl _ _).drew
      have T0 := Lib.hid hS
      generalize w9.drew = v0 at *
      ((first | (refine TR.val2 (v := ?_) _ (by simp only [List.getElem?_toArray, List.getElem?_cons_zero]; rfl) ?_ ?_ ?_ ?_ ?_; rotate_left; (focus rfl); (focus (intro W hSW; (try dsimp only at hSW); (try (obtain ⟨hS1, hSW⟩ := hSW)); (try (obtain ⟨hS2, hSW⟩ := hSW)); (try (obtain ⟨hS3, hSW⟩ := hSW)); (try (obtain ⟨hS4, hSW⟩ := hSW)); (try (obtain ⟨hS5, hSW⟩ := hSW)); go_simp; (try with_reducible rfl); done)); (focus exact fun _ _ _ h => h); (focus assumption)) | (refine TR.skip _ (by simp only [List.getElem?_toArray, List.getElem?_cons_zero]; rfl) ?_ ?_ ?_ ?_; (focus rfl); (focus exact fun _ _ _ h => h); (focus assumption))); simp only [Act.put, List.setIfInBounds_toArray, List.set_cons_zero, List.set_cons_succ])
      iterate 1 ((first | (refine TR.val2 (v := ?_) _ (by simp only [List.getElem?_toArray, List.getElem?_cons_succ, List.getElem?_cons_zero]; rfl) ?_ ?_ ?_ ?_ ?_; rotate_left; (focus rfl); (focus (intro W hSW; (try dsimp only at hSW); (try (obtain ⟨hS1, hSW⟩ := hSW)); (try (obtain ⟨hS2, hSW⟩ := hSW)); (try (obtain ⟨hS3, hSW⟩ := hSW)); (try (obtain ⟨hS4, hSW⟩ := hSW)); (try (obtain ⟨hS5, hSW⟩ := hSW)); go_simp; (try with_reducible rfl); done)); (focus exact fun _ _ _ h => h); (focus assumption)) | (refine TR.skip _ (by simp only [List.getElem?_toArray, List.getElem?_cons_succ, List.getElem?_cons_zero]; rfl) ?_ ?_ ?_ ?_; (focus rfl); (focus exact fun _ _ _ h => h); (focus assumption))); simp only [Act.put, List.setIfInBounds_toArray, List.set_cons_zero, List.set_cons_succ])
      refine TR.eff _ (by simp only [List.getElem?_toArray, List.getElem?_cons_succ, List.getElem?_cons_zero]; rfl) (by rfl) (fun K hK => ?_); go_simp
      refine (sources_v A6 A7 n6 c6 n7 c7 w9.heap.size pl pl v0 (Reads.more (S6e.out.below (T0.out.mono hw69)) hw69) (Reads.more (S7e.out.below (T0.out.mono hw79)) hw79) T0.out.size hpl.out).mono ?_
      rw [decide_eq_true rfl]
      rintro e v1 ⟨rfl, b1⟩
      have T1 := Lib.hid (T0.out.trans (b1.mono T0.out.size))
      clear b1
      have hS2 := T1.out
      refine hK.out _ _ hS2 ?_
      clear hK hS
      have hS := hS2
      clear hS2
      (try simp only [Act.put, List.setIfInBounds_toArray, List.set_cons_zero, List.set_cons_succ])
      iterate 6 ((first | (refine TR.val2 (v := ?_) _ (by simp only [List.getElem?_toArray, List.getElem?_cons_succ, List.getElem?_cons_zero]; rfl) ?_ ?_ ?_ ?_ ?_; rotate_left; (focus rfl); (focus (intro W hSW; (try dsimp only at hSW); (try (obtain ⟨hS1, hSW⟩ := hSW)); (try (obtain ⟨hS2, hSW⟩ := hSW)); (try (obtain ⟨hS3, hSW⟩ := hSW)); (try (obtain ⟨hS4, hSW⟩ := hSW)); (try (obtain ⟨hS5, hSW⟩ := hSW)); go_simp; (try with_reducible rfl); done)); (focus exact fun _ _ _ h => h); (focus assumption)) | (refine TR.skip _ (by simp only [List.getElem?_toArray, List.getElem?_cons_succ, List.getElem?_cons_zero]; rfl) ?_ ?_ ?_ ?_; (focus rfl); (focus exact fun _ _ _ h => h); (focus assumption))); simp only [Act.put, List.setIfInBounds_toArray, List.set_cons_zero, List.set_cons_succ])
      iterate 1 ((first | (refine TR.val2 (v := ?_) _ (by simp only [List.getElem?_toArray, List.getElem?_cons_succ, List.getElem?_cons_zero]; rfl) ?_ ?_ ?_ ?_ ?_; rotate_left; (focus rfl); (focus (intro W hSW; (try dsimp only at hSW); (try (obtain ⟨hS1, hSW⟩ := hSW)); (try (obtain ⟨hS2, hSW⟩ := hSW)); (try (obtain ⟨hS3, hSW⟩ := hSW)); (try (obtain ⟨hS4, hSW⟩ := hSW)); (try (obtain ⟨hS5, hSW⟩ := hSW)); go_simp; (try with_reducible rfl); done)); (focus exact fun _ _ _ h => h); (focus assumption)) | (refine TR.skip _ (by simp only [List.getElem?_toArray, List.getElem?_cons_succ, List.getElem?_cons_zero]; rfl) ?_ ?_ ?_ ?_; (focus rfl); (focus exact fun _ _ _ h => h); (focus assumption))); simp only [Act.put, List.setIfInBounds_toArray, List.set_cons_zero, List.set_cons_succ])
      refine TR.val2 (v := .agg #[.int .i64 sl, .int .i64 ll, .slice al nl cl]) _ (by simp only [List.getElem?_toArray, List.getElem?_cons_succ, List.getElem?_cons_zero]; rfl) ?_ ?_ ?_ ?_ ?_
      (focus rfl)
      (focus exact fun V hV => exec_load_slot 24 (.tmp 4) rfl ⟨g, 0, none⟩ rfl [.int .i64 sl, .int .i64 ll, .slice al nl cl] _ (row_cells ((hV.block g hgl.out).trans X10.out)) Try.underlying24 rfl HI.out)
      (focus exact fun _ _ _ h => h)
      (focus exact hS)
      simp only [Act.put, List.setIfInBounds_toArray, List.set_cons_zero, List.set_cons_succ]
      iterate 1 ((first | (refine TR.val2 (v := ?_) _ (by simp only [List.getElem?_toArray, List.getElem?_cons_succ, List.getElem?_cons_zero]; rfl) ?_ ?_ ?_ ?_ ?_; rotate_left; (focus rfl); (focus (intro W hSW; (try dsimp only at hSW); (try (obtain ⟨hS1, hSW⟩ := hSW)); (try (obtain ⟨hS2, hSW⟩ := hSW)); (try (obtain ⟨hS3, hSW⟩ := hSW)); (try (obtain ⟨hS4, hSW⟩ := hSW)); (try (obtain ⟨hS5, hSW⟩ := hSW)); go_simp; (try with_reducible rfl); done)); (focus exact fun _ _ _ h => h); (focus assumption)) | (refine TR.skip _ (by simp only [List.getElem?_toArray, List.getElem?_cons_succ, List.getElem?_cons_zero]; rfl) ?_ ?_ ?_ ?_; (focus rfl); (focus exact fun _ _ _ h => h); (focus assumption))); simp only [Act.put, List.setIfInBounds_toArray, List.set_cons_zero, List.set_cons_succ])
      refine TR.val2 (v := .agg #[.int .i64 sl, .int .i64 ll, .slice al nl cl]) _ (by simp only [List.getElem?_toArray, List.getElem?_cons_succ, List.getElem?_cons_zero]; rfl) ?_ ?_ ?_ ?_ ?_
      (focus rfl)
      (focus exact fun V hV => exec_load_slot 24 (.tmp 4) rfl ⟨g, 0, none⟩ rfl [.int .i64 sl, .int .i64 ll, .slice al nl cl] _ (row_cells ((hV.block g hgl.out).trans X10.out)) Try.underlying24 rfl HI.out)
      (focus exact fun _ _ _ h => h)
      (focus exact hS)
      simp only [Act.put, List.setIfInBounds_toArray, List.set_cons_zero, List.set_cons_succ]
      refine TR.eff _ (by simp only [List.getElem?_toArray, List.getElem?_cons_succ, List.getElem?_cons_zero]; rfl) (by rfl) (fun K hK => ?_); go_simp
      have T2 := Lib.hid (T1.out.alloc T1.out.size (.cells #[] 47))
      have OE := Lib.hid (show (v1.alloc (.cells #[] 47)).ownsRow v1.heap.size 47 2 (.slice (some ⟨v1.heap.size, 0, none⟩) 0 0) 0 [] from
        ⟨by simp, .inr ⟨v1.heap.size, 0, #[], rfl, Nat.le_refl _, heap_alloc_new v1 _, Nat.le_refl _, by decide, rfl, rfl⟩⟩)
      have hzv1 := T1.out.size
      have hzv2 : v1.heap.size ≤ (v1.alloc (.cells #[] 47)).heap.size := by simp
      generalize v1.alloc (.cells #[] 47) = v2 at *
      have hS2 := T2.out
      refine hK.out _ _ hS2 ?_
      clear hK hS
      have hS := hS2
      clear hS2
      (try simp only [Act.put, List.setIfInBounds_toArray, List.set_cons_zero, List.set_cons_succ])
      obtain ⟨i1, hi1, hx0, hx1, hx2⟩ := info_parts info_src
      have HPB := Lib.hid (show Reads v2 g 2 P mp (ps.flatMap srcC) from Reads.below HP.out (B10.out.trans (T2.out.mono hzB)))
      refine TR.eff _ (by simp only [List.getElem?_toArray, List.getElem?_cons_succ, List.getElem?_cons_zero]; rfl) (by rfl) (fun K hK => ?_)
      refine wp_append_any v2 (.tmp 117) (.tmp 118) 42 rfl v1.heap.size 47 i1 _ 2 16 Try.underlying42 hi1 hx0 hx1 hx2 rfl (by decide) (.slice (some ⟨v1.heap.size, 0, none⟩) 0 0) 0 [] rfl OE.out g P mp cp (ps.flatMap srcC) rfl HPB.out (by
        intro u hu
        obtain ⟨x, _, hx⟩ := List.mem_flatMap.1 hu
        simp only [srcC, List.mem_cons, List.not_mem_nil, or_false] at hx
        rcases hx with rfl | rfl <;> rfl) (by simp only [maxLen]; omega) (by omega) hzv2 ?_
      intro v' v3 ho3 hg3 _
      rw [Nat.zero_add] at ho3
      obtain ⟨Aw, cw, rfl, _⟩ := own_shape ho3
      have T3 := Lib.hid (T2.out.grown hg3 T2.out.size (fun j hj => Nat.le_trans hzv1 (OE.out.lt j hj).1))
      have O3 := Lib.hid (show Reads v3 v3.heap.size 2 Aw mp (ps.flatMap srcC) from Reads.of_own ho3)
      clear ho3 hg3 OE
      have hS2 := T3.out
      refine hK.out _ _ hS2 ?_
      clear hK hS
      have hS := hS2
      clear hS2
      (try simp only [Act.put, List.setIfInBounds_toArray, List.set_cons_zero, List.set_cons_succ])
      have BX := Lib.hid (fun V (hV : Below w9.heap.size w9 V) => (show Below g w V from B10.out.trans (hV.mono hzB)))
      have hz93 : w9.heap.size ≤ v3.heap.size := T3.out.size
      refine TR.eff _ (by simp only [List.getElem?_toArray, List.getElem?_cons_succ, List.getElem?_cons_zero]; rfl) (by rfl) (fun K hK => ?_); go_simp
      refine (wanted_v sl ll al nl cl dl ps Aw mp cw v3.heap.size v3 O3.out (Reads.more (HL.out.below (BX.out v3 T3.out)) (by omega)) (Nat.le_refl _) (by omega) hnl3).mono ?_
      rintro e v4 ⟨A4, c4, rfl, o4, b4⟩
      have T4 := Lib.hid (T3.out.trans (b4.mono hz93))
      have D4 := Lib.hid (DReads.of_own o4)
      have hz94 : w9.heap.size ≤ v4.heap.size := T4.out.size
      clear b4 o4 O3
      have hS2 := T4.out
      refine hK.out _ _ hS2 ?_
      clear hK hS
      have hS := hS2
      clear hS2
      (try simp only [Act.put, List.setIfInBounds_toArray, List.set_cons_zero, List.set_cons_succ])
      obtain ⟨wl, hwl⟩ : ∃ wl, wantP ps dl = wl := ⟨_, rfl⟩
      have HWL := Lib.hid hwl
      rw [hwl] at D4 ⊢
      have RW := rwanted_v sl ll al nl cl dl ps P mp cp g v4 (Reads.below HP.out (BX.out v4 T4.out)) (HL.out.below (BX.out v4 T4.out)) (by omega) (by omega) hnl3
      rw [hwl] at RW
      clear hwl
      refine TR.eff _ (by simp only [List.getElem?_toArray, List.getElem?_cons_succ, List.getElem?_cons_zero]; rfl) (by rfl) (fun K hK => ?_); go_simp
      refine RW.mono ?_
      rintro e v5 ⟨A5', c5', rfl, o5, b5⟩
      have T5 := Lib.hid (T4.out.trans (b5.mono hz94))
      have D5 := Lib.hid (DReads.of_own o5)
      have D4b := Lib.hid (D4.out.below b5)
      have hz45 := b5.size
      have hwll : wl.length ≤ 9007199254740992 := by
        rw [← HWL.out]
        unfold wantP
        split
        · have h1 := wantF_len _ (ps.zip dl) rfl
          rw [List.length_zip] at h1
          have h2 := HL.out.len
          omega
        · simp
      clear b5 o5 RW D4
      have hS2 := T5.out
      refine hK.out _ _ hS2 ?_
      clear hK hS
      have hS := hS2
      clear hS2
      (try simp only [Act.put, List.setIfInBounds_toArray, List.set_cons_zero, List.set_cons_succ])
      refine TR.eff _ (by simp only [List.getElem?_toArray, List.getElem?_cons_succ, List.getElem?_cons_zero]; rfl) (by rfl) (fun K hK => ?_); go_simp
      refine (digests_v A4 A5' wl.length c4 wl.length c5' v5.heap.size wl wl v5 (Reads.more D4b.out hz45) D5.out (Nat.le_refl _) hwll).mono ?_
      rw [decide_eq_true rfl]
      rintro e v6 ⟨rfl, b6⟩
      have T6 := Lib.hid (T5.out.trans (b6.mono T5.out.size))
      clear b6
      have hS2 := T6.out
      refine hK.out _ _ hS2 ?_
      clear hK hS
      have hS := hS2
      clear hS2
      (try simp only [Act.put, List.setIfInBounds_toArray, List.set_cons_zero, List.set_cons_succ])
      iterate 3 ((first | (refine TR.val2 (v := ?_) _ (by simp only [List.getElem?_toArray, List.getElem?_cons_succ, List.getElem?_cons_zero]; rfl) ?_ ?_ ?_ ?_ ?_; rotate_left; (focus rfl); (focus (intro W hSW; (try dsimp only at hSW); (try (obtain ⟨hS1, hSW⟩ := hSW)); (try (obtain ⟨hS2, hSW⟩ := hSW)); (try (obtain ⟨hS3, hSW⟩ := hSW)); (try (obtain ⟨hS4, hSW⟩ := hSW)); (try (obtain ⟨hS5, hSW⟩ := hSW)); go_simp; (try with_reducible rfl); done)); (focus exact fun _ _ _ h => h); (focus assumption)) | (refine TR.skip _ (by simp only [List.getElem?_toArray, List.getElem?_cons_succ, List.getElem?_cons_zero]; rfl) ?_ ?_ ?_ ?_; (focus rfl); (focus exact fun _ _ _ h => h); (focus assumption))); simp only [Act.put, List.setIfInBounds_toArray, List.set_cons_zero, List.set_cons_succ])
      refine TR.val2 (v := .string ⟨pb.toArray⟩) _ (by simp only [List.getElem?_toArray, List.getElem?_cons_succ, List.getElem?_cons_zero]; rfl) ?_ ?_ ?_ ?_ ?_
      (focus rfl)
      (focus (intro V hV; have q8 := run_str (c := c8) (Reads.below R9.out (hV.mono hzy)); go_simp))
      (focus exact fun _ _ _ h => h)
      (focus exact hS)
      simp only [Act.put, List.setIfInBounds_toArray, List.set_cons_zero, List.set_cons_succ]
      iterate 1 ((first | (refine TR.val2 (v := ?_) _ (by simp only [List.getElem?_toArray, List.getElem?_cons_succ, List.getElem?_cons_zero]; rfl) ?_ ?_ ?_ ?_ ?_; rotate_left; (focus rfl); (focus (intro W hSW; (try dsimp only at hSW); (try (obtain ⟨hS1, hSW⟩ := hSW)); (try (obtain ⟨hS2, hSW⟩ := hSW)); (try (obtain ⟨hS3, hSW⟩ := hSW)); (try (obtain ⟨hS4, hSW⟩ := hSW)); (try (obtain ⟨hS5, hSW⟩ := hSW)); go_simp; (try with_reducible rfl); done)); (focus exact fun _ _ _ h => h); (focus assumption)) | (refine TR.skip _ (by simp only [List.getElem?_toArray, List.getElem?_cons_succ, List.getElem?_cons_zero]; rfl) ?_ ?_ ?_ ?_; (focus rfl); (focus exact fun _ _ _ h => h); (focus assumption))); simp only [Act.put, List.setIfInBounds_toArray, List.set_cons_zero, List.set_cons_succ])
      refine TR.val2 (v := .string ⟨pb.toArray⟩) _ (by simp only [List.getElem?_toArray, List.getElem?_cons_succ, List.getElem?_cons_zero]; rfl) ?_ ?_ ?_ ?_ ?_
      (focus rfl)
      (focus (intro V hV; have q9 := run_str (c := c9) (Reads.below R9'.out hV); go_simp))
      (focus exact fun _ _ _ h => h)
      (focus exact hS)
      simp only [Act.put, List.setIfInBounds_toArray, List.set_cons_zero, List.set_cons_succ]
      iterate 8 ((first | (refine TR.val2 (v := ?_) _ (by simp only [List.getElem?_toArray, List.getElem?_cons_succ, List.getElem?_cons_zero]; rfl) ?_ ?_ ?_ ?_ ?_; rotate_left; (focus rfl); (focus (intro W hSW; (try dsimp only at hSW); (try (obtain ⟨hS1, hSW⟩ := hSW)); (try (obtain ⟨hS2, hSW⟩ := hSW)); (try (obtain ⟨hS3, hSW⟩ := hSW)); (try (obtain ⟨hS4, hSW⟩ := hSW)); (try (obtain ⟨hS5, hSW⟩ := hSW)); go_simp; (try with_reducible rfl); done)); (focus exact fun _ _ _ h => h); (focus assumption)) | (refine TR.skip _ (by simp only [List.getElem?_toArray, List.getElem?_cons_succ, List.getElem?_cons_zero]; rfl) ?_ ?_ ?_ ?_; (focus rfl); (focus exact fun _ _ _ h => h); (focus assumption))); simp only [Act.put, List.setIfInBounds_toArray, List.set_cons_zero, List.set_cons_succ])
      refine TR.done ?_
      clear hS
      have BF := Lib.hid (BX.out v6 T6.out)
      clear BX
      go_wp2
      go_ret
      exact ⟨rfl, hg ▸ BF.out⟩
end Go.Proofs.Ytmaehbebpldpcaa
