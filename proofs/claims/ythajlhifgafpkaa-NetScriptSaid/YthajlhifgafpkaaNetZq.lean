/-
  Nets: NetScript.
-/
import Derived.Test.YthajlhifgafpkaaNetZp
import Derived.Test.YthajlhifgafpkaaNetZm
namespace Go.Proofs.Ythajlhifgafpkaa
open Go.RowKit Go.Shelf
theorem roldest_y {base g nl cl n c : Nat} {AL A : Option Addr} {s : NS} (a b : Int) (w : World) (h : RNy w base g AL nl cl A n c s) (hn : n ≤ 4096) :
    Calls Try.prog 32 #[.pointer (some ⟨g, 0, none⟩), .int .i64 a, .int .i64 b] w fun e w' => e = .returned (.int .u64 (s.oldest a b : Int)) ∧ w = w' := by
  obtain ⟨us, h⟩ := h
  exact roldest_v a b w h hn
theorem PkRow.preads {W : World} {base n c : Nat} {A : Option Addr} {vs : List PkV} (h : PkRow W base A n c vs) : PReads W W.heap.size A n vs := ⟨Reads.of_own h.row, fun v hv => (h.bytes v hv).1.reads⟩
set_option maxRecDepth 100000 in
set_option maxHeartbeats 16000000 in
theorem script_v (A0 : Option Addr) (len0 cap0 : Nat) (xs : List ActV) (w : World) (h : AReads w w.heap.size A0 len0 xs) (hn : len0 ≤ 9223372036854775807) :
    Calls Try.prog 7 #[.slice A0 len0 cap0] w fun e w' => e = .returned (.bool true) ∧ Below w.heap.size w w' := by
  have HX := Lib.hid h
  have HXL := Lib.hid h.len
  have HIA := Lib.hid (show (Try.prog.info? 43).map (·.size) = some 5 by kernel_rfl)
  clear h
  go_enter Try.func7, Try.ntmps7
  go_wp2_with fail
  refine (lives_v w).mono ?_
  rintro e w1 ⟨rfl, b1⟩
  have B1 := Lib.hid b1
  have hz1 := b1.size
  clear b1
  go_wp2_with fail
  refine (small_v A0 len0 cap0 w.heap.size xs w1 (HX.out.below B1.out) hn hz1).mono ?_
  rintro e w2 ⟨rfl, b2⟩
  have B2 := Lib.hid (B1.out.trans (b2.mono hz1))
  have hz2 := B2.out.size
  clear b2
  cases hsm : smallL xs
  · clear hsm
    go_wp2_with fail
    go_ret
    exact ⟨rfl, B2.out⟩
  have HSM := Lib.hid hsm
  have hl200 : len0 ≤ 200 := by
    have h1 := HXL.out
    simp [smallL] at hsm
    omega
  clear hsm
  go_wp2_with fail
  refine (new_v w2).mono ?_
  rintro e w3 ⟨g, mb, rfl, h3, b3⟩
  have hb3 := b3.size
  have H3 := Lib.hid h3
  have B3 := Lib.hid (B2.out.trans (b3.mono hz2))
  clear h3 b3
  go_wp2_with fail
  refine (rnew_v w3).mono ?_
  rintro e w4 ⟨rfl, h4, b4⟩
  have H4 := Lib.hid (H3.out.below b4)
  have R4 := Lib.hid (show RNy w4 w3.heap.size w3.heap.size none 0 0 none 0 0 NS.new from ⟨[], [], h4⟩)
  have B4 := Lib.hid (B3.out.trans (b4.mono (by omega)))
  clear h4 b4
  obtain ⟨b2, hb2⟩ : ∃ x, w3.heap.size = x := ⟨_, rfl⟩
  rw [hb2] at R4 ⊢
  have hwb : w.heap.size ≤ b2 := by omega
  obtain ⟨gr, hgr⟩ : ∃ x, b2 = x := ⟨_, rfl⟩
  have R4 := Lib.hid (show RNy w4 b2 gr none 0 0 none 0 0 NS.new by rw [← hgr]; exact R4.out)
  rw [show (Value.pointer (some ⟨b2, 0, none⟩)) = Value.pointer (some ⟨gr, 0, none⟩) by rw [hgr]]
  clear hb2 hgr hb3
  go_wp2_with fail
  go_loopw [5] (fun i wr => ∃ (k n c : Nat) (A : Option Addr) (vs : List PkV) (s : NS) (nl cl : Nat) (AL : Option Addr) (n' c' : Nat) (A' : Option Addr), k ≤ len0 ∧ i = .int .i64 (k : Int) ∧ NetIs wr w2.heap.size g mb A n c vs s ∧ s.small k ∧ nl ≤ 18 * k ∧ RNy wr b2 gr AL nl cl A' n' c' s ∧ RowsApart A n c A' n' c' ∧ Below w.heap.size w wr) (fun i _ => len0 - (intOf i).toNat)
  case atStart => exact ⟨0, 0, 0, none, [], NS.new, 0, 0, none, 0, 0, none, Nat.zero_le _, rfl, H4.out, NS.small.new, Nat.le_refl _, R4.out, fun j hj => by simp [Value.ownBlock] at hj, B4.out⟩
  case round =>
    obtain ⟨k, n, c, A, vs, s, nl, cl, AL, n', c', A', hk, rfl, h5, hs, hnl, r5, hd5, b5⟩ := hrel
    have H5 := Lib.hid h5
    have B5 := Lib.hid b5
    have HS := Lib.hid hs
    have R5 := Lib.hid r5
    have D5 := Lib.hid hd5
    have hn4 : n ≤ 4096 := by rw [← h5.len]; exact hs.fl
    have hn4' : n' ≤ 4096 := by rw [← r5.facts.2.2.1]; exact hs.fl
    have hz4 := b5.size
    clear h5 b5 hs r5 hd5 H3 B3 H4 R4 B4
    by_cases hlt : k < len0
    · have q0 : decide (k < len0) = true := by simpa using hlt
      obtain ⟨ad, ⟨xk, xa, xb, xn, xba, xbl, xbc, xbs⟩, rfl, hx, hin, hc⟩ := HX.out.at_ hlt
      have HXK := Lib.hid hx
      have HINX := Lib.hid hin
      have HC4 := Lib.hid (hc wr B5.out)
      have k0 : (0 : Int) ≤ (k : Int) := by omega
      obtain ⟨xm, hxm⟩ := Int.eq_ofNat_of_zero_le (wfn_u64 xn HINX.out.n)
      try dsimp only at hxm
      subst hxm
      clear hx hin hc
      go_upto_region 10 with (first
        | (refine wpList_load_slot rfl 43 (.tmp 26) rfl (ad.add (k * 5)) rfl [.int .i64 xk, .int .i64 xa, .int .i64 xb, .int .u64 (xm : Int), .slice xba xbl xbc] _ HC4.out Try.underlying43 rfl HIA.out ?_)
        | fail)
      have XA5 := Lib.hid (heap_alloc_new wr (.cells #[.int .i64 xk, .int .i64 xa, .int .i64 xb, .int .u64 (xm : Int), .slice xba xbl xbc] 43))
      have BA5 := (Below.refl wr.heap.size wr).alloc (Nat.le_refl _) (.cells #[.int .i64 xk, .int .i64 xa, .int .i64 xb, .int .u64 (xm : Int), .slice xba xbl xbc] 43)
      have hz5 : (wr.alloc (.cells #[.int .i64 xk, .int .i64 xa, .int .i64 xb, .int .u64 (xm : Int), .slice xba xbl xbc] 43)).heap.size = wr.heap.size + 1 := by simp
      have H6 := Lib.hid (H5.out.below BA5)
      have R6 := Lib.hid (R5.out.below BA5)
      have B6 := Lib.hid (B5.out.trans (BA5.mono hz4))
      have F5 := Lib.hid (And.intro (And.intro H5.out.lt (And.intro H5.out.mlt (fun j (e : (Value.slice A n c).ownBlock = some j) => (H5.out.hf.base_le j e).2))) R5.out.facts)
      clear H5 R5 B5 BA5 HC4 q0
      generalize wr.alloc (.cells #[.int .i64 xk, .int .i64 xa, .int .i64 xb, .int .u64 (xm : Int), .slice xba xbl xbc] 43) = w6 at *
      obtain ⟨ga, hga⟩ : ∃ ga, wr.heap.size = ga := ⟨_, rfl⟩
      rw [hga] at XA5 hz5 hz4 F5 ⊢
      clear hga
      refine wp_region_text [(0, false), (1, false), (3, false), (4, false), (2, true), (5, true), (6, true), (7, false)] (fun V => V.heap[ga]? = some (.cells #[.int .i64 xk, .int .i64 xa, .int .i64 xb, .int .u64 (xm : Int), .slice xba xbl xbc] 43 (0, 0))) (by kernel_rfl) (by kernel_rfl) (by kernel_rfl) (by kernel_rfl) (by kernel_rfl) (fun _ => ?_)
      simp only [outOf, List.getElem?_cons_zero, List.getElem?_cons_succ, Option.getD_some]
      have hS : w6.drew.heap[ga]? = some (.cells #[.int .i64 xk, .int .i64 xa, .int .i64 xb, .int .u64 (xm : Int), .slice xba xbl xbc] 43 (0, 0)) := XA5.out
      have H7 := Lib.hid (show NetIs w6.drew w2.heap.size g mb A n c vs s from H6.out.drew)
      have R7 := Lib.hid (show RNy w6.drew b2 gr AL nl cl A' n' c' s from R6.out.below (Below.refl _ _).drew)
      have B7 := Lib.hid B6.out.drew
      have hz7 : w6.drew.heap.size = ga + 1 := hz5
      clear H6 R6 B6 XA5 hz5
      generalize w6.drew = w7 at *
      iterate 1 ((first | (refine TW.val2 (v := ?_) ?_ ?_ ?_ ?_ ?_; rotate_left; (focus rfl); (focus (intro W hSW; (try dsimp only at hSW); (try (obtain ⟨hS1, hSW⟩ := hSW)); (try (obtain ⟨hS2, hSW⟩ := hSW)); (try (obtain ⟨hS3, hSW⟩ := hSW)); (try (obtain ⟨hS4, hSW⟩ := hSW)); (try (obtain ⟨hS5, hSW⟩ := hSW)); (try (obtain ⟨hS6, hSW⟩ := hSW)); (try (obtain ⟨hS7, hSW⟩ := hSW)); (try (obtain ⟨hS8, hSW⟩ := hSW)); go_simp; (try with_reducible rfl); done)); (focus exact fun _ _ _ h => h); (focus assumption)) | (refine TW.skip (e := false) ?_ ?_ ?_ ?_; (focus rfl); (focus exact fun _ _ _ h => h); (focus assumption))); simp only [Act.put, List.setIfInBounds_toArray, List.set_cons_zero, List.set_cons_succ])
      refine TW.val2 (v := .agg #[.int .i64 xk, .int .i64 xa, .int .i64 xb, .int .u64 (xm : Int), .slice xba xbl xbc]) ?_ ?_ ?_ ?_ ?_
      (focus rfl)
      (focus exact fun V hV => exec_load_row 43 (.tmp 6) rfl ga rfl 43 _ (0, 0) _ hV Try.underlying43 rfl HIA.out)
      (focus exact fun _ _ _ h => h)
      (focus assumption)
      simp only [Act.put, List.setIfInBounds_toArray, List.set_cons_zero, List.set_cons_succ]
      iterate 1 ((first | (refine TW.val2 (v := ?_) ?_ ?_ ?_ ?_ ?_; rotate_left; (focus rfl); (focus (intro W hSW; (try dsimp only at hSW); (try (obtain ⟨hS1, hSW⟩ := hSW)); (try (obtain ⟨hS2, hSW⟩ := hSW)); (try (obtain ⟨hS3, hSW⟩ := hSW)); (try (obtain ⟨hS4, hSW⟩ := hSW)); (try (obtain ⟨hS5, hSW⟩ := hSW)); (try (obtain ⟨hS6, hSW⟩ := hSW)); (try (obtain ⟨hS7, hSW⟩ := hSW)); (try (obtain ⟨hS8, hSW⟩ := hSW)); go_simp; (try with_reducible rfl); done)); (focus exact fun _ _ _ h => h); (focus assumption)) | (refine TW.skip (e := false) ?_ ?_ ?_ ?_; (focus rfl); (focus exact fun _ _ _ h => h); (focus assumption))); simp only [Act.put, List.setIfInBounds_toArray, List.set_cons_zero, List.set_cons_succ])
      refine TW.val2 (v := .agg #[.int .i64 xk, .int .i64 xa, .int .i64 xb, .int .u64 (xm : Int), .slice xba xbl xbc]) ?_ ?_ ?_ ?_ ?_
      (focus rfl)
      (focus exact fun V hV => exec_load_row 43 (.tmp 6) rfl ga rfl 43 _ (0, 0) _ hV Try.underlying43 rfl HIA.out)
      (focus exact fun _ _ _ h => h)
      (focus assumption)
      simp only [Act.put, List.setIfInBounds_toArray, List.set_cons_zero, List.set_cons_succ]
      refine TW.eff (by rfl) (fun K hK => ?_); go_simp
      have HIN7 := Lib.hid (HINX.out.below B7.out)
      have hxl := small_len HSM.out HXK.out
      dsimp only at hxl
      refine (call_v xk xa xb xm xba xbl xbc w.heap.size k xbs w7 H7.out HIN7.out.a HIN7.out.b HIN7.out.r B7.out.size (by omega) HS.out (by omega)).mono ?_
      rintro e w8 ⟨A8, m8, c8, v8, va, vl, vc, rfl, bo8, h8, b8, n8⟩
      obtain ⟨an, han⟩ : ∃ an, s.call xk xa xb xm xbs = an := ⟨_, rfl⟩
      have HAN := Lib.hid han
      rw [han] at bo8 h8 ⊢
      clear han
      have H8 := Lib.hid h8
      have R8 := Lib.hid (R7.out.other H7.out D5.out n8)
      have D8 := Lib.hid (D5.out.net R7.out n8)
      have B8 := Lib.hid (B7.out.trans (b8.mono hz2))
      have hz8 := n8.size
      have BO8 := Lib.hid bo8
      have hS8 : w8.heap[ga]? = some (.cells #[.int .i64 xk, .int .i64 xa, .int .i64 xb, .int .u64 (xm : Int), .slice xba xbl xbc] 43 (0, 0)) := (n8.blk ga (by omega) (by have := F5.out.1.1; omega) (by have := F5.out.1.2.1; omega) (fun e => by have := F5.out.1.2.2 ga e; omega)).trans hS
      go_wp2_with fail; refine hK.out _ _ hS8 ?_; clear hK; (try simp only [Act.put, List.setIfInBounds_toArray, List.set_cons_zero, List.set_cons_succ])
      clear h8 b8 n8 bo8 hS H7 R7 B7 HIN7
      refine TW.eff (by rfl) (fun K hK => ?_); go_simp
      have HIN8 := Lib.hid (HINX.out.below B8.out)
      refine (like_v xk xa xb xm xba xbl xbc w.heap.size k xbs w8 R8.out (by omega) HIN8.out.r hwb (by omega) HS.out (by omega)).mono ?_
      rintro e w9 ⟨ua, ul, uc, rfl, bo9, nl9, hnl9, cl9, AL9, n9, c9, A9, r9, b9, ch9⟩
      rw [HAN.out] at bo9 r9 ⊢
      have H9 := Lib.hid (H8.out.other R8.out D8.out ch9)
      have D9 := Lib.hid (D8.out.ref H8.out ch9)
      have R9 := Lib.hid r9
      have B9 := Lib.hid (B8.out.trans (b9.mono hwb))
      have BV9 := Lib.hid (BO8.out.1.other R8.out ch9).reads
      have BU9 := Lib.hid bo9.1.reads
      have hz9 := ch9.size
      have hS9 : w9.heap[ga]? = some (.cells #[.int .i64 xk, .int .i64 xa, .int .i64 xb, .int .u64 (xm : Int), .slice xba xbl xbc] 43 (0, 0)) := (ch9.blk ga (by omega) (by have := F5.out.2.2.1; omega) (fun e => by have := (F5.out.2.2.2.2.1 ga e).2; omega) (fun e => by have := (F5.out.2.2.2.2.2 ga e).2; omega)).trans hS8
      go_wp2_with fail; refine hK.out _ _ hS9 ?_; clear hK; (try simp only [Act.put, List.setIfInBounds_toArray, List.set_cons_zero, List.set_cons_succ])
      clear r9 b9 ch9 bo9 hS8 H8 R8 B8 D8 BO8 HIN8
      refine TW.eff (by rfl) (fun K hK => ?_); go_simp
      refine (same_v an.1.num an.1.pk.num an.1.pk.frm an.1.pk.too an.1.pk.run an.1.err va vl vc ua ul uc an.1.pk.bytes w9 BV9.out BU9.out).mono ?_
      rintro e w10 ⟨rfl, b10⟩
      have H10 := Lib.hid (H9.out.below b10)
      have R10 := Lib.hid (R9.out.below b10)
      have B10 := Lib.hid (B9.out.trans (b10.mono (by omega)))
      have hz10 := b10.size
      have hS10 : w10.heap[ga]? = some (.cells #[.int .i64 xk, .int .i64 xa, .int .i64 xb, .int .u64 (xm : Int), .slice xba xbl xbc] 43 (0, 0)) := (b10.block ga (by omega)).trans hS9
      go_wp2_with fail; refine hK.out _ _ hS10 ?_; clear hK; (try simp only [Act.put, List.setIfInBounds_toArray, List.set_cons_zero, List.set_cons_succ])
      clear b10 hS9 H9 R9 B9 BV9 BU9
      iterate 1 ((first | (refine TW.val2 (v := ?_) ?_ ?_ ?_ ?_ ?_; rotate_left; (focus rfl); (focus (intro W hSW; (try dsimp only at hSW); (try (obtain ⟨hS1, hSW⟩ := hSW)); (try (obtain ⟨hS2, hSW⟩ := hSW)); (try (obtain ⟨hS3, hSW⟩ := hSW)); (try (obtain ⟨hS4, hSW⟩ := hSW)); (try (obtain ⟨hS5, hSW⟩ := hSW)); (try (obtain ⟨hS6, hSW⟩ := hSW)); (try (obtain ⟨hS7, hSW⟩ := hSW)); (try (obtain ⟨hS8, hSW⟩ := hSW)); go_simp; (try with_reducible rfl); done)); (focus exact fun _ _ _ h => h); (focus assumption)) | (refine TW.skip (e := false) ?_ ?_ ?_ ?_; (focus rfl); (focus exact fun _ _ _ h => h); (focus assumption))); simp only [Act.put, List.setIfInBounds_toArray, List.set_cons_zero, List.set_cons_succ])
      refine TW.done ?_
      have S10 := Lib.hid (show an.2.small (k + 1) by rw [← HAN.out]; exact HS.out.call _ _ _ _ _)
      have x1 : w10.cell? ⟨ga, 1, none⟩ = some (.int .i64 xa) := by rw [cell_of_row _ _ 1 _ _ _ hS10]; rfl
      have x2 : w10.cell? ⟨ga, 2, none⟩ = some (.int .i64 xb) := by rw [cell_of_row _ _ 2 _ _ _ hS10]; rfl
      have XA10 := Lib.hid hS10
      clear hS10
      go_wp2_with fail
      refine (is_v xa xb w10 H10.out HINX.out.a HINX.out.b).mono ?_
      rintro e w11 ⟨rfl, b11⟩
      have H11 := Lib.hid (H10.out.below b11)
      have R11 := Lib.hid (R10.out.below b11)
      have B11 := Lib.hid (B10.out.trans (b11.mono (by omega)))
      have hz11 := b11.size
      have XA11 := Lib.hid ((b11.block ga (by omega)).trans XA10.out)
      have x1 : w11.cell? ⟨ga, 1, none⟩ = some (.int .i64 xa) := by rw [cell_of_row _ _ 1 _ _ _ XA11.out]; rfl
      have x2 : w11.cell? ⟨ga, 2, none⟩ = some (.int .i64 xb) := by rw [cell_of_row _ _ 2 _ _ _ XA11.out]; rfl
      obtain ⟨up, hup⟩ : ∃ u, (an.2.is xa xb).1 = u := ⟨_, rfl⟩
      obtain ⟨rn, hrn⟩ : ∃ u, (an.2.is xa xb).2 = u := ⟨_, rfl⟩
      obtain ⟨us11, R11x⟩ := R11.out
      have IV := Lib.hid (ris_v xa xb w11 R11x (by omega))
      rw [hup, hrn] at IV ⊢
      clear b11 H10 R10 B10 XA10 hup hrn
      go_wp2_with fail
      refine IV.out.mono ?_
      rintro e w12 ⟨rfl, nl12, hnl12, cl12, AL12, r12, b12, ch12⟩
      have R12 := Lib.hid (show RNy w12 b2 gr AL12 nl12 cl12 A9 n9 c9 an.2 from ⟨us11, r12⟩)
      have H12 := Lib.hid (H11.out.other R11.out D9.out ch12)
      have D12 := Lib.hid (D9.out.ref H11.out ch12)
      have B12 := Lib.hid (B11.out.trans (b12.mono hwb))
      have hz12 := ch12.size
      have XA12 := Lib.hid (R11.out.act XA11.out ch12)
      clear R11x IV r12 b12 ch12 H11 R11 B11 XA11 x1 x2 D9
      go_upto_region 14 with fail
      refine wp_region_text [(0, false), (1, false), (2, false), (3, false), (4, false), (5, false), (6, false), (7, false), (8, false), (9, false), (11, false), (10, true), (12, true), (13, false), (14, false), (15, false), (16, false), (17, false), (18, false), (19, false), (20, false), (22, false), (23, false), (24, false), (25, false), (26, false), (21, true), (27, true), (28, false), (29, false), (30, false), (31, false), (32, false), (33, false), (35, false), (36, false), (37, false), (34, true), (38, true), (39, true), (40, false), (41, false)] (fun V => V.cell? ⟨ga, 1, none⟩ = some (.int .i64 xa) ∧ V.cell? ⟨ga, 2, none⟩ = some (.int .i64 xb)) (by kernel_rfl) (by kernel_rfl) (by kernel_rfl) (by kernel_rfl) (by kernel_rfl) (fun _ => ?_)
      simp only [outOf, List.getElem?_cons_zero, List.getElem?_cons_succ, Option.getD_some]
      have HSV := Lib.hid (show ∀ V : World, V.heap[ga]? = some (.cells #[.int .i64 xk, .int .i64 xa, .int .i64 xb, .int .u64 (xm : Int), .slice xba xbl xbc] 43 (0, 0)) → V.cell? ⟨ga, 1, none⟩ = some (.int .i64 xa) ∧ V.cell? ⟨ga, 2, none⟩ = some (.int .i64 xb) from fun V hV => ⟨by rw [cell_of_row _ _ 1 _ _ _ hV]; rfl, by rw [cell_of_row _ _ 2 _ _ _ hV]; rfl⟩)
      have XA13 := Lib.hid (show w12.drew.heap[ga]? = some _ from XA12.out)
      have H13 := Lib.hid (show NetIs w12.drew w2.heap.size g mb A8 m8 c8 v8 an.2 from H12.out.drew)
      have R13 := Lib.hid (show RNy w12.drew b2 gr AL12 nl12 cl12 A9 n9 c9 an.2 from R12.out.below (Below.refl _ _).drew)
      have B13 := Lib.hid B12.out.drew
      have hz13 : ga < w12.drew.heap.size := (Array.getElem?_eq_some_iff.1 XA12.out).1
      have hS := HSV.out w12.drew XA13.out
      have hm8 : m8 ≤ 4096 := by rw [← H12.out.len]; exact S10.out.fl
      have hm9 : n9 ≤ 4096 := by rw [← R12.out.facts.2.2.1]; exact S10.out.fl
      clear H12 R12 B12 XA12 F5
      generalize w12.drew = w13 at *
      obtain ⟨us13, LL13, R13n⟩ := R13.out
      have R13x : RNx w13 b2 gr AL12 nl12 cl12 A9 n9 c9 us13 an.2 := ⟨LL13, R13n⟩
      obtain ⟨la, hla⟩ : ∃ x, an.2.last = x := ⟨_, rfl⟩
      have VL := Lib.hid (last_v w13 H13.out)
      have VR := Lib.hid (rlast_v w13 R13x)
      rw [hla] at VL VR
      clear hla R13n R13x
      iterate 11 ((first | (refine TW.val2 (v := ?_) ?_ ?_ ?_ ?_ ?_; rotate_left; (focus rfl); (focus (intro W hSW; (try dsimp only at hSW); (try (obtain ⟨hS1, hSW⟩ := hSW)); (try (obtain ⟨hS2, hSW⟩ := hSW)); (try (obtain ⟨hS3, hSW⟩ := hSW)); (try (obtain ⟨hS4, hSW⟩ := hSW)); (try (obtain ⟨hS5, hSW⟩ := hSW)); (try (obtain ⟨hS6, hSW⟩ := hSW)); (try (obtain ⟨hS7, hSW⟩ := hSW)); (try (obtain ⟨hS8, hSW⟩ := hSW)); go_simp; (try with_reducible rfl); done)); (focus exact fun _ _ _ h => h); (focus assumption)) | (refine TW.skip (e := false) ?_ ?_ ?_ ?_; (focus rfl); (focus exact fun _ _ _ h => h); (focus assumption))); simp only [Act.put, List.setIfInBounds_toArray, List.set_cons_zero, List.set_cons_succ])
      refine TW.eff (by rfl) (fun K hK => ?_); go_simp
      refine VL.out.mono ?_
      rintro e _ ⟨rfl, rfl⟩
      go_wp2_with fail; refine hK.out _ _ hS ?_; clear hK; (try simp only [Act.put, List.setIfInBounds_toArray, List.set_cons_zero, List.set_cons_succ])
      refine TW.eff (by rfl) (fun K hK => ?_); go_simp
      refine VR.out.mono ?_
      rintro e _ ⟨rfl, rfl⟩
      go_wp2_with fail; refine hK.out _ _ hS ?_; clear hK; (try simp only [Act.put, List.setIfInBounds_toArray, List.set_cons_zero, List.set_cons_succ])
      clear VL VR
      iterate 13 ((first | (refine TW.val2 (v := ?_) ?_ ?_ ?_ ?_ ?_; rotate_left; (focus rfl); (focus (intro W hSW; (try dsimp only at hSW); (try (obtain ⟨hS1, hSW⟩ := hSW)); (try (obtain ⟨hS2, hSW⟩ := hSW)); (try (obtain ⟨hS3, hSW⟩ := hSW)); (try (obtain ⟨hS4, hSW⟩ := hSW)); (try (obtain ⟨hS5, hSW⟩ := hSW)); (try (obtain ⟨hS6, hSW⟩ := hSW)); (try (obtain ⟨hS7, hSW⟩ := hSW)); (try (obtain ⟨hS8, hSW⟩ := hSW)); go_simp; (try with_reducible rfl); done)); (focus exact fun _ _ _ h => h); (focus assumption)) | (refine TW.skip (e := false) ?_ ?_ ?_ ?_; (focus rfl); (focus exact fun _ _ _ h => h); (focus assumption))); simp only [Act.put, List.setIfInBounds_toArray, List.set_cons_zero, List.set_cons_succ])
      obtain ⟨oo, hoo⟩ : ∃ x, an.2.oldest xa xb = x := ⟨_, rfl⟩
      have VO := Lib.hid (oldest_v xa xb w13 H13.out hm8)
      have VQ := Lib.hid (fun (W : World) (h : RNy W b2 gr AL12 nl12 cl12 A9 n9 c9 an.2) => roldest_y xa xb W h hm9)
      rw [hoo] at VO VQ
      clear hoo
      refine TW.eff (by rfl) (fun K hK => ?_); go_simp
      refine VO.out.mono ?_
      rintro e w14 ⟨rfl, b14⟩
      have hS14 := HSV.out w14 ((b14.block ga hz13).trans XA13.out)
      have XA14 := Lib.hid ((b14.block ga hz13).trans XA13.out)
      have H14 := Lib.hid (H13.out.below b14)
      have R14 := Lib.hid (R13.out.below b14)
      have B14 := Lib.hid (B13.out.trans (b14.mono B13.out.size))
      have hz14 := b14.size
      go_wp2_with fail; refine hK.out _ _ hS14 ?_; clear hK; (try simp only [Act.put, List.setIfInBounds_toArray, List.set_cons_zero, List.set_cons_succ])
      clear VO b14 hS H13 R13 B13 XA13
      refine TW.eff (by rfl) (fun K hK => ?_); go_simp
      refine (VQ.out _ R14.out).mono ?_
      rintro e _ ⟨rfl, rfl⟩
      go_wp2_with fail; refine hK.out _ _ hS14 ?_; clear hK; (try simp only [Act.put, List.setIfInBounds_toArray, List.set_cons_zero, List.set_cons_succ])
      clear VQ
      iterate 9 ((first | (refine TW.val2 (v := ?_) ?_ ?_ ?_ ?_ ?_; rotate_left; (focus rfl); (focus (intro W hSW; (try dsimp only at hSW); (try (obtain ⟨hS1, hSW⟩ := hSW)); (try (obtain ⟨hS2, hSW⟩ := hSW)); (try (obtain ⟨hS3, hSW⟩ := hSW)); (try (obtain ⟨hS4, hSW⟩ := hSW)); (try (obtain ⟨hS5, hSW⟩ := hSW)); (try (obtain ⟨hS6, hSW⟩ := hSW)); (try (obtain ⟨hS7, hSW⟩ := hSW)); (try (obtain ⟨hS8, hSW⟩ := hSW)); go_simp; (try with_reducible rfl); done)); (focus exact fun _ _ _ h => h); (focus assumption)) | (refine TW.skip (e := false) ?_ ?_ ?_ ?_; (focus rfl); (focus exact fun _ _ _ h => h); (focus assumption))); simp only [Act.put, List.setIfInBounds_toArray, List.set_cons_zero, List.set_cons_succ])
      refine TW.eff (by rfl) (fun K hK => ?_); go_simp
      refine (peers_v xa w14 H14.out HINX.out.a).mono ?_
      rintro e w15 ⟨P1, p1, q1, rfl, io1, hp1, b15⟩
      have XA15 := Lib.hid ((b15.block ga (by omega)).trans XA14.out)
      have hS15 := HSV.out w15 XA15.out
      have H15 := Lib.hid (H14.out.below b15)
      have R15 := Lib.hid (R14.out.below b15)
      have B15 := Lib.hid (B14.out.trans (b15.mono B14.out.size))
      have IO1 := Lib.hid io1
      have hz15 := b15.size
      go_wp2_with fail; refine hK.out _ _ hS15 ?_; clear hK; (try simp only [Act.put, List.setIfInBounds_toArray, List.set_cons_zero, List.set_cons_succ])
      clear b15 io1 hS14 H14 R14 B14 XA14
      refine TW.eff (by rfl) (fun K hK => ?_); go_simp
      refine (rpeers_v xa w15 R15.out (by omega)).mono ?_
      rintro e w16 ⟨P2, p2, q2, rfl, io2, hp2, nl16, hnl16, cl16, AL16, r16, b16, ch16⟩
      have XA16 := Lib.hid (R15.out.act XA15.out ch16)
      have hS16 := HSV.out w16 XA16.out
      have H16 := Lib.hid (H15.out.other R15.out D12.out ch16)
      have D16 := Lib.hid (D12.out.ref H15.out ch16)
      have R16 := Lib.hid r16
      have B16 := Lib.hid (B15.out.trans (b16.mono hwb))
      have IO1' := Lib.hid (show IOwn w16 w14.heap.size P1 p1 q1 (an.2.peers xa) from by
        obtain ⟨us, LL, hh⟩ := R15.out
        exact IOwn.rch hh IO1.out ch16)
      have IO2 := Lib.hid io2
      have hz16 := ch16.size
      go_wp2_with fail; refine hK.out _ _ hS16 ?_; clear hK; (try simp only [Act.put, List.setIfInBounds_toArray, List.set_cons_zero, List.set_cons_succ])
      clear b16 ch16 io2 hS15 H15 R15 B15 XA15 IO1 r16
      refine TW.eff (by rfl) (fun K hK => ?_); go_simp
      refine (ints_v P1 P2 p1 q1 w16.heap.size p2 q2 w16.heap.size (an.2.peers xa) (an.2.peers xa) w16 IO1'.out.reads IO2.out.reads (Nat.le_refl _) (Nat.le_refl _) (by omega)).mono ?_
      rintro e w17 ⟨rfl, b17⟩
      have hS17 := HSV.out w17 ((b17.block ga (by omega)).trans XA16.out)
      have H17 := Lib.hid (H16.out.below b17)
      have R17 := Lib.hid (R16.out.below b17)
      have B17 := Lib.hid (B16.out.trans (b17.mono B16.out.size))
      rw [show decide (an.2.peers xa = an.2.peers xa) = true by simp]
      go_wp2_with fail; refine hK.out _ _ hS17 ?_; clear hK; (try simp only [Act.put, List.setIfInBounds_toArray, List.set_cons_zero, List.set_cons_succ])
      clear b17 hS16 H16 R16 B16 XA16 IO1' IO2
      iterate 2 ((first | (refine TW.val2 (v := ?_) ?_ ?_ ?_ ?_ ?_; rotate_left; (focus rfl); (focus (intro W hSW; (try dsimp only at hSW); (try (obtain ⟨hS1, hSW⟩ := hSW)); (try (obtain ⟨hS2, hSW⟩ := hSW)); (try (obtain ⟨hS3, hSW⟩ := hSW)); (try (obtain ⟨hS4, hSW⟩ := hSW)); (try (obtain ⟨hS5, hSW⟩ := hSW)); (try (obtain ⟨hS6, hSW⟩ := hSW)); (try (obtain ⟨hS7, hSW⟩ := hSW)); (try (obtain ⟨hS8, hSW⟩ := hSW)); go_simp; (try with_reducible rfl); done)); (focus exact fun _ _ _ h => h); (focus assumption)) | (refine TW.skip (e := false) ?_ ?_ ?_ ?_; (focus rfl); (focus exact fun _ _ _ h => h); (focus assumption))); simp only [Act.put, List.setIfInBounds_toArray, List.set_cons_zero, List.set_cons_succ])
      refine TW.done ?_
      clear hS17
      go_wp2_with fail
      go_roundw
      case rel => exact ⟨k + 1, m8, c8, A8, v8, an.2, nl16, cl16, AL16, n9, c9, A9, hlt, by go_num, H17.out, S10.out, by omega, R17.out, D16.out, B17.out⟩
      case measure => simp [intOf]; omega
    · obtain rfl : k = len0 := by omega
      have q0 : decide (k < k) = false := by simp
      go_wp2_with fail
      refine (flight_all wr H5.out hn4).mono ?_
      rintro e w6 ⟨P1, p1, rfl, f6, b6⟩
      have R6 := Lib.hid (R5.out.below b6)
      have F6 := Lib.hid f6
      have B6 := Lib.hid (B5.out.trans (b6.mono hz4))
      have hz6 := b6.size
      clear b6 f6
      go_wp2_with fail
      refine (rflight_v w6 R6.out hn4').mono ?_
      rintro e w7 ⟨P2, p2, rfl, f7, b7⟩
      have F6' := Lib.hid (show FlB w7 wr.heap.size P1 n p1 s.fl from by
        obtain ⟨ys, hy, he⟩ := F6.out
        exact ⟨ys, hy.below b7, he⟩)
      have F7 := Lib.hid f7
      have B7 := Lib.hid (B6.out.trans (b7.mono (by omega)))
      have hz7 := b7.size
      have hnn : n' = n := by rw [← R5.out.facts.2.2.1, H5.out.len]
      clear b7 f7
      subst hnn
      go_wp2_with fail
      obtain ⟨ys, hy, he⟩ := F6'.out
      obtain ⟨zs, hzs, hez⟩ := F7.out
      refine (packs_same P1 P2 n' p1 p2 ys zs w7 hy.preads hzs.preads (he.trans hez.symm) (by omega)).mono ?_
      rintro e w8 ⟨rfl, b8⟩
      have B8 := Lib.hid (B7.out.trans (b8.mono (by omega)))
      go_wp2_with fail
      go_ret
      exact ⟨rfl, B8.out⟩
end Go.Proofs.Ythajlhifgafpkaa
