/-
  Blocks: BlockNames, walked.
-/
import Derived.Test.YtmaehbebpldpcaaBlkQ
namespace Go.Proofs.Ytmaehbebpldpcaa
open Go.RowKit Go.Shelf
theorem dg_ne {l m : List UInt8} (h : sha (l.map UInt8.toNat) ≠ sha (m.map UInt8.toNat)) : dgOf l ≠ dgOf m := fun e => h (congrArg Subtype.val e)
theorem ne12 : dgOf [97, 98] ≠ dgOf [99, 100] := dg_ne (by decide +kernel)
theorem ne13 : dgOf [97, 98] ≠ dgOf [101] := dg_ne (by decide +kernel)
theorem names_err (d1 d2 d3 : Dg) (a1 a2 a3 : Option Addr) (c1 c2 c3 : Nat) : errP [⟨⟨2, 5, a1, 3, c1⟩, [d1, d2, d3]⟩, ⟨⟨2, 2, a2, 1, c2⟩, [d2]⟩, ⟨⟨2, 0, a3, 0, c3⟩, []⟩] = 0 := by
  refine errP_zero fun x hx => ?_
  simp only [List.mem_cons, List.not_mem_nil, or_false] at hx
  rcases hx with rfl | rfl | rfl
  · show Proofs.Ytmaehbebpldpcaa.chk 2 5 3 = 0
    decide
  · show Proofs.Ytmaehbebpldpcaa.chk 2 2 1 = 0
    decide
  · show Proofs.Ytmaehbebpldpcaa.chk 2 0 0 = 0
    decide
theorem names_plan (d1 d2 d3 : Dg) (n1 : d1 ≠ d2) (a1 a2 a3 : Option Addr) (c1 c2 c3 : Nat) : planP ⟨⟨2, 5, a1, 3, c1⟩, [d1, d2, d3]⟩ [⟨⟨2, 2, a2, 1, c2⟩, [d2]⟩, ⟨⟨2, 0, a3, 0, c3⟩, []⟩] = [(-1, 0), (0, 0), (-1, 0)] := by
  unfold planP
  rw [if_pos (names_err d1 d2 d3 a1 a2 a3 c1 c2 c3)]
  simp [srcP, entsOf, gD, lenP, toP, lk, List.range_succ]
  refine ⟨by rw [if_neg (fun h => n1 h.1.symm)]; rfl, by rw [if_pos (by decide)]; rfl, by rw [if_neg (fun h => by have := h.2; revert this; decide)]; rfl⟩
theorem names_want (d1 d2 d3 : Dg) (n1 : d1 ≠ d3) : wantP [(-1, 0), (0, 0), (-1, 0)] [d1, d2, d3] = [d1, d3] := by
  simp [wantP, wantF, Ne.symm n1]
set_option maxRecDepth 100000 in
set_option maxHeartbeats 8000000 in
theorem names_v (w : World) : Calls Try.prog 5 #[] w fun e w' => e = .returned (.bool true) ∧ Below w.heap.size w w' := by
  have HI := Lib.hid (show (Try.prog.info? 24).map (·.size) = some 3 by kernel_rfl)
  have HIS := Lib.hid (show (Try.prog.info? 47).map (·.size) = some 2 by kernel_rfl)
  have hcc := conv_const w
  go_enter Try.func5, Try.ntmps5
  go_wp2_with fail
  have B1 := Lib.hid ((Below.refl w.heap.size w).alloc (Nat.le_refl _) (.cells #[.int .u8 97, .int .u8 98, .int .u8 99, .int .u8 100, .int .u8 101] 5 (5, 6)))
  refine (cut_is (L := [97, 98, 99, 100, 101]) (Reads.more (BReads.litsm w [97, 98, 99, 100, 101] _ _ rfl) (by simp)) (by decide) (by decide) 0 3 0 2 5 [dgOf [97, 98], dgOf [99, 100], dgOf [101]] rfl rfl rfl).mono ?_
  rintro e w2 ⟨A2, c2, rfl, d2, b2⟩
  have B2 := Lib.hid (B1.out.trans (b2.mono (by simp)))
  have hz2 := B2.out.size
  have BA := (Below.refl w2.heap.size w2).alloc (Nat.le_refl _) (.cells #[.int .i64 2, .int .i64 5, .slice A2 3 c2] 24)
  have X3 := Lib.hid (heap_alloc_new w2 (.cells #[.int .i64 2, .int .i64 5, .slice A2 3 c2] 24))
  have B3 := Lib.hid (B2.out.trans (BA.mono hz2))
  have D3 := Lib.hid (d2.below BA)
  have hz3 : (w2.alloc (.cells #[.int .i64 2, .int .i64 5, .slice A2 3 c2] 24)).heap.size = w2.heap.size + 1 := by simp
  clear b2 d2 BA hcc
  go_upto_region 2 with fail
  generalize w2.alloc (.cells #[.int .i64 2, .int .i64 5, .slice A2 3 c2] 24) = w3 at *
  generalize w2.heap.size = g1 at *
  have hcc := conv_const w3
  have HZ3 := Lib.hid hz3
  clear hz3
  go_wp2_with fail
  have hz3 := HZ3.out
  have B4 := (Below.refl w3.heap.size w3).alloc (Nat.le_refl _) (.cells #[.int .u8 99, .int .u8 100] 5 (2, 3))
  refine (cut_is (L := [99, 100]) (n := 2) (c := 2) (Reads.more (BReads.litsm w3 [99, 100] _ _ rfl) (by simp)) (by decide) (by decide) 0 1 0 2 2 [dgOf [99, 100]] rfl rfl rfl).mono ?_
  rintro e w5 ⟨A5, c5, rfl, d5, b5⟩
  have BC := B4.trans (b5.mono B4.size)
  have hz5 := BC.size
  have BA := (Below.refl w5.heap.size w5).alloc (Nat.le_refl _) (.cells #[.int .i64 2, .int .i64 2, .slice A5 1 c5] 24)
  have BD := BC.trans (BA.mono hz5)
  have X6 := Lib.hid ((BD.block g1 (by omega)).trans X3.out)
  have Y6 := Lib.hid (heap_alloc_new w5 (.cells #[.int .i64 2, .int .i64 2, .slice A5 1 c5] 24))
  have B6 := Lib.hid (B3.out.trans (BD.mono (by omega)))
  have D6 := Lib.hid (D3.out.below (BD.mono (by omega)))
  have E6 := Lib.hid (d5.below BA)
  have hz6 : (w5.alloc (.cells #[.int .i64 2, .int .i64 2, .slice A5 1 c5] 24)).heap.size = w5.heap.size + 1 := by simp
  clear B4 b5 d5 BC BA BD hcc X3 B3 D3
  go_wp2_with fail
  generalize w5.alloc (.cells #[.int .i64 2, .int .i64 2, .slice A5 1 c5] 24) = w6 at *
  generalize w5.heap.size = g3 at *
  refine (cut_is (A := none) (n := 0) (c := 0) (L := []) (z := 2) Reads.none_ (by decide) (by decide) 0 0 0 2 0 [] rfl rfl rfl).mono ?_
  rintro e w7 ⟨A7, c7, rfl, d7, b7⟩
  have hz7 := b7.size
  have BA := (Below.refl w7.heap.size w7).alloc (Nat.le_refl _) (.cells #[.int .i64 2, .int .i64 0, .slice A7 0 c7] 24)
  have BD := b7.trans (BA.mono hz7)
  have X8 := Lib.hid ((BD.block g1 (by omega)).trans X6.out)
  have Y8 := Lib.hid ((BD.block g3 (by omega)).trans Y6.out)
  have Z8 := Lib.hid (heap_alloc_new w7 (.cells #[.int .i64 2, .int .i64 0, .slice A7 0 c7] 24))
  have B8 := Lib.hid (B6.out.trans (BD.mono (by omega)))
  have D8 := Lib.hid (D6.out.below (BD.mono (by omega)))
  have E8 := Lib.hid (E6.out.below (BD.mono (by omega)))
  have F8 := Lib.hid (d7.below BA)
  have hz8 : (w7.alloc (.cells #[.int .i64 2, .int .i64 0, .slice A7 0 c7] 24)).heap.size = w7.heap.size + 1 := by simp
  clear b7 d7 BA BD X6 Y6 B6 D6 E6
  have HZ8 := Lib.hid hz8
  clear hz8
  go_wp2_with (first
    | (refine wpList_load_row rfl 24 (.tmp 1) rfl g1 rfl 24 _ (0, 0) _ X8.out Try.underlying24 rfl HI.out ?_)
    | (refine wpList_load_row rfl 24 (.tmp 3) rfl g3 rfl 24 _ (0, 0) _ Y8.out Try.underlying24 rfl HI.out ?_)
    | (refine wpList_load_row rfl 24 (.tmp 5) rfl w7.heap.size rfl 24 _ (0, 0) _ Z8.out Try.underlying24 rfl HI.out ?_)
    | fail)
  have hz8 := HZ8.out
  clear HZ8
  generalize w7.alloc (.cells #[.int .i64 2, .int .i64 0, .slice A7 0 c7] 24) = w8 at *
  have BR := (Below.refl w8.heap.size w8).alloc (Nat.le_refl _) (.cells #[.int .i64 2, .int .i64 2, .slice A5 1 c5, .int .i64 2, .int .i64 0, .slice A7 0 c7] 24)
  have RR : Reads (w8.alloc (.cells #[.int .i64 2, .int .i64 2, .slice A5 1 c5, .int .i64 2, .int .i64 0, .slice A7 0 c7] 24)) (w8.alloc (.cells #[.int .i64 2, .int .i64 2, .slice A5 1 c5, .int .i64 2, .int .i64 0, .slice A7 0 c7] 24)).heap.size 3 (some ⟨w8.heap.size, 0, none⟩) 2 ([⟨⟨2, 2, A5, 1, c5⟩, [dgOf [99, 100]]⟩, ⟨⟨2, 0, A7, 0, c7⟩, []⟩].flatMap LX.cells) :=
    ⟨rfl, fun _ => ⟨_, rfl, by simp, fun j u hu => by rw [add_head, cell_new]; simpa [LX.cells, LV.cells] using hu⟩⟩
  have hz9 : (w8.alloc (.cells #[.int .i64 2, .int .i64 2, .slice A5 1 c5, .int .i64 2, .int .i64 0, .slice A7 0 c7] 24)).heap.size = w8.heap.size + 1 := by simp
  have D9 := Lib.hid (D8.out.below (BR.mono (by omega)))
  have E9 := Lib.hid (E8.out.below (BR.mono (by omega)))
  have F9 := Lib.hid (F8.out.below (BR.mono (by omega)))
  have X9 := Lib.hid ((BR.block g1 (by omega)).trans X8.out)
  have B9 := Lib.hid (B8.out.trans (BR.mono B8.out.size))
  generalize w8.alloc (.cells #[.int .i64 2, .int .i64 2, .slice A5 1 c5, .int .i64 2, .int .i64 0, .slice A7 0 c7] 24) = w9 at *
  generalize w8.heap.size = g8 at *
  subst hz8
  have N12 := Lib.hid ne12
  have N13 := Lib.hid ne13
  have W1 := Lib.hid (dgOf_w [97, 98])
  have W2 := Lib.hid (dgOf_w [99, 100])
  have W3 := Lib.hid (dgOf_w [101])
  generalize dgOf [97, 98] = d1 at *
  generalize dgOf [99, 100] = d2 at *
  generalize dgOf [101] = d3 at *
  have H1 : DReads w9 w9.heap.size A2 3 [d1, d2, d3] := Reads.more D9.out (by omega)
  have H2 : ∀ d ∈ [d1, d2, d3], DgW d := by
    intro d hd
    simp only [List.mem_cons, List.not_mem_nil, or_false] at hd
    rcases hd with rfl | rfl | rfl
    · exact W1.out
    · exact W2.out
    · exact W3.out
  have H3 : ∀ x ∈ ([⟨⟨2, 2, A5, 1, c5⟩, [d2]⟩, ⟨⟨2, 0, A7, 0, c7⟩, []⟩] : List LX), DReads w9 w9.heap.size x.v.a x.v.n x.ds ∧ x.v.n ≤ 1100 ∧ ∀ d ∈ x.ds, DgW d := by
    have e1 : DReads w9 w9.heap.size A5 1 [d2] := Reads.more E9.out (by omega)
    have e2 : DReads w9 w9.heap.size A7 0 [] := Reads.more F9.out (by omega)
    intro x hx
    simp only [List.mem_cons, List.not_mem_nil, or_false] at hx
    rcases hx with rfl | rfl
    · exact ⟨e1, Nat.le_of_ble_eq_true rfl, fun d hd => by obtain rfl := List.mem_singleton.1 hd; exact W2.out⟩
    · exact ⟨e2, Nat.zero_le _, fun d hd => by cases hd⟩
  have PV := plan_v 2 5 A2 3 c2 [d1, d2, d3] [⟨⟨2, 2, A5, 1, c5⟩, [d2]⟩, ⟨⟨2, 0, A7, 0, c7⟩, []⟩] (some ⟨w7.heap.size + 1, 0, none⟩) 2 2 w9 H1 H2 (by decide) RR (by decide) (by decide) H3
  refine PV.mono ?_
  rw [names_err, names_plan d1 d2 d3 N12.out]
  rintro e w10 ⟨A10, n10, c10, rfl, o10, b10⟩
  have hn10 : n10 = 3 := by have h := o10.1; simp [srcC] at h; omega
  subst hn10
  have O10 := Lib.hid (show Reads w10 w10.heap.size 2 A10 3 [.int .i64 (-1), .int .i64 0, .int .i64 0, .int .i64 0, .int .i64 (-1), .int .i64 0] from Reads.of_own o10)
  have X10 := Lib.hid ((b10.block g1 (by omega)).trans X9.out)
  have D10 := Lib.hid (D9.out.below (b10.mono (by omega)))
  have B10 := Lib.hid (B9.out.trans (b10.mono B9.out.size))
  have hz10 := b10.size
  clear b10 o10 RR BR E9 F9 X9 B9 D9 E8 F8 X8 Y8 Z8 B8 D8
  have hcc := conv_const w10
  go_wp2_with fail
  have B11 := (Below.refl w10.heap.size w10).alloc (Nat.le_refl _) (.cells #[.int .u8 97] 5 (1, 2))
  refine (cut_is (L := [97]) (Reads.more (BReads.litsm w10 [97] _ _ rfl) (by simp)) (by decide) (by decide) 2 0 2 0 0 [] rfl rfl rfl).mono ?_
  rintro e w12 ⟨A12, c12, rfl, d12, b12⟩
  have BC := B11.trans (b12.mono B11.size)
  have hz12 := BC.size
  have BD := BC.trans (((Below.refl w12.heap.size w12).alloc (Nat.le_refl _) (.cells #[.int .i64 0, .int .i64 0, .slice A12 0 c12] 24)).mono hz12)
  have O13 := Lib.hid (Reads.below O10.out BD)
  have X13 := Lib.hid ((BD.block g1 (by omega)).trans X10.out)
  have D13 := Lib.hid (D10.out.below (BD.mono (by omega)))
  have B13 := Lib.hid (B10.out.trans (BD.mono (by have := B10.out.size; omega)))
  have hz13 := BD.size
  clear B11 b12 d12 BC BD O10 X10 D10 B10 hcc
  go_upto_region 6 with fail
  generalize w12.alloc (.cells #[.int .i64 0, .int .i64 0, .slice A12 0 c12] 24) = w13 at *
  go_wp2_with fail
  refine (lives_v w13).mono ?_
  rintro e w14 ⟨rfl, b14⟩
  have O14 := Lib.hid (Reads.below O13.out (b14.mono hz13))
  have X14 := Lib.hid ((b14.block g1 (by omega)).trans X13.out)
  have D14 := Lib.hid (D13.out.below (b14.mono (by omega)))
  have B14 := Lib.hid (B13.out.trans (b14.mono B13.out.size))
  have hz14 := b14.size
  clear b14 O13 X13 D13 B13
  obtain ⟨pd, rfl, hpb, hpc⟩ := O14.out.2 (by decide)
  have HC0 := Lib.hid (show ∀ j v, ([.int .i64 (-1), .int .i64 0] : List Value)[j]? = some v → w14.cell? (pd.add j) = some v from fun j v hv => hpc j v (by
    rcases j with _ | _ | j <;> simp at hv ⊢ <;> exact hv))
  have HC1 := Lib.hid (show ∀ j v, ([.int .i64 0, .int .i64 0] : List Value)[j]? = some v → w14.cell? ((pd.add 2).add j) = some v from fun j v hv => by
    rw [add_of_add]
    exact hpc (2 + j) v (by rcases j with _ | _ | j <;> simp at hv ⊢ <;> exact hv))
  have c4 : w14.cell? ⟨pd.block, pd.off + 4, none⟩ = some (.int .i64 (-1)) := hpc 4 (.int .i64 (-1)) rfl
  go_wp2_with (first
    | (refine wpList_load_slot rfl 47 (.tmp 53) rfl pd rfl [.int .i64 (-1), .int .i64 0] _ HC0.out Try.underlying47 rfl HIS.out ?_)
    | (refine wpList_load_slot rfl 47 (.tmp 60) rfl (pd.add 2) rfl [.int .i64 0, .int .i64 0] _ HC1.out Try.underlying47 rfl HIS.out ?_)
    | (refine wpList_load_slot rfl 24 (.tmp 1) rfl ⟨g1, 0, none⟩ rfl [.int .i64 2, .int .i64 5, .slice A2 3 c2] _ (row_cells X14.out) Try.underlying24 rfl HI.out ?_)
    | fail)
  have HPS : Reads w14 w14.heap.size 2 (some pd) 3 (([(-1, 0), (0, 0), (-1, 0)] : List (Int × Int)).flatMap srcC) := Reads.more O14.out (by omega)
  have HDS : DReads w14 w14.heap.size A2 3 [d1, d2, d3] := Reads.more D14.out (by omega)
  have WV := wanted_v 2 5 A2 3 c2 [d1, d2, d3] [(-1, 0), (0, 0), (-1, 0)] (some pd) 3 c10 w14.heap.size w14 HPS HDS (Nat.le_refl _) (by decide) (by decide)
  rw [names_want d1 d2 d3 N13.out] at WV
  clear HPS HDS PV H1 H2 H3
  refine WV.mono ?_
  rintro e w15 ⟨A15, c15, rfl, _, b15⟩
  have B15 := Lib.hid (B14.out.trans (b15.mono B14.out.size))
  clear b15 WV c4 hpc
  go_wp2_with fail
  refine (check_v 0 0 none 0 0 w15 (by decide)).mono ?_
  rw [show Proofs.Ytmaehbebpldpcaa.chk 0 0 0 = 2 by decide]
  rintro e w16 ⟨rfl, b16⟩
  have B16 := Lib.hid (B15.out.trans (b16.mono B15.out.size))
  clear b16
  go_wp2_with fail
  refine (check_v 1 0 none 0 0 w16 (by decide)).mono ?_
  rw [show Proofs.Ytmaehbebpldpcaa.chk 1 0 0 = 0 by decide]
  rintro e w17 ⟨rfl, b17⟩
  have B17 := Lib.hid (B16.out.trans (b17.mono B16.out.size))
  clear b17
  go_wp2_with fail
  go_ret
  exact ⟨rfl, B17.out⟩
end Go.Proofs.Ytmaehbebpldpcaa
