/-
  The walk of WireCalls.
-/
import Derived.Test.YtclgnfgafcbhhaaLives
import Derived.Test.YtclgnfgafcbhhaaText
namespace Go.Proofs.Ytclgnfgafcbhhaa
open Go.RowKit
theorem BReads.step {w w' : World} {A : Option Addr} {n : Nat} {l : List UInt8} (h : BReads w w.heap.size A n l) (hb : Below w.heap.size w w') : BReads w' w'.heap.size A n l :=
  Reads.more (Reads.below h hb) hb.size
theorem btwo {w w1 w2 : World} (h : Below w.heap.size w w1) (k : Below w1.heap.size w1 w2) : Below w.heap.size w w2 := h.trans (k.mono h.size)
set_option maxHeartbeats 2000000 in
set_option maxRecDepth 100000 in
/-- Where the bytes are few: the whole comparison. -/
theorem calls_in (A : Option Addr) (n c : Nat) (l : List UInt8) (x s t : Nat) (p : ByteArray) (q : Int) (w : World) (hr : BReads w w.heap.size A n l) (hnc : n ≤ c) (hn : n ≤ 5000) (hp : p.size ≤ 5000)
    (hx : x < 18446744073709551616) (v1 v2 : Int)
    (hj : ∀ W, Calls Try.prog 12 #[.int .u32 (s : Int), .int .u32 (t : Int), .int .i64 q] W fun e w' => e = .returned (.tuple #[.int .u32 v1, .int .i64 v2]) ∧ W = w')
    (hk : ∀ W, Calls Try.prog 13 #[.int .u32 (s : Int), .int .u32 (t : Int), .int .i64 q] W fun e w' => e = .returned (.tuple #[.int .u32 v1, .int .i64 v2]) ∧ W = w') :
    Calls Try.prog 3 #[.slice A n c, .int .u64 (x : Int), .string p, .int .u32 (s : Int), .int .u32 (t : Int), .int .i64 q] w fun e w' => e = .returned (.bool true) ∧ Below w.heap.size w w' := by
  obtain ⟨ua, ub, uc, hu⟩ : ∃ (a : Array UInt8) (b c : Int), unfR l = .tuple #[.string ⟨a⟩, .int .i64 b, .int .i64 c] := ⟨_, _, _, rfl⟩
  have HU := Lib.hid hu
  clear hu
  have HJ := Lib.hid hj
  have HK := Lib.hid hk
  clear hj hk
  have hnl := num_len x
  have hnp := num_len p.size
  have g1 : decide ((5000 : Int) < (n : Int)) = false := by simp; omega
  have g2 : decide ((5000 : Int) < (p.size : Int)) = false := by simp; omega
  go_enter Try.func3, Try.ntmps3
  go_wp2_with fail
  refine (lives_any w).mono ?_
  rintro e w1 ⟨rfl, hb1⟩
  have r1 := BReads.step hr hb1
  go_wp2_with fail
  refine (own_any w1.heap.size A n c l w1 r1 (Nat.le_refl _) (by omega)).mono ?_
  rintro e w2 ⟨A2, c2, rfl, ho2, hb2⟩
  go_wp2_with fail
  refine (piece_yes w2.heap.size A2 n c2 l p w2 ho2.reads (Nat.le_refl _) (by omega) (by omega)).mono ?_
  rintro e w3 ⟨A3, c3, rfl, ho3, hb3⟩
  have s3 := btwo hb2 hb3
  have r3 := BReads.step r1 s3
  have i3 := ho3.reads
  clear ho2 ho3 hb2 hb3 r1
  go_wp2_with fail
  refine (own_any w3.heap.size A n c l w3 r3 (Nat.le_refl _) (by omega)).mono ?_
  rintro e w4 ⟨A4, c4, rfl, ho4, hb4⟩
  go_wp2_with fail
  refine (rpiece_yes w3.heap.size A4 n c4 l p w4 ho4 hb4.size (by omega) (by omega)).mono ?_
  rintro e w5 ⟨A5, c5, rfl, ho5, hb5⟩
  have s5 : Below w3.heap.size w3 w5 := hb4.trans hb5
  have r5 := BReads.step r3 s5
  have i35 := BReads.step i3 s5
  have i5 := ho5.reads
  clear ho4 ho5 hb4 hb5 r3 i3
  go_wp2_with fail
  refine (HJ.out w5).mono ?_
  rintro e _ ⟨rfl, rfl⟩
  go_wp2_with fail
  refine (HK.out w5).mono ?_
  rintro e _ ⟨rfl, rfl⟩
  go_wp2_with fail
  refine (frame_yes p w5 (by omega)).mono ?_
  rintro e w6 ⟨A6, c6, rfl, ho6, s6⟩
  have r6 := BReads.step r5 s6
  have i36 := BReads.step i35 s6
  have i56 := BReads.step i5 s6
  have i6 := ho6.reads
  clear ho6 r5 i35 i5
  go_wp2_with fail
  refine (rframe_yes p w6 (by omega)).mono ?_
  rintro e w7 ⟨A7, c7, rfl, ho7, s7⟩
  have r7 := BReads.step r6 s7
  have i37 := BReads.step i36 s7
  have i57 := BReads.step i56 s7
  have i67 := BReads.step i6 s7
  have i7 := ho7.reads
  clear ho7 r6 i36 i56 i6
  go_wp2_with fail
  refine (unframe_any w7.heap.size A n c l w7 r7 (by omega) hnc).mono ?_
  rw [HU.out]
  rintro e w8 ⟨rfl, s8⟩
  have r8 := BReads.step r7 s8
  have i38 := BReads.step i37 s8
  have i58 := BReads.step i57 s8
  have i68 := BReads.step i67 s8
  have i78 := BReads.step i7 s8
  clear r7 i37 i57 i67 i7
  go_wp2_with fail
  refine (runframe_any w8.heap.size A n c l w8 r8 (by omega) hnc).mono ?_
  rw [HU.out]
  rintro e w9 ⟨rfl, s9⟩
  have r9 := BReads.step r8 s9
  have i39 := BReads.step i38 s9
  have i59 := BReads.step i58 s9
  have i69 := BReads.step i68 s9
  have i79 := BReads.step i78 s9
  clear r8 i38 i58 i68 i78
  have HB : Below w.heap.size w w9 := btwo hb1 (btwo s3 (btwo s5 (btwo s6 (btwo s7 (btwo s8 s9)))))
  have R9 : Hid (BReads w9.drew w9.drew.heap.size A n l) := r9
  have I3 := Lib.hid i39
  have I5 := Lib.hid i59
  have I6 := Lib.hid i69
  have I7 := Lib.hid i79
  clear hb1 s3 s5 s6 s7 s8 s9 i39 i59 i69 i79 r9
  go_wp2_with fail
  dsimp only [List.append]
  refine wp_region_text [(0, false), (2, false), (5, false), (7, false), (1, true), (3, true), (4, false), (6, true), (8, true), (9, false), (10, false), (11, false), (12, false), (13, false), (14, false), (15, false), (16, false), (17, false), (18, false), (19, false), (20, false), (21, false), (22, false), (23, false), (24, false), (25, false), (26, false), (27, false), (28, false), (29, false), (30, false), (31, false), (32, false), (33, false), (34, false), (35, false), (36, false), (37, false), (38, false), (39, false), (40, false), (41, false), (42, false), (43, false), (44, false), (45, false), (46, false), (47, false), (48, false), (49, false), (50, false), (51, false), (52, false), (53, false), (54, false), (55, false), (56, false), (57, false), (58, false), (59, false), (60, false), (61, false), (63, false), (62, true), (64, true), (65, false), (66, false), (67, false)] (fun W => Below w9.heap.size w9 W) (by kernel_rfl) (by kernel_rfl) (by kernel_rfl) (by kernel_rfl) (by kernel_rfl) (fun d => ?_)
  simp only [outOf, List.getElem?_cons_zero, List.getElem?_cons_succ, Option.getD_some]
  have hS := (Below.refl w9.heap.size w9).drew
  iterate 4 ((first | (refine TW.skip (by rfl) (fun _ _ _ h => h) (by assumption) ?_) | (refine TW.val (v := ?_) (fun _ _ _ h => h) (Or.inl ⟨by rfl, ?_⟩) (by assumption) ?_; rotate_left; (focus (intro W hSW; (try dsimp only at hSW); go_simp; (try with_reducible rfl))))); simp only [Act.put, List.setIfInBounds_toArray, List.set_cons_zero, List.set_cons_succ])
  refine TW.eff (by rfl) (fun K hK => ?_); go_simp
  refine (own_any w9.drew.heap.size A n c l w9.drew R9.out (Nat.le_refl _) (by omega)).mono ?_
  rintro e w10 ⟨A10, c10, rfl, ho10, hb10⟩
  go_wp2_with fail; refine hK.out _ _ (hS.trans hb10) ?_; clear hK; (try simp only [Act.put, List.setIfInBounds_toArray, List.set_cons_zero, List.set_cons_succ])
  refine TW.eff (by rfl) (fun K hK => ?_); go_simp
  refine (number_any w10.heap.size A10 n c10 l x w10 ho10.reads (Nat.le_refl _) (by omega) hx).mono ?_
  rintro e w11 ⟨A11, c11, rfl, ho11, hb11⟩
  have s11 : Below w9.heap.size w9 w11 := btwo (hS.trans hb10) hb11
  have R11 := Lib.hid (BReads.step (show BReads w9 w9.heap.size A n l from R9.out) s11)
  have q11 : ∀ W, Below w11.heap.size w11 W → (convert 22 9 (.slice A11 (n + (num x).length) c11)).run Try.prog W = .ok (.string ⟨(l ++ num x).toArray⟩) W := fun W h => run_str (Reads.below ho11.reads h)
  clear ho10 ho11 hb10 hb11
  go_wp2_with fail; refine hK.out _ _ s11 ?_; clear hK; (try simp only [Act.put, List.setIfInBounds_toArray, List.set_cons_zero, List.set_cons_succ])
  have hT := Below.refl w11.heap.size w11
  refine TW.now (fun W => Below w11.heap.size w11 W) (fun W h => btwo s11 h) ?_
  iterate 1 ((first | (refine TW.skip (by rfl) (fun _ _ _ h => h) (by assumption) ?_) | (refine TW.val (v := ?_) (fun _ _ _ h => h) (Or.inl ⟨by rfl, ?_⟩) (by assumption) ?_; rotate_left; (focus (intro W hSW; (try dsimp only at hSW); go_simp; (try with_reducible rfl))))); simp only [Act.put, List.setIfInBounds_toArray, List.set_cons_zero, List.set_cons_succ])
  refine TW.eff (by rfl) (fun K hK => ?_); go_simp
  refine (own_any w11.heap.size A n c l w11 R11.out (Nat.le_refl _) (by omega)).mono ?_
  rintro e w12 ⟨A12, c12, rfl, ho12, hb12⟩
  go_wp2_with fail; refine hK.out _ _ hb12 ?_; clear hK; (try simp only [Act.put, List.setIfInBounds_toArray, List.set_cons_zero, List.set_cons_succ])
  refine TW.eff (by rfl) (fun K hK => ?_); go_simp
  refine (rnumber_any w11.heap.size A12 n c12 l x w12 ho12 hb12.size (by omega) hx).mono ?_
  rintro e w13 ⟨A13, c13, rfl, ho13, hg13⟩
  have hb13 : Below w11.heap.size w11 w13 := below_app hb12 hg13 ho12 (Nat.le_refl _) hb12.size
  have s13 : Below w9.heap.size w9 w13 := btwo s11 hb13
  have R13 := Lib.hid (BReads.step R11.out hb13)
  have q13 : ∀ W, Below w13.heap.size w13 W → (convert 22 9 (.slice A13 (n + (num x).length) c13)).run Try.prog W = .ok (.string ⟨(l ++ num x).toArray⟩) W := fun W h => run_str (Reads.below ho13.reads h)
  have q3 : ∀ W, Below w13.heap.size w13 W → (convert 22 9 (.slice A3 (n + (num p.size).length + p.size) c3)).run Try.prog W = .ok (.string ⟨(l ++ num p.size ++ p.data.toList).toArray⟩) W := fun W h => run_str (Reads.below I3.out (btwo s13 h))
  have q5 : ∀ W, Below w13.heap.size w13 W → (convert 22 9 (.slice A5 (n + (num p.size).length + p.size) c5)).run Try.prog W = .ok (.string ⟨(l ++ num p.size ++ p.data.toList).toArray⟩) W := fun W h => run_str (Reads.below I5.out (btwo s13 h))
  have q6 : ∀ W, Below w13.heap.size w13 W → (convert 22 9 (.slice A6 (p.size + 8) c6)).run Try.prog W = .ok (.string ⟨(frame p.data.toList).toArray⟩) W := fun W h => run_str (Reads.below I6.out (btwo s13 h))
  have q7 : ∀ W, Below w13.heap.size w13 W → (convert 22 9 (.slice A7 (p.size + 8) c7)).run Try.prog W = .ok (.string ⟨(frame p.data.toList).toArray⟩) W := fun W h => run_str (Reads.below I7.out (btwo s13 h))
  clear hb12 hg13 ho12 ho13 q11
  go_wp2_with fail; refine hK.out _ _ hb13 ?_; clear hK; (try simp only [Act.put, List.setIfInBounds_toArray, List.set_cons_zero, List.set_cons_succ])
  have hU := Below.refl w13.heap.size w13
  refine TW.now (fun W => Below w13.heap.size w13 W) (fun W h => btwo hb13 h) ?_
  iterate 54 ((first | (refine TW.skip (by rfl) (fun _ _ _ h => h) (by assumption) ?_) | (refine TW.val (v := ?_) (fun _ _ _ h => h) (Or.inl ⟨by rfl, ?_⟩) (by assumption) ?_; rotate_left; (focus (intro W hSW; (try dsimp only at hSW); go_simp; (try with_reducible rfl))))); simp only [Act.put, List.setIfInBounds_toArray, List.set_cons_zero, List.set_cons_succ])
  refine TW.eff (by rfl) (fun K hK => ?_); go_simp
  refine (sum_any w13.heap.size A n c l w13 R13.out (by omega)).mono ?_
  rintro e _ ⟨rfl, rfl⟩
  go_wp2_with fail; refine hK.out _ _ hU ?_; clear hK; (try simp only [Act.put, List.setIfInBounds_toArray, List.set_cons_zero, List.set_cons_succ])
  refine TW.eff (by rfl) (fun K hK => ?_); go_simp
  refine (rsum_any w13.heap.size A n c l w13 R13.out (by omega)).mono ?_
  rintro e _ ⟨rfl, rfl⟩
  go_wp2_with fail; refine hK.out _ _ hU ?_; clear hK; (try simp only [Act.put, List.setIfInBounds_toArray, List.set_cons_zero, List.set_cons_succ])
  iterate 3 ((first | (refine TW.skip (by rfl) (fun _ _ _ h => h) (by assumption) ?_) | (refine TW.val (v := ?_) (fun _ _ _ h => h) (Or.inl ⟨by rfl, ?_⟩) (by assumption) ?_; rotate_left; (focus (intro W hSW; (try dsimp only at hSW); go_simp; (try with_reducible rfl))))); simp only [Act.put, List.setIfInBounds_toArray, List.set_cons_zero, List.set_cons_succ])
  refine TW.done ?_
  go_wp2
  go_ret
  exact ⟨rfl, btwo HB s13⟩
end Go.Proofs.Ytclgnfgafcbhhaa
