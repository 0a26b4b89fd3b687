/-
  Vectors: VectorNames.
-/
import Derived.Test.YtippojkdgecblaaDoorVecNa
namespace Go.Proofs.YtippojkdgecblaaDoor
open Go.RowKit
theorem lit_r (w : World) (l : List (Int × Nat)) (C : Array Value) (T : TypeId) (hC : C.toList = cntsC l) (V : World) (h : Below (w.alloc (.cells C T)).heap.size (w.alloc (.cells C T)) V) : CReads V V.heap.size (some ⟨w.heap.size, 0, none⟩) l.length l := by
  have hz : (w.alloc (.cells C T)).heap.size = w.heap.size + 1 := by simp
  exact Reads.more (Reads.below (CReads.lit w l C T hC) (h.mono (by omega))) (by have := h.size; omega)
theorem dec1 {n : Nat} (h : n < 10) : dec n = [UInt8.ofNat (48 + n)] := by
  unfold dec
  rw [Lib.decDigits, dif_pos h]
theorem dec2 {n : Nat} (h : 10 ≤ n) (h2 : n < 100) : dec n = [UInt8.ofNat (48 + n / 10), UInt8.ofNat (48 + n % 10)] := by
  unfold dec
  rw [Lib.decDigits, dif_neg (by omega)]
  have := dec1 (n := n / 10) (by omega)
  unfold dec at this
  rw [this]
  rfl
theorem text_ex : textJ [(1, 2), (16, 10)] = [49, 58, 50, 32, 49, 54, 58, 49, 48] := by
  unfold textJ
  rw [List.map_cons, List.map_cons, List.map_nil, Lib.join_cons]
  unfold cntT
  rw [dec1 (by decide), dec1 (by decide), dec2 (by decide) (by decide), dec2 (by decide) (by decide)]
  rfl
set_option maxRecDepth 100000 in
set_option maxHeartbeats 4000000 in
theorem names_v (w : World) (ht : Lib.TabIs Tryd.prog w "internal/strconv.uint64pow10" .u64 Lib.pow10Tab) : Calls Tryd.prog 3 #[] w fun e w' => e = .returned (.bool true) ∧ Below w.heap.size w w' := by
  have HT := Lib.hid ht
  clear ht
  go_enter Tryd.func3, Tryd.ntmps3
  go_wp2_with fail
  refine (at_v 1 18446744073709551615 w).mono ?_
  rintro e w1 ⟨rfl, b1⟩
  have B1 := Lib.hid (b1.alloc b1.size (.cells #[.int .i64 1, .int .u64 18446744073709551615] 29))
  have R1 := Lib.hid (lit_r w1 [(1, 18446744073709551615)] #[.int .i64 1, .int .u64 18446744073709551615] 29 rfl _ (Below.refl _ _))
  clear b1
  go_wp2_with fail
  refine (bump_v _ _ 1 1 [(1, 18446744073709551615)] 1 _ R1.out (Nat.le_refl _) (by omega) (fit_small _ (by decide +kernel))).mono ?_
  rw [show bumpE [(1, 18446744073709551615)] 1 = 3 by decide +kernel]
  rintro e w2 ⟨A2, n2, c2, rfl, _, b2⟩
  have B2 := Lib.hid (B1.out.trans (b2.mono B1.out.size))
  clear b2 B1 R1
  go_wp2_with fail
  refine (bump_v w2.heap.size none 0 0 [] 17 w2 Reads.none_ (Nat.le_refl _) (by omega) (fit_small _ (by decide +kernel))).mono ?_
  rw [show bumpE [] 17 = 2 by decide +kernel]
  rintro e w3 ⟨A3, n3, c3, rfl, _, b3⟩
  have B3 := Lib.hid (B2.out.trans (b3.mono B2.out.size))
  clear b3 B2
  go_wp2_with fail
  refine (lives_v w3).mono ?_
  rintro e w4 ⟨rfl, b4⟩
  have B4 := Lib.hid (B3.out.trans (b4.mono B3.out.size))
  clear b4 B3
  go_wp2_with fail
  refine (at_v 1 2 w4).mono ?_
  rintro e w5 ⟨rfl, b5⟩
  have B5 := Lib.hid (B4.out.trans (b5.mono B4.out.size))
  have L5 := Lib.hid (lit_r w5 [(1, 2)] #[.int .i64 1, .int .u64 2] 29 rfl)
  clear b5 B4
  go_wp2_with fail
  refine (at_v 3 1 _).mono ?_
  rintro e w6 ⟨rfl, b6⟩
  have B6 := Lib.hid ((B5.out.alloc B5.out.size (.cells #[.int .i64 1, .int .u64 2] 29)).trans (b6.mono (B5.out.alloc B5.out.size (.cells #[.int .i64 1, .int .u64 2] 29)).size))
  have D6 := Lib.hid (b6.alloc b6.size (.cells #[.int .i64 3, .int .u64 1] 29))
  have L6 := Lib.hid (lit_r w6 [(3, 1)] #[.int .i64 3, .int .u64 1] 29 rfl _ (Below.refl _ _))
  clear b6 B5
  go_wp2_with fail
  refine (compare_v _ _ _ 1 1 1 1 [(1, 2)] [(3, 1)] _ (L5.out _ D6.out) L6.out (Nat.le_refl _) (by omega) (by omega) (fit_small _ (by decide +kernel)) (fit_small _ (by decide +kernel))).mono ?_
  rw [show cmpV [(1, 2)] [(3, 1)] = 4 by decide +kernel]
  rintro e w7 ⟨rfl, b7⟩
  have B7 := Lib.hid ((B6.out.alloc B6.out.size (.cells #[.int .i64 3, .int .u64 1] 29)).trans (b7.mono (B6.out.alloc B6.out.size (.cells #[.int .i64 3, .int .u64 1] 29)).size))
  clear b7 B6 L5 L6 D6
  go_wp2_with fail
  refine (at_v 1 2 w7).mono ?_
  rintro e w8 ⟨rfl, b8⟩
  have B8 := Lib.hid (B7.out.trans (b8.mono B7.out.size))
  have L8 := Lib.hid (lit_r w8 [(1, 2)] #[.int .i64 1, .int .u64 2] 29 rfl)
  clear b8 B7
  go_wp2_with fail
  refine (at_v 3 2 _).mono ?_
  rintro e w9 ⟨rfl, b9⟩
  have B9 := Lib.hid ((B8.out.alloc B8.out.size (.cells #[.int .i64 1, .int .u64 2] 29)).trans (b9.mono (B8.out.alloc B8.out.size (.cells #[.int .i64 1, .int .u64 2] 29)).size))
  have D9 := Lib.hid (b9.alloc b9.size (.cells #[.int .i64 3, .int .u64 2] 29))
  have L9 := Lib.hid (lit_r w9 [(3, 2)] #[.int .i64 3, .int .u64 2] 29 rfl _ (Below.refl _ _))
  clear b9 B8
  go_wp2_with fail
  refine (order_v _ _ _ 1 1 1 1 [(1, 2)] [(3, 2)] _ (L8.out _ D9.out) L9.out (Nat.le_refl _) (by omega) (by omega) (fit_small _ (by decide +kernel)) (fit_small _ (by decide +kernel))).mono ?_
  rw [show ordV [(1, 2)] [(3, 2)] = 1 by decide +kernel]
  rintro e w10 ⟨rfl, b10⟩
  have B10 := Lib.hid ((B9.out.alloc B9.out.size (.cells #[.int .i64 3, .int .u64 2] 29)).trans (b10.mono (B9.out.alloc B9.out.size (.cells #[.int .i64 3, .int .u64 2] 29)).size))
  clear b10 B9 L8 L9 D9
  go_wp2_with fail
  refine (at_v 1 2 w10).mono ?_
  rintro e w11 ⟨rfl, b11⟩
  have B11 := Lib.hid (B10.out.trans (b11.mono B10.out.size))
  clear b11 B10
  go_wp2_with fail
  refine (at_v 16 10 w11).mono ?_
  rintro e w12 ⟨rfl, b12⟩
  have B12 := Lib.hid ((B11.out.trans (b12.mono B11.out.size)).alloc (B11.out.trans (b12.mono B11.out.size)).size (.cells #[.int .i64 1, .int .u64 2, .int .i64 16, .int .u64 10] 29))
  have L12 := Lib.hid (lit_r w12 [(1, 2), (16, 10)] #[.int .i64 1, .int .u64 2, .int .i64 16, .int .u64 10] 29 rfl _ (Below.refl _ _))
  clear b12 B11
  go_wp2_with fail
  refine (text_v _ _ 2 2 [(1, 2), (16, 10)] _ L12.out (Nat.le_refl _) (by decide +kernel) (fit_small _ (by decide +kernel)) (by intro x hx; simp at hx; rcases hx with rfl | rfl <;> decide) (by omega) (tab_below HT.out B12.out)).mono ?_
  rw [text_ex]
  rintro e w13 ⟨rfl, b13⟩
  have B13 := Lib.hid (B12.out.trans (b13.mono B12.out.size))
  clear b13 B12 L12
  have q1 : ((st [49, 58, 50, 32, 49, 54, 58, 49, 48]).toList == [49, 58, 50, 32, 49, 54, 58, 49, 48]) = true := by rw [ByteArray.toList_eq]; rfl
  go_wp2_with fail
  refine (at_v 1 0 w13).mono ?_
  rintro e w14 ⟨rfl, b14⟩
  have B14 := Lib.hid ((B13.out.trans (b14.mono B13.out.size)).alloc (B13.out.trans (b14.mono B13.out.size)).size (.cells #[.int .i64 1, .int .u64 0] 29))
  have L14 := Lib.hid (lit_r w14 [(1, 0)] #[.int .i64 1, .int .u64 0] 29 rfl _ (Below.refl _ _))
  clear b14 B13
  go_wp2_with fail
  refine (check_v _ _ 1 1 [(1, 0)] _ L14.out (Nat.le_refl _) (by omega)).mono ?_
  rw [show (if okV 0 [(1, 0)] = true then (0 : Int) else 2) = 2 by decide +kernel]
  rintro e w15 ⟨rfl, b15⟩
  have B15 := Lib.hid (B14.out.trans (b15.mono B14.out.size))
  clear b15 B14 L14
  go_wp2_with fail
  go_ret
  exact ⟨rfl, B15.out⟩
end Go.Proofs.YtippojkdgecblaaDoor
