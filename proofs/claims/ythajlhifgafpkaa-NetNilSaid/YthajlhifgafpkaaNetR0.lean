/-
  Nets: calls of a nil net.
-/
import Derived.Test.YthajlhifgafpkaaNetJ
namespace Go.Proofs.Ythajlhifgafpkaa
open Go.RowKit Go.Shelf
theorem rnil_v (w : World) : Calls Try.prog 35 #[.pointer none] w fun e w' => e = .returned (.bool false) ∧ w = w' := by
  go_enter Try.func35, Try.ntmps35
  go_wp2
  go_ret
  exact ⟨rfl, rfl⟩
theorem upnil_v (a b : Int) (w : World) : Calls Try.prog 11 #[.pointer none, .int .i64 a, .int .i64 b] w fun e w' => e = .returned (.int .i64 1) ∧ w = w' := by
  go_enter Try.func11, Try.ntmps11
  go_wp2_with fail
  refine (rnil_v w).mono ?_
  rintro e _ ⟨rfl, rfl⟩
  go_wp2
  go_ret
  exact ⟨rfl, rfl⟩
theorem downnil_v (a b : Int) (w : World) : Calls Try.prog 23 #[.pointer none, .int .i64 a, .int .i64 b] w fun e w' => e = .returned (.int .i64 1) ∧ Below w.heap.size w w' := by
  go_enter Try.func23, Try.ntmps23
  go_wp2_with fail
  refine (rnil_v _).mono ?_
  rintro e _ ⟨rfl, rfl⟩
  go_wp2
  go_ret
  exact ⟨rfl, by first | exact Below.refl _ _ | exact (Below.refl _ _).alloc (Nat.le_refl _) _ | exact ((Below.refl _ _).alloc (Nat.le_refl _) _).alloc (by simp) _⟩
theorem sendnil_v (a b : Int) (x : Value) (w : World) : Calls Try.prog 12 #[.pointer none, .int .i64 a, .int .i64 b, x] w fun e w' => e = .returned (.tuple #[.int .u64 0, .int .i64 1]) ∧ w = w' := by
  go_enter Try.func12, Try.ntmps12
  go_wp2_with fail
  refine (rnil_v w).mono ?_
  rintro e _ ⟨rfl, rfl⟩
  go_wp2
  go_ret2
  exact ⟨rfl, rfl⟩
theorem twicenil_v (n : Int) (w : World) : Calls Try.prog 14 #[.pointer none, .int .u64 n] w fun e w' => e = .returned (.tuple #[.int .u64 0, .int .i64 1]) ∧ w = w' := by
  go_enter Try.func14, Try.ntmps14
  go_wp2_with fail
  refine (rnil_v w).mono ?_
  rintro e _ ⟨rfl, rfl⟩
  go_wp2
  go_ret2
  exact ⟨rfl, rfl⟩
set_option maxHeartbeats 1000000 in
theorem takenil_v (n : Int) (w : World) : Calls Try.prog 15 #[.pointer none, .int .u64 n] w fun e w' => e = .returned (.tuple #[.agg #[.int .u64 0, .int .i64 0, .int .i64 0, .int .u64 0, .slice none 0 0], .int .i64 1]) ∧ Below w.heap.size w w' := by
  have HI := Lib.hid (show (Try.prog.info? 34).map (·.size) = some 5 by kernel_rfl)
  have R0 := Lib.hid (heap_alloc_new w (.cells #[.int .u64 0, .int .i64 0, .int .i64 0, .int .u64 0, .slice none 0 0] 34))
  have B0 := Lib.hid ((Below.refl w.heap.size w).alloc (Nat.le_refl _) (.cells #[.int .u64 0, .int .i64 0, .int .i64 0, .int .u64 0, .slice none 0 0] 34))
  go_enter Try.func15, Try.ntmps15
  go_wp2_with fail
  generalize w.alloc (.cells #[.int .u64 0, .int .i64 0, .int .i64 0, .int .u64 0, .slice none 0 0] 34) = w0 at *
  refine (rnil_v w0).mono ?_
  rintro e _ ⟨rfl, rfl⟩
  go_wp2_with (first
    | (refine wpList_store_row rfl 34 (.tmp 4) (.tmp 11) rfl w.heap.size #[.int .u64 0, .int .i64 0, .int .i64 0, .int .u64 0, .slice none 0 0] rfl rfl 34 _ R0.out HI.out rfl (by simp [Value.oneCell']) ?_)
    | fail)
  have RW := Lib.hid (setRow_heap _ w.heap.size _ #[.int .u64 0, .int .i64 0, .int .i64 0, .int .u64 0, .slice none 0 0] _ _ R0.out)
  have HB := Lib.hid (below_setRow B0.out (Nat.le_refl _) #[.int .u64 0, .int .i64 0, .int .i64 0, .int .u64 0, .slice none 0 0])
  exact bodyPost_ret (results_row_tmp Try.results15 _ _ w.heap.size _ #[.int .u64 0, .int .i64 0, .int .i64 0, .int .u64 0, .slice none 0 0] _ _ rfl RW.out Try.underlying34 rfl HI.out) rfl ⟨rfl, HB.out⟩
theorem dropnil_v (n : Int) (w : World) : Calls Try.prog 43 #[.pointer none, .int .u64 n] w fun e w' => e = .returned (.int .i64 1) ∧ Below w.heap.size w w' := by
  have HT := Lib.hid (takenil_v n w)
  go_enter Try.func43, Try.ntmps43
  go_wp2_with fail
  refine HT.out.mono ?_
  rintro e w1 ⟨rfl, hb⟩
  go_wp2
  go_ret
  exact ⟨rfl, hb.alloc hb.size _⟩
theorem flightnil_v (w : World) : Calls Try.prog 17 #[.pointer none] w fun e w' => e = .returned (.slice none 0 0) ∧ w = w' := by
  go_enter Try.func17, Try.ntmps17
  go_wp2_with fail
  refine (rnil_v w).mono ?_
  rintro e _ ⟨rfl, rfl⟩
  go_wp2
  go_ret
  exact ⟨rfl, rfl⟩
theorem oldestnil_v (a b : Int) (w : World) : Calls Try.prog 26 #[.pointer none, .int .i64 a, .int .i64 b] w fun e w' => e = .returned (.int .u64 0) ∧ w = w' := by
  go_enter Try.func26, Try.ntmps26
  go_wp2_with fail
  refine (rnil_v w).mono ?_
  rintro e _ ⟨rfl, rfl⟩
  go_wp2
  go_ret
  exact ⟨rfl, rfl⟩
theorem lastnil_v (w : World) : Calls Try.prog 22 #[.pointer none] w fun e w' => e = .returned (.int .u64 0) ∧ w = w' := by
  go_enter Try.func22, Try.ntmps22
  go_wp2_with fail
  refine (rnil_v w).mono ?_
  rintro e _ ⟨rfl, rfl⟩
  go_wp2
  go_ret
  exact ⟨rfl, rfl⟩
theorem isnil_v (a b : Int) (w : World) : Calls Try.prog 19 #[.pointer none, .int .i64 a, .int .i64 b] w fun e w' => e = .returned (.tuple #[.bool false, .int .u64 0]) ∧ Below w.heap.size w w' := by
  have KV := Lib.hid (key_v a b w)
  go_enter Try.func19, Try.ntmps19
  go_wp2_with fail
  refine KV.out.mono ?_
  rintro e w1 ⟨rfl, hb1⟩
  have B1 := Lib.hid (hb1.alloc hb1.size (.cells #[.int .i64 (keyI a b).1, .int .i64 (keyI a b).2] 67))
  clear hb1 KV
  unfold ekL
  go_wp2_with fail
  refine (rnil_v _).mono ?_
  rintro e _ ⟨rfl, rfl⟩
  go_wp2
  go_ret2
  exact ⟨rfl, B1.out⟩
set_option maxHeartbeats 1000000 in
theorem peersnil_v (a : Int) (w : World) : Calls Try.prog 25 #[.pointer none, .int .i64 a] w fun e w' => e = .returned (.slice none 0 0) ∧ Below w.heap.size w w' := by
  go_enter Try.func25, Try.ntmps25
  go_wp2_with fail
  go_loopw [5, 6] (fun out i wr => ∃ k : Nat, k ≤ 16 ∧ i = .int .i64 ((k : Int) + 1) ∧ out = .slice none 0 0 ∧ Below w.heap.size w wr) (fun _ i _ => 17 - (intOf i).toNat)
  case atStart => exact ⟨0, Nat.zero_le _, rfl, rfl, Below.refl _ _⟩
  case round =>
    obtain ⟨k, hk, rfl, rfl, hb⟩ := hrel
    by_cases hlt : k < 16
    · have d1 : decide ((k : Int) + 1 ≤ 16) = true := by simp; omega
      go_wp2_with fail
      refine (isnil_v a ((k : Int) + 1) wr).mono ?_
      rintro e w1 ⟨rfl, hb1⟩
      have HB1 := Lib.hid (hb.trans (hb1.mono hb.size))
      clear hb1
      go_wp2
      go_roundw
      case rel => exact ⟨k + 1, hlt, by go_num, rfl, HB1.out⟩
      case measure => simp [intOf]; omega
    · obtain rfl : k = 16 := by omega
      have d1 : decide (((16 : Nat) : Int) + 1 ≤ 16) = false := by decide
      go_wp2
      go_ret
      exact ⟨rfl, hb⟩
end Go.Proofs.Ythajlhifgafpkaa
