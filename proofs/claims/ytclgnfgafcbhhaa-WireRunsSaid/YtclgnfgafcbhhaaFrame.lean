/-
  The walks of wire.Frame and the reference's.
-/
import Derived.Test.YtclgnfgafcbhhaaWireC
namespace Go.Proofs.Ytclgnfgafcbhhaa
open Go.RowKit
open Go.Lib (bytesWorld bytesCells bytesWorld_cell bytesWorld_at_old bytesWorld_size)

theorem bsize (p : ByteArray) : p.data.toList.length = p.size := Array.length_toList
/-- A string's bytes in a new block. -/
theorem BReads.bytes (w : World) (p : ByteArray) : BReads (bytesWorld w 5 p) (w.heap.size + 1) (some ⟨w.heap.size, 0, none⟩) p.size p.data.toList := by
  refine ⟨by rw [List.length_map, bsize, Nat.mul_one], fun _ => ⟨_, rfl, Nat.lt_succ_self _, fun j u hu => ?_⟩⟩
  have hp : ∀ j, (⟨w.heap.size, 0, none⟩ : Addr).add j = ⟨w.heap.size, j, none⟩ := fun j => by unfold Addr.add; split <;> simp_all
  have hj : j < p.size := by
    have := (List.getElem?_eq_some_iff.1 hu).1
    rwa [List.length_map, bsize] at this
  have hj2 : j < p.data.toList.length := by rw [bsize]; exact hj
  rw [hp, bytesWorld_cell w _ p j hj, ← hu, List.getElem?_map, List.getElem?_eq_getElem hj2, List.getD_eq_getElem?_getD, List.getElem?_eq_getElem hj2]
  rfl
theorem below_bytes (w : World) (p : ByteArray) : Below w.heap.size w (bytesWorld w 5 p) :=
  ⟨rfl, rfl, rfl, by rw [bytesWorld_size]; omega, fun k hk => bytesWorld_at_old w _ p k hk⟩
theorem conv_bytes (p : ByteArray) (w : World) : ∃ c w', (convert 9 22 (.string p)).run Try.prog w = .ok (.slice (some ⟨w.heap.size, 0, none⟩) p.size c) w' ∧
    BReads w' (w.heap.size + 1) (some ⟨w.heap.size, 0, none⟩) p.size p.data.toList ∧ Below w.heap.size w w' ∧ w.heap.size + 1 ≤ w'.heap.size :=
  ⟨_, _, Lib.run_convert_string_bytes (P := Try.prog) w 9 22 5 p Try.underlying9 Try.underlying22 Try.underlying5, BReads.bytes w p, below_bytes w p, by rw [bytesWorld_size]; exact Nat.le_refl _⟩
theorem pair_cells (w : World) (v1 v2 : Value) (t : TypeId) : (w.alloc (.cells #[v1, v2] t)).cell? ⟨w.heap.size, 0, none⟩ = some v1 ∧ (w.alloc (.cells #[v1, v2] t)).cell? ⟨w.heap.size, 0 + 1, none⟩ = some v2 :=
  ⟨by rw [World.cell?_alloc_at _ _ _ _ rfl]; rfl, by rw [World.cell?_alloc_at _ _ _ _ rfl]; rfl⟩
set_option maxHeartbeats 1000000 in
theorem frame_yes (p : ByteArray) (w : World) (hp : p.size ≤ 1048576) :
    Calls Try.prog 14 #[.string p] w fun e w' => ∃ A' c', e = .returned (.tuple #[.slice A' (p.size + 8) c', .int .i64 0]) ∧ BOwn w' w.heap.size A' (p.size + 8) c' (frame p.data.toList) ∧ Below w.heap.size w w' := by
  have HL := Lib.hid (bsize p)
  go_enter Try.func14, Try.ntmps14
  go_wp2_with fail
  refine (piece_yes 0 none 0 0 [] p w Reads.none_ (Nat.zero_le _) (by omega) hp).mono ?_
  rintro e w1 ⟨A1, c1, rfl, _, hb1⟩
  go_wp2_with fail
  refine (four_any p.size w1 (by omega)).mono ?_
  rintro e w2 ⟨A2, c2, rfl, ho2, hb2⟩
  obtain ⟨c3, w3, hcv, hr3, hb3, hz3⟩ := conv_bytes p w2
  go_wp2_with fail
  refine (join_two w3.heap.size ⟨w3.heap.size, 0, none⟩ 2 A2 (some ⟨w2.heap.size, 0, none⟩) 4 c2 p.size c3 (be4 p.size) p.data.toList _ (by simp) (pair_cells w3 _ _ _).1 (pair_cells w3 _ _ _).2 (by simp) (Reads.alloc (ho2.below hb3 |>.reads) (Nat.le_refl _) _) (Reads.alloc (Reads.more hr3 hz3) (Nat.le_refl _) _) (by omega)).mono ?_
  rintro e w4 ⟨A4, c4, rfl, ho4, hb4⟩
  have hbb4 : Below w2.heap.size w2 w4 := (hb3.alloc hb3.size _).trans (hb4.mono (by simp; omega))
  clear hcv hr3
  go_wp2_with fail
  refine (sum_any w4.heap.size A4 _ c4 _ w4 ho4.reads (by omega)).mono ?_
  rintro e _ ⟨rfl, rfl⟩
  go_wp2_with fail
  refine (four_any _ w4 (sumN_lt _)).mono ?_
  rintro e w5 ⟨A5, c5, rfl, ho5, hb5⟩
  go_wp2_with fail
  refine (join_two w5.heap.size ⟨w5.heap.size, 0, none⟩ 2 A4 A5 (4 + p.size) c4 4 c5 _ _ _ (by simp) (pair_cells w5 _ _ _).1 (pair_cells w5 _ _ _).2 (by simp) (Reads.alloc (ho4.below hb5 |>.reads) (Nat.le_refl _) _) (Reads.alloc ho5.reads (Nat.le_refl _) _) (by omega)).mono ?_
  rintro e w6 ⟨A6, c6, rfl, ho6, hb6⟩
  have hbb6 : Below w4.heap.size w4 w6 := (hb5.alloc hb5.size _).trans (hb6.mono (by simp; exact Nat.le_succ_of_le hb5.size))
  have hba : Below w.heap.size w w6 := hb1.trans ((hb2.mono hb1.size).trans ((hbb4.mono (Nat.le_trans hb1.size hb2.size)).trans (hbb6.mono (Nat.le_trans hb1.size (Nat.le_trans hb2.size hbb4.size)))))
  go_wp2
  go_ret2
  have e6 : 4 + p.size + 4 = p.size + 8 := by omega
  rw [e6] at ho6
  refine ⟨A6, c6, ret2v (by rw [← e6]; rfl) rfl, ?_, hba⟩
  have hfr : frame p.data.toList = be4 p.size ++ p.data.toList ++ be4 (sumN (be4 p.size ++ p.data.toList)) := by unfold frame body; rw [HL.out]
  rw [hfr]
  exact ho6.down (Nat.le_trans hb1.size (Nat.le_trans hb2.size (Nat.le_trans hbb4.size (by simp; exact Nat.le_succ_of_le hb5.size))))
end Go.Proofs.Ytclgnfgafcbhhaa
