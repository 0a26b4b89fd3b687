/-
  Nets: answers of a nil net are the same.
-/
import Derived.Test.YthajlhifgafpkaaNetU
namespace Go.Proofs.Ythajlhifgafpkaa
open Go.RowKit Go.Shelf
set_option maxRecDepth 100000 in
set_option maxHeartbeats 4000000 in
theorem packs1_v (g1 g2 : Nat) (w : World) (h1 : w.heap[g1]? = some (.cells #[.int .u64 0, .int .i64 0, .int .i64 0, .int .u64 0, .slice none 0 0] 34 (0, 0))) (h2 : w.heap[g2]? = some (.cells #[.int .u64 0, .int .i64 0, .int .i64 0, .int .u64 0, .slice none 0 0] 34 (0, 0))) :
    Calls Try.prog 21 #[.slice (some ⟨g1, 0, none⟩) 1 1, .slice (some ⟨g2, 0, none⟩) 1 1] w fun e w' => e = .returned (.bool true) ∧ Below w.heap.size w w' := by
  have H1 := Lib.hid h1
  have H2 := Lib.hid h2
  clear h1 h2
  go_enter Try.func21, Try.ntmps21
  go_wp2_with fail
  go_loopw [5] (fun i wr => (i = .int .i64 0 ∨ i = .int .i64 1) ∧ wr.heap[g1]? = some (.cells #[.int .u64 0, .int .i64 0, .int .i64 0, .int .u64 0, .slice none 0 0] 34 (0, 0)) ∧ wr.heap[g2]? = some (.cells #[.int .u64 0, .int .i64 0, .int .i64 0, .int .u64 0, .slice none 0 0] 34 (0, 0)) ∧ Below w.heap.size w wr) (fun i _ => 1 - (intOf i).toNat)
  case atStart => exact ⟨.inl rfl, H1.out, H2.out, Below.refl _ _⟩
  case round =>
    obtain ⟨hi, k1, k2, hb⟩ := hrel
    have K1 := Lib.hid k1
    have K2 := Lib.hid k2
    have HB := Lib.hid hb
    clear k1 k2 hb
    rcases hi with rfl | rfl
    · have a0 : wr.cell? ⟨g1, 0, none⟩ = some (.int .u64 0) := by rw [cell_of_row _ _ 0 _ _ _ K1.out]; rfl
      have a1 : wr.cell? ⟨g1, 1, none⟩ = some (.int .i64 0) := by rw [cell_of_row _ _ 1 _ _ _ K1.out]; rfl
      have a2 : wr.cell? ⟨g1, 2, none⟩ = some (.int .i64 0) := by rw [cell_of_row _ _ 2 _ _ _ K1.out]; rfl
      have a3 : wr.cell? ⟨g1, 3, none⟩ = some (.int .u64 0) := by rw [cell_of_row _ _ 3 _ _ _ K1.out]; rfl
      have a4 : wr.cell? ⟨g1, 4, none⟩ = some (.slice none 0 0) := by rw [cell_of_row _ _ 4 _ _ _ K1.out]; rfl
      have b0 : wr.cell? ⟨g2, 0, none⟩ = some (.int .u64 0) := by rw [cell_of_row _ _ 0 _ _ _ K2.out]; rfl
      have b1 : wr.cell? ⟨g2, 1, none⟩ = some (.int .i64 0) := by rw [cell_of_row _ _ 1 _ _ _ K2.out]; rfl
      have b2 : wr.cell? ⟨g2, 2, none⟩ = some (.int .i64 0) := by rw [cell_of_row _ _ 2 _ _ _ K2.out]; rfl
      have b3 : wr.cell? ⟨g2, 3, none⟩ = some (.int .u64 0) := by rw [cell_of_row _ _ 3 _ _ _ K2.out]; rfl
      have b4 : wr.cell? ⟨g2, 4, none⟩ = some (.slice none 0 0) := by rw [cell_of_row _ _ 4 _ _ _ K2.out]; rfl
      have hst : ∀ V : World, (convert 22 9 (.slice none 0 0)).run Try.prog V = .ok (.string ⟨#[]⟩) V := fun V => run_str (w := V) (B := 0) (c := 0) (l := []) Reads.none_
      have hst1 := hst wr
      go_wp2_with fail
      go_quiet (fail)
      go_wp2_with fail
      go_roundw
      case rel => exact ⟨.inr rfl, K1.out, K2.out, below_drewN HB.out nq⟩
      case measure => simp [intOf]
    · go_wp2_with fail
      go_ret
      exact ⟨rfl, HB.out⟩
end Go.Proofs.Ythajlhifgafpkaa
