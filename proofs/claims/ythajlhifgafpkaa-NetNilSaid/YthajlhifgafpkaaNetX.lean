/-
  Nets: NetNil.
-/
import Derived.Test.YthajlhifgafpkaaNetV
namespace Go.Proofs.Ythajlhifgafpkaa
open Go.RowKit Go.Shelf
theorem slot_cells {W : World} {g off : Nat} {cs : Array Value} {t : TypeId} {fr : Nat × Nat} (h : W.heap[g]? = some (.cells cs t fr)) (j : Nat) (v : Value) (hv : cs[off + j]? = some v) : W.cell? ((⟨g, off, none⟩ : Addr).add j) = some v := by
  have e : (⟨g, off, none⟩ : Addr).add j = ⟨g, off + j, none⟩ := by unfold Addr.add; split <;> simp_all
  rw [e, cell_of_row _ _ (off + j) _ _ _ h, hv]
theorem r7_pk (j : Nat) (v : Value) (h : ([.int .u64 0, .int .i64 0, .int .i64 0, .int .u64 0, .slice none 0 0] : List Value)[j]? = some v) : (#[.int .u64 0, .int .u64 0, .int .i64 0, .int .i64 0, .int .u64 0, .slice none 0 0, .int .i64 1] : Array Value)[1 + j]? = some v := by
  rcases j with _ | _ | _ | _ | _ | j
  · simpa using h
  · simpa using h
  · simpa using h
  · simpa using h
  · simpa using h
  · simp at h
set_option maxRecDepth 100000 in
set_option maxHeartbeats 4000000 in
theorem samenil_v (w : World) : Calls Try.prog 28 #[.agg #[.int .u64 0, .int .u64 0, .int .i64 0, .int .i64 0, .int .u64 0, .slice none 0 0, .int .i64 1], .agg #[.int .u64 0, .int .u64 0, .int .i64 0, .int .i64 0, .int .u64 0, .slice none 0 0, .int .i64 1]] w fun e w' => e = .returned (.bool true) ∧ Below w.heap.size w w' := by
  have HI := Lib.hid (show (Try.prog.info? 34).map (·.size) = some 5 by kernel_rfl)
  have X1 := Lib.hid (heap_alloc2_old w (.cells #[.int .u64 0, .int .u64 0, .int .i64 0, .int .i64 0, .int .u64 0, .slice none 0 0, .int .i64 1] 47) (.cells #[.int .u64 0, .int .u64 0, .int .i64 0, .int .i64 0, .int .u64 0, .slice none 0 0, .int .i64 1] 47))
  have X2 := Lib.hid (heap_alloc2_new w (.cells #[.int .u64 0, .int .u64 0, .int .i64 0, .int .i64 0, .int .u64 0, .slice none 0 0, .int .i64 1] 47) (.cells #[.int .u64 0, .int .u64 0, .int .i64 0, .int .i64 0, .int .u64 0, .slice none 0 0, .int .i64 1] 47))
  have B2 := Lib.hid (((Below.refl w.heap.size w).alloc (Nat.le_refl _) (.cells #[.int .u64 0, .int .u64 0, .int .i64 0, .int .i64 0, .int .u64 0, .slice none 0 0, .int .i64 1] 47)).alloc (by simp) (.cells #[.int .u64 0, .int .u64 0, .int .i64 0, .int .i64 0, .int .u64 0, .slice none 0 0, .int .i64 1] 47))
  have hz : ((w.alloc (.cells #[.int .u64 0, .int .u64 0, .int .i64 0, .int .i64 0, .int .u64 0, .slice none 0 0, .int .i64 1] 47)).alloc (.cells #[.int .u64 0, .int .u64 0, .int .i64 0, .int .i64 0, .int .u64 0, .slice none 0 0, .int .i64 1] 47)).heap.size = w.heap.size + 2 := by simp
  have a0 : ((w.alloc (.cells #[.int .u64 0, .int .u64 0, .int .i64 0, .int .i64 0, .int .u64 0, .slice none 0 0, .int .i64 1] 47)).alloc (.cells #[.int .u64 0, .int .u64 0, .int .i64 0, .int .i64 0, .int .u64 0, .slice none 0 0, .int .i64 1] 47)).cell? ⟨w.heap.size, 0, none⟩ = some (.int .u64 0) := by rw [cell_of_row _ _ 0 _ _ _ X1.out]; rfl
  have a6 : ((w.alloc (.cells #[.int .u64 0, .int .u64 0, .int .i64 0, .int .i64 0, .int .u64 0, .slice none 0 0, .int .i64 1] 47)).alloc (.cells #[.int .u64 0, .int .u64 0, .int .i64 0, .int .i64 0, .int .u64 0, .slice none 0 0, .int .i64 1] 47)).cell? ⟨w.heap.size, 6, none⟩ = some (.int .i64 1) := by rw [cell_of_row _ _ 6 _ _ _ X1.out]; rfl
  have b0 : ((w.alloc (.cells #[.int .u64 0, .int .u64 0, .int .i64 0, .int .i64 0, .int .u64 0, .slice none 0 0, .int .i64 1] 47)).alloc (.cells #[.int .u64 0, .int .u64 0, .int .i64 0, .int .i64 0, .int .u64 0, .slice none 0 0, .int .i64 1] 47)).cell? ⟨w.heap.size + 1, 0, none⟩ = some (.int .u64 0) := by rw [cell_of_row _ _ 0 _ _ _ X2.out]; rfl
  have b6 : ((w.alloc (.cells #[.int .u64 0, .int .u64 0, .int .i64 0, .int .i64 0, .int .u64 0, .slice none 0 0, .int .i64 1] 47)).alloc (.cells #[.int .u64 0, .int .u64 0, .int .i64 0, .int .i64 0, .int .u64 0, .slice none 0 0, .int .i64 1] 47)).cell? ⟨w.heap.size + 1, 6, none⟩ = some (.int .i64 1) := by rw [cell_of_row _ _ 6 _ _ _ X2.out]; rfl
  have L1 := Lib.hid (fun j v hj => slot_cells (off := 1) X1.out j v (r7_pk j v hj))
  have X3 := Lib.hid ((((Below.refl ((w.alloc (.cells #[.int .u64 0, .int .u64 0, .int .i64 0, .int .i64 0, .int .u64 0, .slice none 0 0, .int .i64 1] 47)).alloc (.cells #[.int .u64 0, .int .u64 0, .int .i64 0, .int .i64 0, .int .u64 0, .slice none 0 0, .int .i64 1] 47)).heap.size ((w.alloc (.cells #[.int .u64 0, .int .u64 0, .int .i64 0, .int .i64 0, .int .u64 0, .slice none 0 0, .int .i64 1] 47)).alloc (.cells #[.int .u64 0, .int .u64 0, .int .i64 0, .int .i64 0, .int .u64 0, .slice none 0 0, .int .i64 1] 47))).alloc (Nat.le_refl _) (.cells #[.int .u64 0, .int .i64 0, .int .i64 0, .int .u64 0, .slice none 0 0] 34)).block (w.heap.size + 1) (by simp)).trans X2.out)
  have L2 := Lib.hid (fun j v hj => slot_cells (off := 1) X3.out j v (r7_pk j v hj))
  have N1 := Lib.hid (heap_alloc2_old ((w.alloc (.cells #[.int .u64 0, .int .u64 0, .int .i64 0, .int .i64 0, .int .u64 0, .slice none 0 0, .int .i64 1] 47)).alloc (.cells #[.int .u64 0, .int .u64 0, .int .i64 0, .int .i64 0, .int .u64 0, .slice none 0 0, .int .i64 1] 47)) (.cells #[.int .u64 0, .int .i64 0, .int .i64 0, .int .u64 0, .slice none 0 0] 34) (.cells #[.int .u64 0, .int .i64 0, .int .i64 0, .int .u64 0, .slice none 0 0] 34))
  have N2 := Lib.hid (heap_alloc2_new ((w.alloc (.cells #[.int .u64 0, .int .u64 0, .int .i64 0, .int .i64 0, .int .u64 0, .slice none 0 0, .int .i64 1] 47)).alloc (.cells #[.int .u64 0, .int .u64 0, .int .i64 0, .int .i64 0, .int .u64 0, .slice none 0 0, .int .i64 1] 47)) (.cells #[.int .u64 0, .int .i64 0, .int .i64 0, .int .u64 0, .slice none 0 0] 34) (.cells #[.int .u64 0, .int .i64 0, .int .i64 0, .int .u64 0, .slice none 0 0] 34))
  have B4 := Lib.hid ((B2.out.alloc B2.out.size (.cells #[.int .u64 0, .int .i64 0, .int .i64 0, .int .u64 0, .slice none 0 0] 34)).alloc (by simp; omega) (.cells #[.int .u64 0, .int .i64 0, .int .i64 0, .int .u64 0, .slice none 0 0] 34))
  have PV := Lib.hid (packs1_v _ _ _ N1.out N2.out)
  go_enter Try.func28, Try.ntmps28
  go_wp2_with (first
    | (refine wpList_load_slot rfl 34 (.tmp 18) rfl ⟨w.heap.size, 1, none⟩ rfl [.int .u64 0, .int .i64 0, .int .i64 0, .int .u64 0, .slice none 0 0] _ L1.out Try.underlying34 rfl HI.out ?_)
    | (refine wpList_load_slot rfl 34 (.tmp 21) rfl ⟨w.heap.size + 1, 1, none⟩ rfl [.int .u64 0, .int .i64 0, .int .i64 0, .int .u64 0, .slice none 0 0] _ L2.out Try.underlying34 rfl HI.out ?_)
    | fail)
  refine (packs1_v _ _ _ (by have := N1.out; simpa using this) (by have := N2.out; simpa using this)).mono ?_
  rintro e w5 ⟨rfl, hb5⟩
  have B5 := Lib.hid (B4.out.trans (hb5.mono (by simp; omega)))
  go_wp2
  go_ret
  exact ⟨rfl, B5.out⟩
end Go.Proofs.Ythajlhifgafpkaa
