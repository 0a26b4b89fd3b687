/-
  Matrices: the examples' changes.
-/
import Derived.Test.YtikegnnlmfidfaaMatR
namespace Go.Proofs.Ytikegnnlmfidfaa
open Go.RowKit
set_option maxRecDepth 100000 in
set_option maxHeartbeats 4000000 in
theorem add_v (w : World) : Calls Try.prog 19 #[] w fun e w' => e = .returned (.agg #[.int .i64 1, .string ⟨#[102]⟩, .int .i64 0]) ∧ Below w.heap.size w w' := by
  have HIC := Lib.hid (show (Try.prog.info? 41).map (·.size) = some 3 by kernel_rfl)
  have B0 := Lib.hid ((Below.refl w.heap.size w).alloc (Nat.le_refl _) (.cells #[.int .i64 0, .string ⟨#[]⟩, .int .i64 0] 41))
  have Y0 := Lib.hid (heap_alloc_new w (.cells #[.int .i64 0, .string ⟨#[]⟩, .int .i64 0] 41))
  go_enter Try.func19, Try.ntmps19
  go_upto_region 1 with fail
  generalize w.alloc (.cells #[.int .i64 0, .string ⟨#[]⟩, .int .i64 0] 41) = w0 at *
  generalize hg : w.heap.size = g at *
  have XS := Lib.hid (setRow_heap w0 g _ #[.int .i64 1, .string ⟨#[102]⟩, .int .i64 0] _ _ Y0.out)
  have BS := Lib.hid (below_setRow B0.out (Nat.le_refl _) #[.int .i64 1, .string ⟨#[102]⟩, .int .i64 0])
  go_wp2_with (first
    | (refine wpList_store_row rfl 41 (.tmp 0) (.tmp 1) rfl g #[.int .i64 1, .string ⟨#[102]⟩, .int .i64 0] rfl rfl 41 _ Y0.out HIC.out rfl (by simp [Value.oneCell']) ?_)
    | fail)
  exact bodyPost_ret (results_cell_row Try.results19 _ _ g _ #[.int .i64 1, .string ⟨#[102]⟩, .int .i64 0] _ _ rfl XS.out Try.underlying41 rfl HIC.out) rfl ⟨rfl, hg ▸ BS.out⟩
set_option maxRecDepth 100000 in
set_option maxHeartbeats 4000000 in
theorem share_v (n : Int) (w : World) : Calls Try.prog 20 #[.int .i64 n] w fun e w' => e = .returned (.agg #[.int .i64 3, .string ⟨#[102]⟩, .int .i64 n]) ∧ Below w.heap.size w w' := by
  have HIC := Lib.hid (show (Try.prog.info? 41).map (·.size) = some 3 by kernel_rfl)
  have B0 := Lib.hid ((Below.refl w.heap.size w).alloc (Nat.le_refl _) (.cells #[.int .i64 0, .string ⟨#[]⟩, .int .i64 0] 41))
  have Y0 := Lib.hid (heap_alloc_new w (.cells #[.int .i64 0, .string ⟨#[]⟩, .int .i64 0] 41))
  go_enter Try.func20, Try.ntmps20
  go_upto_region 1 with fail
  generalize w.alloc (.cells #[.int .i64 0, .string ⟨#[]⟩, .int .i64 0] 41) = w0 at *
  generalize hg : w.heap.size = g at *
  have XS := Lib.hid (setRow_heap w0 g _ #[.int .i64 3, .string ⟨#[102]⟩, .int .i64 n] _ _ Y0.out)
  have BS := Lib.hid (below_setRow B0.out (Nat.le_refl _) #[.int .i64 3, .string ⟨#[102]⟩, .int .i64 n])
  go_wp2_with (first
    | (refine wpList_store_row rfl 41 (.tmp 2) (.tmp 4) rfl g #[.int .i64 3, .string ⟨#[102]⟩, .int .i64 n] rfl rfl 41 _ Y0.out HIC.out rfl (by simp [Value.oneCell']) ?_)
    | fail)
  exact bodyPost_ret (results_cell_row Try.results20 _ _ g _ #[.int .i64 3, .string ⟨#[102]⟩, .int .i64 n] _ _ rfl XS.out Try.underlying41 rfl HIC.out) rfl ⟨rfl, hg ▸ BS.out⟩
end Go.Proofs.Ytikegnnlmfidfaa
