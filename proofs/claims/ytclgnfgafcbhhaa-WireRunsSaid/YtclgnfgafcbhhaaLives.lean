/-
  The chapter's examples: 'lives' is true.
-/
import Derived.Test.YtclgnfgafcbhhaaRFrame
import Derived.Lib.SlBytesConst
namespace Go.Proofs.Ytclgnfgafcbhhaa
open Go.RowKit
theorem frame_a (w : World) : Calls Try.prog 14 #[.string ⟨#[97]⟩] w fun e w' => ∃ A' c', e = .returned (.tuple #[.slice A' 9 c', .int .i64 0]) ∧ BOwn w' w.heap.size A' 9 c' (frame [97]) ∧ Below w.heap.size w w' :=
  frame_yes ⟨#[97]⟩ w (by decide)
theorem unf_a : unfR (frame [97] ++ [120]) = .tuple #[.string ⟨#[97]⟩, .int .i64 9, .int .i64 0] := by
  have : unfV (frame [97] ++ [120]) = ([97], 9, 0) := by decide +kernel
  unfold unfR
  rw [this]
  rfl
theorem unf_0 : unfR [0, 0, 0] = .tuple #[.string ⟨#[]⟩, .int .i64 0, .int .i64 5] := by
  have : unfV [0, 0, 0] = ([], 0, 5) := by decide +kernel
  unfold unfR
  rw [this]
  rfl
theorem number_300 (w : World) : Calls Try.prog 18 #[.slice none 0 0, .int .u64 300] w fun e w' => ∃ A' c', e = .returned (.slice A' 2 c') ∧ BOwn w' w.heap.size A' 2 c' [130, 44] ∧ Below w.heap.size w w' := by
  have h := number_any 0 none 0 0 [] 300 w Reads.none_ (Nat.zero_le _) (by omega) (by omega)
  have hn300 : num 300 = [130, 44] := by decide +kernel
  rw [hn300] at h
  exact h
/-- New cells, as written. -/
theorem BReads.lits (w : World) (l : List UInt8) (cs : Array Value) (h : cs = (l.map u8v).toArray) : BReads (w.alloc (.cells cs 5)) (w.heap.size + 1) (some ⟨w.heap.size, 0, none⟩) l.length l := by
  subst h
  refine ⟨by simp, fun _ => ⟨_, rfl, Nat.lt_succ_self _, fun j u hu => ?_⟩⟩
  have hp : ∀ j, (⟨w.heap.size, 0, none⟩ : Addr).add j = ⟨w.heap.size, j, none⟩ := fun j => by unfold Addr.add; split <;> simp_all
  rw [hp, World.cell?_alloc_at _ _ _ _ rfl]
  simpa using hu
/-- The same of a constant's row, which bears a mark. -/
theorem BReads.litsm (w : World) (l : List UInt8) (cs : Array Value) (fr : Nat × Nat) (h : cs = (l.map u8v).toArray) : BReads (w.alloc (.cells cs 5 fr)) (w.heap.size + 1) (some ⟨w.heap.size, 0, none⟩) l.length l := by
  subst h
  refine ⟨by simp, fun _ => ⟨_, rfl, Nat.lt_succ_self _, fun j u hu => ?_⟩⟩
  have hp : ∀ j, (⟨w.heap.size, 0, none⟩ : Addr).add j = ⟨w.heap.size, j, none⟩ := fun j => by unfold Addr.add; split <;> simp_all
  rw [hp, World.cell?_alloc_mark]
  simpa using hu
theorem conv_const (w : World) (C : Array Value) (n c : Nat) : (convert 22 22 (.slice (some ⟨w.heap.size, 0, none⟩) n c)).run Try.prog (w.alloc (.cells C 5)) = .ok (.slice (some ⟨w.heap.size, 0, none⟩) n c) (w.alloc (.cells C 5 (C.size, C.size + 1))) :=
  Lib.run_convert_bytes_const (P := Try.prog) w 22 5 C n c Try.underlying22 Try.underlying5
set_option maxHeartbeats 1000000 in
theorem lives_any (w : World) : Calls Try.prog 8 #[] w fun e w' => e = .returned (.bool true) ∧ Below w.heap.size w w' := by
  go_enter Try.func8, Try.ntmps8
  go_wp2_with fail
  refine (frame_a w).mono ?_
  rintro e w1 ⟨A1, c1, rfl, ho1, hb1⟩
  have hl1 : (frame [97]).length = 9 := by decide +kernel
  go_wp2_with (first
    | (at_builtin; refine wpList_app rfl (.tmp 14) (.tmp 15) rfl w.heap.size A1 9 c1 (frame [97]) rfl (ho1.alloc _) (w1.heap.size + 1) (some ⟨w1.heap.size, 0, none⟩) 1 1 [120] rfl (BReads.one w1 _ _ rfl) 10 (frame [97] ++ [120]) rfl rfl (by omega) (by have := hb1.size; simp; omega) ?_; intro A2 c2 w2 ho2 hg2 _)
    | fail)
  have hb2 : Below w.heap.size w w2 := below_app (hb1.alloc hb1.size _) hg2 (ho1.alloc _) (Nat.le_refl _) (by have := hb1.size; simp; omega)
  refine (unframe_any w2.heap.size A2 10 c2 _ w2 ho2.reads (by omega) ho2.2).mono ?_
  rw [unf_a]
  rintro e w3 ⟨rfl, hb3⟩
  have hb3' : Below w.heap.size w w3 := hb2.trans (hb3.mono hb2.size)
  clear ho1 hg2 ho2
  go_wp2_with fail
  refine (unframe_any (w3.heap.size + 1) (some ⟨w3.heap.size, 0, none⟩) 3 3 [0, 0, 0] _ (BReads.lits w3 [0, 0, 0] _ rfl) (by omega) (by omega)).mono ?_
  rw [unf_0]
  rintro e w4 ⟨rfl, hb4⟩
  have hb4' : Below w.heap.size w w4 := (hb3'.alloc hb3'.size _).trans (hb4.mono (by have := hb3'.size; simp; omega))
  go_wp2_with fail
  refine (number_300 w4).mono ?_
  rintro e w5 ⟨A5, c5, rfl, ho5, hb5⟩
  have hb5' : Below w.heap.size w w5 := hb4'.trans (hb5.mono hb4'.size)
  have hst : (convert 22 9 (.slice A5 2 c5)).run Try.prog w5 = .ok (.string ⟨#[130, 44]⟩) w5 := run_str (c := c5) ho5.reads
  clear hl1 hb3 hb4 hb5
  have hcc := conv_const w5
  go_wp2_with fail
  refine (sum_any (w5.heap.size + 1) (some ⟨w5.heap.size, 0, none⟩) 3 3 [97, 98, 99] _ (BReads.litsm w5 [97, 98, 99] _ _ rfl) (by omega)).mono ?_
  have hs : sumN [97, 98, 99] = 38600999 := by decide +kernel
  rw [hs]
  rintro e _ ⟨rfl, rfl⟩
  clear hs
  go_wp2
  go_ret
  exact ⟨rfl, (hb5'.alloc hb5'.size _)⟩
end Go.Proofs.Ytclgnfgafcbhhaa
