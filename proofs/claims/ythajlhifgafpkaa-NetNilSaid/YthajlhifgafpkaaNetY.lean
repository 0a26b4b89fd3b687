/-
  Nets: NetNil, walked.
-/
import Derived.Test.YthajlhifgafpkaaNetX
namespace Go.Proofs.Ythajlhifgafpkaa
open Go.RowKit Go.Shelf
theorem ActIn.more {w : World} {B B' : Nat} {x : ActV} (h : ActIn w B x) (hB : B ≤ B') : ActIn w B' x := ⟨h.k, h.a, h.b, h.n, Reads.more h.r hB, h.lc, h.cm⟩
theorem AReads.one {w : World} {B : Nat} {x : ActV} (h : ActIn w B x) (hB : B ≤ w.heap.size) : AReads (w.alloc (.cells x.cells.toArray 43)) (w.heap.size + 1) (some ⟨w.heap.size, 0, none⟩) 1 [x] := by
  refine ⟨⟨rfl, fun _ => ⟨_, rfl, Nat.lt_succ_self _, fun j u hu => ?_⟩⟩, fun y hy => ?_⟩
  · have e : [x].flatMap ActV.cells = x.cells := by simp
    rw [e] at hu
    rw [add_lit2, Nat.zero_add, heap_cell (heap_alloc_new w _)]
    simpa using hu
  · rw [List.mem_singleton.1 hy]
    exact (h.below (((Below.refl w.heap.size w).alloc (Nat.le_refl _) _).mono hB)).more (by omega)
set_option maxRecDepth 100000 in
set_option maxHeartbeats 8000000 in
theorem nilw_v (k a b n : Int) (ba : Option Addr) (bl bc : Nat) (bs : List UInt8) (w : World) (hx : ActIn w w.heap.size ⟨k, a, b, n, ba, bl, bc, bs⟩) :
    Calls Try.prog 8 #[.agg #[.int .i64 k, .int .i64 a, .int .i64 b, .int .u64 n, .slice ba bl bc]] w fun e w' => e = .returned (.bool true) ∧ Below w.heap.size w w' := by
  have HIA := Lib.hid (show (Try.prog.info? 43).map (·.size) = some 5 by kernel_rfl)
  have HX := Lib.hid hx
  have X1 := Lib.hid (heap_alloc_new w (.cells #[.int .i64 k, .int .i64 a, .int .i64 b, .int .u64 n, .slice ba bl bc] 43))
  have B1 := Lib.hid ((Below.refl w.heap.size w).alloc (Nat.le_refl _) (.cells #[.int .i64 k, .int .i64 a, .int .i64 b, .int .u64 n, .slice ba bl bc] 43))
  have hz1 : (w.alloc (.cells #[.int .i64 k, .int .i64 a, .int .i64 b, .int .u64 n, .slice ba bl bc] 43)).heap.size = w.heap.size + 1 := by simp
  clear hx
  go_enter Try.func8, Try.ntmps8
  go_wp2_with fail
  generalize w.alloc (.cells #[.int .i64 k, .int .i64 a, .int .i64 b, .int .u64 n, .slice ba bl bc] 43) = w1 at *
  refine (lives_v w1).mono ?_
  rintro e w2 ⟨rfl, hb2⟩
  have X2 := Lib.hid ((hb2.block w.heap.size (by omega)).trans X1.out)
  have B2 := Lib.hid (B1.out.trans (hb2.mono (by omega)))
  have hz2 := hb2.size
  clear hb2 X1 B1
  have HX2 := Lib.hid (HX.out.below B2.out)
  have AR := Lib.hid (show AReads (w2.alloc (.cells #[.int .i64 k, .int .i64 a, .int .i64 b, .int .u64 n, .slice ba bl bc] 43)) (w2.heap.size + 1) (some ⟨w2.heap.size, 0, none⟩) 1 [⟨k, a, b, n, ba, bl, bc, bs⟩] from AReads.one HX2.out (by omega))
  have X3 := Lib.hid ((((Below.refl w2.heap.size w2).alloc (Nat.le_refl _) (.cells #[.int .i64 k, .int .i64 a, .int .i64 b, .int .u64 n, .slice ba bl bc] 43)).block w.heap.size (by omega)).trans X2.out)
  have B3 := Lib.hid (B2.out.alloc (by omega) (.cells #[.int .i64 k, .int .i64 a, .int .i64 b, .int .u64 n, .slice ba bl bc] 43))
  go_wp2_with (first
    | (refine wpList_load_row rfl 43 (.tmp 1) rfl w.heap.size rfl 43 #[.int .i64 k, .int .i64 a, .int .i64 b, .int .u64 n, .slice ba bl bc] (0, 0) _ X2.out Try.underlying43 rfl HIA.out ?_)
    | fail)
  refine (small_v (some ⟨w2.heap.size, 0, none⟩) 1 1 (w2.heap.size + 1) [⟨k, a, b, n, ba, bl, bc, bs⟩] (w2.alloc (.cells #[.int .i64 k, .int .i64 a, .int .i64 b, .int .u64 n, .slice ba bl bc] 43)) AR.out (by omega) (by simp)).mono ?_
  have hz3 : (w2.alloc (.cells #[.int .i64 k, .int .i64 a, .int .i64 b, .int .u64 n, .slice ba bl bc] 43)).heap.size = w2.heap.size + 1 := by simp
  clear AR X2 B2
  generalize w2.alloc (.cells #[.int .i64 k, .int .i64 a, .int .i64 b, .int .u64 n, .slice ba bl bc] 43) = w3 at *
  rintro e w4 ⟨rfl, hb4⟩
  have X4 := Lib.hid ((hb4.block w.heap.size (by omega)).trans X3.out)
  have B4 := Lib.hid (B3.out.trans (hb4.mono (by omega)))
  have hz4 := hb4.size
  clear hb4 X3 B3
  cases hsm : smallL [⟨k, a, b, n, ba, bl, bc, bs⟩]
  · clear hsm
    go_wp2_with fail
    go_ret
    exact ⟨rfl, B4.out⟩
  have hbl : bl ≤ 2000 := by
    simp [smallL] at hsm
    exact hsm
  clear hsm
  have c1 : w4.cell? ⟨w.heap.size, 1, none⟩ = some (.int .i64 a) := by rw [cell_of_row _ _ 1 _ _ _ X4.out]; rfl
  have c2 : w4.cell? ⟨w.heap.size, 2, none⟩ = some (.int .i64 b) := by rw [cell_of_row _ _ 2 _ _ _ X4.out]; rfl
  go_wp2_with fail
  refine (isnil_v a b w4).mono ?_
  rintro e w5 ⟨rfl, hb5⟩
  have X5 := Lib.hid ((hb5.block w.heap.size (by omega)).trans X4.out)
  have B5 := Lib.hid (B4.out.trans (hb5.mono (by omega)))
  have hz5 := hb5.size
  clear hb5 X4 B4 c1 c2
  go_wp2_with (first
    | (refine wpList_load_row rfl 43 (.tmp 1) rfl w.heap.size rfl 43 #[.int .i64 k, .int .i64 a, .int .i64 b, .int .u64 n, .slice ba bl bc] (0, 0) _ X5.out Try.underlying43 rfl HIA.out ?_)
    | fail)
  refine (callnil_v k a b n ba bl bc w.heap.size bs w5 (Reads.below HX.out.r B5.out) (by omega) (by omega)).mono ?_
  rintro e w6 ⟨rfl, hb6⟩
  have X6 := Lib.hid ((hb6.block w.heap.size (by omega)).trans X5.out)
  have B6 := Lib.hid (B5.out.trans (hb6.mono (by omega)))
  have hz6 := hb6.size
  clear hb6 X5 B5
  go_wp2_with fail
  refine (samenil_v w6).mono ?_
  rintro e w7 ⟨rfl, hb7⟩
  have X7 := Lib.hid ((hb7.block w.heap.size (by omega)).trans X6.out)
  have B7 := Lib.hid (B6.out.trans (hb7.mono (by omega)))
  have hz7 := hb7.size
  clear hb7 X6 B6
  have c1 : w7.cell? ⟨w.heap.size, 1, none⟩ = some (.int .i64 a) := by rw [cell_of_row _ _ 1 _ _ _ X7.out]; rfl
  have c2 : w7.cell? ⟨w.heap.size, 2, none⟩ = some (.int .i64 b) := by rw [cell_of_row _ _ 2 _ _ _ X7.out]; rfl
  go_wp2_with fail
  refine (flightnil_v w7).mono ?_
  rintro e _ ⟨rfl, rfl⟩
  go_wp2_with fail
  refine (oldestnil_v a b w7).mono ?_
  rintro e _ ⟨rfl, rfl⟩
  have c1 : w7.cell? ⟨w.heap.size, 1, none⟩ = some (.int .i64 a) := by rw [cell_of_row _ _ 1 _ _ _ X7.out]; rfl
  have c2 : w7.cell? ⟨w.heap.size, 2, none⟩ = some (.int .i64 b) := by rw [cell_of_row _ _ 2 _ _ _ X7.out]; rfl
  go_wp2_with fail
  refine (peersnil_v a w7).mono ?_
  rintro e w8 ⟨rfl, hb8⟩
  have B8 := Lib.hid (B7.out.trans (hb8.mono (by omega)))
  clear hb8
  go_wp2_with fail
  refine (lastnil_v w8).mono ?_
  rintro e _ ⟨rfl, rfl⟩
  go_wp2_with fail
  go_ret
  exact ⟨rfl, B8.out⟩
end Go.Proofs.Ythajlhifgafpkaa
