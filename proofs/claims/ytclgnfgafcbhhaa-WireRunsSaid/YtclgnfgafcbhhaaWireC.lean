/-
  The walks of pieces and frames: the program's and the reference's.
-/
import Derived.Test.YtclgnfgafcbhhaaWireB
namespace Go.Proofs.Ytclgnfgafcbhhaa
open Go.RowKit
open Go.Lib (run_convert_string_bytes bytesWorld bytesCells)

theorem ret2v {v v' u u' : Value} (h1 : v = v') (h2 : u = u') : Ending.returned (.tuple #[v, u]) = .returned (.tuple #[v', u']) := by rw [h1, h2]
set_option maxHeartbeats 400000 in
theorem piece_yes (B : Nat) (A : Option Addr) (n c : Nat) (l : List UInt8) (p : ByteArray) (w : World) (hr : BReads w B A n l) (hB : B ≤ w.heap.size) (hn : n ≤ 1000000000) (hp : p.size ≤ 1048576) :
    Calls Try.prog 9 #[.slice A n c, .string p] w fun e w' => ∃ A' c', e = .returned (.tuple #[.slice A' (n + (num p.size).length + p.size) c', .int .i64 0]) ∧ BOwn w' w.heap.size A' (n + (num p.size).length + p.size) c' (l ++ num p.size ++ p.data.toList) ∧ Below w.heap.size w w' := by
  have hnl := num_len p.size
  go_enter Try.func9, Try.ntmps9
  go_wp2_with fail
  refine (number_any B A n c l p.size w hr hB (by omega) (by omega)).mono ?_
  rintro e w1 ⟨A1, c1, rfl, ho1, hb1⟩
  go_wp2_with (at_builtin; refine wpList_app_str rfl (.tmp 13) (.tmp 14) rfl w.heap.size A1 _ c1 _ rfl ho1 p rfl _ _ rfl rfl (by omega) hb1.size ?_; intro A2 c2 w2 ho2 hg2)
  go_ret2
  exact ⟨A2, c2, rfl, ho2, below_app hb1 hg2 ho1 (Nat.le_refl _) hb1.size⟩
set_option maxHeartbeats 400000 in
theorem piece_no (A : Option Addr) (n c : Nat) (p : ByteArray) (w : World) (hp : 1048576 < p.size) (hp2 : p.size ≤ 9223372036854775807) :
    Calls Try.prog 9 #[.slice A n c, .string p] w fun e w' => e = .returned (.tuple #[.slice none 0 0, .int .i64 3]) ∧ w = w' := by
  go_enter Try.func9, Try.ntmps9
  go_wp2_with fail
  go_ret2
  exact ⟨rfl, rfl⟩
set_option maxHeartbeats 400000 in
theorem rpiece_yes (base : Nat) (A : Option Addr) (n c : Nat) (l : List UInt8) (p : ByteArray) (w : World) (ho : BOwn w base A n c l) (hB : base ≤ w.heap.size) (hn : n ≤ 1000000000) (hp : p.size ≤ 1048576) :
    Calls Try.prog 11 #[.slice A n c, .string p] w fun e w' => ∃ A' c', e = .returned (.tuple #[.slice A' (n + (num p.size).length + p.size) c', .int .i64 0]) ∧ BOwn w' base A' (n + (num p.size).length + p.size) c' (l ++ num p.size ++ p.data.toList) ∧ Below base w w' := by
  have hnl := num_len p.size
  go_enter Try.func11, Try.ntmps11
  go_wp2_with fail
  refine (rnumber_any base A n c l p.size w ho hB (by omega) (by omega)).mono ?_
  rintro e w1 ⟨A1, c1, rfl, ho1, hg1⟩
  have hb1 : Below base w w1 := below_app (Below.refl _ _) hg1 ho (Nat.le_refl _) hB
  go_wp2_with (at_builtin; refine wpList_app_str rfl (.tmp 13) (.tmp 14) rfl base A1 _ c1 _ rfl ho1 p rfl _ _ rfl rfl (by omega) (Nat.le_trans hB hg1.size) ?_; intro A2 c2 w2 ho2 hg2)
  go_ret2
  exact ⟨A2, c2, rfl, ho2, below_app hb1 hg2 ho1 (Nat.le_refl _) (Nat.le_trans hB hg1.size)⟩
set_option maxHeartbeats 400000 in
theorem rpiece_no (A : Option Addr) (n c : Nat) (p : ByteArray) (w : World) (hp : 1048576 < p.size) (hp2 : p.size ≤ 9223372036854775807) :
    Calls Try.prog 11 #[.slice A n c, .string p] w fun e w' => e = .returned (.tuple #[.slice none 0 0, .int .i64 3]) ∧ w = w' := by
  go_enter Try.func11, Try.ntmps11
  go_wp2_with fail
  go_ret2
  exact ⟨rfl, rfl⟩
/-- Four new cells. -/
theorem BReads.four (w : World) (z0 z1 z2 z3 : Int) (x : Nat) (h0 : z0 = ((UInt8.ofNat (x / 16777216)).toNat : Int)) (h1 : z1 = ((UInt8.ofNat (x / 65536)).toNat : Int)) (h2 : z2 = ((UInt8.ofNat (x / 256)).toNat : Int)) (h3 : z3 = ((UInt8.ofNat x).toNat : Int)) :
    BReads (w.alloc (.cells #[.int .u8 z0, .int .u8 z1, .int .u8 z2, .int .u8 z3] 5)) (w.heap.size + 1) (some ⟨w.heap.size, 0, none⟩) 4 (be4 x) := by
  subst h0 h1 h2 h3
  refine ⟨rfl, fun _ => ⟨_, rfl, Nat.lt_succ_self _, fun j u hu => ?_⟩⟩
  have hp : ∀ j, (⟨w.heap.size, 0, none⟩ : Addr).add j = ⟨w.heap.size, j, none⟩ := fun j => by unfold Addr.add; split <;> simp_all
  rw [hp, World.cell?_alloc_at _ _ _ _ rfl]
  simpa [be4, u8v] using hu
set_option maxHeartbeats 400000 in
theorem word_any (base : Nat) (A : Option Addr) (n c : Nat) (l : List UInt8) (x : Nat) (w : World) (ho : BOwn w base A n c l) (hB : base ≤ w.heap.size) (hn : n ≤ 1000000000) (hx : x < 4294967296) :
    Calls Try.prog 32 #[.slice A n c, .int .u32 (x : Int)] w fun e w' => ∃ A' c', e = .returned (.slice A' (n + 4) c') ∧ BOwn w' base A' (n + 4) c' (l ++ be4 x) ∧ Below base w w' := by
  go_enter Try.func32, Try.ntmps32
  go_wp2_with (at_builtin; refine wpList_app rfl (.tmp 5) (.tmp 17) rfl base A n c l rfl (ho.alloc _) (w.heap.size + 1) (some ⟨w.heap.size, 0, none⟩) 4 4 (be4 x) rfl (BReads.four w _ _ _ _ x (by rw [UInt8.toNat_ofNat']; omega) (by rw [UInt8.toNat_ofNat']; omega) (by rw [UInt8.toNat_ofNat']; omega) (by rw [UInt8.toNat_ofNat']; omega)) _ _ rfl rfl (by omega) (by simp; omega) ?_; intro A2 c2 w2 ho2 hg2 _)
  go_ret
  exact ⟨A2, c2, rfl, ho2, below_app ((Below.refl _ _).alloc hB _) hg2 (ho.alloc _) (Nat.le_refl _) (by simp; omega)⟩
set_option maxHeartbeats 400000 in
theorem join_two (B : Nat) (ad : Addr) (c : Nat) (A1 A2 : Option Addr) (n1 c1 n2 c2 : Nat) (l1 l2 : List UInt8) (w : World) (hB : B ≤ w.heap.size)
    (h1 : w.cell? ad = some (.slice A1 n1 c1)) (h2 : w.cell? ⟨ad.block, ad.off + 1, none⟩ = some (.slice A2 n2 c2)) (hab : ad.block < w.heap.size)
    (r1 : BReads w B A1 n1 l1) (r2 : BReads w B A2 n2 l2) (hn : n1 + n2 ≤ 140737488355328) :
    Calls Try.prog 30 #[.slice (some ad) 2 c] w fun e w' => ∃ A' c', e = .returned (.slice A' (n1 + n2) c') ∧ BOwn w' w.heap.size A' (n1 + n2) c' (l1 ++ l2) ∧ Below w.heap.size w w' := by
  have hc := Lib.hid (concat_two B ad c A1 A2 n1 c1 n2 c2 l1 l2 w hB h1 h2 hab r1 r2 hn)
  clear h1 h2
  go_enter Try.func30, Try.ntmps30
  go_wp2_with fail
  refine hc.out.mono ?_
  rintro e w1 ⟨A1, c1, rfl, ho1, hb1⟩
  go_wp2
  go_ret
  exact ⟨A1, c1, rfl, ho1, hb1⟩
/-- The frame of a piece. -/
def body (p : List UInt8) : List UInt8 := be4 p.length ++ p
def frame (p : List UInt8) : List UInt8 := body p ++ be4 (sumN (body p))
end Go.Proofs.Ytclgnfgafcbhhaa
