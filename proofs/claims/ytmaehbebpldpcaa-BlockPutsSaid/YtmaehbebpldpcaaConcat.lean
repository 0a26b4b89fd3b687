/-
  slices.Grow at nil, slices.Concat of two slices of bytes.
-/
import Derived.Test.YtmaehbebpldpcaaBytes
import Derived.Lib.AppendZeros
namespace Go.Proofs.Ytmaehbebpldpcaa
open Go.RowKit
theorem BOwn.grown_nil (w : World) (m cap : Nat) (hm : m ≤ cap) (hcap : cap ≤ maxLen) :
    BOwn (w.drew.alloc (.cells (Builtin.zeroCells (Value.int .u8 0).cells m ++ Builtin.zeroCells (Value.int .u8 0).cells (cap - m)) 5)) w.heap.size (some ⟨w.heap.size, 0, none⟩) 0 cap [] := by
  refine ⟨⟨by simp, .inr ⟨w.heap.size, cap, _, rfl, Nat.le_refl _, heap_alloc_new w.drew _, Nat.zero_le _, hcap, ?_, by simp⟩⟩, Nat.zero_le _⟩
  simp [size_zeroCells, Value.cells]
  omega
set_option maxHeartbeats 1000000 in
set_option maxRecDepth 100000 in
theorem grow_any (m : Nat) (w : World) (hm : m ≤ 140737488355328) :
    Calls Try.prog 57 #[.slice none 0 0, .int .i64 (m : Int)] w fun e w' => ∃ A' c', e = .returned (.slice A' 0 c') ∧ BOwn w' w.heap.size A' 0 c' [] ∧ Below w.heap.size w w' := by
  obtain ⟨i0, hi, hz0, hz1, hz2⟩ := info_parts info_u8
  by_cases h0 : 0 < m
  · have hrun := fun (k : IntKind) => Lib.run_append_nil_zeros (P := Try.prog) w 25 3 25 5 i0 (.int .u8 0) k .i64 Try.underlying25 Try.underlying3 hi hz0 m h0 (by omega) (by omega) (by rw [hz2]; omega)
    have hgc := grownCap_ge w m 0 5
    have hgm := grownCap_le_maxLen w m 0 5 (by unfold maxLen; omega)
    have hown := BOwn.grown_nil w m _ hgc hgm
    have HR := Lib.hid hrun; clear hrun
    have HO := Lib.hid hown; clear hown
    unfold maxLen at hgm
    go_enter Try.func57, Try.ntmps57
    go_wp2_with (at_builtin; refine Lib.wpList_append_run _ rfl (.tmp 20) (.tmp 21) _ _ rfl _ _ rfl rfl _ _ (HR.out _) ?_)
    go_ret
    exact ⟨_, _, rfl, HO.out, ((Below.refl _ _).drew).alloc (Nat.le_refl _) _⟩
  · obtain rfl : m = 0 := by omega
    go_enter Try.func57, Try.ntmps57
    go_wp2
    go_ret
    exact ⟨none, 0, rfl, BOwn.nil_ _ _, Below.refl _ _⟩

set_option maxHeartbeats 1000000 in
theorem concat_two (B : Nat) (ad : Addr) (c : Nat) (A1 A2 : Option Addr) (n1 c1 n2 c2 : Nat) (l1 l2 : List UInt8) (w : World) (hB : B ≤ w.heap.size)
    (h1 : w.cell? ad = some (.slice A1 n1 c1)) (h2 : w.cell? ⟨ad.block, ad.off + 1, none⟩ = some (.slice A2 n2 c2)) (hab : ad.block < w.heap.size)
    (r1 : BReads w B A1 n1 l1) (r2 : BReads w B A2 n2 l2) (hn : n1 + n2 ≤ 140737488355328) :
    Calls Try.prog 44 #[.slice (some ad) 2 c] w fun e w' => ∃ A' c', e = .returned (.slice A' (n1 + n2) c') ∧ BOwn w' w.heap.size A' (n1 + n2) c' (l1 ++ l2) ∧ Below w.heap.size w w' := by
  go_enter Try.func44, Try.ntmps44
  go_wp2
  go_loop [3, 11] (fun s i => (i = .int .i64 0 ∧ s = .int .i64 0) ∨ (i = .int .i64 1 ∧ s = .int .i64 (n1 : Int)) ∨ (i = .int .i64 2 ∧ s = .int .i64 ((n1 + n2 : Nat) : Int))) (fun _ i => 2 - (intOf i).toNat)
  case atStart => exact .inl ⟨rfl, rfl⟩
  case round =>
    rcases hrel with ⟨rfl, rfl⟩ | ⟨rfl, rfl⟩ | ⟨rfl, rfl⟩
    · go_wp2
      go_round
      case rel => exact .inr (.inl ⟨rfl, by go_num⟩)
      case measure => simp [intOf]
    · go_wp2
      go_round
      case rel => exact .inr (.inr ⟨rfl, by go_num⟩)
      case measure => simp [intOf]
    · go_wp2_with fail
      refine (grow_any (n1 + n2) w hn).mono ?_
      rintro e w1 ⟨A3, c3, rfl, hown3, hb3⟩
      have k1 : w1.cell? ad = some (.slice A1 n1 c1) := (hb3.cell hab).trans h1
      have k2 : w1.cell? ⟨ad.block, ad.off + 1, none⟩ = some (.slice A2 n2 c2) := (hb3.cell (p := ⟨ad.block, ad.off + 1, none⟩) hab).trans h2
      have q1 : BReads w1 B A1 n1 l1 := Reads.below r1 (hb3.mono hB)
      have q2 : BReads w1 B A2 n2 l2 := Reads.below r2 (hb3.mono hB)
      clear h1 h2 r1 r2
      go_wp2
      go_loopw [6, 27] (fun o i wr => ∃ (k : Nat) (A4 : Option Addr) (c4 : Nat), i = .int .i64 (k : Int) ∧ Below w.heap.size w1 wr ∧
        ((k = 0 ∧ o = .slice A4 0 c4 ∧ BOwn wr w.heap.size A4 0 c4 []) ∨ (k = 1 ∧ o = .slice A4 n1 c4 ∧ BOwn wr w.heap.size A4 n1 c4 l1) ∨ (k = 2 ∧ o = .slice A4 (n1 + n2) c4 ∧ BOwn wr w.heap.size A4 (n1 + n2) c4 (l1 ++ l2)))) (fun _ i _ => 2 - (intOf i).toNat)
      case atStart => exact ⟨0, A3, c3, rfl, Below.refl _ _, .inl ⟨rfl, rfl, hown3⟩⟩
      case round =>
        obtain ⟨k, A4, c4, rfl, hb, hk⟩ := hrel
        have j1 : wr.cell? ad = some (.slice A1 n1 c1) := (hb.cell hab).trans k1
        have j2 : wr.cell? ⟨ad.block, ad.off + 1, none⟩ = some (.slice A2 n2 c2) := (hb.cell (p := ⟨ad.block, ad.off + 1, none⟩) hab).trans k2
        have p1 : BReads wr B A1 n1 l1 := Reads.below q1 (hb.mono hB)
        have p2 : BReads wr B A2 n2 l2 := Reads.below q2 (hb.mono hB)
        have hsz : w.heap.size ≤ wr.heap.size := Nat.le_trans hb3.size hb.size
        rcases hk with ⟨rfl, rfl, ho⟩ | ⟨rfl, rfl, ho⟩ | ⟨rfl, rfl, ho⟩
        · go_wp2_with (at_builtin; refine wpList_app rfl (.tmp 31) (.tmp 32) rfl w.heap.size A4 0 c4 [] rfl ho B A1 n1 c1 l1 rfl p1 n1 l1 (by omega) rfl (by omega) hsz ?_; intro A5 c5 w5 ho5 hg5 _)
          go_roundw
          case rel => exact ⟨1, A5, c5, rfl, below_app hb hg5 ho (Nat.le_refl _) hsz, .inr (.inl ⟨rfl, rfl, ho5⟩)⟩
          case measure => simp [intOf]
        · go_wp2_with (at_builtin; refine wpList_app rfl (.tmp 31) (.tmp 32) rfl w.heap.size A4 n1 c4 l1 rfl ho B A2 n2 c2 l2 rfl p2 (n1 + n2) (l1 ++ l2) rfl rfl hn hsz ?_; intro A5 c5 w5 ho5 hg5 _)
          go_roundw
          case rel => exact ⟨2, A5, c5, rfl, below_app hb hg5 ho (Nat.le_refl _) hsz, .inr (.inr ⟨rfl, rfl, ho5⟩)⟩
          case measure => simp [intOf]
        · go_wp2
          go_ret
          exact ⟨A4, c4, rfl, ho, hb3.trans hb⟩
end Go.Proofs.Ytmaehbebpldpcaa
