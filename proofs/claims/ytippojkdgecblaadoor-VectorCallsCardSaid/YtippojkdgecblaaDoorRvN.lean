/-
  The reference's Number.
-/
import Derived.Test.YtippojkdgecblaaDoorNum
namespace Go.Proofs.YtippojkdgecblaaDoor
open Go.RowKit
theorem BOwn.one' (w : World) (z : Int) (b : UInt8) (hz : z = (b.toNat : Int)) : BOwn (w.alloc (.cells #[.int .u8 z] 5)) w.heap.size (some ⟨w.heap.size, 0, none⟩) 1 1 [b] := by
  subst hz
  exact ⟨⟨rfl, .inr ⟨w.heap.size, 1, _, rfl, Nat.le_refl _, heap_alloc_new w _, Nat.le_refl _, by decide, rfl, rfl⟩⟩, Nat.le_refl _⟩
/-- The loop's relation: what is left, what stands. -/
def RNumRl (w : World) (x0 : Nat) (x g : Value) (wr : World) : Prop :=
  ∃ (A : Option Addr) (c f xk : Nat) (gl : List UInt8), x = .int .u64 (xk : Int) ∧ g = .slice A gl.length c ∧ BOwn wr w.heap.size A gl.length c gl ∧ Below w.heap.size w wr ∧ hi f xk ++ gl = num x0 ∧ xk < 18446744073709551616 ∧ xk < 128 ^ f
set_option maxHeartbeats 1000000 in
theorem rnum_v (base : Nat) (A : Option Addr) (n c : Nat) (l : List UInt8) (x : Nat) (w : World) (ho : BOwn w base A n c l) (hB : base ≤ w.heap.size) (hn : n ≤ 140737488350000) (hx : x < 18446744073709551616) :
    Calls Tryd.prog 39 #[.slice A n c, .int .u64 (x : Int)] w fun e w' => ∃ A' c', e = .returned (.slice A' (n + (num x).length) c') ∧ BOwn w' base A' (n + (num x).length) c' (l ++ num x) ∧ w.grownBy w' (Value.slice A n c).ownBlock := by
  go_enter Tryd.func39, Tryd.ntmps39
  go_wp2
  go_loopw [1, 5] (fun x1 g wr => RNumRl w x x1 g wr) (fun x1 _ _ => (intOf x1).toNat)
  case atStart =>
    exact ⟨_, _, 9, x / 128, [UInt8.ofNat (x % 128)], by go_num, rfl, BOwn.one' w _ _ (by rw [UInt8.toNat_ofNat']; omega), (Below.refl _ _).alloc (Nat.le_refl _) _, rfl, by omega, by omega⟩
  case round =>
    obtain ⟨A1, c1, f, xk, gl, rfl, rfl, hown, hbel, hgs, hx64, hf⟩ := hrel
    have hgl : gl.length ≤ 10 := by have := num_len x; rw [← hgs] at this; simp at this; omega
    have HG := Lib.hid hgs; clear hgs
    have hsz := hbel.size
    by_cases h0 : 0 < xk
    · obtain ⟨f', rfl⟩ : ∃ f', f = f' + 1 := by
        rcases f with _ | f
        · simp at hf; omega
        · exact ⟨f, rfl⟩
      have hst : Hid (hi f' (xk / 128) ++ ([UInt8.ofNat (xk % 128 + 128)] ++ gl) = num x) := by have := HG.out; rw [hi_step _ xk (by omega), List.append_assoc] at this; exact this
      go_wp2_with (at_builtin; refine wpList_app rfl (.tmp 20) (.tmp 21) rfl wr.heap.size (some ⟨wr.heap.size, 0, none⟩) 1 1 [UInt8.ofNat (xk % 128 + 128)] rfl (BOwn.one' wr _ _ (by rw [UInt8.toNat_ofNat']; omega)) wr.heap.size A1 gl.length c1 gl rfl (Reads.alloc hown.reads (Nat.le_refl _) _) _ _ rfl rfl (by omega) (by simp) ?_; intro A2 c2 w2 hown2 hg2 _)
      go_roundw
      case rel =>
        refine ⟨A2, c2, f', xk / 128, [UInt8.ofNat (xk % 128 + 128)] ++ gl, by go_num, by simp; omega, ?_, (hbel.alloc hsz _).grown hg2 (by simp; omega) (by intro k hk; injection hk with hk; subst hk; exact hsz), hst.out, by omega, ?_⟩
        · have := hown2.down hsz
          simpa [Nat.add_comm] using this
        · rw [Nat.pow_succ] at hf
          exact Nat.div_lt_of_lt_mul (by rw [Nat.mul_comm]; exact hf)
      case measure => simp [intOf]; omega
    · obtain rfl : xk = 0 := by omega
      have hfin : Hid (gl = num x) := by have := HG.out; rw [hi_zero] at this; exact this
      have hnl := num_len x
      go_wp2_with (at_builtin; refine wpList_app rfl (.tmp 23) (.tmp 24) rfl base A n c l rfl (ho.below hbel) wr.heap.size A1 gl.length c1 gl rfl hown.reads (n + (num x).length) (l ++ num x) (by rw [hfin.out]) (by rw [hfin.out]) (by omega) (by omega) ?_; intro A2 c2 w2 hown2 hg2 _)
      go_ret
      refine ⟨A2, c2, rfl, hown2, ⟨hg2.os.trans hbel.os, hg2.tape.trans hbel.tape, hg2.output.trans hbel.output, Nat.le_trans hbel.size hg2.size, fun k hk hne => (hg2.block k (by omega) hne).trans (hbel.block k hk)⟩⟩
end Go.Proofs.YtippojkdgecblaaDoor
