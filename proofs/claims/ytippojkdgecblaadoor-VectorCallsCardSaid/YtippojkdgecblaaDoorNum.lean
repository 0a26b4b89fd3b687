/-
  The walks of wire.Number and of the reference's.
-/
import Derived.Test.YtippojkdgecblaaDoorNumM
import Derived.Test.YtippojkdgecblaaDoorRev
namespace Go.Proofs.YtippojkdgecblaaDoor
open Go.RowKit
/-- The loop's relation: what has been gathered, what is left. -/
def NumRel (w : World) (x0 : Nat) (x g : Value) (wr : World) : Prop :=
  ∃ (A : Option Addr) (c f xk : Nat) (gl : List UInt8), x = .int .u64 (xk : Int) ∧ g = .slice A gl.length c ∧ BOwn wr w.heap.size A gl.length c gl ∧ Below w.heap.size w wr ∧ xk < 128 ^ (f + 1) ∧ gl ++ gs (f + 1) xk = gs 10 x0 ∧ xk < 18446744073709551616
set_option maxHeartbeats 400000 in
theorem number_any (B : Nat) (A : Option Addr) (n c : Nat) (l : List UInt8) (x : Nat) (w : World) (hr : BReads w B A n l) (hB : B ≤ w.heap.size) (hn : n ≤ 140737488350000) (hx : x < 18446744073709551616) :
    Calls Tryd.prog 38 #[.slice A n c, .int .u64 (x : Int)] w fun e w' => ∃ A' c', e = .returned (.slice A' (n + (num x).length) c') ∧ BOwn w' w.heap.size A' (n + (num x).length) c' (l ++ num x) ∧ Below w.heap.size w w' := by
  go_enter Tryd.func38, Tryd.ntmps38
  go_wp2
  go_loopw [1, 5] (fun x1 g wr => NumRel w x x1 g wr) (fun x1 _ _ => (intOf x1).toNat)
  case atStart => exact ⟨none, 0, 9, x, [], rfl, rfl, BOwn.nil_ _ _, Below.refl _ _, by omega, by simp, hx⟩
  case round =>
    obtain ⟨A1, c1, f, xk, gl, rfl, rfl, hown, hbel, hf, hgs, hx64⟩ := hrel
    have hgl : gl.length ≤ 10 := by have := gs_len 10 x; rw [← hgs] at this; simp at this; omega
    have hhd : (gl ++ [UInt8.ofNat (xk % 128 + 128)])[0]? = some (UInt8.ofNat (x % 128 + 128)) := by
      have e : (gl ++ gs (f + 1) xk)[0]? = some (UInt8.ofNat (x % 128 + 128)) := by rw [hgs]; rfl
      rcases gl with _ | ⟨y, gl⟩
      · simpa [gs_succ] using e
      · simpa using e
    have Hhd := Lib.hid hhd; clear hhd
    have HG := Lib.hid hgs; clear hgs
    by_cases h0 : xk / 128 = 0
    · have hb : ((xk : Int) / 128 == 0) = true := by rw [beq_iff_eq]; omega
      have hfin : Hid ((gl ++ [UInt8.ofNat (xk % 128 + 128)]) = gs 10 x) := by have := HG.out; rw [gs_last f xk h0] at this; exact this
      have hlen : Hid (gl.length + 1 = (num x).length) := by
        have h1 := congrArg List.length (gs_num x)
        rw [← hfin.out] at h1
        simp only [List.length_reverse, List.length_cons, List.length_drop, List.length_append, List.length_nil] at h1
        exact (by omega : gl.length + 1 = (num x).length)
      have hrv : Hid (((gl ++ [UInt8.ofNat (xk % 128 + 128)]).set 0 (UInt8.ofNat (x % 128))).reverse = num x) := by rw [hfin.out]; exact gs_set x
      clear h0
      go_wp2_with (first
        | (at_builtin; refine wpList_app rfl (.tmp 6) (.tmp 11) rfl w.heap.size A1 gl.length c1 gl rfl (hown.alloc _) (wr.heap.size + 1) (some ⟨wr.heap.size, 0, none⟩) 1 1 [UInt8.ofNat (xk % 128 + 128)] rfl (BReads.one _ _ _ (grp_byte xk hx64)) _ _ rfl rfl (by omega) (by have := hbel.size; simp; omega) ?_
           intro A2 c2 w2 hown2 hg2 _
           have hbel2 : Below w.heap.size w w2 := below_app (hbel.alloc hbel.size _) hg2 (hown.alloc _) (Nat.le_refl _) (by have := hbel.size; simp; omega)
           obtain ⟨g2, rfl, hg2b, hg2l⟩ := hown2.addr (by omega)
           have hc2 := hown2.cell Hhd.out
           have hf2 := hown2.free 0
           have hs2 := Lib.hid (hown2.set_ 0 (UInt8.ofNat (x % 128)))
           clear hg2 hown hbel))
      rw [low_byte x]
      refine (reverse_own w.heap.size g2 _ c2 _ _ hs2.out (by omega)).mono ?_
      rintro e w3 ⟨rfl, hown3, hg3⟩
      rw [hrv.out] at hown3
      have hbel3 : Below w.heap.size w w3 := below_gb (hbel2.setCell hg2b _) hg3 (by simpa [World.setCell] using hbel2.size) hg2b
      have hnl := num_len x
      rw [hlen.out] at hown3 ⊢
      clear hs2 hc2 hf2 hown2
      go_wp2_with fail
      refine (clone_any B A n c l w3 (Reads.below hr (hbel3.mono hB)) (Nat.le_trans hB hbel3.size) (by omega)).mono ?_
      rintro e w4 ⟨A4, c4, rfl, hown4, hbel4⟩
      go_wp2_with (at_builtin; refine wpList_app rfl (.tmp 25) (.tmp 26) rfl w3.heap.size A4 n c4 l rfl hown4 w4.heap.size (some ⟨g2, 0, none⟩) (num x).length c2 (num x) rfl (hown3.below hbel4).reads _ _ rfl rfl (by omega) hbel4.size ?_; intro A5 c5 w5 hown5 hg5 _)
      go_ret
      exact ⟨A5, c5, rfl, hown5.down hbel3.size, below_app (hbel3.trans (hbel4.mono hbel3.size)) hg5 hown4 hbel3.size (hbel3.trans (hbel4.mono hbel3.size)).size⟩
    · have hb : ((xk : Int) / 128 == 0) = false := by rw [beq_eq_false_iff_ne]; omega
      have h1 : f ≠ 0 := by rintro rfl; omega
      obtain ⟨f', rfl⟩ : ∃ f', f = f' + 1 := ⟨f - 1, by omega⟩
      have hst : Hid ((gl ++ [UInt8.ofNat (xk % 128 + 128)]) ++ gs (f' + 1) (xk / 128) = gs 10 x) := by have := HG.out; rw [gs_step _ xk h0] at this; rw [List.append_assoc]; exact this
      go_wp2_with (at_builtin; refine wpList_app rfl (.tmp 6) (.tmp 11) rfl w.heap.size A1 gl.length c1 gl rfl (hown.alloc _) (wr.heap.size + 1) (some ⟨wr.heap.size, 0, none⟩) 1 1 [UInt8.ofNat (xk % 128 + 128)] rfl (BReads.one _ _ _ (grp_byte xk hx64)) _ _ rfl rfl (by omega) (by have := hbel.size; simp; omega) ?_; intro A2 c2 w2 hown2 hg2 _)
      go_roundw
      case rel =>
        refine ⟨A2, c2, f', xk / 128, gl ++ [UInt8.ofNat (xk % 128 + 128)], by go_num, by simp, by simpa using hown2, below_app (hbel.alloc hbel.size _) hg2 (hown.alloc _) (Nat.le_refl _) (by have := hbel.size; simp; omega), ?_, hst.out, by omega⟩
        rw [Nat.pow_succ] at hf
        exact Nat.div_lt_of_lt_mul (by rw [Nat.mul_comm]; exact hf)
      case measure => simp [intOf]; omega
end Go.Proofs.YtippojkdgecblaaDoor
