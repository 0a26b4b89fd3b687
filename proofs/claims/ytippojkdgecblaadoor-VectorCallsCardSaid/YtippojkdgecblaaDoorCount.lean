/-
  Reader.Count, where it has what it asks for.
-/
import Derived.Test.YtippojkdgecblaaDoorRdrB
namespace Go.Proofs.YtippojkdgecblaaDoor
open Go.RowKit
set_option maxHeartbeats 2000000 in
theorem count_ok {lo : Nat} (w : World) (gp gr n c : Nat) (A : Option Addr) (l : List UInt8) (h : Rdr lo w gp gr A n c l 0) (hk : (numR l).2.2 = 0) (hx : (numR l).1 ≤ 16) :
    Calls Tryd.prog 56 #[.pointer (some ⟨gr, 0, none⟩), .int .i64 16] w fun r w' => r = .returned (.int .i64 ((numR l).1 : Int)) ∧ (∃ A' n' c', Rdr lo w' gp gr A' n' c' (l.drop (numR l).2.1) 0) ∧ w.grownBy w' (some gp) := by
  have h1 := h.ptr
  have h2 := h.b
  have hbd := numR_bd l
  generalize hxx : (numR l).1 = x at *
  generalize hmm : (numR l).2.1 = m at *
  have hmn : m ≤ n := by rw [← h.reads.len]; exact hbd.2.1 hk
  have hmc : m ≤ c := Nat.le_trans hmn h.cap
  have hcall : Hid (Calls Tryd.prog 70 #[.slice A n c] w fun e w' => e = .returned (.tuple #[.int .u64 (x : Int), .int .i64 (m : Int), .int .i64 0]) ∧ w = w') := by
    have := numb_any gp A n c l w h.reads h.small
    rw [hxx, hmm, hk] at this
    exact this
  have hcut := Reads.cut h.reads (k := m) (cap := c) hmn h.cap
  rw [← List.map_drop] at hcut
  simp only [Nat.mul_one] at hcut
  obtain ⟨A2, hif⟩ : ∃ A2, (if c = m then A else Option.map (fun x => x.add m) A) = A2 := ⟨_, rfl⟩
  rw [hif] at hcut
  have hset := Lib.hid (h.setB (c' := c - m) hcut (Nat.sub_le_sub_right h.cap m) (Nat.le_trans (Nat.sub_le _ _) h.small) (cut_low hif h.low)).drew
  have hf0 := h.free 0
  have H := Lib.hid h
  have g1 : decide (16 < x) = false := decide_eq_false (by omega)
  have g2 : decide ((16 : Int) < (x : Int)) = false := by simp; omega
  clear h hbd hxx hmm hk hcut
  go_enter Tryd.func56, Tryd.ntmps56
  go_wp2_with (first | (go_at_call 69; refine (right_any w gp gr n c A l 0 H.out).mono ?_; rintro e _ ⟨rfl, rfl⟩) | (go_at_call 70; refine hcall.out.mono ?_; rintro e _ ⟨rfl, rfl⟩))
  go_region
  all_goals go_wp2
  all_goals go_ret
  all_goals exact ⟨rfl, ⟨_, _, _, hset.out⟩, gb_drew (gb_set (World.grownBy.refl _ _) (.inl rfl) _)⟩
end Go.Proofs.YtippojkdgecblaaDoor
