/-
  The walk of TableNames.
-/
import Derived.Test.YtohcdnbchidjeaaTabL
namespace Go.Proofs.Ytohcdnbchidjeaa
open Go.RowKit
set_option maxHeartbeats 2000000 in
theorem names_v (w : World) : Calls Try.prog 3 #[] w fun e w' => e = .returned (.bool true) ∧ Below w.heap.size w w' := by
  have RA : Hid (∀ W, Calls Try.prog 12 #[.string ⟨#[97]⟩] W fun e w' => e = .returned (.int .u32 3826002220) ∧ W = w') := Lib.hid fun W => by
    have h := rank_v ⟨#[97]⟩ W (by decide)
    rwa [show rk ⟨#[97]⟩ = 3826002220 by decide +kernel] at h
  have RE : Hid (∀ W, Calls Try.prog 12 #[.string ⟨#[]⟩] W fun e w' => e = .returned (.int .u32 2166136261) ∧ W = w') := Lib.hid fun W => by
    have h := rank_v ⟨#[]⟩ W (by decide)
    rwa [show rk ⟨#[]⟩ = 2166136261 by decide +kernel] at h
  have UF : Hid ((Tr.put .nil ⟨#[]⟩ ⟨#[120]⟩).flat = [(⟨#[]⟩, ⟨#[120]⟩)]) := Lib.hid (by rw [put_flat Tr.nil _ _ (show asc Tr.nil.flat from trivial)]; rfl)
  have UG : Hid ((Tr.put .nil ⟨#[]⟩ ⟨#[120]⟩).get ⟨#[]⟩ = some ⟨#[120]⟩) := Lib.hid (by rw [get_flat _ _ (by rw [UF.out]; exact ⟨fun y hy => by simp at hy, trivial⟩), UF.out, getL, if_pos (kbeq_self _)])
  have UC : Hid ((Tr.put .nil ⟨#[]⟩ ⟨#[120]⟩).cnt = 1) := Lib.hid (by rw [← flat_len, UF.out]; rfl)
  have T1 := Lib.hid (TCell.new w)
  have B1 := Lib.hid (show Below w.heap.size w (w.alloc (.cells #[.pointer none] 24)) from (Below.refl _ _).alloc (Nat.le_refl _) _)
  go_enter Try.func3, Try.ntmps3
  go_wp2_with fail
  generalize w.alloc (.cells #[.pointer none] 24) = w1 at *
  refine (get_v ⟨#[]⟩ .nil w1.heap.size none w1 T1.out.2.2.2.1 (Nat.le_refl _)).mono ?_
  rw [show getR (Tr.nil.get ⟨#[]⟩) = .tuple #[.string ⟨#[]⟩, .bool false] from rfl]
  rintro e w2 ⟨rfl, hb2⟩
  have T2 := Lib.hid (T1.out.below hb2)
  have B2 := Lib.hid (btrans B1.out hb2 B1.out.size)
  have c2 := T2.out.1
  clear hb2 T1
  go_wp2_with fail
  refine (put_v ⟨#[]⟩ ⟨#[120]⟩ .nil w2.heap.size none w2 T2.out.2.2.2.1 (Nat.le_refl _) (by simp [Tr.cnt]) (by decide)).mono ?_
  rintro e w3 ⟨pu, rfl, r3, hb3⟩
  have TU := Lib.hid (TCell.box w3 r3)
  have T4 := Lib.hid ((T2.out.below hb3).alloc (.cells #[.pointer pu] 24))
  have B4 := Lib.hid ((btrans B2.out hb3 B2.out.size).alloc (Nat.le_trans B2.out.size hb3.size) (.cells #[.pointer pu] 24))
  clear hb3 r3 T2 c2
  have cu := TU.out.1
  go_wp2_with fail
  generalize w3.alloc (.cells #[.pointer pu] 24) = w4 at *
  refine (get_v ⟨#[]⟩ _ w4.heap.size pu w4 TU.out.2.2.2.1 (Nat.le_refl _)).mono ?_
  rw [UG.out, show getR (some ⟨#[120]⟩) = .tuple #[.string ⟨#[120]⟩, .bool true] from rfl]
  rintro e w5 ⟨rfl, hb5⟩
  have T5 := Lib.hid (T4.out.below hb5)
  have TU5 := Lib.hid (TU.out.below hb5)
  have B5 := Lib.hid (btrans B4.out hb5 B4.out.size)
  clear hb5 cu T4 TU
  go_wp2_with fail
  refine (lives_v w5).mono ?_
  rintro e w6 ⟨rfl, hb6⟩
  have T6 := Lib.hid (T5.out.below hb6)
  have TU6 := Lib.hid (TU5.out.below hb6)
  have B6 := Lib.hid (btrans B5.out hb6 B5.out.size)
  clear hb6 T5 TU5
  have c6 := T6.out.1
  go_wp2_with fail
  refine (RA.out w6).mono ?_
  rintro e _ ⟨rfl, rfl⟩
  go_wp2_with fail
  refine (RE.out w6).mono ?_
  rintro e _ ⟨rfl, rfl⟩
  go_wp2_with fail
  refine (size_v .nil w6.heap.size none w6 T6.out.2.2.2.1 (Nat.le_refl _)).mono ?_
  rw [show ((Tr.nil.cnt : Nat) : Int) = 0 from rfl]
  rintro e w7 ⟨rfl, hb7⟩
  have T7 := Lib.hid (T6.out.below hb7)
  have TU7 := Lib.hid (TU6.out.below hb7)
  have B7 := Lib.hid (btrans B6.out hb7 B6.out.size)
  clear hb7 c6 T6 TU6
  have cu7 := TU7.out.1
  go_wp2_with fail
  refine (size_v _ w7.heap.size pu w7 TU7.out.2.2.2.1 (Nat.le_refl _)).mono ?_
  rw [UC.out]
  rintro e w8 ⟨rfl, hb8⟩
  have T8 := Lib.hid (T7.out.below hb8)
  have B8 := Lib.hid (btrans B7.out hb8 B7.out.size)
  clear hb8 cu7 T7 TU7
  have c8 := T8.out.1
  go_wp2_with fail
  refine (drop_v ⟨#[97]⟩ .nil w8.heap.size none w8 T8.out.2.2.2.1 (Nat.le_refl _) (by simp [Tr.cnt]) (by decide)).mono ?_
  rintro e w9 ⟨p9, rfl, r9, hb9⟩
  rw [show Tr.nil.drop ⟨#[97]⟩ = .nil from rfl] at r9
  have R9 := Lib.hid r9
  have B9 := Lib.hid (btrans B8.out hb9 B8.out.size)
  clear hb9 c8 T8 r9
  go_wp2_with fail
  refine (size_v .nil w9.heap.size p9 w9 R9.out (Nat.le_refl _)).mono ?_
  rw [show ((Tr.nil.cnt : Nat) : Int) = 0 from rfl]
  rintro e w10 ⟨rfl, hb10⟩
  have B10 := Lib.hid (btrans B9.out hb10 B9.out.size)
  clear hb10
  go_wp2
  go_ret
  exact ⟨rfl, B10.out⟩
end Go.Proofs.Ytohcdnbchidjeaa
