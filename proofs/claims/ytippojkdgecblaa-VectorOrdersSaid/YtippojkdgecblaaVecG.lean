/-
  Vectors: Read, of the bytes of a vector that may be; least, turned.
-/
import Derived.Test.YtippojkdgecblaaVecF
namespace Go.Proofs.Ytippojkdgecblaa
open Go.RowKit
set_option maxHeartbeats 2000000 in
theorem read_v (w : World) (A : Option Addr) (n c : Nat) (l : List (Int × Nat)) (hr : BReads w w.heap.size A n (vecB l)) (hn : n ≤ 1000) (ho : okV 0 l = true) (hf : fitV l) :
    Calls Try.prog 16 #[.slice A n c] w fun e w' => ∃ A' n' c', e = .returned (.tuple #[.slice A' n' c', .int .i64 0]) ∧ VR w' A' n' l ∧ Below w.heap.size w w' := by
  have HO := Lib.hid ho
  have HF := Lib.hid hf
  clear ho hf
  go_enter Try.func16, Try.ntmps16
  go_wp2_with fail
  refine (new_any w.heap.size A n c (vecB l) w hr (Nat.le_refl _) (by omega)).mono ?_
  rintro e w1 ⟨gp, gr, A1, c1, rfl, hgp, hR, hb1⟩
  have HR := Lib.hid hR
  clear hR
  go_wp2_with fail
  refine (from_v w1 gp gr n c1 A1 l HR.out HO.out HF.out).mono ?_
  rintro e w2 ⟨A2, n2, c2, rfl, hv2, ⟨A3, n3, c3, hR3⟩, hb2⟩
  have hs2 : Below w.heap.size w w2 := hb1.trans (hb2.mono hgp)
  have HV2 := Lib.hid hv2
  have HR3 := Lib.hid hR3
  clear hv2 hR3 hb1 hb2
  go_wp2_with fail
  refine (end_any w2 gp gr n3 c3 A3 [] 0 HR3.out).mono ?_
  rw [show rdEnd (([] : List UInt8), 0) = 0 from rfl]
  rintro e _ ⟨rfl, rfl⟩
  go_wp2_with fail
  refine (check_r HV2.out).mono ?_
  rw [HO.out]
  rintro e w3 ⟨rfl, hb3⟩
  have HV3 := Lib.hid (HV2.out.step hb3)
  have hs3 := hs2.trans (hb3.mono hs2.size)
  go_wp2
  go_ret2
  exact ⟨A2, n2, c2, rfl, HV3.out, hs3⟩
def leastV (a b : List (Int × Nat)) : Bool := decide (cmpV a b = 2 ∨ cmpV a b = 1)
theorem least_r {w : World} {A1 A2 : Option Addr} {n1 n2 c1 c2 : Nat} {l1 l2 : List (Int × Nat)} (h1 : VR w A1 n1 l1) (h2 : VR w A2 n2 l2) :
    Calls Try.prog 14 #[.slice A1 n1 c1, .slice A2 n2 c2] w fun e w' => e = .returned (.bool (leastV l1 l2)) ∧ Below w.heap.size w w' := by
  obtain ⟨v, hv⟩ : ∃ v, cmpV l1 l2 = v := ⟨_, rfl⟩
  have HL := Lib.hid (show leastV l1 l2 = decide (v = 2 ∨ v = 1) by rw [leastV, hv])
  have HV := Lib.hid hv
  clear hv
  by_cases b2 : v = 2
  · subst b2
    go_enter Try.func14, Try.ntmps14
    go_wp2_with fail
    refine (compare_r h1 h2).mono ?_
    rw [HV.out]
    rintro e w1 ⟨rfl, hb⟩
    go_wp2
    go_ret
    exact ⟨by rw [HL.out]; rfl, hb⟩
  · by_cases b1 : v = 1
    · subst b1
      go_enter Try.func14, Try.ntmps14
      go_wp2_with fail
      refine (compare_r h1 h2).mono ?_
      rw [HV.out]
      rintro e w1 ⟨rfl, hb⟩
      go_wp2
      go_ret
      exact ⟨by rw [HL.out]; rfl, hb⟩
    · have d2 : (v == 2) = false := by simpa using b2
      have d1 : (v == 1) = false := by simpa using b1
      have HN := Lib.hid (show decide (v = 2 ∨ v = 1) = false from decide_eq_false (by omega))
      clear b1 b2
      go_enter Try.func14, Try.ntmps14
      go_wp2_with fail
      refine (compare_r h1 h2).mono ?_
      rw [HV.out]
      rintro e w1 ⟨rfl, hb⟩
      go_wp2
      go_ret
      exact ⟨by rw [HL.out, HN.out]; rfl, hb⟩
end Go.Proofs.Ytippojkdgecblaa
