/-
  The walks of wire's leaves: joins, four bytes, and the reference's.
-/
import Derived.Test.YtclgnfgafcbhhaaBytes
import Derived.Test.YtclgnfgafcbhhaaJoinM
namespace Go.Proofs.Ytclgnfgafcbhhaa
open Go.RowKit
theorem mul16_in (x y : Nat) (hx : x < 65521) (hy : y < 131072) : (x : Int) * (y : Int) ≤ 8589934592 := by
  have : x * y ≤ 65536 * 131072 := Nat.mul_le_mul (by omega) (by omega)
  have h2 : x * y ≤ 8589934592 := this
  rw [← Int.natCast_mul]
  omega
set_option maxHeartbeats 400000 in
theorem pick_any (n : Int) (m : Nat) (w : World) (h0 : 1 ≤ m) (hm : m ≤ 140737488355328) :
    Calls Try.prog 28 #[.int .i64 n, .int .i64 (m : Int)] w fun e w' => e = .returned (.int .i64 (n % (m : Int))) ∧ w = w' := by
  go_enter Try.func28, Try.ntmps28
  go_wp2
  · have hlt : n.tmod m < 0 := by assumption
    have hb := Int.tmod_lt_of_pos n (show (0 : Int) < m by omega)
    have hb2 := Int.lt_tmod_of_pos n (show (0 : Int) < m by omega)
    go_ret
    refine ⟨ret_int ?_, rfl⟩
    rw [IntWalk.wrap64_in _ ⟨by omega, by omega⟩, Int.tmod_eq_emod]
    split <;> rename_i h
    · rw [Int.tmod_eq_emod, if_pos h] at hlt
      have := Int.emod_nonneg n (show (m : Int) ≠ 0 by omega)
      omega
    · omega
  · have hge : 0 ≤ n.tmod m := by assumption
    go_ret
    refine ⟨ret_int ?_, rfl⟩
    rw [Int.tmod_eq_emod] at hge ⊢
    split <;> rename_i h
    · omega
    · rw [if_neg h] at hge
      have := Int.emod_lt_of_pos n (show (0 : Int) < m by omega)
      omega
set_option maxHeartbeats 400000 in
theorem four_any (x : Nat) (w : World) (hx : x < 4294967296) :
    Calls Try.prog 31 #[.int .u32 (x : Int)] w fun e w' => ∃ A' c', e = .returned (.slice A' 4 c') ∧ BOwn w' w.heap.size A' 4 c' (be4 x) ∧ Below w.heap.size w w' := by
  go_enter Try.func31, Try.ntmps31
  go_wp2
  go_ret
  refine ⟨_, 4, rfl, ⟨⟨rfl, .inr ⟨w.heap.size, 4, _, rfl, Nat.le_refl _, heap_alloc_new w _, Nat.le_refl _, by decide, rfl, ?_⟩⟩, Nat.le_refl _⟩, (Below.refl _ _).alloc (Nat.le_refl _) _⟩
  simp only [be4, u8v, List.map_cons, List.map_nil, UInt8.toNat_ofNat']
  simp
  omega
set_option maxHeartbeats 400000 in
theorem told_any (B : Nat) (A : Option Addr) (n c : Nat) (l : List UInt8) (w : World) (hr : BReads w B A n l) (hn : 4 ≤ n) (hn2 : n ≤ 140737488355328) :
    Calls Try.prog 33 #[.slice A n c] w fun e w' => e = .returned (.int .u32 (tld l : Nat)) ∧ ∃ k, w' = w.drewN k := by
  obtain ⟨ad, b0, rfl, _, h0, e0, _, _⟩ := hr.at_ (k := 0) (by omega)
  obtain ⟨_, b1, he, _, h1, e1, _, _⟩ := hr.at_ (k := 1) (by omega)
  injection he with he; subst he
  obtain ⟨_, b2, he, _, h2, e2, _, _⟩ := hr.at_ (k := 2) (by omega)
  injection he with he; subst he
  obtain ⟨_, b3, he, _, h3, e3, _, _⟩ := hr.at_ (k := 3) (by omega)
  injection he with he; subst he
  rw [add_zero] at h0
  rw [add_pos _ _ (by decide)] at h1 h2 h3
  have hn0 : 0 < n := by omega
  have i0 : (0 : Int) < n := by omega
  have i1 : (1 : Int) < n := by omega
  have i2 : (2 : Int) < n := by omega
  have i3 : (3 : Int) < n := by omega
  go_enter Try.func33, Try.ntmps33
  go_wp2
  go_quiet (fail)
  go_wp2
  go_ret
  refine ⟨ret_int ?_, nq, rfl⟩
  rw [or4 _ _ _ _ b0.toNat_lt b1.toNat_lt b2.toNat_lt b3.toNat_lt]
  simp only [tld, List.getD_eq_getElem?_getD, e0.out, e1.out, e2.out, e3.out, Option.getD_some]
set_option maxHeartbeats 400000 in
theorem rtold_any (B : Nat) (A : Option Addr) (n c : Nat) (l : List UInt8) (w : World) (hr : BReads w B A n l) (hn : 4 ≤ n) (hn2 : n ≤ 140737488355328) :
    Calls Try.prog 34 #[.slice A n c] w fun e w' => e = .returned (.int .u32 (tld l : Nat)) ∧ ∃ k, w' = w.drewN k := by
  obtain ⟨ad, b0, rfl, _, h0, e0, _, _⟩ := hr.at_ (k := 0) (by omega)
  obtain ⟨_, b1, he, _, h1, e1, _, _⟩ := hr.at_ (k := 1) (by omega)
  injection he with he; subst he
  obtain ⟨_, b2, he, _, h2, e2, _, _⟩ := hr.at_ (k := 2) (by omega)
  injection he with he; subst he
  obtain ⟨_, b3, he, _, h3, e3, _, _⟩ := hr.at_ (k := 3) (by omega)
  injection he with he; subst he
  rw [add_zero] at h0
  rw [add_pos _ _ (by decide)] at h1 h2 h3
  have hn0 : 0 < n := by omega
  have i0 : (0 : Int) < n := by omega
  have i1 : (1 : Int) < n := by omega
  have i2 : (2 : Int) < n := by omega
  have i3 : (3 : Int) < n := by omega
  go_enter Try.func34, Try.ntmps34
  go_wp2
  go_quiet (fail)
  go_wp2
  go_ret
  refine ⟨ret_int ?_, nq, rfl⟩
  simp only [tld, List.getD_eq_getElem?_getD, e0.out, e1.out, e2.out, e3.out, Option.getD_some]
  omega
/-- The tests that a join makes, as the walk spells them. -/
theorem join_tests (a b : Nat) (n : Int) (h : joinOk a b n = true) : a / 65536 < 65521 ∧ a % 65536 < 65521 ∧ b / 65536 < 65521 ∧ b % 65536 < 65521 ∧ 0 ≤ n :=
  of_decide_eq_true h
set_option maxHeartbeats 1000000 in
theorem join_yes (a b : Nat) (n : Nat) (w : World) (ha : a < 4294967296) (hb : b < 4294967296) (hn : n ≤ 9223372036854775807) (h : joinOk a b n = true) :
    Calls Try.prog 12 #[.int .u32 (a : Int), .int .u32 (b : Int), .int .i64 (n : Int)] w fun e w' => e = .returned (.tuple #[.int .u32 ((joinY a b n * 65536 + joinX a b : Nat) : Int), .int .i64 0]) ∧ w = w' := by
  obtain ⟨h1, h2, h3, h4, _⟩ := join_tests a b n h
  clear h
  have ea := and16 a ha
  have eb := and16 b hb
  have g1 : decide ((65521 : Int) ≤ (a : Int) / 65536) = false := by simp; omega
  have g2 : decide ((65521 : Int) ≤ (a : Int) % 65536) = false := by simp; omega
  have g3 : decide ((65521 : Int) ≤ (b : Int) / 65536) = false := by simp; omega
  have g4 : decide ((65521 : Int) ≤ (b : Int) % 65536) = false := by simp; omega
  have g5 : decide ((n : Int) < 0) = false := by simp
  have hp := joinY_int a b n
  obtain ⟨p1, p2, p3⟩ := join_bd a n
  have P3 := Lib.hid p3; clear p3
  have HP := Lib.hid hp; clear hp
  go_enter Try.func12, Try.ntmps12
  go_wp2
  go_ret2
  refine ⟨?_, rfl⟩
  have l1 : joinY a b n < 65521 := Nat.mod_lt _ (by decide)
  have l2 : joinX a b < 65521 := Nat.mod_lt _ (by decide)
  rw [HP.out, joinX_int a b, or_join (joinY a b n) (joinX a b) l1 l2, show (((joinY a b n * 65536 + joinX a b : Nat) : Int) % 4294967296) = ((joinY a b n * 65536 + joinX a b : Nat) : Int) by omega]
  rfl
/-- A join that is not allowed. -/
theorem join_no (a b : Nat) (n : Int) (w : World) (ha : a < 4294967296) (hb : b < 4294967296) (h : joinOk a b n = false) :
    Calls Try.prog 12 #[.int .u32 (a : Int), .int .u32 (b : Int), .int .i64 n] w fun e w' => e = .returned (.tuple #[.int .u32 0, .int .i64 2]) ∧ w = w' := by
  have ea := and16 a ha
  have eb := and16 b hb
  rcases join_fails a b n h with g1 | ⟨g1, g2⟩ | ⟨g1, g2, g3⟩ | ⟨g1, g2, g3, g4⟩ | ⟨g1, g2, g3, g4, g5⟩
  all_goals
    clear h
    go_enter Try.func12, Try.ntmps12
    go_wp2
    go_ret2
    exact ⟨rfl, rfl⟩
set_option maxHeartbeats 1000000 in
/-- The reference's join. -/
theorem rjoin_yes (a b : Nat) (n : Nat) (w : World) (ha : a < 4294967296) (hb : b < 4294967296) (hn : n ≤ 9223372036854775807) (h : joinOk a b n = true) :
    Calls Try.prog 13 #[.int .u32 (a : Int), .int .u32 (b : Int), .int .i64 (n : Int)] w fun e w' => e = .returned (.tuple #[.int .u32 ((joinY a b n * 65536 + joinX a b : Nat) : Int), .int .i64 0]) ∧ w = w' := by
  obtain ⟨h1, h2, h3, h4, _⟩ := join_tests a b n h
  clear h
  have g1 : decide ((65521 : Int) ≤ (a : Int) / 65536) = false := by simp; omega
  have g2 : decide ((65521 : Int) ≤ (a : Int) % 65536) = false := by simp; omega
  have g3 : decide ((65521 : Int) ≤ (b : Int) / 65536) = false := by simp; omega
  have g4 : decide ((65521 : Int) ≤ (b : Int) % 65536) = false := by simp; omega
  have g5 : decide ((n : Int) < 0) = false := by simp
  have hp := rjoinY_int a b n
  obtain ⟨p1, p2⟩ := rjoin_bd a n
  have HP := Lib.hid hp; clear hp
  go_enter Try.func13, Try.ntmps13
  go_wp2
  go_ret2
  exact ⟨ret2i (by rw [HP.out, joinX]; omega) rfl, rfl⟩
theorem rjoin_no (a b : Nat) (n : Int) (w : World) (ha : a < 4294967296) (hb : b < 4294967296) (h : joinOk a b n = false) :
    Calls Try.prog 13 #[.int .u32 (a : Int), .int .u32 (b : Int), .int .i64 n] w fun e w' => e = .returned (.tuple #[.int .u32 0, .int .i64 2]) ∧ w = w' := by
  rcases rjoin_fails a b n h with g1 | ⟨g1, g2⟩ | ⟨g1, g2, g3⟩ | ⟨g1, g2, g3, g4⟩ | ⟨g1, g2, g3, g4, g5⟩
  all_goals
    clear h
    go_enter Try.func13, Try.ntmps13
    go_wp2
    go_ret2
    exact ⟨rfl, rfl⟩
end Go.Proofs.Ytclgnfgafcbhhaa
