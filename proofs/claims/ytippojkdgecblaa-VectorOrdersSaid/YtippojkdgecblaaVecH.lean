/-
  What VectorOrders says, in plain Lean.
-/
import Derived.Test.YtippojkdgecblaaVecG
namespace Go.Proofs.Ytippojkdgecblaa
open Go.RowKit
def turnedV (n : Int) : Int := if n = 2 then 3 else if n = 3 then 2 else n
theorem turned_v (n : Int) (w : World) : Calls Try.prog 13 #[.int .i64 n] w fun e w' => e = .returned (.int .i64 (turnedV n)) ∧ w = w' := by
  by_cases b2 : n = 2
  · subst b2
    go_enter Try.func13, Try.ntmps13
    go_wp2
    go_ret
    exact ⟨rfl, rfl⟩
  · by_cases b3 : n = 3
    · subst b3
      go_enter Try.func13, Try.ntmps13
      go_wp2
      go_ret
      exact ⟨rfl, rfl⟩
    · have d2 : (n == 2) = false := by simpa using b2
      have d3 : (n == 3) = false := by simpa using b3
      have HT := Lib.hid (show turnedV n = n by rw [turnedV, if_neg b2, if_neg b3])
      clear b2 b3
      go_enter Try.func13, Try.ntmps13
      go_wp2
      go_ret
      exact ⟨by rw [HT.out]; rfl, rfl⟩
theorem cmpF_turn (f g : Int → Nat) : cmpF g f = turnedV (cmpF f g) := by
  unfold cmpF
  cases ltN f g 16 <;> cases ltN g f 16 <;> rfl
theorem cmp_turn (a b : List (Int × Nat)) (ha : okV 0 a = true) (hb : okV 0 b = true) : cmpV b a = turnedV (cmpV a b) := by
  rw [cmpV, cmpV, ha, hb]
  exact cmpF_turn _ _
theorem ltN_none (f g : Int → Nat) : ∀ k : Nat, ltN f g k = false → ∀ e : Int, 1 ≤ e → e ≤ k → g e ≤ f e
  | 0, _, e, h1, h2 => by omega
  | k + 1, h, e, h1, h2 => by
    rw [ltN, Bool.or_eq_false_iff] at h
    by_cases hk : e ≤ k
    · exact ltN_none f g k h.1 e h1 hk
    · have : (k : Int) + 1 = e := by omega
      have h3 := of_decide_eq_false h.2
      rw [this] at h3
      omega
theorem ltN_some (f g : Int → Nat) : ∀ k : Nat, ltN f g k = true → ∃ e : Int, 1 ≤ e ∧ e ≤ k ∧ f e < g e
  | 0, h => by cases h
  | k + 1, h => by
    rw [ltN, Bool.or_eq_true] at h
    rcases h with h | h
    · obtain ⟨e, h1, h2, h3⟩ := ltN_some f g k h
      exact ⟨e, h1, by omega, h3⟩
    · exact ⟨(k : Int) + 1, by omega, by omega, of_decide_eq_true h⟩
/-- All values are at most the other's. -/
def leF (f g : Int → Nat) : Prop := ∀ e : Int, 1 ≤ e → e ≤ 16 → f e ≤ g e
theorem least_iff (a b : List (Int × Nat)) (ha : okV 0 a = true) (hb : okV 0 b = true) : leastV a b = true ↔ leF (val a) (val b) := by
  rw [leastV, decide_eq_true_iff, cmpV, ha, hb, if_pos (by rfl)]
  constructor
  · intro h e h1 h2
    refine ltN_none (val b) (val a) 16 ?_ e h1 (by omega)
    revert h
    unfold cmpF
    cases ltN (val a) (val b) 16 <;> cases ltN (val b) (val a) 16 <;> simp
  · intro h
    have h2 := ltN_false (val b) (val a) 16 fun e h1 h2 => h e h1 (by omega)
    unfold cmpF
    rw [h2]
    cases ltN (val a) (val b) 16 <;> simp
theorem same_iff (a b : List (Int × Nat)) (ha : okV 0 a = true) (hb : okV 0 b = true) : cmpV a b = 1 ↔ a = b := by
  rw [cmpV, ha, hb, if_pos (by rfl)]
  constructor
  · intro h
    have h1 : ltN (val a) (val b) 16 = false ∧ ltN (val b) (val a) 16 = false := by
      revert h
      unfold cmpF
      cases ltN (val a) (val b) 16 <;> cases ltN (val b) (val a) 16 <;> simp
    rw [canon_V ha, canon_V hb]
    refine ofV_congr fun e h2 h3 => ?_
    have h4 := ltN_none _ _ 16 h1.1 e h2 (by omega)
    have h5 := ltN_none _ _ 16 h1.2 e h2 (by omega)
    omega
  · rintro rfl
    unfold cmpF
    rw [ltN_false (val a) (val a) 16 fun e _ _ => Nat.le_refl _]
    rfl
end Go.Proofs.Ytippojkdgecblaa
