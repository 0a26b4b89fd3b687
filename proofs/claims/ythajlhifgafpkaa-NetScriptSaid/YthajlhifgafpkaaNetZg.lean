/-
  Nets, in plain Lean: the law's call.
-/
import Derived.Test.YthajlhifgafpkaaNetZe
import Derived.Test.YthajlhifgafpkaaNetZf
namespace Go.Proofs.Ythajlhifgafpkaa
theorem NS.good.call {s : NS} (h : s.good) (k a b : Int) (n : Nat) (l : List UInt8) : (s.call k a b n l).2.good := by
  unfold NS.call
  split
  · exact h.up a b
  · split
    · exact h.down a b
    · split
      · exact h.take n
      · split
        · exact h.take n
        · split
          · exact h.twice n
          · exact h.send a b l
theorem NS.small.call {s : NS} {N : Nat} (h : s.small N) (k a b : Int) (n : Nat) (l : List UInt8) : (s.call k a b n l).2.small (N + 1) := by
  unfold NS.call
  split
  · exact h.up a b
  · split
    · exact (h.down a b).more (Nat.le_succ _)
    · split
      · exact (h.take n).more (Nat.le_succ _)
      · split
        · exact (h.take n).more (Nat.le_succ _)
        · split
          · exact h.twice n
          · exact h.send a b l
theorem up_err {s : NS} {a b : Int} (h : (s.up a b).1 ≠ 0) : (s.up a b).2 = s := by
  unfold NS.up at h ⊢
  split
  · rfl
  · split
    · rfl
    · rename_i h1 h2
      rw [if_neg h1, if_neg h2] at h
      exact absurd rfl h
theorem up_fl (s : NS) (a b : Int) : (s.up a b).2.fl = s.fl ∧ (s.up a b).2.last = s.last := by
  unfold NS.up
  split
  · exact ⟨rfl, rfl⟩
  · split
    · exact ⟨rfl, rfl⟩
    · exact ⟨rfl, rfl⟩
theorem down_err {s : NS} {a b : Int} (h : (s.down a b).1 ≠ 0) : (s.down a b).2 = s := by
  unfold NS.down at h ⊢
  split
  · rfl
  · split
    · rfl
    · rename_i h1 h2
      rw [if_neg h1, if_neg h2] at h
      exact absurd rfl h
theorem take_err {s : NS} {n : Nat} (h : (s.take n).1.2 ≠ 0) : (s.take n).2 = s := by
  unfold NS.take at h ⊢
  cases hf : s.find n with
  | none => rfl
  | some i => rw [hf] at h; exact absurd rfl h
theorem take_ok {s : NS} {n : Nat} (h : (s.take n).1.2 = 0) : (s.take n).2.fl.length + 1 = s.fl.length := by
  unfold NS.take at h ⊢
  cases hf : s.find n with
  | none => rw [hf] at h; cases h
  | some i =>
    have hi := NS.find_lt hf
    show (s.fl.eraseIdx i).length + 1 = _
    rw [List.length_eraseIdx_of_lt hi]
    omega
theorem twice_err {s : NS} {n : Nat} (h : (s.twice n).1.2 ≠ 0) : (s.twice n).2 = s := by
  unfold NS.twice at h ⊢
  cases hf : s.find n with
  | none => rfl
  | some i =>
    rw [hf] at h
    simp only [] at h ⊢
    split
    · rfl
    · rename_i h1
      rw [if_neg h1] at h
      exact absurd rfl h
theorem twice_ok {s : NS} {n : Nat} (h : (s.twice n).1.2 = 0) : (s.twice n).2.fl.length = s.fl.length + 1 ∧ (s.twice n).1.1 = (s.twice n).2.last := by
  unfold NS.twice at h ⊢
  cases hf : s.find n with
  | none => rw [hf] at h; cases h
  | some i =>
    rw [hf] at h
    simp only [] at h ⊢
    split
    · rename_i h1
      rw [if_pos h1] at h
      cases h
    · exact ⟨by simp [NS.put], rfl⟩
theorem send_err {s : NS} {a b : Int} {l : List UInt8} (h : (s.send a b l).1.2 ≠ 0) : (s.send a b l).2 = s := by
  unfold NS.send at h ⊢
  split
  · rfl
  · split
    · rfl
    · split
      · rfl
      · rename_i h1 h2 h3
        rw [if_neg h1, if_neg h2, if_neg h3] at h
        exact absurd rfl h
theorem send_ok {s : NS} {a b : Int} {l : List UInt8} (h : (s.send a b l).1.2 = 0) : (s.send a b l).2.fl.length = s.fl.length + 1 ∧ (s.send a b l).1.1 = (s.send a b l).2.last := by
  unfold NS.send at h ⊢
  split
  · rename_i h1; rw [if_pos h1] at h; cases h
  · split
    · rename_i h1 h2; rw [if_neg h1, if_pos h2] at h; cases h
    · split
      · rename_i h1 h2 h3; rw [if_neg h1, if_neg h2, if_pos h3] at h; cases h
      · exact ⟨by simp [NS.put], rfl⟩
/-- What is between two devices. -/
def btw (a b : Int) (p : Pk) : Bool := decide (p.frm = a ∧ p.too = b) || decide (p.frm = b ∧ p.too = a)
theorem keyI_eq (a b x y : Int) : keyI x y = keyI a b ↔ ((x = a ∧ y = b) ∨ (x = b ∧ y = a)) := by
  unfold keyI
  rw [Prod.mk.injEq]
  omega
theorem down_ok {s : NS} {a b : Int} (h : (s.down a b).1 = 0) : (s.down a b).2.fl.length + (s.fl.filter (btw a b)).length = s.fl.length := by
  unfold NS.down at h ⊢
  split
  · rename_i h1; rw [if_pos h1] at h; cases h
  · split
    · rename_i h1 h2; rw [if_neg h1, if_pos h2] at h; cases h
    · show (s.fl.filter (fun p => decide (keyI p.frm p.too ≠ keyI a b))).length + _ = _
      have e : (fun p : Pk => decide (keyI p.frm p.too ≠ keyI a b)) = fun p => !btw a b p := by
        funext p
        rw [Bool.eq_iff_iff]
        simp [btw, keyI_eq]
      rw [e]
      induction s.fl with
      | nil => rfl
      | cons p l ih =>
        simp only [List.filter_cons]
        cases btw a b p <;> simp <;> omega
/-- A call that is refused changes nothing. -/
theorem call_err {s : NS} {k a b : Int} {n : Nat} {l : List UInt8} (h : (s.call k a b n l).1.err ≠ 0) : (s.call k a b n l).2 = s := by
  unfold NS.call at h ⊢
  split
  · rename_i h1; rw [if_pos h1] at h; exact up_err h
  · rename_i h1
    rw [if_neg h1] at h
    split
    · rename_i h2; rw [if_pos h2] at h; exact down_err h
    · rename_i h2
      rw [if_neg h2] at h
      split
      · rename_i h3; rw [if_pos h3] at h; exact take_err h
      · rename_i h3
        rw [if_neg h3] at h
        split
        · rename_i h4; rw [if_pos h4] at h; exact take_err h
        · rename_i h4
          rw [if_neg h4] at h
          split
          · rename_i h5; rw [if_pos h5] at h; exact twice_err h
          · rename_i h5; rw [if_neg h5] at h; exact send_err h
end Go.Proofs.Ythajlhifgafpkaa
