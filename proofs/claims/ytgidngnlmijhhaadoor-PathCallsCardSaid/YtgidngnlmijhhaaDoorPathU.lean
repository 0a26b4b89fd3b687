/-
  Paths, in plain Lean: where the mark of a conflict copy stands.
-/
import Derived.Test.YtgidngnlmijhhaaDoorPathR
namespace Go.Proofs.YtgidngnlmijhhaaDoor
def XL (d : Nat) : Bl := [46, 99] ++ dec d ++ [45]
/-- At i stands the mark with device d; what it leaves out ends at e; without it, it is what was copied. -/
def Hit (l : Bl) (i d e : Nat) : Prop := ∃ (A E : Bl) (n : Nat), l = A ++ (XL d ++ (dec n ++ E)) ∧ A.length = i ∧ e = i + (XL d).length + (dec n).length ∧ 1 ≤ d ∧ d ≤ 99 ∧ n ≤ 999 ∧ copyL (A ++ E) (d : Int) (n : Int) = (l, 0)
theorem dec_len1 (n : Nat) : 1 ≤ (dec n).length := by
  rcases Nat.eq_zero_or_pos (dec n).length with h | h
  · exact absurd (List.length_eq_zero_iff.1 h) (dec_ne n)
  · exact h
theorem XL_len {d : Nat} (h : d ≤ 99) : 4 ≤ (XL d).length ∧ (XL d).length ≤ 5 := by
  have h1 := dec_len1 d
  have h2 := dec_len (n := d) (k := 2) (by decide) (by omega)
  unfold XL
  simp only [List.length_append, List.length_cons, List.length_nil]
  omega
def preF (f : Bl) : Bl := if f = [] then [] else f ++ [47]
theorem joinF_pre (f b : Bl) : joinF f b = preF f ++ b := by
  unfold joinF preF
  split <;> simp
theorem hit_of {l p : Bl} {d n : Nat} (h : copiedL l = some (p, d, n)) : ∃ i e, Hit l i d e := by
  have hc := copied_some h
  obtain ⟨h1, h2, h3, h4, h5, h6, h7⟩ := copyL_ok hc
  rw [Int.toNat_natCast, Int.toNat_natCast] at h2
  obtain ⟨_, hp, _⟩ := path_parts h1
  rw [joinF_pre] at hp
  have hs := stem_end (baseL p)
  have e1 : p = (preF (folderL p) ++ stemB (baseL p)) ++ endB (baseL p) := by rw [List.append_assoc, hs]; exact hp
  refine ⟨_, _, preF (folderL p) ++ stemB (baseL p), endB (baseL p), n, ?_, rfl, rfl, by omega, by omega, by omega, ?_⟩
  · rw [h2]
    unfold copyOut markL XL
    rw [joinF_pre]
    simp
  · rw [← e1]; exact hc
theorem no_hit {l : Bl} (h : ∀ i d e, ¬ Hit l i d e) : copiedL l = none := by
  cases hc : copiedL l with
  | none => rfl
  | some r =>
    obtain ⟨p, d, n⟩ := r
    obtain ⟨i, e, hh⟩ := hit_of hc
    exact absurd hh (h i d e)
theorem Hit.len {l : Bl} {i d e : Nat} (h : Hit l i d e) : i + 5 ≤ l.length ∧ e ≤ l.length ∧ i + (XL d).length + 1 ≤ e ∧ e ≤ i + (XL d).length + 3 ∧ 1 ≤ d ∧ d ≤ 99 := by
  obtain ⟨A, E, n, e1, e2, e3, h4, h5, h6, _⟩ := h
  have h7 := XL_len h5
  have h8 := dec_len1 n
  have h9 := dec_len (n := n) (k := 3) (by decide) (by omega)
  have := congrArg List.length e1
  simp only [List.length_append] at this
  omega
theorem Hit.x {l : Bl} {i d e : Nat} (h : Hit l i d e) : (l.drop i).take (XL d).length = XL d := by
  obtain ⟨A, E, n, e1, e2, _⟩ := h
  rw [e1, ← e2, List.drop_left, List.take_left]
theorem Hit.c2 {l : Bl} {i d e : Nat} (h : Hit l i d e) : (l.drop i).take 2 = [46, 99] := by
  obtain ⟨A, E, n, e1, e2, _⟩ := h
  rw [e1, ← e2, List.drop_left]
  unfold XL
  simp
theorem Hit.num {l : Bl} {i d e : Nat} (h : Hit l i d e) : ∃ n : Nat, (l.drop (i + (XL d).length)).take (e - (i + (XL d).length)) = dec n ∧ n ≤ 999 ∧ copyL (l.take i ++ l.drop e) (d : Int) (n : Int) = (l, 0) := by
  obtain ⟨A, E, n, e1, e2, e3, _, _, h6, h7⟩ := h
  have f1 : l.take i = A := by rw [e1, ← e2]; exact List.take_left
  have f2 : l.drop (i + (XL d).length) = dec n ++ E := by rw [← List.drop_drop, e1, ← e2, List.drop_left, List.drop_left]
  have f3 : l.drop e = E := by rw [e3, ← List.drop_drop, f2, List.drop_left]
  refine ⟨n, ?_, h6, by rw [f1, f3]; exact h7⟩
  rw [f2, show e - (i + (XL d).length) = (dec n).length by omega, List.take_left]
theorem dec_head : ∀ (n : Nat), 1 ≤ n → (dec n).head? ≠ some 48 := by
  intro n
  induction n using Nat.strongRecOn with
  | _ n ih =>
    intro h1 h2
    by_cases h : n < 10
    · rw [dec_small h] at h2
      simp only [List.head?_cons, Option.some.injEq] at h2
      have := congrArg UInt8.toNat h2
      rw [UInt8.toNat_ofNat', show (48 : UInt8).toNat = 48 from rfl] at this
      omega
    · rw [dec_big h] at h2
      refine ih (n / 10) (by omega) (by omega) ?_
      cases hd : dec (n / 10) with
      | nil => exact absurd hd (dec_ne _)
      | cons c t => rw [hd] at h2; simpa using h2
theorem numR_dec {n : Nat} : numR (dec n) = (n, true) := by
  unfold numR
  rw [if_pos (dec_dig n), numB_dec]
  congr 1
  by_cases h : n < 10
  · rw [dec_small h]; rfl
  · rw [decide_eq_true (dec_head n (by omega))]
    simp
/-! ### What the search has passed -/
def P1 (l : Bl) (k : Nat) : Prop := ∀ i d e, Hit l i d e → k ≤ i
def P2 (l : Bl) (k d : Nat) : Prop := ∀ d' e, Hit l k d' e → d ≤ d'
def P3 (l : Bl) (k d e : Nat) : Prop := ∀ e', Hit l k d e' → e ≤ e'
theorem P1.zero (l : Bl) : P1 l 0 := fun _ _ _ _ => Nat.zero_le _
theorem P2.one (l : Bl) (k : Nat) : P2 l k 1 := fun _ _ h => h.len.2.2.2.2.1
theorem P3.first (l : Bl) (k d : Nat) : P3 l k d (k + (XL d).length + 1) := fun _ h => h.len.2.2.1
theorem P1.next {l : Bl} {k : Nat} (h : P1 l k) (hn : ∀ d e, ¬ Hit l k d e) : P1 l (k + 1) := fun i d e hh => by
  rcases Nat.lt_or_ge k i with h1 | h1
  · exact h1
  · obtain rfl : i = k := by have := h i d e hh; omega
    exact absurd hh (hn d e)
theorem P2.next {l : Bl} {k d : Nat} (h : P2 l k d) (hn : ∀ e, ¬ Hit l k d e) : P2 l k (d + 1) := fun d' e hh => by
  rcases Nat.lt_or_ge d d' with h1 | h1
  · exact h1
  · obtain rfl : d' = d := by have := h d' e hh; omega
    exact absurd hh (hn e)
theorem P3.next {l : Bl} {k d e : Nat} (h : P3 l k d e) (hn : ¬ Hit l k d e) : P3 l k d (e + 1) := fun e' hh => by
  rcases Nat.lt_or_ge e e' with h1 | h1
  · exact h1
  · obtain rfl : e' = e := by have := h e' hh; omega
    exact absurd hh hn
theorem P1.end_ {l : Bl} {k : Nat} (h : P1 l k) (hk : l.length < k + 4) : copiedL l = none := no_hit fun i d e hh => by
  have := h i d e hh
  have := hh.len.1
  omega
theorem P2.end_ {l : Bl} {k d : Nat} (h : P2 l k d) (hd : 99 < d) : ∀ d e, ¬ Hit l k d e := fun d' e hh => by
  have := h d' e hh
  have := hh.len
  omega
theorem P3.end_ {l : Bl} {k d e : Nat} (h : P3 l k d e) (he : l.length < e ∨ k + (XL d).length + 3 < e) : ∀ e, ¬ Hit l k d e := fun e' hh => by
  have := h e' hh
  have := hh.len
  omega
end Go.Proofs.YtgidngnlmijhhaaDoor
