/-
  Paths: digits, marked.
-/
import Derived.Test.YtndekohimfjdeaaDoorPathC
namespace Go.Proofs.YtndekohimfjdeaaDoor
open Go.RowKit
theorem tw_len {p : UInt8 → Bool} : ∀ {l : Bl} {k : Nat}, (∀ x ∈ l.take k, p x = true) → (k = l.length ∨ ∃ c, l[k]? = some c ∧ p c = false) → (l.takeWhile p).length = k
  | [], k, _, h => by
    rcases h with h | ⟨c, h, _⟩
    · simpa using h.symm
    · simp at h
  | x :: l, 0, _, h => by
    rcases h with h | ⟨c, h, hc⟩
    · simp at h
    · obtain rfl : x = c := by simpa using h
      rw [List.takeWhile_cons, if_neg (by rw [hc]; simp)]
      rfl
  | x :: l, k + 1, ha, h => by
    rw [List.takeWhile_cons, if_pos (ha x (by simp)), List.length_cons]
    congr 1
    refine tw_len (fun y hy => ha y (by rw [List.take_succ_cons]; exact List.mem_cons_of_mem _ hy)) ?_
    rcases h with h | ⟨c, h, hc⟩
    · left; simpa using h
    · right; exact ⟨c, by simpa using h, hc⟩
theorem dig_iff {c : UInt8} : dig c = true ↔ 48 ≤ c.toNat ∧ c.toNat ≤ 57 := by
  unfold dig
  rw [Bool.and_eq_true, decide_eq_true_eq, decide_eq_true_eq]
theorem st_index (l : Bl) (p : Nat) (c : UInt8) (hc : l[p]? = some c) (V : World) : (Instr.index 9 (.string (st l)) (.int .i64 (p : Int))).run Tryd.prog V = .ok (.int .u8 (c.toNat : Int)) V := by
  obtain ⟨hp, he⟩ := List.getElem?_eq_some_iff.1 hc
  rw [run_index_string V 9 (st l) .i64 (p : Int) Tryd.underlying9, dif_pos ⟨by omega, by rw [st_size]; omega⟩]
  have e : (st l)[((p : Int)).toNat]'(by rw [st_size]; simpa using hp) = c := by
    have h2 := at_data (st l) (k := p) (by rw [st_size]; exact hp)
    rw [st_data, hc] at h2
    simp only [Int.toNat_natCast]
    exact (Option.some.inj h2).symm
  rw [e]
/-- A row of digits spells its number. -/
theorem atoi_dig : ∀ (l : Bl), (∀ x ∈ l, dig x = true) → l ≠ [] → Lib.atoi l = some (numB l : Int) := by
  have key : ∀ (l : Bl) (a : Nat), (∀ x ∈ l, dig x = true) → Lib.decFrom a l = some (l.foldl (fun a c => a * 10 + (c.toNat - 48)) a) := by
    intro l
    induction l with
    | nil => intro a _; rfl
    | cons c l ih =>
      intro a h
      have hc := dig_iff.1 (h c List.mem_cons_self)
      unfold Lib.decFrom Lib.digitVal
      rw [if_pos hc]
      exact ih _ fun x hx => h x (List.mem_cons_of_mem _ hx)
  intro l h hne
  cases l with
  | nil => exact absurd rfl hne
  | cons c l =>
    have hc := dig_iff.1 (h c List.mem_cons_self)
    have n1 : (c == 45) = false := beq_eq_false_iff_ne.2 fun e => by rw [e] at hc; revert hc; decide
    have n2 : (c == 43) = false := beq_eq_false_iff_ne.2 fun e => by rw [e] at hc; revert hc; decide
    unfold Lib.atoi Lib.decNat
    simp only [n1, n2, Bool.false_eq_true, if_false, List.isEmpty_cons]
    rw [key _ 0 h]
    rfl
theorem digits_tail (l : Bl) : (∀ x ∈ l.drop (l.length - digitsL l), dig x = true) ∧ digitsL l ≤ l.length := by
  have h1 : digitsL l ≤ l.length := by
    unfold digitsL
    have := (List.takeWhile_prefix (l := l.reverse) dig).length_le
    rwa [List.length_reverse] at this
  refine ⟨fun x hx => ?_, h1⟩
  have h2 : l.drop (l.length - digitsL l) = (l.reverse.take (digitsL l)).reverse := by rw [List.reverse_take, List.reverse_reverse, List.length_reverse]
  rw [h2, List.mem_reverse] at hx
  unfold digitsL at hx
  rw [← List.prefix_iff_eq_take.1 (List.takeWhile_prefix _)] at hx
  exact List.all_eq_true.1 List.all_takeWhile x hx
theorem suffix_lib (p q : Bl) : Lib.hasSuffix p q = decide (q <:+ p) := by
  unfold Lib.hasSuffix
  cases h : q.isSuffixOf p with
  | true => exact (decide_eq_true (List.isSuffixOf_iff_suffix.1 h)).symm
  | false => exact (decide_eq_false fun h2 => by rw [List.isSuffixOf_iff_suffix.2 h2] at h; cases h).symm
theorem trim_lib {p q : Bl} : Lib.trimSuffix p q = if q <:+ p then p.take (p.length - q.length) else p := by
  unfold Lib.trimSuffix
  rw [suffix_lib]
  simp only [decide_eq_true_eq]
end Go.Proofs.YtndekohimfjdeaaDoor
