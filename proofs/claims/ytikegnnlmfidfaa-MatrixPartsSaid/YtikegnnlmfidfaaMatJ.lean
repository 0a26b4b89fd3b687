/-
  Matrices, in plain Lean: places in sorted rows, what a change makes of them.
-/
import Derived.Test.YtikegnnlmfidfaaMatI
namespace Go.Proofs.Ytikegnnlmfidfaa
open Go.RowKit
theorem takeWhile_len {α : Type} {p : α → Bool} : ∀ {l : List α} {i : Nat}, i ≤ l.length → (∀ (j : Nat) (x : α), l[j]? = some x → (j < i ↔ p x = true)) → (l.takeWhile p).length = i
  | [], i, hi, _ => by simp at hi; simp [hi]
  | x :: l, 0, _, h => by
    have h0 := h 0 x rfl
    have : p x = false := by
      cases hp : p x
      · rfl
      · exact absurd (h0.2 hp) (Nat.lt_irrefl _)
    rw [List.takeWhile_cons, if_neg (by rw [this]; simp)]
    rfl
  | x :: l, i + 1, hi, h => by
    have h0 := (h 0 x rfl).1 (Nat.succ_pos _)
    rw [List.takeWhile_cons, if_pos h0, List.length_cons, takeWhile_len (l := l) (i := i) (by simpa using hi) (fun j y hy => by
      have := h (j + 1) y (by simpa using hy)
      rw [← this]
      omega)]
theorem lbR_of {rs : List Rw} {f : ByteArray} {i : Nat} (hi : i ≤ rs.length) (h : ∀ (j : Nat) (r : Rw), rs[j]? = some r → (j < i ↔ klt r.f f = true)) : lbR f (rs.map Rw.p) = i := by
  unfold lbR
  refine takeWhile_len (by rw [List.length_map]; exact hi) fun j x hx => ?_
  rw [List.getElem?_map] at hx
  cases hr : rs[j]? with
  | none => rw [hr] at hx; cases hx
  | some r =>
    rw [hr] at hx
    obtain rfl := Option.some.inj hx
    exact h j r hr
theorem lbI_of {l : List Int} {d : Int} {i : Nat} (hi : i ≤ l.length) (h : ∀ (j : Nat) (x : Int), l[j]? = some x → (j < i ↔ x < d)) : lbI d l = i := by
  unfold lbI
  exact takeWhile_len hi fun j x hx => by rw [h j x hx]; simp
theorem split_at {α : Type} {l : List α} {i : Nat} {x : α} (hx : l[i]? = some x) : l = l.take i ++ x :: l.drop (i + 1) := by
  obtain ⟨hi, rfl⟩ := List.getElem?_eq_some_iff.1 hx
  rw [← List.drop_eq_getElem_cons hi, List.take_append_drop]
theorem mem_take_at {α : Type} {l : List α} {i : Nat} {y : α} (h : y ∈ l.take i) : ∃ j, j < i ∧ l[j]? = some y := by
  obtain ⟨j, hj, rfl⟩ := List.getElem_of_mem h
  rw [List.length_take] at hj
  exact ⟨j, by omega, by rw [List.getElem_take, List.getElem?_eq_getElem]⟩
theorem mem_drop_at {α : Type} {l : List α} {i : Nat} {y : α} (h : y ∈ l.drop i) : ∃ j, i ≤ j ∧ l[j]? = some y := by
  obtain ⟨j, hj, rfl⟩ := List.getElem_of_mem h
  rw [List.length_drop] at hj
  exact ⟨i + j, by omega, by rw [List.getElem_drop, List.getElem?_eq_getElem]⟩
theorem filter_at {α : Type} {p : α → Bool} {l : List α} {i : Nat} {x : α} (hx : l[i]? = some x) (hp : p x = false) (h : ∀ (j : Nat) (y : α), l[j]? = some y → j ≠ i → p y = true) : l.filter p = l.take i ++ l.drop (i + 1) := by
  conv => lhs; rw [split_at hx]
  rw [List.filter_append, List.filter_cons_of_neg (by rw [hp]; simp), List.filter_eq_self.2 (fun y hy => by
    obtain ⟨j, hj, hy⟩ := mem_take_at hy
    exact h j y hy (by omega)), List.filter_eq_self.2 (fun y hy => by
    obtain ⟨j, hj, hy⟩ := mem_drop_at hy
    exact h j y hy (by omega))]
theorem map_at {α : Type} {f : α → α} {l : List α} {i : Nat} {x : α} (hx : l[i]? = some x) (h : ∀ (j : Nat) (y : α), l[j]? = some y → j ≠ i → f y = y) : l.map f = l.take i ++ f x :: l.drop (i + 1) := by
  conv => lhs; rw [split_at hx]
  rw [List.map_append, List.map_cons]
  congr 1
  · refine (List.map_congr_left (g := id) fun y hy => ?_).trans (List.map_id _)
    obtain ⟨j, hj, hy⟩ := mem_take_at hy
    exact h j y hy (by omega)
  · congr 1
    refine (List.map_congr_left (g := id) fun y hy => ?_).trans (List.map_id _)
    obtain ⟨j, hj, hy⟩ := mem_drop_at hy
    exact h j y hy (by omega)
theorem with_len {own : Int} : ∀ {ds : List Int} {n : Int}, withOk own n ds = true → n ≤ 16 → (ds.length : Int) + n ≤ 16
  | [], n, _, h => by simpa using h
  | d :: ds, n, h, _ => by
    simp only [withOk, Bool.and_eq_true, Bool.not_eq_true', decide_eq_false_iff_not, decide_eq_true_eq] at h
    obtain ⟨⟨⟨h1, h2⟩, h3⟩, h4⟩ := h
    have := with_len h4 (dev_iff.1 h1).2
    rw [List.length_cons]
    omega
/-- A change that may not be asked. -/
def badC (m : PM) (c : PC) : Prop := c.1 < 1 ∨ 4 < c.1 ∨ folderP c.2.1 = false ∨ ((c.1 = 3 ∨ c.1 = 4) ∧ (dev c.2.2 = false ∨ c.2.2 = m.1)) ∨ (¬ (c.1 = 3 ∨ c.1 = 4) ∧ c.2.2 ≠ 0)
theorem apply_chk {m : PM} {c : PC} (h : chkM m ≠ 0) : applyP m c = ((0, []), chkM m) := by unfold applyP; rw [if_pos h]
theorem apply_bad {m : PM} {c : PC} (h : chkM m = 0) (hb : badC m c) : applyP m c = ((0, []), 2) := by unfold badC at hb; unfold applyP; rw [if_neg (by simp [h]), if_pos hb]
theorem apply_none {m : PM} {c : PC} (h : chkM m = 0) (hb : ¬ badC m c) (hf : m.2.find? (fun r => decide (r.1 = c.2.1)) = none) :
    applyP m c = if c.1 = 1 then (if m.2.length = 8 then ((0, []), 3) else ((m.1, m.2.take (lbR c.2.1 m.2) ++ (c.2.1, []) :: m.2.drop (lbR c.2.1 m.2)), 0)) else ((0, []), 6) := by
  unfold badC at hb; unfold applyP; rw [if_neg (by simp [h]), if_neg hb, hf]
theorem apply_some {m : PM} {c : PC} {r : PRow} (h : chkM m = 0) (hb : ¬ badC m c) (hf : m.2.find? (fun r => decide (r.1 = c.2.1)) = some r) :
    applyP m c = if c.1 = 1 then ((0, []), 7)
      else if c.1 = 2 then ((m.1, m.2.filter fun x => !decide (x.1 = c.2.1)), 0)
      else if c.1 = 3 then (if c.2.2 ∈ r.2 then ((0, []), 7) else ((m.1, m.2.map fun x => if x.1 = c.2.1 then (x.1, x.2.take (lbI c.2.2 x.2) ++ c.2.2 :: x.2.drop (lbI c.2.2 x.2)) else x), 0))
      else (if c.2.2 ∈ r.2 then ((m.1, m.2.map fun x => if x.1 = c.2.1 then (x.1, x.2.filter fun y => !decide (y = c.2.2)) else x), 0) else ((0, []), 6)) := by
  unfold badC at hb; unfold applyP; rw [if_neg (by simp [h]), if_neg hb, hf]
/-- A row's neighbours have other names. -/
theorem other_name {rs : List PRow} {i : Nat} {r : PRow} (ha : ∀ (i j : Nat) (x y : PRow), i < j → rs[i]? = some x → rs[j]? = some y → klt x.1 y.1 = true) (hx : rs[i]? = some r) : ∀ (j : Nat) (y : PRow), rs[j]? = some y → j ≠ i → y.1 ≠ r.1 := by
  intro j y hy hj e
  rcases Nat.lt_or_ge j i with h | h
  · exact klt_ne (ha j i y r h hy hx) e
  · exact klt_ne (ha i j r y (by omega) hx hy) e.symm
theorem mem_of_asc {l : List Int} {i : Nat} {d : Int} (hb : ∀ (j : Nat) (x : Int), l[j]? = some x → (j < i ↔ x < d)) (ha : AscI l) (h : ¬ l[i]? = some d) : ¬ d ∈ l := by
  intro hm
  obtain ⟨j, hj, rfl⟩ := List.getElem_of_mem hm
  have hx := List.getElem?_eq_getElem hj
  have h1 : ¬ j < i := fun h1 => by have := (hb j _ hx).1 h1; omega
  rcases Nat.lt_or_ge i j with h2 | h2
  · have hy := List.getElem?_eq_getElem (show i < l.length by omega)
    have := ha i j _ _ h2 hy hx
    exact absurd ((hb i _ hy).2 this) (Nat.lt_irrefl _)
  · obtain rfl : j = i := by omega
    exact h hx
theorem ints_filter {l : List Int} {i : Nat} {d : Int} (ha : AscI l) (hx : l[i]? = some d) : (l.filter fun y => !decide (y = d)) = l.take i ++ l.drop (i + 1) :=
  filter_at hx (by simp) fun j y hy hj => by
    rcases Nat.lt_or_ge j i with h | h
    · have := ha j i y d h hy hx
      simp; omega
    · have := ha i j d y (by omega) hx hy
      simp; omega
theorem map_take_drop {α β : Type} (f : α → β) (l : List α) (i : Nat) (m : List α) : (l.take i ++ m ++ l.drop i).map f = (l.map f).take i ++ m.map f ++ (l.map f).drop i := by
  rw [List.map_append, List.map_append, List.map_take, List.map_drop]
end Go.Proofs.Ytikegnnlmfidfaa
