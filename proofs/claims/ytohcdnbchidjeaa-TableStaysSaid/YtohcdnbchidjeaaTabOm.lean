/-
  The plain law of TableOrders.
-/
import Derived.Test.YtohcdnbchidjeaaTabHi
namespace Go.Proofs.Ytohcdnbchidjeaa
open Go.RowKit
theorem asc_at : ∀ {l : List KV} {i j : Nat} {x y : KV}, asc l → i < j → l[i]? = some x → l[j]? = some y → klt x.1 y.1 = true
  | [], _, _, _, _, _, _, h, _ => by simp at h
  | z :: l, 0, j + 1, x, y, h, _, hx, hy => by
    simp at hx
    subst hx
    exact h.1 y (List.mem_of_getElem? (by simpa using hy))
  | z :: l, i + 1, j + 1, x, y, h, hij, hx, hy => asc_at (i := i) (j := j) h.2 (by omega) (by simpa using hx) (by simpa using hy)
theorem place_at {L : List KV} {i : Nat} {y : KV} (h : asc L) (hy : L[i]? = some y) : (lo y.1 L).length = i := by
  rcases Nat.lt_trichotomy (lo y.1 L).length i with hl | hl | hl
  · have hm : (lo y.1 L).length < L.length := by have := (List.getElem?_eq_some_iff.1 hy).1; omega
    have hx : L[(lo y.1 L).length]? = some (L[(lo y.1 L).length]) := List.getElem?_eq_getElem hm
    have h1 := asc_at h hl hx hy
    have h2 : L[(lo y.1 L).length] ∈ hi y.1 L := by
      rw [← drop_lo y.1 h]
      exact List.mem_of_getElem? (i := 0) (by rw [List.getElem?_drop, Nat.add_zero]; exact hx)
    have h3 := (mem_hi.1 h2).2
    rw [h1] at h3
    cases h3
  · exact hl
  · have h2 : y ∈ lo y.1 L := by
      rw [← take_lo y.1 h]
      exact List.mem_of_getElem? (i := i) (by rw [List.getElem?_take_of_lt hl]; exact hy)
    exact absurd rfl (klt_ne (mem_lo.1 h2).2)
theorem get_yes {L : List KV} {key : ByteArray} {y : KV} (h : asc L) (hy : L[(lo key L).length]? = some y) (he : y.1 = key) : getL key L = some y.2 := by
  have := getL_mem (once_asc h) (List.mem_of_getElem? hy)
  rwa [he] at this
theorem get_no {L : List KV} {key : ByteArray} (h : asc L) (hx : ∀ x, L[(lo key L).length]? = some x → x.1 ≠ key) : getL key L = none :=
  getL_none fun x hm => by
    rw [← lo_hi (q := key) h] at hm
    rcases List.mem_append.1 hm with hm | hm
    · exact klt_ne (mem_lo.1 hm).2
    · rw [← drop_lo key h, gt_else h hx] at hm
      exact (klt_ne (mem_gt.1 hm).2).symm
theorem next_of {T : Tr} (h : good T) (q : ByteArray) : nextL T q = (gt q T.flat).take 1 := by
  unfold nextL
  rw [range_go, sel_flat T _ h.1, hi_zero, takeWhile_all fun x _ => by simp [upto, kbeq_self]]
  simp
theorem place_of {T : Tr} (h : good T) (q : ByteArray) : (T.cut q).1.cnt = (lo q T.flat).length := by rw [← flat_len, (cut_flat T q h.1).1]
theorem pre_high {T : Tr} (h : good T) {y0 y : KV} {i : Nat} (h0 : T.pre[0]? = some y0) (hi : 1 ≤ i) (hy : T.pre[i]? = some y) : abv y0.1 y.1 = true := by
  cases T with
  | nil => simp [Tr.pre] at h0
  | node l k v r =>
    simp only [Tr.pre, List.getElem?_cons_zero, Option.some.injEq] at h0
    subst h0
    obtain ⟨i, rfl⟩ : ∃ m, i = m + 1 := ⟨i - 1, by omega⟩
    have hm := List.mem_of_getElem? (show (l.pre ++ r.pre)[i]? = some y by simpa [Tr.pre] using hy)
    rcases List.mem_append.1 hm with hm | hm
    · exact h.2.1 y ((mem_pre l y).1 hm)
    · exact h.2.2.1 y ((mem_pre r y).1 hm)
/-- What Next returns, at the place behind the key. -/
theorem nextR_at {L : List KV} (k : Nat) : ∃ key v is, nextR ((L.drop k).take 1) = .tuple #[.agg #[.string key, .string v, .bool false], .bool is] ∧ (is = true → L[k]? = some (key, v)) ∧ (is = false → L.length ≤ k) := by
  by_cases hk : k < L.length
  · have e : (L.drop k).take 1 = [L[k]] := by rw [List.drop_eq_getElem_cons hk]; rfl
    exact ⟨L[k].1, L[k].2, true, by rw [e]; rfl, fun _ => List.getElem?_eq_getElem hk, fun h => by cases h⟩
  · exact ⟨⟨#[]⟩, ⟨#[]⟩, false, by rw [List.drop_eq_nil_of_le (by omega)]; rfl, (fun h => by cases h), fun _ => by omega⟩
/-- Get and Next together: is the key there, and what is behind it. -/
theorem next_get {T : Tr} (h : good T) (q : ByteArray) : ∃ d k v gv there is, nextR (nextL T q) = .tuple #[.agg #[.string k, .string v, .bool false], .bool is] ∧ getR (T.get q) = .tuple #[.string gv, .bool there] ∧
    ((there = true ∧ d = 1 ∧ ∃ y, T.flat[(lo q T.flat).length]? = some y ∧ y.1 = q) ∨ (there = false ∧ d = 0 ∧ ∀ y, T.flat[(lo q T.flat).length]? = some y → y.1 ≠ q)) ∧
    (is = true → T.flat[(lo q T.flat).length + d]? = some (k, v)) ∧ (is = false → T.flat.length ≤ (lo q T.flat).length + d) := by
  by_cases hx : ∀ y, T.flat[(lo q T.flat).length]? = some y → y.1 ≠ q
  · obtain ⟨k, v, is, h1, h2, h3⟩ := nextR_at (L := T.flat) ((lo q T.flat).length)
    refine ⟨0, k, v, ⟨#[]⟩, false, is, ?_, ?_, .inr ⟨rfl, rfl, hx⟩, h2, h3⟩
    · rw [next_of h, ← gt_else h.1 hx]; exact h1
    · rw [get_flat T q h.1, get_no h.1 hx]; rfl
  · obtain ⟨y, hy, he⟩ : ∃ y, T.flat[(lo q T.flat).length]? = some y ∧ y.1 = q := Classical.byContradiction fun hh => hx fun y hy e => hh ⟨y, hy, e⟩
    obtain ⟨k, v, is, h1, h2, h3⟩ := nextR_at (L := T.flat) ((lo q T.flat).length + 1)
    refine ⟨1, k, v, y.2, true, is, ?_, ?_, .inl ⟨rfl, rfl, y, hy, he⟩, h2, h3⟩
    · rw [next_of h, ← gt_head h.1 hy he]; exact h1
    · rw [get_flat T q h.1, get_yes h.1 hy he]; rfl
end Go.Proofs.Ytohcdnbchidjeaa
