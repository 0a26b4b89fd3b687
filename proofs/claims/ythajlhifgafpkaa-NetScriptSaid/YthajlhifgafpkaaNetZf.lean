/-
  Nets, in plain Lean: what holds of a net whatever is called.
-/
import Derived.Test.YthajlhifgafpkaaNetM
namespace Go.Proofs.Ythajlhifgafpkaa
structure NS.good (s : NS) : Prop where
  asc : s.fl.Pairwise (fun p q => p.num < q.num)
  rng : ∀ p ∈ s.fl, 0 < p.num ∧ p.num ≤ s.last
  lk : ∀ p ∈ s.fl, okDev p.frm p.too = true ∧ s.link (keyI p.frm p.too) = (true, p.run)
theorem NS.good.new : NS.new.good := ⟨List.Pairwise.nil, (fun p hp => by cases hp), (fun p hp => by cases hp)⟩
theorem NS.good.up {s : NS} (h : s.good) (a b : Int) : (s.up a b).2.good := by
  unfold NS.up
  split
  · exact h
  · split
    · exact h
    · rename_i h1 h2
      refine ⟨h.asc, h.rng, fun p hp => ⟨(h.lk p hp).1, ?_⟩⟩
      have h3 := (h.lk p hp).2
      show (if keyI p.frm p.too = keyI a b then _ else s.link (keyI p.frm p.too)) = _
      rw [if_neg]
      · exact h3
      · intro e
        rw [e] at h3
        exact h2 (by rw [h3])
theorem NS.good.down {s : NS} (h : s.good) (a b : Int) : (s.down a b).2.good := by
  unfold NS.down
  split
  · exact h
  · split
    · exact h
    · refine ⟨h.asc.filter _, fun p hp => h.rng p (List.mem_filter.1 hp).1, fun p hp => ?_⟩
      have h4 := (List.mem_filter.1 hp).2
      have h3 := h.lk p ((List.mem_filter.1 hp).1)
      refine ⟨h3.1, ?_⟩
      show (if keyI p.frm p.too = keyI a b then _ else s.link (keyI p.frm p.too)) = _
      rw [if_neg (by simpa using h4)]
      exact h3.2
theorem NS.good.put {s : NS} (h : s.good) (a b : Int) (r : Nat) (l : List UInt8) (h1 : okDev a b = true) (h2 : s.link (keyI a b) = (true, r)) : (s.put a b r l).good := by
  refine ⟨?_, fun p hp => ?_, fun p hp => ?_⟩
  · refine List.pairwise_append.2 ⟨h.asc, List.pairwise_singleton _ _, fun p hp q hq => ?_⟩
    rw [List.mem_singleton.1 hq]
    have := (h.rng p hp).2
    show p.num < s.last + 1
    omega
  · rcases List.mem_append.1 hp with hp | hp
    · have := h.rng p hp
      show 0 < p.num ∧ p.num ≤ s.last + 1
      omega
    · rw [List.mem_singleton.1 hp]
      show 0 < s.last + 1 ∧ s.last + 1 ≤ s.last + 1
      omega
  · rcases List.mem_append.1 hp with hp | hp
    · exact h.lk p hp
    · rw [List.mem_singleton.1 hp]
      exact ⟨h1, h2⟩
theorem NS.good.send {s : NS} (h : s.good) (a b : Int) (l : List UInt8) : (s.send a b l).2.good := by
  unfold NS.send
  split
  · exact h
  · split
    · exact h
    · split
      · exact h
      · rename_i h1 h2 _
        refine h.put a b _ l (by simpa using h1) ?_
        have h3 : (s.link (keyI a b)).1 = true := by simpa using h2
        exact Prod.ext h3 rfl
theorem NS.good.take {s : NS} (h : s.good) (n : Nat) : (s.take n).2.good := by
  unfold NS.take
  split
  · exact h
  · exact ⟨h.asc.sublist (List.eraseIdx_sublist _ _), fun p hp => h.rng p (List.mem_of_mem_eraseIdx hp), fun p hp => h.lk p (List.mem_of_mem_eraseIdx hp)⟩
theorem NS.find_lt {s : NS} {n i : Nat} (h : s.find n = some i) : i < s.fl.length := (List.findIdx?_eq_some_iff_getElem.1 h).1
theorem NS.good.twice {s : NS} (h : s.good) (n : Nat) : (s.twice n).2.good := by
  unfold NS.twice
  split
  · exact h
  · split
    · exact h
    · rename_i i hf _
      have hi := NS.find_lt hf
      have e : s.fl.getD i zeroPk = s.fl[i] := by rw [List.getD_eq_getElem?_getD, List.getElem?_eq_getElem hi]; rfl
      rw [e]
      have := h.lk s.fl[i] (List.getElem_mem hi)
      exact h.put _ _ _ _ this.1 this.2
/-- Is tells of a packet in flight: up, in its run. -/
theorem NS.good.is_ {s : NS} (h : s.good) {p : Pk} (hp : p ∈ s.fl) : s.is p.frm p.too = (true, p.run) := by
  unfold NS.is
  rw [(h.lk p hp).1, if_neg (by decide)]
  exact (h.lk p hp).2
/-- Oldest of a direction is no greater than a packet of it, and no zero. -/
theorem NS.good.oldest_ {s : NS} (h : s.good) {p : Pk} (hp : p ∈ s.fl) : s.oldest p.frm p.too ≤ p.num ∧ s.oldest p.frm p.too ≠ 0 := by
  unfold NS.oldest
  cases hf : s.fl.find? (fun q => decide (q.frm = p.frm) && decide (q.too = p.too)) with
  | none =>
    have := List.find?_eq_none.1 hf p hp
    simp at this
  | some q =>
    have hq := List.mem_of_find?_eq_some hf
    refine ⟨?_, ?_⟩
    · obtain ⟨_, as, bs, e, hno⟩ := List.find?_eq_some_iff_append.1 hf
      have hp2 := hp
      rw [e] at hp2
      rcases List.mem_append.1 hp2 with h1 | h1
      · have := hno p h1
        simp at this
      · rcases List.mem_cons.1 h1 with h1 | h1
        · rw [h1]; exact Nat.le_refl _
        · have ha := h.asc
          rw [e] at ha
          have := (List.pairwise_cons.1 (List.pairwise_append.1 ha).2.1).1 p h1
          exact Nat.le_of_lt this
    · have := (h.rng q hq).1
      show q.num ≠ 0
      omega
end Go.Proofs.Ythajlhifgafpkaa
