/-
  Slices of pairs that came in.
-/
import Derived.Test.YtohcdnbchidjeaaTabS
import Derived.Deep.Slices
import Derived.ChangeArms
namespace Go.Proofs.Ytohcdnbchidjeaa
open Go.RowKit
theorem p3sC_inv : ∀ (l : List P3) (j : Nat) (u : Value), (p3sC l)[j]? = some u → ∃ i x, l[i]? = some x ∧ ((j = i * 3 ∧ u = .string x.1) ∨ (j = i * 3 + 1 ∧ u = .string x.2.1) ∨ (j = i * 3 + 2 ∧ u = .bool x.2.2))
  | [], j, u, h => by simp [p3sC] at h
  | y :: l, 0, u, h => by rw [p3sC_cons] at h; simp at h; exact ⟨0, y, rfl, .inl ⟨rfl, h.symm⟩⟩
  | y :: l, 1, u, h => by rw [p3sC_cons] at h; simp at h; exact ⟨0, y, rfl, .inr (.inl ⟨rfl, h.symm⟩)⟩
  | y :: l, 2, u, h => by rw [p3sC_cons] at h; simp at h; exact ⟨0, y, rfl, .inr (.inr ⟨rfl, h.symm⟩)⟩
  | y :: l, j + 3, u, h => by
    rw [p3sC_cons] at h
    obtain ⟨i, x, h1, h2⟩ := p3sC_inv l j u (by simpa using h)
    exact ⟨i + 1, x, by simpa using h1, by
      rcases h2 with ⟨rfl, h2⟩ | ⟨rfl, h2⟩ | ⟨rfl, h2⟩
      · exact .inl ⟨by omega, h2⟩
      · exact .inr (.inl ⟨by omega, h2⟩)
      · exact .inr (.inr ⟨by omega, h2⟩)⟩
/-- What the walk is told of a slice of pairs that came in. -/
def PIn (w : World) (a : Option Addr) (len cap : Nat) (l : List P3) : Prop := PReads w w.heap.size a len l ∧ len ≤ cap ∧ cap ≤ maxLen
theorem open_p3 {H : Type} {enc : TypeId × Value → H} {W : World} {sp : Nat → Bool} {held : Bool} {a : Option Addr} {len cap : Nat} {d : DataW H} {ps : List MemPlace}
    (hd : DataW.Trod enc Try.prog W 0 sp held 33 (.slice a len cap) d ps) : ∃ l, PIn W a len cap l := by
  obtain ⟨fuel, hf⟩ := hd
  have hce : Try.prog.cellsOf 39 = 3 := by kernel_rfl
  have hcs : Try.prog.cellsOf 9 = 1 := by kernel_rfl
  have hcb : Try.prog.cellsOf 4 = 1 := by kernel_rfl
  rcases Go.Deep.open_slice Try.underlying33 hf with ⟨hcs, _⟩ | ⟨ad, len', cap', m, n, D, Pl, hcv, _, hl, hm, hmm, _, hx⟩
  · simp [Value.cells] at hcs
    obtain ⟨rfl, rfl, rfl⟩ := hcs
    exact ⟨[], Reads.none_, Nat.le_refl _, by decide⟩
  · simp [Value.cells] at hcv
    obtain ⟨rfl, rfl, rfl⟩ := hcv
    have hlm : len ≤ m := by rw [hmm]; split <;> omega
    have hv : ∀ i, i < len → ∃ z : P3, W.cell? (ad.add (i * 3)) = some (.string z.1) ∧ W.cell? (ad.add (i * 3 + 1)) = some (.string z.2.1) ∧ W.cell? (ad.add (i * 3 + 2)) = some (.bool z.2.2) := by
      intro i hi
      obtain ⟨cs', h1, h2⟩ := hx i (by omega)
      rw [hce] at h1
      obtain ⟨_, hlen, hcell⟩ := World.cells?_some h1
      obtain ⟨xs, k, _, _, _, hxl, hfd⟩ := DataW.trod_struct Try.underlying39 h2
      match xs, hxl, cs', hlen with
      | [y0, y1, y2], _, [v0, v1, v2], _ =>
        have g0 := hfd 0 _ rfl
        have g1 := hfd 1 _ rfl
        have g2 := hfd 2 _ rfl
        simp [hcs, hcb] at g0 g1 g2
        have e0 := hcell 0 (by omega)
        have e1 := hcell 1 (by omega)
        have e2 := hcell 2 (by omega)
        rw [add_of_add] at e0 e1 e2
        obtain ⟨s0, r0, _, _⟩ := DataW.trod_string Try.underlying9 g0
        obtain ⟨s1, r1, _, _⟩ := DataW.trod_string Try.underlying9 g1
        obtain ⟨b2, r2, _⟩ := DataW.trod_bool Try.underlying4 g2
        injection r0 with r0
        injection r1 with r1
        injection r2 with r2
        subst r0 r1 r2
        exact ⟨(s0, s1, b2), by simpa using e0, by simpa using e1, by simpa using e2⟩
    obtain ⟨q, hq⟩ := Go.Deep.choose_lt hv
    refine ⟨(List.range len).map q, ⟨by rw [p3sC_len]; simp, fun hn => ⟨ad, rfl, ?_, fun j u hu => ?_⟩⟩, hl, hm⟩
    · have h := World.block_lt_of_cell? W _ (hq 0 hn).1
      rwa [block_of_add] at h
    · obtain ⟨i, x, h1, h2⟩ := p3sC_inv _ j u hu
      rw [List.getElem?_map] at h1
      have hi : i < len := by
        rcases Nat.lt_or_ge i len with h | h
        · exact h
        · rw [List.getElem?_eq_none (by simpa using h)] at h1
          cases h1
      rw [List.getElem?_range hi] at h1
      injection h1 with h1
      subst h1
      rcases h2 with ⟨rfl, rfl⟩ | ⟨rfl, rfl⟩ | ⟨rfl, rfl⟩
      · exact (hq i hi).1
      · exact (hq i hi).2.1
      · exact (hq i hi).2.2
end Go.Proofs.Ytohcdnbchidjeaa
