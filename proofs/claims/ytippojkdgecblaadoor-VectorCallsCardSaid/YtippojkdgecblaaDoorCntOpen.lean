/-
  Slices of counts that came in.
-/
import Derived.Test.YtippojkdgecblaaDoorCnt
import Derived.Test.YtippojkdgecblaaDoorVecB
import Derived.Deep.SlicePairs
import Derived.ChangeArms
namespace Go.Proofs.YtippojkdgecblaaDoor
open Go.RowKit
theorem cntsC_inv : ∀ (l : List (Int × Nat)) (j : Nat) (u : Value), (cntsC l)[j]? = some u → ∃ i x, l[i]? = some x ∧ ((j = i * 2 ∧ u = .int .i64 x.1) ∨ (j = i * 2 + 1 ∧ u = .int .u64 (x.2 : Int)))
  | [], j, u, h => by simp [cntsC] at h
  | y :: l, 0, u, h => by rw [cntsC_cons] at h; simp at h; exact ⟨0, y, rfl, .inl ⟨rfl, h.symm⟩⟩
  | y :: l, 1, u, h => by rw [cntsC_cons] at h; simp at h; exact ⟨0, y, rfl, .inr ⟨rfl, h.symm⟩⟩
  | y :: l, j + 2, u, h => by
    rw [cntsC_cons] at h
    obtain ⟨i, x, h1, h2⟩ := cntsC_inv l j u (by simpa using h)
    exact ⟨i + 1, x, by simpa using h1, by
      rcases h2 with ⟨rfl, h2⟩ | ⟨rfl, h2⟩
      · exact .inl ⟨by omega, h2⟩
      · exact .inr ⟨by omega, h2⟩⟩
/-- What the walk is told of a slice of counts that came in. -/
def CIn (w : World) (a : Option Addr) (len cap : Nat) (l : List (Int × Nat)) : Prop := CReads w w.heap.size a len l ∧ fitV l ∧ len ≤ cap ∧ cap ≤ maxLen
theorem open_counts {H : Type} {enc : TypeId × Value → H} {W : World} {sp : Nat → Bool} {held : Bool} {a : Option Addr} {len cap : Nat} {d : DataW H} {ps : List MemPlace}
    (hd : DataW.Trod enc Tryd.prog W 0 sp held 23 (.slice a len cap) d ps) : ∃ l, CIn W a len cap l := by
  obtain ⟨fuel, hf⟩ := hd
  rcases Go.Deep.open_slice_pairs Tryd.underlying23 Tryd.underlying29 (by kernel_rfl) rfl rfl (by kernel_rfl) (by kernel_rfl) hf with ⟨hcs, _⟩ | ⟨ad, len', cap', m, n, V0, V1, D0, D1, P0, P1, hcs, _, hl, hm, hmm, _, hx⟩
  · simp [Value.cells] at hcs
    obtain ⟨rfl, rfl, rfl⟩ := hcs
    exact ⟨[], Reads.none_, by intro x hx; simp at hx, Nat.le_refl _, by decide⟩
  · simp [Value.cells] at hcs
    obtain ⟨rfl, rfl, rfl⟩ := hcs
    have hlm : len ≤ m := by rw [hmm]; split <;> omega
    have hv : ∀ i, i < len → ∃ z : Int × Nat, W.cell? (ad.add (i * 2)) = some (.int .i64 z.1) ∧ W.cell? (ad.add (i * 2 + 1)) = some (.int .u64 (z.2 : Int)) ∧ z.2 < 18446744073709551616 := by
      intro i hi
      obtain ⟨h0, h1, h2, h3⟩ := hx i (by omega)
      obtain ⟨z0, e0, _, _⟩ := DataW.trod_int Tryd.underlying3 h2
      obtain ⟨z1, e1, _, w1⟩ := DataW.trod_int Tryd.underlying27 h3
      injection e0 with e0
      injection e1 with e1
      have hb := bounds_u64 w1
      obtain ⟨x, rfl⟩ := Int.eq_ofNat_of_zero_le hb.1
      exact ⟨(z0, x), by rw [h0, e0], by rw [h1, e1], by show x < _; omega⟩
    obtain ⟨q, hq⟩ := Go.Deep.choose_lt hv
    refine ⟨(List.range len).map q, ⟨by rw [cntsC_len]; simp, fun hn => ⟨ad, rfl, ?_, fun j u hu => ?_⟩⟩, ?_, hl, hm⟩
    · have h := World.block_lt_of_cell? W _ (hq 0 hn).1
      rwa [block_of_add] at h
    · obtain ⟨i, x, h1, h2⟩ := cntsC_inv _ j u hu
      rw [List.getElem?_map] at h1
      have hi : i < len := by
        rcases Nat.lt_or_ge i len with h | h
        · exact h
        · rw [List.getElem?_eq_none (by simpa using h)] at h1
          cases h1
      rw [List.getElem?_range hi] at h1
      injection h1 with h1
      subst h1
      rcases h2 with ⟨rfl, rfl⟩ | ⟨rfl, rfl⟩
      · exact (hq i hi).1
      · exact (hq i hi).2.1
    · intro x hx
      obtain ⟨i, hi, rfl⟩ := List.mem_map.1 hx
      exact (hq i (List.mem_range.1 hi)).2.2
end Go.Proofs.YtippojkdgecblaaDoor
