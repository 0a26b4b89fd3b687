/-
  Slices of slices of bytes that came in.
-/
import Derived.Test.YtmaehbebpldpcaaArrOpen
import Derived.Test.YtmaehbebpldpcaaBytes
import Derived.Deep.Matrix
namespace Go.Proofs.Ytmaehbebpldpcaa
open Go.RowKit Go.WideShapes Go.ChangeShapes
abbrev BRow := Option Addr × Nat × Nat × List UInt8
/-- Rows of bytes that came in. -/
structure RowsIn (w : World) (B : Nat) (A : Option Addr) (n : Nat) (rs : List BRow) : Prop where
  outer : Reads w B 1 A n (rs.map fun r : BRow => Value.slice r.1 r.2.1 r.2.2.1)
  rows : ∀ r ∈ rs, BReads w B r.1 r.2.1 r.2.2.2 ∧ r.2.1 ≤ r.2.2.1 ∧ r.2.2.1 ≤ maxLen
theorem RowsIn.len {w : World} {B n : Nat} {A : Option Addr} {rs : List BRow} (h : RowsIn w B A n rs) : rs.length = n := by have := h.outer.1; simpa using this
theorem RowsIn.below {w w' : World} {B n : Nat} {A : Option Addr} {rs : List BRow} (h : RowsIn w B A n rs) (hb : Below B w w') : RowsIn w' B A n rs :=
  ⟨Reads.below h.outer hb, fun r hr => ⟨Reads.below (h.rows r hr).1 hb, (h.rows r hr).2⟩⟩
theorem RowsIn.at_ {w : World} {B n k : Nat} {A : Option Addr} {rs : List BRow} (h : RowsIn w B A n rs) (hk : k < n) :
    ∃ ad r, A = some ad ∧ rs[k]? = some r ∧ w.cell? (ad.add k) = some (.slice r.1 r.2.1 r.2.2.1) ∧ BReads w B r.1 r.2.1 r.2.2.2 ∧ r.2.1 ≤ r.2.2.1 ∧ r.2.2.1 ≤ maxLen := by
  obtain ⟨ad, u, e, hb, hx, hc⟩ := Reads.at_ h.outer hk
  have hl : k < rs.length := by rw [h.len]; exact hk
  rw [List.getElem?_map, List.getElem?_eq_getElem hl] at hx
  injection hx with hx
  subst hx
  exact ⟨ad, rs[k], e, List.getElem?_eq_getElem hl, hc, h.rows _ (List.getElem_mem hl)⟩
section
variable {H : Type} {enc : TypeId × Value → H} {P : Program} {w : World} {held : Bool}
theorem open_rows {t e q : TypeId} {v : Value} {a : Option Addr} {len cap : Nat} {d : DataW H} {p : List MemPlace} (ht : P.underlying t = some (.slice e)) (he : P.underlying e = some (.slice q)) (hq : P.underlying q = some (.int .u8))
    (ce : P.cellsOf e = 1) (cq : P.cellsOf q = 1) (hv : v = .slice a len cap) (h : DataW.Trod enc P w 0 (fun _ => true) held t v d p) : ∃ rs : List BRow, RowsIn w w.heap.size a len rs ∧ len ≤ cap ∧ cap ≤ maxLen := by
  subst hv
  obtain ⟨fuel, hf⟩ := h
  rcases Go.Deep.open_int_rows ht he hq ce cq hf with ⟨hcs, _⟩ | ⟨ad, len', cap', A, L, C, Z, hcs, _, hl, hm, _, hx⟩
  · simp [Value.cells] at hcs
    obtain ⟨rfl, rfl, rfl⟩ := hcs
    exact ⟨[], ⟨Reads.none_, by simp⟩, Nat.le_refl _, by decide⟩
  · simp [Value.cells] at hcs
    obtain ⟨rfl, rfl, rfl⟩ := hcs
    have each : ∀ i, i < len → ∃ r : BRow, w.cell? (ad.add i) = some (.slice r.1 r.2.1 r.2.2.1) ∧ BReads w w.heap.size r.1 r.2.1 r.2.2.2 ∧ r.2.1 ≤ r.2.2.1 ∧ r.2.2.1 ≤ maxLen := by
      intro i hi
      obtain ⟨h0, h1, h2, h3, h4, h5, h6⟩ := hx i (by omega)
      have hrow : (A i = none ∧ L i = 0 ∧ C i = 0 ∧ Z i = []) ∨ ∃ x, A i = some x ∧ L i ≤ C i ∧ C i ≤ maxLen ∧ (Z i).length = C i ∧ (∀ j, j < (Z i).length → w.cell? (x.add j) = some (.int .u8 ((Z i).getD j 0))) ∧ ∀ n ∈ Z i, (Lit.int .u8 n).wf = true := by
        cases hA : A i with
        | none =>
          have hc := h5 hA
          exact .inl ⟨rfl, by omega, hc, List.eq_nil_of_length_eq_zero (by rw [h3, hc])⟩
        | some x => exact .inr ⟨x, rfl, h1, h2, h3, fun j hj => (h6 x hA).2 j (by omega), h4⟩
      obtain ⟨l, hr, hlc, hcm⟩ := reads_of_row hrow
      exact ⟨(A i, L i, C i, l), h0, hr, hlc, hcm⟩
    obtain ⟨q, hq⟩ := Go.Deep.choose_lt each
    refine ⟨(List.range len).map q, ⟨⟨by simp, fun hn => ⟨ad, rfl, ?_, fun j u hu => ?_⟩⟩, ?_⟩, hl, hm⟩
    · have h := World.block_lt_of_cell? w _ (hq 0 (by omega)).1
      rwa [block_of_add] at h
    · rw [List.getElem?_map, List.getElem?_map] at hu
      have hi : j < len := by
        rcases Nat.lt_or_ge j len with h | h
        · exact h
        · rw [List.getElem?_eq_none (by simpa using h)] at hu
          cases hu
      rw [List.getElem?_range hi] at hu
      injection hu with hu
      subst hu
      exact (hq j hi).1
    · intro r hr
      obtain ⟨i, hi, rfl⟩ := List.mem_map.1 hr
      exact (hq i (List.mem_range.1 hi)).2
end
end Go.Proofs.Ytmaehbebpldpcaa
