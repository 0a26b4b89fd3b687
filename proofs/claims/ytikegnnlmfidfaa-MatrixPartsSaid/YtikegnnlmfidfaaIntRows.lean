/-
  Slices of integers that came in: as lists of numbers.
-/
import Derived.Test.YtikegnnlmfidfaaBase
namespace Go.Proofs.Ytikegnnlmfidfaa
open Go.RowKit
/-- A slice of unsigned integers reads as these numbers. -/
abbrev NReads (k : IntKind) (w : World) (B : Nat) (A : Option Addr) (n : Nat) (l : List Nat) : Prop := Reads w B 1 A n (l.map fun x : Nat => Value.int k (x : Int))
theorem NReads.len {k : IntKind} {w : World} {B n : Nat} {A : Option Addr} {l : List Nat} (h : NReads k w B A n l) : l.length = n := by have := h.1; simpa using this
theorem NReads.at_ {k : IntKind} {w : World} {B n i : Nat} {A : Option Addr} {l : List Nat} (h : NReads k w B A n l) (hi : i < n) :
    ∃ ad x, A = some ad ∧ ad.block < B ∧ l[i]? = some x ∧ w.cell? (ad.add i) = some (.int k (x : Int)) := by
  obtain ⟨ad, u, e, hb, hu, hc⟩ := Reads.at_ (show Reads w B 1 A n _ from h) hi
  rw [List.getElem?_map] at hu
  cases hl : l[i]? with
  | none => rw [hl] at hu; cases hu
  | some x => rw [hl] at hu; injection hu with hu; subst hu; exact ⟨ad, x, e, hb, rfl, hc⟩
/-- A slice of integers that came in. -/
theorem ints_of_row {k : IntKind} {w : World} {a : Option Addr} {len cap : Nat} {zs : List Int}
    (h : (a = none ∧ len = 0 ∧ cap = 0 ∧ zs = []) ∨ ∃ x, a = some x ∧ len ≤ cap ∧ cap ≤ maxLen ∧ zs.length = cap ∧ (∀ i, i < zs.length → w.cell? (x.add i) = some (.int k (zs.getD i 0))) ∧ ∀ n ∈ zs, (Lit.int k n).wf = true) :
    ∃ l : List Int, Reads w w.heap.size 1 a len (l.map (Value.int k)) ∧ (∀ n ∈ l, (Lit.int k n).wf = true) ∧ len ≤ cap ∧ cap ≤ maxLen := by
  rcases h with ⟨rfl, rfl, rfl, rfl⟩ | ⟨x, rfl, hlc, hcm, hz, hc, hw⟩
  · exact ⟨[], Reads.none_, by simp, Nat.le_refl _, by decide⟩
  · refine ⟨zs.take len, ⟨by simp; omega, fun hn => ⟨x, rfl, ?_, fun j u hu => ?_⟩⟩, fun n hn => hw n (List.mem_of_mem_take hn), hlc, hcm⟩
    · have := World.block_lt_of_cell? w _ (hc 0 (by omega))
      rwa [add_zero] at this
    · rw [List.getElem?_map, List.getElem?_take] at hu
      split at hu
      · rename_i hj
        have hjz : j < zs.length := by omega
        rw [List.getElem?_eq_getElem hjz] at hu
        simp only [Option.map_some, Option.some.injEq] at hu
        subst hu
        rw [hc j hjz, List.getD_eq_getElem?_getD, List.getElem?_eq_getElem hjz]
        rfl
      · cases hu
/-- A slice of unsigned integers that came in. -/
theorem nats_of_row {k : IntKind} {w : World} {a : Option Addr} {len cap : Nat} {zs : List Int} (hk : ∀ n : Int, (Lit.int k n).wf = true → 0 ≤ n)
    (h : (a = none ∧ len = 0 ∧ cap = 0 ∧ zs = []) ∨ ∃ x, a = some x ∧ len ≤ cap ∧ cap ≤ maxLen ∧ zs.length = cap ∧ (∀ i, i < zs.length → w.cell? (x.add i) = some (.int k (zs.getD i 0))) ∧ ∀ n ∈ zs, (Lit.int k n).wf = true) :
    ∃ l : List Nat, NReads k w w.heap.size a len l ∧ (∀ n ∈ l, (Lit.int k (n : Int)).wf = true) ∧ len ≤ cap ∧ cap ≤ maxLen := by
  obtain ⟨l, hr, hw, h1, h2⟩ := ints_of_row h
  have e : (l.map Int.toNat).map (fun x : Nat => (x : Int)) = l := by
    rw [List.map_map]
    refine (List.map_congr_left (g := id) fun n hn => ?_).trans (List.map_id l)
    exact Int.toNat_of_nonneg (hk n (hw n hn))
  refine ⟨l.map Int.toNat, ?_, fun n hn => ?_, h1, h2⟩
  · have e2 : (l.map Int.toNat).map (fun x : Nat => Value.int k (x : Int)) = l.map (Value.int k) := by
      have e3 := congrArg (List.map (Value.int k)) e
      rw [List.map_map] at e3
      exact e3
    unfold NReads
    rw [e2]
    exact hr
  · obtain ⟨z, hz, rfl⟩ := List.mem_map.1 hn
    rw [Int.toNat_of_nonneg (hk z (hw z hz))]
    exact hw z hz
end Go.Proofs.Ytikegnnlmfidfaa
