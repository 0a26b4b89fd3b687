/-
  Nets: slices of acts that came in.
-/
import Derived.Test.YthajlhifgafpkaaNetT
import Derived.Deep.Slices
namespace Go.Proofs.Ythajlhifgafpkaa
open Go.RowKit
theorem flat_inv {α : Type} {enc : α → List Value} {K : Nat} (hK : 0 < K) (hk : ∀ x, (enc x).length = K) (l : List α) (j : Nat) (u : Value) (h : (l.flatMap enc)[j]? = some u) : ∃ x, l[j / K]? = some x ∧ (enc x)[j % K]? = some u := by
  have hj : j < l.length * K := by
    have := (List.getElem?_eq_some_iff.1 h).1
    rwa [flat_len hk] at this
  have hd : j / K < l.length := Nat.div_lt_of_lt_mul (by rw [Nat.mul_comm]; exact hj)
  refine ⟨l[j / K], List.getElem?_eq_getElem hd, ?_⟩
  have h2 := flat_at hk l (List.getElem?_eq_getElem hd) (Nat.mod_lt j hK)
  rw [← h2, Nat.mul_comm, Nat.div_add_mod, h]
instance : Inhabited ActV := ⟨⟨0, 0, 0, 0, none, 0, 0, []⟩⟩
/-- What the walk is told of a slice of acts that came in. -/
def AIn (w : World) (a : Option Addr) (len cap : Nat) (l : List ActV) : Prop := AReads w w.heap.size a len l ∧ len ≤ cap ∧ cap ≤ maxLen
theorem open_acts {H : Type} {enc : TypeId × Value → H} {W : World} {held : Bool} {a : Option Addr} {len cap : Nat} {d : DataW H} {ps : List MemPlace}
    (hd : DataW.Trod enc Try.prog W 0 (fun _ => true) held 38 (.slice a len cap) d ps) : ∃ l, AIn W a len cap l := by
  obtain ⟨fuel, hf⟩ := hd
  have hce : Try.prog.cellsOf 43 = 5 := by kernel_rfl
  rcases Go.Deep.open_slice Try.underlying38 hf with ⟨hcs, _⟩ | ⟨ad, len', cap', m, n, D, Pl, hcv, _, hl, hm, hmm, _, hx⟩
  · simp [Value.cells] at hcs
    obtain ⟨rfl, rfl, rfl⟩ := hcs
    exact ⟨[], ⟨Reads.none_, by simp⟩, Nat.le_refl _, by decide⟩
  · simp [Value.cells] at hcv
    obtain ⟨rfl, rfl, rfl⟩ := hcv
    have hv : ∀ i, i < len → ∃ z : ActV, (∀ j u, z.cells[j]? = some u → W.cell? (ad.add (i * 5 + j)) = some u) ∧ ActIn W W.heap.size z := by
      intro i hi
      obtain ⟨cs', h1, h2⟩ := hx i (by rw [hmm]; split <;> omega)
      rw [hce] at h1
      obtain ⟨_, hlen, hcell⟩ := World.cells?_some h1
      obtain ⟨z, rfl, hz⟩ := act_of h2
      refine ⟨z, fun j u hu => ?_, hz⟩
      have hj := (List.getElem?_eq_some_iff.1 hu).1
      have e := hcell j (by rw [← hlen]; exact hj)
      rw [add_of_add] at e
      rw [e]
      first | exact hu | (rw [← hu]; simp [List.getD_eq_getElem?_getD])
    obtain ⟨q, hq⟩ := Go.Deep.choose_lt hv
    refine ⟨(List.range len).map q, ⟨⟨by rw [flat_len ActV.cells_len]; simp, fun hn => ⟨ad, rfl, ?_, fun j u hu => ?_⟩⟩, fun x hx => ?_⟩, hl, hm⟩
    · have h := World.block_lt_of_cell? W _ ((hq 0 hn).1 0 _ rfl)
      rwa [block_of_add] at h
    · obtain ⟨x, h1, h2⟩ := flat_inv (by omega) ActV.cells_len _ j u hu
      rw [List.getElem?_map] at h1
      have hi : j / 5 < len := by
        rcases Nat.lt_or_ge (j / 5) len with h | h
        · exact h
        · rw [List.getElem?_eq_none (by simpa using h)] at h1
          cases h1
      rw [List.getElem?_range hi] at h1
      injection h1 with h1
      subst h1
      have := (hq (j / 5) hi).1 (j % 5) u h2
      rwa [show j / 5 * 5 + j % 5 = j by omega] at this
    · obtain ⟨i, hi, rfl⟩ := List.mem_map.1 hx
      exact (hq i (List.mem_range.1 hi)).2
end Go.Proofs.Ythajlhifgafpkaa
