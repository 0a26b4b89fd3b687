/-
  Arrays of integers that came in, by value.
-/
import Derived.Test.YtndekohimfjdeaaDoorBase
import Derived.ChangeArms
import Derived.WideShapes
import Derived.OpenShut
namespace Go.Proofs.YtndekohimfjdeaaDoor
open Go.RowKit Go.WideShapes Go.ChangeShapes
section
variable {H : Type} {enc : TypeId × Value → H} {P : Program} {w : World} {base : Nat} {spare : Nat → Bool} {held : Bool}
theorem okWide_array {r : Reach} {b0 : Nat} {t e : TypeId} {n : Nat} {v : Value} (ht : P.underlying t = some (.array n e)) (h : Value.okWide P w r b0 t v) : ∃ cs, v = .agg cs ∧ cs.size = P.cellsOf t := by
  unfold Value.okWide at h
  rw [ht] at h
  obtain ⟨cs, rfl, h1, _⟩ := h
  exact ⟨cs, rfl, h1⟩
theorem mapM_range_some {α : Type} {f : Nat → Option α} : ∀ {n : Nat} {xs : List α}, (List.range n).mapM f = some xs → ∀ i, i < n → ∃ y, f i = some y := by
  intro n xs h i hi
  have key : ∀ (l : List Nat) (ys : List α), l.mapM f = some ys → ∀ j ∈ l, ∃ y, f j = some y := by
    intro l
    induction l with
    | nil => intro ys _ j hj; cases hj
    | cons a l ih =>
      intro ys hy j hj
      simp only [List.mapM_cons, Option.bind_eq_bind, Option.bind_eq_some_iff] at hy
      obtain ⟨y, hy1, zs, hy2, _⟩ := hy
      rcases List.mem_cons.1 hj with rfl | hj
      · exact ⟨y, hy1⟩
      · exact ih zs hy2 j hj
  exact key _ _ h i (List.mem_range.2 hi)
theorem wf_nonneg_u8 (z : Int) (h : (Lit.int .u8 z).wf = true) : 0 ≤ z := (bounds_u8 h).1
theorem wf_nonneg_u32 (z : Int) (h : (Lit.int .u32 z).wf = true) : 0 ≤ z := (bounds_u32 h).1
/-- An array of unsigned integers, opened. -/
theorem open_array {r : Reach} {b0 : Nat} {t e : TypeId} {n : Nat} {k : IntKind} {v : Value} {d : DataW H} {p : List MemPlace} (ht : P.underlying t = some (.array n e)) (he : P.underlying e = some (.int k)) (ct : P.cellsOf t = n) (ce : P.cellsOf e = 1)
    (hk : ∀ z : Int, (Lit.int k z).wf = true → 0 ≤ z) (hv : Value.okWide P w r b0 t v) (h : DataW.Trod enc P w base spare held t v d p) :
    ∃ zs : List Nat, v = .agg (zs.map fun x : Nat => Value.int k (x : Int)).toArray ∧ zs.length = n ∧ ∀ x ∈ zs, (Lit.int k (x : Int)).wf = true := by
  obtain ⟨cs, rfl, hsz⟩ := okWide_array ht hv
  obtain ⟨fuel, hf⟩ := h
  have hcell : ∀ i, i < n → ∃ z : Int, cs[i]? = some (.int k z) ∧ (Lit.int k z).wf = true := by
    intro i hi
    cases fuel with
    | zero => simp [DataW.trod] at hf
    | succ m =>
      unfold DataW.trod at hf
      rw [ht] at hf
      dsimp only at hf
      rw [if_pos (show (Value.agg cs).cells.toList.length = P.cellsOf t by show cs.toList.length = _; rw [Array.length_toList, hsz])] at hf
      simp only [Value.cells] at hf
      · cases hm : (List.range n).mapM (fun i => DataW.trod enc P w base spare held m e ((cs.toList.drop (i * P.cellsOf e)).take (P.cellsOf e))) with
        | none => rw [hm] at hf; cases hf
        | some xs =>
          obtain ⟨y, hy⟩ := mapM_range_some hm i hi
          obtain ⟨z, h1, _, h2⟩ := DataW.trod_int he hy
          refine ⟨z, ?_, h2⟩
          rw [ce, Nat.mul_one] at h1
          have h3 : ((cs.toList.drop i).take 1)[0]? = some (.int k z) := by rw [h1]; rfl
          rw [List.getElem?_take, if_pos (by omega), List.getElem?_drop, Nat.add_zero] at h3
          rw [← h3, Array.getElem?_toList]
  have hlen : cs.toList.length = n := by rw [Array.length_toList, hsz, ct]
  refine ⟨cs.toList.map fun v => match v with | .int _ z => z.toNat | _ => 0, ?_, by rw [List.length_map, hlen], ?_⟩
  · congr 1
    apply Array.ext'
    rw [List.map_map]
    show cs.toList = cs.toList.map _
    conv => lhs; rw [← List.map_id cs.toList]
    refine List.map_congr_left fun v hv => ?_
    obtain ⟨i, hi, rfl⟩ := List.getElem_of_mem hv
    obtain ⟨z, hz, hw⟩ := hcell i (by omega)
    have hz2 : cs.toList[i] = .int k z := by
      have : cs.toList[i]? = some (.int k z) := by rw [Array.getElem?_toList]; exact hz
      rw [List.getElem?_eq_getElem hi] at this
      injection this
    rw [hz2]
    simp only [id, Function.comp]
    rw [Int.toNat_of_nonneg (hk z hw)]
  · intro x hx
    obtain ⟨v, hv, rfl⟩ := List.mem_map.1 hx
    obtain ⟨i, hi, rfl⟩ := List.getElem_of_mem hv
    obtain ⟨z, hz, hw⟩ := hcell i (by omega)
    have hz2 : cs.toList[i] = .int k z := by
      have : cs.toList[i]? = some (.int k z) := by rw [Array.getElem?_toList]; exact hz
      rw [List.getElem?_eq_getElem hi] at this
      injection this
    rw [hz2]
    simp only []
    rw [Int.toNat_of_nonneg (hk z hw)]
    exact hw
end
end Go.Proofs.YtndekohimfjdeaaDoor
