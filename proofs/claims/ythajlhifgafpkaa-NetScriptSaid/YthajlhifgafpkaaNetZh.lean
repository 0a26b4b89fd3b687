/-
  Nets: what Flight returned, read.
-/
import Derived.Test.YthajlhifgafpkaaNetZb
namespace Go.Proofs.Ythajlhifgafpkaa
open Go.RowKit Go.Shelf
def Q4 (p : Pk) : Nat × Int × Int × Nat := (p.num, p.frm, p.too, p.run)
theorem P4_Q4 (x : PkV) : P4 x = Q4 x.pk := rfl
/-- A row of packets of the call's own, whose numbers are those of fl. -/
def FRow (W : World) (base : Nat) (v : Value) (n : Nat) (fl : List Pk) : Prop := ∃ xs : List PkV, W.ownsRow base 34 5 v n (xs.flatMap PkV.cells) ∧ xs.map P4 = fl.map Q4
section
variable {W W' : World} {base n : Nat} {v : Value} {fl : List Pk}
theorem FRow.len (h : FRow W base v n fl) : fl.length = n := by
  obtain ⟨xs, h1, h2⟩ := h
  have h3 := h1.1
  rw [flat_len PkV.cells_len] at h3
  have h4 := congrArg List.length h2
  simp at h4
  omega
theorem FRow.below (h : FRow W base v n fl) (hb : Below W.heap.size W W') : FRow W' base v n fl := by
  obtain ⟨xs, h1, h2⟩ := h
  exact ⟨xs, own_keep h1 (fun j hj => hb.block j (h1.lt j hj).2), h2⟩
theorem FRow.keep (h : FRow W base v n fl) (hk : ∀ j, v.ownBlock = some j → W'.heap[j]? = W.heap[j]?) : FRow W' base v n fl := by
  obtain ⟨xs, h1, h2⟩ := h
  exact ⟨xs, own_keep h1 hk, h2⟩
theorem FRow.shape (h : FRow W base v n fl) : ∃ A c, v = .slice A n c := by
  obtain ⟨xs, h1, h2⟩ := h
  obtain ⟨A, c, e, _⟩ := own_shape h1
  exact ⟨A, c, e⟩
theorem FRow.at_ {k : Nat} (h : FRow W base v n fl) (hk : k < n) :
    ∃ g c p, v = .slice (some ⟨g, 0, none⟩) n c ∧ base ≤ g ∧ g < W.heap.size ∧ fl[k]? = some p ∧ ∀ W' : World, W'.heap[g]? = W.heap[g]? →
      W'.cell? ⟨g, k * 5, none⟩ = some (.int .u64 (p.num : Int)) ∧ W'.cell? ⟨g, k * 5 + 1, none⟩ = some (.int .i64 p.frm) ∧ W'.cell? ⟨g, k * 5 + 2, none⟩ = some (.int .i64 p.too) ∧ W'.cell? ⟨g, k * 5 + 3, none⟩ = some (.int .u64 (p.run : Int)) := by
  obtain ⟨xs, h1, h2⟩ := h
  have hxl : xs.length = n := by
    have := h1.1
    rw [flat_len PkV.cells_len] at this
    omega
  have hxk : k < xs.length := by omega
  have hfl : k < fl.length := by
    have := congrArg List.length h2
    simp at this
    omega
  obtain ⟨g, cap, hv, hb, hlt⟩ := h1.form (by omega)
  subst hv
  have hq : P4 xs[k] = Q4 fl[k] := by
    have := congrArg (fun l => l[k]?) h2
    simp only [List.getElem?_map, List.getElem?_eq_getElem hxk, List.getElem?_eq_getElem hfl, Option.map_some, Option.some.injEq] at this
    exact this
  refine ⟨g, cap, fl[k], rfl, hb, hlt, List.getElem?_eq_getElem hfl, fun W' hW => ?_⟩
  have hcell : ∀ j u, j < 5 → (xs[k]).cells[j]? = some u → W'.cell? ⟨g, k * 5 + j, none⟩ = some u := fun j u hj hu => by
    have e := h1.cells (g := g) rfl (k * 5 + j) u (by rw [flat_at PkV.cells_len xs (List.getElem?_eq_getElem hxk) hj]; exact hu)
    rw [add_lit2, Nat.zero_add] at e
    exact (World.cell?_of_block hW).trans e
  simp only [P4, Q4, Prod.mk.injEq] at hq
  obtain ⟨q0, q1, q2, q3⟩ := hq
  refine ⟨?_, ?_, ?_, ?_⟩
  · rw [← q0]; exact hcell 0 _ (by omega) rfl
  · rw [← q1]; exact hcell 1 _ (by omega) rfl
  · rw [← q2]; exact hcell 2 _ (by omega) rfl
  · rw [← q3]; exact hcell 3 _ (by omega) rfl
end
theorem flight_is {base g mb n c : Nat} {A : Option Addr} {vs : List PkV} {s : NS} (w : World) (h : NetIs w base g mb A n c vs s) (hn : n ≤ 4096) :
    Calls Try.prog 17 #[.pointer (some ⟨g, 0, none⟩)] w fun e w' => ∃ A' c', e = .returned (.slice A' n c') ∧ FRow w' w.heap.size (.slice A' n c') n s.fl ∧ Below w.heap.size w w' := by
  refine (flight_v w h hn).mono ?_
  rintro e w' ⟨v, xs, rfl, h1, h2, h3⟩
  obtain ⟨A', c', rfl, _⟩ := own_shape h1
  refine ⟨A', c', rfl, ⟨xs, h1, ?_⟩, h3⟩
  rw [h2, ← h.hv, List.map_map]
  rfl
end Go.Proofs.Ythajlhifgafpkaa
