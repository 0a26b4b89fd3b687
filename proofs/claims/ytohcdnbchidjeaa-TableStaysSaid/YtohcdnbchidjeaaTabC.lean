/-
  Tables in memory: Changes: its variables, its inner function.
-/
import Derived.Test.YtohcdnbchidjeaaTabV
namespace Go.Proofs.Ytohcdnbchidjeaa
open Go.RowKit
/-- The captured slice of old pairs. -/
def Old (W : World) (g base : Nat) (old : List KV) : Prop :=
  ∃ A c, W.cell? ⟨g, 0, none⟩ = some (.slice A old.length c) ∧ W.frozen? ⟨g, 0, none⟩ = false ∧ PReads W base A old.length (pvs old) ∧ old.length ≤ c
def ChgC (W0 : World) (N g1 g2 base : Nat) (old : List KV) (out : List P3) (W : World) : Prop :=
  Below N W0 W ∧ base ≤ W.heap.size ∧ (∀ j, 1 ≤ j → W.cell? ⟨g1, j, none⟩ = none) ∧ (∀ j, 1 ≤ j → W.cell? ⟨g2, j, none⟩ = none) ∧ Old W g1 base old ∧ Out W g2 base out
/-- A store into a block of one cell leaves a row of pairs alone. -/
theorem PReads.set1 {W : World} {B n g : Nat} {A : Option Addr} {l : List P3} (h : PReads W B A n l) (hg : ∀ j, 1 ≤ j → W.cell? ⟨g, j, none⟩ = none) (u : Value) : PReads (W.setCell ⟨g, 0, none⟩ u) B A n l := by
  refine ⟨h.1, fun hn => ?_⟩
  obtain ⟨ad, e, hb, hc⟩ := h.2 hn
  refine ⟨ad, e, hb, fun j v hv => ?_⟩
  have hne : g ≠ ad.block := by
    intro e
    have h3 : 1 < (p3sC l).length := by have := h.1; omega
    have h1 := hc 1 _ (List.getElem?_eq_getElem h3)
    rw [add_pos _ _ (by omega), ← e, hg _ (by omega)] at h1
    cases h1
  rw [← hc j v hv]
  exact World.cell?_setCell_far W _ _ _ (by rw [block_of_add]; exact hne)
section
variable {W0 W : World} {N g1 g2 base : Nat} {old : List KV} {out : List P3}
theorem ChgC.drew (h : ChgC W0 N g1 g2 base old out W) : ChgC W0 N g1 g2 base old out W.drew := ⟨h.1.drew, h.2.1, h.2.2.1, h.2.2.2.1, h.2.2.2.2.1, h.2.2.2.2.2⟩
theorem ChgC.drewN (h : ChgC W0 N g1 g2 base old out W) (k : Nat) : ChgC W0 N g1 g2 base old out (W.drewN k) := ⟨below_drewN h.1 k, h.2.1, h.2.2.1, h.2.2.2.1, h.2.2.2.2.1, h.2.2.2.2.2⟩
theorem ChgC.push {w2 : World} {x : P3} {A A' : Option Addr} {c c' : Nat} {T : TypeId} (h : ChgC W0 N g1 g2 base old out W) (hN : N ≤ g2) (h1 : g1 < base) (h2 : g2 < base) (hne : g2 ≠ g1)
    (hc : W.cell? ⟨g2, 0, none⟩ = some (.slice A out.length c)) (hown : POwn W base A out.length c out)
    (ho : POwn w2 base A' (out.length + 1) c' (out ++ [x])) (hg : (W.alloc (.cells #[.string x.1, .string x.2.1, .bool x.2.2] T)).drew.grownBy w2 (Value.slice A out.length c).ownBlock) :
    ChgC W0 N g1 g2 base old (out ++ [x]) (w2.setCell ⟨g2, 0, none⟩ (.slice A' (out.length + 1) c')) := by
  obtain ⟨hb, hbs, n1, n2, ⟨Ao, co, k1, k2, k3, k4⟩, ⟨Az, cz, z1, z2, z3⟩⟩ := h
  have hA : POwn (W.alloc (.cells #[.string x.1, .string x.2.1, .bool x.2.2] T)).drew base A out.length c out := (hown.alloc _).drew
  have hs : base ≤ (W.alloc (.cells #[.string x.1, .string x.2.1, .bool x.2.2] T)).drew.heap.size := by simp; omega
  have cA : ∀ g j, g < base → (W.alloc (.cells #[.string x.1, .string x.2.1, .bool x.2.2] T)).drew.cell? ⟨g, j, none⟩ = W.cell? ⟨g, j, none⟩ := fun g j hlt => World.cell?_alloc_lt W _ _ (by show g < W.heap.size; omega)
  have fA : ∀ g j, g < base → (W.alloc (.cells #[.string x.1, .string x.2.1, .bool x.2.2] T)).drew.frozen? ⟨g, j, none⟩ = W.frozen? ⟨g, j, none⟩ := fun g j hlt => World.frozen?_alloc_past _ _ _ (by omega)
  have c2 : ∀ g j, g < base → w2.cell? ⟨g, j, none⟩ = W.cell? ⟨g, j, none⟩ := fun g j hlt => gb_cell hg hA (cA g j hlt) hlt (by omega)
  have f2 : ∀ g j, g < base → w2.frozen? ⟨g, j, none⟩ = W.frozen? ⟨g, j, none⟩ := fun g j hlt => gb_frozen hg hA (fA g j hlt) hlt (by omega)
  have hl : (out ++ [x]).length = out.length + 1 := ho.len
  have n2' : ∀ j, 1 ≤ j → w2.cell? ⟨g2, j, none⟩ = none := fun j hj => (c2 g2 j h2).trans (n2 j hj)
  refine ⟨?_, ?_, fun j hj => (World.cell?_setCell_far w2 _ _ _ hne).trans ((c2 g1 j h1).trans (n1 j hj)), fun j hj => (World.cell?_setCell_other w2 _ _ _ (by intro e; injection e with _ e2 _; omega)).trans (n2' j hj), ⟨Ao, co, ?_, ?_, ?_, k4⟩, ⟨A', c', ?_, ?_, ?_⟩⟩
  · exact ((below_papp ((hb.alloc (by omega) _).drew) hg hA (by omega) (by omega))).setCell (by show N ≤ g2; exact hN) _
  · have := hg.size; simp at this ⊢; omega
  · exact (World.cell?_setCell_far w2 _ _ _ hne).trans ((c2 g1 0 h1).trans k1)
  · rw [World.frozen?_setCell]; exact (f2 g1 0 h1).trans k2
  · refine PReads.set1 (Reads.keep k3 fun p hp => ?_) n2' _
    have hpw : p.block < W.heap.size := by omega
    exact (World.cell?_of_block (hg.block p.block (by simp; omega) (fun e => by have := (hA.base_le p.block e.symm).1; omega))).trans (World.cell?_alloc_lt W _ _ hpw)
  · rw [hl]; exact World.cell?_setCell_same w2 _ _ ((c2 g2 0 h2).trans hc)
  · rw [World.frozen?_setCell]; exact (f2 g2 0 h2).trans z2
  · rw [hl]; exact ho.setCell h2 _
theorem ChgC.tail {x : KV} {l : List KV} {ad : Addr} {c : Nat} (h : ChgC W0 N g1 g2 base (x :: l) out W) (hN : N ≤ g1) (h1 : g1 < base) (hne : g1 ≠ g2)
    (hc : W.cell? ⟨g1, 0, none⟩ = some (.slice (some ad) (l.length + 1) c)) (hr : PReads W base (some ad) (l.length + 1) (pvs (x :: l))) (hlc : l.length + 1 ≤ c) :
    ChgC W0 N g1 g2 base l out (W.setCell ⟨g1, 0, none⟩ (.slice (some (if c = 1 then ad else ad.add 3)) l.length (c - 1))) := by
  obtain ⟨hb, hbs, n1, n2, ⟨Ao, co, k1, k2, k3, k4⟩, ⟨Az, cz, z1, z2, z3⟩⟩ := h
  refine ⟨hb.setCell (by show N ≤ g1; exact hN) _, by simpa using hbs, fun j hj => (World.cell?_setCell_other W _ _ _ (by intro e; injection e with _ e2 _; omega)).trans (n1 j hj), fun j hj => (World.cell?_setCell_far W _ _ _ hne).trans (n2 j hj), ⟨_, _, World.cell?_setCell_same W _ _ hc, by rw [World.frozen?_setCell]; exact k2, PReads.set1 ?_ n1 _, by omega⟩, ⟨Az, cz, (World.cell?_setCell_far W _ _ _ hne).trans z1, by rw [World.frozen?_setCell]; exact z2, z3.setCell h1 _⟩⟩
  have := PReads.cut hr (k := 1) (by omega) hlc
  simp only [pvs, List.map_cons, List.drop_succ_cons, List.drop_zero, Nat.add_sub_cancel] at this
  split
  · rename_i e; rw [if_pos e] at this; exact this
  · rename_i e; rw [if_neg e] at this; exact this
end
end Go.Proofs.Ytohcdnbchidjeaa
