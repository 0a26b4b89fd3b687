/-
  slices.Reverse at bytes, over an owned row.
-/
import Derived.Test.YtippojkdgecblaaDoorBytes
namespace Go.Proofs.YtippojkdgecblaaDoor
open Go.RowKit
/-- The first k and the last k have changed places. -/
def Rv (l m : List UInt8) (k : Nat) : Prop := m.length = l.length ∧ ∀ t, t < l.length → m[t]? = if t < k ∨ l.length < t + 1 + k then l[l.length - 1 - t]? else l[t]?
theorem Rv.start (l : List UInt8) : Rv l l 0 := ⟨rfl, fun t ht => by rw [if_neg (by omega)]⟩
theorem Rv.done {l m : List UInt8} {k : Nat} (h : Rv l m k) (hk : l.length ≤ 2 * k + 1) : m = l.reverse := by
  apply List.ext_getElem?
  intro t
  rcases Nat.lt_or_ge t l.length with ht | ht
  · rw [h.2 t ht, List.getElem?_reverse ht]
    split
    · rfl
    · congr 1; omega
  · rw [List.getElem?_eq_none (by rw [h.1]; exact ht), List.getElem?_eq_none (by rw [List.length_reverse]; exact ht)]
theorem Rv.step {l m : List UInt8} {k : Nat} (h : Rv l m k) (hk : 2 * k + 1 < l.length) {x y : UInt8} (hx : m[k]? = some x) (hy : m[l.length - 1 - k]? = some y) :
    Rv l ((m.set k y).set (l.length - 1 - k) x) (k + 1) := by
  have hk0 := h.2 k (by omega)
  have hj0 := h.2 (l.length - 1 - k) (by omega)
  rw [if_neg (by omega)] at hk0 hj0
  refine ⟨by simp [h.1], fun t ht => ?_⟩
  rw [List.getElem?_set, List.getElem?_set]
  simp only [List.length_set, h.1]
  by_cases e1 : l.length - 1 - k = t
  · rw [if_pos e1, if_pos (by omega), if_pos (by omega), ← hx, hk0]
    congr 1; omega
  · rw [if_neg e1]
    by_cases e2 : k = t
    · rw [if_pos e2, if_pos (by omega), if_pos (by omega), ← hy, hj0]
      congr 1; omega
    · rw [if_neg e2, h.2 t ht]
      by_cases e3 : t < k ∨ l.length < t + 1 + k
      · rw [if_pos e3, if_pos (by omega)]
      · rw [if_neg e3, if_neg (by omega)]
set_option maxHeartbeats 1000000 in
theorem reverse_own (base g n c : Nat) (l : List UInt8) (w : World) (hown : BOwn w base (some ⟨g, 0, none⟩) n c l) (hn : n ≤ 140737488355328) :
    Calls Tryd.prog 54 #[.slice (some ⟨g, 0, none⟩) n c] w fun e w' => e = .returned (.tuple #[]) ∧ BOwn w' base (some ⟨g, 0, none⟩) n c l.reverse ∧ w.grownBy w' (some g) := by
  have hl := Lib.hid hown.len
  go_enter Tryd.func54, Tryd.ntmps54
  go_wp2
  go_loopw [2, 3] (fun i j wr => ∃ (k : Nat) (m : List UInt8), i = .int .i64 (k : Int) ∧ j = .int .i64 ((n : Int) - 1 - k) ∧ BOwn wr base (some ⟨g, 0, none⟩) n c m ∧ w.grownBy wr (some g) ∧ Rv l m k ∧ k ≤ n) (fun i _ _ => n - (intOf i).toNat)
  case atStart => exact ⟨0, l, rfl, by simp, hown, World.grownBy.refl _ _, Rv.start l, by omega⟩
  case round =>
    obtain ⟨k, m, rfl, rfl, ho, hg, hrv, hkn⟩ := hrel
    by_cases hlt : 2 * k + 1 < n
    · have hml : m.length = n := by rw [hrv.1, hl.out]
      have hxx : m[k]? = some (m[k]'(by omega)) := List.getElem?_eq_getElem (by omega)
      have hyy : m[n - 1 - k]? = some (m[n - 1 - k]'(by omega)) := List.getElem?_eq_getElem (by omega)
      generalize hx : m[k]'(by omega) = x at hxx
      generalize hy : m[n - 1 - k]'(by omega) = y at hyy
      clear hx hy
      have hcx := ho.cell hxx
      have hcy := ho.cell hyy
      have hfx := ho.free k
      have hfy := ho.free (n - 1 - k)
      have ho2 := Lib.hid ((ho.set_ k y).set_ (n - 1 - k) x)
      have hs2 := Lib.hid (hrv.step (by rw [hl.out]; exact hlt) hxx (by rw [hl.out]; exact hyy))
      clear hml hxx hyy hrv
      go_wp2
      go_region
      go_wp2
      go_roundw
      case rel => exact ⟨k + 1, _, by go_num, by go_num, ho2.out.drew, gb_drew (gb_set (gb_set hg (.inl rfl) _) (.inl rfl) _), by have := hs2.out; rwa [hl.out] at this, by omega⟩
      case measure => simp [intOf]; omega
    · go_wp2
      go_end0
      exact ⟨rfl, by rw [← hrv.done (by rw [hl.out]; omega)]; exact ho, hg⟩
end Go.Proofs.YtippojkdgecblaaDoor
