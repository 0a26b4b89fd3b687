/-
  What VectorBumps and VectorOrders say, in plain Lean.
-/
import Derived.Test.YtndekohimfjdeaaDoorVecO
namespace Go.Proofs.YtndekohimfjdeaaDoor
open Go.RowKit
theorem ofN_congr : ∀ (k : Nat) (d : Int) (f g : Int → Nat), (∀ e, d ≤ e → e < d + k → f e = g e) → ofN f k d = ofN g k d
  | 0, _, _, _, _ => rfl
  | k + 1, d, f, g, h => by
    rw [ofN, ofN, h d (by omega) (by omega), ofN_congr k (d + 1) f g fun e h1 h2 => h e (by omega) (by omega)]
theorem ofV_congr {f g : Int → Nat} (h : ∀ e, 1 ≤ e → e ≤ 16 → f e = g e) : ofV f = ofV g := ofN_congr 16 1 f g fun e h1 h2 => h e h1 (by omega)
theorem val_app : ∀ (l m : List (Int × Nat)) (d : Int), (∀ x ∈ l, x.1 ≠ d) → val (l ++ m) d = val m d
  | [], _, _, _ => rfl
  | x :: l, m, d, h => by
    rw [List.cons_append, val_cons, if_neg (h x List.mem_cons_self)]
    exact val_app l m d fun y hy => h y (List.mem_cons_of_mem _ hy)
theorem val_ofN : ∀ (k : Nat) (d : Int) (f : Int → Nat) (e : Int), val (ofN f k d) e = if d ≤ e ∧ e < d + k then f e else 0
  | 0, d, f, e => by rw [if_neg (by omega)]; rfl
  | k + 1, d, f, e => by
    rw [ofN]
    by_cases hp : 0 < f d
    · rw [if_pos hp, List.singleton_append, val_cons]
      by_cases hd : d = e
      · subst hd
        rw [if_pos rfl, if_pos (by omega)]
      · rw [if_neg hd, val_ofN k (d + 1) f e]
        by_cases h : d + 1 ≤ e ∧ e < d + 1 + k
        · rw [if_pos h, if_pos (by omega)]
        · rw [if_neg h, if_neg (by omega)]
    · rw [if_neg hp, List.nil_append, val_ofN k (d + 1) f e]
      by_cases hd : d = e
      · subst hd
        rw [if_neg (by omega), if_pos (by omega)]
        omega
      · by_cases h : d + 1 ≤ e ∧ e < d + 1 + k
        · rw [if_pos h, if_pos (by omega)]
        · rw [if_neg h, if_neg (by omega)]
theorem val_ofV (f : Int → Nat) (e : Int) : val (ofV f) e = if 1 ≤ e ∧ e ≤ 16 then f e else 0 := by
  rw [ofV, val_ofN]
  by_cases h : 1 ≤ e ∧ e ≤ 16
  · rw [if_pos h, if_pos (by omega)]
  · rw [if_neg h, if_neg (by omega)]
theorem ok_ofN : ∀ (k : Nat) (d last : Int) (f : Int → Nat), last < d → d + k ≤ 17 → okV last (ofN f k d) = true
  | 0, _, _, _, _, _ => rfl
  | k + 1, d, last, f, h, h2 => by
    rw [ofN]
    by_cases hp : 0 < f d
    · rw [if_pos hp, List.singleton_append, okV_cons, if_neg (by simp only []; omega)]
      exact ok_ofN k (d + 1) d f (by omega) (by omega)
    · rw [if_neg hp, List.nil_append]
      exact ok_ofN k (d + 1) last f (by omega) (by omega)
theorem ok_ofV (f : Int → Nat) : okV 0 (ofV f) = true := ok_ofN 16 1 0 f (by omega) (by omega)
theorem fit_ofN : ∀ (k : Nat) (d : Int) (f : Int → Nat), (∀ e, f e < 18446744073709551616) → fitV (ofN f k d)
  | 0, _, _, _ => fun x hx => by simp [ofN] at hx
  | k + 1, d, f, h => fun x hx => by
    rw [ofN] at hx
    rcases List.mem_append.1 hx with hx | hx
    · split at hx
      · obtain rfl : x = (d, f d) := by simpa using hx
        exact h d
      · simp at hx
    · exact fit_ofN k (d + 1) f h x hx
theorem fit_ofV (f : Int → Nat) (h : ∀ e, f e < 18446744073709551616) : fitV (ofV f) := fit_ofN 16 1 f h
theorem val_low : ∀ (l : List (Int × Nat)) (last d : Int), okV last l = true → d ≤ last → val l d = 0
  | [], _, _, _, _ => rfl
  | x :: l, last, d, h, hd => by
    rw [okV_cons] at h
    split at h
    · cases h
    · rw [val_cons, if_neg (by omega)]
      exact val_low l x.1 d h (by omega)
theorem val_hi : ∀ (l : List (Int × Nat)) (last d : Int), okV last l = true → 16 < d → val l d = 0
  | [], _, _, _, _ => rfl
  | x :: l, last, d, h, hd => by
    rw [okV_cons] at h
    split at h
    · cases h
    · rw [val_cons, if_neg (by omega)]
      exact val_hi l x.1 d h hd
theorem canon_N : ∀ (k : Nat) (l : List (Int × Nat)) (last d : Int), okV last l = true → d = last + 1 → d + k = 17 → l = ofN (val l) k d
  | 0, [], _, _, _, _, _ => rfl
  | 0, x :: l, last, d, h, h1, h2 => by
    rw [okV_cons] at h
    split at h
    · cases h
    · omega
  | k + 1, [], last, d, h, h1, h2 => by
    rw [ofN, if_neg (by simp [val]), List.nil_append]
    exact canon_N k [] (last + 1) (d + 1) rfl (by omega) (by omega)
  | k + 1, x :: l, last, d, h, h1, h2 => by
    have h0 := h
    rw [okV_cons] at h
    split at h
    · cases h
    · rename_i hx
      by_cases hd : x.1 = d
      · have hv : val (x :: l) d = x.2 := by rw [val_cons, if_pos hd]
        rw [ofN, hv, if_pos (by omega), List.singleton_append]
        have hc := canon_N k l x.1 (d + 1) h (by omega) (by omega)
        have : (d, x.2) = x := Prod.ext hd.symm rfl
        rw [this]
        congr 1
        refine hc.trans (ofN_congr k (d + 1) _ _ fun e h3 h4 => ?_)
        rw [val_cons, if_neg (by omega)]
      · have hv : val (x :: l) d = 0 := by
          rw [val_cons, if_neg hd]
          exact val_low l x.1 d h (by omega)
        rw [ofN, hv, if_neg (by omega), List.nil_append]
        refine canon_N k (x :: l) (last + 1) (d + 1) ?_ (by omega) (by omega)
        rw [okV_cons, if_neg (by omega)]
        exact h
/-- A vector that may be is made by its values. -/
theorem canon_V {l : List (Int × Nat)} (h : okV 0 l = true) : l = ofV (val l) := canon_N 16 l 0 1 h (by omega) (by omega)
theorem val_out {l : List (Int × Nat)} (h : okV 0 l = true) {d : Int} (hd : d < 1 ∨ 16 < d) : val l d = 0 := by
  rcases hd with hd | hd
  · exact val_low l 0 d h (by omega)
  · exact val_hi l 0 d h hd
end Go.Proofs.YtndekohimfjdeaaDoor
