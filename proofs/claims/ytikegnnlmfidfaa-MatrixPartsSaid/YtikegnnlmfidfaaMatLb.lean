/-
  Matrices, in plain Lean: roots after two are put together.
-/
import Derived.Test.YtikegnnlmfidfaaMatO
namespace Go.Proofs.Ytikegnnlmfidfaa
theorem rootU_fix {us : List Nat} (h : UOk us) : ∀ (n : Nat), n < 17 → us[rootU us n]? = some (rootU us n) := by
  intro n
  induction n using Nat.strongRecOn with
  | _ n ih =>
    intro hn
    obtain ⟨m, hm⟩ : ∃ m, us[n]? = some m := ⟨_, List.getElem?_eq_getElem (by have := h.1; omega)⟩
    have hle := h.2 n m hm
    rcases Nat.lt_or_ge m n with hlt | hge
    · rw [← rootU_step hm hle]
      exact ih m hlt (by omega)
    · obtain rfl : m = n := by omega
      rw [rootU_self hm]
      exact hm
theorem rootU_set {us : List Nat} (h : UOk us) {r s : Nat} (hr : us[r]? = some r) (hs : us[s]? = some s) (hsr : s ≤ r) : ∀ (n : Nat), n < 17 → rootU (us.set r s) n = if rootU us n = r then s else rootU us n := by
  have h' := h.set hsr
  have hrl : r < us.length := (List.getElem?_eq_some_iff.1 hr).1
  have hss : (us.set r s)[s]? = some s := by
    rw [List.getElem?_set]
    by_cases e : r = s
    · rw [if_pos e]
      simp [hrl]
    · rw [if_neg e]
      exact hs
  intro n
  induction n using Nat.strongRecOn with
  | _ n ih =>
    intro hn
    obtain ⟨m, hm⟩ : ∃ m, us[n]? = some m := ⟨_, List.getElem?_eq_getElem (by have := h.1; omega)⟩
    have hle := h.2 n m hm
    by_cases hnr : n = r
    · subst hnr
      rw [rootU_self hr, if_pos rfl]
      have e : (us.set n s)[n]? = some s := by rw [List.getElem?_set, if_pos rfl, if_pos hrl]
      rw [← rootU_step e hsr, rootU_self hss]
    · have e : (us.set r s)[n]? = some m := by rw [List.getElem?_set, if_neg (fun e => hnr e.symm)]; exact hm
      rcases Nat.lt_or_ge m n with hlt | hge
      · rw [← rootU_step e hle, ← rootU_step hm hle]
        exact ih m hlt (by omega)
      · obtain rfl : m = n := by omega
        rw [rootU_self e, rootU_self hm, if_neg hnr]
/-- Two that have one root keep one, whatever is put together. -/
theorem stepU_keep {us : List Nat} (h : UOk us) (both : Nat → Nat → Bool) (a b : Nat) (ha : a < 17) (hb : b < 17) {x y : Nat} (hx : x < 17) (hy : y < 17) (e : rootU us x = rootU us y) : rootU (stepU both us a b) x = rootU (stepU both us a b) y := by
  unfold stepU
  split
  · have hra := rootU_fix h a ha
    have hrb := rootU_fix h b hb
    rcases Nat.le_total (rootU us a) (rootU us b) with hle | hle
    · rw [Nat.max_eq_right hle, Nat.min_eq_left hle, rootU_set h hrb hra hle x hx, rootU_set h hrb hra hle y hy, e]
    · rw [Nat.max_eq_left hle, Nat.min_eq_right hle, rootU_set h hra hrb hle x hx, rootU_set h hra hrb hle y hy, e]
  · exact e
/-- Two that share have one root from then on. -/
theorem stepU_both {us : List Nat} (h : UOk us) {both : Nat → Nat → Bool} {a b : Nat} (ha : a < 17) (hb : b < 17) (hs : both a b = true) : rootU (stepU both us a b) a = rootU (stepU both us a b) b := by
  unfold stepU
  rw [if_pos hs]
  have hra := rootU_fix h a ha
  have hrb := rootU_fix h b hb
  rcases Nat.le_total (rootU us a) (rootU us b) with hle | hle
  · rw [Nat.max_eq_right hle, Nat.min_eq_left hle, rootU_set h hrb hra hle a ha, rootU_set h hrb hra hle b hb, if_pos rfl]
    split <;> rfl
  · rw [Nat.max_eq_left hle, Nat.min_eq_right hle, rootU_set h hra hrb hle a ha, rootU_set h hra hrb hle b hb, if_pos rfl]
    split <;> rfl
theorem innerU_keep (both : Nat → Nat → Bool) {a : Nat} (ha : a < 17) {x y : Nat} (hx : x < 17) (hy : y < 17) {us : List Nat} (h : UOk us) (e : rootU us x = rootU us y) : ∀ b, b ≤ 17 → rootU (innerU both us a b) x = rootU (innerU both us a b) y
  | 0, _ => e
  | b + 1, hb => by
    rw [innerU_succ]
    exact stepU_keep (h.inner both a b) both a b ha (by omega) hx hy (innerU_keep both ha hx hy h e b (by omega))
theorem innerU_both {both : Nat → Nat → Bool} {a j : Nat} (ha : a < 17) (hs : both a j = true) {us : List Nat} (h : UOk us) : ∀ b, b ≤ 17 → j < b → rootU (innerU both us a b) a = rootU (innerU both us a b) j
  | 0, _, hj => by omega
  | b + 1, hb, hj => by
    rw [innerU_succ]
    by_cases e : j = b
    · subst e
      exact stepU_both (h.inner both a j) ha (by omega) hs
    · exact stepU_keep (h.inner both a b) both a b ha (by omega) ha (by omega) (innerU_both ha hs h b (by omega) (by omega))
/-- Devices that share are behind one root. -/
theorem outerU_both {both : Nat → Nat → Bool} {i j : Nat} (hij : j < i) (hs : both i j = true) {us : List Nat} (h : UOk us) : ∀ a, a ≤ 17 → i < a → rootU (outerU both us a) i = rootU (outerU both us a) j
  | 0, _, hi => by omega
  | a + 1, ha, hi => by
    rw [outerU_succ]
    by_cases e : i = a
    · subst e
      exact innerU_both (by omega) hs (h.outer both i) i (by omega) hij
    · exact innerU_keep both (by omega) (by omega) (by omega) (h.outer both a) (outerU_both hij hs h a (by omega) (by omega)) a (by omega)
/-- What the groups are behind k devices. -/
structure GIs (has : Nat → Bool) (root : Nat → Nat) (k : Nat) (s : List (Nat × Nat) × List (List Int)) : Prop where
  lt : ∀ r i, aget r s.1 = some i → i < s.2.length
  some_ : ∀ n, n < k → has n = true → ∃ i, aget (root n) s.1 = some i
  mem : ∀ (i : Nat) (l : List Int), s.2[i]? = some l → ∀ d ∈ l, ∃ n : Nat, d = (n : Int) ∧ n < k ∧ has n = true ∧ aget (root n) s.1 = some i
  all : ∀ n, n < k → has n = true → ∀ i, aget (root n) s.1 = some i → ∃ l, s.2[i]? = some l ∧ (n : Int) ∈ l
theorem groupG_is (has : Nat → Bool) (root : Nat → Nat) : ∀ k, GIs has root k (groupG has root k)
  | 0 => ⟨fun r i h => (by cases h), fun n h => absurd h (Nat.not_lt_zero _), fun i l h => (by simp [groupG] at h), fun n h => absurd h (Nat.not_lt_zero _)⟩
  | k + 1 => by
    rw [groupG_succ]
    have h := groupG_is has root k
    obtain ⟨s, hs⟩ : ∃ s, groupG has root k = s := ⟨_, rfl⟩
    rw [hs] at h ⊢
    unfold stepG
    cases hk : has k with
    | false =>
      rw [if_neg (by simp)]
      refine ⟨h.lt, fun n hn hh => ?_, fun i l hl d hd => ?_, fun n hn hh => ?_⟩
      · rcases Nat.lt_succ_iff_lt_or_eq.1 hn with hn | rfl
        · exact h.some_ n hn hh
        · rw [hk] at hh; cases hh
      · obtain ⟨n, h1, h2, h3⟩ := h.mem i l hl d hd
        exact ⟨n, h1, Nat.lt_succ_of_lt h2, h3⟩
      · rcases Nat.lt_succ_iff_lt_or_eq.1 hn with hn | rfl
        · exact h.all n hn hh
        · rw [hk] at hh; cases hh
    | true =>
      rw [if_pos rfl]
      cases ha : aget (root k) s.1 with
      | some i0 =>
        have hi0 := h.lt _ _ ha
        simp only
        refine ⟨fun r i hi => by rw [List.length_set]; exact h.lt r i hi, fun n hn hh => ?_, fun i l hl d hd => ?_, fun n hn hh i hi => ?_⟩
        · rcases Nat.lt_succ_iff_lt_or_eq.1 hn with hn | rfl
          · exact h.some_ n hn hh
          · exact ⟨i0, ha⟩
        · rw [List.getElem?_set] at hl
          split at hl
          · rename_i e
            subst e
            obtain rfl := Option.some.inj hl
            rcases List.mem_append.1 hd with hd | hd
            · rw [List.getD_eq_getElem?_getD, List.getElem?_eq_getElem hi0, Option.getD_some] at hd
              obtain ⟨n, h1, h2, h3⟩ := h.mem i0 _ (List.getElem?_eq_getElem hi0) d hd
              exact ⟨n, h1, Nat.lt_succ_of_lt h2, h3⟩
            · obtain rfl := List.mem_singleton.1 hd
              exact ⟨k, rfl, Nat.lt_succ_self _, hk, ha⟩
          · obtain ⟨n, h1, h2, h3⟩ := h.mem i l hl d hd
            exact ⟨n, h1, Nat.lt_succ_of_lt h2, h3⟩
        · rw [List.getElem?_set]
          rcases Nat.lt_succ_iff_lt_or_eq.1 hn with hn | rfl
          · obtain ⟨l, hl, hm⟩ := h.all n hn hh i hi
            by_cases e : i0 = i
            · subst e
              rw [if_pos rfl, if_pos hi0]
              exact ⟨_, rfl, List.mem_append_left _ (by rw [List.getD_eq_getElem?_getD, hl]; exact hm)⟩
            · rw [if_neg e]
              exact ⟨l, hl, hm⟩
          · rw [ha] at hi
            obtain rfl := Option.some.inj hi
            rw [if_pos rfl, if_pos hi0]
            exact ⟨_, rfl, List.mem_append_right _ (List.mem_singleton.2 rfl)⟩
      | none =>
        simp only
        refine ⟨fun r i hi => ?_, fun n hn hh => ?_, fun i l hl d hd => ?_, fun n hn hh i hi => ?_⟩
        · rw [aget_aput] at hi
          simp only [List.length_append, List.length_singleton]
          split at hi
          · obtain rfl := Option.some.inj hi
            omega
          · have := h.lt r i hi
            omega
        · rw [aget_aput]
          split
          · exact ⟨_, rfl⟩
          · rename_i e
            rcases Nat.lt_succ_iff_lt_or_eq.1 hn with hn | rfl
            · exact h.some_ n hn hh
            · exact absurd rfl e
        · simp only [List.getElem?_append] at hl
          split at hl
          · obtain ⟨n, h1, h2, h3, h4⟩ := h.mem i l hl d hd
            refine ⟨n, h1, Nat.lt_succ_of_lt h2, h3, ?_⟩
            rw [aget_aput, if_neg (fun e => by rw [← e, ha] at h4; cases h4)]
            exact h4
          · rename_i hge
            have hi0 : i - s.2.length = 0 := by
              have := (List.getElem?_eq_some_iff.1 hl).1
              simp at this
              omega
            rw [hi0] at hl
            obtain rfl := Option.some.inj hl
            obtain rfl := List.mem_singleton.1 hd
            exact ⟨k, rfl, Nat.lt_succ_self _, hk, by rw [aget_aput, if_pos rfl]; congr 1; omega⟩
        · rw [aget_aput] at hi
          split at hi
          · rename_i e
            obtain rfl := Option.some.inj hi
            rcases Nat.lt_succ_iff_lt_or_eq.1 hn with hn | rfl
            · obtain ⟨j, hj⟩ := h.some_ n hn hh
              rw [← e, ha] at hj
              cases hj
            · exact ⟨[(n : Int)], by simp, List.mem_singleton.2 rfl⟩
          · rename_i e
            rcases Nat.lt_succ_iff_lt_or_eq.1 hn with hn | rfl
            · obtain ⟨l, hl, hm⟩ := h.all n hn hh i hi
              exact ⟨l, by simp only [List.getElem?_append]; rw [if_pos (List.getElem?_eq_some_iff.1 hl).1]; exact hl, hm⟩
            · exact absurd rfl e
end Go.Proofs.Ytikegnnlmfidfaa
