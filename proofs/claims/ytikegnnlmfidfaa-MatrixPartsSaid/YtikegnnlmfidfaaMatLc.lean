/-
  Matrices, in plain Lean: the parts hold each device at most once, and devices that share are in one part.
-/
import Derived.Test.YtikegnnlmfidfaaMatLa
import Derived.Test.YtikegnnlmfidfaaMatLb
import Derived.Test.YtikegnnlmfidfaaMatFa
namespace Go.Proofs.Ytikegnnlmfidfaa
/-- What is the case for parts: each device is one, at most once, in one part. -/
structure PartsOk (P : List (List Int)) : Prop where
  dev : ∀ (i : Nat) (l : List Int), P[i]? = some l → ∀ d ∈ l, ∃ n : Nat, d = (n : Int) ∧ 1 ≤ n ∧ n ≤ 16
  one : ∀ (i j : Nat) (l l' : List Int), P[i]? = some l → P[j]? = some l' → ∀ d, d ∈ l → d ∈ l' → i = j
  nodup : ∀ (i : Nat) (l : List Int), P[i]? = some l → l.Nodup
theorem groupG_nodup (has : Nat → Bool) (root : Nat → Nat) : ∀ k, ∀ (i : Nat) (l : List Int), (groupG has root k).2[i]? = some l → l.Nodup
  | 0, i, l, h => by simp [groupG] at h
  | k + 1, i, l, h => by
    have ih := groupG_nodup has root k
    have hg := groupG_is has root k
    rw [groupG_succ] at h
    unfold stepG at h
    split at h
    · split at h
      · rename_i i0 hi0
        simp only at h
        have hlt := hg.lt _ _ hi0
        rw [List.getElem?_set] at h
        split at h
        · rename_i e
          subst e
          obtain rfl := Option.some.inj h
          rw [List.getD_eq_getElem?_getD, List.getElem?_eq_getElem hlt, Option.getD_some]
          have h2 := ih i0 _ (List.getElem?_eq_getElem hlt)
          rw [List.nodup_append]
          refine ⟨h2, by simp, fun a ha b hb => ?_⟩
          obtain rfl := List.mem_singleton.1 hb
          obtain ⟨n, hn, hnk, _⟩ := hg.mem i0 _ (List.getElem?_eq_getElem hlt) a ha
          omega
        · exact ih i l h
      · simp only [List.getElem?_append] at h
        split at h
        · exact ih i l h
        · rename_i hge
          have hi0 : i - (groupG has root k).2.length = 0 := by
            have := (List.getElem?_eq_some_iff.1 h).1
            simp at this
            omega
          rw [hi0] at h
          obtain rfl := Option.some.inj h
          simp
    · exact ih i l h
theorem ofI_dev {ms : List PM} {i j : Nat} (h : ofI ms j = some i) : 1 ≤ j ∧ j ≤ 16 := by
  obtain ⟨m, _, hk⟩ := ofI_get h
  unfold okAt at hk
  rw [Bool.and_eq_true, decide_eq_true_eq, decide_eq_true_eq] at hk
  have h2 := dev_iff.1 (chk_ok hk.1).2.1
  rw [hk.2] at h2
  omega
theorem hasI_dev {ms : List PM} {f : ByteArray} {a : Nat} (h : hasI ms f a = true) : 1 ≤ a ∧ a ≤ 16 := by
  unfold hasI at h
  split at h
  · rename_i i hi
    exact ofI_dev hi
  · cases h
theorem partsU_ok (ms : List PM) (f : ByteArray) : PartsOk (partsU ms f) := by
  have hg := groupG_is (hasI ms f) (rootU (outerU (bothI ms f) (usL (ofI ms)) 17)) 17
  refine ⟨fun i l hl d hd => ?_, fun i j l l' hl hl' d hd hd' => ?_, fun i l hl => groupG_nodup _ _ 17 i l hl⟩
  · obtain ⟨n, hn, _, hh, _⟩ := hg.mem i l hl d hd
    exact ⟨n, hn, hasI_dev hh⟩
  · obtain ⟨n, hn, _, _, h1⟩ := hg.mem i l hl d hd
    obtain ⟨m, hm, _, _, h2⟩ := hg.mem j l' hl' d hd'
    obtain rfl : n = m := by omega
    rw [h1] at h2
    exact Option.some.inj h2
/-- In which part a device is (the part's place and one), or 0, behind k of part i. -/
structure InOk (P : List (List Int)) (i k : Nat) (ins : List Nat) : Prop where
  len : ins.length = 17
  zero : ∀ (j : Nat), ins[j]? = some 0 → ∀ (i' : Nat) (l : List Int), P[i']? = some l → (j : Int) ∈ l → i < i' ∨ (i' = i ∧ ¬ (j : Int) ∈ l.take k)
  pos : ∀ (j x : Nat), ins[j]? = some (x + 1) → ∃ l, P[x]? = some l ∧ (j : Int) ∈ l ∧ (x < i ∨ (x = i ∧ (j : Int) ∈ l.take k))
theorem InOk.start (P : List (List Int)) : InOk P 0 0 (List.replicate 17 0) := by
  refine ⟨by simp, fun j _ i' l _ _ => ?_, fun j x h => ?_⟩
  · rcases Nat.eq_zero_or_pos i' with h | h
    · exact .inr ⟨h, by simp⟩
    · exact .inl h
  · rw [List.getElem?_replicate] at h
    split at h <;> cases h
theorem InOk.next {P : List (List Int)} {i : Nat} {l : List Int} {ins : List Nat} (h : InOk P i l.length ins) (hl : P[i]? = some l) : InOk P (i + 1) 0 ins := by
  refine ⟨h.len, fun j hj i' l' hl' hm => ?_, fun j x hx => ?_⟩
  · rcases h.zero j hj i' l' hl' hm with h1 | ⟨rfl, h2⟩
    · rcases Nat.lt_or_ge (i + 1) i' with h3 | h3
      · exact .inl h3
      · exact .inr ⟨by omega, by simp⟩
    · rw [hl] at hl'
      obtain rfl := Option.some.inj hl'
      rw [List.take_length] at h2
      exact absurd hm h2
  · obtain ⟨l', h1, h2, h3⟩ := h.pos j x hx
    exact ⟨l', h1, h2, .inl (by omega)⟩
theorem mem_take_succ {α : Type} {l : List α} {k : Nat} {d : α} (h : l[k]? = some d) (x : α) : x ∈ l.take (k + 1) ↔ x ∈ l.take k ∨ x = d := by
  rw [List.take_add_one, h]
  simp
theorem InOk.step {P : List (List Int)} (hp : PartsOk P) {i k : Nat} {l : List Int} {d : Int} {ins : List Nat} (h : InOk P i k ins) (hl : P[i]? = some l) (hd : l[k]? = some d) :
    ∃ n : Nat, d = (n : Int) ∧ 1 ≤ n ∧ n ≤ 16 ∧ ins[n]? = some 0 ∧ InOk P i (k + 1) (ins.set n (i + 1)) := by
  have hm := List.mem_of_getElem? hd
  obtain ⟨n, rfl, h1, h16⟩ := hp.dev i l hl d hm
  have hnt : ¬ (n : Int) ∈ l.take k := fun hh => by
    obtain ⟨q, hq, e⟩ := List.getElem_of_mem hh
    have hqk : q < k ∧ q < l.length := by
      rw [List.length_take] at hq
      omega
    rw [List.getElem_take] at e
    have hkl := (List.getElem?_eq_some_iff.1 hd).1
    have e2 := (List.getElem?_eq_some_iff.1 hd).2
    exact (List.pairwise_iff_getElem.1 (hp.nodup i l hl)) q k hqk.2 hkl hqk.1 (e.trans e2.symm)
  have hz : ins[n]? = some 0 := by
    obtain ⟨x, hx⟩ : ∃ x, ins[n]? = some x := ⟨_, List.getElem?_eq_getElem (by rw [h.len]; omega)⟩
    cases x with
    | zero => exact hx
    | succ x =>
      obtain ⟨l', h2, h3, h4⟩ := h.pos n x hx
      have e := hp.one i x l l' hl h2 _ hm h3
      subst e
      rw [hl] at h2
      obtain rfl := Option.some.inj h2
      rcases h4 with h4 | ⟨_, h4⟩
      · omega
      · exact absurd h4 hnt
  have hnl : n < ins.length := by rw [h.len]; omega
  refine ⟨n, rfl, h1, h16, hz, by rw [List.length_set]; exact h.len, fun j hj i' l' hl' hjl => ?_, fun j x hx => ?_⟩
  · rw [List.getElem?_set] at hj
    split at hj
    · cases hj
    · rename_i hne
      rcases h.zero j hj i' l' hl' hjl with h2 | ⟨rfl, h2⟩
      · exact .inl h2
      · rw [hl] at hl'
        obtain rfl := Option.some.inj hl'
        refine .inr ⟨rfl, fun hh => ?_⟩
        rcases (mem_take_succ hd _).1 hh with h3 | h3
        · exact h2 h3
        · omega
  · rw [List.getElem?_set] at hx
    split at hx
    · rename_i e
      subst e
      have : x = i := by simpa using (Option.some.inj hx).symm
      subst this
      exact ⟨l, hl, hm, .inr ⟨rfl, (mem_take_succ hd _).2 (.inr rfl)⟩⟩
    · obtain ⟨l', h2, h3, h4⟩ := h.pos j x hx
      refine ⟨l', h2, h3, ?_⟩
      rcases h4 with h4 | ⟨rfl, h4⟩
      · exact .inl h4
      · rw [hl] at h2
        obtain rfl := Option.some.inj h2
        exact .inr ⟨rfl, (mem_take_succ hd _).2 (.inl h4)⟩
/-- The first of its device is the one that stands for it. -/
theorem first_of {ms : List PM} {i : Nat} {m : PM} (hm : ms[i]? = some m) (h : firstP ms i = true) : ∃ n : Nat, m.1 = (n : Int) ∧ 1 ≤ n ∧ n ≤ 16 ∧ chkM m = 0 ∧ ofI ms n = some i := by
  have e : ms.getD i (0, []) = m := by rw [List.getD_eq_getElem?_getD, hm]; rfl
  unfold firstP at h
  rw [e, Bool.and_eq_true, decide_eq_true_eq] at h
  obtain ⟨hk, ha⟩ := h
  have hd := dev_iff.1 (chk_ok hk).2.1
  obtain ⟨n, hn⟩ : ∃ n : Nat, m.1 = (n : Int) := ⟨m.1.toNat, by omega⟩
  refine ⟨n, hn, by omega, by omega, hk, ?_⟩
  unfold ofI
  have hil := (List.getElem?_eq_some_iff.1 hm).1
  rw [List.findIdx?_eq_some_iff_getElem]
  refine ⟨hil, ?_, fun j hj => ?_⟩
  · rw [(List.getElem?_eq_some_iff.1 hm).2]
    unfold okAt
    rw [hk, hn]
    simp
  · have h2 := List.all_eq_true.1 ha ms[j] (List.mem_of_getElem? (i := j) (by rw [List.getElem?_take, if_pos hj, List.getElem?_eq_getElem]))
    simp only [Bool.not_eq_true', Bool.and_eq_false_iff, decide_eq_false_iff_not] at h2
    unfold okAt
    simp only [Bool.and_eq_true, decide_eq_true_eq, not_and]
    intro h3 h4
    rcases h2 with h2 | h2
    · exact h2 (h4.trans hn.symm)
    · exact h2 h3
theorem shares_has {m : PM} {f : ByteArray} {d : Int} (h : sharesP m f d = true) : hasP m f = true := by
  unfold sharesP at h
  unfold hasP
  split at h
  · rename_i r hr
    rw [hr]; rfl
  · cases h
theorem both_parts {a b : PM} {f : ByteArray} (h : bothP a b f = true) : a.1 ≠ b.1 ∧ sharesP a f b.1 = true ∧ sharesP b f a.1 = true := by
  unfold bothP at h
  simp only [Bool.and_eq_true, Bool.not_eq_true', decide_eq_false_iff_not] at h
  exact h
theorem getD_of {ms : List PM} {i : Nat} {m : PM} (h : ms[i]? = some m) : ms.getD i (0, []) = m := by rw [List.getD_eq_getElem?_getD, h]; rfl
theorem usL_ok (os : Nat → Option Nat) : UOk (usL os) := ⟨usL_len os, usL_le os⟩
/-- Two devices whose matrices share the folder are in one part. -/
theorem same_part {ms : List PM} {f : ByteArray} {i j x y : Nat} {a b : PM} (ha : ms[i]? = some a) (hb : ms[j]? = some b) (hx : ofI ms x = some i) (hy : ofI ms y = some j) (h : bothP a b f = true) :
    ∃ (q : Nat) (l : List Int), (partsU ms f)[q]? = some l ∧ (x : Int) ∈ l ∧ (y : Int) ∈ l := by
  have hx16 := ofI_dev hx
  have hy16 := ofI_dev hy
  obtain ⟨hne, hs, hs'⟩ := both_parts h
  have hbi : bothI ms f x y = true := by
    unfold bothI
    rw [hx, hy]
    simp only
    rw [getD_of ha, getD_of hb]
    exact h
  have hbj : bothI ms f y x = true := by
    unfold bothI
    rw [hx, hy]
    simp only
    rw [getD_of ha, getD_of hb, bothP_comm]
    exact h
  have hxh : hasI ms f x = true := by
    unfold hasI
    rw [hx]
    simp only
    rw [getD_of ha]
    exact shares_has hs
  have hyh : hasI ms f y = true := by
    unfold hasI
    rw [hy]
    simp only
    rw [getD_of hb]
    exact shares_has hs'
  have hr : rootU (outerU (bothI ms f) (usL (ofI ms)) 17) x = rootU (outerU (bothI ms f) (usL (ofI ms)) 17) y := by
    rcases Nat.lt_trichotomy x y with hlt | rfl | hlt
    · exact (outerU_both hlt hbj (usL_ok _) 17 (by omega) (by omega)).symm
    · rfl
    · exact outerU_both hlt hbi (usL_ok _) 17 (by omega) (by omega)
  have hg := groupG_is (hasI ms f) (rootU (outerU (bothI ms f) (usL (ofI ms)) 17)) 17
  obtain ⟨q, hq⟩ := hg.some_ x (by omega) hxh
  obtain ⟨l, hl, hm⟩ := hg.all x (by omega) hxh q hq
  obtain ⟨l', hl', hm'⟩ := hg.all y (by omega) hyh q (by rw [← hr]; exact hq)
  rw [hl] at hl'
  obtain rfl := Option.some.inj hl'
  exact ⟨q, l, hl, hm, hm'⟩
/-- What the array tells of a device that is in a part. -/
theorem InOk.at_ {P : List (List Int)} (hp : PartsOk P) {ins : List Nat} (h : InOk P P.length 0 ins) {q n : Nat} {l : List Int} (hq : P[q]? = some l) (hn : (n : Int) ∈ l) : ins[n]? = some (q + 1) := by
  obtain ⟨n', e, h1, h16⟩ := hp.dev q l hq _ hn
  obtain rfl : n = n' := by omega
  have hql := (List.getElem?_eq_some_iff.1 hq).1
  obtain ⟨x, hx⟩ : ∃ x, ins[n]? = some x := ⟨_, List.getElem?_eq_getElem (by rw [h.len]; omega)⟩
  cases x with
  | zero =>
    rcases h.zero n hx q l hq hn with h2 | ⟨h2, _⟩ <;> omega
  | succ x =>
    obtain ⟨l', h2, h3, _⟩ := h.pos n x hx
    have := hp.one q x l l' hq h2 _ hn h3
    subst this
    exact hx
end Go.Proofs.Ytikegnnlmfidfaa
