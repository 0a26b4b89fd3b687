/-
  Paths, in plain Lean: what was copied is recovered; temporary files; what is within a folder.
-/
import Derived.Test.YtndekohimfjdeaaDoorPathM
namespace Go.Proofs.YtndekohimfjdeaaDoor
theorem dig_range {c : UInt8} (h : dig c = true) : 48 ≤ c.toNat ∧ c.toNat ≤ 57 := by
  unfold dig at h
  simp only [Bool.and_eq_true, decide_eq_true_eq] at h
  exact h
theorem dec_no {c : UInt8} (hc : dig c = false) (n : Nat) : c ∉ dec n := fun h => by rw [dec_dig n c h] at hc; cases hc
theorem mark_no47 (d n : Nat) : (47 : UInt8) ∉ markL d n := by
  unfold markL
  simp only [List.mem_append, not_or]
  exact ⟨⟨⟨by decide, dec_no (by decide) d⟩, by decide⟩, dec_no (by decide) n⟩
theorem stem_no47 {b : Bl} (h : (47 : UInt8) ∉ b) : (47 : UInt8) ∉ stemB b ∧ (47 : UInt8) ∉ endB b := by
  have e := stem_end b
  rw [← e, List.mem_append, not_or] at h
  exact h
def cbase (l : Bl) (d n : Nat) : Bl := stemB (baseL l) ++ markL d n ++ endB (baseL l)
theorem cbase_no (l : Bl) (d n : Nat) : (47 : UInt8) ∉ cbase l d n := by
  have h := stem_no47 (base_no l)
  unfold cbase
  simp only [List.mem_append, not_or]
  exact ⟨⟨h.1, mark_no47 d n⟩, h.2⟩
theorem copy_parts (l : Bl) (d n : Nat) : folderL (copyOut l d n) = folderL l ∧ baseL (copyOut l d n) = cbase l d n := joinF_parts (cbase_no l d n)
theorem copyL_ok {l c : Bl} {d n : Int} (h : copyL l d n = (c, 0)) : checkL l = 0 ∧ c = copyOut l d.toNat n.toNat ∧ prightL c = true ∧ 1 ≤ d ∧ d ≤ 99 ∧ 0 ≤ n ∧ n ≤ 999 := by
  unfold copyL at h
  by_cases h1 : checkL l ≠ 0
  · rw [if_pos h1] at h
    injection h with _ h2
    exact absurd h2 h1
  · rw [if_neg h1] at h
    by_cases h2 : d < 1 ∨ 99 < d ∨ n < 0 ∨ 999 < n
    · rw [if_pos h2] at h
      injection h with _ h3
      cases h3
    · rw [if_neg h2] at h
      by_cases h3 : prightL (copyOut l d.toNat n.toNat) = true
      · rw [if_pos h3] at h
        injection h with h4 _
        exact ⟨Classical.not_not.1 h1, h4.symm, h4 ▸ h3, by omega, by omega, by omega, by omega⟩
      · rw [if_neg h3] at h
        injection h with _ h4
        cases h4
theorem copyL_mk {l : Bl} {d n : Nat} (h : checkL l = 0) (hd : 1 ≤ d) (hd2 : d ≤ 99) (hn : n ≤ 999) (hr : prightL (copyOut l d n) = true) : copyL l (d : Int) (n : Int) = (copyOut l d n, 0) := by
  unfold copyL
  rw [if_neg (by rw [h]; simp), if_neg (by omega), Int.toNat_natCast, Int.toNat_natCast, if_pos hr]
theorem copyL_err {l : Bl} {d n : Int} (h : (copyL l d n).2 ≠ 0) : (copyL l d n).1 = [] ∧ (copyL l d n).2 ≤ 3 := by
  unfold copyL at h ⊢
  split
  · refine ⟨rfl, ?_⟩
    show checkL l ≤ 3
    unfold checkL
    split
    · exact Nat.le_refl _
    · split <;> omega
  · rename_i h1
    rw [if_neg h1] at h
    split
    · exact ⟨rfl, by decide⟩
    · rename_i h2
      rw [if_neg h2] at h
      split
      · rename_i h3
        rw [if_pos h3] at h
        exact absurd rfl h
      · exact ⟨rfl, Nat.le_refl _⟩
theorem tryL_of {c l x y : Bl} {d n : Nat} (hm : markedL x = some (y, d, n)) {z : Bl} (hj : joinF (folderL c) (y ++ z) = l) (hc : copyL l d n = (c, 0)) : tryL c x z = some (l, d, n) := by
  unfold tryL
  rw [hm]
  simp only
  rw [hj, hc, if_pos ⟨rfl, rfl⟩]
/-- What was copied is recovered. -/
theorem copied_of {l : Bl} {d n : Nat} (h : checkL l = 0) (hd : 1 ≤ d) (hd2 : d ≤ 99) (hn : n ≤ 999) (hr : prightL (copyOut l d n) = true) : copiedL (copyOut l d n) = some (l, d, n) := by
  have hc := copyL_mk h hd hd2 hn hr
  obtain ⟨pf, pb⟩ := copy_parts l d n
  obtain ⟨_, hl, _⟩ := path_parts h
  unfold copiedL
  rw [if_neg (by rw [check_zero.2 hr]; simp), pb]
  unfold cbase
  cases hcut : cutL 46 (baseL l) with
  | some p =>
    obtain ⟨a, y⟩ := p
    obtain ⟨e1, e2⟩ := cutL_some.1 hcut
    have s1 : stemB (baseL l) = a := by unfold stemB; rw [hcut]
    have s2 : endB (baseL l) = 46 :: y := by unfold endB; rw [hcut]
    have k : cutL 46 (a ++ markL d n ++ 46 :: y) = some (a ++ markL d n, y) := cut_is e2
    have s3 : stemB (a ++ markL d n ++ 46 :: y) = a ++ markL d n := by unfold stemB; rw [k]
    have s4 : endB (a ++ markL d n ++ 46 :: y) = 46 :: y := by unfold endB; rw [k]
    rw [s1, s2, s3, s4, tryL_of (marked_of a hd2 hn) (by rw [pf, ← e1]; exact hl.symm) hc]
  | none =>
    have h46 := cutL_none.1 hcut
    have s1 : stemB (baseL l) = baseL l := by unfold stemB; rw [hcut]
    have s2 : endB (baseL l) = [] := by unfold endB; rw [hcut]
    have e3 : baseL l ++ markL d n ++ [] = baseL l ++ 46 :: ([99] ++ dec d ++ [45] ++ dec n) := by simp [markL]
    have k : cutL 46 (baseL l ++ markL d n ++ []) = some (baseL l, [99] ++ dec d ++ [45] ++ dec n) := by
      rw [e3]
      refine cut_is ?_
      simp only [List.mem_append, not_or]
      exact ⟨⟨⟨by decide, dec_no (by decide) d⟩, by decide⟩, dec_no (by decide) n⟩
    have s3 : stemB (baseL l ++ markL d n ++ []) = baseL l := by unfold stemB; rw [k]
    have t1 : tryL (copyOut l d n) (baseL l) (endB (baseL l ++ markL d n ++ [])) = none := by
      unfold tryL
      rw [marked_point h46]
    rw [s1, s2, s3, t1]
    simp only
    rw [List.append_nil]
    exact tryL_of (marked_of (baseL l) hd2 hn) (by rw [pf, List.append_nil]; exact hl.symm) hc
theorem copied_copy {l c : Bl} {d n : Int} (h : copyL l d n = (c, 0)) : copiedL c = some (l, d.toNat, n.toNat) ∧ checkL c = 0 := by
  obtain ⟨h1, h2, h3, h4, h5, h6, h7⟩ := copyL_ok h
  subst h2
  exact ⟨copied_of h1 (by omega) (by omega) (by omega) h3, check_zero.2 h3⟩
/-- A copy is the copy of one path, device and number. -/
theorem copy_inj {l l' c : Bl} {d n d' n' : Int} (h : copyL l d n = (c, 0)) (h' : copyL l' d' n' = (c, 0)) : l = l' ∧ d = d' ∧ n = n' := by
  have e := (copied_copy h).1.symm.trans (copied_copy h').1
  simp only [Option.some.injEq, Prod.mk.injEq] at e
  obtain ⟨_, _, _, h4, h5, h6, h7⟩ := copyL_ok h
  obtain ⟨_, _, _, k4, k5, k6, k7⟩ := copyL_ok h'
  exact ⟨e.1, by omega, by omega⟩
/-- What Copied finds is a copy. -/
theorem tryL_some {c x z l : Bl} {d n : Nat} (h : tryL c x z = some (l, d, n)) : copyL l d n = (c, 0) := by
  unfold tryL at h
  split at h
  · cases h
  · split at h
    · rename_i hh
      simp only [Option.some.injEq, Prod.mk.injEq] at h
      obtain ⟨rfl, rfl, rfl⟩ := h
      exact Prod.ext hh.2 hh.1
    · cases h
theorem copied_some {c l : Bl} {d n : Nat} (h : copiedL c = some (l, d, n)) : copyL l d n = (c, 0) := by
  unfold copiedL at h
  split at h
  · cases h
  · split at h
    · rename_i r hr
      rw [h] at hr
      exact tryL_some hr
    · exact tryL_some h
theorem copy_len {l c : Bl} {d n : Int} (h : copyL l d n = (c, 0)) : l.length < c.length := by
  obtain ⟨h1, rfl, _⟩ := copyL_ok h
  obtain ⟨_, hl, _⟩ := path_parts h1
  have e := congrArg List.length hl
  have s := congrArg List.length (stem_end (baseL l))
  unfold copyOut markL
  unfold joinF at e ⊢
  split
  · rename_i hf
    rw [if_pos hf] at e
    simp only [List.length_append, List.length_cons, List.length_nil] at e s ⊢
    omega
  · rename_i hf
    rw [if_neg hf] at e
    simp only [List.length_append, List.length_cons, List.length_nil] at e s ⊢
    omega
theorem copy_end {l c : Bl} {d n : Int} (h : copyL l d n = (c, 0)) : folderL c = folderL l ∧ (endB (baseL l) = [] ∨ endB (baseL c) = endB (baseL l)) := by
  obtain ⟨h1, rfl, _⟩ := copyL_ok h
  obtain ⟨pf, pb⟩ := copy_parts l d.toNat n.toNat
  refine ⟨pf, ?_⟩
  rw [pb]
  unfold cbase
  cases hcut : cutL 46 (baseL l) with
  | some p =>
    obtain ⟨a, y⟩ := p
    obtain ⟨e1, e2⟩ := cutL_some.1 hcut
    have s2 : endB (baseL l) = 46 :: y := by unfold endB; rw [hcut]
    right
    rw [s2]
    unfold endB
    rw [cut_is e2]
  | none =>
    left
    unfold endB
    rw [hcut]
/-! ### Temporary files, folders -/
theorem seg_tmp (l : Bl) : segs ([46, 116, 109, 112, 47] ++ l) = [46, 116, 109, 112] :: segs l := by
  simp only [List.cons_append, List.nil_append]
  simp [segs]
theorem temp_no (l : Bl) : checkL ([46, 116, 109, 112, 47] ++ l) ≠ 0 := fun h => by
  have h1 := (right_iff.1 (check_zero.1 h)).1
  rw [seg_tmp] at h1
  have := h1 [46, 116, 109, 112] (by simp)
  revert this
  decide
theorem temped_temp {l : Bl} (h : checkL l = 0) : tempedL ([46, 116, 109, 112, 47] ++ l) = some l := by
  unfold tempedL
  rw [if_pos ⟨List.prefix_append _ _, by simpa using h⟩]
  simp
theorem check_ne_nil {l : Bl} (h : checkL l = 0) : l ≠ [] := by
  rintro rfl
  revert h
  decide
theorem within_nil (s : Bl) : withinL [] s = decide (checkL s = 0) := by
  unfold withinL
  by_cases h : checkL s = 0
  · rw [if_neg (by rw [h]; simp), h]; simp
  · rw [if_pos h, decide_eq_false h]
theorem within_self {s : Bl} (h : checkL s = 0) : withinL s s = false := by
  unfold withinL
  rw [if_neg (by rw [h]; simp), decide_eq_false (check_ne_nil h)]
  have : ¬ (s ++ [47] <+: s) := fun hp => by
    have := hp.length_le
    simp at this
    omega
  rw [decide_eq_false this]
  simp
theorem within_iff {f s : Bl} : withinL f s = true ↔ checkL s = 0 ∧ (f = [] ∨ (checkL f = 0 ∧ f ++ [47] <+: s)) := by
  unfold withinL
  by_cases h : checkL s = 0
  · rw [if_neg (by rw [h]; simp)]
    simp [h]
  · rw [if_pos h]
    simp [h]
theorem within_trans {s t u : Bl} (h1 : withinL s t = true) (h2 : withinL t u = true) : withinL s u = true := by
  obtain ⟨a1, a2⟩ := within_iff.1 h1
  obtain ⟨b1, b2⟩ := within_iff.1 h2
  refine within_iff.2 ⟨b1, ?_⟩
  rcases a2 with a2 | ⟨a2, a3⟩
  · exact .inl a2
  · rcases b2 with b2 | ⟨_, b3⟩
    · exact absurd b2 (check_ne_nil a1)
    · exact .inr ⟨a2, a3.trans ((List.prefix_append t [47]).trans b3)⟩
theorem within_folder {l : Bl} (h : checkL l = 0) (hf : folderL l ≠ []) : checkL (folderL l) = 0 ∧ withinL (folderL l) l = true := by
  obtain ⟨_, hl, hp⟩ := path_parts h
  rcases hp with hp | ⟨_, hp, _⟩
  · exact absurd hp hf
  · refine ⟨hp, within_iff.2 ⟨h, .inr ⟨hp, ?_⟩⟩⟩
    unfold joinF at hl
    rw [if_neg hf] at hl
    exact ⟨baseL l, hl.symm⟩
end Go.Proofs.YtndekohimfjdeaaDoor
