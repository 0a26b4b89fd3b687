/-
  Matrices, in plain Lean: changes of two folders, in either order; With.
-/
import Derived.Test.YtikegnnlmfidfaaMatLa
namespace Go.Proofs.Ytikegnnlmfidfaa
abbrev fnd (f : ByteArray) (l : List PRow) : Option PRow := l.find? (fun r => decide (r.1 = f))
/-- What a change makes of its folder's row. -/
def effF (c : PC) : Option PRow → Option PRow
  | none => some (c.2.1, [])
  | some r => if c.1 = 2 then none else if c.1 = 3 then some (r.1, r.2.take (lbI c.2.2 r.2) ++ c.2.2 :: r.2.drop (lbI c.2.2 r.2)) else some (r.1, r.2.filter fun y => !decide (y = c.2.2))
theorem fnd_name {f : ByteArray} {l : List PRow} {r : PRow} (h : fnd f l = some r) : r.1 = f := by simpa using List.find?_some h
theorem apply_not {m x : PM} {c : PC} (h : applyP m c = (x, 0)) : ¬ badC m c := fun hb => by
  rw [apply_bad (apply_own h).1 hb] at h
  injection h with _ h2
  cases h2
theorem apply_at {m x : PM} {c : PC} (h : applyP m c = (x, 0)) : fnd c.2.1 x.2 = effF c (fnd c.2.1 m.2) := by
  have hk := (apply_own h).1
  have hb := apply_not h
  cases hf : fnd c.2.1 m.2 with
  | none =>
    have hno : ∀ r ∈ m.2, r.1 ≠ c.2.1 := fun r hr => by
      have := List.find?_eq_none.1 hf r hr
      simpa using this
    rw [apply_none hk hb hf] at h
    split at h
    · split at h
      · injection h with _ h2; cases h2
      · injection h with h1 _
        rw [← h1]
        simp only
        unfold fnd
        rw [List.find?_append, List.find?_eq_none.2 (fun r hr => by have := hno r (List.mem_of_mem_take hr); simpa using this), List.find?_cons_of_pos (by simp)]
        rfl
    · injection h with _ h2; cases h2
  | some r =>
    rw [apply_some hk hb hf] at h
    have hn := fnd_name hf
    unfold effF
    simp only
    split at h
    · injection h with _ h2; cases h2
    · split at h
      · rename_i h2
        rw [if_pos h2]
        injection h with h1 _
        rw [← h1]
        refine List.find?_eq_none.2 fun z hz => ?_
        have := (List.mem_filter.1 hz).2
        simpa using this
      · rename_i h2
        rw [if_neg h2]
        split at h
        · rename_i h3
          rw [if_pos h3]
          split at h
          · injection h with _ h2; cases h2
          · injection h with h1 _
            rw [← h1]
            refine (find_map_same (fun r => by split <;> rfl)).trans ?_
            rw [show m.2.find? (fun r => decide (r.1 = c.2.1)) = some r from hf, Option.map_some, if_pos hn]
        · rename_i h3
          rw [if_neg h3]
          split at h
          · injection h with h1 _
            rw [← h1]
            refine (find_map_same (fun r => by split <;> rfl)).trans ?_
            rw [show m.2.find? (fun r => decide (r.1 = c.2.1)) = some r from hf, Option.map_some, if_pos hn]
          · injection h with _ h2; cases h2
/-- Whether a change fits its folder's row. -/
def okF (c : PC) : Option PRow → Prop
  | none => c.1 = 1
  | some r => c.1 ≠ 1 ∧ (c.1 = 3 → ¬ c.2.2 ∈ r.2) ∧ (c.1 ≠ 2 → c.1 ≠ 3 → c.2.2 ∈ r.2)
theorem apply_zero {m : PM} {c : PC} (hk : chkM m = 0) (hb : ¬ badC m c) : (applyP m c).2 = 0 ↔ okF c (fnd c.2.1 m.2) ∧ (c.1 = 1 → m.2.length ≠ 8) := by
  cases hf : fnd c.2.1 m.2 with
  | none =>
    rw [apply_none hk hb hf]
    unfold okF
    simp only
    by_cases h1 : c.1 = 1
    · rw [if_pos h1]
      by_cases h8 : m.2.length = 8
      · rw [if_pos h8]; simp [h1, h8]
      · rw [if_neg h8]; simp [h1, h8]
    · rw [if_neg h1]; simp [h1]
  | some r =>
    rw [apply_some hk hb hf]
    unfold okF
    simp only
    by_cases h1 : c.1 = 1
    · rw [if_pos h1]; simp [h1]
    · rw [if_neg h1]
      by_cases h2 : c.1 = 2
      · rw [if_pos h2]; simp [h2]
      · rw [if_neg h2]
        by_cases h3 : c.1 = 3
        · rw [if_pos h3]
          by_cases hm : c.2.2 ∈ r.2
          · rw [if_pos hm]; simp [h3, hm]
          · rw [if_neg hm]; simp [h3, hm]
        · rw [if_neg h3]
          by_cases hm : c.2.2 ∈ r.2
          · rw [if_pos hm]; simp [h1, h3, hm]
          · rw [if_neg hm]; simp [h1, h2, h3, hm]
theorem apply_len {m x : PM} {c : PC} (h : applyP m c = (x, 0)) : (c.1 = 1 → x.2.length = m.2.length + 1 ∧ m.2.length ≠ 8) ∧ (c.1 ≠ 1 → x.2.length ≤ m.2.length) := by
  have hk := (apply_own h).1
  have hb := apply_not h
  cases hf : fnd c.2.1 m.2 with
  | none =>
    rw [apply_none hk hb hf] at h
    split at h
    · rename_i h1
      split at h
      · injection h with _ h2; cases h2
      · rename_i h8
        injection h with h3 _
        rw [← h3]
        refine ⟨fun _ => ⟨?_, h8⟩, fun h4 => absurd h1 h4⟩
        simp only [List.length_append, List.length_cons, List.length_take, List.length_drop]
        omega
    · injection h with _ h2; cases h2
  | some r =>
    rw [apply_some hk hb hf] at h
    split at h
    · injection h with _ h2; cases h2
    · rename_i h1
      refine ⟨fun h2 => absurd h2 h1, fun _ => ?_⟩
      split at h
      · injection h with h3 _
        rw [← h3]
        exact List.length_filter_le _ _
      · split at h
        · split at h
          · injection h with _ h2; cases h2
          · injection h with h3 _
            rw [← h3]
            simp
        · split at h
          · injection h with h3 _
            rw [← h3]
            simp
          · injection h with _ h2; cases h2
/-- Rows in their order are told by what is found in them. -/
theorem sorted_ext : ∀ {l l' : List PRow}, l.Pairwise (fun x y => klt x.1 y.1 = true) → l'.Pairwise (fun x y => klt x.1 y.1 = true) → (∀ f, fnd f l = fnd f l') → l = l'
  | [], [], _, _, _ => rfl
  | [], r :: l', _, _, h => by
    have := h r.1
    unfold fnd at this
    rw [List.find?_cons_of_pos (by simp)] at this
    cases this
  | r :: l, [], _, _, h => by
    have := h r.1
    unfold fnd at this
    rw [List.find?_cons_of_pos (by simp)] at this
    cases this
  | r :: l, r' :: l', hl, hl', h => by
    rw [List.pairwise_cons] at hl hl'
    have h1 := h r.1
    have h2 := h r'.1
    unfold fnd at h1 h2
    rw [List.find?_cons_of_pos (by simp)] at h1
    rw [List.find?_cons_of_pos (l := l') (by simp)] at h2
    have m1 := List.mem_of_find?_eq_some h1.symm
    have m2 := List.mem_of_find?_eq_some h2
    have e : r = r' := by
      rcases List.mem_cons.1 m1 with e | m1
      · exact e
      · rcases List.mem_cons.1 m2 with e | m2
        · exact e.symm
        · have a := hl'.1 r m1
          have b := hl.1 r' m2
          rw [klt_asymm a] at b
          cases b
    subst e
    congr 1
    refine sorted_ext hl.2 hl'.2 fun f => ?_
    by_cases hf : r.1 = f
    · have n1 : fnd f l = none := List.find?_eq_none.2 fun z hz => by
        have := klt_ne (hl.1 z hz)
        simp [← hf]
        exact fun e => this e.symm
      have n2 : fnd f l' = none := List.find?_eq_none.2 fun z hz => by
        have := klt_ne (hl'.1 z hz)
        simp [← hf]
        exact fun e => this e.symm
      rw [n1, n2]
    · have := h f
      unfold fnd at this ⊢
      rwa [List.find?_cons_of_neg (by simpa using hf), List.find?_cons_of_neg (by simpa using hf)] at this
theorem bad_own {m x : PM} {c : PC} (h : x.1 = m.1) : badC x c ↔ badC m c := by unfold badC; rw [h]
theorem sorted_of {m : PM} (h : chkM m = 0) : m.2.Pairwise (fun x y => klt x.1 y.1 = true) := ((rowsOk_iff m.1).1 (chk_ok h).2.2).2
/-- Two changes of different folders: both orders can be done, or neither; and they make the same. -/
theorem apart_ok {m x y : PM} {a b : PC} (ha : applyP m a = (x, 0)) (hb : applyP m b = (y, 0)) (hf : a.2.1 ≠ b.2.1) : (applyP x b).2 = 0 ↔ (applyP y a).2 = 0 := by
  have hm := (apply_own ha).1
  have hx := apply_valid ha
  have hy := apply_valid hb
  have h8 := (chk_ok hm).1
  rw [apply_zero hx (fun h => apply_not hb ((bad_own (apply_own ha).2).1 h)), apply_zero hy (fun h => apply_not ha ((bad_own (apply_own hb).2).1 h))]
  have oa := (apply_zero hm (apply_not ha)).1 (by rw [ha])
  have ob := (apply_zero hm (apply_not hb)).1 (by rw [hb])
  have la := apply_len ha
  have lb := apply_len hb
  have e1 : fnd b.2.1 x.2 = fnd b.2.1 m.2 := apply_other ha (fun e => hf e.symm)
  have e2 : fnd a.2.1 y.2 = fnd a.2.1 m.2 := apply_other hb hf
  rw [e1, e2]
  constructor
  · rintro ⟨_, h2⟩
    refine ⟨oa.1, fun h1 h3 => ?_⟩
    have := la.1 h1
    by_cases h4 : b.1 = 1
    · have := lb.1 h4
      have := h2 h4
      omega
    · have := lb.2 h4
      omega
  · rintro ⟨_, h2⟩
    refine ⟨ob.1, fun h1 h3 => ?_⟩
    have := lb.1 h1
    by_cases h4 : a.1 = 1
    · have := la.1 h4
      have := h2 h4
      omega
    · have := la.2 h4
      omega
theorem apart_same {m x y p q : PM} {a b : PC} (ha : applyP m a = (x, 0)) (hb : applyP m b = (y, 0)) (hf : a.2.1 ≠ b.2.1) (hp : applyP x b = (p, 0)) (hq : applyP y a = (q, 0)) : p = q := by
  have e1 : p.1 = q.1 := by rw [(apply_own hp).2, (apply_own ha).2, (apply_own hq).2, (apply_own hb).2]
  have e2 : p.2 = q.2 := by
    refine sorted_ext (sorted_of (apply_valid hp)) (sorted_of (apply_valid hq)) fun f => ?_
    by_cases h1 : f = a.2.1
    · subst h1
      rw [show fnd a.2.1 p.2 = fnd a.2.1 x.2 from apply_other hp hf, apply_at ha, apply_at hq, show fnd a.2.1 y.2 = fnd a.2.1 m.2 from apply_other hb hf]
    · by_cases h2 : f = b.2.1
      · subst h2
        rw [show fnd b.2.1 q.2 = fnd b.2.1 y.2 from apply_other hq h1, apply_at hb, apply_at hp, show fnd b.2.1 x.2 = fnd b.2.1 m.2 from apply_other ha h1]
      · rw [show fnd f p.2 = fnd f x.2 from apply_other hp h2, show fnd f x.2 = fnd f m.2 from apply_other ha h1, show fnd f q.2 = fnd f y.2 from apply_other hq h1, show fnd f y.2 = fnd f m.2 from apply_other hb h2]
  exact Prod.ext e1 e2
theorem same_self {m : PM} (hm : chkM m = 0) : sameM m m = true := by
  unfold sameM
  rw [hm]
  simp
/-- A row of a matrix that may be is found by its name. -/
theorem fnd_row {x : PM} (hx : chkM x = 0) {i : Nat} {r : PRow} (h : x.2[i]? = some r) : rowP x r.1 = some r := by
  unfold rowP
  rw [if_pos hx]
  exact find_at (rows_all (chk_ok hx).2.2).2 h rfl
theorem shares_row {x : PM} (hx : chkM x = 0) {i : Nat} {r : PRow} (h : x.2[i]? = some r) (d : Int) : sharesP x r.1 d = decide (d ∈ r.2) := by
  unfold sharesP
  rw [fnd_row hx h]
theorem with_at {x : PM} (hx : chkM x = 0) {d : Int} {i : Nat} {f : ByteArray} (h : (withP x d)[i]? = some f) : sharesP x f d = true ∧ hasP x f = true := by
  unfold withP at h
  rw [if_pos hx] at h
  obtain ⟨r, hr, rfl⟩ := List.mem_map.1 (List.mem_of_getElem? h)
  obtain ⟨hr, hd⟩ := List.mem_filter.1 hr
  obtain ⟨j, hj, e⟩ := List.getElem_of_mem hr
  have hj2 : x.2[j]? = some r := by rw [List.getElem?_eq_getElem hj, e]
  refine ⟨by rw [shares_row hx hj2]; exact hd, ?_⟩
  unfold hasP
  rw [fnd_row hx hj2]
  rfl
theorem withP_asc {x : PM} (hx : chkM x = 0) (d : Int) : (withP x d).Pairwise (fun f g => klt f g = true) := by
  unfold withP
  rw [if_pos hx, List.pairwise_map]
  exact (sorted_of hx).filter _
theorem with_lt {x : PM} (hx : chkM x = 0) {d : Int} {i j : Nat} {f g : ByteArray} (hij : i < j) (hf : (withP x d)[i]? = some f) (hg : (withP x d)[j]? = some g) : klt f g = true := by
  obtain ⟨hi, e1⟩ := List.getElem?_eq_some_iff.1 hf
  obtain ⟨hj, e2⟩ := List.getElem?_eq_some_iff.1 hg
  have := List.pairwise_iff_getElem.1 (withP_asc hx d) i j hi hj hij
  rwa [e1, e2] at this
theorem withP_len {x : PM} (hx : chkM x = 0) (d : Int) : (withP x d).length = (x.2.filter fun r => decide (d ∈ r.2)).length := by
  unfold withP
  rw [if_pos hx, List.length_map]
end Go.Proofs.Ytikegnnlmfidfaa
