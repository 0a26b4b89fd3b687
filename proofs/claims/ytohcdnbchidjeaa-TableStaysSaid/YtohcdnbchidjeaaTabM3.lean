/-
  Tables, plainly: what changes are.
-/
import Derived.Test.YtohcdnbchidjeaaTabM2
namespace Go.Proofs.Ytohcdnbchidjeaa
/-- Rising keys. -/
def asc3 : List P3 → Prop
  | [] => True
  | x :: l => (∀ y ∈ l, klt x.1 y.1 = true) ∧ asc3 l
theorem asc3_at : ∀ {l : List P3} {i j : Nat} {x y : P3}, asc3 l → i < j → l[i]? = some x → l[j]? = some y → klt x.1 y.1 = true
  | [], _, _, _, _, _, _, h, _ => by simp at h
  | z :: l, 0, j + 1, x, y, h, _, hx, hy => by
    simp at hx
    subst hx
    exact h.1 y (List.mem_of_getElem? (by simpa using hy))
  | z :: l, i + 1, j + 1, x, y, h, hij, hx, hy => asc3_at (i := i) (j := j) h.2 (by omega) (by simpa using hx) (by simpa using hy)
theorem chg_nil_cons (y : KV) (m : List KV) : chg [] (y :: m) = pv y :: chg [] m := by rw [chg]
theorem chg_cons_nil (x : KV) (l : List KV) : chg (x :: l) [] = gonep x :: chg l [] := by rw [chg]
theorem chg_lt {x y : KV} {l m : List KV} (h : klt x.1 y.1 = true) : chg (x :: l) (y :: m) = gonep x :: chg l (y :: m) := by rw [chg, if_pos h]
theorem chg_same {x y : KV} {l m : List KV} (h : x.1 = y.1) (h' : x.2 = y.2) : chg (x :: l) (y :: m) = chg l m := by
  rw [chg, if_neg (by rw [h, klt_irrefl]; simp), if_pos ((kbeq_iff _ _).2 h), if_pos ((kbeq_iff _ _).2 h')]
theorem chg_new {x y : KV} {l m : List KV} (h : x.1 = y.1) (h' : x.2 ≠ y.2) : chg (x :: l) (y :: m) = pv y :: chg l m := by
  rw [chg, if_neg (by rw [h, klt_irrefl]; simp), if_pos ((kbeq_iff _ _).2 h), if_neg (by rw [kbeq_iff]; exact h')]
theorem chg_gt {x y : KV} {l m : List KV} (h : klt y.1 x.1 = true) : chg (x :: l) (y :: m) = pv y :: chg (x :: l) m := by
  rw [chg, if_neg (by rw [klt_asymm h]; simp), if_neg (by rw [kbeq_iff]; exact (klt_ne h).symm)]
theorem mem_chg : ∀ (n : Nat) (l m : List KV), l.length + m.length ≤ n → ∀ z ∈ chg l m, (∃ x ∈ l, z.1 = x.1) ∨ ∃ y ∈ m, z.1 = y.1
  | _, [], [], _, z, hz => by rw [chg] at hz; simp at hz
  | 0, x :: l, m, h, _, _ => by simp at h
  | 0, [], y :: m, h, _, _ => by simp at h
  | n + 1, [], y :: m, h, z, hz => by
    rw [chg_nil_cons] at hz
    rcases List.mem_cons.1 hz with rfl | hz
    · exact .inr ⟨y, List.mem_cons_self, rfl⟩
    · rcases mem_chg n [] m (by simp at h ⊢; omega) z hz with ⟨x, hx, e⟩ | ⟨x, hx, e⟩
      · simp at hx
      · exact .inr ⟨x, List.mem_cons_of_mem _ hx, e⟩
  | n + 1, x :: l, [], h, z, hz => by
    rw [chg_cons_nil] at hz
    rcases List.mem_cons.1 hz with rfl | hz
    · exact .inl ⟨x, List.mem_cons_self, rfl⟩
    · rcases mem_chg n l [] (by simp at h ⊢; omega) z hz with ⟨x, hx, e⟩ | ⟨x, hx, e⟩
      · exact .inl ⟨x, List.mem_cons_of_mem _ hx, e⟩
      · simp at hx
  | n + 1, x :: l, y :: m, h, z, hz => by
    have i1 := mem_chg n l (y :: m) (by simp at h ⊢; omega) z
    have i2 := mem_chg n l m (by simp at h ⊢; omega) z
    have i3 := mem_chg n (x :: l) m (by simp at h ⊢; omega) z
    have up : ((∃ x ∈ l, z.1 = x.1) ∨ ∃ y ∈ m, z.1 = y.1) → (∃ a ∈ x :: l, z.1 = a.1) ∨ ∃ b ∈ y :: m, z.1 = b.1 := by
      rintro (⟨a, ha, e⟩ | ⟨a, ha, e⟩)
      · exact .inl ⟨a, List.mem_cons_of_mem _ ha, e⟩
      · exact .inr ⟨a, List.mem_cons_of_mem _ ha, e⟩
    by_cases h1 : klt x.1 y.1 = true
    · rw [chg_lt h1] at hz
      rcases List.mem_cons.1 hz with rfl | hz
      · exact .inl ⟨x, List.mem_cons_self, rfl⟩
      · rcases i1 hz with ⟨a, ha, e⟩ | ⟨a, ha, e⟩
        · exact .inl ⟨a, List.mem_cons_of_mem _ ha, e⟩
        · exact .inr ⟨a, ha, e⟩
    · by_cases h2 : x.1 = y.1
      · by_cases h3 : x.2 = y.2
        · rw [chg_same h2 h3] at hz
          exact up (i2 hz)
        · rw [chg_new h2 h3] at hz
          rcases List.mem_cons.1 hz with rfl | hz
          · exact .inr ⟨y, List.mem_cons_self, rfl⟩
          · exact up (i2 hz)
      · rw [chg_gt (klt_total h2 (by simpa using h1))] at hz
        rcases List.mem_cons.1 hz with rfl | hz
        · exact .inr ⟨y, List.mem_cons_self, rfl⟩
        · rcases i3 hz with ⟨a, ha, e⟩ | ⟨a, ha, e⟩
          · exact .inl ⟨a, ha, e⟩
          · exact .inr ⟨a, List.mem_cons_of_mem _ ha, e⟩
theorem chg_above {l m : List KV} {k : ByteArray} (hl : ∀ x ∈ l, klt k x.1 = true) (hm : ∀ y ∈ m, klt k y.1 = true) : ∀ z ∈ chg l m, klt k z.1 = true := fun z hz => by
  rcases mem_chg _ l m (Nat.le_refl _) z hz with ⟨a, ha, e⟩ | ⟨a, ha, e⟩
  · rw [e]; exact hl a ha
  · rw [e]; exact hm a ha
theorem asc_chg : ∀ (n : Nat) (l m : List KV), l.length + m.length ≤ n → asc l → asc m → asc3 (chg l m)
  | _, [], [], _, _, _ => by rw [chg]; trivial
  | 0, x :: l, m, h, _, _ => by simp at h
  | 0, [], y :: m, h, _, _ => by simp at h
  | n + 1, [], y :: m, h, hl, hm => by
    rw [chg_nil_cons]
    exact ⟨chg_above (fun x hx => by simp at hx) hm.1, asc_chg n [] m (by simp at h ⊢; omega) hl hm.2⟩
  | n + 1, x :: l, [], h, hl, hm => by
    rw [chg_cons_nil]
    exact ⟨chg_above hl.1 (fun x hx => by simp at hx), asc_chg n l [] (by simp at h ⊢; omega) hl.2 hm⟩
  | n + 1, x :: l, y :: m, h, hl, hm => by
    by_cases h1 : klt x.1 y.1 = true
    · rw [chg_lt h1]
      exact ⟨chg_above hl.1 (fun z hz => by
        rcases List.mem_cons.1 hz with rfl | hz
        · exact h1
        · exact klt_trans h1 (hm.1 z hz)), asc_chg n l (y :: m) (by simp at h ⊢; omega) hl.2 hm⟩
    · by_cases h2 : x.1 = y.1
      · by_cases h3 : x.2 = y.2
        · rw [chg_same h2 h3]
          exact asc_chg n l m (by simp at h ⊢; omega) hl.2 hm.2
        · rw [chg_new h2 h3]
          exact ⟨chg_above (fun z hz => by show klt y.1 z.1 = true; rw [← h2]; exact hl.1 z hz) hm.1, asc_chg n l m (by simp at h ⊢; omega) hl.2 hm.2⟩
      · have h3 := klt_total h2 (by simpa using h1)
        rw [chg_gt h3]
        exact ⟨chg_above (fun z hz => by
          rcases List.mem_cons.1 hz with rfl | hz
          · exact h3
          · exact klt_trans h3 (hl.1 z hz)) hm.1, asc_chg n (x :: l) m (by simp at h ⊢; omega) hl hm.2⟩
theorem gt_all {q : ByteArray} {l : List KV} (h : ∀ x ∈ l, klt q x.1 = true) : gt q l = l := List.filter_eq_self.2 h
theorem gt_none {q : ByteArray} {l : List KV} (h : ∀ x ∈ l, klt q x.1 = false) : gt q l = [] := List.filter_eq_nil_iff.2 fun x hx => by simp [h x hx]
theorem gt_app (q : ByteArray) (l m : List KV) : gt q (l ++ m) = gt q l ++ gt q m := List.filter_append ..
theorem put_mid {D r : List KV} {k v : ByteArray} (hD : ∀ x ∈ D, klt x.1 k = true) (hr : ∀ x ∈ r, klt k x.1 = true) : putL k v (D ++ r) = D ++ (k, v) :: r := by
  rw [putL, lo_app, gt_app, lo_all hD, lo_none fun x hx => klt_asymm (hr x hx), gt_none fun x hx => klt_asymm (hD x hx), gt_all hr]
  simp
theorem put_over {D r : List KV} {k v v0 : ByteArray} (hD : ∀ x ∈ D, klt x.1 k = true) (hr : ∀ x ∈ r, klt k x.1 = true) : putL k v (D ++ (k, v0) :: r) = D ++ (k, v) :: r := by
  have h1 : lo k ((k, v0) :: r) = [] := lo_none fun x hx => by
    rcases List.mem_cons.1 hx with rfl | hx
    · exact klt_irrefl _
    · exact klt_asymm (hr x hx)
  have h2 : gt k ((k, v0) :: r) = r := by
    unfold gt
    rw [List.filter_cons_of_neg (by simp [klt_irrefl])]
    exact gt_all hr
  rw [putL, lo_app, gt_app, lo_all hD, h1, gt_none fun x hx => klt_asymm (hD x hx), h2]
  simp
theorem drop_mid {D r : List KV} {k v0 : ByteArray} (hD : ∀ x ∈ D, klt x.1 k = true) (hr : ∀ x ∈ r, klt k x.1 = true) : dropL k (D ++ (k, v0) :: r) = D ++ r := by
  have hg : getL k (D ++ (k, v0) :: r) = some v0 := by rw [getL_app, getL_none fun x hx => klt_ne (hD x hx), getL, if_pos (kbeq_self _)]; rfl
  have h1 : lo k ((k, v0) :: r) = [] := lo_none fun x hx => by
    rcases List.mem_cons.1 hx with rfl | hx
    · exact klt_irrefl _
    · exact klt_asymm (hr x hx)
  have h2 : gt k ((k, v0) :: r) = r := by
    unfold gt
    rw [List.filter_cons_of_neg (by simp [klt_irrefl])]
    exact gt_all hr
  rw [dropL, hg]
  simp only [Option.isSome_some, if_true]
  rw [restL, lo_app, gt_app, lo_all hD, h1, gt_none fun x hx => klt_asymm (hD x hx), h2]
  simp
theorem doneL_cons (t : List KV) (x : P3) (l : List P3) : doneL t (x :: l) = doneL (doneStepL t x) l := rfl
theorem step_pv (t : List KV) (y : KV) : doneStepL t (pv y) = putL y.1 y.2 t := by rw [doneStepL, if_neg (by simp [pv])]; rfl
theorem step_gone (t : List KV) (x : KV) : doneStepL t (gonep x) = dropL x.1 t := by rw [doneStepL, if_pos (show (gonep x).2.2 = true from rfl)]; rfl
theorem asc_mid {D : List KV} {x : KV} {l : List KV} (h : asc (D ++ x :: l)) : (∀ z ∈ D, klt z.1 x.1 = true) ∧ (∀ z ∈ l, klt x.1 z.1 = true) ∧ asc (D ++ l) ∧ asc l := by
  obtain ⟨h1, h2, h3⟩ := asc_app.1 h
  exact ⟨fun z hz => h3 z hz x List.mem_cons_self, h2.1, asc_app.2 ⟨h1, h2.2, fun z hz y hy => h3 z hz y (List.mem_cons_of_mem _ hy)⟩, h2.2⟩
/-- The changes, applied to the first, make the second. -/
theorem done_chg : ∀ (n : Nat) (D l m : List KV), l.length + m.length ≤ n → asc (D ++ l) → asc (D ++ m) → doneL (D ++ l) (chg l m) = D ++ m
  | _, D, [], [], _, _, _ => by rw [chg]; rfl
  | 0, D, x :: l, m, h, _, _ => by simp at h
  | 0, D, [], y :: m, h, _, _ => by simp at h
  | n + 1, D, [], y :: m, h, hl, hm => by
    obtain ⟨m1, m2, m3, m4⟩ := asc_mid hm
    rw [chg_nil_cons, doneL_cons, step_pv, put_mid m1 (fun z hz => by simp at hz)]
    have := done_chg n (D ++ [y]) [] m (by simp at h ⊢; omega) (by simp; exact asc_app.2 ⟨(asc_app.1 hm).1, ⟨fun z hz => by simp at hz, trivial⟩, fun z hz u hu => by rw [List.mem_singleton.1 hu]; exact m1 z hz⟩) (by simpa using hm)
    simpa using this
  | n + 1, D, x :: l, [], h, hl, hm => by
    obtain ⟨l1, l2, l3, l4⟩ := asc_mid hl
    rw [chg_cons_nil, doneL_cons, step_gone, show (x :: l : List KV) = (x.1, x.2) :: l from rfl, drop_mid l1 l2]
    exact done_chg n D l [] (by simp at h ⊢; omega) l3 hm
  | n + 1, D, x :: l, y :: m, h, hl, hm => by
    obtain ⟨l1, l2, l3, l4⟩ := asc_mid hl
    obtain ⟨m1, m2, m3, m4⟩ := asc_mid hm
    have hDy : D ++ y :: m = (D ++ [y]) ++ m := by simp
    by_cases h1 : klt x.1 y.1 = true
    · rw [chg_lt h1, doneL_cons, step_gone, show (x :: l : List KV) = (x.1, x.2) :: l from rfl, drop_mid l1 l2]
      exact done_chg n D l (y :: m) (by simp at h ⊢; omega) l3 hm
    · by_cases h2 : x.1 = y.1
      · have hyl : ∀ z ∈ l, klt y.1 z.1 = true := fun z hz => by rw [← h2]; exact l2 z hz
        have hal : asc ((D ++ [y]) ++ l) := by
          rw [List.append_assoc]
          exact asc_app.2 ⟨(asc_app.1 hm).1, ⟨hyl, l4⟩, fun z hz u hu => by
            rcases List.mem_cons.1 hu with rfl | hu
            · exact m1 z hz
            · exact klt_trans (m1 z hz) (hyl u hu)⟩
        have ih := done_chg n (D ++ [y]) l m (by simp at h ⊢; omega) hal (by rw [← hDy]; exact hm)
        by_cases h3 : x.2 = y.2
        · have hxy : x = y := Prod.ext h2 h3
          subst hxy
          rw [chg_same h2 h3, hDy, ← ih]
          simp
        · rw [chg_new h2 h3, doneL_cons, step_pv, show (x :: l : List KV) = (y.1, x.2) :: l by rw [← h2], put_over m1 hyl, hDy, ← ih]
          simp
      · have h3 := klt_total h2 (by simpa using h1)
        have hyx : ∀ z ∈ x :: l, klt y.1 z.1 = true := fun z hz => by
          rcases List.mem_cons.1 hz with rfl | hz
          · exact h3
          · exact klt_trans h3 (l2 z hz)
        rw [chg_gt h3, doneL_cons, step_pv, put_mid m1 hyx, hDy]
        have ih := done_chg n (D ++ [y]) (x :: l) m (by simp at h ⊢; omega) (by
          rw [List.append_assoc]
          exact asc_app.2 ⟨(asc_app.1 hm).1, ⟨hyx, (asc_app.1 hl).2.1⟩, fun z hz u hu => by
            rcases List.mem_cons.1 hu with rfl | hu
            · exact m1 z hz
            · exact klt_trans (m1 z hz) (hyx u hu)⟩) (by rw [← hDy]; exact hm)
        rw [← ih]
        simp
theorem chg_self : ∀ l : List KV, chg l l = []
  | [] => by rw [chg]
  | x :: l => by rw [chg_same rfl rfl, chg_self l]
theorem doneL_chg {l m : List KV} (hl : asc l) (hm : asc m) : doneL l (chg l m) = m := by simpa using done_chg _ [] l m (Nat.le_refl _) (by simpa using hl) (by simpa using hm)
theorem asc3_chg {l m : List KV} (hl : asc l) (hm : asc m) : asc3 (chg l m) := asc_chg _ l m (Nat.le_refl _) hl hm
end Go.Proofs.Ytohcdnbchidjeaa
