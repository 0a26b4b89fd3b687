/-
  Matrices, in plain Lean: laws of sharing and of changes.
-/
import Derived.Test.YtikegnnlmfidfaaMatO
namespace Go.Proofs.Ytikegnnlmfidfaa
theorem bothP_comm (a b : PM) (f : ByteArray) : bothP a b f = bothP b a f := by
  unfold bothP
  rw [Bool.and_comm (sharesP a f b.1)]
  congr 2
  exact decide_eq_decide.2 eq_comm
/-- A change that can be done: the matrix may be, and the device stays. -/
theorem apply_own {m x : PM} {c : PC} (h : applyP m c = (x, 0)) : chkM m = 0 ∧ x.1 = m.1 := by
  by_cases hk : chkM m = 0
  · refine ⟨hk, ?_⟩
    by_cases hb : badC m c
    · rw [apply_bad hk hb] at h
      injection h with _ h2
      cases h2
    · cases hf : m.2.find? (fun r => decide (r.1 = c.2.1)) with
      | none =>
        rw [apply_none hk hb hf] at h
        split at h
        · split at h
          · injection h with _ h2; cases h2
          · injection h with h1 _; rw [← h1]
        · injection h with _ h2; cases h2
      | some r =>
        rw [apply_some hk hb hf] at h
        split at h
        · injection h with _ h2; cases h2
        · split at h
          · injection h with h1 _; rw [← h1]
          · split at h
            · split at h
              · injection h with _ h2; cases h2
              · injection h with h1 _; rw [← h1]
            · split at h
              · injection h with h1 _; rw [← h1]
              · injection h with _ h2; cases h2
  · rw [apply_chk hk] at h
    injection h with _ h2
    exact absurd h2 hk
theorem find_map_other {l : List PRow} {g : PRow → PRow} {f : ByteArray} (h1 : ∀ r, (g r).1 = r.1) (h2 : ∀ r, r.1 = f → g r = r) : (l.map g).find? (fun r => decide (r.1 = f)) = l.find? (fun r => decide (r.1 = f)) := by
  rw [List.find?_map]
  have e : ((fun r : PRow => decide (r.1 = f)) ∘ g) = fun r => decide (r.1 = f) := funext fun r => by simp only [Function.comp, h1]
  rw [e]
  cases hx : l.find? (fun r => decide (r.1 = f)) with
  | none => rfl
  | some r =>
    have := List.find?_some hx
    simp only [decide_eq_true_eq] at this
    rw [Option.map_some, h2 r this]
theorem find_filter_other {l : List PRow} {f f' : ByteArray} (h : f ≠ f') : (l.filter fun x => !decide (x.1 = f')).find? (fun r => decide (r.1 = f)) = l.find? (fun r => decide (r.1 = f)) := by
  rw [List.find?_filter]
  congr 1
  funext r
  by_cases h1 : r.1 = f
  · simp [h1, h]
  · simp [h1]
/-- A change leaves the other folders' rows. -/
theorem apply_other {m x : PM} {c : PC} {f : ByteArray} (h : applyP m c = (x, 0)) (hf : f ≠ c.2.1) : x.2.find? (fun r => decide (r.1 = f)) = m.2.find? (fun r => decide (r.1 = f)) := by
  have hk := (apply_own h).1
  by_cases hb : badC m c
  · rw [apply_bad hk hb] at h
    injection h with _ h2
    cases h2
  · cases hfr : m.2.find? (fun r => decide (r.1 = c.2.1)) with
    | none =>
      rw [apply_none hk hb hfr] at h
      split at h
      · split at h
        · injection h with _ h2; cases h2
        · injection h with h1 _
          rw [← h1]
          simp only
          rw [List.find?_append, List.find?_cons_of_neg (by simp; exact fun e => hf e.symm), ← List.find?_append, List.take_append_drop]
      · injection h with _ h2; cases h2
    | some r =>
      rw [apply_some hk hb hfr] at h
      split at h
      · injection h with _ h2; cases h2
      · split at h
        · injection h with h1 _
          rw [← h1]
          exact find_filter_other hf
        · split at h
          · split at h
            · injection h with _ h2; cases h2
            · injection h with h1 _
              rw [← h1]
              exact find_map_other (fun r => by split <;> rfl) (fun r hr => by rw [if_neg (by rw [hr]; exact hf)])
          · split at h
            · injection h with h1 _
              rw [← h1]
              exact find_map_other (fun r => by split <;> rfl) (fun r hr => by rw [if_neg (by rw [hr]; exact hf)])
            · injection h with _ h2; cases h2
theorem rowsOk_iff (own : Int) : ∀ {rs : List PRow} {last : ByteArray}, rowsOk own last rs = true ↔ (∀ r ∈ rs, klt last r.1 = true ∧ folderP r.1 = true ∧ withOk own 0 r.2 = true) ∧ rs.Pairwise (fun x y => klt x.1 y.1 = true)
  | [], last => by simp [rowsOk]
  | r :: rs, last => by
    unfold rowsOk
    rw [Bool.and_eq_true, Bool.and_eq_true, Bool.and_eq_true, rowsOk_iff own (rs := rs) (last := r.1), List.pairwise_cons]
    constructor
    · rintro ⟨⟨⟨h1, h2⟩, h3⟩, h4, h5⟩
      refine ⟨fun s hs => ?_, fun s hs => (h4 s hs).1, h5⟩
      rcases List.mem_cons.1 hs with rfl | hs
      · exact ⟨h2, h1, h3⟩
      · exact ⟨klt_trans h2 (h4 s hs).1, (h4 s hs).2⟩
    · rintro ⟨h1, h2, h3⟩
      have h4 := h1 r List.mem_cons_self
      exact ⟨⟨⟨h4.2.1, h4.1⟩, h4.2.2⟩, fun s hs => ⟨h2 s hs, (h1 s (List.mem_cons_of_mem _ hs)).2⟩, h3⟩
theorem withOk_iff (own : Int) : ∀ {ds : List Int} {n : Int}, withOk own n ds = true ↔ (∀ d ∈ ds, n < d ∧ dev d = true ∧ d ≠ own) ∧ ds.Pairwise (fun x y => x < y)
  | [], n => by simp [withOk]
  | d :: ds, n => by
    unfold withOk
    rw [Bool.and_eq_true, Bool.and_eq_true, Bool.and_eq_true, withOk_iff own (ds := ds) (n := d), List.pairwise_cons]
    simp only [Bool.not_eq_true', decide_eq_false_iff_not, decide_eq_true_eq]
    constructor
    · rintro ⟨⟨⟨h1, h2⟩, h3⟩, h4, h5⟩
      refine ⟨fun s hs => ?_, fun s hs => (h4 s hs).1, h5⟩
      rcases List.mem_cons.1 hs with rfl | hs
      · exact ⟨h3, h1, h2⟩
      · exact ⟨Int.lt_trans h3 (h4 s hs).1, (h4 s hs).2⟩
    · rintro ⟨h1, h2, h3⟩
      have h4 := h1 d List.mem_cons_self
      exact ⟨⟨⟨h4.2.1, h4.2.2⟩, h4.1⟩, fun s hs => ⟨h2 s hs, (h1 s (List.mem_cons_of_mem _ hs)).2⟩, h3⟩
theorem chk_intro {m : PM} (h1 : m.2.length ≤ 8) (h2 : dev m.1 = true) (h3 : rowsOk m.1 emp m.2 = true) : chkM m = 0 := by
  unfold chkM
  rw [if_neg (by omega), if_neg (by rw [h2]; simp), if_pos h3]
theorem pw_insert {α : Type} {R : α → α → Prop} {p : α → Bool} {x : α} (hm : ∀ y z, R y z → p z = true → p y = true) : ∀ {l : List α}, l.Pairwise R → (∀ y ∈ l, p y = true → R y x) → (∀ y ∈ l, p y = false → R x y) →
    (l.take (l.takeWhile p).length ++ x :: l.drop (l.takeWhile p).length).Pairwise R
  | [], _, _, _ => by simp
  | y :: l, hl, h1, h2 => by
    rw [List.pairwise_cons] at hl
    cases hp : p y with
    | true =>
      rw [List.takeWhile_cons, if_pos hp, List.length_cons, List.take_succ_cons, List.drop_succ_cons, List.cons_append, List.pairwise_cons]
      refine ⟨fun z hz => ?_, pw_insert hm hl.2 (fun z hz => h1 z (List.mem_cons_of_mem _ hz)) (fun z hz => h2 z (List.mem_cons_of_mem _ hz))⟩
      rcases List.mem_append.1 hz with hz | hz
      · exact hl.1 z (List.mem_of_mem_take hz)
      · rcases List.mem_cons.1 hz with rfl | hz
        · exact h1 y List.mem_cons_self hp
        · exact hl.1 z (List.mem_of_mem_drop hz)
    | false =>
      rw [List.takeWhile_cons, if_neg (by rw [hp]; simp)]
      simp only [List.length_nil, List.take_zero, List.drop_zero, List.nil_append, List.pairwise_cons]
      refine ⟨fun z hz => ?_, hl⟩
      rcases List.mem_cons.1 hz with rfl | hz
      · exact h2 z List.mem_cons_self hp
      · refine h2 z (List.mem_cons_of_mem _ hz) ?_
        cases hq : p z with
        | false => rfl
        | true => rw [hm y z (hl.1 z hz) hq] at hp; cases hp
theorem mem_insert {α : Type} {l : List α} {i : Nat} {x y : α} (h : y ∈ l.take i ++ x :: l.drop i) : y = x ∨ y ∈ l := by
  rcases List.mem_append.1 h with h | h
  · exact .inr (List.mem_of_mem_take h)
  · rcases List.mem_cons.1 h with rfl | h
    · exact .inl rfl
    · exact .inr (List.mem_of_mem_drop h)
theorem emp_lt {f : ByteArray} (h : folderP f = true) : klt emp f = true := by
  have h1 := (folderP_iff f).1 h
  refine klt_total (fun e => ?_) (klt_empty f)
  rw [e] at h1
  exact absurd h1.1 (by decide)
/-- What a change makes may be. -/
theorem apply_valid {m x : PM} {c : PC} (h : applyP m c = (x, 0)) : chkM x = 0 := by
  obtain ⟨hk, ho⟩ := apply_own h
  obtain ⟨k1, k2, k3⟩ := chk_ok hk
  rw [rowsOk_iff] at k3
  obtain ⟨k3, k4⟩ := k3
  by_cases hb : badC m c
  · rw [apply_bad hk hb] at h
    injection h with _ h2
    cases h2
  · have hfo : folderP c.2.1 = true := by
      cases hq : folderP c.2.1 with
      | true => rfl
      | false => exact absurd (.inr (.inr (.inl hq))) hb
    have hdv : c.1 = 3 → dev c.2.2 = true ∧ c.2.2 ≠ m.1 := fun h3 => by
      refine ⟨?_, fun e => hb (.inr (.inr (.inr (.inl ⟨.inl h3, .inr e⟩))))⟩
      cases hq : dev c.2.2 with
      | true => rfl
      | false => exact absurd (.inr (.inr (.inr (.inl ⟨.inl h3, .inl hq⟩)))) hb
    cases hfr : m.2.find? (fun r => decide (r.1 = c.2.1)) with
    | none =>
      have hno : ∀ r ∈ m.2, r.1 ≠ c.2.1 := fun r hr => by
        have := List.find?_eq_none.1 hfr r hr
        simpa using this
      rw [apply_none hk hb hfr] at h
      split at h
      · split at h
        · injection h with _ h2; cases h2
        · rename_i h8
          injection h with h1 _
          rw [← h1]
          refine chk_intro ?_ k2 ((rowsOk_iff m.1).2 ⟨fun r hr => ?_, ?_⟩)
          · simp only [List.length_append, List.length_take, List.length_cons, List.length_drop]
            omega
          · rcases mem_insert hr with rfl | hr
            · exact ⟨emp_lt hfo, hfo, rfl⟩
            · exact k3 r hr
          · unfold lbR
            refine pw_insert (p := fun r : PRow => klt r.1 c.2.1) (x := (c.2.1, [])) (fun y z hyz hz => klt_trans hyz hz) k4 (fun y _ hy => hy) (fun y hy hp => klt_total (hno y hy) hp)
      · injection h with _ h2; cases h2
    | some r =>
      rw [apply_some hk hb hfr] at h
      split at h
      · injection h with _ h2; cases h2
      · split at h
        · injection h with h1 _
          rw [← h1]
          exact chk_intro (Nat.le_trans (List.length_filter_le _ _) k1) k2 ((rowsOk_iff m.1).2 ⟨fun r hr => k3 r (List.mem_filter.1 hr).1, k4.filter _⟩)
        · split at h
          · rename_i h3
            split at h
            · injection h with _ h2; cases h2
            · rename_i hnm
              injection h with h1 _
              rw [← h1]
              refine chk_intro (by simpa using k1) k2 ((rowsOk_iff m.1).2 ⟨fun y hy => ?_, ?_⟩)
              · obtain ⟨z, hz, rfl⟩ := List.mem_map.1 hy
                split
                · rename_i hzf
                  have hzr : z = r := by
                    have h5 := List.find?_some hfr
                    simp only [decide_eq_true_eq] at h5
                    obtain ⟨i, hi, rfl⟩ := List.getElem_of_mem hz
                    have h6 := find_at (rows_all (chk_ok hk).2.2).2 (List.getElem?_eq_getElem hi) hzf
                    rw [hfr] at h6
                    exact (Option.some.inj h6).symm
                  subst hzr
                  obtain ⟨a1, a2, a3⟩ := k3 _ hz
                  rw [withOk_iff] at a3
                  refine ⟨a1, a2, (withOk_iff m.1).2 ⟨fun d hd => ?_, ?_⟩⟩
                  · rcases mem_insert hd with rfl | hd
                    · exact ⟨by have := (dev_iff.1 (hdv h3).1).1; omega, (hdv h3).1, (hdv h3).2⟩
                    · exact a3.1 d hd
                  · unfold lbI
                    refine pw_insert (p := fun x : Int => decide (x < c.2.2)) (x := c.2.2) (fun y z hyz hz => by simp only [decide_eq_true_eq] at hz ⊢; omega) a3.2 (fun y _ hy => by simpa using hy) (fun y hy hp => ?_)
                    simp only [decide_eq_false_iff_not] at hp
                    have : y ≠ c.2.2 := fun e => hnm (e ▸ hy)
                    omega
                · exact k3 z hz
              · rw [List.pairwise_map]
                refine k4.imp fun {a b} hab => ?_
                have e1 : ∀ z : PRow, (if z.1 = c.2.1 then (z.1, z.2.take (lbI c.2.2 z.2) ++ c.2.2 :: z.2.drop (lbI c.2.2 z.2)) else z).1 = z.1 := fun z => by split <;> rfl
                rw [e1, e1]
                exact hab
          · split at h
            · injection h with h1 _
              rw [← h1]
              refine chk_intro (by simpa using k1) k2 ((rowsOk_iff m.1).2 ⟨fun y hy => ?_, ?_⟩)
              · obtain ⟨z, hz, rfl⟩ := List.mem_map.1 hy
                split
                · obtain ⟨a1, a2, a3⟩ := k3 _ hz
                  rw [withOk_iff] at a3
                  exact ⟨a1, a2, (withOk_iff m.1).2 ⟨fun d hd => a3.1 d (List.mem_filter.1 hd).1, a3.2.filter _⟩⟩
                · exact k3 z hz
              · rw [List.pairwise_map]
                refine k4.imp fun {a b} hab => ?_
                have e1 : ∀ z : PRow, (if z.1 = c.2.1 then (z.1, z.2.filter fun y => !decide (y = c.2.2)) else z).1 = z.1 := fun z => by split <;> rfl
                rw [e1, e1]
                exact hab
            · injection h with _ h2; cases h2
theorem row_other {m x : PM} {c : PC} {f : ByteArray} (h : applyP m c = (x, 0)) (hf : f ≠ c.2.1) : rowP x f = rowP m f := by
  unfold rowP
  rw [if_pos (apply_valid h), if_pos (apply_own h).1, apply_other h hf]
theorem shares_other {m x : PM} {c : PC} {f : ByteArray} (h : applyP m c = (x, 0)) (hf : f ≠ c.2.1) (d : Int) : sharesP x f d = sharesP m f d := by
  unfold sharesP
  rw [row_other h hf]
theorem find_map_same {l : List PRow} {g : PRow → PRow} {f : ByteArray} (h1 : ∀ r, (g r).1 = r.1) : (l.map g).find? (fun r => decide (r.1 = f)) = (l.find? (fun r => decide (r.1 = f))).map g := by
  rw [List.find?_map]
  have e : ((fun r : PRow => decide (r.1 = f)) ∘ g) = fun r => decide (r.1 = f) := funext fun r => by simp only [Function.comp, h1]
  rw [e]
theorem filter_insert {d : Int} {l : List Int} (h : ¬ d ∈ l) (i : Nat) : (l.take i ++ d :: l.drop i).filter (fun y => !decide (y = d)) = l := by
  rw [List.filter_append, List.filter_cons_of_neg (by simp), ← List.filter_append, List.take_append_drop, List.filter_eq_self.2 (fun y hy => by
    have : y ≠ d := fun e => h (e ▸ hy)
    simp [this])]
/-- Shared and left: the same matrix. -/
theorem back_share {m x : PM} {f : ByteArray} {d : Int} (h : applyP m (3, f, d) = (x, 0)) : applyP x (4, f, d) = (m, 0) := by
  obtain ⟨hk, ho⟩ := apply_own h
  have hx := apply_valid h
  by_cases hb : badC m (3, f, d)
  · rw [apply_bad hk hb] at h
    injection h with _ h2
    cases h2
  · have hb2 : ¬ badC x (4, f, d) := fun hq => by
      apply hb
      rcases hq with q | q | q | ⟨_, q⟩ | ⟨q, _⟩
      · exact absurd q (by simp)
      · exact absurd q (by simp)
      · exact .inr (.inr (.inl q))
      · exact .inr (.inr (.inr (.inl ⟨.inl rfl, by rw [← ho]; exact q⟩)))
      · exact absurd (.inr rfl) q
    cases hfr : m.2.find? (fun r => decide (r.1 = f)) with
    | none =>
      rw [apply_none hk hb hfr, if_neg (by simp)] at h
      injection h with _ h2
      cases h2
    | some r =>
      rw [apply_some hk hb hfr, if_neg (by simp), if_neg (by simp), if_pos rfl] at h
      split at h
      · injection h with _ h2; cases h2
      · rename_i hnm
        injection h with h1 _
        have hrf : r.1 = f := by simpa using List.find?_some hfr
        have hxf : x.2.find? (fun r => decide (r.1 = f)) = some (f, r.2.take (lbI d r.2) ++ d :: r.2.drop (lbI d r.2)) := by
          rw [← h1]
          simp only
          rw [find_map_same (fun r => by split <;> rfl), hfr, Option.map_some, if_pos hrf, hrf]
        rw [apply_some hx hb2 hxf, if_neg (by simp), if_neg (by simp), if_neg (by simp), if_pos (by simp)]
        rw [← h1]
        simp only [List.map_map]
        have e : m.2.map ((fun x : PRow => if x.1 = f then (x.1, x.2.filter fun y => !decide (y = d)) else x) ∘ fun x : PRow => if x.1 = f then (x.1, x.2.take (lbI d x.2) ++ d :: x.2.drop (lbI d x.2)) else x) = m.2 := by
          refine (List.map_congr_left (g := id) fun z hz => ?_).trans (List.map_id _)
          by_cases hzf : z.1 = f
          · obtain ⟨i, hi, rfl⟩ := List.getElem_of_mem hz
            have h6 := find_at (rows_all (chk_ok hk).2.2).2 (List.getElem?_eq_getElem hi) hzf
            rw [hfr] at h6
            obtain rfl := Option.some.inj h6
            simp only [Function.comp, hzf, if_true, id]
            rw [filter_insert hnm, ← hzf]
          · simp only [Function.comp, hzf, if_false, id]
        rw [e]
/-- Added and dropped: the same matrix; in between it is there, ahead of it it is not. -/
theorem back_add {m x : PM} {f : ByteArray} (h : applyP m (1, f, 0) = (x, 0)) : applyP x (2, f, 0) = (m, 0) ∧ hasP x f = true ∧ hasP m f = false := by
  obtain ⟨hk, ho⟩ := apply_own h
  have hx := apply_valid h
  by_cases hb : badC m (1, f, 0)
  · rw [apply_bad hk hb] at h
    injection h with _ h2
    cases h2
  · have hb2 : ¬ badC x (2, f, 0) := fun hq => by
      apply hb
      rcases hq with q | q | q | ⟨q, _⟩ | ⟨_, q⟩
      · exact absurd q (by simp)
      · exact absurd q (by simp)
      · exact .inr (.inr (.inl q))
      · exact absurd q (by simp)
      · exact absurd rfl q
    cases hfr : m.2.find? (fun r => decide (r.1 = f)) with
    | some r =>
      rw [apply_some hk hb hfr, if_pos rfl] at h
      injection h with _ h2
      cases h2
    | none =>
      have hno : ∀ r ∈ m.2, r.1 ≠ f := fun r hr => by
        have := List.find?_eq_none.1 hfr r hr
        simpa using this
      rw [apply_none hk hb hfr, if_pos rfl] at h
      split at h
      · injection h with _ h2; cases h2
      · injection h with h1 _
        have hxf : x.2.find? (fun r => decide (r.1 = f)) = some (f, []) := by
          rw [← h1]
          simp only
          rw [List.find?_append, List.find?_eq_none.2 (fun r hr => by have := hno r (List.mem_of_mem_take hr); simpa using this), List.find?_cons_of_pos (by simp)]
          rfl
        refine ⟨?_, ?_, ?_⟩
        · rw [apply_some hx hb2 hxf, if_neg (by simp), if_pos rfl]
          rw [← h1]
          simp only
          rw [List.filter_append, List.filter_cons_of_neg (by simp), ← List.filter_append, List.take_append_drop, List.filter_eq_self.2 (fun r hr => by have := hno r hr; simpa using this)]
        · unfold hasP rowP
          rw [if_pos hx, hxf]
          rfl
        · unfold hasP rowP
          rw [if_pos hk, hfr]
          rfl
/-- Shared: in between it is, ahead of it it was not. -/
theorem share_between {m x : PM} {f : ByteArray} {d : Int} (h : applyP m (3, f, d) = (x, 0)) : sharesP x f d = true ∧ sharesP m f d = false := by
  obtain ⟨hk, ho⟩ := apply_own h
  have hx := apply_valid h
  by_cases hb : badC m (3, f, d)
  · rw [apply_bad hk hb] at h
    injection h with _ h2
    cases h2
  · cases hfr : m.2.find? (fun r => decide (r.1 = f)) with
    | none =>
      rw [apply_none hk hb hfr, if_neg (by simp)] at h
      injection h with _ h2
      cases h2
    | some r =>
      rw [apply_some hk hb hfr, if_neg (by simp), if_neg (by simp), if_pos rfl] at h
      split at h
      · injection h with _ h2; cases h2
      · rename_i hnm
        injection h with h1 _
        have hrf : r.1 = f := by simpa using List.find?_some hfr
        have hxf : x.2.find? (fun r => decide (r.1 = f)) = some (f, r.2.take (lbI d r.2) ++ d :: r.2.drop (lbI d r.2)) := by
          rw [← h1]
          simp only
          rw [find_map_same (fun r => by split <;> rfl), hfr, Option.map_some, if_pos hrf, hrf]
        refine ⟨?_, ?_⟩
        · unfold sharesP rowP
          rw [if_pos hx, hxf]
          simp
        · unfold sharesP rowP
          rw [if_pos hk, hfr]
          exact decide_eq_false hnm
end Go.Proofs.Ytikegnnlmfidfaa
