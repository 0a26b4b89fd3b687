/-
  Tables, plainly: going over pairs, ranges, changes, nodes.
-/
import Derived.Test.YtohcdnbchidjeaaTabM
namespace Go.Proofs.Ytohcdnbchidjeaa

/-- Going over pairs, until one says no. -/
def goU {σ : Type} (step : σ → KV → σ × Bool) : List KV → σ → σ × Bool
  | [], s => (s, true)
  | x :: l, s => if (step s x).2 = true then goU step l (step s x).1 else ((step s x).1, false)
theorem goU_app {σ : Type} (step : σ → KV → σ × Bool) : ∀ (l m : List KV) (s : σ), goU step (l ++ m) s = if (goU step l s).2 = true then goU step m (goU step l s).1 else ((goU step l s).1, false)
  | [], m, s => by simp [goU]
  | x :: l, m, s => by
    rw [List.cons_append, goU, goU]
    split
    · rw [goU_app step l m]
    · simp
def Tr.sel : Tr → ByteArray → List KV
  | .nil, _ => []
  | .node l k v r, q => if klt k q = true then r.sel q else l.sel q ++ (k, v) :: r.sel ⟨#[]⟩
theorem sel_empty : ∀ t : Tr, t.sel ⟨#[]⟩ = t.flat
  | .nil => rfl
  | .node l k v r => by rw [Tr.sel, if_neg (by rw [klt_empty]; simp), sel_empty l, sel_empty r]; rfl
theorem sel_flat : ∀ (t : Tr) (q : ByteArray), asc t.flat → t.sel q = hi q t.flat
  | .nil, q, _ => rfl
  | .node l k v r, q, h => by
    obtain ⟨h1, h2, h3, h4, h5⟩ := asc_node.1 (show asc (l.flat ++ (k, v) :: r.flat) from h)
    rw [Tr.sel]
    show _ = hi q (l.flat ++ (k, v) :: r.flat)
    cases hk : klt k q
    · have hr : ∀ y ∈ (k, v) :: r.flat, klt y.1 q = false := by
        intro y hy
        rcases List.mem_cons.1 hy with rfl | hy
        · exact hk
        · cases hy2 : klt y.1 q
          · rfl
          · have := klt_trans (h4 y hy) hy2; rw [hk] at this; cases this
      rw [if_neg (by simp), hi_app, hi_all hr, sel_flat l q h1, sel_empty]
    · have hl : ∀ y ∈ l.flat, klt y.1 q = true := fun y hy => klt_trans (h3 y hy) hk
      rw [if_pos rfl, hi_app, hi_none hl, sel_flat r q h2, List.nil_append]
      unfold hi
      rw [List.filter_cons_of_neg (by simp [hk])]

/-! ## Pairs as they stand in memory: key, value, gone -/
abbrev P3 := ByteArray × ByteArray × Bool
def pv (x : KV) : P3 := (x.1, x.2, false)
def gonep (x : KV) : P3 := (x.1, ⟨#[]⟩, true)

/-! ## Ranges -/
def upto (to : ByteArray) (x : KV) : Bool := kbeq to ⟨#[]⟩ || klt x.1 to
def rangeStep (to : ByteArray) (most : Int) (out : List KV) (x : KV) : List KV × Bool :=
  if most ≤ (out.length : Int) ∨ upto to x = false then (out, false) else (out ++ [x], true)
def rangeL (fr to : ByteArray) (most : Int) (l : List KV) : List KV := ((hi fr l).takeWhile (upto to)).take most.toNat
theorem range_go (to : ByteArray) (most : Int) : ∀ (l : List KV) (out : List KV), (goU (rangeStep to most) l out).1 = out ++ (l.takeWhile (upto to)).take (most.toNat - out.length)
  | [], out => by simp [goU]
  | x :: l, out => by
    rw [goU, rangeStep]
    by_cases h : most ≤ (out.length : Int) ∨ upto to x = false
    · rw [if_pos h]
      simp only [Bool.false_eq_true, if_false]
      rcases h with h | h
      · rw [show most.toNat - out.length = 0 by omega]; simp
      · rw [List.takeWhile_cons_of_neg (by simp [h])]; simp
    · rw [if_neg h]
      simp only [if_true]
      rw [range_go to most l, List.takeWhile_cons_of_pos (by
        cases hu : upto to x
        · exact absurd (.inr hu) h
        · rfl)]
      have h1 : ¬ most ≤ (out.length : Int) := fun e => h (.inl e)
      rw [show most.toNat - out.length = (most.toNat - (out ++ [x]).length) + 1 by simp; omega, List.take_succ_cons, List.append_assoc]
      rfl
theorem range_flat (t : Tr) (fr to : ByteArray) (most : Int) (h : asc t.flat) : (goU (rangeStep to most) (t.sel fr) []).1 = rangeL fr to most t.flat := by
  rw [range_go, sel_flat t fr h]; rfl
theorem takeWhile_all {α : Type} {p : α → Bool} : ∀ {l : List α}, (∀ x ∈ l, p x = true) → l.takeWhile p = l
  | [], _ => rfl
  | x :: l, h => by rw [List.takeWhile_cons_of_pos (h x List.mem_cons_self), takeWhile_all fun y hy => h y (List.mem_cons_of_mem _ hy)]
theorem range_all {l : List KV} {n : Nat} (h : l.length ≤ n) : rangeL ⟨#[]⟩ ⟨#[]⟩ (n : Int) l = l := by
  unfold rangeL
  rw [hi_all fun x _ => klt_empty x.1, takeWhile_all fun x _ => by simp [upto, kbeq_self], List.take_of_length_le (by simpa using h)]
theorem range_from {l : List KV} {fr : ByteArray} {n : Nat} (h : l.length ≤ n) : rangeL fr ⟨#[]⟩ (n : Int) l = hi fr l := by
  unfold rangeL
  rw [takeWhile_all fun x _ => by simp [upto, kbeq_self], List.take_of_length_le]
  have := List.length_filter_le (fun x : KV => !klt x.1 fr) l
  show (hi fr l).length ≤ _
  unfold hi
  simp at this ⊢
  omega

/-! ## Changes -/
def chg : List KV → List KV → List P3
  | [], [] => []
  | [], y :: m => pv y :: chg [] m
  | x :: l, [] => gonep x :: chg l []
  | x :: l, y :: m => if klt x.1 y.1 = true then gonep x :: chg l (y :: m) else if kbeq x.1 y.1 = true then (if kbeq x.2 y.2 = true then chg l m else pv y :: chg l m) else pv y :: chg (x :: l) m
termination_by l m => l.length + m.length
/-- Behind the old pairs below a key: those that are left. -/
def chgSkip (q : ByteArray) (old : List KV) : List KV := old.dropWhile fun x => klt x.1 q
def chgGone (q : ByteArray) (old : List KV) : List KV := old.takeWhile fun x => klt x.1 q
def chgStep (s : List KV × List P3) (y : KV) : List KV × List P3 :=
  match chgSkip y.1 s.1 with
  | [] => ([], s.2 ++ (chgGone y.1 s.1).map gonep ++ [pv y])
  | x :: l => if kbeq x.1 y.1 = true then (l, s.2 ++ (chgGone y.1 s.1).map gonep ++ (if kbeq x.2 y.2 = true then [] else [pv y])) else (x :: l, s.2 ++ (chgGone y.1 s.1).map gonep ++ [pv y])
theorem chg_gone (q v : ByteArray) (m : List KV) : ∀ old : List KV, chg old ((q, v) :: m) = (chgGone q old).map gonep ++ chg (chgSkip q old) ((q, v) :: m)
  | [] => rfl
  | x :: l => by
    cases h : klt x.1 q
    · have e1 : chgGone q (x :: l) = [] := by unfold chgGone; rw [List.takeWhile_cons_of_neg (by simp [h])]
      have e2 : chgSkip q (x :: l) = x :: l := by unfold chgSkip; rw [List.dropWhile_cons_of_neg (by simp [h])]
      rw [e1, e2]; rfl
    · have e1 : chgGone q (x :: l) = x :: chgGone q l := by unfold chgGone; rw [List.takeWhile_cons_of_pos (by simp [h])]
      have e2 : chgSkip q (x :: l) = chgSkip q l := by unfold chgSkip; rw [List.dropWhile_cons_of_pos (by simp [h])]
      rw [e1, e2, chg]
      simp only [h, if_true, List.map_cons, List.cons_append]
      rw [chg_gone q v m l]
theorem chgSkip_head {q : ByteArray} {old l : List KV} {x : KV} (h : chgSkip q old = x :: l) : klt x.1 q = false := by
  unfold chgSkip at h
  induction old with
  | nil => cases h
  | cons y old ih =>
    rw [List.dropWhile_cons] at h
    split at h
    · exact ih h
    · rename_i hy
      injection h with h1 h2
      subst h1
      simpa using hy
theorem chg_step (y : KV) (m : List KV) (s : List KV × List P3) : s.2 ++ chg s.1 (y :: m) = (chgStep s y).2 ++ chg (chgStep s y).1 m := by
  obtain ⟨q, v⟩ := y
  rw [chg_gone q v m s.1, chgStep]
  cases h : chgSkip q s.1 with
  | nil =>
    simp only []
    rw [chg]
    simp
  | cons x l =>
    have hx := chgSkip_head h
    simp only []
    rw [chg]
    simp only [hx, Bool.false_eq_true, if_false]
    split
    · split
      · simp
      · simp
    · simp
theorem chg_nil : ∀ l : List KV, chg l [] = l.map gonep
  | [] => by rw [chg]; rfl
  | x :: l => by rw [chg, chg_nil l]; rfl
theorem chg_fold (m : List KV) (s : List KV × List P3) : s.2 ++ chg s.1 m = (m.foldl chgStep s).2 ++ (m.foldl chgStep s).1.map gonep := by
  induction m generalizing s with
  | nil => rw [chg_nil]; rfl
  | cons y m ih => rw [chg_step, ih]; rfl
theorem goU_true {σ : Type} (f : σ → KV → σ) : ∀ (l : List KV) (s : σ), goU (fun s x => (f s x, true)) l s = (l.foldl f s, true)
  | [], s => rfl
  | x :: l, s => by rw [goU]; simp only [if_true]; rw [goU_true f l]; rfl

/-! ## Puts and drops in a row -/
def doneStep (t : Tr) (x : P3) : Tr := if x.2.2 = true then t.drop x.1 else t.put x.1 x.2.1
def doneT (t : Tr) (l : List P3) : Tr := l.foldl doneStep t
def doneStepL (t : List KV) (x : P3) : List KV := if x.2.2 = true then dropL x.1 t else putL x.1 x.2.1 t
def doneL (t : List KV) (l : List P3) : List KV := l.foldl doneStepL t
theorem doneStep_good {t : Tr} (h : good t) (x : P3) : good (doneStep t x) ∧ (doneStep t x).flat = doneStepL t.flat x := by
  unfold doneStep doneStepL
  split
  · exact ⟨good_drop h _, drop_flat t _ h.1⟩
  · exact ⟨good_put h _ _, put_flat t _ _ h.1⟩
theorem doneT_good : ∀ (l : List P3) {t : Tr}, good t → good (doneT t l) ∧ (doneT t l).flat = doneL t.flat l
  | [], t, h => ⟨h, rfl⟩
  | x :: l, t, h => by
    have h1 := doneStep_good h x
    have h2 := doneT_good l h1.1
    exact ⟨h2.1, h2.2.trans (by rw [h1.2]; rfl)⟩
def ofStep (t : Tr) (x : P3) : Tr := t.put x.1 x.2.1
def ofT (l : List P3) : Tr := l.foldl ofStep .nil
def ofL (l : List P3) : List KV := l.foldl (fun t x => putL x.1 x.2.1 t) []
theorem ofT_from : ∀ (l : List P3) {t : Tr}, good t → good (l.foldl ofStep t) ∧ (l.foldl ofStep t).flat = l.foldl (fun t x => putL x.1 x.2.1 t) t.flat
  | [], t, h => ⟨h, rfl⟩
  | x :: l, t, h => by
    have h2 := ofT_from l (good_put h x.1 x.2.1)
    exact ⟨h2.1, h2.2.trans (by rw [put_flat _ _ _ h.1]; rfl)⟩
theorem ofT_good (l : List P3) : good (ofT l) ∧ (ofT l).flat = ofL l := ofT_from l good_nil
theorem len_putL (k v : ByteArray) (l : List KV) : (putL k v l).length ≤ l.length + 1 := by
  have h : (lo k l).length + (gt k l).length ≤ l.length := by
    induction l with
    | nil => simp [lo, gt]
    | cons x l ih =>
      unfold lo gt at *
      rw [List.filter_cons, List.filter_cons]
      cases h1 : klt x.1 k
      · cases h2 : klt k x.1 <;> simp <;> omega
      · rw [klt_asymm h1]; simp; omega
  unfold putL
  rw [List.length_append, List.length_cons]
  omega
theorem len_restL (k : ByteArray) (l : List KV) : (restL k l).length ≤ l.length := by
  have h : (lo k l).length + (gt k l).length ≤ l.length := by
    induction l with
    | nil => simp [lo, gt]
    | cons x l ih =>
      unfold lo gt at *
      rw [List.filter_cons, List.filter_cons]
      cases h1 : klt x.1 k
      · cases h2 : klt k x.1 <;> simp <;> omega
      · rw [klt_asymm h1]; simp; omega
  unfold restL
  rw [List.length_append]
  omega
theorem len_dropL (k : ByteArray) (l : List KV) : (dropL k l).length ≤ l.length := by
  unfold dropL; split
  · exact len_restL k l
  · exact Nat.le_refl _
theorem len_doneL : ∀ (l : List P3) (t : List KV), (doneL t l).length ≤ t.length + l.length
  | [], t => Nat.le_refl _
  | x :: l, t => by
    have h := len_doneL l (doneStepL t x)
    have h2 : (doneStepL t x).length ≤ t.length + 1 := by
      unfold doneStepL; split
      · have := len_dropL x.1 t; omega
      · exact len_putL _ _ _
    show (doneL (doneStepL t x) l).length ≤ _
    rw [List.length_cons]; omega
end Go.Proofs.Ytohcdnbchidjeaa
