/-
  Tables, plainly: keys and their order, ranks, trees, cutting and joining.
-/
import Derived.Laws.Cover1
import Derived.Laws.Strings
namespace Go.Proofs.Ytohcdnbchidjeaa

/-! ## Keys -/
def bl : List UInt8 → List UInt8 → Bool := Op.bytesLess
theorem bl_nil (x : List UInt8) : bl x [] = false := by cases x <;> rfl
theorem bl_nil_cons (b : UInt8) (y : List UInt8) : bl [] (b :: y) = true := rfl
theorem bl_cons (a b : UInt8) (x y : List UInt8) : bl (a :: x) (b :: y) = (decide (a < b) || (a == b && bl x y)) := rfl
theorem u8_lt (a b : UInt8) : a < b ↔ a.toNat < b.toNat := UInt8.lt_iff_toNat_lt
theorem u8_eq (a b : UInt8) : a = b ↔ a.toNat = b.toNat := ⟨fun h => by rw [h], fun h => UInt8.toNat.inj h⟩
theorem bl_cons_iff (a b : UInt8) (x y : List UInt8) : bl (a :: x) (b :: y) = true ↔ a.toNat < b.toNat ∨ (a.toNat = b.toNat ∧ bl x y = true) := by
  rw [bl_cons, Bool.or_eq_true, Bool.and_eq_true, decide_eq_true_eq, u8_lt, beq_iff_eq, u8_eq]
theorem bl_irrefl : ∀ x, bl x x = false
  | [] => rfl
  | a :: x => by
    rw [← Bool.not_eq_true, bl_cons_iff]
    rintro (h | ⟨_, h⟩)
    · omega
    · rw [bl_irrefl x] at h; cases h
theorem bl_trans : ∀ {x y z : List UInt8}, bl x y = true → bl y z = true → bl x z = true
  | x, [], z, h, _ => by rw [bl_nil] at h; cases h
  | _, b :: y, [], _, h => by rw [bl_nil] at h; cases h
  | [], b :: y, c :: z, _, _ => rfl
  | a :: x, b :: y, c :: z, h1, h2 => by
    rw [bl_cons_iff] at *
    rcases h1 with h1 | ⟨h1, h3⟩ <;> rcases h2 with h2 | ⟨h2, h4⟩
    · left; omega
    · left; omega
    · left; omega
    · exact .inr ⟨by omega, bl_trans h3 h4⟩
theorem bl_total : ∀ {x y : List UInt8}, x ≠ y → bl x y = false → bl y x = true
  | [], [], h, _ => absurd rfl h
  | [], b :: y, _, h => by cases h
  | a :: x, [], _, _ => rfl
  | a :: x, b :: y, h, h1 => by
    rw [← Bool.not_eq_true, bl_cons_iff] at h1
    rw [bl_cons_iff]
    by_cases he : a.toNat = b.toNat
    · obtain rfl := (u8_eq _ _).2 he
      refine .inr ⟨rfl, bl_total (fun e => h (by rw [e])) ?_⟩
      rw [← Bool.not_eq_true]
      exact fun h2 => h1 (.inr ⟨rfl, h2⟩)
    · left
      have : ¬ a.toNat < b.toNat := fun h2 => h1 (.inl h2)
      omega
theorem bl_zero : ∀ (x y : List UInt8), bl x (y ++ [0]) = !bl y x
  | [], [] => rfl
  | [], b :: y => by rw [bl_nil]; rfl
  | a :: x, [] => by
    have h : bl (a :: x) ([] ++ [0]) = false := by
      rw [← Bool.not_eq_true]
      show ¬ bl (a :: x) (0 :: []) = true
      rw [bl_cons_iff, bl_nil]
      rintro (h | ⟨_, h⟩)
      · simp at h
      · cases h
    rw [h]; rfl
  | a :: x, b :: y => by
    have ih := bl_zero x y
    have e : ((!bl (b :: y) (a :: x)) = true) ↔ ¬ (b.toNat < a.toNat ∨ (b.toNat = a.toNat ∧ bl y x = true)) := by rw [← bl_cons_iff]; simp
    rw [Bool.eq_iff_iff, List.cons_append, bl_cons_iff, ih, e]
    constructor
    · rintro (h | ⟨h1, h2⟩) (h3 | ⟨h3, h4⟩)
      · omega
      · omega
      · omega
      · rw [h4] at h2; cases h2
    · intro h
      by_cases he : a.toNat = b.toNat
      · refine .inr ⟨he, ?_⟩
        cases h2 : bl y x
        · rfl
        · exact absurd (.inr ⟨he.symm, h2⟩) h
      · left
        have : ¬ b.toNat < a.toNat := fun h2 => h (.inl h2)
        omega
theorem toList_inj {a b : ByteArray} (h : a.toList = b.toList) : a = b := by
  rw [ByteArray.toList_eq, ByteArray.toList_eq] at h
  obtain ⟨a⟩ := a
  obtain ⟨b⟩ := b
  exact congrArg ByteArray.mk (Array.ext' h)
/-- Is a key below another one? -/
def klt (a b : ByteArray) : Bool := Op.bytesLess a.toList b.toList
theorem klt_irrefl (a : ByteArray) : klt a a = false := bl_irrefl _
theorem klt_trans {a b c : ByteArray} (h : klt a b = true) (h' : klt b c = true) : klt a c = true := bl_trans h h'
theorem klt_total {a b : ByteArray} (h : a ≠ b) (h' : klt a b = false) : klt b a = true := bl_total (fun e => h (toList_inj e)) h'
theorem klt_asymm {a b : ByteArray} (h : klt a b = true) : klt b a = false := by
  cases h2 : klt b a
  · rfl
  · have := klt_trans h h2; rw [klt_irrefl] at this; cases this
theorem klt_ne {a b : ByteArray} (h : klt a b = true) : a ≠ b := by rintro rfl; rw [klt_irrefl] at h; cases h
/-- not below, then below: below. -/
theorem klt_of_ge {a b c : ByteArray} (h : klt b a = false) (h' : klt b c = true) : klt a c = true := by
  by_cases e : a = b
  · subst e; exact h'
  · exact klt_trans (klt_total (fun e' => e e'.symm) h) h'
theorem klt_of_lt_ge {a b c : ByteArray} (h : klt a b = true) (h' : klt c b = false) : klt a c = true := by
  by_cases e : c = b
  · subst e; exact h
  · exact klt_trans h (klt_total e h')
theorem kge_trans {a b c : ByteArray} (h : klt b a = false) (h' : klt c b = false) : klt c a = false := by
  cases h2 : klt c a
  · rfl
  · have := klt_of_lt_ge h2 h; rw [this] at h'; cases h'
def kbeq (a b : ByteArray) : Bool := a.toList == b.toList
theorem kbeq_iff (a b : ByteArray) : kbeq a b = true ↔ a = b := by
  unfold kbeq; rw [beq_iff_eq]; exact ⟨toList_inj, fun e => by rw [e]⟩
theorem kbeq_self (a : ByteArray) : kbeq a a = true := (kbeq_iff a a).2 rfl
theorem kbeq_false (a b : ByteArray) : kbeq a b = false ↔ a ≠ b := by rw [← Bool.not_eq_true, kbeq_iff]
def kzero : ByteArray := ⟨#[0]⟩
theorem app_toList (a b : ByteArray) : (a ++ b).toList = a.toList ++ b.toList := by
  rw [ByteArray.toList_eq, ByteArray.toList_eq, ByteArray.toList_eq, ByteArray.data_append, Array.toList_append]
theorem klt_zero (a b : ByteArray) : klt a (b ++ kzero) = !klt b a := by
  unfold klt
  rw [app_toList]
  have : kzero.toList = [0] := by rw [ByteArray.toList_eq]; rfl
  rw [this]
  exact bl_zero _ _
theorem klt_empty (a : ByteArray) : klt a ⟨#[]⟩ = false := by
  unfold klt
  have : (⟨#[]⟩ : ByteArray).toList = [] := by rw [ByteArray.toList_eq]
  rw [this]
  exact bl_nil _

/-! ## Ranks -/
def rkStep (x : Nat) (c : UInt8) : Nat := (x ^^^ c.toNat) * 16777619 % 4294967296
def rkL (l : List UInt8) : Nat := l.foldl rkStep 2166136261
def rk (k : ByteArray) : Nat := rkL k.data.toList
theorem rkStep_lt (x : Nat) (c : UInt8) : rkStep x c < 4294967296 := Nat.mod_lt _ (by decide)
theorem rkL_lt (l : List UInt8) : rkL l < 4294967296 := by
  unfold rkL
  have : ∀ (l : List UInt8) (x : Nat), x < 4294967296 → l.foldl rkStep x < 4294967296 := by
    intro l
    induction l with
    | nil => exact fun x h => h
    | cons c l ih => exact fun x _ => ih _ (rkStep_lt x c)
  exact this l _ (by decide)
theorem rk_lt (k : ByteArray) : rk k < 4294967296 := rkL_lt _

/-! ## What stands above -/
def abv (a b : ByteArray) : Bool := decide (rk b < rk a) || (decide (rk a = rk b) && klt a b)
theorem abv_iff (a b : ByteArray) : abv a b = true ↔ rk b < rk a ∨ (rk a = rk b ∧ klt a b = true) := by
  unfold abv; rw [Bool.or_eq_true, Bool.and_eq_true, decide_eq_true_eq, decide_eq_true_eq]
theorem abv_trans {a b c : ByteArray} (h : abv a b = true) (h' : abv b c = true) : abv a c = true := by
  rw [abv_iff] at *
  rcases h with h | ⟨h, h1⟩ <;> rcases h' with h' | ⟨h', h2⟩
  · left; omega
  · left; omega
  · left; omega
  · exact .inr ⟨by omega, klt_trans h1 h2⟩
theorem abv_irrefl (a : ByteArray) : abv a a = false := by
  rw [← Bool.not_eq_true, abv_iff, klt_irrefl]
  rintro (h | ⟨_, h⟩)
  · omega
  · cases h
theorem abv_total {a b : ByteArray} (h : a ≠ b) (h' : abv a b = false) : abv b a = true := by
  rw [← Bool.not_eq_true, abv_iff] at h'
  rw [abv_iff]
  by_cases he : rk a = rk b
  · refine .inr ⟨he.symm, klt_total h ?_⟩
    rw [← Bool.not_eq_true]
    exact fun h2 => h' (.inr ⟨he, h2⟩)
  · left
    have : ¬ rk b < rk a := fun h2 => h' (.inl h2)
    omega

/-! ## Trees -/
abbrev KV := ByteArray × ByteArray
inductive Tr where
  | nil : Tr
  | node (l : Tr) (k v : ByteArray) (r : Tr) : Tr
namespace Tr
def cnt : Tr → Nat
  | nil => 0
  | node l _ _ r => l.cnt + r.cnt + 1
def flat : Tr → List KV
  | nil => []
  | node l k v r => l.flat ++ (k, v) :: r.flat
def pre : Tr → List KV
  | nil => []
  | node l k v r => (k, v) :: (l.pre ++ r.pre)
def cut : Tr → ByteArray → Tr × Tr
  | nil, _ => (nil, nil)
  | node l k v r, q => if klt k q = true then (node l k v (r.cut q).1, (r.cut q).2) else ((l.cut q).1, node (l.cut q).2 k v r)
def join : Tr → Tr → Tr
  | nil, b => b
  | a, nil => a
  | node l k v r, node l' k' v' r' => if abv k k' = true then node l k v (join r (node l' k' v' r')) else node (join (node l k v r) l') k' v' r'
termination_by a b => a.cnt + b.cnt
decreasing_by all_goals simp [cnt]; omega
def heap : Tr → Prop
  | nil => True
  | node l k _ r => (∀ x ∈ l.flat, abv k x.1 = true) ∧ (∀ x ∈ r.flat, abv k x.1 = true) ∧ l.heap ∧ r.heap
end Tr
theorem flat_len : ∀ t : Tr, t.flat.length = t.cnt
  | .nil => rfl
  | .node l k v r => by simp only [Tr.flat, Tr.cnt, List.length_append, List.length_cons, flat_len l, flat_len r]; omega
theorem pre_len : ∀ t : Tr, t.pre.length = t.cnt
  | .nil => rfl
  | .node l k v r => by simp only [Tr.pre, Tr.cnt, List.length_append, List.length_cons, pre_len l, pre_len r]
theorem join_nil_l (b : Tr) : Tr.join .nil b = b := by unfold Tr.join; cases b <;> rfl
theorem join_nil_r (a : Tr) : Tr.join a .nil = a := by unfold Tr.join; cases a <;> rfl
theorem join_yes (l r l' r' : Tr) (k v k' v' : ByteArray) (h : abv k k' = true) : Tr.join (.node l k v r) (.node l' k' v' r') = .node l k v (Tr.join r (.node l' k' v' r')) := by
  rw [Tr.join, if_pos h]
theorem join_no (l r l' r' : Tr) (k v k' v' : ByteArray) (h : abv k k' = false) : Tr.join (.node l k v r) (.node l' k' v' r') = .node (Tr.join (.node l k v r) l') k' v' r' := by
  rw [Tr.join, if_neg (by simp [h])]
theorem join_flat : ∀ (n : Nat) (a b : Tr), a.cnt + b.cnt ≤ n → (Tr.join a b).flat = a.flat ++ b.flat
  | _, .nil, b, _ => by rw [join_nil_l]; rfl
  | _, .node l k v r, .nil, _ => by rw [join_nil_r]; simp [Tr.flat]
  | 0, .node l k v r, .node l' k' v' r', h => by simp [Tr.cnt] at h
  | n + 1, .node l k v r, .node l' k' v' r', h => by
    cases hk : abv k k'
    · rw [join_no _ _ _ _ _ _ _ _ hk, Tr.flat, join_flat n _ _ (by simp [Tr.cnt] at h ⊢; omega)]
      simp [Tr.flat]
    · rw [join_yes _ _ _ _ _ _ _ _ hk, Tr.flat, join_flat n _ _ (by simp [Tr.cnt] at h ⊢; omega)]
      simp [Tr.flat]
theorem flat_join (a b : Tr) : (Tr.join a b).flat = a.flat ++ b.flat := join_flat _ a b (Nat.le_refl _)
theorem cnt_join (a b : Tr) : (Tr.join a b).cnt = a.cnt + b.cnt := by
  rw [← flat_len, flat_join, List.length_append, flat_len, flat_len]

/-! ## Rising rows -/
def asc : List KV → Prop
  | [] => True
  | x :: l => (∀ y ∈ l, klt x.1 y.1 = true) ∧ asc l
theorem asc_app : ∀ {l m : List KV}, asc (l ++ m) ↔ asc l ∧ asc m ∧ ∀ x ∈ l, ∀ y ∈ m, klt x.1 y.1 = true
  | [], m => by simp [asc]
  | x :: l, m => by
    rw [List.cons_append]
    simp only [asc, asc_app (l := l) (m := m), List.mem_append, List.mem_cons]
    constructor
    · rintro ⟨h1, h2, h3, h4⟩
      exact ⟨⟨fun y hy => h1 y (.inl hy), h2⟩, h3, by
        rintro z (rfl | hz) y hy
        · exact h1 y (.inr hy)
        · exact h4 z hz y hy⟩
    · rintro ⟨⟨h1, h2⟩, h3, h4⟩
      exact ⟨by
        rintro y (hy | hy)
        · exact h1 y hy
        · exact h4 x (.inl rfl) y hy, h2, h3, fun z hz y hy => h4 z (.inr hz) y hy⟩
theorem asc_node {l r : List KV} {k v : ByteArray} : asc (l ++ (k, v) :: r) ↔ asc l ∧ asc r ∧ (∀ x ∈ l, klt x.1 k = true) ∧ (∀ y ∈ r, klt k y.1 = true) ∧ ∀ x ∈ l, ∀ y ∈ r, klt x.1 y.1 = true := by
  rw [asc_app]
  simp only [asc, List.mem_cons]
  constructor
  · rintro ⟨h1, ⟨h2, h3⟩, h4⟩
    exact ⟨h1, h3, fun x hx => h4 x hx _ (.inl rfl), h2, fun x hx y hy => h4 x hx y (.inr hy)⟩
  · rintro ⟨h1, h2, h3, h4, h5⟩
    exact ⟨h1, ⟨h4, h2⟩, by
      rintro x hx y (rfl | hy)
      · exact h3 x hx
      · exact h5 x hx y hy⟩
/-- The pairs below a key, and the others. -/
def lo (q : ByteArray) (l : List KV) : List KV := l.filter fun x => klt x.1 q
def hi (q : ByteArray) (l : List KV) : List KV := l.filter fun x => !klt x.1 q
theorem lo_app (q : ByteArray) (l m : List KV) : lo q (l ++ m) = lo q l ++ lo q m := List.filter_append ..
theorem hi_app (q : ByteArray) (l m : List KV) : hi q (l ++ m) = hi q l ++ hi q m := List.filter_append ..
theorem lo_all {q : ByteArray} {l : List KV} (h : ∀ x ∈ l, klt x.1 q = true) : lo q l = l := List.filter_eq_self.2 h
theorem hi_none {q : ByteArray} {l : List KV} (h : ∀ x ∈ l, klt x.1 q = true) : hi q l = [] := List.filter_eq_nil_iff.2 fun x hx => by simp [h x hx]
theorem lo_none {q : ByteArray} {l : List KV} (h : ∀ x ∈ l, klt x.1 q = false) : lo q l = [] := List.filter_eq_nil_iff.2 fun x hx => by simp [h x hx]
theorem hi_all {q : ByteArray} {l : List KV} (h : ∀ x ∈ l, klt x.1 q = false) : hi q l = l := List.filter_eq_self.2 fun x hx => by simp [h x hx]
theorem mem_lo {q : ByteArray} {l : List KV} {x : KV} : x ∈ lo q l ↔ x ∈ l ∧ klt x.1 q = true := List.mem_filter
theorem mem_hi {q : ByteArray} {l : List KV} {x : KV} : x ∈ hi q l ↔ x ∈ l ∧ klt x.1 q = false := by unfold hi; rw [List.mem_filter]; simp
theorem lo_hi : ∀ {q : ByteArray} {l : List KV}, asc l → lo q l ++ hi q l = l
  | q, [], _ => rfl
  | q, x :: l, h => by
    cases hx : klt x.1 q
    · have h1 : ∀ y ∈ l, klt y.1 q = false := fun y hy => by
        cases hy2 : klt y.1 q
        · rfl
        · have := klt_trans (h.1 y hy) hy2; rw [hx] at this; cases this
      rw [lo, hi, List.filter_cons_of_neg (by simp [hx]), List.filter_cons_of_pos (by simp [hx])]
      show lo q l ++ x :: hi q l = _
      rw [lo_none h1, hi_all h1]; rfl
    · rw [lo, hi, List.filter_cons_of_pos (by simpa using hx), List.filter_cons_of_neg (by simp [hx])]
      show x :: (lo q l ++ hi q l) = _
      rw [lo_hi h.2]
theorem asc_filter {p : KV → Bool} : ∀ {l : List KV}, asc l → asc (l.filter p)
  | [], _ => trivial
  | x :: l, h => by
    rw [List.filter_cons]
    split
    · exact ⟨fun y hy => h.1 y (List.mem_filter.1 hy).1, asc_filter h.2⟩
    · exact asc_filter h.2
theorem cut_flat : ∀ (t : Tr) (q : ByteArray), asc t.flat → (t.cut q).1.flat = lo q t.flat ∧ (t.cut q).2.flat = hi q t.flat
  | .nil, q, _ => ⟨rfl, rfl⟩
  | .node l k v r, q, h => by
    obtain ⟨h1, h2, h3, h4, h5⟩ := asc_node.1 h
    cases hk : klt k q
    · have hr : ∀ y ∈ (k, v) :: r.flat, klt y.1 q = false := by
        intro y hy
        rcases List.mem_cons.1 hy with rfl | hy
        · exact hk
        · cases hy2 : klt y.1 q
          · rfl
          · have := klt_trans (h4 y hy) hy2; rw [hk] at this; cases this
      simp only [Tr.cut, hk, Bool.false_eq_true, if_false, Tr.flat]
      rw [lo_app, hi_app, lo_none hr, hi_all hr, List.append_nil, (cut_flat l q h1).1, (cut_flat l q h1).2]
      exact ⟨rfl, rfl⟩
    · have hl : ∀ y ∈ l.flat, klt y.1 q = true := fun y hy => klt_trans (h3 y hy) hk
      simp only [Tr.cut, hk, if_true, Tr.flat]
      rw [lo_app, hi_app, lo_all hl, hi_none hl, (cut_flat r q h2).1, (cut_flat r q h2).2]
      unfold lo hi
      rw [List.filter_cons_of_pos (by simpa using hk), List.filter_cons_of_neg (by simp [hk])]
      exact ⟨rfl, rfl⟩
theorem cut_mem : ∀ (t : Tr) (q : ByteArray), (∀ x ∈ (t.cut q).1.flat, x ∈ t.flat) ∧ ∀ x ∈ (t.cut q).2.flat, x ∈ t.flat
  | .nil, q => ⟨fun _ h => h, fun _ h => h⟩
  | .node l k v r, q => by
    cases hk : klt k q
    · simp only [Tr.cut, hk, Bool.false_eq_true, if_false, Tr.flat, List.mem_append, List.mem_cons]
      exact ⟨fun x hx => .inl ((cut_mem l q).1 x hx), fun x hx => hx.imp ((cut_mem l q).2 x) id⟩
    · simp only [Tr.cut, hk, if_true, Tr.flat, List.mem_append, List.mem_cons]
      exact ⟨fun x hx => hx.imp id (fun h => h.imp id ((cut_mem r q).1 x)), fun x hx => .inr (.inr ((cut_mem r q).2 x hx))⟩
theorem cut_cnt : ∀ (t : Tr) (q : ByteArray), (t.cut q).1.cnt + (t.cut q).2.cnt = t.cnt
  | .nil, q => rfl
  | .node l k v r, q => by
    have h1 := cut_cnt l q
    have h2 := cut_cnt r q
    cases hk : klt k q
    · simp only [Tr.cut, hk, Bool.false_eq_true, if_false, Tr.cnt]; omega
    · simp only [Tr.cut, hk, if_true, Tr.cnt]; omega
theorem cut_heap : ∀ (t : Tr) (q : ByteArray), t.heap → (t.cut q).1.heap ∧ (t.cut q).2.heap
  | .nil, q, _ => ⟨trivial, trivial⟩
  | .node l k v r, q, h => by
    obtain ⟨h1, h2, h3, h4⟩ := h
    cases hk : klt k q
    · simp only [Tr.cut, hk, Bool.false_eq_true, if_false]
      exact ⟨(cut_heap l q h3).1, fun x hx => h1 x ((cut_mem l q).2 x hx), h2, (cut_heap l q h3).2, h4⟩
    · simp only [Tr.cut, hk, if_true]
      exact ⟨⟨h1, fun x hx => h2 x ((cut_mem r q).1 x hx), h3, (cut_heap r q h4).1⟩, (cut_heap r q h4).2⟩
theorem join_heap : ∀ (n : Nat) (a b : Tr), a.cnt + b.cnt ≤ n → a.heap → b.heap → (∀ x ∈ a.flat, ∀ y ∈ b.flat, x.1 ≠ y.1) → (Tr.join a b).heap
  | _, .nil, b, _, _, h, _ => by rw [join_nil_l]; exact h
  | _, .node l k v r, .nil, _, h, _, _ => by rw [join_nil_r]; exact h
  | 0, .node l k v r, .node l' k' v' r', h, _, _, _ => by simp [Tr.cnt] at h
  | n + 1, .node l k v r, .node l' k' v' r', h, ha, hb, hne => by
    obtain ⟨a1, a2, a3, a4⟩ := ha
    obtain ⟨b1, b2, b3, b4⟩ := hb
    have hkk : k ≠ k' := hne (k, v) (by simp [Tr.flat]) (k', v') (by simp [Tr.flat])
    cases hk : abv k k'
    · have hk' := abv_total hkk hk
      rw [join_no _ _ _ _ _ _ _ _ hk]
      refine ⟨fun x hx => ?_, b2, join_heap n _ _ (by simp [Tr.cnt] at h ⊢; omega) ⟨a1, a2, a3, a4⟩ b3 (fun x hx y hy => hne x hx y (by simp [Tr.flat, hy])), b4⟩
      rw [flat_join, Tr.flat] at hx
      simp only [List.mem_append, List.mem_cons] at hx
      rcases hx with (hx | rfl | hx) | hx
      · exact abv_trans hk' (a1 x hx)
      · exact hk'
      · exact abv_trans hk' (a2 x hx)
      · exact b1 x hx
    · rw [join_yes _ _ _ _ _ _ _ _ hk]
      refine ⟨a1, fun x hx => ?_, a3, join_heap n _ _ (by simp [Tr.cnt] at h ⊢; omega) a4 ⟨b1, b2, b3, b4⟩ (fun x hx y hy => hne x (by simp [Tr.flat, hx]) y hy)⟩
      rw [flat_join, Tr.flat] at hx
      simp only [List.mem_append, List.mem_cons] at hx
      rcases hx with hx | hx | rfl | hx
      · exact a2 x hx
      · exact abv_trans hk (b1 x hx)
      · exact hk
      · exact abv_trans hk (b2 x hx)
/-- A tree as it should be. -/
def good (t : Tr) : Prop := asc t.flat ∧ t.heap
theorem good_nil : good .nil := ⟨trivial, trivial⟩
theorem split_key : ∀ {l l' r r' : List KV} {k v k' v' : ByteArray}, l ++ (k, v) :: r = l' ++ (k', v') :: r' → k = k' → (∀ x ∈ l, x.1 ≠ k) → (∀ x ∈ l', x.1 ≠ k) → l = l' ∧ v = v' ∧ r = r'
  | [], [], r, r', k, v, k', v', h, _, _, _ => by
    simp only [List.nil_append, List.cons.injEq, Prod.mk.injEq] at h
    exact ⟨rfl, h.1.2, h.2⟩
  | [], x :: l', r, r', k, v, k', v', h, hk, _, h2 => by
    simp only [List.nil_append, List.cons_append, List.cons.injEq] at h
    exact absurd (by rw [← h.1]) (h2 x List.mem_cons_self)
  | x :: l, [], r, r', k, v, k', v', h, hk, h1, _ => by
    simp only [List.nil_append, List.cons_append, List.cons.injEq] at h
    exact absurd (by rw [h.1, hk]) (h1 x List.mem_cons_self)
  | x :: l, y :: l', r, r', k, v, k', v', h, hk, h1, h2 => by
    simp only [List.cons_append, List.cons.injEq] at h
    obtain ⟨e1, e2, e3⟩ := split_key h.2 hk (fun z hz => h1 z (List.mem_cons_of_mem _ hz)) (fun z hz => h2 z (List.mem_cons_of_mem _ hz))
    exact ⟨by rw [h.1, e1], e2, e3⟩
theorem tree_unique : ∀ (t u : Tr), asc t.flat → t.heap → u.heap → t.flat = u.flat → t = u
  | .nil, .nil, _, _, _, _ => rfl
  | .nil, .node l k v r, _, _, _, h => by simp [Tr.flat] at h
  | .node l k v r, .nil, _, _, _, h => by simp [Tr.flat] at h
  | .node l k v r, .node l' k' v' r', ha, h1, h2, h => by
    have ha' := ha
    rw [h] at ha'
    obtain ⟨p1, p2, p3, p4, _⟩ := asc_node.1 (show asc (l.flat ++ (k, v) :: r.flat) from ha)
    obtain ⟨q1, q2, q3, q4, _⟩ := asc_node.1 (show asc (l'.flat ++ (k', v') :: r'.flat) from ha')
    have hkk : k = k' := by
      apply Classical.byContradiction
      intro hne
      have m1 : (k, v) ∈ l'.flat ++ (k', v') :: r'.flat := by
        have : (k, v) ∈ (Tr.node l k v r).flat := by simp [Tr.flat]
        rw [h] at this; exact this
      have m2 : (k', v') ∈ l.flat ++ (k, v) :: r.flat := by
        have : (k', v') ∈ (Tr.node l' k' v' r').flat := by simp [Tr.flat]
        rw [← h] at this; exact this
      have a1 : abv k' k = true := by
        simp only [List.mem_append, List.mem_cons, Prod.mk.injEq] at m1
        rcases m1 with m | ⟨m, _⟩ | m
        · exact h2.1 _ m
        · exact absurd m hne
        · exact h2.2.1 _ m
      have a2 : abv k k' = true := by
        simp only [List.mem_append, List.mem_cons, Prod.mk.injEq] at m2
        rcases m2 with m | ⟨m, _⟩ | m
        · exact h1.1 _ m
        · exact absurd m.symm hne
        · exact h1.2.1 _ m
      have := abv_trans a1 a2
      rw [abv_irrefl] at this
      cases this
    obtain ⟨e1, e2, e3⟩ := split_key (show l.flat ++ (k, v) :: r.flat = l'.flat ++ (k', v') :: r'.flat from h) hkk (fun x hx => klt_ne (p3 x hx)) (fun x hx => by rw [hkk]; exact klt_ne (q3 x hx))
    rw [tree_unique l l' p1 h1.2.2.1 h2.2.2.1 e1, tree_unique r r' p2 h1.2.2.2 h2.2.2.2 e3, hkk, e2]
theorem good_unique {t u : Tr} (ht : good t) (hu : good u) (h : t.flat = u.flat) : t = u := tree_unique t u ht.1 ht.2 hu.2 h

/-! ## Put, Drop, Get -/
def gt (q : ByteArray) (l : List KV) : List KV := l.filter fun x => klt q x.1
theorem hi_zero (q : ByteArray) (l : List KV) : hi (q ++ kzero) l = gt q l := by
  unfold hi gt
  congr 1
  funext x
  rw [klt_zero, Bool.not_not]
def Tr.put (t : Tr) (k v : ByteArray) : Tr := Tr.join (Tr.join (t.cut k).1 (.node .nil k v .nil)) ((t.cut k).2.cut (k ++ kzero)).2
def Tr.rest (t : Tr) (k : ByteArray) : Tr := Tr.join (t.cut k).1 ((t.cut k).2.cut (k ++ kzero)).2
def getL (q : ByteArray) : List KV → Option ByteArray
  | [] => none
  | x :: l => if kbeq x.1 q = true then some x.2 else getL q l
def Tr.get (q : ByteArray) : Tr → Option ByteArray
  | .nil => none
  | .node l k v r => if kbeq q k = true then some v else if klt q k = true then l.get q else r.get q
def Tr.drop (t : Tr) (k : ByteArray) : Tr := if (t.get k).isSome then t.rest k else t
theorem getL_app (q : ByteArray) (l m : List KV) : getL q (l ++ m) = (getL q l).or (getL q m) := by
  induction l with
  | nil => rfl
  | cons x l ih =>
    rw [List.cons_append, getL, getL, ih]
    split <;> rfl
theorem getL_none {q : ByteArray} : ∀ {l : List KV}, (∀ x ∈ l, x.1 ≠ q) → getL q l = none
  | [], _ => rfl
  | x :: l, h => by
    rw [getL, if_neg (by rw [kbeq_iff]; exact h x List.mem_cons_self), getL_none fun y hy => h y (List.mem_cons_of_mem _ hy)]
theorem get_flat : ∀ (t : Tr) (q : ByteArray), asc t.flat → t.get q = getL q t.flat
  | .nil, q, _ => rfl
  | .node l k v r, q, h => by
    obtain ⟨h1, h2, h3, h4, h5⟩ := asc_node.1 (show asc (l.flat ++ (k, v) :: r.flat) from h)
    show _ = getL q (l.flat ++ (k, v) :: r.flat)
    rw [getL_app, getL, Tr.get]
    by_cases e : q = k
    · subst e
      rw [if_pos (kbeq_self q), if_pos (kbeq_self _), getL_none fun x hx => klt_ne (h3 x hx)]
      rfl
    · rw [if_neg (show ¬ kbeq q k = true by rw [kbeq_iff]; exact e), if_neg (show ¬ kbeq k q = true by rw [kbeq_iff]; exact fun e' => e e'.symm)]
      cases hk : klt q k
      · have hkq := klt_total e hk
        rw [if_neg (show ¬ false = true by simp), getL_none fun x hx => klt_ne (klt_trans (h3 x hx) hkq), get_flat r q h2]
        rfl
      · rw [if_pos rfl, get_flat l q h1, getL_none (l := r.flat) fun y hy => (klt_ne (klt_trans hk (h4 y hy))).symm]
        cases getL q l.flat <;> rfl
def putL (k v : ByteArray) (l : List KV) : List KV := lo k l ++ (k, v) :: gt k l
def restL (k : ByteArray) (l : List KV) : List KV := lo k l ++ gt k l
def dropL (k : ByteArray) (l : List KV) : List KV := if (getL k l).isSome then restL k l else l
theorem gt_hi {q : ByteArray} {l : List KV} : gt q (hi q l) = gt q l := by
  unfold gt hi
  rw [List.filter_filter]
  congr 1
  funext x
  cases h : klt q x.1
  · simp
  · simp [klt_asymm h]
theorem mem_gt {q : ByteArray} {l : List KV} {x : KV} : x ∈ gt q l ↔ x ∈ l ∧ klt q x.1 = true := List.mem_filter
theorem asc_putL {k v : ByteArray} {l : List KV} (h : asc l) : asc (putL k v l) := by
  refine asc_node.2 ⟨asc_filter h, asc_filter h, fun _ hx => (mem_lo.1 hx).2, fun _ hy => (mem_gt.1 hy).2, fun _ hx _ hy => klt_trans (mem_lo.1 hx).2 (mem_gt.1 hy).2⟩
theorem asc_restL {k : ByteArray} {l : List KV} (h : asc l) : asc (restL k l) :=
  asc_app.2 ⟨asc_filter h, asc_filter h, fun _ hx _ hy => klt_trans (mem_lo.1 hx).2 (mem_gt.1 hy).2⟩
theorem asc_dropL {k : ByteArray} {l : List KV} (h : asc l) : asc (dropL k l) := by
  unfold dropL
  split
  · exact asc_restL h
  · exact h
theorem put_flat (t : Tr) (k v : ByteArray) (h : asc t.flat) : (t.put k v).flat = putL k v t.flat := by
  have h1 := cut_flat t k h
  have h2 : asc (t.cut k).2.flat := by rw [h1.2]; exact asc_filter h
  rw [Tr.put, flat_join, flat_join, (cut_flat _ _ h2).2, h1.1, h1.2, hi_zero, gt_hi]
  simp [Tr.flat, putL]
theorem rest_flat (t : Tr) (k : ByteArray) (h : asc t.flat) : (t.rest k).flat = restL k t.flat := by
  have h1 := cut_flat t k h
  have h2 : asc (t.cut k).2.flat := by rw [h1.2]; exact asc_filter h
  rw [Tr.rest, flat_join, (cut_flat _ _ h2).2, h1.1, h1.2, hi_zero, gt_hi]
  rfl
theorem drop_flat (t : Tr) (k : ByteArray) (h : asc t.flat) : (t.drop k).flat = dropL k t.flat := by
  unfold Tr.drop dropL
  rw [get_flat t k h]
  split
  · exact rest_flat t k h
  · rfl
theorem good_put {t : Tr} (h : good t) (k v : ByteArray) : good (t.put k v) := by
  have h1 := cut_flat t k h.1
  have h2 : asc (t.cut k).2.flat := by rw [h1.2]; exact asc_filter h.1
  have h3 := (cut_flat _ (k ++ kzero) h2).2
  rw [h1.2, hi_zero, gt_hi] at h3
  refine ⟨by rw [put_flat t k v h.1]; exact asc_putL h.1, ?_⟩
  refine join_heap _ _ _ (Nat.le_refl _) (join_heap _ _ _ (Nat.le_refl _) (cut_heap t k h.2).1 ⟨(fun x hx => by simp [Tr.flat] at hx), (fun x hx => by simp [Tr.flat] at hx), trivial, trivial⟩ ?_) (cut_heap _ _ (cut_heap t k h.2).2).2 ?_
  · intro x hx y hy
    simp [Tr.flat] at hy
    subst hy
    rw [h1.1] at hx
    exact klt_ne (mem_lo.1 hx).2
  · intro x hx y hy
    rw [flat_join, h1.1] at hx
    rw [h3] at hy
    simp [Tr.flat] at hx
    rcases hx with hx | rfl
    · exact klt_ne (klt_trans (mem_lo.1 hx).2 (mem_gt.1 hy).2)
    · exact klt_ne (mem_gt.1 hy).2
theorem good_rest {t : Tr} (h : good t) (k : ByteArray) : good (t.rest k) := by
  have h1 := cut_flat t k h.1
  have h2 : asc (t.cut k).2.flat := by rw [h1.2]; exact asc_filter h.1
  have h3 := (cut_flat _ (k ++ kzero) h2).2
  rw [h1.2, hi_zero, gt_hi] at h3
  refine ⟨by rw [rest_flat t k h.1]; exact asc_restL h.1, ?_⟩
  refine join_heap _ _ _ (Nat.le_refl _) (cut_heap t k h.2).1 (cut_heap _ _ (cut_heap t k h.2).2).2 ?_
  intro x hx y hy
  rw [h1.1] at hx
  rw [h3] at hy
  exact klt_ne (klt_trans (mem_lo.1 hx).2 (mem_gt.1 hy).2)
theorem good_drop {t : Tr} (h : good t) (k : ByteArray) : good (t.drop k) := by
  unfold Tr.drop
  split
  · exact good_rest h k
  · exact h
theorem good_cut {t : Tr} (h : good t) (k : ByteArray) : good (t.cut k).1 ∧ good (t.cut k).2 := by
  have h1 := cut_flat t k h.1
  exact ⟨⟨by rw [h1.1]; exact asc_filter h.1, (cut_heap t k h.2).1⟩, ⟨by rw [h1.2]; exact asc_filter h.1, (cut_heap t k h.2).2⟩⟩
end Go.Proofs.Ytohcdnbchidjeaa
