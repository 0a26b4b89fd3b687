/-
  Paths, in plain Lean: names, parts, folders and bases, stems and endings, conflict copies; what a copy was made of.
-/
import Derived.Lib.Split
import Derived.Lib.LastIndexByte
import Derived.Lib.ItoaNum
import Derived.Lib.Atoi
import Derived.Lib.Strings
namespace Go.Proofs.YtndekohimfjdeaaDoor
abbrev Bl := List UInt8
def nameC (c : UInt8) : Bool := (decide (97 ≤ c.toNat) && decide (c.toNat ≤ 122)) || (decide (48 ≤ c.toNat) && decide (c.toNat ≤ 57)) || decide (c.toNat = 45) || decide (c.toNat = 95) || decide (c.toNat = 46)
def nameL (l : Bl) : Bool := decide (1 ≤ l.length) && decide (l.length ≤ 24) && !decide (l.head? = some 46) && l.all nameC
/-- The parts between the slashes. -/
def segs : Bl → List Bl
  | [] => [[]]
  | c :: l => if c = 47 then [] :: segs l else match segs l with
    | s :: r => (c :: s) :: r
    | [] => [[c]]
def prightL (l : Bl) : Bool := (segs l).all nameL && (decide ((segs l).length ≤ 4) && decide (l.length ≤ 64))
def checkL (l : Bl) : Nat := if 64 < l.length then 3 else if prightL l then 0 else 2
/-- Cut at the last c. -/
def cutL (c : UInt8) : Bl → Option (Bl × Bl)
  | [] => none
  | x :: l => match cutL c l with
    | some (a, b) => some (x :: a, b)
    | none => if x = c then some ([], l) else none
def folderL (l : Bl) : Bl := match cutL 47 l with
  | some (a, _) => a
  | none => []
def baseL (l : Bl) : Bl := match cutL 47 l with
  | some (_, b) => b
  | none => l
def stemB (b : Bl) : Bl := match cutL 46 b with
  | some (a, _) => a
  | none => b
def endB (b : Bl) : Bl := match cutL 46 b with
  | some (_, y) => 46 :: y
  | none => []
def dec (n : Nat) : Bl := Lib.decDigits n
def joinF (f b : Bl) : Bl := if f = [] then b else f ++ [47] ++ b
def markL (d n : Nat) : Bl := [46, 99] ++ dec d ++ [45] ++ dec n
def copyOut (l : Bl) (d n : Nat) : Bl := joinF (folderL l) (stemB (baseL l) ++ markL d n ++ endB (baseL l))
def copyL (l : Bl) (d n : Int) : Bl × Nat :=
  if checkL l ≠ 0 then ([], checkL l) else if d < 1 ∨ 99 < d ∨ n < 0 ∨ 999 < n then ([], 2)
  else if prightL (copyOut l d.toNat n.toNat) then (copyOut l d.toNat n.toNat, 0) else ([], 3)
def dig (c : UInt8) : Bool := decide (48 ≤ c.toNat) && decide (c.toNat ≤ 57)
def digitsL (l : Bl) : Nat := (l.reverse.takeWhile dig).length
/-- What a row of digits spells. -/
def numB (l : Bl) : Nat := l.foldl (fun a c => a * 10 + (c.toNat - 48)) 0
def markedL (s : Bl) : Option (Bl × Nat × Nat) :=
  let n := digitsL s
  let p := s.take (s.length - n)
  if ¬ [45] <:+ p then none else
  let r := p.take (p.length - 1)
  let m := digitsL r
  let q := r.take (r.length - m)
  if ¬ [46, 99] <:+ q then none else
  if n = 0 ∨ m = 0 ∨ 3 < n ∨ 2 < m then none else
  some (q.take (q.length - 2), numB (r.drop (r.length - m)), numB (s.drop (s.length - n)))
def tryL (l s y : Bl) : Option (Bl × Nat × Nat) := match markedL s with
  | none => none
  | some (q, d, n) => if (copyL (joinF (folderL l) (q ++ y)) d n).2 = 0 ∧ (copyL (joinF (folderL l) (q ++ y)) d n).1 = l then some (joinF (folderL l) (q ++ y), d, n) else none
def copiedL (l : Bl) : Option (Bl × Nat × Nat) := if checkL l ≠ 0 then none else match tryL l (stemB (baseL l)) (endB (baseL l)) with
  | some r => some r
  | none => tryL l (baseL l) []
def tempL (l : Bl) : Bl × Nat := if checkL l ≠ 0 then ([], checkL l) else ([46, 116, 109, 112, 47] ++ l, 0)
def tempedL (l : Bl) : Option Bl := if [46, 116, 109, 112, 47] <+: l ∧ checkL (l.drop 5) = 0 then some (l.drop 5) else none
def withinL (f s : Bl) : Bool := if checkL s ≠ 0 then false else decide (f = []) || (decide (checkL f = 0) && decide (f ++ [47] <+: s))
/-! ### Cuts -/
theorem cutL_none {c : UInt8} : ∀ {l : Bl}, cutL c l = none ↔ c ∉ l
  | [] => by simp [cutL]
  | x :: l => by
    unfold cutL
    cases h : cutL c l with
    | some p =>
      have := mt (cutL_none (c := c) (l := l)).2 (by rw [h]; simp)
      simp only [Classical.not_not] at this
      simp [this]
    | none =>
      have h2 := cutL_none.1 h
      by_cases e : x = c
      · subst e; simp
      · simp [e, h2, Ne.symm e]
theorem cutL_some {c : UInt8} : ∀ {l a b : Bl}, cutL c l = some (a, b) ↔ l = a ++ c :: b ∧ c ∉ b
  | [], a, b => by simp [cutL]
  | x :: l, a, b => by
    unfold cutL
    cases h : cutL c l with
    | some p =>
      obtain ⟨p1, p2⟩ := p
      obtain ⟨h1, h2⟩ := cutL_some.1 h
      simp only [Option.some.injEq, Prod.mk.injEq]
      constructor
      · rintro ⟨rfl, rfl⟩
        exact ⟨by rw [h1]; rfl, h2⟩
      · rintro ⟨e, hb⟩
        cases a with
        | nil =>
          simp only [List.nil_append, List.cons.injEq] at e
          exact absurd (by rw [← e.2, h1]; simp) hb
        | cons y a' =>
          simp only [List.cons_append, List.cons.injEq] at e
          have h3 := cutL_some.2 ⟨e.2, hb⟩
          rw [h] at h3
          injection h3 with h3
          injection h3 with h4 h5
          exact ⟨by rw [e.1, h4], h5⟩
    | none =>
      have h2 := cutL_none.1 h
      simp only
      by_cases e : x = c
      · subst e
        rw [if_pos rfl]
        simp only [Option.some.injEq, Prod.mk.injEq]
        constructor
        · rintro ⟨rfl, rfl⟩
          exact ⟨rfl, h2⟩
        · rintro ⟨e, hb⟩
          cases a with
          | nil =>
            simp only [List.nil_append, List.cons.injEq, true_and] at e
            exact ⟨rfl, e⟩
          | cons y a' =>
            simp only [List.cons_append, List.cons.injEq] at e
            exact absurd (by rw [e.2]; simp) h2
      · rw [if_neg e]
        constructor
        · intro h; cases h
        · rintro ⟨e2, hb⟩
          cases a with
          | nil =>
            simp only [List.nil_append, List.cons.injEq] at e2
            exact absurd e2.1 e
          | cons y a' =>
            simp only [List.cons_append, List.cons.injEq] at e2
            exact absurd (by rw [e2.2]; simp) h2
theorem cut_is {c : UInt8} {a b : Bl} (h : c ∉ b) : cutL c (a ++ c :: b) = some (a, b) := cutL_some.2 ⟨rfl, h⟩
theorem base_no (l : Bl) : (47 : UInt8) ∉ baseL l := by
  unfold baseL
  split
  · rename_i h; exact (cutL_some.1 h).2
  · rename_i h; exact cutL_none.1 h
/-- The folder and the base together. -/
theorem folder_base (l : Bl) : (47 ∈ l → l = folderL l ++ [47] ++ baseL l) ∧ (¬ 47 ∈ l → folderL l = [] ∧ baseL l = l) := by
  unfold folderL baseL
  cases h : cutL 47 l with
  | some p =>
    obtain ⟨a, b⟩ := p
    obtain ⟨h1, h2⟩ := cutL_some.1 h
    refine ⟨fun _ => by rw [h1]; simp, fun h3 => absurd (by rw [h1]; simp) h3⟩
  | none => exact ⟨fun h3 => absurd h3 (cutL_none.1 h), fun _ => ⟨rfl, rfl⟩⟩
theorem stem_end (b : Bl) : stemB b ++ endB b = b := by
  unfold stemB endB
  cases h : cutL 46 b with
  | some p => obtain ⟨h1, _⟩ := cutL_some.1 h; exact h1.symm
  | none => simp
theorem folder_of {f b : Bl} (h : (47 : UInt8) ∉ b) : folderL (f ++ [47] ++ b) = f ∧ baseL (f ++ [47] ++ b) = b := by
  unfold folderL baseL
  rw [List.append_assoc, List.singleton_append, cut_is h]
  exact ⟨rfl, rfl⟩
theorem base_of {b : Bl} (h : (47 : UInt8) ∉ b) : folderL b = [] ∧ baseL b = b := (folder_base b).2 h
theorem joinF_parts {f b : Bl} (h : (47 : UInt8) ∉ b) : folderL (joinF f b) = f ∧ baseL (joinF f b) = b := by
  unfold joinF
  split
  · rename_i e; subst e; exact base_of h
  · exact folder_of h
/-! ### Parts -/
theorem segs_ne : ∀ l : Bl, segs l ≠ []
  | [] => by simp [segs]
  | c :: l => by
    unfold segs
    split
    · simp
    · split <;> simp
theorem segs_one : ∀ {b : Bl}, (47 : UInt8) ∉ b → segs b = [b]
  | [], _ => rfl
  | c :: l, h => by
    simp only [List.mem_cons, not_or] at h
    unfold segs
    rw [if_neg (Ne.symm h.1), segs_one h.2]
theorem segs_app {b : Bl} (hb : (47 : UInt8) ∉ b) : ∀ (a : Bl), segs (a ++ 47 :: b) = segs a ++ [b]
  | [] => by
    rw [List.nil_append]
    unfold segs
    rw [if_pos rfl, segs_one hb]
    rfl
  | c :: a => by
    rw [List.cons_append]
    unfold segs
    rw [segs_app hb a]
    split
    · rfl
    · cases h : segs a with
      | nil => exact absurd h (segs_ne a)
      | cons s r => rfl
theorem segs_joinF {f b : Bl} (hb : (47 : UInt8) ∉ b) (hf : f ≠ []) : segs (joinF f b) = segs f ++ [b] := by
  unfold joinF
  rw [if_neg hf, List.append_assoc, List.singleton_append, segs_app hb]
theorem name_no47 {b : Bl} (h : nameL b = true) : (47 : UInt8) ∉ b := fun hm => by
  unfold nameL at h
  simp only [Bool.and_eq_true] at h
  have := List.all_eq_true.1 h.2 47 hm
  revert this
  decide
theorem name_len {b : Bl} (h : nameL b = true) : 1 ≤ b.length ∧ b.length ≤ 24 := by
  unfold nameL at h
  simp only [Bool.and_eq_true, decide_eq_true_eq] at h
  exact ⟨h.1.1.1, h.1.1.2⟩
theorem right_iff {l : Bl} : prightL l = true ↔ (∀ s ∈ segs l, nameL s = true) ∧ (segs l).length ≤ 4 ∧ l.length ≤ 64 := by
  unfold prightL
  simp only [Bool.and_eq_true, decide_eq_true_eq, List.all_eq_true]
theorem check_zero {l : Bl} : checkL l = 0 ↔ prightL l = true := by
  unfold checkL
  constructor
  · intro h
    split at h
    · cases h
    · split at h
      · assumption
      · cases h
  · intro h
    rw [if_neg (by have := (right_iff.1 h).2.2; omega), if_pos h]
theorem check_joinF {f b : Bl} (hb : (47 : UInt8) ∉ b) (hf : f ≠ []) : prightL (joinF f b) = true ↔ (∀ s ∈ segs f, nameL s = true) ∧ nameL b = true ∧ (segs f).length ≤ 3 ∧ (joinF f b).length ≤ 64 := by
  rw [right_iff, segs_joinF hb hf]
  constructor
  · rintro ⟨h1, h2, h3⟩
    refine ⟨fun s hs => h1 s (List.mem_append_left _ hs), h1 b (by simp), ?_, h3⟩
    rw [List.length_append, List.length_singleton] at h2
    omega
  · rintro ⟨h1, h2, h3, h4⟩
    refine ⟨fun s hs => ?_, by rw [List.length_append, List.length_singleton]; omega, h4⟩
    rcases List.mem_append.1 hs with hs | hs
    · exact h1 s hs
    · obtain rfl := List.mem_singleton.1 hs
      exact h2
theorem joinF_len {f b : Bl} (hf : f ≠ []) : (joinF f b).length = f.length + 1 + b.length := by
  unfold joinF
  rw [if_neg hf]
  simp
  omega
/-- A path, taken apart: its base is a name; its folder is none or a path. -/
theorem path_parts {l : Bl} (h : checkL l = 0) : nameL (baseL l) = true ∧ l = joinF (folderL l) (baseL l) ∧ (folderL l = [] ∨ (folderL l ≠ [] ∧ checkL (folderL l) = 0 ∧ (segs (folderL l)).length ≤ 3)) := by
  have hr := check_zero.1 h
  by_cases hm : 47 ∈ l
  · have e := (folder_base l).1 hm
    have hs : segs l = segs (folderL l) ++ [baseL l] := by
      exact (congrArg segs (e.trans (by simp))).trans (segs_app (base_no l) (folderL l))
    obtain ⟨h1, h2, h3⟩ := right_iff.1 hr
    rw [hs] at h1 h2
    rw [List.length_append, List.length_singleton] at h2
    have hf : folderL l ≠ [] := fun e2 => by
      have := name_len (h1 [] (by rw [e2]; simp [segs]))
      simp at this
    refine ⟨h1 _ (by simp), ?_, .inr ⟨hf, check_zero.2 (right_iff.2 ⟨fun s hs => h1 s (List.mem_append_left _ hs), by omega, ?_⟩), by omega⟩⟩
    · unfold joinF
      rw [if_neg hf]
      exact e
    · have := congrArg List.length e
      simp only [List.length_append, List.length_singleton] at this
      omega
  · obtain ⟨e1, e2⟩ := (folder_base l).2 hm
    refine ⟨?_, ?_, .inl e1⟩
    · rw [e2]
      exact (right_iff.1 hr).1 l (by rw [segs_one hm]; simp)
    · rw [e1, e2]
      rfl
/-! ### Digits -/
theorem dec_dig : ∀ (n : Nat), ∀ c ∈ dec n, dig c = true := by
  intro n
  induction n using Nat.strongRecOn with
  | _ n ih =>
    intro c hc
    unfold dec at hc
    rw [Lib.decDigits] at hc
    split at hc
    · obtain rfl := List.mem_singleton.1 hc
      rename_i h
      unfold dig
      have : (UInt8.ofNat (48 + n)).toNat = 48 + n := by rw [UInt8.toNat_ofNat']; omega
      rw [this, decide_eq_true (by omega), decide_eq_true (by omega)]
      rfl
    · rename_i h
      rcases List.mem_append.1 hc with hc | hc
      · exact ih (n / 10) (by omega) c hc
      · obtain rfl := List.mem_singleton.1 hc
        unfold dig
        have : (UInt8.ofNat (48 + n % 10)).toNat = 48 + n % 10 := by rw [UInt8.toNat_ofNat']; omega
        rw [this, decide_eq_true (by omega), decide_eq_true (by omega)]
        rfl
theorem dec_ne (n : Nat) : dec n ≠ [] := by
  unfold dec
  rw [Lib.decDigits]
  split <;> simp
theorem numB_app (l : Bl) (c : UInt8) : numB (l ++ [c]) = numB l * 10 + (c.toNat - 48) := by unfold numB; rw [List.foldl_append]; rfl
theorem numB_dec : ∀ n : Nat, numB (dec n) = n := by
  intro n
  induction n using Nat.strongRecOn with
  | _ n ih =>
    unfold dec
    rw [Lib.decDigits]
    split
    · rename_i h
      have : (UInt8.ofNat (48 + n)).toNat = 48 + n := by rw [UInt8.toNat_ofNat']; omega
      unfold numB
      simp only [List.foldl_cons, List.foldl_nil, this]
      omega
    · rename_i h
      have : (UInt8.ofNat (48 + n % 10)).toNat = 48 + n % 10 := by rw [UInt8.toNat_ofNat']; omega
      rw [numB_app, this]
      have := ih (n / 10) (by omega)
      unfold dec at this
      rw [this]
      omega
theorem dec_len {n k : Nat} (hk : 1 ≤ k) (h : n < 10 ^ k) : (dec n).length ≤ k := by
  induction k generalizing n with
  | zero => omega
  | succ k ih =>
    unfold dec
    rw [Lib.decDigits]
    split
    · simp
    · rename_i h10
      rcases Nat.eq_zero_or_pos k with e | e
      · subst e
        simp at h
        omega
      · have := ih (n := n / 10) e (by rw [Nat.pow_succ] at h; omega)
        unfold dec at this
        rw [List.length_append, List.length_singleton]
        omega
theorem tw_rev {p : UInt8 → Bool} {x d : Bl} {c : UInt8} (hd : ∀ y ∈ d, p y = true) (hc : p c = false) : ((x ++ c :: d).reverse.takeWhile p).length = d.length := by
  have e : (x ++ c :: d).reverse = d.reverse ++ c :: x.reverse := by simp
  rw [e, List.takeWhile_append_of_pos (by intro y hy; exact hd y (List.mem_reverse.1 hy)), List.takeWhile_cons, if_neg (by rw [hc]; simp)]
  simp
theorem digitsL_of {x d : Bl} {c : UInt8} (hd : ∀ y ∈ d, dig y = true) (hc : dig c = false) : digitsL (x ++ c :: d) = d.length := tw_rev hd hc
theorem take_pre {a b : Bl} : (a ++ b).take ((a ++ b).length - b.length) = a := by
  rw [List.length_append, Nat.add_sub_cancel, List.take_left]
theorem drop_pre {a b : Bl} : (a ++ b).drop ((a ++ b).length - b.length) = b := by
  rw [List.length_append, Nat.add_sub_cancel, List.drop_left]
/-- A mark at the end of a stem is found again. -/
theorem marked_of (x : Bl) {d n : Nat} (hd : d ≤ 99) (hn : n ≤ 999) : markedL (x ++ markL d n) = some (x, d, n) := by
  have e1 : x ++ markL d n = (x ++ [46, 99] ++ dec d) ++ 45 :: dec n := by simp [markL]
  have k1 : digitsL (x ++ markL d n) = (dec n).length := by rw [e1]; exact digitsL_of (dec_dig n) (by decide)
  have e2 : x ++ markL d n = (x ++ [46, 99] ++ dec d ++ [45]) ++ dec n := by simp [markL]
  have e3 : x ++ [46, 99] ++ dec d = (x ++ [46]) ++ 99 :: dec d := by simp
  have k2 : digitsL (x ++ [46, 99] ++ dec d) = (dec d).length := by rw [e3]; exact digitsL_of (dec_dig d) (by decide)
  have l1 := dec_len (n := n) (k := 3) (by decide) (by omega)
  have l2 := dec_len (n := d) (k := 2) (by decide) (by omega)
  have n1 : (dec n).length ≠ 0 := fun h => dec_ne n (List.length_eq_zero_iff.1 h)
  have n2 : (dec d).length ≠ 0 := fun h => dec_ne d (List.length_eq_zero_iff.1 h)
  unfold markedL
  simp only [k1]
  rw [show (x ++ markL d n).take ((x ++ markL d n).length - (dec n).length) = x ++ [46, 99] ++ dec d ++ [45] by rw [e2]; exact take_pre, show (x ++ markL d n).drop ((x ++ markL d n).length - (dec n).length) = dec n by rw [e2]; exact drop_pre]
  have t1 : (x ++ [46, 99] ++ dec d ++ [45]).take ((x ++ [46, 99] ++ dec d ++ [45]).length - 1) = x ++ [46, 99] ++ dec d := take_pre (b := [45])
  have t2 : (x ++ [46, 99] ++ dec d).take ((x ++ [46, 99] ++ dec d).length - (dec d).length) = x ++ [46, 99] := take_pre
  have t3 : (x ++ [46, 99] ++ dec d).drop ((x ++ [46, 99] ++ dec d).length - (dec d).length) = dec d := drop_pre
  have t4 : (x ++ [46, 99]).take ((x ++ [46, 99]).length - 2) = x := take_pre (b := [46, 99])
  rw [if_neg (Classical.not_not.2 (List.suffix_append _ _)), t1, k2, t2, t3, if_neg (Classical.not_not.2 (List.suffix_append _ _)), if_neg (by omega), t4, numB_dec, numB_dec]
/-- What has no point has no mark. -/
theorem marked_point {s : Bl} (h : (46 : UInt8) ∉ s) : markedL s = none := by
  unfold markedL
  simp only
  split
  · rfl
  · split
    · rfl
    · rename_i h1 h2
      exfalso
      simp only [Classical.not_not] at h2
      have h3 := h2.subset (show (46 : UInt8) ∈ [46, 99] by simp)
      exact h (List.mem_of_mem_take (List.mem_of_mem_take (List.mem_of_mem_take h3)))
end Go.Proofs.YtndekohimfjdeaaDoor
