/-
  Paths, in plain Lean: names, parts, folders and bases, stems and endings, conflict copies; what a copy was made of.
  Paths, in plain Lean: what was copied is recovered; temporary files; what is within a folder.
  Paths: strings and lists of bytes; Name, digits.
  Paths: the environment that the library reads; right, Check, split, ending, and the functions over them.
  Paths: ending, Split, Ending, Within, Temp, Temped.
  Paths: digits, marked.
  Paths: marked.
  Paths: Copy.
  Rows of slots: elements of K cells each: loads, stores, the tail cleared; an own row cut at its head.
  Paths: Copied.
  Paths, the reference: rows of texts that a call owns; the last of a byte; names.
  Paths, the reference: Name.
  Paths, the reference: names, Check.
  A cell of an object laid last.
  A region that draws its order, walked along a tree of orders: as XText, but where two operations that may change the world can come up, both ways are walked.
  Blocks: lists of digests; whether a list may be; where a block goes.
-/
import Derived.Test.YtndekohimfjdeaaDoorJ1
import Derived.Lib.Split
import Derived.Lib.LastIndexByte
import Derived.Lib.ItoaNum
import Derived.Lib.Atoi
import Derived.Lib.Strings
import Derived.Test.YtndekohimfjdeaaDoorShelf
import Derived.Test.YtndekohimfjdeaaDoorChecked
import Derived.Lib.Hide
import Derived.Lib.LaidTab
import Derived.OpenShut
import Derived.WalkSmall
import Derived.Handy
import Derived.Deep.QuietTactic
import Derived.BigQuiet
import Derived.Lib.AtoiErrMem
import Derived.Laws.CopyRow
import Derived.Laws.Rows
import Derived.Shelf.Abstract
import Derived.Deep.Cut
namespace Go.Proofs.YtndekohimfjdeaaDoor
abbrev Bl := List UInt8
def nameC (c : UInt8) : Bool := (decide (97 ≤ c.toNat) && decide (c.toNat ≤ 122)) || (decide (48 ≤ c.toNat) && decide (c.toNat ≤ 57)) || decide (c.toNat = 45) || decide (c.toNat = 95) || decide (c.toNat = 46)
def nameL (l : Bl) : Bool := decide (1 ≤ l.length) && decide (l.length ≤ 24) && !decide (l.head? = some 46) && l.all nameC
/-- The parts between the slashes. -/
def segs : Bl → List Bl
  | [] => [[]]
  | c :: l => if c = 47 then [] :: segs l else match segs l with
    | s :: r => (c :: s) :: r
    | [] => [[c]]
def prightL (l : Bl) : Bool := (segs l).all nameL && (decide ((segs l).length ≤ 4) && decide (l.length ≤ 64))
def checkL (l : Bl) : Nat := if 64 < l.length then 3 else if prightL l then 0 else 2
/-- Cut at the last c. -/
def cutL (c : UInt8) : Bl → Option (Bl × Bl)
  | [] => none
  | x :: l => match cutL c l with
    | some (a, b) => some (x :: a, b)
    | none => if x = c then some ([], l) else none
def folderL (l : Bl) : Bl := match cutL 47 l with
  | some (a, _) => a
  | none => []
def baseL (l : Bl) : Bl := match cutL 47 l with
  | some (_, b) => b
  | none => l
def stemB (b : Bl) : Bl := match cutL 46 b with
  | some (a, _) => a
  | none => b
def endB (b : Bl) : Bl := match cutL 46 b with
  | some (_, y) => 46 :: y
  | none => []
def dec (n : Nat) : Bl := Lib.decDigits n
def joinF (f b : Bl) : Bl := if f = [] then b else f ++ [47] ++ b
def markL (d n : Nat) : Bl := [46, 99] ++ dec d ++ [45] ++ dec n
def copyOut (l : Bl) (d n : Nat) : Bl := joinF (folderL l) (stemB (baseL l) ++ markL d n ++ endB (baseL l))
def copyL (l : Bl) (d n : Int) : Bl × Nat :=
  if checkL l ≠ 0 then ([], checkL l) else if d < 1 ∨ 99 < d ∨ n < 0 ∨ 999 < n then ([], 2)
  else if prightL (copyOut l d.toNat n.toNat) then (copyOut l d.toNat n.toNat, 0) else ([], 3)
def dig (c : UInt8) : Bool := decide (48 ≤ c.toNat) && decide (c.toNat ≤ 57)
def digitsL (l : Bl) : Nat := (l.reverse.takeWhile dig).length
/-- What a row of digits spells. -/
def numB (l : Bl) : Nat := l.foldl (fun a c => a * 10 + (c.toNat - 48)) 0
def markedL (s : Bl) : Option (Bl × Nat × Nat) :=
  let n := digitsL s
  let p := s.take (s.length - n)
  if ¬ [45] <:+ p then none else
  let r := p.take (p.length - 1)
  let m := digitsL r
  let q := r.take (r.length - m)
  if ¬ [46, 99] <:+ q then none else
  if n = 0 ∨ m = 0 ∨ 3 < n ∨ 2 < m then none else
  some (q.take (q.length - 2), numB (r.drop (r.length - m)), numB (s.drop (s.length - n)))
def tryL (l s y : Bl) : Option (Bl × Nat × Nat) := match markedL s with
  | none => none
  | some (q, d, n) => if (copyL (joinF (folderL l) (q ++ y)) d n).2 = 0 ∧ (copyL (joinF (folderL l) (q ++ y)) d n).1 = l then some (joinF (folderL l) (q ++ y), d, n) else none
def copiedL (l : Bl) : Option (Bl × Nat × Nat) := if checkL l ≠ 0 then none else match tryL l (stemB (baseL l)) (endB (baseL l)) with
  | some r => some r
  | none => tryL l (baseL l) []
def tempL (l : Bl) : Bl × Nat := if checkL l ≠ 0 then ([], checkL l) else ([46, 116, 109, 112, 47] ++ l, 0)
def tempedL (l : Bl) : Option Bl := if [46, 116, 109, 112, 47] <+: l ∧ checkL (l.drop 5) = 0 then some (l.drop 5) else none
def withinL (f s : Bl) : Bool := if checkL s ≠ 0 then false else decide (f = []) || (decide (checkL f = 0) && decide (f ++ [47] <+: s))
/-! ### Cuts -/
theorem cutL_none {c : UInt8} : ∀ {l : Bl}, cutL c l = none ↔ c ∉ l
  | [] => by simp [cutL]
  | x :: l => by
    unfold cutL
    cases h : cutL c l with
    | some p =>
      have := mt (cutL_none (c := c) (l := l)).2 (by rw [h]; simp)
      simp only [Classical.not_not] at this
      simp [this]
    | none =>
      have h2 := cutL_none.1 h
      by_cases e : x = c
      · subst e; simp
      · simp [e, h2, Ne.symm e]
theorem cutL_some {c : UInt8} : ∀ {l a b : Bl}, cutL c l = some (a, b) ↔ l = a ++ c :: b ∧ c ∉ b
  | [], a, b => by simp [cutL]
  | x :: l, a, b => by
    unfold cutL
    cases h : cutL c l with
    | some p =>
      obtain ⟨p1, p2⟩ := p
      obtain ⟨h1, h2⟩ := cutL_some.1 h
      simp only [Option.some.injEq, Prod.mk.injEq]
      constructor
      · rintro ⟨rfl, rfl⟩
        exact ⟨by rw [h1]; rfl, h2⟩
      · rintro ⟨e, hb⟩
        cases a with
        | nil =>
          simp only [List.nil_append, List.cons.injEq] at e
          exact absurd (by rw [← e.2, h1]; simp) hb
        | cons y a' =>
          simp only [List.cons_append, List.cons.injEq] at e
          have h3 := cutL_some.2 ⟨e.2, hb⟩
          rw [h] at h3
          injection h3 with h3
          injection h3 with h4 h5
          exact ⟨by rw [e.1, h4], h5⟩
    | none =>
      have h2 := cutL_none.1 h
      simp only
      by_cases e : x = c
      · subst e
        rw [if_pos rfl]
        simp only [Option.some.injEq, Prod.mk.injEq]
        constructor
        · rintro ⟨rfl, rfl⟩
          exact ⟨rfl, h2⟩
        · rintro ⟨e, hb⟩
          cases a with
          | nil =>
            simp only [List.nil_append, List.cons.injEq, true_and] at e
            exact ⟨rfl, e⟩
          | cons y a' =>
            simp only [List.cons_append, List.cons.injEq] at e
            exact absurd (by rw [e.2]; simp) h2
      · rw [if_neg e]
        constructor
        · intro h; cases h
        · rintro ⟨e2, hb⟩
          cases a with
          | nil =>
            simp only [List.nil_append, List.cons.injEq] at e2
            exact absurd e2.1 e
          | cons y a' =>
            simp only [List.cons_append, List.cons.injEq] at e2
            exact absurd (by rw [e2.2]; simp) h2
theorem cut_is {c : UInt8} {a b : Bl} (h : c ∉ b) : cutL c (a ++ c :: b) = some (a, b) := cutL_some.2 ⟨rfl, h⟩
theorem base_no (l : Bl) : (47 : UInt8) ∉ baseL l := by
  unfold baseL
  split
  · rename_i h; exact (cutL_some.1 h).2
  · rename_i h; exact cutL_none.1 h
/-- The folder and the base together. -/
theorem folder_base (l : Bl) : (47 ∈ l → l = folderL l ++ [47] ++ baseL l) ∧ (¬ 47 ∈ l → folderL l = [] ∧ baseL l = l) := by
  unfold folderL baseL
  cases h : cutL 47 l with
  | some p =>
    obtain ⟨a, b⟩ := p
    obtain ⟨h1, h2⟩ := cutL_some.1 h
    refine ⟨fun _ => by rw [h1]; simp, fun h3 => absurd (by rw [h1]; simp) h3⟩
  | none => exact ⟨fun h3 => absurd h3 (cutL_none.1 h), fun _ => ⟨rfl, rfl⟩⟩
theorem stem_end (b : Bl) : stemB b ++ endB b = b := by
  unfold stemB endB
  cases h : cutL 46 b with
  | some p => obtain ⟨h1, _⟩ := cutL_some.1 h; exact h1.symm
  | none => simp
theorem folder_of {f b : Bl} (h : (47 : UInt8) ∉ b) : folderL (f ++ [47] ++ b) = f ∧ baseL (f ++ [47] ++ b) = b := by
  unfold folderL baseL
  rw [List.append_assoc, List.singleton_append, cut_is h]
  exact ⟨rfl, rfl⟩
theorem base_of {b : Bl} (h : (47 : UInt8) ∉ b) : folderL b = [] ∧ baseL b = b := (folder_base b).2 h
theorem joinF_parts {f b : Bl} (h : (47 : UInt8) ∉ b) : folderL (joinF f b) = f ∧ baseL (joinF f b) = b := by
  unfold joinF
  split
  · rename_i e; subst e; exact base_of h
  · exact folder_of h
/-! ### Parts -/
theorem segs_ne : ∀ l : Bl, segs l ≠ []
  | [] => by simp [segs]
  | c :: l => by
    unfold segs
    split
    · simp
    · split <;> simp
theorem segs_one : ∀ {b : Bl}, (47 : UInt8) ∉ b → segs b = [b]
  | [], _ => rfl
  | c :: l, h => by
    simp only [List.mem_cons, not_or] at h
    unfold segs
    rw [if_neg (Ne.symm h.1), segs_one h.2]
theorem segs_app {b : Bl} (hb : (47 : UInt8) ∉ b) : ∀ (a : Bl), segs (a ++ 47 :: b) = segs a ++ [b]
  | [] => by
    rw [List.nil_append]
    unfold segs
    rw [if_pos rfl, segs_one hb]
    rfl
  | c :: a => by
    rw [List.cons_append]
    unfold segs
    rw [segs_app hb a]
    split
    · rfl
    · cases h : segs a with
      | nil => exact absurd h (segs_ne a)
      | cons s r => rfl
theorem segs_joinF {f b : Bl} (hb : (47 : UInt8) ∉ b) (hf : f ≠ []) : segs (joinF f b) = segs f ++ [b] := by
  unfold joinF
  rw [if_neg hf, List.append_assoc, List.singleton_append, segs_app hb]
theorem name_no47 {b : Bl} (h : nameL b = true) : (47 : UInt8) ∉ b := fun hm => by
  unfold nameL at h
  simp only [Bool.and_eq_true] at h
  have := List.all_eq_true.1 h.2 47 hm
  revert this
  decide
theorem name_len {b : Bl} (h : nameL b = true) : 1 ≤ b.length ∧ b.length ≤ 24 := by
  unfold nameL at h
  simp only [Bool.and_eq_true, decide_eq_true_eq] at h
  exact ⟨h.1.1.1, h.1.1.2⟩
theorem right_iff {l : Bl} : prightL l = true ↔ (∀ s ∈ segs l, nameL s = true) ∧ (segs l).length ≤ 4 ∧ l.length ≤ 64 := by
  unfold prightL
  simp only [Bool.and_eq_true, decide_eq_true_eq, List.all_eq_true]
theorem check_zero {l : Bl} : checkL l = 0 ↔ prightL l = true := by
  unfold checkL
  constructor
  · intro h
    split at h
    · cases h
    · split at h
      · assumption
      · cases h
  · intro h
    rw [if_neg (by have := (right_iff.1 h).2.2; omega), if_pos h]
theorem check_joinF {f b : Bl} (hb : (47 : UInt8) ∉ b) (hf : f ≠ []) : prightL (joinF f b) = true ↔ (∀ s ∈ segs f, nameL s = true) ∧ nameL b = true ∧ (segs f).length ≤ 3 ∧ (joinF f b).length ≤ 64 := by
  rw [right_iff, segs_joinF hb hf]
  constructor
  · rintro ⟨h1, h2, h3⟩
    refine ⟨fun s hs => h1 s (List.mem_append_left _ hs), h1 b (by simp), ?_, h3⟩
    rw [List.length_append, List.length_singleton] at h2
    omega
  · rintro ⟨h1, h2, h3, h4⟩
    refine ⟨fun s hs => ?_, by rw [List.length_append, List.length_singleton]; omega, h4⟩
    rcases List.mem_append.1 hs with hs | hs
    · exact h1 s hs
    · obtain rfl := List.mem_singleton.1 hs
      exact h2
theorem joinF_len {f b : Bl} (hf : f ≠ []) : (joinF f b).length = f.length + 1 + b.length := by
  unfold joinF
  rw [if_neg hf]
  simp
  omega
/-- A path, taken apart: its base is a name; its folder is none or a path. -/
theorem path_parts {l : Bl} (h : checkL l = 0) : nameL (baseL l) = true ∧ l = joinF (folderL l) (baseL l) ∧ (folderL l = [] ∨ (folderL l ≠ [] ∧ checkL (folderL l) = 0 ∧ (segs (folderL l)).length ≤ 3)) := by
  have hr := check_zero.1 h
  by_cases hm : 47 ∈ l
  · have e := (folder_base l).1 hm
    have hs : segs l = segs (folderL l) ++ [baseL l] := by
      exact (congrArg segs (e.trans (by simp))).trans (segs_app (base_no l) (folderL l))
    obtain ⟨h1, h2, h3⟩ := right_iff.1 hr
    rw [hs] at h1 h2
    rw [List.length_append, List.length_singleton] at h2
    have hf : folderL l ≠ [] := fun e2 => by
      have := name_len (h1 [] (by rw [e2]; simp [segs]))
      simp at this
    refine ⟨h1 _ (by simp), ?_, .inr ⟨hf, check_zero.2 (right_iff.2 ⟨fun s hs => h1 s (List.mem_append_left _ hs), by omega, ?_⟩), by omega⟩⟩
    · unfold joinF
      rw [if_neg hf]
      exact e
    · have := congrArg List.length e
      simp only [List.length_append, List.length_singleton] at this
      omega
  · obtain ⟨e1, e2⟩ := (folder_base l).2 hm
    refine ⟨?_, ?_, .inl e1⟩
    · rw [e2]
      exact (right_iff.1 hr).1 l (by rw [segs_one hm]; simp)
    · rw [e1, e2]
      rfl
/-! ### Digits -/
theorem dec_dig : ∀ (n : Nat), ∀ c ∈ dec n, dig c = true := by
  intro n
  induction n using Nat.strongRecOn with
  | _ n ih =>
    intro c hc
    unfold dec at hc
    rw [Lib.decDigits] at hc
    split at hc
    · obtain rfl := List.mem_singleton.1 hc
      rename_i h
      unfold dig
      have : (UInt8.ofNat (48 + n)).toNat = 48 + n := by rw [UInt8.toNat_ofNat']; omega
      rw [this, decide_eq_true (by omega), decide_eq_true (by omega)]
      rfl
    · rename_i h
      rcases List.mem_append.1 hc with hc | hc
      · exact ih (n / 10) (by omega) c hc
      · obtain rfl := List.mem_singleton.1 hc
        unfold dig
        have : (UInt8.ofNat (48 + n % 10)).toNat = 48 + n % 10 := by rw [UInt8.toNat_ofNat']; omega
        rw [this, decide_eq_true (by omega), decide_eq_true (by omega)]
        rfl
theorem dec_ne (n : Nat) : dec n ≠ [] := by
  unfold dec
  rw [Lib.decDigits]
  split <;> simp
theorem numB_app (l : Bl) (c : UInt8) : numB (l ++ [c]) = numB l * 10 + (c.toNat - 48) := by unfold numB; rw [List.foldl_append]; rfl
theorem numB_dec : ∀ n : Nat, numB (dec n) = n := by
  intro n
  induction n using Nat.strongRecOn with
  | _ n ih =>
    unfold dec
    rw [Lib.decDigits]
    split
    · rename_i h
      have : (UInt8.ofNat (48 + n)).toNat = 48 + n := by rw [UInt8.toNat_ofNat']; omega
      unfold numB
      simp only [List.foldl_cons, List.foldl_nil, this]
      omega
    · rename_i h
      have : (UInt8.ofNat (48 + n % 10)).toNat = 48 + n % 10 := by rw [UInt8.toNat_ofNat']; omega
      rw [numB_app, this]
      have := ih (n / 10) (by omega)
      unfold dec at this
      rw [this]
      omega
theorem dec_len {n k : Nat} (hk : 1 ≤ k) (h : n < 10 ^ k) : (dec n).length ≤ k := by
  induction k generalizing n with
  | zero => omega
  | succ k ih =>
    unfold dec
    rw [Lib.decDigits]
    split
    · simp
    · rename_i h10
      rcases Nat.eq_zero_or_pos k with e | e
      · subst e
        simp at h
        omega
      · have := ih (n := n / 10) e (by rw [Nat.pow_succ] at h; omega)
        unfold dec at this
        rw [List.length_append, List.length_singleton]
        omega
theorem tw_rev {p : UInt8 → Bool} {x d : Bl} {c : UInt8} (hd : ∀ y ∈ d, p y = true) (hc : p c = false) : ((x ++ c :: d).reverse.takeWhile p).length = d.length := by
  have e : (x ++ c :: d).reverse = d.reverse ++ c :: x.reverse := by simp
  rw [e, List.takeWhile_append_of_pos (by intro y hy; exact hd y (List.mem_reverse.1 hy)), List.takeWhile_cons, if_neg (by rw [hc]; simp)]
  simp
theorem digitsL_of {x d : Bl} {c : UInt8} (hd : ∀ y ∈ d, dig y = true) (hc : dig c = false) : digitsL (x ++ c :: d) = d.length := tw_rev hd hc
theorem take_pre {a b : Bl} : (a ++ b).take ((a ++ b).length - b.length) = a := by
  rw [List.length_append, Nat.add_sub_cancel, List.take_left]
theorem drop_pre {a b : Bl} : (a ++ b).drop ((a ++ b).length - b.length) = b := by
  rw [List.length_append, Nat.add_sub_cancel, List.drop_left]
/-- A mark at the end of a stem is found again. -/
theorem marked_of (x : Bl) {d n : Nat} (hd : d ≤ 99) (hn : n ≤ 999) : markedL (x ++ markL d n) = some (x, d, n) := by
  have e1 : x ++ markL d n = (x ++ [46, 99] ++ dec d) ++ 45 :: dec n := by simp [markL]
  have k1 : digitsL (x ++ markL d n) = (dec n).length := by rw [e1]; exact digitsL_of (dec_dig n) (by decide)
  have e2 : x ++ markL d n = (x ++ [46, 99] ++ dec d ++ [45]) ++ dec n := by simp [markL]
  have e3 : x ++ [46, 99] ++ dec d = (x ++ [46]) ++ 99 :: dec d := by simp
  have k2 : digitsL (x ++ [46, 99] ++ dec d) = (dec d).length := by rw [e3]; exact digitsL_of (dec_dig d) (by decide)
  have l1 := dec_len (n := n) (k := 3) (by decide) (by omega)
  have l2 := dec_len (n := d) (k := 2) (by decide) (by omega)
  have n1 : (dec n).length ≠ 0 := fun h => dec_ne n (List.length_eq_zero_iff.1 h)
  have n2 : (dec d).length ≠ 0 := fun h => dec_ne d (List.length_eq_zero_iff.1 h)
  unfold markedL
  simp only [k1]
  rw [show (x ++ markL d n).take ((x ++ markL d n).length - (dec n).length) = x ++ [46, 99] ++ dec d ++ [45] by rw [e2]; exact take_pre, show (x ++ markL d n).drop ((x ++ markL d n).length - (dec n).length) = dec n by rw [e2]; exact drop_pre]
  have t1 : (x ++ [46, 99] ++ dec d ++ [45]).take ((x ++ [46, 99] ++ dec d ++ [45]).length - 1) = x ++ [46, 99] ++ dec d := take_pre (b := [45])
  have t2 : (x ++ [46, 99] ++ dec d).take ((x ++ [46, 99] ++ dec d).length - (dec d).length) = x ++ [46, 99] := take_pre
  have t3 : (x ++ [46, 99] ++ dec d).drop ((x ++ [46, 99] ++ dec d).length - (dec d).length) = dec d := drop_pre
  have t4 : (x ++ [46, 99]).take ((x ++ [46, 99]).length - 2) = x := take_pre (b := [46, 99])
  rw [if_neg (Classical.not_not.2 (List.suffix_append _ _)), t1, k2, t2, t3, if_neg (Classical.not_not.2 (List.suffix_append _ _)), if_neg (by omega), t4, numB_dec, numB_dec]
/-- What has no point has no mark. -/
theorem marked_point {s : Bl} (h : (46 : UInt8) ∉ s) : markedL s = none := by
  unfold markedL
  simp only
  split
  · rfl
  · split
    · rfl
    · rename_i h1 h2
      exfalso
      simp only [Classical.not_not] at h2
      have h3 := h2.subset (show (46 : UInt8) ∈ [46, 99] by simp)
      exact h (List.mem_of_mem_take (List.mem_of_mem_take (List.mem_of_mem_take h3)))
end Go.Proofs.YtndekohimfjdeaaDoor

namespace Go.Proofs.YtndekohimfjdeaaDoor
theorem dig_range {c : UInt8} (h : dig c = true) : 48 ≤ c.toNat ∧ c.toNat ≤ 57 := by
  unfold dig at h
  simp only [Bool.and_eq_true, decide_eq_true_eq] at h
  exact h
theorem dec_no {c : UInt8} (hc : dig c = false) (n : Nat) : c ∉ dec n := fun h => by rw [dec_dig n c h] at hc; cases hc
theorem mark_no47 (d n : Nat) : (47 : UInt8) ∉ markL d n := by
  unfold markL
  simp only [List.mem_append, not_or]
  exact ⟨⟨⟨by decide, dec_no (by decide) d⟩, by decide⟩, dec_no (by decide) n⟩
theorem stem_no47 {b : Bl} (h : (47 : UInt8) ∉ b) : (47 : UInt8) ∉ stemB b ∧ (47 : UInt8) ∉ endB b := by
  have e := stem_end b
  rw [← e, List.mem_append, not_or] at h
  exact h
def cbase (l : Bl) (d n : Nat) : Bl := stemB (baseL l) ++ markL d n ++ endB (baseL l)
theorem cbase_no (l : Bl) (d n : Nat) : (47 : UInt8) ∉ cbase l d n := by
  have h := stem_no47 (base_no l)
  unfold cbase
  simp only [List.mem_append, not_or]
  exact ⟨⟨h.1, mark_no47 d n⟩, h.2⟩
theorem copy_parts (l : Bl) (d n : Nat) : folderL (copyOut l d n) = folderL l ∧ baseL (copyOut l d n) = cbase l d n := joinF_parts (cbase_no l d n)
theorem copyL_ok {l c : Bl} {d n : Int} (h : copyL l d n = (c, 0)) : checkL l = 0 ∧ c = copyOut l d.toNat n.toNat ∧ prightL c = true ∧ 1 ≤ d ∧ d ≤ 99 ∧ 0 ≤ n ∧ n ≤ 999 := by
  unfold copyL at h
  by_cases h1 : checkL l ≠ 0
  · rw [if_pos h1] at h
    injection h with _ h2
    exact absurd h2 h1
  · rw [if_neg h1] at h
    by_cases h2 : d < 1 ∨ 99 < d ∨ n < 0 ∨ 999 < n
    · rw [if_pos h2] at h
      injection h with _ h3
      cases h3
    · rw [if_neg h2] at h
      by_cases h3 : prightL (copyOut l d.toNat n.toNat) = true
      · rw [if_pos h3] at h
        injection h with h4 _
        exact ⟨Classical.not_not.1 h1, h4.symm, h4 ▸ h3, by omega, by omega, by omega, by omega⟩
      · rw [if_neg h3] at h
        injection h with _ h4
        cases h4
theorem copyL_mk {l : Bl} {d n : Nat} (h : checkL l = 0) (hd : 1 ≤ d) (hd2 : d ≤ 99) (hn : n ≤ 999) (hr : prightL (copyOut l d n) = true) : copyL l (d : Int) (n : Int) = (copyOut l d n, 0) := by
  unfold copyL
  rw [if_neg (by rw [h]; simp), if_neg (by omega), Int.toNat_natCast, Int.toNat_natCast, if_pos hr]
theorem copyL_err {l : Bl} {d n : Int} (h : (copyL l d n).2 ≠ 0) : (copyL l d n).1 = [] ∧ (copyL l d n).2 ≤ 3 := by
  unfold copyL at h ⊢
  split
  · refine ⟨rfl, ?_⟩
    show checkL l ≤ 3
    unfold checkL
    split
    · exact Nat.le_refl _
    · split <;> omega
  · rename_i h1
    rw [if_neg h1] at h
    split
    · exact ⟨rfl, by decide⟩
    · rename_i h2
      rw [if_neg h2] at h
      split
      · rename_i h3
        rw [if_pos h3] at h
        exact absurd rfl h
      · exact ⟨rfl, Nat.le_refl _⟩
theorem tryL_of {c l x y : Bl} {d n : Nat} (hm : markedL x = some (y, d, n)) {z : Bl} (hj : joinF (folderL c) (y ++ z) = l) (hc : copyL l d n = (c, 0)) : tryL c x z = some (l, d, n) := by
  unfold tryL
  rw [hm]
  simp only
  rw [hj, hc, if_pos ⟨rfl, rfl⟩]
/-- What was copied is recovered. -/
theorem copied_of {l : Bl} {d n : Nat} (h : checkL l = 0) (hd : 1 ≤ d) (hd2 : d ≤ 99) (hn : n ≤ 999) (hr : prightL (copyOut l d n) = true) : copiedL (copyOut l d n) = some (l, d, n) := by
  have hc := copyL_mk h hd hd2 hn hr
  obtain ⟨pf, pb⟩ := copy_parts l d n
  obtain ⟨_, hl, _⟩ := path_parts h
  unfold copiedL
  rw [if_neg (by rw [check_zero.2 hr]; simp), pb]
  unfold cbase
  cases hcut : cutL 46 (baseL l) with
  | some p =>
    obtain ⟨a, y⟩ := p
    obtain ⟨e1, e2⟩ := cutL_some.1 hcut
    have s1 : stemB (baseL l) = a := by unfold stemB; rw [hcut]
    have s2 : endB (baseL l) = 46 :: y := by unfold endB; rw [hcut]
    have k : cutL 46 (a ++ markL d n ++ 46 :: y) = some (a ++ markL d n, y) := cut_is e2
    have s3 : stemB (a ++ markL d n ++ 46 :: y) = a ++ markL d n := by unfold stemB; rw [k]
    have s4 : endB (a ++ markL d n ++ 46 :: y) = 46 :: y := by unfold endB; rw [k]
    rw [s1, s2, s3, s4, tryL_of (marked_of a hd2 hn) (by rw [pf, ← e1]; exact hl.symm) hc]
  | none =>
    have h46 := cutL_none.1 hcut
    have s1 : stemB (baseL l) = baseL l := by unfold stemB; rw [hcut]
    have s2 : endB (baseL l) = [] := by unfold endB; rw [hcut]
    have e3 : baseL l ++ markL d n ++ [] = baseL l ++ 46 :: ([99] ++ dec d ++ [45] ++ dec n) := by simp [markL]
    have k : cutL 46 (baseL l ++ markL d n ++ []) = some (baseL l, [99] ++ dec d ++ [45] ++ dec n) := by
      rw [e3]
      refine cut_is ?_
      simp only [List.mem_append, not_or]
      exact ⟨⟨⟨by decide, dec_no (by decide) d⟩, by decide⟩, dec_no (by decide) n⟩
    have s3 : stemB (baseL l ++ markL d n ++ []) = baseL l := by unfold stemB; rw [k]
    have t1 : tryL (copyOut l d n) (baseL l) (endB (baseL l ++ markL d n ++ [])) = none := by
      unfold tryL
      rw [marked_point h46]
    rw [s1, s2, s3, t1]
    simp only
    rw [List.append_nil]
    exact tryL_of (marked_of (baseL l) hd2 hn) (by rw [pf, List.append_nil]; exact hl.symm) hc
theorem copied_copy {l c : Bl} {d n : Int} (h : copyL l d n = (c, 0)) : copiedL c = some (l, d.toNat, n.toNat) ∧ checkL c = 0 := by
  obtain ⟨h1, h2, h3, h4, h5, h6, h7⟩ := copyL_ok h
  subst h2
  exact ⟨copied_of h1 (by omega) (by omega) (by omega) h3, check_zero.2 h3⟩
/-- A copy is the copy of one path, device and number. -/
theorem copy_inj {l l' c : Bl} {d n d' n' : Int} (h : copyL l d n = (c, 0)) (h' : copyL l' d' n' = (c, 0)) : l = l' ∧ d = d' ∧ n = n' := by
  have e := (copied_copy h).1.symm.trans (copied_copy h').1
  simp only [Option.some.injEq, Prod.mk.injEq] at e
  obtain ⟨_, _, _, h4, h5, h6, h7⟩ := copyL_ok h
  obtain ⟨_, _, _, k4, k5, k6, k7⟩ := copyL_ok h'
  exact ⟨e.1, by omega, by omega⟩
/-- What Copied finds is a copy. -/
theorem tryL_some {c x z l : Bl} {d n : Nat} (h : tryL c x z = some (l, d, n)) : copyL l d n = (c, 0) := by
  unfold tryL at h
  split at h
  · cases h
  · split at h
    · rename_i hh
      simp only [Option.some.injEq, Prod.mk.injEq] at h
      obtain ⟨rfl, rfl, rfl⟩ := h
      exact Prod.ext hh.2 hh.1
    · cases h
theorem copied_some {c l : Bl} {d n : Nat} (h : copiedL c = some (l, d, n)) : copyL l d n = (c, 0) := by
  unfold copiedL at h
  split at h
  · cases h
  · split at h
    · rename_i r hr
      rw [h] at hr
      exact tryL_some hr
    · exact tryL_some h
theorem copy_len {l c : Bl} {d n : Int} (h : copyL l d n = (c, 0)) : l.length < c.length := by
  obtain ⟨h1, rfl, _⟩ := copyL_ok h
  obtain ⟨_, hl, _⟩ := path_parts h1
  have e := congrArg List.length hl
  have s := congrArg List.length (stem_end (baseL l))
  unfold copyOut markL
  unfold joinF at e ⊢
  split
  · rename_i hf
    rw [if_pos hf] at e
    simp only [List.length_append, List.length_cons, List.length_nil] at e s ⊢
    omega
  · rename_i hf
    rw [if_neg hf] at e
    simp only [List.length_append, List.length_cons, List.length_nil] at e s ⊢
    omega
theorem copy_end {l c : Bl} {d n : Int} (h : copyL l d n = (c, 0)) : folderL c = folderL l ∧ (endB (baseL l) = [] ∨ endB (baseL c) = endB (baseL l)) := by
  obtain ⟨h1, rfl, _⟩ := copyL_ok h
  obtain ⟨pf, pb⟩ := copy_parts l d.toNat n.toNat
  refine ⟨pf, ?_⟩
  rw [pb]
  unfold cbase
  cases hcut : cutL 46 (baseL l) with
  | some p =>
    obtain ⟨a, y⟩ := p
    obtain ⟨e1, e2⟩ := cutL_some.1 hcut
    have s2 : endB (baseL l) = 46 :: y := by unfold endB; rw [hcut]
    right
    rw [s2]
    unfold endB
    rw [cut_is e2]
  | none =>
    left
    unfold endB
    rw [hcut]
/-! ### Temporary files, folders -/
theorem seg_tmp (l : Bl) : segs ([46, 116, 109, 112, 47] ++ l) = [46, 116, 109, 112] :: segs l := by
  simp only [List.cons_append, List.nil_append]
  simp [segs]
theorem temp_no (l : Bl) : checkL ([46, 116, 109, 112, 47] ++ l) ≠ 0 := fun h => by
  have h1 := (right_iff.1 (check_zero.1 h)).1
  rw [seg_tmp] at h1
  have := h1 [46, 116, 109, 112] (by simp)
  revert this
  decide
theorem temped_temp {l : Bl} (h : checkL l = 0) : tempedL ([46, 116, 109, 112, 47] ++ l) = some l := by
  unfold tempedL
  rw [if_pos ⟨List.prefix_append _ _, by simpa using h⟩]
  simp
theorem check_ne_nil {l : Bl} (h : checkL l = 0) : l ≠ [] := by
  rintro rfl
  revert h
  decide
theorem within_nil (s : Bl) : withinL [] s = decide (checkL s = 0) := by
  unfold withinL
  by_cases h : checkL s = 0
  · rw [if_neg (by rw [h]; simp), h]; simp
  · rw [if_pos h, decide_eq_false h]
theorem within_self {s : Bl} (h : checkL s = 0) : withinL s s = false := by
  unfold withinL
  rw [if_neg (by rw [h]; simp), decide_eq_false (check_ne_nil h)]
  have : ¬ (s ++ [47] <+: s) := fun hp => by
    have := hp.length_le
    simp at this
    omega
  rw [decide_eq_false this]
  simp
theorem within_iff {f s : Bl} : withinL f s = true ↔ checkL s = 0 ∧ (f = [] ∨ (checkL f = 0 ∧ f ++ [47] <+: s)) := by
  unfold withinL
  by_cases h : checkL s = 0
  · rw [if_neg (by rw [h]; simp)]
    simp [h]
  · rw [if_pos h]
    simp [h]
theorem within_trans {s t u : Bl} (h1 : withinL s t = true) (h2 : withinL t u = true) : withinL s u = true := by
  obtain ⟨a1, a2⟩ := within_iff.1 h1
  obtain ⟨b1, b2⟩ := within_iff.1 h2
  refine within_iff.2 ⟨b1, ?_⟩
  rcases a2 with a2 | ⟨a2, a3⟩
  · exact .inl a2
  · rcases b2 with b2 | ⟨_, b3⟩
    · exact absurd b2 (check_ne_nil a1)
    · exact .inr ⟨a2, a3.trans ((List.prefix_append t [47]).trans b3)⟩
theorem within_folder {l : Bl} (h : checkL l = 0) (hf : folderL l ≠ []) : checkL (folderL l) = 0 ∧ withinL (folderL l) l = true := by
  obtain ⟨_, hl, hp⟩ := path_parts h
  rcases hp with hp | ⟨_, hp, _⟩
  · exact absurd hp hf
  · refine ⟨hp, within_iff.2 ⟨h, .inr ⟨hp, ?_⟩⟩⟩
    unfold joinF at hl
    rw [if_neg hf] at hl
    exact ⟨baseL l, hl.symm⟩
end Go.Proofs.YtndekohimfjdeaaDoor

namespace Go.Proofs.YtndekohimfjdeaaDoor
open Go.RowKit
def st (l : Bl) : ByteArray := ⟨l.toArray⟩
theorem st_size (l : Bl) : (st l).size = l.length := by simp [st, ByteArray.size]
theorem st_data (l : Bl) : (st l).data.toList = l := rfl
theorem st_of (s : ByteArray) : s = st s.data.toList := by cases s; rfl
theorem st_inj {a b : Bl} (h : st a = st b) : a = b := congrArg (fun s : ByteArray => s.data.toList) h
theorem bsize (s : ByteArray) : s.size = s.data.toList.length := by cases s; simp [ByteArray.size]
theorem st_ext {x : ByteArray} {l : Bl} (h : x.data.toList = l) : x = st l := by rw [st_of x, h]
theorem st_app (a b : Bl) : st a ++ st b = st (a ++ b) := st_ext (by simp [st, ByteArray.data_append])
theorem st_take (a : Bl) (i : Nat) : (st a).extract 0 i = st (a.take i) := st_ext (Lib.extract_from_zero _ _)
theorem st_drop (a : Bl) (i : Nat) : (st a).extract i (st a).size = st (a.drop i) := st_ext (Lib.extract_to_end _ _)
theorem st_beq (a b : Bl) : ((st a).toList == (st b).toList) = decide (a = b) := by
  have e : ∀ x : ByteArray, x.toList = x.data.toList := fun x => ByteArray.toList_eq x
  rw [e, e, st_data, st_data]
  by_cases h : a = b
  · subst h; simp
  · rw [decide_eq_false h, beq_eq_false_iff_ne]; exact h
theorem nameC_iff {c : UInt8} : nameC c = true ↔ (97 ≤ c.toNat ∧ c.toNat ≤ 122) ∨ (48 ≤ c.toNat ∧ c.toNat ≤ 57) ∨ c.toNat = 45 ∨ c.toNat = 95 ∨ c.toNat = 46 := by
  unfold nameC
  simp only [Bool.or_eq_true, Bool.and_eq_true, decide_eq_true_eq]
  omega
def allN (s : ByteArray) (n : Nat) : Prop := ∀ k, k < n → ∀ h : k < s.size, nameC (s[k]'h) = true
theorem allN_succ {s : ByteArray} {n : Nat} (h : allN s n) (hn : n < s.size) (hc : nameC (s[n]'hn) = true) : allN s (n + 1) := fun k hk hks => by
  rcases Nat.lt_succ_iff_lt_or_eq.1 hk with hk | rfl
  · exact h k hk hks
  · exact hc
theorem at_data (s : ByteArray) {k : Nat} (h : k < s.size) : s.data.toList[k]? = some (s[k]'h) := Lib.data_getElem? s k h
theorem name_iff (s : ByteArray) : nameL s.data.toList = true ↔ 1 ≤ s.size ∧ s.size ≤ 24 ∧ (∀ h : 0 < s.size, (s[0]'h).toNat ≠ 46) ∧ allN s s.size := by
  unfold nameL
  simp only [Bool.and_eq_true, decide_eq_true_eq, Bool.not_eq_true', decide_eq_false_iff_not, List.all_eq_true, ← bsize]
  constructor
  · rintro ⟨⟨⟨h1, h2⟩, h3⟩, h4⟩
    refine ⟨h1, h2, fun h e => h3 ?_, fun k _ hk => h4 _ (List.mem_of_getElem? (at_data s hk))⟩
    rw [List.head?_eq_getElem?, at_data s h]
    congr 1
    exact UInt8.toNat_inj.1 e
  · rintro ⟨h1, h2, h3, h4⟩
    refine ⟨⟨⟨h1, h2⟩, fun e => ?_⟩, fun c hc => ?_⟩
    · rw [List.head?_eq_getElem?, at_data s (by omega)] at e
      have := Option.some.inj e
      exact h3 (by omega) (by rw [this]; rfl)
    · obtain ⟨k, hk⟩ := List.mem_iff_getElem?.1 hc
      have hl := (List.getElem?_eq_some_iff.1 hk).1
      rw [← bsize] at hl
      rw [at_data s hl] at hk
      exact Option.some.inj hk ▸ h4 k hl hl
theorem name_false {s : ByteArray} (h : ¬ (1 ≤ s.size ∧ s.size ≤ 24 ∧ (∀ h : 0 < s.size, (s[0]'h).toNat ≠ 46) ∧ allN s s.size)) : nameL s.data.toList = false := Bool.eq_false_iff.2 fun e => h ((name_iff s).1 e)
set_option maxRecDepth 100000 in
set_option maxHeartbeats 4000000 in
theorem name_v (s : ByteArray) (w : World) (hs : s.size ≤ 9223372036854775807) : Calls Tryd.prog 72 #[.string s] w fun e w' => e = .returned (.bool (nameL s.data.toList)) ∧ w = w' := by
  go_enter Tryd.func72, Tryd.ntmps72
  by_cases h1 : 1 ≤ s.size
  case neg =>
    have d1 : decide (s.size < 1) = true := decide_eq_true (by omega)
    have HD := Lib.hid (name_false (s := s) fun h => h1 h.1)
    go_wp2_with fail
    go_ret
    exact ⟨by rw [HD.out]; rfl, rfl⟩
  have d1 : decide (s.size < 1) = false := decide_eq_false (by omega)
  by_cases h2 : s.size ≤ 24
  case neg =>
    have d2 : decide (24 < s.size) = true := decide_eq_true (by omega)
    have HD := Lib.hid (name_false (s := s) fun h => h2 h.2.1)
    go_wp2_with fail
    go_ret
    exact ⟨by rw [HD.out]; rfl, rfl⟩
  have d2 : decide (24 < s.size) = false := decide_eq_false (by omega)
  have h0 : 0 < s.size := by omega
  by_cases h3 : (s[0]'h0).toNat = 46
  case pos =>
    have d3 : (((s[0]'h0).toNat : Int) == 46) = true := by rw [h3]; rfl
    have HD := Lib.hid (name_false (s := s) fun h => h.2.2.1 h0 h3)
    clear h3
    go_wp2_with fail
    go_ret
    exact ⟨by rw [HD.out]; rfl, rfl⟩
  have d3 : (((s[0]'h0).toNat : Int) == 46) = false := beq_eq_false_iff_ne.2 (by omega)
  have H3 := Lib.hid h3
  clear h3
  go_wp2_with fail
  go_loopw [3, 4, 20] (fun _ _ i wr => ∃ k : Nat, i = .int .i64 (k : Int) ∧ k ≤ s.size ∧ allN s k ∧ w = wr) (fun _ _ i _ => s.size - (intOf i).toNat)
  case atStart => exact ⟨0, rfl, Nat.zero_le _, fun k hk => by omega, rfl⟩
  case round =>
    obtain ⟨k, rfl, hk, hlow, rfl⟩ := hrel
    have HL := Lib.hid hlow
    clear hlow d1 d2 d3
    by_cases hlt : k < s.size
    case neg =>
      obtain rfl : k = s.size := by omega
      have HD := Lib.hid ((name_iff s).2 ⟨h1, h2, fun h => H3.out, HL.out⟩)
      go_wp2_with fail
      go_ret
      exact ⟨by rw [HD.out]; rfl, rfl⟩
    have k0 : (0 : Int) ≤ (k : Int) := by omega
    obtain ⟨x, hx⟩ : ∃ x, (s[k]'hlt).toNat = x := ⟨_, rfl⟩
    have HX := Lib.hid hx
    have hxv : (0 ≤ x ∧ x ≤ 44) ∨ (45 ≤ x ∧ x ≤ 45) ∨ (46 ≤ x ∧ x ≤ 46) ∨ (47 ≤ x ∧ x ≤ 47) ∨ (48 ≤ x ∧ x ≤ 57) ∨ (58 ≤ x ∧ x ≤ 94) ∨ (95 ≤ x ∧ x ≤ 95) ∨ (96 ≤ x ∧ x ≤ 96) ∨ (97 ≤ x ∧ x ≤ 122) ∨ (123 ≤ x ∧ x ≤ 255) := by
      have := (s[k]'hlt).toNat_lt; omega
    clear hx
    rcases hxv with hxv | hxv | hxv | hxv | hxv | hxv | hxv | hxv | hxv | hxv
    · obtain ⟨g1, g2⟩ := hxv
      have d0 : decide (97 ≤ x) = false := decide_eq_false (by omega)
      have d1 : decide (x ≤ 122) = true := decide_eq_true (by omega)
      have d2 : decide (48 ≤ x) = false := decide_eq_false (by omega)
      have d3 : decide (x ≤ 57) = true := decide_eq_true (by omega)
      have e0 : ((((s[k]'hlt).toNat : Nat) : Int) == 45) = false := by rw [HX.out]; exact beq_eq_false_iff_ne.2 (by omega)
      have f0 : ((((s[k]'hlt).toNat : Nat) : Int) == 95) = false := by rw [HX.out]; exact beq_eq_false_iff_ne.2 (by omega)
      have g0 : ((((s[k]'hlt).toNat : Nat) : Int) == 46) = false := by rw [HX.out]; exact beq_eq_false_iff_ne.2 (by omega)
      clear d0
      have d0 : decide ((97 : Int) ≤ (((s[k]'hlt).toNat : Nat) : Int)) = false := by rw [HX.out]; exact decide_eq_false (by omega)
      clear d1
      have d1 : decide ((((s[k]'hlt).toNat : Nat) : Int) ≤ 122) = true := by rw [HX.out]; exact decide_eq_true (by omega)
      clear d2
      have d2 : decide ((48 : Int) ≤ (((s[k]'hlt).toNat : Nat) : Int)) = false := by rw [HX.out]; exact decide_eq_false (by omega)
      clear d3
      have d3 : decide ((((s[k]'hlt).toNat : Nat) : Int) ≤ 57) = true := by rw [HX.out]; exact decide_eq_true (by omega)
      have HD := Lib.hid (name_false (s := s) fun h => by have := nameC_iff.1 (h.2.2.2 k hlt hlt); rw [HX.out] at this; omega)
      clear g1 g2
      go_wp2_with fail
      go_ret
      exact ⟨by rw [HD.out]; rfl, rfl⟩
    · obtain ⟨g1, g2⟩ := hxv
      have d0 : decide (97 ≤ x) = false := decide_eq_false (by omega)
      have d1 : decide (x ≤ 122) = true := decide_eq_true (by omega)
      have d2 : decide (48 ≤ x) = false := decide_eq_false (by omega)
      have d3 : decide (x ≤ 57) = true := decide_eq_true (by omega)
      have e0 : ((((s[k]'hlt).toNat : Nat) : Int) == 45) = true := by rw [HX.out]; exact beq_iff_eq.2 (by omega)
      have f0 : ((((s[k]'hlt).toNat : Nat) : Int) == 95) = false := by rw [HX.out]; exact beq_eq_false_iff_ne.2 (by omega)
      have g0 : ((((s[k]'hlt).toNat : Nat) : Int) == 46) = false := by rw [HX.out]; exact beq_eq_false_iff_ne.2 (by omega)
      clear d0
      have d0 : decide ((97 : Int) ≤ (((s[k]'hlt).toNat : Nat) : Int)) = false := by rw [HX.out]; exact decide_eq_false (by omega)
      clear d1
      have d1 : decide ((((s[k]'hlt).toNat : Nat) : Int) ≤ 122) = true := by rw [HX.out]; exact decide_eq_true (by omega)
      clear d2
      have d2 : decide ((48 : Int) ≤ (((s[k]'hlt).toNat : Nat) : Int)) = false := by rw [HX.out]; exact decide_eq_false (by omega)
      clear d3
      have d3 : decide ((((s[k]'hlt).toNat : Nat) : Int) ≤ 57) = true := by rw [HX.out]; exact decide_eq_true (by omega)
      have HN := Lib.hid (allN_succ HL.out hlt (nameC_iff.2 (by rw [HX.out]; omega)))
      clear g1 g2
      go_wp2_with fail
      go_roundw
      case rel => exact ⟨k + 1, by go_num, hlt, HN.out, by trivial⟩
      case measure => simp [intOf]; omega
    · obtain ⟨g1, g2⟩ := hxv
      have d0 : decide (97 ≤ x) = false := decide_eq_false (by omega)
      have d1 : decide (x ≤ 122) = true := decide_eq_true (by omega)
      have d2 : decide (48 ≤ x) = false := decide_eq_false (by omega)
      have d3 : decide (x ≤ 57) = true := decide_eq_true (by omega)
      have e0 : ((((s[k]'hlt).toNat : Nat) : Int) == 45) = false := by rw [HX.out]; exact beq_eq_false_iff_ne.2 (by omega)
      have f0 : ((((s[k]'hlt).toNat : Nat) : Int) == 95) = false := by rw [HX.out]; exact beq_eq_false_iff_ne.2 (by omega)
      have g0 : ((((s[k]'hlt).toNat : Nat) : Int) == 46) = true := by rw [HX.out]; exact beq_iff_eq.2 (by omega)
      clear d0
      have d0 : decide ((97 : Int) ≤ (((s[k]'hlt).toNat : Nat) : Int)) = false := by rw [HX.out]; exact decide_eq_false (by omega)
      clear d1
      have d1 : decide ((((s[k]'hlt).toNat : Nat) : Int) ≤ 122) = true := by rw [HX.out]; exact decide_eq_true (by omega)
      clear d2
      have d2 : decide ((48 : Int) ≤ (((s[k]'hlt).toNat : Nat) : Int)) = false := by rw [HX.out]; exact decide_eq_false (by omega)
      clear d3
      have d3 : decide ((((s[k]'hlt).toNat : Nat) : Int) ≤ 57) = true := by rw [HX.out]; exact decide_eq_true (by omega)
      have HN := Lib.hid (allN_succ HL.out hlt (nameC_iff.2 (by rw [HX.out]; omega)))
      clear g1 g2
      go_wp2_with fail
      go_roundw
      case rel => exact ⟨k + 1, by go_num, hlt, HN.out, by trivial⟩
      case measure => simp [intOf]; omega
    · obtain ⟨g1, g2⟩ := hxv
      have d0 : decide (97 ≤ x) = false := decide_eq_false (by omega)
      have d1 : decide (x ≤ 122) = true := decide_eq_true (by omega)
      have d2 : decide (48 ≤ x) = false := decide_eq_false (by omega)
      have d3 : decide (x ≤ 57) = true := decide_eq_true (by omega)
      have e0 : ((((s[k]'hlt).toNat : Nat) : Int) == 45) = false := by rw [HX.out]; exact beq_eq_false_iff_ne.2 (by omega)
      have f0 : ((((s[k]'hlt).toNat : Nat) : Int) == 95) = false := by rw [HX.out]; exact beq_eq_false_iff_ne.2 (by omega)
      have g0 : ((((s[k]'hlt).toNat : Nat) : Int) == 46) = false := by rw [HX.out]; exact beq_eq_false_iff_ne.2 (by omega)
      clear d0
      have d0 : decide ((97 : Int) ≤ (((s[k]'hlt).toNat : Nat) : Int)) = false := by rw [HX.out]; exact decide_eq_false (by omega)
      clear d1
      have d1 : decide ((((s[k]'hlt).toNat : Nat) : Int) ≤ 122) = true := by rw [HX.out]; exact decide_eq_true (by omega)
      clear d2
      have d2 : decide ((48 : Int) ≤ (((s[k]'hlt).toNat : Nat) : Int)) = false := by rw [HX.out]; exact decide_eq_false (by omega)
      clear d3
      have d3 : decide ((((s[k]'hlt).toNat : Nat) : Int) ≤ 57) = true := by rw [HX.out]; exact decide_eq_true (by omega)
      have HD := Lib.hid (name_false (s := s) fun h => by have := nameC_iff.1 (h.2.2.2 k hlt hlt); rw [HX.out] at this; omega)
      clear g1 g2
      go_wp2_with fail
      go_ret
      exact ⟨by rw [HD.out]; rfl, rfl⟩
    · obtain ⟨g1, g2⟩ := hxv
      have d0 : decide (97 ≤ x) = false := decide_eq_false (by omega)
      have d1 : decide (x ≤ 122) = true := decide_eq_true (by omega)
      have d2 : decide (48 ≤ x) = true := decide_eq_true (by omega)
      have d3 : decide (x ≤ 57) = true := decide_eq_true (by omega)
      have e0 : ((((s[k]'hlt).toNat : Nat) : Int) == 45) = false := by rw [HX.out]; exact beq_eq_false_iff_ne.2 (by omega)
      have f0 : ((((s[k]'hlt).toNat : Nat) : Int) == 95) = false := by rw [HX.out]; exact beq_eq_false_iff_ne.2 (by omega)
      have g0 : ((((s[k]'hlt).toNat : Nat) : Int) == 46) = false := by rw [HX.out]; exact beq_eq_false_iff_ne.2 (by omega)
      clear d0
      have d0 : decide ((97 : Int) ≤ (((s[k]'hlt).toNat : Nat) : Int)) = false := by rw [HX.out]; exact decide_eq_false (by omega)
      clear d1
      have d1 : decide ((((s[k]'hlt).toNat : Nat) : Int) ≤ 122) = true := by rw [HX.out]; exact decide_eq_true (by omega)
      clear d2
      have d2 : decide ((48 : Int) ≤ (((s[k]'hlt).toNat : Nat) : Int)) = true := by rw [HX.out]; exact decide_eq_true (by omega)
      clear d3
      have d3 : decide ((((s[k]'hlt).toNat : Nat) : Int) ≤ 57) = true := by rw [HX.out]; exact decide_eq_true (by omega)
      have HN := Lib.hid (allN_succ HL.out hlt (nameC_iff.2 (by rw [HX.out]; omega)))
      clear g1 g2
      go_wp2_with fail
      go_roundw
      case rel => exact ⟨k + 1, by go_num, hlt, HN.out, by trivial⟩
      case measure => simp [intOf]; omega
    · obtain ⟨g1, g2⟩ := hxv
      have d0 : decide (97 ≤ x) = false := decide_eq_false (by omega)
      have d1 : decide (x ≤ 122) = true := decide_eq_true (by omega)
      have d2 : decide (48 ≤ x) = true := decide_eq_true (by omega)
      have d3 : decide (x ≤ 57) = false := decide_eq_false (by omega)
      have e0 : ((((s[k]'hlt).toNat : Nat) : Int) == 45) = false := by rw [HX.out]; exact beq_eq_false_iff_ne.2 (by omega)
      have f0 : ((((s[k]'hlt).toNat : Nat) : Int) == 95) = false := by rw [HX.out]; exact beq_eq_false_iff_ne.2 (by omega)
      have g0 : ((((s[k]'hlt).toNat : Nat) : Int) == 46) = false := by rw [HX.out]; exact beq_eq_false_iff_ne.2 (by omega)
      clear d0
      have d0 : decide ((97 : Int) ≤ (((s[k]'hlt).toNat : Nat) : Int)) = false := by rw [HX.out]; exact decide_eq_false (by omega)
      clear d1
      have d1 : decide ((((s[k]'hlt).toNat : Nat) : Int) ≤ 122) = true := by rw [HX.out]; exact decide_eq_true (by omega)
      clear d2
      have d2 : decide ((48 : Int) ≤ (((s[k]'hlt).toNat : Nat) : Int)) = true := by rw [HX.out]; exact decide_eq_true (by omega)
      clear d3
      have d3 : decide ((((s[k]'hlt).toNat : Nat) : Int) ≤ 57) = false := by rw [HX.out]; exact decide_eq_false (by omega)
      have HD := Lib.hid (name_false (s := s) fun h => by have := nameC_iff.1 (h.2.2.2 k hlt hlt); rw [HX.out] at this; omega)
      clear g1 g2
      go_wp2_with fail
      go_ret
      exact ⟨by rw [HD.out]; rfl, rfl⟩
    · obtain ⟨g1, g2⟩ := hxv
      have d0 : decide (97 ≤ x) = false := decide_eq_false (by omega)
      have d1 : decide (x ≤ 122) = true := decide_eq_true (by omega)
      have d2 : decide (48 ≤ x) = true := decide_eq_true (by omega)
      have d3 : decide (x ≤ 57) = false := decide_eq_false (by omega)
      have e0 : ((((s[k]'hlt).toNat : Nat) : Int) == 45) = false := by rw [HX.out]; exact beq_eq_false_iff_ne.2 (by omega)
      have f0 : ((((s[k]'hlt).toNat : Nat) : Int) == 95) = true := by rw [HX.out]; exact beq_iff_eq.2 (by omega)
      have g0 : ((((s[k]'hlt).toNat : Nat) : Int) == 46) = false := by rw [HX.out]; exact beq_eq_false_iff_ne.2 (by omega)
      clear d0
      have d0 : decide ((97 : Int) ≤ (((s[k]'hlt).toNat : Nat) : Int)) = false := by rw [HX.out]; exact decide_eq_false (by omega)
      clear d1
      have d1 : decide ((((s[k]'hlt).toNat : Nat) : Int) ≤ 122) = true := by rw [HX.out]; exact decide_eq_true (by omega)
      clear d2
      have d2 : decide ((48 : Int) ≤ (((s[k]'hlt).toNat : Nat) : Int)) = true := by rw [HX.out]; exact decide_eq_true (by omega)
      clear d3
      have d3 : decide ((((s[k]'hlt).toNat : Nat) : Int) ≤ 57) = false := by rw [HX.out]; exact decide_eq_false (by omega)
      have HN := Lib.hid (allN_succ HL.out hlt (nameC_iff.2 (by rw [HX.out]; omega)))
      clear g1 g2
      go_wp2_with fail
      go_roundw
      case rel => exact ⟨k + 1, by go_num, hlt, HN.out, by trivial⟩
      case measure => simp [intOf]; omega
    · obtain ⟨g1, g2⟩ := hxv
      have d0 : decide (97 ≤ x) = false := decide_eq_false (by omega)
      have d1 : decide (x ≤ 122) = true := decide_eq_true (by omega)
      have d2 : decide (48 ≤ x) = true := decide_eq_true (by omega)
      have d3 : decide (x ≤ 57) = false := decide_eq_false (by omega)
      have e0 : ((((s[k]'hlt).toNat : Nat) : Int) == 45) = false := by rw [HX.out]; exact beq_eq_false_iff_ne.2 (by omega)
      have f0 : ((((s[k]'hlt).toNat : Nat) : Int) == 95) = false := by rw [HX.out]; exact beq_eq_false_iff_ne.2 (by omega)
      have g0 : ((((s[k]'hlt).toNat : Nat) : Int) == 46) = false := by rw [HX.out]; exact beq_eq_false_iff_ne.2 (by omega)
      clear d0
      have d0 : decide ((97 : Int) ≤ (((s[k]'hlt).toNat : Nat) : Int)) = false := by rw [HX.out]; exact decide_eq_false (by omega)
      clear d1
      have d1 : decide ((((s[k]'hlt).toNat : Nat) : Int) ≤ 122) = true := by rw [HX.out]; exact decide_eq_true (by omega)
      clear d2
      have d2 : decide ((48 : Int) ≤ (((s[k]'hlt).toNat : Nat) : Int)) = true := by rw [HX.out]; exact decide_eq_true (by omega)
      clear d3
      have d3 : decide ((((s[k]'hlt).toNat : Nat) : Int) ≤ 57) = false := by rw [HX.out]; exact decide_eq_false (by omega)
      have HD := Lib.hid (name_false (s := s) fun h => by have := nameC_iff.1 (h.2.2.2 k hlt hlt); rw [HX.out] at this; omega)
      clear g1 g2
      go_wp2_with fail
      go_ret
      exact ⟨by rw [HD.out]; rfl, rfl⟩
    · obtain ⟨g1, g2⟩ := hxv
      have d0 : decide (97 ≤ x) = true := decide_eq_true (by omega)
      have d1 : decide (x ≤ 122) = true := decide_eq_true (by omega)
      have d2 : decide (48 ≤ x) = true := decide_eq_true (by omega)
      have d3 : decide (x ≤ 57) = false := decide_eq_false (by omega)
      have e0 : ((((s[k]'hlt).toNat : Nat) : Int) == 45) = false := by rw [HX.out]; exact beq_eq_false_iff_ne.2 (by omega)
      have f0 : ((((s[k]'hlt).toNat : Nat) : Int) == 95) = false := by rw [HX.out]; exact beq_eq_false_iff_ne.2 (by omega)
      have g0 : ((((s[k]'hlt).toNat : Nat) : Int) == 46) = false := by rw [HX.out]; exact beq_eq_false_iff_ne.2 (by omega)
      clear d0
      have d0 : decide ((97 : Int) ≤ (((s[k]'hlt).toNat : Nat) : Int)) = true := by rw [HX.out]; exact decide_eq_true (by omega)
      clear d1
      have d1 : decide ((((s[k]'hlt).toNat : Nat) : Int) ≤ 122) = true := by rw [HX.out]; exact decide_eq_true (by omega)
      clear d2
      have d2 : decide ((48 : Int) ≤ (((s[k]'hlt).toNat : Nat) : Int)) = true := by rw [HX.out]; exact decide_eq_true (by omega)
      clear d3
      have d3 : decide ((((s[k]'hlt).toNat : Nat) : Int) ≤ 57) = false := by rw [HX.out]; exact decide_eq_false (by omega)
      have HN := Lib.hid (allN_succ HL.out hlt (nameC_iff.2 (by rw [HX.out]; omega)))
      clear g1 g2
      go_wp2_with fail
      go_roundw
      case rel => exact ⟨k + 1, by go_num, hlt, HN.out, by trivial⟩
      case measure => simp [intOf]; omega
    · obtain ⟨g1, g2⟩ := hxv
      have d0 : decide (97 ≤ x) = true := decide_eq_true (by omega)
      have d1 : decide (x ≤ 122) = false := decide_eq_false (by omega)
      have d2 : decide (48 ≤ x) = true := decide_eq_true (by omega)
      have d3 : decide (x ≤ 57) = false := decide_eq_false (by omega)
      have e0 : ((((s[k]'hlt).toNat : Nat) : Int) == 45) = false := by rw [HX.out]; exact beq_eq_false_iff_ne.2 (by omega)
      have f0 : ((((s[k]'hlt).toNat : Nat) : Int) == 95) = false := by rw [HX.out]; exact beq_eq_false_iff_ne.2 (by omega)
      have g0 : ((((s[k]'hlt).toNat : Nat) : Int) == 46) = false := by rw [HX.out]; exact beq_eq_false_iff_ne.2 (by omega)
      clear d0
      have d0 : decide ((97 : Int) ≤ (((s[k]'hlt).toNat : Nat) : Int)) = true := by rw [HX.out]; exact decide_eq_true (by omega)
      clear d1
      have d1 : decide ((((s[k]'hlt).toNat : Nat) : Int) ≤ 122) = false := by rw [HX.out]; exact decide_eq_false (by omega)
      clear d2
      have d2 : decide ((48 : Int) ≤ (((s[k]'hlt).toNat : Nat) : Int)) = true := by rw [HX.out]; exact decide_eq_true (by omega)
      clear d3
      have d3 : decide ((((s[k]'hlt).toNat : Nat) : Int) ≤ 57) = false := by rw [HX.out]; exact decide_eq_false (by omega)
      have HD := Lib.hid (name_false (s := s) fun h => by have := nameC_iff.1 (h.2.2.2 k hlt hlt); rw [HX.out] at this; omega)
      clear g1 g2
      go_wp2_with fail
      go_ret
      exact ⟨by rw [HD.out]; rfl, rfl⟩
end Go.Proofs.YtndekohimfjdeaaDoor

namespace Go.Proofs.YtndekohimfjdeaaDoor
open Go.RowKit
/-! ### Parts, as the library cuts them -/
theorem index_in : ∀ {a b : Bl}, (47 : UInt8) ∉ a → Lib.index (a ++ 47 :: b) [47] = a.length
  | [], b, _ => by simp [Lib.index, List.isPrefixOf]
  | x :: a, b, h => by
    simp only [List.mem_cons, not_or] at h
    rw [List.cons_append]
    unfold Lib.index
    have e : List.isPrefixOf [47] (x :: (a ++ 47 :: b)) = false := by
      simp only [List.isPrefixOf, Bool.and_true]
      exact beq_eq_false_iff_ne.2 h.1
    rw [if_neg (by rw [e]; simp), index_in h.2, if_neg (by simp)]
    simp
theorem index_out : ∀ {l : Bl}, (47 : UInt8) ∉ l → Lib.index l [47] = -1
  | [], _ => rfl
  | x :: l, h => by
    simp only [List.mem_cons, not_or] at h
    unfold Lib.index
    have e : List.isPrefixOf [47] (x :: l) = false := by
      simp only [List.isPrefixOf, Bool.and_true]
      exact beq_eq_false_iff_ne.2 h.1
    rw [if_neg (by rw [e]; simp), index_out h.2]
    rfl
theorem segs_first {b : Bl} : ∀ {a : Bl}, (47 : UInt8) ∉ a → segs (a ++ 47 :: b) = a :: segs b
  | [], _ => by rw [List.nil_append]; conv => lhs; unfold segs
                simp
  | x :: a, h => by
    simp only [List.mem_cons, not_or] at h
    rw [List.cons_append]
    conv => lhs; unfold segs
    rw [if_neg (Ne.symm h.1), segs_first h.2]
theorem first_cut : ∀ {l : Bl}, (47 : UInt8) ∈ l → ∃ a b, l = a ++ 47 :: b ∧ (47 : UInt8) ∉ a
  | x :: l, h => by
    by_cases e : x = 47
    · exact ⟨[], l, by rw [e]; rfl, by simp⟩
    · have h2 : (47 : UInt8) ∈ l := by
        rcases List.mem_cons.1 h with h | h
        · exact absurd h.symm e
        · exact h
      obtain ⟨a, b, rfl, hb⟩ := first_cut h2
      exact ⟨x :: a, b, rfl, by simp only [List.mem_cons, not_or]; exact ⟨Ne.symm e, hb⟩⟩
theorem splitK_segs : ∀ (n : Nat) (l : Bl), l.length ≤ n → Lib.splitK [47] 0 (Lib.count l [47]) l = segs l ∧ (segs l).length = Lib.count l [47] + 1
  | n, l, hn => by
    by_cases h : (47 : UInt8) ∈ l
    · obtain ⟨a, b, rfl, ha⟩ := first_cut h
      cases n with
      | zero => simp at hn
      | succ n =>
        have hl : b.length ≤ n := by simp at hn; omega
        obtain ⟨h1, h2⟩ := splitK_segs n b hl
        have hd : (a ++ 47 :: b).drop (a.length + ([47] : Bl).length) = b := by
          rw [List.drop_append]
          simp
        have hc : Lib.count (a ++ 47 :: b) [47] = Lib.count b [47] + 1 := by
          rw [Lib.count_hit (by simp) (index_in ha), hd]
          omega
        rw [hc, segs_first ha]
        unfold Lib.splitK
        rw [index_in ha, if_neg (by simp), Int.toNat_natCast, hd, h1]
        simp [h2]
    · have h0 : Lib.count l [47] = 0 := Lib.count_miss (index_out h)
      rw [h0, segs_one h]
      exact ⟨rfl, rfl⟩
theorem split_segs (l : Bl) : Lib.splitB (st [47]) 0 (Lib.countB (st l) (st [47])) (st l) = (segs l).map st ∧ Lib.countB (st l) (st [47]) + 1 = (segs l).length := by
  obtain ⟨h1, h2⟩ := splitK_segs l.length l (Nat.le_refl _)
  have h3 := Lib.splitB_data (st [47]) 0 (Lib.countB (st l) (st [47])) (st l)
  have e : Lib.countB (st l) (st [47]) = Lib.count l [47] := rfl
  rw [e] at h3 ⊢
  rw [st_data, st_data, h1] at h3
  refine ⟨?_, h2.symm⟩
  rw [← h3, List.map_map]
  conv => lhs; rw [← List.map_id (Lib.splitB (st [47]) 0 (Lib.count l [47]) (st l))]
  exact List.map_congr_left fun s _ => st_of s
theorem segs_len : ∀ (l x : Bl), x ∈ segs l → x.length ≤ l.length
  | [], x, h => by
    obtain rfl := List.mem_singleton.1 (show x ∈ [[]] from h)
    exact Nat.le_refl _
  | c :: l, x, h => by
    unfold segs at h
    split at h
    · rcases List.mem_cons.1 h with rfl | h
      · simp
      · have := segs_len l x h
        simp
        omega
    · split at h
      · rename_i s r hsr
        rcases List.mem_cons.1 h with rfl | h
        · have := segs_len l s (by rw [hsr]; simp)
          simp
          omega
        · have := segs_len l x (by rw [hsr]; exact List.mem_cons_of_mem _ h)
          simp
          omega
      · obtain rfl := List.mem_singleton.1 h
        simp
/-! ### What the library reads -/
structure EnvM (w : World) : Prop where
  mx : ∃ m, w.cell? ⟨0, 0, none⟩ = some (.int .i64 m)
theorem EnvM.below {w w' : World} (h : EnvM w) (hb : Below w.heap.size w w') : EnvM w' := by
  obtain ⟨m, hm⟩ := h.mx
  exact ⟨⟨m, (hb.cell (World.block_lt_of_cell? w _ hm)).trans hm⟩⟩
structure Env (w : World) : Prop where
  mx : ∃ m, w.cell? ⟨0, 0, none⟩ = some (.int .i64 m)
  tab : Lib.TabIs Tryd.prog w "internal/strconv.uint64pow10" .u64 Lib.pow10Tab
theorem gPow : Tryd.prog.globalNamed "internal/strconv.uint64pow10" = some 1 := by kernel_rfl
theorem Env.below {w w' : World} (h : Env w) (hb : Below w.heap.size w w') : Env w' := by
  obtain ⟨m, hm⟩ := h.mx
  refine ⟨⟨m, (hb.cell (World.block_lt_of_cell? w _ hm)).trans hm⟩, ?_⟩
  have ht := h.tab
  unfold Lib.TabIs at ht ⊢
  refine var?_below hb gPow ?_ ht
  unfold World.var? at ht
  rw [gPow] at ht
  simp only [Option.bind_some] at ht
  rcases Nat.lt_or_ge 1 w.heap.size with h2 | h2
  · exact h2
  · rw [Array.getElem?_eq_none h2] at ht
    cases ht
theorem Env.m {w : World} (h : Env w) : EnvM w := ⟨h.mx⟩
theorem below_dr (w : World) (q : Nat) : Below w.heap.size w (w.drewN q) := ⟨rfl, rfl, rfl, Nat.le_refl _, fun _ _ => rfl⟩
theorem below_gr (w : World) (k : Nat) (os : Array Obj) : Below w.heap.size w (Go.Sort.grow (w.drewN k) os) := by
  refine ⟨rfl, rfl, rfl, by simp [Go.Sort.grow], fun j hj => ?_⟩
  simp only [Go.Sort.grow]
  rw [Array.getElem?_append_left (by simpa using hj)]
  rfl
set_option maxRecDepth 100000 in
set_option maxHeartbeats 4000000 in
theorem prightM_v (l : Bl) (w : World) (he : EnvM w) (hs : l.length < 4294967281) : Calls Tryd.prog 64 #[.string (st l)] w fun e w' => e = .returned (.bool (prightL l)) ∧ Below w.heap.size w w' := by
  obtain ⟨m, hm⟩ := he.mx
  have hz : (st l).size = l.length := st_size l
  have HSP := Lib.hid (split_segs l)
  go_enter Tryd.func64, Tryd.ntmps64
  have SV := Tryd.strings_Split (st l) (st [47]) m w (by rw [hz]; exact hs) hm (by decide)
  rw [HSP.out.1, HSP.out.2] at SV
  go_wp2_with fail
  refine SV.mono ?_
  rintro e w1 ⟨rfl, hw1⟩
  have HB := Lib.hid (show Below w.heap.size w w1 from by rw [hw1]; exact (Below.refl _ _).alloc (Nat.le_refl _) _)
  have HC := Lib.hid (show ∀ (j : Nat) (x : Bl), (segs l)[j]? = some x → w1.cell? ⟨w.heap.size, j, none⟩ = some (.string (st x)) from fun j x hx => by
    rw [hw1]
    rw [World.cell?_alloc_at _ _ _ _ rfl, List.getElem?_toArray, List.map_map, List.getElem?_map, hx]
    rfl)
  clear hw1 SV
  obtain ⟨n, hn⟩ : ∃ n, (segs l).length = n := ⟨_, rfl⟩
  have HN := Lib.hid hn
  rw [hn]
  have hnb : n ≤ 4294967290 := by have h1 := HSP.out.2; have h2 := Lib.count_le l [47]; have h3 : Lib.countB (st l) (st [47]) = Lib.count l [47] := rfl; omega
  clear hn hz
  go_wp2_with fail
  go_loopw [5, 10] (fun _ i V => ∃ k : Nat, k ≤ n ∧ i = .int .i64 (k : Int) ∧ (∀ x ∈ (segs l).take k, nameL x = true) ∧ V = w1) (fun _ i _ => n - (intOf i).toNat)
  case atStart => exact ⟨0, Nat.zero_le _, rfl, by simp, rfl⟩
  case round =>
    obtain ⟨k, hk, rfl, hall, rfl⟩ := hrel
    have HA := Lib.hid hall
    clear hall
    by_cases hlt : k < n
    · obtain ⟨x, hx⟩ : ∃ x, (segs l)[k]? = some x := ⟨_, List.getElem?_eq_getElem (by rw [HN.out]; exact hlt)⟩
      have c0 := HC.out k x hx
      have k0 : (0 : Int) ≤ (k : Int) := by omega
      have k1 : (k : Int) < (n : Int) := by omega
      have HX := Lib.hid hx
      clear hx
      have NV := name_v (st x) wr (by have := segs_len l x (List.mem_of_getElem? HX.out); rw [st_size]; omega)
      rw [st_data] at NV
      go_wp2_with fail
      refine NV.mono ?_
      rintro e _ ⟨rfl, rfl⟩
      clear c0 NV
      cases hnx : nameL x with
      | false =>
        have HR := Lib.hid (show prightL l = false from Bool.eq_false_iff.2 fun h => by
          have := (right_iff.1 h).1 x (List.mem_of_getElem? HX.out)
          rw [hnx] at this
          cases this)
        clear hnx
        go_wp2_with fail
        go_ret
        exact ⟨by rw [HR.out]; rfl, HB.out⟩
      | true =>
        have HA2 := Lib.hid (show ∀ y ∈ (segs l).take (k + 1), nameL y = true from fun y hy => by
          rw [List.take_add_one, HX.out] at hy
          rcases List.mem_append.1 hy with hy | hy
          · exact HA.out y hy
          · obtain rfl : y = x := by simpa using hy
            exact hnx)
        clear hnx
        go_wp2_with fail
        go_roundw
        case rel => exact ⟨k + 1, hlt, by go_num, HA2.out, by trivial⟩
        case measure => simp [intOf]; omega
    · obtain rfl : k = n := by omega
      have HA2 := Lib.hid (show ∀ y ∈ segs l, nameL y = true by have h := HA.out; rwa [List.take_of_length_le (by rw [HN.out]; exact Nat.le_refl _)] at h)
      have HR := Lib.hid (show prightL l = (decide (k ≤ 4) && decide ((st l).size ≤ 64)) by
        unfold prightL
        rw [List.all_eq_true.2 HA2.out, HN.out, st_size]
        rfl)
      by_cases h4 : k ≤ 4
      · have d1 : decide ((k : Int) ≤ 4) = true := decide_eq_true (by omega)
        by_cases h5 : (st l).size ≤ 64
        · have d2 : decide (((st l).size : Int) ≤ 64) = true := decide_eq_true (by omega)
          have HR2 := Lib.hid (show prightL l = true by rw [HR.out, decide_eq_true h4, decide_eq_true h5]; rfl)
          go_wp2_with fail
          go_ret
          exact ⟨by rw [HR2.out]; rfl, HB.out⟩
        · have d2 : decide (((st l).size : Int) ≤ 64) = false := decide_eq_false (by omega)
          have HR2 := Lib.hid (show prightL l = false by rw [HR.out, decide_eq_true h4, decide_eq_false h5]; rfl)
          go_wp2_with fail
          go_ret
          exact ⟨by rw [HR2.out]; rfl, HB.out⟩
      · have d1 : decide ((k : Int) ≤ 4) = false := decide_eq_false (by omega)
        have HR2 := Lib.hid (show prightL l = false by rw [HR.out, decide_eq_false h4]; rfl)
        go_wp2_with fail
        go_ret
        exact ⟨by rw [HR2.out]; rfl, HB.out⟩
set_option maxRecDepth 100000 in
theorem pcheckM_v (l : Bl) (w : World) (he : EnvM w) : Calls Tryd.prog 48 #[.string (st l)] w fun e w' => e = .returned (.int .i64 (checkL l : Int)) ∧ Below w.heap.size w w' := by
  have hz := st_size l
  by_cases h : 64 < l.length
  · have HC := Lib.hid (show checkL l = 3 by unfold checkL; rw [if_pos h])
    have d1 : decide ((64 : Int) < ((st l).size : Int)) = true := decide_eq_true (by omega)
    clear hz
    go_enter Tryd.func48, Tryd.ntmps48
    go_wp2_with fail
    go_ret
    exact ⟨by rw [HC.out]; rfl, Below.refl _ _⟩
  · have d1 : decide ((64 : Int) < ((st l).size : Int)) = false := decide_eq_false (by omega)
    have HC := Lib.hid (show checkL l = if prightL l then 0 else 2 by unfold checkL; rw [if_neg h])
    have RV := prightM_v l w he (by omega)
    clear hz
    go_enter Tryd.func48, Tryd.ntmps48
    go_wp2_with fail
    cases hr : prightL l with
    | false =>
      rw [hr] at RV HC
      refine RV.mono ?_
      rintro e w1 ⟨rfl, b1⟩
      go_wp2_with fail
      go_ret
      exact ⟨by rw [HC.out]; rfl, b1⟩
    | true =>
      rw [hr] at RV HC
      refine RV.mono ?_
      rintro e w1 ⟨rfl, b1⟩
      go_wp2_with fail
      go_ret
      exact ⟨by rw [HC.out]; rfl, b1⟩
theorem pright_v (l : Bl) (w : World) (he : Env w) (hs : l.length < 4294967281) : Calls Tryd.prog 64 #[.string (st l)] w fun e w' => e = .returned (.bool (prightL l)) ∧ Below w.heap.size w w' := prightM_v l w he.m hs
theorem pcheck_v (l : Bl) (w : World) (he : Env w) : Calls Tryd.prog 48 #[.string (st l)] w fun e w' => e = .returned (.int .i64 (checkL l : Int)) ∧ Below w.heap.size w w' := pcheckM_v l w he.m
/-! ### The last of a byte -/
theorem last_cut (c : UInt8) (l : Bl) : (Lib.lastIndexByte (st l) (c.toNat : Int) = -1 ∧ cutL c l = none) ∨ ∃ i : Nat, i < l.length ∧ Lib.lastIndexByte (st l) (c.toNat : Int) = (i : Int) ∧ cutL c l = some (l.take i, l.drop (i + 1)) := by
  have hg : ∀ j (hj : j < l.length), (st l).data[j]! = l[j] := fun j hj => by
    rw [getElem!_pos (st l).data j (by simpa [st] using hj)]
    rfl
  rcases Lib.lastIndexByte_spec (st l) (c.toNat : Int) with ⟨h1, h2⟩ | ⟨i, hi, h1, h2, h3⟩
  · refine .inl ⟨h1, cutL_none.2 fun hm => ?_⟩
    obtain ⟨j, hj⟩ := List.mem_iff_getElem?.1 hm
    obtain ⟨hjl, he⟩ := List.getElem?_eq_some_iff.1 hj
    refine h2 j (by rw [st_size]; exact hjl) ?_
    rw [hg j hjl, he]
  · rw [st_size] at hi
    refine .inr ⟨i, hi, h1, cutL_some.2 ⟨?_, fun hm => ?_⟩⟩
    · have h4 : l[i] = c := by
        rw [hg i hi] at h2
        exact UInt8.toNat_inj.1 (by omega)
      have h5 := List.drop_eq_getElem_cons hi
      rw [h4] at h5
      rw [← h5, List.take_append_drop]
    · obtain ⟨j, hj⟩ := List.mem_iff_getElem?.1 hm
      rw [List.getElem?_drop] at hj
      obtain ⟨hjl, he⟩ := List.getElem?_eq_some_iff.1 hj
      refine h3 (i + 1 + j) (by omega) (by rw [st_size]; exact hjl) ?_
      rw [hg _ hjl, he]
set_option maxRecDepth 100000 in
theorem split_v (l : Bl) (w : World) (hs : l.length < 4294967281) : Calls Tryd.prog 61 #[.string (st l)] w fun e w' => e = .returned (.tuple #[.string (st (folderL l)), .string (st (baseL l))]) ∧ Below w.heap.size w w' := by
  have hz := st_size l
  have LV := Tryd.strings_LastIndexByte (st l) 47 (by omega) w
  rcases last_cut 47 l with ⟨h1, h2⟩ | ⟨i, hi, h1, h2⟩
  · have HF := Lib.hid (show folderL l = [] ∧ baseL l = l by unfold folderL baseL; rw [h2]; exact ⟨rfl, rfl⟩)
    rw [show Lib.lastIndexByte (st l) 47 = -1 from h1] at LV
    clear h1 h2 hz
    go_enter Tryd.func61, Tryd.ntmps61
    go_wp2_with fail
    refine LV.mono ?_
    rintro e w1 ⟨rfl, rfl⟩
    go_wp2_with fail
    go_returns
    exact ⟨by rw [HF.out.1, HF.out.2]; rfl, Below.refl _ _⟩
  · have HF := Lib.hid (show folderL l = l.take i ∧ baseL l = l.drop (i + 1) by unfold folderL baseL; rw [h2]; exact ⟨rfl, rfl⟩)
    rw [show Lib.lastIndexByte (st l) 47 = (i : Int) from h1] at LV
    clear h1
    have i0 : (0 : Int) ≤ (i : Int) := by omega
    have i1 : (i : Int) ≤ (st l).size := by omega
    have i2 : (i : Int) + 1 ≤ (st l).size := by omega
    have i3 : IntKind.i64.wrap ((i : Int) + 1) = (i : Int) + 1 := IntWalk.i64_in _ ⟨by omega, by omega⟩
    have i4 : (0 : Int) ≤ (i : Int) + 1 := by omega
    have i5 : ((i : Int) + 1).toNat = i + 1 := by omega
    have HT := Lib.hid (st_take l i)
    have HD := Lib.hid (st_drop l (i + 1))
    clear h2 hz
    go_enter Tryd.func61, Tryd.ntmps61
    go_wp2_with fail
    refine LV.mono ?_
    rintro e w1 ⟨rfl, rfl⟩
    go_upto_region 4 with fail
    go_quiet (fail)
    go_wp2_with fail
    go_returns
    exact ⟨by rw [HF.out.1, HF.out.2, ← HT.out, ← HD.out]; rfl, below_dr _ _⟩
end Go.Proofs.YtndekohimfjdeaaDoor

namespace Go.Proofs.YtndekohimfjdeaaDoor
open Go.RowKit
set_option maxRecDepth 100000 in
theorem ending_v (l : Bl) (w : World) (hs : l.length < 4294967281) : Calls Tryd.prog 62 #[.string (st l)] w fun e w' => e = .returned (.tuple #[.string (st (stemB (baseL l))), .string (st (endB (baseL l)))]) ∧ Below w.heap.size w w' := by
  have SV := split_v l w hs
  have hbl : (baseL l).length ≤ l.length := by
    rcases Classical.em ((47 : UInt8) ∈ l) with h | h
    · have := congrArg List.length ((folder_base l).1 h)
      simp only [List.length_append, List.length_singleton] at this
      omega
    · rw [((folder_base l).2 h).2]; exact Nat.le_refl _
  obtain ⟨b, hb⟩ : ∃ b, baseL l = b := ⟨_, rfl⟩
  rw [hb] at hbl SV ⊢
  clear hb
  have hz := st_size b
  have LV := fun w => Tryd.strings_LastIndexByte (st b) 46 (by omega) w
  rcases last_cut 46 b with ⟨h1, h2⟩ | ⟨i, hi, h1, h2⟩
  · have HF := Lib.hid (show stemB b = b ∧ endB b = [] by unfold stemB endB; rw [h2]; exact ⟨rfl, rfl⟩)
    rw [show Lib.lastIndexByte (st b) 46 = -1 from h1] at LV
    have LV2 := Lib.hid LV
    clear h1 h2 hz LV
    go_enter Tryd.func62, Tryd.ntmps62
    go_wp2_with fail
    refine SV.mono ?_
    rintro e w1 ⟨rfl, b1⟩
    go_wp2_with fail
    refine (LV2.out w1).mono ?_
    rintro e w2 ⟨rfl, rfl⟩
    go_wp2_with fail
    go_returns
    exact ⟨by rw [HF.out.1, HF.out.2]; rfl, b1⟩
  · have HF := Lib.hid (show stemB b = b.take i ∧ endB b = b.drop i by
      have e := cutL_some.1 h2
      unfold stemB endB
      rw [h2]
      refine ⟨rfl, ?_⟩
      exact ((congrArg (List.drop i) e.1).trans (List.drop_left' (by rw [List.length_take]; omega))).symm)
    rw [show Lib.lastIndexByte (st b) 46 = (i : Int) from h1] at LV
    have LV2 := Lib.hid LV
    have i0 : (0 : Int) ≤ (i : Int) := by omega
    have i1 : (i : Int) ≤ (st b).size := by omega
    have HT := Lib.hid (st_take b i)
    have HD := Lib.hid (st_drop b i)
    clear h1 h2 hz LV
    go_enter Tryd.func62, Tryd.ntmps62
    go_wp2_with fail
    refine SV.mono ?_
    rintro e w1 ⟨rfl, b1⟩
    go_wp2_with fail
    refine (LV2.out w1).mono ?_
    rintro e w2 ⟨rfl, rfl⟩
    go_upto_region 5 with fail
    go_quiet (fail)
    go_wp2_with fail
    go_returns
    exact ⟨by rw [HF.out.1, HF.out.2, ← HT.out, ← HD.out]; rfl, below_drewN b1 _⟩
/-- Split and Ending ask first whether it is a path. -/
def splitP (l : Bl) : Bl × Bl := if checkL l = 0 then (folderL l, baseL l) else ([], [])
def endP (l : Bl) : Bl × Bl := if checkL l = 0 then (stemB (baseL l), endB (baseL l)) else ([], [])
theorem check_len {l : Bl} (h : checkL l = 0) : l.length ≤ 64 := (right_iff.1 (check_zero.1 h)).2.2
end Go.Proofs.YtndekohimfjdeaaDoor

namespace Go.Proofs.YtndekohimfjdeaaDoor
open Go.RowKit
theorem tw_len {p : UInt8 → Bool} : ∀ {l : Bl} {k : Nat}, (∀ x ∈ l.take k, p x = true) → (k = l.length ∨ ∃ c, l[k]? = some c ∧ p c = false) → (l.takeWhile p).length = k
  | [], k, _, h => by
    rcases h with h | ⟨c, h, _⟩
    · simpa using h.symm
    · simp at h
  | x :: l, 0, _, h => by
    rcases h with h | ⟨c, h, hc⟩
    · simp at h
    · obtain rfl : x = c := by simpa using h
      rw [List.takeWhile_cons, if_neg (by rw [hc]; simp)]
      rfl
  | x :: l, k + 1, ha, h => by
    rw [List.takeWhile_cons, if_pos (ha x (by simp)), List.length_cons]
    congr 1
    refine tw_len (fun y hy => ha y (by rw [List.take_succ_cons]; exact List.mem_cons_of_mem _ hy)) ?_
    rcases h with h | ⟨c, h, hc⟩
    · left; simpa using h
    · right; exact ⟨c, by simpa using h, hc⟩
theorem dig_iff {c : UInt8} : dig c = true ↔ 48 ≤ c.toNat ∧ c.toNat ≤ 57 := by
  unfold dig
  rw [Bool.and_eq_true, decide_eq_true_eq, decide_eq_true_eq]
theorem st_index (l : Bl) (p : Nat) (c : UInt8) (hc : l[p]? = some c) (V : World) : (Instr.index 9 (.string (st l)) (.int .i64 (p : Int))).run Tryd.prog V = .ok (.int .u8 (c.toNat : Int)) V := by
  obtain ⟨hp, he⟩ := List.getElem?_eq_some_iff.1 hc
  rw [run_index_string V 9 (st l) .i64 (p : Int) Tryd.underlying9, dif_pos ⟨by omega, by rw [st_size]; omega⟩]
  have e : (st l)[((p : Int)).toNat]'(by rw [st_size]; simpa using hp) = c := by
    have h2 := at_data (st l) (k := p) (by rw [st_size]; exact hp)
    rw [st_data, hc] at h2
    simp only [Int.toNat_natCast]
    exact (Option.some.inj h2).symm
  rw [e]
/-- A row of digits spells its number. -/
theorem atoi_dig : ∀ (l : Bl), (∀ x ∈ l, dig x = true) → l ≠ [] → Lib.atoi l = some (numB l : Int) := by
  have key : ∀ (l : Bl) (a : Nat), (∀ x ∈ l, dig x = true) → Lib.decFrom a l = some (l.foldl (fun a c => a * 10 + (c.toNat - 48)) a) := by
    intro l
    induction l with
    | nil => intro a _; rfl
    | cons c l ih =>
      intro a h
      have hc := dig_iff.1 (h c List.mem_cons_self)
      unfold Lib.decFrom Lib.digitVal
      rw [if_pos hc]
      exact ih _ fun x hx => h x (List.mem_cons_of_mem _ hx)
  intro l h hne
  cases l with
  | nil => exact absurd rfl hne
  | cons c l =>
    have hc := dig_iff.1 (h c List.mem_cons_self)
    have n1 : (c == 45) = false := beq_eq_false_iff_ne.2 fun e => by rw [e] at hc; revert hc; decide
    have n2 : (c == 43) = false := beq_eq_false_iff_ne.2 fun e => by rw [e] at hc; revert hc; decide
    unfold Lib.atoi Lib.decNat
    simp only [n1, n2, Bool.false_eq_true, if_false, List.isEmpty_cons]
    rw [key _ 0 h]
    rfl
theorem digits_tail (l : Bl) : (∀ x ∈ l.drop (l.length - digitsL l), dig x = true) ∧ digitsL l ≤ l.length := by
  have h1 : digitsL l ≤ l.length := by
    unfold digitsL
    have := (List.takeWhile_prefix (l := l.reverse) dig).length_le
    rwa [List.length_reverse] at this
  refine ⟨fun x hx => ?_, h1⟩
  have h2 : l.drop (l.length - digitsL l) = (l.reverse.take (digitsL l)).reverse := by rw [List.reverse_take, List.reverse_reverse, List.length_reverse]
  rw [h2, List.mem_reverse] at hx
  unfold digitsL at hx
  rw [← List.prefix_iff_eq_take.1 (List.takeWhile_prefix _)] at hx
  exact List.all_eq_true.1 List.all_takeWhile x hx
theorem suffix_lib (p q : Bl) : Lib.hasSuffix p q = decide (q <:+ p) := by
  unfold Lib.hasSuffix
  cases h : q.isSuffixOf p with
  | true => exact (decide_eq_true (List.isSuffixOf_iff_suffix.1 h)).symm
  | false => exact (decide_eq_false fun h2 => by rw [List.isSuffixOf_iff_suffix.2 h2] at h; cases h).symm
theorem trim_lib {p q : Bl} : Lib.trimSuffix p q = if q <:+ p then p.take (p.length - q.length) else p := by
  unfold Lib.trimSuffix
  rw [suffix_lib]
  simp only [decide_eq_true_eq]
end Go.Proofs.YtndekohimfjdeaaDoor

namespace Go.Proofs.YtndekohimfjdeaaDoor
open Go.RowKit
def mN (s : Bl) : Nat := digitsL s
def mP (s : Bl) : Bl := s.take (s.length - mN s)
def mR (s : Bl) : Bl := Lib.trimSuffix (mP s) [45]
def mM (s : Bl) : Nat := digitsL (mR s)
def mQ (s : Bl) : Bl := (mR s).take ((mR s).length - mM s)
def mA (s : Bl) : Bl := Lib.trimSuffix (mQ s) [46, 99]
theorem marked_eq (s : Bl) : markedL s = if Lib.hasSuffix (mP s) [45] = true ∧ Lib.hasSuffix (mQ s) [46, 99] = true ∧ mN s ≠ 0 ∧ mM s ≠ 0 ∧ mN s ≤ 3 ∧ mM s ≤ 2 then some (mA s, numB ((mR s).drop ((mR s).length - mM s)), numB (s.drop (s.length - mN s))) else none := by
  have e0 : markedL s = (if ¬ [45] <:+ mP s then none else (fun r => (fun m => (fun q => if ¬ [46, 99] <:+ q then none else if mN s = 0 ∨ m = 0 ∨ 3 < mN s ∨ 2 < m then none else some (q.take (q.length - 2), numB (r.drop (r.length - m)), numB (s.drop (s.length - mN s)))) (r.take (r.length - m))) (digitsL r)) ((mP s).take ((mP s).length - 1))) := rfl
  rw [e0, suffix_lib, suffix_lib]
  by_cases h1 : [45] <:+ mP s
  · have hR : (mP s).take ((mP s).length - 1) = mR s := by unfold mR; rw [trim_lib, if_pos h1]; rfl
    rw [if_neg (Classical.not_not.2 h1), hR]
    show (if ¬ [46, 99] <:+ mQ s then none else if mN s = 0 ∨ mM s = 0 ∨ 3 < mN s ∨ 2 < mM s then none else some ((mQ s).take ((mQ s).length - 2), numB ((mR s).drop ((mR s).length - mM s)), numB (s.drop (s.length - mN s)))) = _
    by_cases h2 : [46, 99] <:+ mQ s
    · have hA : (mQ s).take ((mQ s).length - 2) = mA s := by unfold mA; rw [trim_lib, if_pos h2]; rfl
      rw [if_neg (Classical.not_not.2 h2), hA]
      by_cases h3 : mN s = 0 ∨ mM s = 0 ∨ 3 < mN s ∨ 2 < mM s
      · rw [if_pos h3, if_neg (by rintro ⟨_, _, _, _, _, _⟩; omega)]
      · rw [if_neg h3, if_pos ⟨decide_eq_true h1, decide_eq_true h2, by omega, by omega, by omega, by omega⟩]
    · rw [if_pos h2, if_neg (by rintro ⟨_, h, _⟩; rw [decide_eq_false h2] at h; cases h)]
  · rw [if_pos h1, if_neg (by rintro ⟨h, _⟩; rw [decide_eq_false h1] at h; cases h)]
theorem mR_len (s : Bl) : (mR s).length ≤ s.length := by
  unfold mR mP
  rw [trim_lib]
  split
  · rw [List.length_take, List.length_take]; omega
  · rw [List.length_take]; omega
theorem mN_le (s : Bl) : mN s ≤ s.length := (digits_tail s).2
theorem mM_le (s : Bl) : mM s ≤ (mR s).length := (digits_tail (mR s)).2
end Go.Proofs.YtndekohimfjdeaaDoor

namespace Go.Proofs.YtndekohimfjdeaaDoor
open Go.RowKit
theorem itoa_v (k : Nat) (w : World) (he : Env w) (hk : k ≤ 1000000) : Calls Tryd.prog 63 #[.int .i64 (k : Int)] w fun e w' => e = .returned (.string (st (dec k))) ∧ Below w.heap.size w w' := by
  refine (Tryd.strconv_Itoa (k : Int) (by omega) (by omega) w he.tab).mono ?_
  rintro e w' ⟨rfl, q, os, rfl⟩
  refine ⟨?_, below_gr w q os⟩
  unfold Lib.itoa
  rw [if_neg (by omega), Int.toNat_natCast]
  rfl
theorem str_empty (l : Bl) : (st l).toList.isEmpty = decide (l = []) := by
  rw [ByteArray.toList_eq, st_data]
  cases l <;> rfl
set_option maxRecDepth 100000 in
set_option maxHeartbeats 8000000 in
theorem copy_v (l : Bl) (d n : Int) (w : World) (he : Env w) : Calls Tryd.prog 44 #[.string (st l), .int .i64 d, .int .i64 n] w fun e w' => e = .returned (.tuple #[.string (st (copyL l d n).1), .int .i64 ((copyL l d n).2 : Int)]) ∧ Below w.heap.size w w' := by
  have CV := pcheck_v l w he
  obtain ⟨k, hk⟩ : ∃ k, checkL l = k := ⟨_, rfl⟩
  have HK := Lib.hid hk
  rw [hk] at CV
  clear hk
  have HC := Lib.hid (show copyL l d n = _ from rfl)
  go_enter Tryd.func44, Tryd.ntmps44
  go_wp2_with fail
  refine CV.mono ?_
  rintro e w1 ⟨rfl, b1⟩
  have E1 := Lib.hid (he.below b1)
  have B1 := Lib.hid b1
  clear b1 CV HC
  by_cases h : k = 0
  case neg =>
    have HS := Lib.hid (show copyL l d n = ([], k) by unfold copyL; rw [if_pos (by rw [HK.out]; exact h), HK.out])
    have d1 : ((k : Int) != 0) = true := by simp; omega
    clear h
    go_wp2_with fail
    go_returns
    exact ⟨by rw [HS.out]; rfl, B1.out⟩
  subst h
  have d1 : (((0 : Nat) : Int) != 0) = false := rfl
  have HBD : Hid ((d < 1 ∨ 99 < d ∨ n < 0 ∨ 999 < n) → copyL l d n = ([], 2)) := Lib.hid fun h => by unfold copyL; rw [if_neg (by rw [HK.out]; simp), if_pos h]
  by_cases a1 : d < 1
  · have HS := Lib.hid (HBD.out (.inl a1))
    have f1 : decide (d < 1) = true := decide_eq_true a1
    clear a1
    go_wp2_with fail
    go_returns
    exact ⟨by rw [HS.out]; rfl, B1.out⟩
  by_cases a2 : 99 < d
  · have HS := Lib.hid (HBD.out (.inr (.inl a2)))
    have f1 : decide (d < 1) = false := decide_eq_false a1
    have f2 : decide (99 < d) = true := decide_eq_true a2
    clear a1 a2
    go_wp2_with fail
    go_returns
    exact ⟨by rw [HS.out]; rfl, B1.out⟩
  by_cases a3 : n < 0
  · have HS := Lib.hid (HBD.out (.inr (.inr (.inl a3))))
    have f1 : decide (d < 1) = false := decide_eq_false a1
    have f2 : decide (99 < d) = false := decide_eq_false a2
    have f3 : decide (n < 0) = true := decide_eq_true a3
    clear a1 a2 a3
    go_wp2_with fail
    go_returns
    exact ⟨by rw [HS.out]; rfl, B1.out⟩
  by_cases a4 : 999 < n
  · have HS := Lib.hid (HBD.out (.inr (.inr (.inr a4))))
    have f1 : decide (d < 1) = false := decide_eq_false a1
    have f2 : decide (99 < d) = false := decide_eq_false a2
    have f3 : decide (n < 0) = false := decide_eq_false a3
    have f4 : decide (999 < n) = true := decide_eq_true a4
    clear a1 a2 a3 a4
    go_wp2_with fail
    go_returns
    exact ⟨by rw [HS.out]; rfl, B1.out⟩
  obtain ⟨d', rfl⟩ : ∃ d' : Nat, d = (d' : Int) := ⟨d.toNat, by omega⟩
  obtain ⟨n', rfl⟩ : ∃ n' : Nat, n = (n' : Int) := ⟨n.toNat, by omega⟩
  have HS := Lib.hid (show copyL l (d' : Int) (n' : Int) = if prightL (copyOut l d' n') then (copyOut l d' n', 0) else ([], 3) by
    unfold copyL
    rw [if_neg (by rw [HK.out]; simp), if_neg (by omega), Int.toNat_natCast, Int.toNat_natCast])
  have hd : d' ≤ 99 := by omega
  have hn : n' ≤ 999 := by omega
  have f1 : decide ((d' : Int) < 1) = false := decide_eq_false a1
  have f2 : decide ((99 : Int) < (d' : Int)) = false := decide_eq_false a2
  have f3 : decide ((n' : Int) < 0) = false := decide_eq_false a3
  have f4 : decide ((999 : Int) < (n' : Int)) = false := decide_eq_false a4
  clear a1 a2 a3 a4 HBD
  have hl := check_len HK.out
  have SV := Lib.hid (fun w => split_v l w (by omega))
  have EV := Lib.hid (fun w => ending_v l w (by omega))
  have HL := Lib.hid (show (folderL l).length ≤ 64 ∧ (stemB (baseL l)).length ≤ 64 ∧ (endB (baseL l)).length ≤ 64 by
    have e := congrArg List.length (stem_end (baseL l))
    rw [List.length_append] at e
    by_cases hm : (47 : UInt8) ∈ l
    · have := congrArg List.length ((folder_base l).1 hm)
      simp only [List.length_append, List.length_singleton] at this
      omega
    · obtain ⟨e1, e2⟩ := (folder_base l).2 hm
      rw [e1]
      rw [e2] at e ⊢
      simp only [List.length_nil]
      omega)
  have HO := Lib.hid (show copyOut l d' n' = joinF (folderL l) (stemB (baseL l) ++ markL d' n' ++ endB (baseL l)) from rfl)
  obtain ⟨f, hf⟩ : ∃ x, folderL l = x := ⟨_, rfl⟩
  obtain ⟨s, hs⟩ : ∃ x, stemB (baseL l) = x := ⟨_, rfl⟩
  obtain ⟨y, hy⟩ : ∃ x, endB (baseL l) = x := ⟨_, rfl⟩
  rw [hf, hs, hy] at HL HO
  rw [hf] at SV
  rw [hs, hy] at EV
  clear hf hs hy
  have l1 := dec_len (n := d') (k := 2) (by decide) (by omega)
  have l2 := dec_len (n := n') (k := 3) (by decide) (by omega)
  have HT := Lib.hid (show s ++ markL d' n' ++ y = s ++ [46, 99] ++ dec d' ++ [45] ++ dec n' ++ y by simp [markL])
  rw [HT.out] at HO
  obtain ⟨z, hz⟩ : ∃ x, s ++ [46, 99] ++ dec d' ++ [45] ++ dec n' ++ y = x := ⟨_, rfl⟩
  have hzl : (st z).size ≤ 1000 := by rw [st_size, ← hz]; simp only [List.length_append, List.length_cons, List.length_nil]; have := HL.out; omega
  have z0 : (st s).size ≤ 1000 := by rw [st_size]; have := HL.out; omega
  have z1 : (st (s ++ [46, 99])).size ≤ 1000 := by rw [st_size]; simp only [List.length_append, List.length_cons, List.length_nil]; have := HL.out; omega
  have z2 : (st (s ++ [46, 99] ++ dec d')).size ≤ 1000 := by rw [st_size]; simp only [List.length_append, List.length_cons, List.length_nil]; have := HL.out; omega
  have z3 : (st (s ++ [46, 99] ++ dec d' ++ [45])).size ≤ 1000 := by rw [st_size]; simp only [List.length_append, List.length_cons, List.length_nil]; have := HL.out; omega
  have z4 : (st (s ++ [46, 99] ++ dec d' ++ [45] ++ dec n')).size ≤ 1000 := by rw [st_size]; simp only [List.length_append, List.length_cons, List.length_nil]; have := HL.out; omega
  have y0 : (st y).size ≤ 1000 := by rw [st_size]; have := HL.out; omega
  have y1 : (st (dec d')).size ≤ 1000 := by rw [st_size]; omega
  have y2 : (st (dec n')).size ≤ 1000 := by rw [st_size]; omega
  have e1 : st s ++ (⟨#[46, 99]⟩ : ByteArray) = st (s ++ [46, 99]) := st_app s [46, 99]
  have e2 : st (s ++ [46, 99]) ++ st (dec d') = st (s ++ [46, 99] ++ dec d') := st_app _ _
  have e3 : st (s ++ [46, 99] ++ dec d') ++ (⟨#[45]⟩ : ByteArray) = st (s ++ [46, 99] ++ dec d' ++ [45]) := st_app _ [45]
  have e4 : st (s ++ [46, 99] ++ dec d' ++ [45]) ++ st (dec n') = st (s ++ [46, 99] ++ dec d' ++ [45] ++ dec n') := st_app _ _
  have e5 : st (s ++ [46, 99] ++ dec d' ++ [45] ++ dec n') ++ st y = st z := by rw [st_app, hz]
  rw [hz] at HO
  have HLE := Lib.hid (And.intro l1 l2)
  clear hz HT l1 l2
  generalize s ++ [46, 99] ++ dec d' ++ [45] ++ dec n' = s4 at *
  generalize s ++ [46, 99] ++ dec d' ++ [45] = s3 at *
  generalize s ++ [46, 99] ++ dec d' = s2 at *
  generalize s ++ [46, 99] = s1 at *
  have I1 := Lib.hid (fun w hw => itoa_v d' w hw (by omega))
  have I2 := Lib.hid (fun w hw => itoa_v n' w hw (by omega))
  generalize dec d' = dd at *
  generalize dec n' = dn at *
  go_wp2_with fail
  refine (SV.out w1).mono ?_
  rintro e w2 ⟨rfl, b2⟩
  have B2 := Lib.hid (B1.out.trans (b2.mono B1.out.size))
  have E2 := Lib.hid (E1.out.below b2)
  clear b2 B1 E1
  go_wp2_with fail
  refine (EV.out w2).mono ?_
  rintro e w3 ⟨rfl, b3⟩
  have B3 := Lib.hid (B2.out.trans (b3.mono B2.out.size))
  have E3 := Lib.hid (E2.out.below b3)
  clear b3 B2 E2
  go_wp2_with fail
  refine (I1.out w3 E3.out).mono ?_
  rintro e w4 ⟨rfl, b4⟩
  have B4 := Lib.hid (B3.out.trans (b4.mono B3.out.size))
  have E4 := Lib.hid (E3.out.below b4)
  clear b4 B3 E3
  go_wp2_with fail
  refine (I2.out w4 E4.out).mono ?_
  rintro e w5 ⟨rfl, b5⟩
  have B5 := Lib.hid (B4.out.trans (b5.mono B4.out.size))
  have E5 := Lib.hid (E4.out.below b5)
  clear b5 B4 E4
  have FIN : ∀ (o : Bl), copyOut l d' n' = o → o.length ≤ 2000 → ∀ (w : World), Env w → Calls Tryd.prog 64 #[.string (st o)] w fun e w' => e = .returned (.bool (prightL o)) ∧ Below w.heap.size w w' := fun o _ ho w hw => pright_v o w hw (by omega)
  have HF2 := Lib.hid FIN
  clear FIN
  by_cases hfe : f = []
  · have q0 : (st f).toList.isEmpty = true := by rw [str_empty]; exact decide_eq_true hfe
    have HO2 := Lib.hid (show copyOut l d' n' = z by rw [HO.out]; unfold joinF; rw [if_pos hfe])
    have RV := HF2.out z HO2.out (by rw [← st_size]; omega) w5 E5.out
    obtain ⟨b, hb⟩ : ∃ b, prightL z = b := ⟨_, rfl⟩
    rw [hb] at RV
    have HS2 := Lib.hid (show copyL l (d' : Int) (n' : Int) = if b then (z, 0) else ([], 3) by rw [HS.out, HO2.out, hb])
    clear hb hfe
    go_wp2_with fail
    refine RV.mono ?_
    rintro e w6 ⟨rfl, b6⟩
    have B6 := Lib.hid (B5.out.trans (b6.mono B5.out.size))
    clear b6 RV
    cases b with
    | false =>
      go_wp2_with fail
      go_returns
      exact ⟨by rw [HS2.out]; rfl, B6.out⟩
    | true =>
      go_wp2_with fail
      go_returns
      exact ⟨by rw [HS2.out]; rfl, B6.out⟩
  · have q0 : (st f).toList.isEmpty = false := by rw [str_empty]; exact decide_eq_false hfe
    have g1 : st f ++ (⟨#[47]⟩ : ByteArray) = st (f ++ [47]) := st_app f [47]
    have g2 : st (f ++ [47]) ++ st z = st (f ++ [47] ++ z) := st_app _ _
    have u0 : (st f).size ≤ 1000 := by rw [st_size]; have := HL.out; omega
    have u1 : (st (f ++ [47])).size ≤ 1000 := by rw [st_size]; simp only [List.length_append, List.length_cons, List.length_nil]; have := HL.out; omega
    have HO2 := Lib.hid (show copyOut l d' n' = f ++ [47] ++ z by rw [HO.out]; unfold joinF; rw [if_neg hfe])
    have RV := HF2.out (f ++ [47] ++ z) HO2.out (by have := HL.out; have := st_size z; simp only [List.length_append, List.length_cons, List.length_nil]; omega) w5 E5.out
    obtain ⟨b, hb⟩ : ∃ b, prightL (f ++ [47] ++ z) = b := ⟨_, rfl⟩
    rw [hb] at RV
    have HS2 := Lib.hid (show copyL l (d' : Int) (n' : Int) = if b then (f ++ [47] ++ z, 0) else ([], 3) by rw [HS.out, HO2.out, hb])
    clear hb hfe
    generalize f ++ [47] ++ z = o at *
    go_wp2_with fail
    refine RV.mono ?_
    rintro e w6 ⟨rfl, b6⟩
    have B6 := Lib.hid (B5.out.trans (b6.mono B5.out.size))
    clear b6 RV
    cases b with
    | false =>
      go_wp2_with fail
      go_returns
      exact ⟨by rw [HS2.out]; rfl, B6.out⟩
    | true =>
      go_wp2_with fail
      go_returns
      exact ⟨by rw [HS2.out]; rfl, B6.out⟩
end Go.Proofs.YtndekohimfjdeaaDoor

namespace Go.Proofs.YtndekohimfjdeaaDoor
open Go.RowKit
section
variable {α : Type} {K : Nat} {enc : α → List Value} (hk : ∀ x, (enc x).length = K)
include hk
theorem flat_len (l : List α) : (l.flatMap enc).length = l.length * K := by
  induction l with
  | nil => simp
  | cons x l ih => rw [List.flatMap_cons, List.length_append, hk, ih, List.length_cons, Nat.succ_mul, Nat.add_comm]
theorem flat_drop (l : List α) : ∀ k, (l.flatMap enc).drop (k * K) = (l.drop k).flatMap enc := by
  induction l with
  | nil => intro k; simp
  | cons x l ih =>
    intro k
    cases k with
    | zero => simp
    | succ k => rw [List.flatMap_cons, List.drop_succ_cons, ← ih k, List.drop_append, hk, List.drop_of_length_le (by rw [hk, Nat.succ_mul]; omega), List.nil_append, Nat.succ_mul, Nat.add_sub_cancel]
theorem flat_take (l : List α) : ∀ k, (l.flatMap enc).take (k * K) = (l.take k).flatMap enc := by
  induction l with
  | nil => intro k; simp
  | cons x l ih =>
    intro k
    cases k with
    | zero => simp
    | succ k => rw [List.flatMap_cons, List.take_succ_cons, List.flatMap_cons, ← ih k, List.take_append, hk, List.take_of_length_le (by rw [hk, Nat.succ_mul]; omega), Nat.succ_mul, Nat.add_sub_cancel]
theorem flat_at (l : List α) {k : Nat} {x : α} (h : l[k]? = some x) {i : Nat} (hi : i < K) : (l.flatMap enc)[k * K + i]? = (enc x)[i]? := by
  have h1 := flat_drop hk l k
  have h2 : (l.drop k).flatMap enc = enc x ++ (l.drop (k + 1)).flatMap enc := by
    obtain ⟨hl, he⟩ := List.getElem?_eq_some_iff.1 h
    rw [List.drop_eq_getElem_cons hl, he, List.flatMap_cons]
  rw [← List.getElem?_drop, h1, h2, List.getElem?_append_left (by rw [hk]; exact hi)]
end
section
variable {P : Program} {w : World}
theorem run_loadVar_slot (ad : Addr) (ty : TypeId) (vs : List Value) (d : TypeDesc) (hc : ∀ j v, vs[j]? = some v → w.cell? (ad.add j) = some v)
    (hu : P.underlying ty = some d) (hd : (match d with | .struct _ | .array _ _ => true | _ => false) = true) (hi : (P.info? ty).map (·.size) = some vs.length) :
    (loadVar ty ad).run P w = .ok (.agg vs.toArray) w := by
  have hl := run_loadCells_list (P := P) w ad vs hc
  cases hq : P.info? ty with
  | none => simp [hq] at hi
  | some i =>
    have hs : i.size = vs.length := by simpa [hq] using hi
    have hagg : (isAgg ty).run P w = .ok true w := by
      unfold isAgg
      rw [Sem.run_bind, run_underlying hu w]
      cases d <;> simp_all
    simp [loadVar, Sem.run_bind, hagg, sizeOf, typeInfo, hq, hs, hl]
theorem exec_load_slot {ρ : Operand → Value} {o : Oper} (ty : TypeId) (x : Operand) (ho : o.op = .load ty x) (ad : Addr) (hx : ρ x = .pointer (some ad)) (vs : List Value) (d : TypeDesc)
    (hc : ∀ j v, vs[j]? = some v → w.cell? (ad.add j) = some v)
    (hu : P.underlying ty = some d) (hd : (match d with | .struct _ | .array _ _ => true | _ => false) = true) (hi : (P.info? ty).map (·.size) = some vs.length) :
    (execOp ρ o).run P w = .ok (.value (.agg vs.toArray)) w := by
  unfold execOp
  simp only [ho, hx, Instr.loadAt, Instr.sureAddr, Sem.run_bind, Sem.run_pure, Result.andThen_ok, run_loadVar_slot ad ty vs d hc hu hd hi]
theorem wpList_load_slot {ops : Array Oper} {rest : List Oper} {o : Oper} {a : Act} {Q : Exit → Act → World → Prop} (hw : Region.wanted o (yielded ops a.tmps) = true) (ty : TypeId) (x : Operand) (ho : o.op = .load ty x)
    (ad : Addr) (hx : a.eval x = .pointer (some ad)) (vs : List Value) (d : TypeDesc) (hc : ∀ j v, vs[j]? = some v → w.cell? (ad.add j) = some v)
    (hu : P.underlying ty = some d) (hd : (match d with | .struct _ | .array _ _ => true | _ => false) = true) (hi : (P.info? ty).map (·.size) = some vs.length)
    (h : wpList P ops Q rest (a.put o.dst (.agg vs.toArray)) w) : wpList P ops Q (o :: rest) a w := by
  rw [wpList, if_pos hw]
  refine .inl ?_
  unfold Oper.wp
  rw [exec_load_slot ty x ho ad hx vs d hc hu hd hi]
  exact h
theorem seg_row {L vs : List Value} {o : Nat} (h : o + vs.length ≤ L.length) : (L.take o ++ vs ++ L.drop (o + vs.length)).length = L.length := by simp; omega
theorem seg_take {L vs : List Value} {o c n : Nat} (hv : vs.length = c) (h1 : o + c ≤ n) (h2 : n ≤ L.length) :
    (L.take o ++ vs ++ L.drop (o + c)).take n = (L.take n).take o ++ vs ++ (L.take n).drop (o + c) := by
  rw [List.take_append, List.take_of_length_le (by simp; omega), List.take_take, Nat.min_eq_left (show o ≤ n by omega), List.drop_take]
  congr 2
  simp
  omega
/-- A whole slot is written. -/
theorem run_store_own {base n cap g k K : Nat} {e ty : TypeId} {xs vs : List Value} (hown : w.ownsRow base e K (.slice (some ⟨g, 0, none⟩) n cap) n xs) (hk : k < n) (hl : vs.length = K) (h1 : ∀ v ∈ vs, v.oneCell' = true)
    (hi : (P.info? ty).map (·.size) = some K) :
    ∃ w', (storeVar ty ⟨g, k * K, none⟩ (.agg vs.toArray)).run P w = .ok () w' ∧ w'.ownsRow base e K (.slice (some ⟨g, 0, none⟩) n cap) n (xs.take (k * K) ++ vs ++ xs.drop (k * K + K)) ∧ w.grownBy w' (some g) ∧ w'.heap.size = w.heap.size := by
  rcases hown.2 with ⟨h, _⟩ | ⟨g', cap', cur, h, hbg, hg, hnc, hcm, hcs, htake⟩
  · simp at h
  · simp only [Value.slice.injEq, Option.some.injEq, Addr.mk.injEq, and_true, true_and] at h
    obtain ⟨rfl, rfl⟩ := h
    have hkn : k * K + K ≤ n * K := by rw [← Nat.succ_mul]; exact Nat.mul_le_mul_right _ hk
    have hnk : n * K ≤ cap * K := Nat.mul_le_mul_right _ hnc
    have hst := run_storeCells_at P g (k * K) e vs 0 cur w hg (by rw [hl, hcs]; omega) h1
    simp only [Nat.add_zero] at hst
    cases hq : P.info? ty with
    | none => simp [hq] at hi
    | some i =>
      have hs : i.size = K := by simpa [hq] using hi
      rw [hl] at hst
      have hrun : (storeVar ty ⟨g, k * K, none⟩ (.agg vs.toArray)).run P w = .ok () (w.setRow g (cur.toList.take (k * K) ++ vs ++ cur.toList.drop (k * K + K)).toArray) := by
        simpa [storeVar, sizeOf, typeInfo, hq, Value.cells, hs, hl] using hst
      refine ⟨_, hrun, ⟨?_, .inr ⟨g, cap, _, rfl, hbg, setRow_heap w g cur _ e _ hg, hnc, hcm, ?_, ?_⟩⟩, ⟨rfl, rfl, rfl, by simp, fun j _ hj => setRow_other w g j _ (fun e => hj (by simp [e]))⟩, by simp⟩
      · have := seg_row (L := xs) (vs := vs) (o := k * K) (by rw [hl, hown.1]; exact hkn)
        rw [hl] at this
        rw [this, hown.1]
      · have := seg_row (L := cur.toList) (vs := vs) (o := k * K) (by rw [hl, Array.length_toList, hcs]; omega)
        rw [hl] at this
        rw [List.size_toArray, this, Array.length_toList, hcs]
      · rw [← htake]
        exact seg_take hl hkn (by rw [Array.length_toList, hcs]; exact hnk)
theorem wpList_store_own {ops : Array Oper} {rest : List Oper} {o : Oper} {a : Act} {Q : Exit → Act → World → Prop} (hw : Region.wanted o (yielded ops a.tmps) = true) (ty : TypeId) (x y : Operand) (ho : o.op = .store ty x y)
    (base n cap g k K : Nat) (e : TypeId) (xs vs : List Value) (hx : a.eval x = .pointer (some ⟨g, k * K, none⟩)) (hy : a.eval y = .agg vs.toArray)
    (hown : w.ownsRow base e K (.slice (some ⟨g, 0, none⟩) n cap) n xs) (hk : k < n) (hl : vs.length = K) (h1 : ∀ v ∈ vs, v.oneCell' = true) (hi : (P.info? ty).map (·.size) = some K)
    (h : ∀ w', w'.ownsRow base e K (.slice (some ⟨g, 0, none⟩) n cap) n (xs.take (k * K) ++ vs ++ xs.drop (k * K + K)) → w.grownBy w' (some g) → w'.heap.size = w.heap.size → wpList P ops Q rest (a.put o.dst undef) w') : wpList P ops Q (o :: rest) a w := by
  obtain ⟨w', hr, h2, h3, h4⟩ := run_store_own (P := P) (ty := ty) hown hk hl h1 hi
  rw [wpList, if_pos hw]
  refine .inl ?_
  unfold Oper.wp execOp
  simp only [ho, hx, hy, Instr.storeAt, Instr.sureAddr, Sem.run_bind, Sem.run_pure, Result.andThen_ok, hr]
  exact h w' h2 h3 h4
/-- What lies behind an own row is cleared; the row stands. -/
theorem run_clear_own {base cap g m q K : Nat} {t e ty : TypeId} {z : Value} {xs : List Value} (ht : P.underlying t = some (.slice e)) (hz : ∀ w, (zeroValue e).run P w = .ok z w) (hzs : z.cells.size = K) (hK : 0 < K) (hz1 : ∀ v ∈ z.cells.toList, v.oneCell' = true)
    (hown : w.ownsRow base e K (.slice (some ⟨g, 0, none⟩) m cap) m xs) (hm : m + q ≤ cap) (A : Option Addr) (hA : 0 < q → A = some ⟨g, m * K, none⟩) (c : Nat) :
    ∃ w', (Builtin.clear_ #[t] ty #[.slice A q c]).run P w = .ok (.tuple #[]) w' ∧ w'.ownsRow base e K (.slice (some ⟨g, 0, none⟩) m cap) m xs ∧ w.grownBy w' (some g) ∧ w'.heap.size = w.heap.size := by
  rcases q with _ | q
  · exact ⟨w, by cases A <;> simp [Builtin.clear_, run_underlying ht], hown, World.grownBy.refl w _, rfl⟩
  obtain rfl := hA (Nat.succ_pos _)
  rcases hown.2 with ⟨h, _⟩ | ⟨g', cap', cur, h, hbg, hg, hnc, hcm, hcs, htake⟩
  · simp at h
  · simp only [Value.slice.injEq, Option.some.injEq, Addr.mk.injEq, and_true, true_and] at h
    obtain ⟨rfl, rfl⟩ := h
    have hmk : m * K + (q + 1) * K ≤ cap * K := by rw [← Nat.add_mul]; exact Nat.mul_le_mul_right _ hm
    have hzl : (Builtin.zeroCells z.cells (q + 1)).toList.length = (q + 1) * K := by rw [Array.length_toList, size_zeroCells, hzs]
    have hst := run_storeCells_at P g (m * K) e (Builtin.zeroCells z.cells (q + 1)).toList 0 cur w hg (by rw [hzl, hcs]; omega) (fun v hv => by
      simp only [Builtin.zeroCells, Array.toList_map, List.mem_map] at hv
      obtain ⟨i, _, rfl⟩ := hv
      have hlt : i % z.cells.size < z.cells.size := Nat.mod_lt _ (by omega)
      rw [getElem!_pos z.cells _ hlt]
      exact hz1 _ (by rw [← Array.getElem_toList]; exact List.getElem_mem _))
    simp only [Nat.add_zero] at hst
    have hrun : (Builtin.clear_ #[t] ty #[.slice (some ⟨g, m * K, none⟩) (q + 1) c]).run P w = .ok (.tuple #[]) (w.setRow g (cur.toList.take (m * K) ++ (Builtin.zeroCells z.cells (q + 1)).toList ++ cur.toList.drop (m * K + (Builtin.zeroCells z.cells (q + 1)).toList.length)).toArray) := by
      simp only [Builtin.clear_, List.getElem?_toArray, List.getElem?_cons_zero, Sem.run_bind, Sem.run_pure, Result.andThen_ok, run_underlying ht, hz, hst]
    refine ⟨_, hrun, ⟨hown.1, .inr ⟨g, cap, _, rfl, hbg, setRow_heap w g cur _ e _ hg, hnc, hcm, ?_, ?_⟩⟩, ⟨rfl, rfl, rfl, by simp, fun j _ hj => setRow_other w g j _ (fun e => hj (by simp [e]))⟩, by simp⟩
    · have := seg_row (L := cur.toList) (vs := (Builtin.zeroCells z.cells (q + 1)).toList) (o := m * K) (by rw [hzl, Array.length_toList, hcs]; exact hmk)
      rw [List.size_toArray, this, Array.length_toList, hcs]
    · rw [← htake, List.append_assoc, List.take_append_of_le_length (by rw [List.length_take, Array.length_toList, hcs]; omega), List.take_take, Nat.min_self]
theorem wpList_clear_own {ops : Array Oper} {rest : List Oper} {o : Oper} {a : Act} {Q : Exit → Act → World → Prop} (hw : Region.wanted o (yielded ops a.tmps) = true) (x : Operand) (t : TypeId)
    (ho : o.op = .call { callee := .builtin .clear, args := #[x], argTypes := #[t] }) (base cap g m q K : Nat) (e : TypeId) (z : Value) (xs : List Value) (A : Option Addr) (c : Nat) (hx : a.eval x = .slice A q c) (hA : 0 < q → A = some ⟨g, m * K, none⟩)
    (ht : P.underlying t = some (.slice e)) (hz : ∀ w, (zeroValue e).run P w = .ok z w) (hzs : z.cells.size = K) (hK : 0 < K) (hz1 : ∀ v ∈ z.cells.toList, v.oneCell' = true)
    (hown : w.ownsRow base e K (.slice (some ⟨g, 0, none⟩) m cap) m xs) (hm : m + q ≤ cap)
    (h : ∀ w', w'.ownsRow base e K (.slice (some ⟨g, 0, none⟩) m cap) m xs → w.grownBy w' (some g) → w'.heap.size = w.heap.size → wpList P ops Q rest (a.put o.dst (.tuple #[])) w') : wpList P ops Q (o :: rest) a w := by
  obtain ⟨w', hr, h2, h3, h4⟩ := run_clear_own (P := P) (ty := o.type) ht hz hzs hK hz1 hown hm A hA c
  rw [wpList, if_pos hw]
  refine .inl ?_
  unfold Oper.wp execOp
  simp only [ho, resolve, invoke, builtin, Sem.run_bind, Sem.run_pure, Result.andThen_ok, List.map_toArray, List.map_cons, List.map_nil, hx, hr]
  exact h w' h2 h3 h4
/-- An append that fits, of what lies anywhere (of the row itself, too). -/
theorem wp_append_fits {o : Oper} {a : Act} {K : Act → World → Prop} {Q : Exit → Act → World → Prop} (s x : Operand) (t : TypeId) (ho : o.op = .call { callee := .builtin .append, args := #[s, x], argTypes := #[t, t] })
    (base : Nat) (e : TypeId) (i : TypeInfo) (size : Nat) (ht : P.underlying t = some (.slice e)) (hi : P.info? e = some i) (hsize : i.size = size)
    (g n cap : Nat) (xs : List Value) (hs : a.eval s = .slice (some ⟨g, 0, none⟩) n cap) (hown : w.ownsRow base e size (.slice (some ⟨g, 0, none⟩) n cap) n xs)
    (ad : Addr) (m c : Nat) (news : List Value) (hx : a.eval x = .slice (some ad) m c) (hl : news.length = m * size) (hnews : ∀ j u, news[j]? = some u → w.cell? (ad.add j) = some u) (h1 : ∀ u ∈ news, u.oneCell' = true)
    (hroom : n + m ≤ cap) (h : ∀ w', w'.ownsRow base e size (.slice (some ⟨g, 0, none⟩) (n + m) cap) (n + m) (xs ++ news) → w.grownBy w' (some g) → K (a.put o.dst (.slice (some ⟨g, 0, none⟩) (n + m) cap)) w') : o.wp P a w K Q := by
  obtain ⟨w', hr, h2, h3⟩ := run_append_fits (P := P) w base t o.type e i size ht hi hsize g n cap xs hown ad m c news hl hnews h1 hroom
  unfold Oper.wp execOp
  simp only [ho, resolve, invoke, builtin, Sem.run_bind, Sem.run_pure, Result.andThen_ok, List.map_toArray, List.map_cons, List.map_nil, hs, hx, hr]
  exact h w' h2 h3
/-- The head of an own row is one. -/
theorem own_head {base n cap g m K : Nat} {e : TypeId} {xs : List Value} (hown : w.ownsRow base e K (.slice (some ⟨g, 0, none⟩) n cap) n xs) (hm : m ≤ n) : w.ownsRow base e K (.slice (some ⟨g, 0, none⟩) m cap) m (xs.take (m * K)) := by
  have hmk : m * K ≤ n * K := Nat.mul_le_mul_right _ hm
  refine ⟨by rw [List.length_take, hown.1]; omega, ?_⟩
  rcases hown.2 with ⟨h, _⟩ | ⟨g', cap', cur, h, hbg, hg, hnc, hcm, hcs, htake⟩
  · simp at h
  · simp only [Value.slice.injEq, Option.some.injEq, Addr.mk.injEq, and_true, true_and] at h
    obtain ⟨rfl, rfl⟩ := h
    exact .inr ⟨g, cap, cur, rfl, hbg, hg, by omega, hcm, hcs, by rw [← htake, List.take_take, Nat.min_eq_left hmk]⟩
end
end Go.Proofs.YtndekohimfjdeaaDoor

namespace Go.Proofs.YtndekohimfjdeaaDoor
open Go.RowKit
theorem marked_len {s q : Bl} {d n : Nat} (h : markedL s = some (q, d, n)) : q.length ≤ s.length := by
  rw [marked_eq] at h
  split at h
  · simp only [Option.some.injEq, Prod.mk.injEq] at h
    obtain ⟨rfl, _, _⟩ := h
    have h1 := mR_len s
    unfold mA
    rw [trim_lib]
    have h2 : (mQ s).length ≤ (mR s).length := by unfold mQ; rw [List.length_take]; omega
    split
    · rw [List.length_take]; omega
    · omega
  · cases h
theorem base_len (l : Bl) : (folderL l).length ≤ l.length ∧ (baseL l).length ≤ l.length ∧ (stemB (baseL l)).length ≤ l.length ∧ (endB (baseL l)).length ≤ l.length := by
  have e := congrArg List.length (stem_end (baseL l))
  rw [List.length_append] at e
  by_cases hm : (47 : UInt8) ∈ l
  · have := congrArg List.length ((folder_base l).1 hm)
    simp only [List.length_append, List.length_singleton] at this
    omega
  · obtain ⟨e1, e2⟩ := (folder_base l).2 hm
    rw [e1]
    rw [e2] at e ⊢
    simp only [List.length_nil]
    omega
/-- What Copied makes of one way to take a mark away. -/
def resV (r : Option (Bl × Nat × Nat)) : Value := .tuple #[.string (st (r.getD ([], 0, 0)).1), .int .i64 ((r.getD ([], 0, 0)).2.1 : Int), .int .i64 ((r.getD ([], 0, 0)).2.2 : Int), .bool r.isSome]
end Go.Proofs.YtndekohimfjdeaaDoor

namespace Go.Proofs.YtndekohimfjdeaaDoor
open Go.RowKit
/-- A row of texts: of the call's own, and one that can be read. -/
def SOwn (w : World) (base : Nat) (A : Option Addr) (n c : Nat) (l : List ByteArray) : Prop := w.ownsRow base 9 1 (.slice A n c) n (l.map Value.string) ∧ n ≤ c
abbrev SReads (w : World) (B : Nat) (A : Option Addr) (n : Nat) (l : List ByteArray) : Prop := Reads w B 1 A n (l.map Value.string)
theorem SReads.len {w : World} {B n : Nat} {A : Option Addr} {l : List ByteArray} (h : SReads w B A n l) : l.length = n := by have := h.1; simpa using this
theorem SReads.at_ {w : World} {B n k : Nat} {A : Option Addr} {l : List ByteArray} (h : SReads w B A n l) (hk : k < n) :
    ∃ ad d, A = some ad ∧ l[k]? = some d ∧ ∀ W, Below B w W → W.cell? (ad.add k) = some (.string d) := by
  obtain ⟨ad, u, e, hb, hu, hc⟩ := Reads.at_ (show Reads w B 1 A n _ from h) hk
  rw [List.getElem?_map] at hu
  cases hl : l[k]? with
  | none => rw [hl] at hu; cases hu
  | some x =>
    rw [hl] at hu
    injection hu with hu
    subst hu
    exact ⟨ad, x, e, rfl, fun W hW => (hW.cell (by rw [block_of_add]; exact hb)).trans hc⟩
section
variable {w w' : World} {base n c : Nat} {A : Option Addr} {l : List ByteArray}
theorem own_keep {K : Nat} {e : TypeId} {v : Value} {xs : List Value} (h : w.ownsRow base e K v n xs) (hk : ∀ j, v.ownBlock = some j → w'.heap[j]? = w.heap[j]?) : w'.ownsRow base e K v n xs := by
  refine ⟨h.1, ?_⟩
  rcases h.2 with hn | ⟨g, cap, cur, ev, hg, hh, rest⟩
  · exact .inl hn
  · exact .inr ⟨g, cap, cur, ev, hg, (hk g (by rw [ev]; rfl)).trans hh, rest⟩
theorem SOwn.reads (h : SOwn w base A n c l) : SReads w w.heap.size A n l := Reads.of_own h.1
theorem SOwn.nil_ (w : World) (base : Nat) : SOwn w base none 0 0 [] := ⟨World.ownsRow_nil w base _ 1, Nat.le_refl _⟩
theorem SOwn.lt (h : SOwn w base A n c l) : ∀ j, (Value.slice A n c).ownBlock = some j → base ≤ j ∧ j < w.heap.size := h.1.lt
theorem SOwn.alloc (h : SOwn w base A n c l) (o : Obj) : SOwn (w.alloc o) base A n c l := ⟨h.1.alloc o, h.2⟩
theorem SOwn.below (h : SOwn w base A n c l) (hb : Below w.heap.size w w') : SOwn w' base A n c l := ⟨own_keep h.1 (fun j hj => hb.block j (h.lt j hj).2), h.2⟩
theorem SReads.one (e : TypeId) (w : World) (z : ByteArray) : SReads (w.alloc (.cells #[.string z] e)) (w.heap.size + 1) (some ⟨w.heap.size, 0, none⟩) 1 [z] := by
  refine ⟨rfl, fun _ => ⟨_, rfl, Nat.lt_succ_self _, fun j u hu => ?_⟩⟩
  have hj : j = 0 := by
    rcases j with _ | j
    · rfl
    · simp at hu
  subst hj
  simp only [List.map_cons, List.map_nil, List.getElem?_cons_zero, Option.some.injEq] at hu
  subst hu
  rw [show (⟨w.heap.size, 0, none⟩ : Addr).add 0 = ⟨w.heap.size, 0, none⟩ from rfl]
  exact World.cell?_alloc_at _ _ _ _ rfl
end
theorem info_str : (Tryd.prog.info? 9).map (fun i => (i.zero, i.size, i.bytes)) = some (some (.string ⟨#[]⟩), 1, 16) := by kernel_rfl
theorem info_parts {P : Program} {e : TypeId} {z : Value} {s b : Nat} (h : (P.info? e).map (fun i => (i.zero, i.size, i.bytes)) = some (some z, s, b)) : ∃ i, P.info? e = some i ∧ i.zero = some z ∧ i.size = s ∧ i.bytes = b := by
  cases hq : P.info? e with
  | none => rw [hq] at h; cases h
  | some i =>
    rw [hq] at h
    simp only [Option.map_some, Option.some.injEq, Prod.mk.injEq] at h
    exact ⟨i, rfl, h.1, h.2.1, h.2.2⟩
section
variable {ops : Array Oper} {rest : List Oper} {o : Oper} {a : Act} {Q : Exit → Act → World → Prop} {w : World}
theorem wpList_appS (hgd : o.guard = none) (s x : Operand)
    (ho : o.op = .call { callee := .builtin .append, args := #[s, x], argTypes := #[76, 76] })
    (base : Nat) (A : Option Addr) (n c : Nat) (xs : List ByteArray) (hs : a.eval s = .slice A n c) (hown : SOwn w base A n c xs)
    (B : Nat) (D : Option Addr) (m d : Nat) (l : List ByteArray) (hx : a.eval x = .slice D m d) (hr : SReads w B D m l)
    (N : Nat) (L : List ByteArray) (hN : n + m = N) (hL : xs ++ l = L) (hlen : N ≤ 1000000) (hbase : base ≤ w.heap.size)
    (h : ∀ A' c' w', SOwn w' base A' N c' L → w.grownBy w' (Value.slice A n c).ownBlock → wpList Tryd.prog ops Q rest (a.put o.dst (.slice A' N c')) w') : wpList Tryd.prog ops Q (o :: rest) a w := by
  subst hN hL
  obtain ⟨i0, hi, hz0, hz1, hz2⟩ := info_parts info_str
  refine wpList_append_any w hgd s x 76 ho base 9 i0 (.string ⟨#[]⟩) 1 16 Tryd.underlying76 hi hz0 hz1 hz2 rfl (by decide) (.slice A n c) n _ hs hown.1 B D m d _ hx hr
    (fun u hu => by obtain ⟨y, _, rfl⟩ := List.mem_map.1 hu; rfl) (by simp only [maxLen]; omega) (by omega) hbase ?_
  intro v' w' hown' hg hat
  obtain ⟨A', c', rfl, hc⟩ := own_shape hown'
  exact h A' c' w' ⟨by rw [List.map_append]; exact hown', hc⟩ hg
end
theorem sown_app {w w' : World} {base n c : Nat} {A : Option Addr} {xs : List ByteArray} {a : World} {B : Nat} (h : Below B a w) (hg : w.grownBy w' (Value.slice A n c).ownBlock) (ho : SOwn w base A n c xs) (hB : B ≤ base) (hs : B ≤ w.heap.size) : Below B a w' :=
  h.grown hg hs fun g hg2 => Nat.le_trans hB (ho.lt g hg2).1
/-! ### The last of a byte -/
theorem last_none {c : UInt8} {l : Bl} (h : ∀ (j : Nat) (x : UInt8), l[j]? = some x → x ≠ c) : cutL c l = none := cutL_none.2 fun hm => by
  obtain ⟨j, hj⟩ := List.mem_iff_getElem?.1 hm
  exact h j c hj rfl
theorem last_some {c : UInt8} {l : Bl} {k : Nat} (hk : l[k]? = some c) (h : ∀ (j : Nat) (x : UInt8), k + 1 ≤ j → l[j]? = some x → x ≠ c) : cutL c l = some (l.take k, l.drop (k + 1)) := cutL_some.2 ⟨by
  obtain ⟨hl, e⟩ := List.getElem?_eq_some_iff.1 hk
  have h5 := List.drop_eq_getElem_cons hl
  rw [e] at h5
  rw [← h5, List.take_append_drop], fun hm => by
  obtain ⟨j, hj⟩ := List.mem_iff_getElem?.1 hm
  rw [List.getElem?_drop] at hj
  exact h (k + 1 + j) c (by omega) hj rfl⟩
/-- Where the last of a byte is, as a number. -/
def lastN (c : UInt8) (l : Bl) : Int := match cutL c l with
  | some (a, _) => (a.length : Int)
  | none => -1
end Go.Proofs.YtndekohimfjdeaaDoor

namespace Go.Proofs.YtndekohimfjdeaaDoor
open Go.RowKit
def noDot (s : ByteArray) (n : Nat) : Prop := 0 < n → ∀ h : 0 < s.size, (s[0]'h).toNat ≠ 46
theorem noDot_succ {s : ByteArray} {n : Nat} (h : noDot s n) (hn : n < s.size) (hc : n = 0 → (s[n]'hn).toNat ≠ 46) : noDot s (n + 1) := fun _ hk => by
  rcases Nat.eq_zero_or_pos n with rfl | h0
  · exact hc rfl
  · exact h h0 hk
set_option maxRecDepth 100000 in
set_option maxHeartbeats 4000000 in
theorem rname_v (s : ByteArray) (w : World) (hs : s.size ≤ 1000000) : Calls Tryd.prog 46 #[.string s] w fun e w' => e = .returned (.bool (nameL s.data.toList)) ∧ w = w' := by
  go_enter Tryd.func46, Tryd.ntmps46
  go_wp2_with fail
  go_loopw [3, 4] (fun i _ wr => ∃ k : Nat, i = .int .i64 (k : Int) ∧ k ≤ s.size ∧ allN s k ∧ noDot s k ∧ w = wr) (fun i _ _ => s.size - (intOf i).toNat)
  case atStart => exact ⟨0, rfl, Nat.zero_le _, fun k hk => by omega, fun h => by omega, rfl⟩
  case round =>
    obtain ⟨k, rfl, hk, hlow, hdot, rfl⟩ := hrel
    have HL := Lib.hid hlow
    have HT := Lib.hid hdot
    clear hlow hdot
    by_cases hlt : k < s.size
    case neg =>
      obtain rfl : k = s.size := by omega
      by_cases h1 : 1 ≤ s.size
      · have d1 : decide (1 ≤ s.size) = true := decide_eq_true h1
        have d1b : decide ((1 : Int) ≤ (s.size : Int)) = true := decide_eq_true (by omega)
        by_cases h2 : s.size ≤ 24
        · have d2 : decide (s.size ≤ 24) = true := decide_eq_true h2
          have d2b : decide ((s.size : Int) ≤ 24) = true := decide_eq_true (by omega)
          have HD := Lib.hid ((name_iff s).2 ⟨h1, h2, fun h => HT.out h1 h, HL.out⟩)
          clear h1 h2 hk hlt
          go_wp2_with fail
          go_ret
          exact ⟨by rw [HD.out]; rfl, rfl⟩
        · have d2 : decide (s.size ≤ 24) = false := decide_eq_false h2
          have d2b : decide ((s.size : Int) ≤ 24) = false := decide_eq_false (by omega)
          have HD := Lib.hid (name_false (s := s) fun h => h2 h.2.1)
          clear h1 h2 hk hlt
          go_wp2_with fail
          go_ret
          exact ⟨by rw [HD.out]; rfl, rfl⟩
      · have d1 : decide (1 ≤ s.size) = false := decide_eq_false h1
        have d1b : decide ((1 : Int) ≤ (s.size : Int)) = false := decide_eq_false (by omega)
        have HD := Lib.hid (name_false (s := s) fun h => h1 h.1)
        clear h1 hk hlt
        go_wp2_with fail
        go_ret
        exact ⟨by rw [HD.out]; rfl, rfl⟩
    have k0 : (0 : Int) ≤ (k : Int) := by omega
    obtain ⟨x, hx⟩ : ∃ x, (s[k]'hlt).toNat = x := ⟨_, rfl⟩
    have HX := Lib.hid hx
    have hxv : (0 ≤ x ∧ x ≤ 44) ∨ (45 ≤ x ∧ x ≤ 45) ∨ (46 ≤ x ∧ x ≤ 46) ∨ (47 ≤ x ∧ x ≤ 47) ∨ (48 ≤ x ∧ x ≤ 57) ∨ (58 ≤ x ∧ x ≤ 94) ∨ (95 ≤ x ∧ x ≤ 95) ∨ (96 ≤ x ∧ x ≤ 96) ∨ (97 ≤ x ∧ x ≤ 122) ∨ (123 ≤ x ∧ x ≤ 255) := by
      have := (s[k]'hlt).toNat_lt; omega
    clear hx
    rcases hxv with hxv | hxv | hxv | hxv | hxv | hxv | hxv | hxv | hxv | hxv
    · obtain ⟨g1, g2⟩ := hxv
      have d0 : decide ((((s[k]'hlt).toNat : Nat) : Int) < 97) = true := by rw [HX.out]; exact decide_eq_true (by omega)
      have d1 : decide (122 < (((s[k]'hlt).toNat : Nat) : Int)) = false := by rw [HX.out]; exact decide_eq_false (by omega)
      have d2 : decide ((((s[k]'hlt).toNat : Nat) : Int) < 48) = true := by rw [HX.out]; exact decide_eq_true (by omega)
      have d3 : decide (57 < (((s[k]'hlt).toNat : Nat) : Int)) = false := by rw [HX.out]; exact decide_eq_false (by omega)
      have e0 : ((((s[k]'hlt).toNat : Nat) : Int) != 45) = true := by rw [HX.out]; simp; omega
      have f0 : ((((s[k]'hlt).toNat : Nat) : Int) != 95) = true := by rw [HX.out]; simp; omega
      have g0 : ((((s[k]'hlt).toNat : Nat) : Int) != 46) = true := by rw [HX.out]; simp; omega
      have HD := Lib.hid (name_false (s := s) fun h => by have := nameC_iff.1 (h.2.2.2 k hlt hlt); rw [HX.out] at this; omega)
      clear g1 g2
      go_wp2_with fail
      go_ret
      exact ⟨by rw [HD.out]; rfl, rfl⟩
    · obtain ⟨g1, g2⟩ := hxv
      have d0 : decide ((((s[k]'hlt).toNat : Nat) : Int) < 97) = true := by rw [HX.out]; exact decide_eq_true (by omega)
      have d1 : decide (122 < (((s[k]'hlt).toNat : Nat) : Int)) = false := by rw [HX.out]; exact decide_eq_false (by omega)
      have d2 : decide ((((s[k]'hlt).toNat : Nat) : Int) < 48) = true := by rw [HX.out]; exact decide_eq_true (by omega)
      have d3 : decide (57 < (((s[k]'hlt).toNat : Nat) : Int)) = false := by rw [HX.out]; exact decide_eq_false (by omega)
      have e0 : ((((s[k]'hlt).toNat : Nat) : Int) != 45) = false := by rw [HX.out]; simp; omega
      have f0 : ((((s[k]'hlt).toNat : Nat) : Int) != 95) = true := by rw [HX.out]; simp; omega
      have g0 : ((((s[k]'hlt).toNat : Nat) : Int) != 46) = true := by rw [HX.out]; simp; omega
      have HN := Lib.hid (allN_succ HL.out hlt (nameC_iff.2 (by rw [HX.out]; omega)))
      have HU := Lib.hid (noDot_succ HT.out hlt (fun _ => by rw [HX.out]; omega))
      clear g1 g2
      go_wp2_with fail
      go_roundw
      case rel => exact ⟨k + 1, by go_num, hlt, HN.out, HU.out, by trivial⟩
      case measure => simp [intOf]; omega
    · obtain ⟨g1, g2⟩ := hxv
      have d0 : decide ((((s[k]'hlt).toNat : Nat) : Int) < 97) = true := by rw [HX.out]; exact decide_eq_true (by omega)
      have d1 : decide (122 < (((s[k]'hlt).toNat : Nat) : Int)) = false := by rw [HX.out]; exact decide_eq_false (by omega)
      have d2 : decide ((((s[k]'hlt).toNat : Nat) : Int) < 48) = true := by rw [HX.out]; exact decide_eq_true (by omega)
      have d3 : decide (57 < (((s[k]'hlt).toNat : Nat) : Int)) = false := by rw [HX.out]; exact decide_eq_false (by omega)
      have e0 : ((((s[k]'hlt).toNat : Nat) : Int) != 45) = true := by rw [HX.out]; simp; omega
      have f0 : ((((s[k]'hlt).toNat : Nat) : Int) != 95) = true := by rw [HX.out]; simp; omega
      have g0 : ((((s[k]'hlt).toNat : Nat) : Int) != 46) = false := by rw [HX.out]; simp; omega
      by_cases hk0 : k = 0
      · subst hk0
        have HD := Lib.hid (name_false (s := s) fun h => h.2.2.1 hlt (by rw [HX.out]; omega))
        clear g1 g2
        go_wp2_with fail
        go_ret
        exact ⟨by rw [HD.out]; rfl, rfl⟩
      · have z0 : ((k : Int) == 0) = false := beq_eq_false_iff_ne.2 (by omega)
        have HN := Lib.hid (allN_succ HL.out hlt (nameC_iff.2 (by rw [HX.out]; omega)))
        have HU := Lib.hid (noDot_succ HT.out hlt (fun h => absurd h hk0))
        clear g1 g2 hk0
        go_wp2_with fail
        go_roundw
        case rel => exact ⟨k + 1, by go_num, hlt, HN.out, HU.out, by trivial⟩
        case measure => simp [intOf]; omega
    · obtain ⟨g1, g2⟩ := hxv
      have d0 : decide ((((s[k]'hlt).toNat : Nat) : Int) < 97) = true := by rw [HX.out]; exact decide_eq_true (by omega)
      have d1 : decide (122 < (((s[k]'hlt).toNat : Nat) : Int)) = false := by rw [HX.out]; exact decide_eq_false (by omega)
      have d2 : decide ((((s[k]'hlt).toNat : Nat) : Int) < 48) = true := by rw [HX.out]; exact decide_eq_true (by omega)
      have d3 : decide (57 < (((s[k]'hlt).toNat : Nat) : Int)) = false := by rw [HX.out]; exact decide_eq_false (by omega)
      have e0 : ((((s[k]'hlt).toNat : Nat) : Int) != 45) = true := by rw [HX.out]; simp; omega
      have f0 : ((((s[k]'hlt).toNat : Nat) : Int) != 95) = true := by rw [HX.out]; simp; omega
      have g0 : ((((s[k]'hlt).toNat : Nat) : Int) != 46) = true := by rw [HX.out]; simp; omega
      have HD := Lib.hid (name_false (s := s) fun h => by have := nameC_iff.1 (h.2.2.2 k hlt hlt); rw [HX.out] at this; omega)
      clear g1 g2
      go_wp2_with fail
      go_ret
      exact ⟨by rw [HD.out]; rfl, rfl⟩
    · obtain ⟨g1, g2⟩ := hxv
      have d0 : decide ((((s[k]'hlt).toNat : Nat) : Int) < 97) = true := by rw [HX.out]; exact decide_eq_true (by omega)
      have d1 : decide (122 < (((s[k]'hlt).toNat : Nat) : Int)) = false := by rw [HX.out]; exact decide_eq_false (by omega)
      have d2 : decide ((((s[k]'hlt).toNat : Nat) : Int) < 48) = false := by rw [HX.out]; exact decide_eq_false (by omega)
      have d3 : decide (57 < (((s[k]'hlt).toNat : Nat) : Int)) = false := by rw [HX.out]; exact decide_eq_false (by omega)
      have e0 : ((((s[k]'hlt).toNat : Nat) : Int) != 45) = true := by rw [HX.out]; simp; omega
      have f0 : ((((s[k]'hlt).toNat : Nat) : Int) != 95) = true := by rw [HX.out]; simp; omega
      have g0 : ((((s[k]'hlt).toNat : Nat) : Int) != 46) = true := by rw [HX.out]; simp; omega
      have HN := Lib.hid (allN_succ HL.out hlt (nameC_iff.2 (by rw [HX.out]; omega)))
      have HU := Lib.hid (noDot_succ HT.out hlt (fun _ => by rw [HX.out]; omega))
      clear g1 g2
      go_wp2_with fail
      go_roundw
      case rel => exact ⟨k + 1, by go_num, hlt, HN.out, HU.out, by trivial⟩
      case measure => simp [intOf]; omega
    · obtain ⟨g1, g2⟩ := hxv
      have d0 : decide ((((s[k]'hlt).toNat : Nat) : Int) < 97) = true := by rw [HX.out]; exact decide_eq_true (by omega)
      have d1 : decide (122 < (((s[k]'hlt).toNat : Nat) : Int)) = false := by rw [HX.out]; exact decide_eq_false (by omega)
      have d2 : decide ((((s[k]'hlt).toNat : Nat) : Int) < 48) = false := by rw [HX.out]; exact decide_eq_false (by omega)
      have d3 : decide (57 < (((s[k]'hlt).toNat : Nat) : Int)) = true := by rw [HX.out]; exact decide_eq_true (by omega)
      have e0 : ((((s[k]'hlt).toNat : Nat) : Int) != 45) = true := by rw [HX.out]; simp; omega
      have f0 : ((((s[k]'hlt).toNat : Nat) : Int) != 95) = true := by rw [HX.out]; simp; omega
      have g0 : ((((s[k]'hlt).toNat : Nat) : Int) != 46) = true := by rw [HX.out]; simp; omega
      have HD := Lib.hid (name_false (s := s) fun h => by have := nameC_iff.1 (h.2.2.2 k hlt hlt); rw [HX.out] at this; omega)
      clear g1 g2
      go_wp2_with fail
      go_ret
      exact ⟨by rw [HD.out]; rfl, rfl⟩
    · obtain ⟨g1, g2⟩ := hxv
      have d0 : decide ((((s[k]'hlt).toNat : Nat) : Int) < 97) = true := by rw [HX.out]; exact decide_eq_true (by omega)
      have d1 : decide (122 < (((s[k]'hlt).toNat : Nat) : Int)) = false := by rw [HX.out]; exact decide_eq_false (by omega)
      have d2 : decide ((((s[k]'hlt).toNat : Nat) : Int) < 48) = false := by rw [HX.out]; exact decide_eq_false (by omega)
      have d3 : decide (57 < (((s[k]'hlt).toNat : Nat) : Int)) = true := by rw [HX.out]; exact decide_eq_true (by omega)
      have e0 : ((((s[k]'hlt).toNat : Nat) : Int) != 45) = true := by rw [HX.out]; simp; omega
      have f0 : ((((s[k]'hlt).toNat : Nat) : Int) != 95) = false := by rw [HX.out]; simp; omega
      have g0 : ((((s[k]'hlt).toNat : Nat) : Int) != 46) = true := by rw [HX.out]; simp; omega
      have HN := Lib.hid (allN_succ HL.out hlt (nameC_iff.2 (by rw [HX.out]; omega)))
      have HU := Lib.hid (noDot_succ HT.out hlt (fun _ => by rw [HX.out]; omega))
      clear g1 g2
      go_wp2_with fail
      go_roundw
      case rel => exact ⟨k + 1, by go_num, hlt, HN.out, HU.out, by trivial⟩
      case measure => simp [intOf]; omega
    · obtain ⟨g1, g2⟩ := hxv
      have d0 : decide ((((s[k]'hlt).toNat : Nat) : Int) < 97) = true := by rw [HX.out]; exact decide_eq_true (by omega)
      have d1 : decide (122 < (((s[k]'hlt).toNat : Nat) : Int)) = false := by rw [HX.out]; exact decide_eq_false (by omega)
      have d2 : decide ((((s[k]'hlt).toNat : Nat) : Int) < 48) = false := by rw [HX.out]; exact decide_eq_false (by omega)
      have d3 : decide (57 < (((s[k]'hlt).toNat : Nat) : Int)) = true := by rw [HX.out]; exact decide_eq_true (by omega)
      have e0 : ((((s[k]'hlt).toNat : Nat) : Int) != 45) = true := by rw [HX.out]; simp; omega
      have f0 : ((((s[k]'hlt).toNat : Nat) : Int) != 95) = true := by rw [HX.out]; simp; omega
      have g0 : ((((s[k]'hlt).toNat : Nat) : Int) != 46) = true := by rw [HX.out]; simp; omega
      have HD := Lib.hid (name_false (s := s) fun h => by have := nameC_iff.1 (h.2.2.2 k hlt hlt); rw [HX.out] at this; omega)
      clear g1 g2
      go_wp2_with fail
      go_ret
      exact ⟨by rw [HD.out]; rfl, rfl⟩
    · obtain ⟨g1, g2⟩ := hxv
      have d0 : decide ((((s[k]'hlt).toNat : Nat) : Int) < 97) = false := by rw [HX.out]; exact decide_eq_false (by omega)
      have d1 : decide (122 < (((s[k]'hlt).toNat : Nat) : Int)) = false := by rw [HX.out]; exact decide_eq_false (by omega)
      have d2 : decide ((((s[k]'hlt).toNat : Nat) : Int) < 48) = false := by rw [HX.out]; exact decide_eq_false (by omega)
      have d3 : decide (57 < (((s[k]'hlt).toNat : Nat) : Int)) = true := by rw [HX.out]; exact decide_eq_true (by omega)
      have e0 : ((((s[k]'hlt).toNat : Nat) : Int) != 45) = true := by rw [HX.out]; simp; omega
      have f0 : ((((s[k]'hlt).toNat : Nat) : Int) != 95) = true := by rw [HX.out]; simp; omega
      have g0 : ((((s[k]'hlt).toNat : Nat) : Int) != 46) = true := by rw [HX.out]; simp; omega
      have HN := Lib.hid (allN_succ HL.out hlt (nameC_iff.2 (by rw [HX.out]; omega)))
      have HU := Lib.hid (noDot_succ HT.out hlt (fun _ => by rw [HX.out]; omega))
      clear g1 g2
      go_wp2_with fail
      go_roundw
      case rel => exact ⟨k + 1, by go_num, hlt, HN.out, HU.out, by trivial⟩
      case measure => simp [intOf]; omega
    · obtain ⟨g1, g2⟩ := hxv
      have d0 : decide ((((s[k]'hlt).toNat : Nat) : Int) < 97) = false := by rw [HX.out]; exact decide_eq_false (by omega)
      have d1 : decide (122 < (((s[k]'hlt).toNat : Nat) : Int)) = true := by rw [HX.out]; exact decide_eq_true (by omega)
      have d2 : decide ((((s[k]'hlt).toNat : Nat) : Int) < 48) = false := by rw [HX.out]; exact decide_eq_false (by omega)
      have d3 : decide (57 < (((s[k]'hlt).toNat : Nat) : Int)) = true := by rw [HX.out]; exact decide_eq_true (by omega)
      have e0 : ((((s[k]'hlt).toNat : Nat) : Int) != 45) = true := by rw [HX.out]; simp; omega
      have f0 : ((((s[k]'hlt).toNat : Nat) : Int) != 95) = true := by rw [HX.out]; simp; omega
      have g0 : ((((s[k]'hlt).toNat : Nat) : Int) != 46) = true := by rw [HX.out]; simp; omega
      have HD := Lib.hid (name_false (s := s) fun h => by have := nameC_iff.1 (h.2.2.2 k hlt hlt); rw [HX.out] at this; omega)
      clear g1 g2
      go_wp2_with fail
      go_ret
      exact ⟨by rw [HD.out]; rfl, rfl⟩
end Go.Proofs.YtndekohimfjdeaaDoor

namespace Go.Proofs.YtndekohimfjdeaaDoor
open Go.RowKit
/-- How far the parts are found: all bytes ahead of k are read, the next part begins at f. -/
def NSt (l : Bl) (k f : Nat) (xs : List Bl) : Prop := (k ≤ l.length ∧ f ≤ k ∧ segs l = xs ++ segs (l.drop f) ∧ (47 : UInt8) ∉ (l.drop f).take (k - f)) ∨ (k = l.length + 1 ∧ xs = segs l)
theorem NSt.start (l : Bl) : NSt l 0 0 [] := .inl ⟨Nat.zero_le _, Nat.le_refl _, by simp, by simp⟩
theorem NSt.range {l : Bl} {k f : Nat} {xs : List Bl} (h : NSt l k f xs) (hk : k ≤ l.length) : f ≤ k := by
  rcases h with h | h
  · exact h.2.1
  · omega
theorem NSt.done {l : Bl} {k f : Nat} {xs : List Bl} (h : NSt l k f xs) (hk : ¬ k ≤ l.length) : k = l.length + 1 ∧ xs = segs l := by
  rcases h with h | h
  · exact absurd h.1 hk
  · exact h
theorem NSt.skip {l : Bl} {k f : Nat} {xs : List Bl} {x : UInt8} (h : NSt l k f xs) (hx : l[k]? = some x) (hc : x ≠ 47) : NSt l (k + 1) f xs := by
  have hk := (List.getElem?_eq_some_iff.1 hx).1
  rcases h with ⟨h1, h2, h3, h4⟩ | ⟨h1, _⟩
  · refine .inl ⟨hk, by omega, h3, fun hm => ?_⟩
    rw [show k + 1 - f = k - f + 1 by omega, List.take_add_one, List.mem_append] at hm
    rcases hm with hm | hm
    · exact h4 hm
    · rw [List.getElem?_drop, show f + (k - f) = k by omega, hx] at hm
      have h5 : (47 : UInt8) = x := by simpa using hm
      exact hc h5.symm
  · omega
theorem NSt.hit {l : Bl} {k f : Nat} {xs : List Bl} (h : NSt l k f xs) (hx : l[k]? = some 47) : NSt l (k + 1) (k + 1) (xs ++ [(l.drop f).take (k - f)]) := by
  have hk := (List.getElem?_eq_some_iff.1 hx).1
  rcases h with ⟨h1, h2, h3, h4⟩ | ⟨h1, _⟩
  · refine .inl ⟨hk, Nat.le_refl _, ?_, by simp⟩
    have e : l.drop f = (l.drop f).take (k - f) ++ 47 :: l.drop (k + 1) := by
      have h5 := List.drop_eq_getElem_cons hk
      rw [(List.getElem?_eq_some_iff.1 hx).2] at h5
      rw [← h5]
      have h6 : (l.drop f).drop (k - f) = l.drop k := by rw [List.drop_drop, show f + (k - f) = k by omega]
      rw [← h6, List.take_append_drop]
    rw [h3]
    conv => lhs; rw [e, segs_first h4]
    simp
  · omega
theorem NSt.last {l : Bl} {f : Nat} {xs : List Bl} (h : NSt l l.length f xs) : NSt l (l.length + 1) (l.length + 1) (xs ++ [(l.drop f).take (l.length - f)]) := by
  rcases h with ⟨h1, h2, h3, h4⟩ | ⟨h1, _⟩
  · refine .inr ⟨rfl, ?_⟩
    have e : (l.drop f).take (l.length - f) = l.drop f := List.take_of_length_le (by rw [List.length_drop]; exact Nat.le_refl _)
    rw [e] at h4 ⊢
    rw [h3, segs_one h4]
  · omega
theorem st_mid (l : Bl) (f k : Nat) : (st l).extract f k = st ((l.drop f).take (k - f)) := st_ext (by
  simp only [st, ByteArray.data_extract, Array.toList_extract, List.extract_eq_take_drop])
set_option maxRecDepth 100000 in
set_option maxHeartbeats 4000000 in
theorem rnames_v (l : Bl) (w : World) (hs : l.length ≤ 1000) : Calls Tryd.prog 45 #[.string (st l)] w fun e w' => ∃ A c, e = .returned (.slice A (segs l).length c) ∧ SOwn w' w.heap.size A (segs l).length c ((segs l).map st) ∧ Below w.heap.size w w' := by
  obtain ⟨n, hn⟩ : ∃ n, (st l).size = n := ⟨_, rfl⟩
  have HN := Lib.hid (show l.length = n by rw [← hn, st_size])
  have hsz : ((st l).size : Int) = (n : Int) := by rw [hn]
  clear hn
  have hn6 : n ≤ 1000 := by rw [← HN.out]; exact hs
  go_enter Tryd.func45, Tryd.ntmps45
  go_wp2_with fail
  go_loopw [3, 4, 5] (fun o f i wr => ∃ (k p c : Nat) (A : Option Addr) (xs : List Bl), i = .int .i64 (k : Int) ∧ f = .int .i64 (p : Int) ∧ o = .slice A xs.length c ∧ xs.length ≤ k ∧ k ≤ n + 1 ∧ NSt l k p xs ∧ SOwn wr w.heap.size A xs.length c (xs.map st) ∧ Below w.heap.size w wr) (fun _ _ i _ => n + 1 - (intOf i).toNat)
  case atStart => exact ⟨0, 0, 0, none, [], rfl, rfl, rfl, Nat.le_refl _, Nat.zero_le _, NSt.start l, SOwn.nil_ w _, Below.refl _ _⟩
  case round =>
    obtain ⟨k, p, c, A, xs, rfl, rfl, rfl, hxk, hk, hst, ho, hb⟩ := hrel
    have HST := Lib.hid hst
    have HO := Lib.hid ho
    have HB := Lib.hid hb
    have hzb := hb.size
    clear hst ho hb
    by_cases hlt : k ≤ n
    · have hpk : p ≤ k := HST.out.range (by rw [HN.out]; exact hlt)
      have c0 : decide ((k : Int) ≤ (n : Int)) = true := decide_eq_true (by omega)
      have k0 : (0 : Int) ≤ (k : Int) := by omega
      have p0 : (0 : Int) ≤ (p : Int) := by omega
      have p1 : (p : Int) ≤ (k : Int) := by omega
      have p2 : (k : Int) ≤ (n : Int) := by omega
      by_cases hkn : k = n
      · have c1 : ((k : Int) == (n : Int)) = true := beq_iff_eq.2 (by omega)
        have HNX := Lib.hid (show NSt l (k + 1) (k + 1) (xs ++ [(l.drop p).take (k - p)]) by have h := HST.out; rw [hkn, ← HN.out] at h ⊢; exact h.last)
        have e1 := st_mid l p k
        clear hkn
        generalize (l.drop p).take (k - p) = y at *
        have HSO := Lib.hid (show SReads (wr.alloc (.cells #[.string (st y)] 9)) (wr.heap.size + 1) (some ⟨wr.heap.size, 0, none⟩) 1 [st y] from SReads.one 9 wr (st y))
        have HLL := Lib.hid (show xs.map st ++ [st y] = (xs ++ [y]).map st by simp)
        have HLN := Lib.hid (show xs.length + 1 = (xs ++ [y]).length by simp)
        go_upto_region 8 with (first
          | (at_builtin; go_loud (refine wpList_appS rfl (.tmp 22) (.tmp 27) rfl w.heap.size A xs.length c _ rfl (HO.out.alloc _) (wr.heap.size + 1) (some ⟨wr.heap.size, 0, none⟩) 1 1 [st y] rfl HSO.out _ _ HLN.out HLL.out (by simp; omega) (by simp; omega) ?_); intro A7 c7 w7 ho7 hg7)
          | fail)
        have HB7 := Lib.hid (sown_app (HB.out.alloc (by omega) (.cells #[.string (st y)] 9)) hg7 (HO.out.alloc _) (Nat.le_refl _) (by simp; omega))
        have HO7 := Lib.hid ho7
        have hxl : (xs ++ [y]).length ≤ k + 1 := by rw [List.length_append]; simp; omega
        clear ho7 hg7
        have HL2 := Lib.hid (show (xs ++ [y]).length = xs.length + 1 by simp)
        generalize xs ++ [y] = xs2 at *
        go_wp2_with fail
        go_roundw
        case rel => exact ⟨k + 1, k + 1, c7, A7, xs2, by go_num, by go_num, by rw [HL2.out], hxl, by omega, HNX.out, HO7.out, HB7.out⟩
        case measure => simp [intOf]; omega
      · have c1 : ((k : Int) == (n : Int)) = false := beq_eq_false_iff_ne.2 (by omega)
        obtain ⟨x, hx⟩ : ∃ x, l[k]? = some x := ⟨_, List.getElem?_eq_getElem (by rw [HN.out]; omega)⟩
        have HX := Lib.hid hx
        have x0 := st_index l k x hx
        clear hx
        by_cases hc : x = 47
        · have d1 : ((x.toNat : Int) == 47) = true := by rw [hc]; rfl
          have HNX := Lib.hid (HST.out.hit (hc ▸ HX.out))
          have e1 := st_mid l p k
          have hkn2 : k < n := by omega
          clear hc hkn
          generalize (l.drop p).take (k - p) = y at *
          have HSO := Lib.hid (show SReads (wr.alloc (.cells #[.string (st y)] 9)) (wr.heap.size + 1) (some ⟨wr.heap.size, 0, none⟩) 1 [st y] from SReads.one 9 wr (st y))
          have HLL := Lib.hid (show xs.map st ++ [st y] = (xs ++ [y]).map st by simp)
          have HLN := Lib.hid (show xs.length + 1 = (xs ++ [y]).length by simp)
          go_upto_region 8 with (first
            | (at_builtin; go_loud (refine wpList_appS rfl (.tmp 22) (.tmp 27) rfl w.heap.size A xs.length c _ rfl (HO.out.alloc _) (wr.heap.size + 1) (some ⟨wr.heap.size, 0, none⟩) 1 1 [st y] rfl HSO.out _ _ HLN.out HLL.out (by simp; omega) (by simp; omega) ?_); intro A7 c7 w7 ho7 hg7)
            | fail)
          have HB7 := Lib.hid (sown_app (HB.out.alloc (by omega) (.cells #[.string (st y)] 9)) hg7 (HO.out.alloc _) (Nat.le_refl _) (by simp; omega))
          have HO7 := Lib.hid ho7
          have hxl : (xs ++ [y]).length ≤ k + 1 := by rw [List.length_append]; simp; omega
          clear ho7 hg7
          have HL2 := Lib.hid (show (xs ++ [y]).length = xs.length + 1 by simp)
          generalize xs ++ [y] = xs2 at *
          go_wp2_with fail
          go_roundw
          case rel => exact ⟨k + 1, k + 1, c7, A7, xs2, by go_num, by go_num, by rw [HL2.out], hxl, by omega, HNX.out, HO7.out, HB7.out⟩
          case measure => simp [intOf]; omega
        · have d1 : ((x.toNat : Int) == 47) = false := beq_eq_false_iff_ne.2 fun e => hc (UInt8.toNat_inj.1 (by
            have : (47 : UInt8).toNat = 47 := rfl
            omega))
          have HNX := Lib.hid (HST.out.skip HX.out hc)
          clear hc
          go_wp2_with fail
          go_roundw
          case rel => exact ⟨k + 1, p, c, A, xs, by go_num, rfl, rfl, by omega, by omega, HNX.out, HO.out, HB.out⟩
          case measure => simp [intOf]; omega
    · have c0 : decide ((k : Int) ≤ (n : Int)) = false := decide_eq_false (by omega)
      obtain ⟨_, rfl⟩ := HST.out.done (by rw [HN.out]; exact hlt)
      go_wp2_with fail
      go_ret
      exact ⟨A, c, rfl, HO.out, HB.out⟩
set_option maxRecDepth 100000 in
set_option maxHeartbeats 4000000 in
theorem prcheck_v (l : Bl) (w : World) : Calls Tryd.prog 28 #[.string (st l)] w fun e w' => e = .returned (.int .i64 (checkL l : Int)) ∧ Below w.heap.size w w' := by
  have hz := st_size l
  by_cases h : 64 < l.length
  · have HC := Lib.hid (show checkL l = 3 by unfold checkL; rw [if_pos h])
    have d1 : decide ((64 : Int) < ((st l).size : Int)) = true := decide_eq_true (by omega)
    clear hz
    go_enter Tryd.func28, Tryd.ntmps28
    go_wp2_with fail
    go_ret
    exact ⟨by rw [HC.out]; rfl, Below.refl _ _⟩
  have d1 : decide ((64 : Int) < ((st l).size : Int)) = false := decide_eq_false (by omega)
  have HC := Lib.hid (show checkL l = if prightL l then 0 else 2 by unfold checkL; rw [if_neg h])
  have HLE := Lib.hid (show l.length ≤ 64 by omega)
  have NV := rnames_v l w (by omega)
  clear hz h
  obtain ⟨n, hn⟩ : ∃ n, (segs l).length = n := ⟨_, rfl⟩
  have HN := Lib.hid hn
  rw [hn] at NV
  clear hn
  go_enter Tryd.func28, Tryd.ntmps28
  go_wp2_with fail
  refine NV.mono ?_
  rintro e w1 ⟨A, c, rfl, ho, hb⟩
  have HB := Lib.hid hb
  have HR := Lib.hid ho.reads
  have hnc : n ≤ 1000000 := by
    have h1 : ∀ l : Bl, (segs l).length ≤ l.length + 1 := fun l => by
      induction l with
      | nil => simp [segs]
      | cons c l ih =>
        unfold segs
        split
        · simp; omega
        · split
          · rename_i s r hsr
            rw [hsr] at ih
            simp at ih ⊢
            omega
          · simp
    have := h1 l
    have := HLE.out
    have := HN.out
    omega
  clear ho hb NV
  go_wp2_with fail
  go_loopw [4] (fun i V => ∃ k : Nat, k ≤ n ∧ i = .int .i64 (k : Int) ∧ (∀ x ∈ (segs l).take k, nameL x = true) ∧ V = w1) (fun i _ => n - (intOf i).toNat)
  case atStart => exact ⟨0, Nat.zero_le _, rfl, by simp, rfl⟩
  case round =>
    obtain ⟨k, hk, rfl, hall, rfl⟩ := hrel
    have HA := Lib.hid hall
    clear hall
    by_cases hlt : k < n
    · obtain ⟨ad, d, rfl, hd, hc⟩ := HR.out.at_ hlt
      obtain ⟨x, hx⟩ : ∃ x, (segs l)[k]? = some x := ⟨_, List.getElem?_eq_getElem (by rw [HN.out]; exact hlt)⟩
      rw [List.getElem?_map, hx] at hd
      obtain rfl : st x = d := Option.some.inj hd
      have c0 := hc wr (Below.refl _ _)
      have k0 : (0 : Int) ≤ (k : Int) := by omega
      have k1 : (k : Int) < (n : Int) := by omega
      have HX := Lib.hid hx
      clear hx hd hc
      have NV := rname_v (st x) wr (by have := segs_len l x (List.mem_of_getElem? HX.out); have := HLE.out; rw [st_size]; omega)
      rw [st_data] at NV
      go_wp2_with fail
      refine NV.mono ?_
      rintro e _ ⟨rfl, rfl⟩
      clear c0 NV
      cases hnx : nameL x with
      | false =>
        have HR := Lib.hid (show prightL l = false from Bool.eq_false_iff.2 fun h => by
          have := (right_iff.1 h).1 x (List.mem_of_getElem? HX.out)
          rw [hnx] at this
          cases this)
        clear hnx
        go_wp2_with fail
        go_ret
        exact ⟨by rw [HC.out, HR.out]; rfl, HB.out⟩
      | true =>
        have HA2 := Lib.hid (show ∀ y ∈ (segs l).take (k + 1), nameL y = true from fun y hy => by
          rw [List.take_add_one, HX.out] at hy
          rcases List.mem_append.1 hy with hy | hy
          · exact HA.out y hy
          · obtain rfl : y = x := by simpa using hy
            exact hnx)
        clear hnx
        go_wp2_with fail
        go_roundw
        case rel => exact ⟨k + 1, hlt, by go_num, HA2.out, by trivial⟩
        case measure => simp [intOf]; omega
    · obtain rfl : k = n := by omega
      have HA2 := Lib.hid (show ∀ y ∈ segs l, nameL y = true by have h := HA.out; rwa [List.take_of_length_le (by rw [HN.out]; exact Nat.le_refl _)] at h)
      by_cases h4 : k ≤ 4
      · have d2 : decide ((4 : Int) < (k : Int)) = false := decide_eq_false (by omega)
        have HR2 := Lib.hid (show checkL l = 0 by rw [HC.out, right_iff.2 ⟨HA2.out, by rw [HN.out]; exact h4, HLE.out⟩]; rfl)
        clear h4
        go_wp2_with fail
        go_ret
        exact ⟨by rw [HR2.out]; rfl, HB.out⟩
      · have d2 : decide ((4 : Int) < (k : Int)) = true := decide_eq_true (by omega)
        have HR2 := Lib.hid (show checkL l = 2 by rw [HC.out, if_neg (fun h => h4 (by rw [← HN.out]; exact (right_iff.1 h).2.1))])
        clear h4
        go_wp2_with fail
        go_ret
        exact ⟨by rw [HR2.out]; rfl, HB.out⟩
end Go.Proofs.YtndekohimfjdeaaDoor

namespace Go.Proofs.YtndekohimfjdeaaDoor
open Go.RowKit
theorem cell_nw (w : World) (cs : Array Value) (t : TypeId) (j : Nat) : (w.alloc (.cells cs t)).cell? ⟨w.heap.size, j, none⟩ = cs[j]? := by
  rw [cell_of_row _ _ j _ t (0, 0) (heap_alloc_new w _)]
end Go.Proofs.YtndekohimfjdeaaDoor

namespace Go.Proofs.YtndekohimfjdeaaDoor
/-- A tree of orders: 'one i e t': number i next (e: it may change the world, and nothing else can come up); 'two i ti j tj': i or j next, both may change the world. -/
inductive SK where
  | done : SK
  | one (i : Nat) (e : Bool) (t : SK) : SK
  | two (i : Nat) (ti : SK) (j : Nat) (tj : SK) : SK
def SK.len : SK → Nat
  | .done => 0
  | .one _ _ t => t.len + 1
  | .two _ ti _ _ => ti.len + 1
def SK.ok (ops : Array Oper) : SK → Array Bool → Bool
  | .done, listed => (Region.ready .any ops listed).isEmpty
  | .one i e t, listed => (if e then Region.ready .any ops listed == [i] else Region.free .any ops listed i && (Region.ready .any ops listed).contains i) && t.ok ops (listed.setIfInBounds i true)
  | .two i ti j tj, listed => Region.ready .any ops listed == [i, j] && ti.len == tj.len && ti.ok ops (listed.setIfInBounds i true) && tj.ok ops (listed.setIfInBounds j true)
section
variable {P : Program} {ops : Array Oper} {Q : Exit → Act → World → Prop} {S : World → Prop}
def TR (P : Program) (ops : Array Oper) (Q : Exit → Act → World → Prop) (S : World → Prop) (t : SK) (a : Act) (w : World) : Prop :=
  ∀ listed, Region.noSelect ops = true → t.ok ops listed = true → wpAnyH P .any ops Q S t.len listed a w
variable {t ti tj : SK} {i j : Nat} {a : Act} {w : World}
theorem TR.done (h : Q .normal a w) : TR P ops Q S .done a w := by
  intro listed _ hs
  refine wpAnyH_done ?_ h 0
  simpa [SK.ok] using hs
theorem TR.val {v : Value} (o : Oper) (ho : ops[i]? = some o) (hQ : ∀ c a w, Q (.panic c) (a.put o.dst v) w → Q (.panic c) a w) (hy : YieldsIf P ops S o v a) (hS : S w) (h : TR P ops Q S t (a.put o.dst v) w) :
    TR P ops Q S (.one i false t) a w := by
  intro listed hn hs
  simp only [SK.ok, Bool.false_eq_true, if_false, Bool.and_eq_true] at hs
  exact wpAnyH_take ho hn hs.1.1 hs.1.2 hQ hy hS (h _ hn hs.2)
theorem TR.val2 {v : Value} (o : Oper) (ho : ops[i]? = some o) (hw : Region.wanted o (yielded ops a.tmps) = true) (hy : ∀ w, S w → (execOp a.eval o).run P w = .ok (.value v) w)
    (hQ : ∀ c a w, Q (.panic c) (a.put o.dst v) w → Q (.panic c) a w) (hS : S w) (h : TR P ops Q S t (a.put o.dst v) w) : TR P ops Q S (.one i false t) a w := TR.val o ho hQ (.inl ⟨hw, hy⟩) hS h
/-- An operation that is not wanted. -/
theorem TR.skip (o : Oper) (ho : ops[i]? = some o) (hw : Region.wanted o (yielded ops a.tmps) = false)
    (hQ : ∀ c a w, Q (.panic c) (a.put o.dst undef) w → Q (.panic c) a w) (hS : S w) (h : TR P ops Q S t (a.put o.dst undef) w) : TR P ops Q S (.one i false t) a w :=
  TR.val o ho hQ (.inr ⟨hw, rfl⟩) hS h
theorem TR.eff (o : Oper) (ho : ops[i]? = some o) (hw : Region.wanted o (yielded ops a.tmps) = true)
    (h : ∀ K : Act → World → Prop, RowKit.Hid (∀ a' w', S w' → TR P ops Q S t a' w' → K a' w') → Oper.wp P o a w K Q) : TR P ops Q S (.one i true t) a w := by
  intro listed hn hs
  simp only [SK.ok, if_true, Bool.and_eq_true, beq_iff_eq] at hs
  refine wpAnyH_all hs.1 (by simp) fun j hj => ?_
  obtain rfl : j = i := by simpa using hj
  unfold wpOp
  simp only [ho, hw, if_true]
  exact .inl (h _ fun a' w' hS' hT => ⟨hS', hT _ hn hs.2⟩)
theorem TR.two (o o' : Oper) (ho : ops[i]? = some o) (ho' : ops[j]? = some o') (hw : Region.wanted o (yielded ops a.tmps) = true) (hw' : Region.wanted o' (yielded ops a.tmps) = true)
    (h : ∀ K : Act → World → Prop, RowKit.Hid (∀ a' w', S w' → TR P ops Q S ti a' w' → K a' w') → Oper.wp P o a w K Q)
    (h' : ∀ K : Act → World → Prop, RowKit.Hid (∀ a' w', S w' → TR P ops Q S tj a' w' → K a' w') → Oper.wp P o' a w K Q) : TR P ops Q S (.two i ti j tj) a w := by
  intro listed hn hs
  simp only [SK.ok, Bool.and_eq_true, beq_iff_eq] at hs
  obtain ⟨⟨⟨h1, h2⟩, h3⟩, h4⟩ := hs
  show wpAnyH P .any ops Q S (ti.len + 1) listed a w
  refine wpAnyH_all h1 (by simp) fun k hk => ?_
  rcases (show k = i ∨ k = j by simpa using hk) with rfl | rfl
  · unfold wpOp
    simp only [ho, hw, if_true]
    exact .inl (h _ fun a' w' hS' hT => ⟨hS', hT _ hn h3⟩)
  · unfold wpOp
    simp only [ho', hw', if_true]
    exact .inl (h' _ fun a' w' hS' hT => ⟨hS', by have := hT _ hn h4; rwa [← h2] at this⟩)
/-- More is kept from here on. -/
theorem TR.now (S' : World → Prop) (hSS : ∀ W, S' W → S W) (h : TR P ops Q S' t a w) : TR P ops Q S t a w :=
  fun listed hn hs => wpAnyH_mono hSS _ _ _ _ (h listed hn hs)
/-- The beginning. -/
theorem wp_region_tree {id : Nat} {ol : List Oper} {a : Act} {w : World} (t : SK) (S : World → Prop) (hm : P.follows .mixedOrders = true) (hl : t.len = ol.length) (hn : Region.noSelect ol.toArray = true)
    (hs : t.ok ol.toArray (Array.replicate ol.length false) = true) (h : TR P ol.toArray Q S t a w.drew) : (Code.region id ol.toArray true).wp P Q a w := by
  refine wp_region_held (S := S) hm ?_
  have h2 := h (Array.replicate ol.length false) hn hs
  rw [hl] at h2
  exact h2
end
end Go.Proofs.YtndekohimfjdeaaDoor

namespace Go.Proofs.YtndekohimfjdeaaDoor
open Go.RowKit Go.Shelf
abbrev I64 (a : Int) : Prop := (Lit.int .i64 a).wf = true
/-- A digest: 32 numbers. -/
abbrev Dg := { d : List Nat // d.length = 32 }
def Dg.cells (d : Dg) : List Value := d.1.map fun x : Nat => Value.int .u8 (x : Int)
theorem Dg.cells_len (d : Dg) : d.cells.length = 32 := by simp [Dg.cells, d.2]
/-- Whether a list may be. -/
def chk (s l : Int) (n : Nat) : Nat :=
  if 4194304 < l then 3 else if 1024 < n then 3 else if s < 1 then 2 else if 65536 < s then 2 else if l < 0 then 2 else if (l + s - 1) / s = (n : Int) then 0 else 2
theorem chk_ok {s l : Int} {n : Nat} (h : chk s l n = 0) : 1 ≤ s ∧ s ≤ 65536 ∧ 0 ≤ l ∧ l ≤ 4194304 ∧ n ≤ 1024 ∧ (l + s - 1) / s = (n : Int) := by
  unfold chk at h
  split at h
  · cases h
  · split at h
    · cases h
    · split at h
      · cases h
      · split at h
        · cases h
        · split at h
          · cases h
          · split at h
            · refine ⟨by omega, by omega, by omega, by omega, by omega, by assumption⟩
            · cases h
set_option maxHeartbeats 1000000 in
theorem count_v (l s : Int) (w : World) (hl : 0 ≤ l) (hl2 : l ≤ 1125899906842624) (hs : 1 ≤ s) (hs2 : s ≤ 1125899906842624) :
    Calls Tryd.prog 66 #[.int .i64 l, .int .i64 s] w fun e w' => e = .returned (.int .i64 ((l + s - 1) / s)) ∧ w = w' := by
  have h0 : (l + s - 1).tdiv s = (l + s - 1) / s := Int.tdiv_eq_ediv_of_nonneg (by omega)
  have h1 : 0 ≤ (l + s - 1) / s := Int.ediv_nonneg (by omega) (by omega)
  have h2 : (l + s - 1) / s ≤ l + s - 1 := Int.ediv_le_self _ (by omega)
  have hs0 : s ≠ 0 := by omega
  have hs1 : s ≠ -1 := by omega
  go_enter Tryd.func66, Tryd.ntmps66
  go_wp2
  go_ret
  exact ⟨ret_int rfl, rfl⟩
set_option maxRecDepth 100000 in
set_option maxHeartbeats 4000000 in
theorem bcheck_v (s l : Int) (A : Option Addr) (n c : Nat) (w : World) (hn : n ≤ 9007199254740992) :
    Calls Tryd.prog 50 #[.agg #[.int .i64 s, .int .i64 l, .slice A n c]] w fun e w' => e = .returned (.int .i64 (chk s l n : Int)) ∧ Below w.heap.size w w' := by
  have BA := Lib.hid ((Below.refl w.heap.size w).alloc (Nat.le_refl _) (.cells #[.int .i64 s, .int .i64 l, .slice A n c] 25))
  have c0 := cell_nw w #[.int .i64 s, .int .i64 l, .slice A n c] 25 0
  have c1 := cell_nw w #[.int .i64 s, .int .i64 l, .slice A n c] 25 1
  have c2 := cell_nw w #[.int .i64 s, .int .i64 l, .slice A n c] 25 2
  go_enter Tryd.func50, Tryd.ntmps50
  by_cases h1 : 4194304 < l
  · have d1 : decide (4194304 < l) = true := by simpa using h1
    have HR := Lib.hid (show chk s l n = 3 by unfold chk; rw [if_pos h1])
    go_wp2
    go_ret
    exact ⟨by rw [HR.out]; rfl, BA.out⟩
  · have d1 : decide (4194304 < l) = false := by simpa using h1
    by_cases h2 : 1024 < n
    · have d2 : decide (1024 < n) = true := by simpa using h2
      have HR := Lib.hid (show chk s l n = 3 by unfold chk; rw [if_neg h1, if_pos h2])
      go_wp2
      go_ret
      exact ⟨by rw [HR.out]; rfl, BA.out⟩
    · have d2 : decide (1024 < n) = false := by simpa using h2
      by_cases h3 : s < 1
      · have d3 : decide (s < 1) = true := by simpa using h3
        have HR := Lib.hid (show chk s l n = 2 by unfold chk; rw [if_neg h1, if_neg h2, if_pos h3])
        go_upto_region 3 with fail
        go_quiet (fail)
        go_wp2
        go_ret
        exact ⟨by rw [HR.out]; rfl, below_drewN BA.out _⟩
      · have d3 : decide (s < 1) = false := by simpa using h3
        by_cases h4 : 65536 < s
        · have d4 : decide (65536 < s) = true := by simpa using h4
          have HR := Lib.hid (show chk s l n = 2 by unfold chk; rw [if_neg h1, if_neg h2, if_neg h3, if_pos h4])
          go_upto_region 3 with fail
          go_quiet (fail)
          go_wp2
          go_ret
          exact ⟨by rw [HR.out]; rfl, below_drewN BA.out _⟩
        · have d4 : decide (65536 < s) = false := by simpa using h4
          by_cases h5 : l < 0
          · have d5 : decide (l < 0) = true := by simpa using h5
            have HR := Lib.hid (show chk s l n = 2 by unfold chk; rw [if_neg h1, if_neg h2, if_neg h3, if_neg h4, if_pos h5])
            go_upto_region 3 with fail
            go_quiet (fail)
            go_wp2
            go_ret
            exact ⟨by rw [HR.out]; rfl, below_drewN BA.out _⟩
          · have d5 : decide (l < 0) = false := by simpa using h5
            have CV := Lib.hid (fun W => count_v l s W (by omega) (by omega) (by omega) (by omega))
            obtain ⟨q, hq⟩ : ∃ q, (l + s - 1) / s = q := ⟨_, rfl⟩
            rw [hq] at CV
            by_cases h6 : q = (n : Int)
            · have d6 : (q != (n : Int)) = false := by simpa using h6
              have HR := Lib.hid (show chk s l n = 0 by unfold chk; rw [if_neg h1, if_neg h2, if_neg h3, if_neg h4, if_neg h5, hq, if_pos h6])
              clear h6 hq
              go_upto_region 3 with fail
              go_quiet ((go_at_call 66; exact quiet_left (CV.out _)))
              go_wp2
              go_ret
              exact ⟨by rw [HR.out]; rfl, below_drewN BA.out _⟩
            · have d6 : (q != (n : Int)) = true := by simpa using h6
              have HR := Lib.hid (show chk s l n = 2 by unfold chk; rw [if_neg h1, if_neg h2, if_neg h3, if_neg h4, if_neg h5, hq, if_neg h6])
              clear h6 hq
              go_upto_region 3 with fail
              go_quiet ((go_at_call 66; exact quiet_left (CV.out _)))
              go_wp2
              go_ret
              exact ⟨by rw [HR.out]; rfl, below_drewN BA.out _⟩
set_option maxHeartbeats 1000000 in
theorem rcount_v (l s : Int) (w : World) (hl : 0 ≤ l) (hl2 : l ≤ 1125899906842624) (hs : 1 ≤ s) (hs2 : s ≤ 1125899906842624) :
    Calls Tryd.prog 47 #[.int .i64 l, .int .i64 s] w fun e w' => e = .returned (.int .i64 ((l + s - 1) / s)) ∧ w = w' := by
  have h0 : (l + s - 1).tdiv s = (l + s - 1) / s := Int.tdiv_eq_ediv_of_nonneg (by omega)
  have h1 : 0 ≤ (l + s - 1) / s := Int.ediv_nonneg (by omega) (by omega)
  have h2 : (l + s - 1) / s ≤ l + s - 1 := Int.ediv_le_self _ (by omega)
  have hs0 : s ≠ 0 := by omega
  have hs1 : s ≠ -1 := by omega
  go_enter Tryd.func47, Tryd.ntmps47
  go_wp2
  go_ret
  exact ⟨ret_int rfl, rfl⟩
set_option maxRecDepth 100000 in
set_option maxHeartbeats 4000000 in
theorem brcheck_v (s l : Int) (A : Option Addr) (n c : Nat) (w : World) (hn : n ≤ 9007199254740992) :
    Calls Tryd.prog 30 #[.agg #[.int .i64 s, .int .i64 l, .slice A n c]] w fun e w' => e = .returned (.int .i64 (chk s l n : Int)) ∧ Below w.heap.size w w' := by
  have BA := Lib.hid ((Below.refl w.heap.size w).alloc (Nat.le_refl _) (.cells #[.int .i64 s, .int .i64 l, .slice A n c] 25))
  have c0 := cell_nw w #[.int .i64 s, .int .i64 l, .slice A n c] 25 0
  have c1 := cell_nw w #[.int .i64 s, .int .i64 l, .slice A n c] 25 1
  have c2 := cell_nw w #[.int .i64 s, .int .i64 l, .slice A n c] 25 2
  go_enter Tryd.func30, Tryd.ntmps30
  by_cases h1 : 4194304 < l
  · have d1 : decide (4194304 < l) = true := by simpa using h1
    have HR := Lib.hid (show chk s l n = 3 by unfold chk; rw [if_pos h1])
    go_wp2
    go_ret
    exact ⟨by rw [HR.out]; rfl, BA.out⟩
  · have d1 : decide (4194304 < l) = false := by simpa using h1
    by_cases h2 : 1024 < n
    · have d2 : decide (1024 < n) = true := by simpa using h2
      have HR := Lib.hid (show chk s l n = 3 by unfold chk; rw [if_neg h1, if_pos h2])
      go_wp2
      go_ret
      exact ⟨by rw [HR.out]; rfl, BA.out⟩
    · have d2 : decide (1024 < n) = false := by simpa using h2
      by_cases h3 : s < 1
      · have d3 : decide (s < 1) = true := by simpa using h3
        have HR := Lib.hid (show chk s l n = 2 by unfold chk; rw [if_neg h1, if_neg h2, if_pos h3])
        go_upto_region 3 with fail
        go_quiet (fail)
        go_wp2
        go_ret
        exact ⟨by rw [HR.out]; rfl, below_drewN BA.out _⟩
      · have d3 : decide (s < 1) = false := by simpa using h3
        by_cases h4 : 65536 < s
        · have d4 : decide (65536 < s) = true := by simpa using h4
          have HR := Lib.hid (show chk s l n = 2 by unfold chk; rw [if_neg h1, if_neg h2, if_neg h3, if_pos h4])
          go_upto_region 3 with fail
          go_quiet (fail)
          go_wp2
          go_ret
          exact ⟨by rw [HR.out]; rfl, below_drewN BA.out _⟩
        · have d4 : decide (65536 < s) = false := by simpa using h4
          by_cases h5 : l < 0
          · have d5 : decide (l < 0) = true := by simpa using h5
            have HR := Lib.hid (show chk s l n = 2 by unfold chk; rw [if_neg h1, if_neg h2, if_neg h3, if_neg h4, if_pos h5])
            go_upto_region 3 with fail
            go_quiet (fail)
            go_wp2
            go_ret
            exact ⟨by rw [HR.out]; rfl, below_drewN BA.out _⟩
          · have d5 : decide (l < 0) = false := by simpa using h5
            have CV := Lib.hid (fun W => rcount_v l s W (by omega) (by omega) (by omega) (by omega))
            obtain ⟨q, hq⟩ : ∃ q, (l + s - 1) / s = q := ⟨_, rfl⟩
            rw [hq] at CV
            by_cases h6 : q = (n : Int)
            · have d6 : (q != (n : Int)) = false := by simpa using h6
              have HR := Lib.hid (show chk s l n = 0 by unfold chk; rw [if_neg h1, if_neg h2, if_neg h3, if_neg h4, if_neg h5, hq, if_pos h6])
              clear h6 hq
              go_upto_region 3 with fail
              go_quiet ((go_at_call 47; exact quiet_left (CV.out _)))
              go_wp2
              go_ret
              exact ⟨by rw [HR.out]; rfl, below_drewN BA.out _⟩
            · have d6 : (q != (n : Int)) = true := by simpa using h6
              have HR := Lib.hid (show chk s l n = 2 by unfold chk; rw [if_neg h1, if_neg h2, if_neg h3, if_neg h4, if_neg h5, hq, if_neg h6])
              clear h6 hq
              go_upto_region 3 with fail
              go_quiet ((go_at_call 47; exact quiet_left (CV.out _)))
              go_wp2
              go_ret
              exact ⟨by rw [HR.out]; rfl, below_drewN BA.out _⟩
/-- Where block k goes. -/
def toP (s l k : Int) : Int := min l ((k + 1) * s)
end Go.Proofs.YtndekohimfjdeaaDoor
