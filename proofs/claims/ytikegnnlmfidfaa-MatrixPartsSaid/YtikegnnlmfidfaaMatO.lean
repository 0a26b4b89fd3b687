/-
  Matrices: rows of matrices, and the parts of a folder in plain Lean.
-/
import Derived.Test.YtikegnnlmfidfaaMatN
namespace Go.Proofs.Ytikegnnlmfidfaa
open Go.RowKit
/-- A matrix that lies in a row. -/
structure Mx where
  own : Int
  a : Option Addr
  n : Nat
  c : Nat
  rs : List Rw
def Mx.cells (m : Mx) : List Value := [.int .i64 m.own, .slice m.a m.n m.c]
def Mx.p (m : Mx) : PM := (m.own, m.rs.map Rw.p)
theorem Mx.cells_len (m : Mx) : m.cells.length = 2 := rfl
structure MxIn (w : World) (B : Nat) (m : Mx) : Prop where
  i : RowsR w B m.a m.n m.rs
  cm : m.n ≤ 9223372036854775807
structure MatsR (w : World) (B : Nat) (A : Option Addr) (n : Nat) (ms : List Mx) : Prop where
  row : Reads w B 2 A n (ms.flatMap Mx.cells)
  each : ∀ m ∈ ms, MxIn w B m
section
variable {w w' : World} {B B' n : Nat} {A : Option Addr} {ms : List Mx}
theorem MatsR.below (h : MatsR w B A n ms) (hb : Below B w w') : MatsR w' B A n ms := ⟨h.row.below hb, fun m hm => ⟨(h.each m hm).i.below hb, (h.each m hm).cm⟩⟩
theorem MatsR.more (h : MatsR w B A n ms) (hB : B ≤ B') : MatsR w B' A n ms := ⟨Reads.more h.row hB, fun m hm => ⟨(h.each m hm).i.more hB, (h.each m hm).cm⟩⟩
theorem MatsR.len (h : MatsR w B A n ms) : ms.length = n := by
  have h1 := h.row.1
  rw [flat_len Mx.cells_len] at h1
  omega
theorem MatsR.at_ {k : Nat} (h : MatsR w B A n ms) (hk : k < n) :
    ∃ ad own a m c rs, A = some ad ∧ ms[k]? = some ⟨own, a, m, c, rs⟩ ∧ RowsR w B a m rs ∧ m ≤ 9223372036854775807 ∧
      (∀ W, Below B w W → ∀ j u, ([.int .i64 own, .slice a m c] : List Value)[j]? = some u → W.cell? ((ad.add (k * 2)).add j) = some u) ∧
      ∀ W, Below B w W → W.cell? (ad.add (k * 2)) = some (.int .i64 own) := by
  have hl : k < ms.length := by rw [h.len]; exact hk
  obtain ⟨ad, e, hb, hc⟩ := h.row.2 (by omega)
  obtain ⟨own, a, m, c, rs, hrk⟩ : ∃ own a m c rs, ms[k] = ⟨own, a, m, c, rs⟩ := ⟨_, _, _, _, _, rfl⟩
  have hx : ms[k]? = some ⟨own, a, m, c, rs⟩ := by rw [List.getElem?_eq_getElem hl, hrk]
  have key : ∀ W, Below B w W → ∀ j u, ([.int .i64 own, .slice a m c] : List Value)[j]? = some u → W.cell? ((ad.add (k * 2)).add j) = some u := fun W hW j u hu => by
    have hj : j < 2 := (List.getElem?_eq_some_iff.1 hu).1
    have h1 := flat_at Mx.cells_len ms hx hj
    rw [add_of_add]
    exact (hW.cell (by rw [block_of_add]; exact hb)).trans (hc _ u (h1.trans hu))
  have he := h.each _ (List.mem_of_getElem? hx)
  refine ⟨ad, own, a, m, c, rs, e, hx, he.i, he.cm, key, fun W hW => ?_⟩
  have h1 := key W hW 0 _ rfl
  rwa [add_zero] at h1
end
/-- Whose matrix it is, if it may be. -/
def okAt (m : PM) (j : Nat) : Bool := decide (chkM m = 0) && decide (m.1 = (j : Int))
/-- The place of a device's matrix. -/
def ofI (ms : List PM) (j : Nat) : Option Nat := ms.findIdx? fun m => okAt m j
theorem ofI_step {ms : List PM} {k : Nat} {m : PM} (h : ms[k]? = some m) (j : Nat) : ofI (ms.take (k + 1)) j = (ofI (ms.take k) j).or (if okAt m j then some k else none) := by
  have hk : k < ms.length := (List.getElem?_eq_some_iff.1 h).1
  unfold ofI
  rw [List.take_add_one, h, List.findIdx?_append]
  congr 1
  rw [List.length_take, Nat.min_eq_left (by omega)]
  cases ho : okAt m j <;> simp [List.findIdx?_cons, ho]
theorem ofI_get {ms : List PM} {i j : Nat} (h : ofI ms j = some i) : ∃ m, ms[i]? = some m ∧ okAt m j = true := by
  unfold ofI at h
  obtain ⟨hi, hp, _⟩ := List.findIdx?_eq_some_iff_getElem.1 h
  exact ⟨_, List.getElem?_eq_getElem hi, hp⟩
theorem ofI_lt {ms : List Mx} {i j : Nat} (h : ofI (ms.map Mx.p) j = some i) : i < ms.length := by
  obtain ⟨m, hm, _⟩ := ofI_get h
  have := (List.getElem?_eq_some_iff.1 hm).1
  simpa using this
theorem getD_p {ms : List Mx} {i : Nat} {m : Mx} (h : ms[i]? = some m) : (ms.map Mx.p).getD i (0, []) = m.p := by rw [List.getD_eq_getElem?_getD, List.getElem?_map, h]; rfl
theorem keepc {w w' : World} {p : Addr} {v : Value} (h : Below w.heap.size w w') (hc : w.cell? p = some v) : w'.cell? p = some v := (h.cell (World.block_lt_of_cell? w _ hc)).trans hc
def ptrL (A : Option Addr) (os : Nat → Option Nat) : List Value := (List.range 17).map fun j => .pointer ((os j).bind fun i => A.map (·.add (i * 2)))
def usL (os : Nat → Option Nat) : List Nat := (List.range 17).map fun j => if (os j).isSome then j else 0
theorem range_set {α : Type} {F F' : Nat → α} {i N : Nat} {x : α} (h : F' i = x) (h' : ∀ j, j ≠ i → F' j = F j) : ((List.range N).map F).set i x = (List.range N).map F' := by
  apply List.ext_getElem?
  intro j
  rw [List.getElem?_set, List.getElem?_map, List.length_map, List.length_range, List.getElem?_map]
  by_cases hj : i = j
  · subst hj
    rw [if_pos rfl]
    by_cases hi : i < N
    · rw [if_pos hi, List.getElem?_range hi]
      simp [h]
    · rw [if_neg hi, List.getElem?_eq_none (by simp; omega)]
      rfl
  · rw [if_neg hj]
    by_cases hi : j < N
    · rw [List.getElem?_range hi]
      simp [h' j (fun e => hj e.symm)]
    · rw [List.getElem?_eq_none (by simp; omega)]
      rfl
theorem ptrL_at {A : Option Addr} {os : Nat → Option Nat} {j : Nat} (hj : j < 17) : (ptrL A os)[j]? = some (.pointer ((os j).bind fun i => A.map (·.add (i * 2)))) := by
  unfold ptrL
  rw [List.getElem?_map, List.getElem?_range hj]
  rfl
theorem usL_len (os : Nat → Option Nat) : (usL os).length = 17 := by unfold usL; simp
theorem usL_le (os : Nat → Option Nat) (k x : Nat) (h : (usL os)[k]? = some x) : x ≤ k := by
  unfold usL at h
  have hk : k < 17 := by have := (List.getElem?_eq_some_iff.1 h).1; simpa using this
  rw [List.getElem?_map, List.getElem?_range hk] at h
  simp only [Option.map_some, Option.some.injEq] at h
  rw [← h]
  split <;> omega
/-- Whether two devices share the folder. -/
def bothI (ms : List PM) (f : ByteArray) (a b : Nat) : Bool := match ofI ms a, ofI ms b with
  | some i, some j => bothP (ms.getD i (0, [])) (ms.getD j (0, [])) f
  | _, _ => false
def stepU (both : Nat → Nat → Bool) (us : List Nat) (a b : Nat) : List Nat := if both a b then us.set (max (rootU us a) (rootU us b)) (min (rootU us a) (rootU us b)) else us
def innerU (both : Nat → Nat → Bool) (us : List Nat) (a b : Nat) : List Nat := (List.range b).foldl (fun us b => stepU both us a b) us
def outerU (both : Nat → Nat → Bool) (us : List Nat) (a : Nat) : List Nat := (List.range a).foldl (fun us a => innerU both us a a) us
theorem innerU_succ (both : Nat → Nat → Bool) (us : List Nat) (a b : Nat) : innerU both us a (b + 1) = stepU both (innerU both us a b) a b := by unfold innerU; rw [List.range_succ, List.foldl_append]; rfl
theorem outerU_succ (both : Nat → Nat → Bool) (us : List Nat) (a : Nat) : outerU both us (a + 1) = innerU both (outerU both us a) a a := by unfold outerU; rw [List.range_succ, List.foldl_append]; rfl
/-- Numbers that stand for others: none is above its own. -/
def UOk (us : List Nat) : Prop := us.length = 17 ∧ ∀ (k x : Nat), us[k]? = some x → x ≤ k
theorem UOk.set {us : List Nat} (h : UOk us) {i x : Nat} (hx : x ≤ i) : UOk (us.set i x) := by
  refine ⟨by rw [List.length_set]; exact h.1, fun k y hy => ?_⟩
  rw [List.getElem?_set] at hy
  split at hy
  · rename_i e
    subst e
    split at hy
    · obtain rfl := Option.some.inj hy
      exact hx
    · cases hy
  · exact h.2 k y hy
theorem UOk.step {us : List Nat} (h : UOk us) (both : Nat → Nat → Bool) (a b : Nat) : UOk (stepU both us a b) := by
  unfold stepU
  split
  · exact h.set (by omega)
  · exact h
theorem UOk.inner {us : List Nat} (h : UOk us) (both : Nat → Nat → Bool) (a : Nat) : ∀ b, UOk (innerU both us a b)
  | 0 => h
  | b + 1 => by rw [innerU_succ]; exact (h.inner both a b).step both a b
theorem UOk.outer {us : List Nat} (h : UOk us) (both : Nat → Nat → Bool) : ∀ a, UOk (outerU both us a)
  | 0 => h
  | a + 1 => by rw [outerU_succ]; exact (h.outer both a).inner both a a
/-- The groups, in the order in which they come up, and their places. -/
def stepG (has : Nat → Bool) (root : Nat → Nat) (s : List (Nat × Nat) × List (List Int)) (n : Nat) : List (Nat × Nat) × List (List Int) :=
  if has n then match aget (root n) s.1 with
    | some i => (s.1, s.2.set i (s.2.getD i [] ++ [(n : Int)]))
    | none => (aput (root n) s.2.length s.1, s.2 ++ [[(n : Int)]])
  else s
def groupG (has : Nat → Bool) (root : Nat → Nat) (k : Nat) : List (Nat × Nat) × List (List Int) := (List.range k).foldl (stepG has root) ([], [])
theorem groupG_succ (has : Nat → Bool) (root : Nat → Nat) (k : Nat) : groupG has root (k + 1) = stepG has root (groupG has root k) k := by unfold groupG; rw [List.range_succ, List.foldl_append]; rfl
structure GOk (s : List (Nat × Nat) × List (List Int)) (k : Nat) : Prop where
  at_ : ∀ r i, aget r s.1 = some i → i < s.2.length
  len : s.2.length ≤ k
  each : ∀ l ∈ s.2, l.length ≤ k
theorem GOk.step {s : List (Nat × Nat) × List (List Int)} {k : Nat} (h : GOk s k) (has : Nat → Bool) (root : Nat → Nat) : GOk (stepG has root s k) (k + 1) := by
  unfold stepG
  split
  · split
    · rename_i i hi
      refine ⟨fun r j hj => by rw [List.length_set]; exact h.at_ r j hj, by rw [List.length_set]; exact Nat.le_succ_of_le h.len, fun l hl => ?_⟩
      rcases List.mem_or_eq_of_mem_set hl with hl | rfl
      · exact Nat.le_succ_of_le (h.each l hl)
      · rw [List.length_append]
        have hlt := h.at_ _ _ hi
        have := h.each _ (List.getElem_mem hlt)
        rw [List.getD_eq_getElem?_getD, List.getElem?_eq_getElem hlt]
        simp only [Option.getD_some, List.length_singleton]
        omega
    · refine ⟨fun r j hj => ?_, by rw [List.length_append, List.length_singleton]; exact Nat.succ_le_succ h.len, fun l hl => ?_⟩
      · rw [aget_aput] at hj
        simp only [List.length_append, List.length_singleton]
        split at hj
        · obtain rfl := Option.some.inj hj
          omega
        · have := h.at_ r j hj
          omega
      · rcases List.mem_append.1 hl with hl | hl
        · exact Nat.le_succ_of_le (h.each l hl)
        · obtain rfl := List.mem_singleton.1 hl
          simp
  · exact ⟨h.at_, Nat.le_succ_of_le h.len, fun l hl => Nat.le_succ_of_le (h.each l hl)⟩
theorem groupG_ok (has : Nat → Bool) (root : Nat → Nat) : ∀ k, GOk (groupG has root k) k
  | 0 => ⟨fun r i h => (by cases h), Nat.le_refl _, fun l hl => (by cases hl)⟩
  | k + 1 => by rw [groupG_succ]; exact (groupG_ok has root k).step has root
def hasI (ms : List PM) (f : ByteArray) (a : Nat) : Bool := match ofI ms a with
  | some i => hasP (ms.getD i (0, [])) f
  | none => false
/-- A folder's parts, as the program makes them. -/
def partsU (ms : List PM) (f : ByteArray) : List (List Int) := (groupG (hasI ms f) (rootU (outerU (bothI ms f) (usL (ofI ms)) 17)) 17).2
end Go.Proofs.Ytikegnnlmfidfaa
