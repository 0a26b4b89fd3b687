/-
  Slices of pairs (key, value, gone), as lists.
-/
import Derived.Test.YtohcdnbchidjeaaBase
import Derived.Test.YtohcdnbchidjeaaTabN
import Derived.Lib.AppendStr
import Derived.Lib.ConvBytes
import Derived.Laws.BytesArg
import Derived.OpenShut
import Derived.Test.YtohcdnbchidjeaaChecked
namespace Go.Proofs.Ytohcdnbchidjeaa
open Go.RowKit
theorem add_1 (a : Addr) (j : Nat) : a.add (j + 1) = ⟨(a.add j).block, (a.add j).off + 1, none⟩ := by
  unfold Addr.add
  by_cases hj : j = 0 <;> simp [hj, Nat.add_assoc]
theorem add_2 (a : Addr) (j : Nat) : a.add (j + 2) = ⟨(a.add j).block, (a.add j).off + 2, none⟩ := by
  unfold Addr.add
  by_cases hj : j = 0 <;> simp [hj, Nat.add_assoc]
def p3C (x : P3) : List Value := [.string x.1, .string x.2.1, .bool x.2.2]
def p3sC (l : List P3) : List Value := (l.map p3C).flatten
theorem p3sC_cons (x : P3) (l : List P3) : p3sC (x :: l) = .string x.1 :: .string x.2.1 :: .bool x.2.2 :: p3sC l := rfl
theorem p3sC_len : ∀ l : List P3, (p3sC l).length = l.length * 3
  | [] => rfl
  | x :: l => by rw [p3sC_cons]; simp only [List.length_cons, p3sC_len l]; omega
theorem p3sC_app (l m : List P3) : p3sC (l ++ m) = p3sC l ++ p3sC m := by simp [p3sC]
theorem p3sC_at : ∀ (l : List P3) (k : Nat) (x : P3), l[k]? = some x → (p3sC l)[k * 3]? = some (.string x.1) ∧ (p3sC l)[k * 3 + 1]? = some (.string x.2.1) ∧ (p3sC l)[k * 3 + 2]? = some (.bool x.2.2)
  | [], k, x, h => by simp at h
  | y :: l, 0, x, h => by simp at h; subst h; exact ⟨rfl, rfl, rfl⟩
  | y :: l, k + 1, x, h => by
    have := p3sC_at l k x (by simpa using h)
    rw [p3sC_cons, show (k + 1) * 3 = k * 3 + 1 + 1 + 1 by omega, show k * 3 + 1 + 1 + 1 + 1 = (k * 3 + 1) + 1 + 1 + 1 by omega, show k * 3 + 1 + 1 + 1 + 2 = (k * 3 + 2) + 1 + 1 + 1 by omega]
    simpa using this
theorem p3sC_drop : ∀ (l : List P3) (k : Nat), (p3sC l).drop (k * 3) = p3sC (l.drop k)
  | l, 0 => by simp
  | [], k + 1 => by simp [p3sC]
  | x :: l, k + 1 => by
    rw [p3sC_cons, show (k + 1) * 3 = k * 3 + 1 + 1 + 1 by omega, List.drop_succ_cons, List.drop_succ_cons, List.drop_succ_cons, List.drop_succ_cons, p3sC_drop l k]
theorem p3sC_take : ∀ (l : List P3) (k : Nat), (p3sC l).take (k * 3) = p3sC (l.take k)
  | l, 0 => by simp [p3sC]
  | [], k + 1 => by simp [p3sC]
  | x :: l, k + 1 => by
    rw [p3sC_cons, show (k + 1) * 3 = k * 3 + 1 + 1 + 1 by omega, List.take_succ_cons, List.take_succ_cons, List.take_succ_cons, List.take_succ_cons, p3sC_take l k]
    rfl
/-- A slice of pairs reads as these. -/
abbrev PReads (w : World) (B : Nat) (A : Option Addr) (n : Nat) (l : List P3) : Prop := Reads w B 3 A n (p3sC l)
theorem PReads.len {w : World} {B n : Nat} {A : Option Addr} {l : List P3} (h : PReads w B A n l) : l.length = n := by have := h.1; rw [p3sC_len] at this; omega
theorem PReads.at_ {w : World} {B n k : Nat} {A : Option Addr} {l : List P3} (h : PReads w B A n l) (hk : k < n) :
    ∃ ad x, A = some ad ∧ ad.block < B ∧ l[k]? = some x ∧ w.cell? (ad.add (k * 3)) = some (.string x.1) ∧ w.cell? ⟨(ad.add (k * 3)).block, (ad.add (k * 3)).off + 1, none⟩ = some (.string x.2.1) ∧ w.cell? ⟨(ad.add (k * 3)).block, (ad.add (k * 3)).off + 2, none⟩ = some (.bool x.2.2) := by
  obtain ⟨ad, e, hb, hc⟩ := h.2 (by omega)
  have hkl : k < l.length := by rw [h.len]; exact hk
  have := p3sC_at l k l[k] (List.getElem?_eq_getElem hkl)
  exact ⟨ad, l[k], e, hb, List.getElem?_eq_getElem hkl, hc _ _ this.1, by rw [← add_1]; exact hc _ _ this.2.1, by rw [← add_2]; exact hc _ _ this.2.2⟩
theorem PReads.cut {w : World} {B n k cap : Nat} {A : Option Addr} {l : List P3} (h : PReads w B A n l) (hk : k ≤ n) (hc : n ≤ cap) : PReads w B (if cap = k then A else A.map (·.add (k * 3))) (n - k) (l.drop k) := by
  have := Reads.cut h hk hc
  rwa [p3sC_drop] at this
theorem PReads.take {w : World} {B n k : Nat} {A : Option Addr} {l : List P3} (h : PReads w B A n l) (hk : k ≤ n) : PReads w B A k (l.take k) := by
  refine ⟨by rw [p3sC_len, List.length_take, h.len]; omega, fun hn => ?_⟩
  obtain ⟨ad, rfl, hb, hcell⟩ := h.2 (by omega)
  refine ⟨ad, rfl, hb, fun j u hu => hcell j u ?_⟩
  rw [← p3sC_take, List.getElem?_take] at hu
  split at hu
  · exact hu
  · cases hu
theorem info_p3 : (Try.prog.info? 39).map (fun i => (i.zero, i.size, i.bytes)) = some (some (.agg #[.string ⟨#[]⟩, .string ⟨#[]⟩, .bool false]), 3, 40) := by kernel_rfl
theorem oneCell_p3 : ∀ l : List P3, ∀ u ∈ p3sC l, u.oneCell' = true
  | [], u, h => by simp [p3sC] at h
  | x :: l, u, h => by
    rw [p3sC_cons] at h
    rcases List.mem_cons.1 h with rfl | h
    · rfl
    · rcases List.mem_cons.1 h with rfl | h
      · rfl
      · rcases List.mem_cons.1 h with rfl | h
        · rfl
        · exact oneCell_p3 l u h
/-- A slice of pairs of the call's own. -/
def POwn (w : World) (base : Nat) (A : Option Addr) (n c : Nat) (l : List P3) : Prop := w.ownsRow base 39 3 (.slice A n c) n (p3sC l) ∧ n ≤ c
section
variable {w w' : World} {base n c : Nat} {A : Option Addr} {l : List P3}
theorem POwn.nil_ (w : World) (base : Nat) : POwn w base none 0 0 [] := ⟨World.ownsRow_nil w base _ 3, Nat.le_refl _⟩
theorem POwn.reads (h : POwn w base A n c l) : PReads w w.heap.size A n l := Reads.of_own h.1
theorem POwn.len (h : POwn w base A n c l) : l.length = n := h.reads.len
theorem POwn.alloc (h : POwn w base A n c l) (o : Obj) : POwn (w.alloc o) base A n c l := ⟨h.1.alloc o, h.2⟩
theorem POwn.drew (h : POwn w base A n c l) : POwn w.drew base A n c l := h
theorem POwn.drewN (h : POwn w base A n c l) (k : Nat) : POwn (w.drewN k) base A n c l := h
theorem POwn.base_le (h : POwn w base A n c l) : ∀ k, (Value.slice A n c).ownBlock = some k → base ≤ k ∧ k < w.heap.size := h.1.lt
theorem POwn.below (h : POwn w base A n c l) (hb : Below w.heap.size w w') : POwn w' base A n c l := by
  refine ⟨⟨h.1.1, ?_⟩, h.2⟩
  rcases h.1.2 with hn | ⟨g, cap, cur, e, hg, hh, rest⟩
  · exact .inl hn
  · exact .inr ⟨g, cap, cur, e, hg, (hb.block g (Array.getElem?_eq_some_iff.1 hh).1).trans hh, rest⟩
theorem POwn.down {base' : Nat} (h : POwn w base A n c l) (hb : base' ≤ base) : POwn w base' A n c l := by
  refine ⟨⟨h.1.1, ?_⟩, h.2⟩
  rcases h.1.2 with hn | ⟨g, cap, cur, e, hg, rest⟩
  · exact .inl hn
  · exact .inr ⟨g, cap, cur, e, Nat.le_trans hb hg, rest⟩
end
section
variable {o : Oper} {rest : List Oper} {ops : Array Oper} {a : Act} {Q : Exit → Act → World → Prop} {w : World}
theorem wpList_papp (hgd : o.guard = none) (s x : Operand)
    (ho : o.op = .call { callee := .builtin .append, args := #[s, x], argTypes := #[33, 33] })
    (base : Nat) (A : Option Addr) (n c : Nat) (xs : List P3) (hs : a.eval s = .slice A n c) (hown : POwn w base A n c xs)
    (B : Nat) (D : Option Addr) (m d : Nat) (l : List P3) (hx : a.eval x = .slice D m d) (hr : PReads w B D m l)
    (hlen : n + m ≤ 3000000000000) (hbase : base ≤ w.heap.size)
    (h : ∀ A' c' w', POwn w' base A' (n + m) c' (xs ++ l) → w.grownBy w' (Value.slice A n c).ownBlock →
      wpList Try.prog ops Q rest (a.put o.dst (.slice A' (n + m) c')) w') : wpList Try.prog ops Q (o :: rest) a w := by
  obtain ⟨i0, hi, hz0, hz1, hz2⟩ := info_parts info_p3
  refine wpList_append_any w hgd s x 33 ho base 39 i0 (.agg #[.string ⟨#[]⟩, .string ⟨#[]⟩, .bool false]) 3 40 Try.underlying33 hi hz0 hz1 hz2 rfl (by decide) (.slice A n c) n (p3sC xs) hs hown.1 B D m d (p3sC l) hx hr (oneCell_p3 l)
    (by simp only [maxLen]; omega) (by omega) hbase ?_
  intro v' w' hown' hg _
  obtain ⟨A', c', rfl, hc⟩ := own_shape hown'
  exact h A' c' w' ⟨by rw [p3sC_app]; exact hown', hc⟩ hg
/-- The same at a lone operation (inside a region that draws its order). -/
theorem wp_papp {K : Act → World → Prop} (s x : Operand)
    (ho : o.op = .call { callee := .builtin .append, args := #[s, x], argTypes := #[33, 33] })
    (base : Nat) (A : Option Addr) (n c : Nat) (xs : List P3) (hs : a.eval s = .slice A n c) (hown : POwn w base A n c xs)
    (B : Nat) (D : Option Addr) (m d : Nat) (l : List P3) (hx : a.eval x = .slice D m d) (hr : PReads w B D m l)
    (hlen : n + m ≤ 3000000000000) (hbase : base ≤ w.heap.size)
    (h : ∀ A' c' w', POwn w' base A' (n + m) c' (xs ++ l) → w.grownBy w' (Value.slice A n c).ownBlock → K (a.put o.dst (.slice A' (n + m) c')) w') : o.wp Try.prog a w K Q := by
  obtain ⟨i0, hi, hz0, hz1, hz2⟩ := info_parts info_p3
  refine wp_append_any w s x 33 ho base 39 i0 (.agg #[.string ⟨#[]⟩, .string ⟨#[]⟩, .bool false]) 3 40 Try.underlying33 hi hz0 hz1 hz2 rfl (by decide) (.slice A n c) n (p3sC xs) hs hown.1 B D m d (p3sC l) hx hr (oneCell_p3 l)
    (by simp only [maxLen]; omega) (by omega) hbase ?_
  intro v' w' hown' hg _
  obtain ⟨A', c', rfl, hc⟩ := own_shape hown'
  exact h A' c' w' ⟨by rw [p3sC_app]; exact hown', hc⟩ hg
theorem step_papp {K : Act → World → Prop} {E : Prop} (hg : o.guard = none) (s x : Operand)
    (ho : o.op = .call { callee := .builtin .append, args := #[s, x], argTypes := #[33, 33] })
    (base : Nat) (A : Option Addr) (n c : Nat) (xs : List P3) (hs : a.eval s = .slice A n c) (hown : POwn w base A n c xs)
    (B : Nat) (D : Option Addr) (m d : Nat) (l : List P3) (hx : a.eval x = .slice D m d) (hr : PReads w B D m l)
    (hlen : n + m ≤ 3000000000000) (hbase : base ≤ w.heap.size)
    (h : ∀ A' c' w', POwn w' base A' (n + m) c' (xs ++ l) → w.grownBy w' (Value.slice A n c).ownBlock → K (a.put o.dst (.slice A' (n + m) c')) w') :
    if Region.wanted o (yielded ops a.tmps) = true then Oper.wp Try.prog o a w K Q else E := by
  have hw : Region.wanted o (yielded ops a.tmps) = true := by simp [Region.wanted, hg]
  rw [if_pos hw]
  exact wp_papp s x ho base A n c xs hs hown B D m d l hx hr hlen hbase h
end
theorem below_papp {B base n c : Nat} {A : Option Addr} {xs : List P3} {a w w' : World} (h : Below B a w) (hg : w.grownBy w' (Value.slice A n c).ownBlock) (ho : POwn w base A n c xs) (hB : B ≤ base) (hs : B ≤ w.heap.size) : Below B a w' :=
  h.grown hg hs fun k hk => Nat.le_trans hB (ho.base_le k hk).1
theorem PReads.one (w : World) (x : P3) (T : TypeId) : PReads (w.alloc (.cells #[.string x.1, .string x.2.1, .bool x.2.2] T)) (w.heap.size + 1) (some ⟨w.heap.size, 0, none⟩) 1 [x] := by
  refine ⟨rfl, fun _ => ⟨_, rfl, Nat.lt_succ_self _, fun j u hu => ?_⟩⟩
  rcases j with _ | _ | _ | j
  · rw [add_zero, World.cell?_alloc_at _ _ _ _ rfl]; exact hu
  · rw [add_pos _ _ (by omega), World.cell?_alloc_at _ _ _ _ rfl]; exact hu
  · rw [add_pos _ _ (by omega), World.cell?_alloc_at _ _ _ _ rfl]; exact hu
  · simp [p3sC, p3C] at hu
/-- An owned row: nothing of it lies in a block of one cell of another's; a store elsewhere keeps it. -/
theorem POwn.setCell {w : World} {base n c : Nat} {A : Option Addr} {l : List P3} (h : POwn w base A n c l) {p : Addr} (hp : p.block < base) (u : Value) : POwn (w.setCell p u) base A n c l := by
  refine ⟨⟨h.1.1, ?_⟩, h.2⟩
  rcases h.1.2 with hn | ⟨g, cap, cur, e, hg, hh, rest⟩
  · exact .inl hn
  · exact .inr ⟨g, cap, cur, e, hg, (Below.heap_setCell w p u g (by omega)).trans hh, rest⟩
end Go.Proofs.Ytohcdnbchidjeaa
