/-
  Matrices: rows of own rows of numbers, a map of numbers, an array by value.
-/
import Derived.Test.YtikegnnlmfidfaaMatO
import Derived.Maps.Keyed
namespace Go.Proofs.Ytikegnnlmfidfaa
open Go.RowKit
structure Il where
  a : Option Addr
  n : Nat
  c : Nat
  ds : List Int
def Il.v (l : Il) : Value := .slice l.a l.n l.c
def apartL (x y : Il) : Prop := ∀ b, x.v.ownBlock = some b → y.v.ownBlock ≠ some b
structure OwnL (V : World) (base : Nat) (A : Option Addr) (n c : Nat) (ls : List Il) : Prop where
  row : V.ownsRow base 35 1 (.slice A n c) n (ls.map Il.v)
  nc : n ≤ c
  each : ∀ l ∈ ls, IOwn V base l.a l.n l.c l.ds
  apart : ls.Pairwise apartL
theorem rows_int_ne {V : World} {base base' n c m d : Nat} {A A' : Option Addr} {xs : List Value} {l : List Int} (h : V.ownsRow base 35 1 (.slice A n c) n xs) (h' : IOwn V base' A' m d l) {j : Nat} (hj : (Value.slice A' m d).ownBlock = some j) : (Value.slice A n c).ownBlock ≠ some j := fun e => by
  obtain ⟨c1, f1, e1⟩ := own_cells h'.1 hj
  obtain ⟨c2, f2, e2⟩ := own_cells h e
  have e3 := Option.some.inj (e1.symm.trans e2)
  injection e3 with _ e4 _
  exact absurd e4 (by decide)
section
variable {V V' : World} {base n c : Nat} {A : Option Addr} {ls : List Il}
theorem OwnL.len (h : OwnL V base A n c ls) : ls.length = n := by have h1 := h.row.1; simpa using h1
theorem OwnL.nil_ (V : World) (base : Nat) : OwnL V base none 0 0 [] := ⟨World.ownsRow_nil V base _ 1, Nat.le_refl _, by simp, List.Pairwise.nil⟩
theorem OwnL.keep (h : OwnL V base A n c ls) (hk : ∀ j, base ≤ j → j < V.heap.size → V'.heap[j]? = V.heap[j]?) : OwnL V' base A n c ls :=
  ⟨own_keep h.row fun j hj => hk j (h.row.lt j hj).1 (h.row.lt j hj).2, h.nc, fun l hl => (h.each l hl).keep fun j hj => hk j ((h.each l hl).lt j hj).1 ((h.each l hl).lt j hj).2, h.apart⟩
theorem OwnL.below (h : OwnL V base A n c ls) (hb : Below V.heap.size V V') : OwnL V' base A n c ls := h.keep fun j _ hj => hb.block j hj
theorem OwnL.alloc (h : OwnL V base A n c ls) (o : Obj) : OwnL (V.alloc o) base A n c ls := h.keep fun j _ hj => Below.heap_alloc V o j hj
/-- An empty row more. -/
theorem OwnL.more (h : OwnL V base A n c ls) {A' : Option Addr} {c' : Nat} (hr : V'.ownsRow base 35 1 (.slice A' (n + 1) c') (n + 1) (ls.map Il.v ++ [.slice none 0 0])) (hc : n + 1 ≤ c') (hg : V.grownBy V' (Value.slice A n c).ownBlock) :
    OwnL V' base A' (n + 1) c' (ls ++ [⟨none, 0, 0, []⟩]) := by
  refine ⟨by rw [List.map_append]; exact hr, hc, fun l hl => ?_, List.pairwise_append.2 ⟨h.apart, List.pairwise_singleton _ _, fun x _ y hy b _ h2 => ?_⟩⟩
  · rcases List.mem_append.1 hl with hl | hl
    · exact (h.each l hl).keep fun j hj => hg.block j ((h.each l hl).lt j hj).2 fun e => rows_int_ne h.row (h.each l hl) hj e.symm
    · obtain rfl := List.mem_singleton.1 hl
      exact IOwn.nil_ V' base
  · obtain rfl := List.mem_singleton.1 hy
    simp [Il.v, Value.ownBlock] at h2
/-- A row that has grown. -/
theorem OwnL.put (h : OwnL V base A n c ls) {i : Nat} {l : Il} (hl : ls[i]? = some l) {a' : Option Addr} {n' c' : Nat} {ds' : List Int} (ho : IOwn V' base a' n' c' ds') (hg : V.grownBy V' l.v.ownBlock)
    (hat : (Value.slice a' n' c').ownBlock = l.v.ownBlock ∨ (Value.slice a' n' c').ownBlock = some V.heap.size) (g1 : Nat) (hA : A = some ⟨g1, 0, none⟩) :
    OwnL (V'.setCell ⟨g1, i, none⟩ (.slice a' n' c')) base A n c (ls.set i ⟨a', n', c', ds'⟩) ∧ V'.cell? ⟨g1, i, none⟩ = some l.v ∧ V'.frozen? ⟨g1, i, none⟩ = false ∧ base ≤ g1 ∧ g1 < V.heap.size := by
  subst hA
  have hil := (List.getElem?_eq_some_iff.1 hl).1
  have hlm := List.mem_of_getElem? hl
  have hR : V'.ownsRow base 35 1 (.slice (some ⟨g1, 0, none⟩) n c) n (ls.map Il.v) := own_keep h.row fun j hj => hg.block j (h.row.lt j hj).2 fun e => rows_int_ne h.row (h.each l hlm) e.symm hj
  have hkp : ∀ {b m q : Nat} {A' : Option Addr} {l2 : List Int}, IOwn V' b A' m q l2 → IOwn (V'.setCell ⟨g1, i, none⟩ (.slice a' n' c')) b A' m q l2 := fun h2 => h2.keep fun j hj => Below.heap_setCell V' _ _ j fun e => rows_int_ne hR h2 hj (by rw [e]; rfl)
  have hne : ∀ y ∈ ls, (apartL y l ∨ apartL l y) → IOwn V' base y.a y.n y.c y.ds := fun y hy hap => (h.each y hy).keep fun j hj => hg.block j ((h.each y hy).lt j hj).2 fun e => by
    rcases hap with hap | hap
    · exact hap j hj e.symm
    · exact hap j e.symm hj
  have hst := (hR.stored i (.slice a' n' c')).1
  obtain ⟨hq1, hq2⟩ := h.row.lt g1 rfl
  have hsp := split_at hl
  have hap := h.apart
  rw [hsp, List.pairwise_append, List.pairwise_cons] at hap
  obtain ⟨p1, ⟨p2, p3⟩, p4⟩ := hap
  have hset : ls.set i ⟨a', n', c', ds'⟩ = ls.take i ++ ⟨a', n', c', ds'⟩ :: ls.drop (i + 1) := List.set_eq_take_append_cons_drop.trans (by rw [if_pos hil])
  have hnew : ∀ y ∈ ls, (apartL y l ∨ apartL l y) → ∀ b, y.v.ownBlock = some b → (Value.slice a' n' c').ownBlock ≠ some b := fun y hy hap b hb e => by
    rcases hat with h1 | h1
    · rw [h1] at e
      rcases hap with hap | hap
      · exact hap b hb e
      · exact hap b e hb
    · rw [h1] at e
      have := ((h.each y hy).lt b hb).2
      have := Option.some.inj e
      omega
  refine ⟨⟨?_, h.nc, ?_, ?_⟩, ?_, hR.frozenAt _, hq1, hq2⟩
  · have e1 : (ls.set i ⟨a', n', c', ds'⟩).map Il.v = (ls.map Il.v).set i (.slice a' n' c') := by rw [List.map_set]; rfl
    rw [e1]
    exact hst
  · intro y hy
    rw [hset] at hy
    rcases List.mem_append.1 hy with hy | hy
    · exact hkp (hne y (List.mem_of_mem_take hy) (.inl (p4 y hy l List.mem_cons_self)))
    · rcases List.mem_cons.1 hy with rfl | hy
      · exact hkp ho
      · exact hkp (hne y (List.mem_of_mem_drop hy) (.inr (p2 y hy)))
  · rw [hset, List.pairwise_append, List.pairwise_cons]
    refine ⟨p1, ⟨fun y hy b hb e => ?_, p3⟩, fun x hx y hy b hb => ?_⟩
    · exact hnew y (List.mem_of_mem_drop hy) (.inr (p2 y hy)) b e hb
    · rcases List.mem_cons.1 hy with rfl | hy
      · exact hnew x (List.mem_of_mem_take hx) (.inl (p4 x hx l List.mem_cons_self)) b hb
      · exact p4 x hx y (List.mem_cons_of_mem _ hy) b hb
  · rw [hR.cellAt i (by rw [Nat.mul_one, ← h.len]; exact hil), List.getElem?_map, hl]
    rfl
end
/-- A map of numbers. -/
def ekN (x : Nat) : Value := .int .i64 (x : Int)
theorem ekN_inj (x y : Nat) (h : ekN x = ekN y) : x = y := by unfold ekN at h; injection h with _ h; omega
theorem wfN {x : Nat} (h : x ≤ 1000000) : (Lit.int .i64 (x : Int)).wf = true := by
  have e1 : IntKind.i64.min = -9223372036854775808 := by decide
  have e2 : IntKind.i64.max = 9223372036854775807 := by decide
  simp only [Lit.wf, e1, e2, Bool.and_eq_true, decide_eq_true_eq]
  omega
abbrev IMap (W : World) (b : Nat) (E : List (Nat × Nat)) : Prop := MapIs Try.prog 3 ekN ekN W b E
theorem IMap.look_ {w : World} {b : Nat} {E : List (Nat × Nat)} (h : IMap w b E) (x : Nat) (hx : x ≤ 1000000) :
    (Instr.lookup 34 (.map (some b)) (.int .i64 (x : Int)) true).run Try.prog w = .ok (.tuple #[.int .i64 (((aget x E).getD 0 : Nat) : Int), .bool (aget x E).isSome]) w := by
  have := MapIs.look h (Go.Maps.int_keyed Try.underlying3) ekN_inj Try.underlying34 (Try.zeroValue3 w) true (x := x) (Go.Maps.keyOf_int_mk Try.underlying3 (wfN hx))
  refine this.trans ?_
  cases aget x E <;> rfl
theorem IMap.store_ {w : World} {b : Nat} {E : List (Nat × Nat)} (h : IMap w b E) (x v : Nat) (hx : x ≤ 1000000) :
    ∃ w', (Instr.mapUpdate 34 (.map (some b)) (.int .i64 (x : Int)) (.int .i64 (v : Int))).run Try.prog w = .ok () w' ∧ IMap w' b (aput x v E) ∧ w.grownBy w' (some b) ∧ w'.heap.size = w.heap.size :=
  MapIs.store (ev := ekN) h (Go.Maps.int_keyed Try.underlying3) ekN_inj Try.underlying34 (x := x) (Go.Maps.keyOf_int_mk Try.underlying3 (wfN hx)) v
theorem info_ptrs : (Try.prog.info? 60).map (·.size) = some 17 := by kernel_rfl
theorem run_index_ptrs (w : World) (vs : List Value) (k : Nat) (v : Value) (hk : k < 17) (hv : vs[k]? = some v) : (Instr.index 60 (.agg vs.toArray) (.int .i64 (k : Int))).run Try.prog w = .ok v w := by
  have h1 : (Try.prog.info? 59).map (·.size) = some 1 := by kernel_rfl
  cases hi : Try.prog.info? 59 with
  | none => rw [hi] at h1; cases h1
  | some i =>
    rw [hi] at h1
    have h4 : i.size = 1 := Option.some.inj h1
    simp [Instr.index, run_underlying Try.underlying60, asIntOf, hk, part, sizeOf, typeInfo, hi, h4, hv, Result.andThen]
theorem info_int : (Try.prog.info? 3).map (fun i => (i.zero, i.size, i.bytes)) = some (some (.int .i64 0), 1, 8) := by kernel_rfl
theorem info_ints : (Try.prog.info? 35).map (fun i => (i.zero, i.size, i.bytes)) = some (some (.slice none 0 0), 1, 24) := by kernel_rfl
section
variable {ops : Array Oper} {rest : List Oper} {o : Oper} {a : Act} {Q : Exit → Act → World → Prop} {w : World}
theorem wpList_appI (hgd : o.guard = none) (s x : Operand)
    (ho : o.op = .call { callee := .builtin .append, args := #[s, x], argTypes := #[35, 35] })
    (base : Nat) (A : Option Addr) (n c : Nat) (xs : List Int) (hs : a.eval s = .slice A n c) (hown : IOwn w base A n c xs)
    (B : Nat) (D : Option Addr) (m d : Nat) (l : List Int) (hx : a.eval x = .slice D m d) (hr : IReads w B D m l)
    (N : Nat) (L : List Int) (hN : n + m = N) (hL : xs ++ l = L) (hlen : N ≤ 1000000) (hbase : base ≤ w.heap.size)
    (h : ∀ A' c' w', IOwn w' base A' N c' L → w.grownBy w' (Value.slice A n c).ownBlock → ((Value.slice A' N c').ownBlock = (Value.slice A n c).ownBlock ∨ (Value.slice A' N c').ownBlock = some w.heap.size) → wpList Try.prog ops Q rest (a.put o.dst (.slice A' N c')) w') : wpList Try.prog ops Q (o :: rest) a w := by
  subst hN hL
  obtain ⟨i0, hi, hz0, hz1, hz2⟩ := info_parts info_int
  refine wpList_append_any w hgd s x 35 ho base 3 i0 (.int .i64 0) 1 8 Try.underlying35 hi hz0 hz1 hz2 rfl (by decide) (.slice A n c) n _ hs hown.1 B D m d _ hx hr
    (fun u hu => by obtain ⟨y, _, rfl⟩ := List.mem_map.1 hu; rfl) (by simp only [maxLen]; omega) (by omega) hbase ?_
  intro v' w' hown' hg hat
  obtain ⟨A', c', rfl, hc⟩ := own_shape hown'
  exact h A' c' w' ⟨by rw [List.map_append]; exact hown', hc⟩ hg hat
theorem wpList_appL (hgd : o.guard = none) (s x : Operand)
    (ho : o.op = .call { callee := .builtin .append, args := #[s, x], argTypes := #[29, 29] })
    (base : Nat) (A : Option Addr) (n c : Nat) (ls : List Il) (hs : a.eval s = .slice A n c) (hown : OwnL w base A n c ls)
    (B : Nat) (D : Option Addr) (hx : a.eval x = .slice D 1 1) (hr : Reads w B 1 D 1 [.slice none 0 0])
    (hlen : n + 1 ≤ 1000000) (hbase : base ≤ w.heap.size)
    (h : ∀ A' c' w', OwnL w' base A' (n + 1) c' (ls ++ [⟨none, 0, 0, []⟩]) → w.grownBy w' (Value.slice A n c).ownBlock → wpList Try.prog ops Q rest (a.put o.dst (.slice A' (n + 1) c')) w') : wpList Try.prog ops Q (o :: rest) a w := by
  obtain ⟨i0, hi, hz0, hz1, hz2⟩ := info_parts info_ints
  refine wpList_append_any w hgd s x 29 ho base 35 i0 (.slice none 0 0) 1 24 Try.underlying29 hi hz0 hz1 hz2 rfl (by decide) (.slice A n c) n _ hs hown.row B D 1 1 _ hx hr
    (fun u hu => by obtain rfl := List.mem_singleton.1 hu; rfl) (by simp only [maxLen]; omega) (by omega) hbase ?_
  intro v' w' hown' hg hat
  obtain ⟨A', c', rfl, hc⟩ := own_shape hown'
  exact h A' c' w' (hown.more hown' hc hg) hg
end
theorem Reads.one_ (e : TypeId) (w : World) (z : Value) : Reads (w.alloc (.cells #[z] e)) (w.heap.size + 1) 1 (some ⟨w.heap.size, 0, none⟩) 1 [z] := by
  refine ⟨rfl, fun _ => ⟨_, rfl, Nat.lt_succ_self _, fun j u hu => ?_⟩⟩
  have hj : j = 0 := by
    rcases j with _ | j
    · rfl
    · simp at hu
  subst hj
  simp only [List.getElem?_cons_zero, Option.some.injEq] at hu
  subst hu
  rw [show (⟨w.heap.size, 0, none⟩ : Addr).add 0 = ⟨w.heap.size, 0, none⟩ from rfl]
  exact World.cell?_alloc_at _ _ _ _ rfl
end Go.Proofs.Ytikegnnlmfidfaa
