/-
  Paths, the reference: rows of texts that a call owns; the last of a byte; names.
-/
import Derived.Test.YtndekohimfjdeaaDoorPathG
namespace Go.Proofs.YtndekohimfjdeaaDoor
open Go.RowKit
/-- A row of texts: of the call's own, and one that can be read. -/
def SOwn (w : World) (base : Nat) (A : Option Addr) (n c : Nat) (l : List ByteArray) : Prop := w.ownsRow base 9 1 (.slice A n c) n (l.map Value.string) ∧ n ≤ c
abbrev SReads (w : World) (B : Nat) (A : Option Addr) (n : Nat) (l : List ByteArray) : Prop := Reads w B 1 A n (l.map Value.string)
theorem SReads.len {w : World} {B n : Nat} {A : Option Addr} {l : List ByteArray} (h : SReads w B A n l) : l.length = n := by have := h.1; simpa using this
theorem SReads.at_ {w : World} {B n k : Nat} {A : Option Addr} {l : List ByteArray} (h : SReads w B A n l) (hk : k < n) :
    ∃ ad d, A = some ad ∧ l[k]? = some d ∧ ∀ W, Below B w W → W.cell? (ad.add k) = some (.string d) := by
  obtain ⟨ad, u, e, hb, hu, hc⟩ := Reads.at_ (show Reads w B 1 A n _ from h) hk
  rw [List.getElem?_map] at hu
  cases hl : l[k]? with
  | none => rw [hl] at hu; cases hu
  | some x =>
    rw [hl] at hu
    injection hu with hu
    subst hu
    exact ⟨ad, x, e, rfl, fun W hW => (hW.cell (by rw [block_of_add]; exact hb)).trans hc⟩
section
variable {w w' : World} {base n c : Nat} {A : Option Addr} {l : List ByteArray}
theorem own_keep {K : Nat} {e : TypeId} {v : Value} {xs : List Value} (h : w.ownsRow base e K v n xs) (hk : ∀ j, v.ownBlock = some j → w'.heap[j]? = w.heap[j]?) : w'.ownsRow base e K v n xs := by
  refine ⟨h.1, ?_⟩
  rcases h.2 with hn | ⟨g, cap, cur, ev, hg, hh, rest⟩
  · exact .inl hn
  · exact .inr ⟨g, cap, cur, ev, hg, (hk g (by rw [ev]; rfl)).trans hh, rest⟩
theorem SOwn.reads (h : SOwn w base A n c l) : SReads w w.heap.size A n l := Reads.of_own h.1
theorem SOwn.nil_ (w : World) (base : Nat) : SOwn w base none 0 0 [] := ⟨World.ownsRow_nil w base _ 1, Nat.le_refl _⟩
theorem SOwn.lt (h : SOwn w base A n c l) : ∀ j, (Value.slice A n c).ownBlock = some j → base ≤ j ∧ j < w.heap.size := h.1.lt
theorem SOwn.alloc (h : SOwn w base A n c l) (o : Obj) : SOwn (w.alloc o) base A n c l := ⟨h.1.alloc o, h.2⟩
theorem SOwn.below (h : SOwn w base A n c l) (hb : Below w.heap.size w w') : SOwn w' base A n c l := ⟨own_keep h.1 (fun j hj => hb.block j (h.lt j hj).2), h.2⟩
theorem SReads.one (e : TypeId) (w : World) (z : ByteArray) : SReads (w.alloc (.cells #[.string z] e)) (w.heap.size + 1) (some ⟨w.heap.size, 0, none⟩) 1 [z] := by
  refine ⟨rfl, fun _ => ⟨_, rfl, Nat.lt_succ_self _, fun j u hu => ?_⟩⟩
  have hj : j = 0 := by
    rcases j with _ | j
    · rfl
    · simp at hu
  subst hj
  simp only [List.map_cons, List.map_nil, List.getElem?_cons_zero, Option.some.injEq] at hu
  subst hu
  rw [show (⟨w.heap.size, 0, none⟩ : Addr).add 0 = ⟨w.heap.size, 0, none⟩ from rfl]
  exact World.cell?_alloc_at _ _ _ _ rfl
end
theorem info_str : (Tryd.prog.info? 9).map (fun i => (i.zero, i.size, i.bytes)) = some (some (.string ⟨#[]⟩), 1, 16) := by kernel_rfl
theorem info_parts {P : Program} {e : TypeId} {z : Value} {s b : Nat} (h : (P.info? e).map (fun i => (i.zero, i.size, i.bytes)) = some (some z, s, b)) : ∃ i, P.info? e = some i ∧ i.zero = some z ∧ i.size = s ∧ i.bytes = b := by
  cases hq : P.info? e with
  | none => rw [hq] at h; cases h
  | some i =>
    rw [hq] at h
    simp only [Option.map_some, Option.some.injEq, Prod.mk.injEq] at h
    exact ⟨i, rfl, h.1, h.2.1, h.2.2⟩
section
variable {ops : Array Oper} {rest : List Oper} {o : Oper} {a : Act} {Q : Exit → Act → World → Prop} {w : World}
theorem wpList_appS (hgd : o.guard = none) (s x : Operand)
    (ho : o.op = .call { callee := .builtin .append, args := #[s, x], argTypes := #[76, 76] })
    (base : Nat) (A : Option Addr) (n c : Nat) (xs : List ByteArray) (hs : a.eval s = .slice A n c) (hown : SOwn w base A n c xs)
    (B : Nat) (D : Option Addr) (m d : Nat) (l : List ByteArray) (hx : a.eval x = .slice D m d) (hr : SReads w B D m l)
    (N : Nat) (L : List ByteArray) (hN : n + m = N) (hL : xs ++ l = L) (hlen : N ≤ 1000000) (hbase : base ≤ w.heap.size)
    (h : ∀ A' c' w', SOwn w' base A' N c' L → w.grownBy w' (Value.slice A n c).ownBlock → wpList Tryd.prog ops Q rest (a.put o.dst (.slice A' N c')) w') : wpList Tryd.prog ops Q (o :: rest) a w := by
  subst hN hL
  obtain ⟨i0, hi, hz0, hz1, hz2⟩ := info_parts info_str
  refine wpList_append_any w hgd s x 76 ho base 9 i0 (.string ⟨#[]⟩) 1 16 Tryd.underlying76 hi hz0 hz1 hz2 rfl (by decide) (.slice A n c) n _ hs hown.1 B D m d _ hx hr
    (fun u hu => by obtain ⟨y, _, rfl⟩ := List.mem_map.1 hu; rfl) (by simp only [maxLen]; omega) (by omega) hbase ?_
  intro v' w' hown' hg hat
  obtain ⟨A', c', rfl, hc⟩ := own_shape hown'
  exact h A' c' w' ⟨by rw [List.map_append]; exact hown', hc⟩ hg
end
theorem sown_app {w w' : World} {base n c : Nat} {A : Option Addr} {xs : List ByteArray} {a : World} {B : Nat} (h : Below B a w) (hg : w.grownBy w' (Value.slice A n c).ownBlock) (ho : SOwn w base A n c xs) (hB : B ≤ base) (hs : B ≤ w.heap.size) : Below B a w' :=
  h.grown hg hs fun g hg2 => Nat.le_trans hB (ho.lt g hg2).1
/-! ### The last of a byte -/
theorem last_none {c : UInt8} {l : Bl} (h : ∀ (j : Nat) (x : UInt8), l[j]? = some x → x ≠ c) : cutL c l = none := cutL_none.2 fun hm => by
  obtain ⟨j, hj⟩ := List.mem_iff_getElem?.1 hm
  exact h j c hj rfl
theorem last_some {c : UInt8} {l : Bl} {k : Nat} (hk : l[k]? = some c) (h : ∀ (j : Nat) (x : UInt8), k + 1 ≤ j → l[j]? = some x → x ≠ c) : cutL c l = some (l.take k, l.drop (k + 1)) := cutL_some.2 ⟨by
  obtain ⟨hl, e⟩ := List.getElem?_eq_some_iff.1 hk
  have h5 := List.drop_eq_getElem_cons hl
  rw [e] at h5
  rw [← h5, List.take_append_drop], fun hm => by
  obtain ⟨j, hj⟩ := List.mem_iff_getElem?.1 hm
  rw [List.getElem?_drop] at hj
  exact h (k + 1 + j) c (by omega) hj rfl⟩
/-- Where the last of a byte is, as a number. -/
def lastN (c : UInt8) (l : Bl) : Int := match cutL c l with
  | some (a, _) => (a.length : Int)
  | none => -1
end Go.Proofs.YtndekohimfjdeaaDoor
