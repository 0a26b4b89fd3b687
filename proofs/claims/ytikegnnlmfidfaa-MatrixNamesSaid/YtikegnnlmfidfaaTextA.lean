/-
  A region that draws its order, walked state by state: what has come up so far is written out; states that are reached in several ways are shown once.
-/
import Derived.Test.YtikegnnlmfidfaaTextT
namespace Go.Proofs.Ytikegnnlmfidfaa
section
variable {P : Program} {ops : Array Oper} {Q : Exit → Act → World → Prop} {S : World → Prop} {n : Nat} {listed : Array Bool} {a : Act} {w : World}
/-- From here on: n operations are left, 'listed' tells which came up. -/
def TA (P : Program) (ops : Array Oper) (Q : Exit → Act → World → Prop) (S : World → Prop) (n : Nat) (listed : Array Bool) (a : Act) (w : World) : Prop := wpAnyH P .any ops Q S n listed a w
/-- Number i comes up next; it may change the world. -/
def TAE (P : Program) (ops : Array Oper) (Q : Exit → Act → World → Prop) (S : World → Prop) (n : Nat) (listed : Array Bool) (a : Act) (w : World) (i : Nat) : Prop :=
  ∃ o, ops[i]? = some o ∧ Region.wanted o (yielded ops a.tmps) = true ∧ ∀ K : Act → World → Prop, RowKit.Hid (∀ a' w', S w' → TA P ops Q S n (listed.setIfInBounds i true) a' w' → K a' w') → Oper.wp P o a w K Q
theorem TA.all (rs : List Nat) (hr : Region.ready .any ops listed = rs) (hne : rs ≠ []) (h : ∀ i ∈ rs, TAE P ops Q S n listed a w i) : TA P ops Q S (n + 1) listed a w := by
  refine wpAnyH_all hr hne fun i hi => ?_
  obtain ⟨o, ho, hw, hk⟩ := h i hi
  unfold wpOp
  simp only [ho, hw, if_true]
  exact .inl (hk _ fun a' w' hS' hT => ⟨hS', hT⟩)
theorem TA.all1 (i : Nat) (hr : Region.ready .any ops listed = [i]) (h : TAE P ops Q S n listed a w i) : TA P ops Q S (n + 1) listed a w := TA.all [i] hr (by simp) fun j hj => by
  obtain rfl : j = i := by simpa using hj
  exact h
theorem TA.all2 (i j : Nat) (hr : Region.ready .any ops listed = [i, j]) (h : TAE P ops Q S n listed a w i) (h' : TAE P ops Q S n listed a w j) : TA P ops Q S (n + 1) listed a w := TA.all [i, j] hr (by simp) fun x hx => by
  rcases (show x = i ∨ x = j by simpa using hx) with rfl | rfl
  · exact h
  · exact h'
theorem TA.all3 (i j k : Nat) (hr : Region.ready .any ops listed = [i, j, k]) (h : TAE P ops Q S n listed a w i) (h' : TAE P ops Q S n listed a w j) (h'' : TAE P ops Q S n listed a w k) : TA P ops Q S (n + 1) listed a w := TA.all [i, j, k] hr (by simp) fun x hx => by
  rcases (show x = i ∨ x = j ∨ x = k by simpa using hx) with rfl | rfl | rfl
  · exact h
  · exact h'
  · exact h''
theorem TA.all4 (i j k l : Nat) (hr : Region.ready .any ops listed = [i, j, k, l]) (h : TAE P ops Q S n listed a w i) (h' : TAE P ops Q S n listed a w j) (h'' : TAE P ops Q S n listed a w k) (h3 : TAE P ops Q S n listed a w l) : TA P ops Q S (n + 1) listed a w := TA.all [i, j, k, l] hr (by simp) fun x hx => by
  rcases (show x = i ∨ x = j ∨ x = k ∨ x = l by simpa using hx) with rfl | rfl | rfl | rfl
  · exact h
  · exact h'
  · exact h''
  · exact h3
/-- An operation that only reads is taken first. -/
theorem TA.val2 {v : Value} (i : Nat) (o : Oper) (ho : ops[i]? = some o) (hn : Region.noSelect ops = true) (hf : (Region.free .any ops listed i && (Region.ready .any ops listed).contains i) = true) (hw : Region.wanted o (yielded ops a.tmps) = true)
    (hy : ∀ w, S w → (execOp a.eval o).run P w = .ok (.value v) w) (hQ : ∀ c a w, Q (.panic c) (a.put o.dst v) w → Q (.panic c) a w) (hS : S w) (h : TA P ops Q S n (listed.setIfInBounds i true) (a.put o.dst v) w) : TA P ops Q S (n + 1) listed a w := by
  rw [Bool.and_eq_true] at hf
  exact wpAnyH_take ho hn hf.1 hf.2 hQ (.inl ⟨hw, hy⟩) hS h
/-- From here on along a tree. -/
theorem TA.tree (t : SK) (hn : Region.noSelect ops = true) (hl : t.len = n) (hok : t.ok ops listed = true) (h : TR P ops Q S t a w) : TA P ops Q S n listed a w := by
  subst hl
  exact h listed hn hok
/-- A state that is reached in several ways is shown once. -/
theorem TA.share {X : Type} (J : X → Prop) (m : Nat) (listed' : Array Bool) (A : X → Act) (W : X → World) (h : ∀ x, J x → TA P ops Q S m listed' (A x) (W x)) (k : RowKit.Hid (∀ x, J x → TA P ops Q S m listed' (A x) (W x)) → TA P ops Q S n listed a w) : TA P ops Q S n listed a w := k h
/-- The beginning. -/
theorem wp_region_ta {id : Nat} {ol : List Oper} {a : Act} {w : World} (S : World → Prop) (m : Nat) (listed : Array Bool) (hm : P.follows .mixedOrders = true) (hl : ol.length = m) (hi : Array.replicate ol.length false = listed) (h : TA P ol.toArray Q S m listed a w.drew) : (Code.region id ol.toArray true).wp P Q a w := by
  refine wp_region_held (S := S) hm ?_
  subst hl
  subst hi
  exact h
end
end Go.Proofs.Ytikegnnlmfidfaa
