/-
  A region that draws its order, walked along a tree of orders: as XText, but where two operations that may change the world can come up, both ways are walked.
-/
import Derived.Test.YtndekohimfjdeaaDoorText
namespace Go.Proofs.YtndekohimfjdeaaDoor
/-- A tree of orders: 'one i e t': number i next (e: it may change the world, and nothing else can come up); 'two i ti j tj': i or j next, both may change the world. -/
inductive SK where
  | done : SK
  | one (i : Nat) (e : Bool) (t : SK) : SK
  | two (i : Nat) (ti : SK) (j : Nat) (tj : SK) : SK
def SK.len : SK → Nat
  | .done => 0
  | .one _ _ t => t.len + 1
  | .two _ ti _ _ => ti.len + 1
def SK.ok (ops : Array Oper) : SK → Array Bool → Bool
  | .done, listed => (Region.ready .any ops listed).isEmpty
  | .one i e t, listed => (if e then Region.ready .any ops listed == [i] else Region.free .any ops listed i && (Region.ready .any ops listed).contains i) && t.ok ops (listed.setIfInBounds i true)
  | .two i ti j tj, listed => Region.ready .any ops listed == [i, j] && ti.len == tj.len && ti.ok ops (listed.setIfInBounds i true) && tj.ok ops (listed.setIfInBounds j true)
section
variable {P : Program} {ops : Array Oper} {Q : Exit → Act → World → Prop} {S : World → Prop}
def TR (P : Program) (ops : Array Oper) (Q : Exit → Act → World → Prop) (S : World → Prop) (t : SK) (a : Act) (w : World) : Prop :=
  ∀ listed, Region.noSelect ops = true → t.ok ops listed = true → wpAnyH P .any ops Q S t.len listed a w
variable {t ti tj : SK} {i j : Nat} {a : Act} {w : World}
theorem TR.done (h : Q .normal a w) : TR P ops Q S .done a w := by
  intro listed _ hs
  refine wpAnyH_done ?_ h 0
  simpa [SK.ok] using hs
theorem TR.val {v : Value} (o : Oper) (ho : ops[i]? = some o) (hQ : ∀ c a w, Q (.panic c) (a.put o.dst v) w → Q (.panic c) a w) (hy : YieldsIf P ops S o v a) (hS : S w) (h : TR P ops Q S t (a.put o.dst v) w) :
    TR P ops Q S (.one i false t) a w := by
  intro listed hn hs
  simp only [SK.ok, Bool.false_eq_true, if_false, Bool.and_eq_true] at hs
  exact wpAnyH_take ho hn hs.1.1 hs.1.2 hQ hy hS (h _ hn hs.2)
theorem TR.val2 {v : Value} (o : Oper) (ho : ops[i]? = some o) (hw : Region.wanted o (yielded ops a.tmps) = true) (hy : ∀ w, S w → (execOp a.eval o).run P w = .ok (.value v) w)
    (hQ : ∀ c a w, Q (.panic c) (a.put o.dst v) w → Q (.panic c) a w) (hS : S w) (h : TR P ops Q S t (a.put o.dst v) w) : TR P ops Q S (.one i false t) a w := TR.val o ho hQ (.inl ⟨hw, hy⟩) hS h
/-- An operation that is not wanted. -/
theorem TR.skip (o : Oper) (ho : ops[i]? = some o) (hw : Region.wanted o (yielded ops a.tmps) = false)
    (hQ : ∀ c a w, Q (.panic c) (a.put o.dst undef) w → Q (.panic c) a w) (hS : S w) (h : TR P ops Q S t (a.put o.dst undef) w) : TR P ops Q S (.one i false t) a w :=
  TR.val o ho hQ (.inr ⟨hw, rfl⟩) hS h
theorem TR.eff (o : Oper) (ho : ops[i]? = some o) (hw : Region.wanted o (yielded ops a.tmps) = true)
    (h : ∀ K : Act → World → Prop, RowKit.Hid (∀ a' w', S w' → TR P ops Q S t a' w' → K a' w') → Oper.wp P o a w K Q) : TR P ops Q S (.one i true t) a w := by
  intro listed hn hs
  simp only [SK.ok, if_true, Bool.and_eq_true, beq_iff_eq] at hs
  refine wpAnyH_all hs.1 (by simp) fun j hj => ?_
  obtain rfl : j = i := by simpa using hj
  unfold wpOp
  simp only [ho, hw, if_true]
  exact .inl (h _ fun a' w' hS' hT => ⟨hS', hT _ hn hs.2⟩)
theorem TR.two (o o' : Oper) (ho : ops[i]? = some o) (ho' : ops[j]? = some o') (hw : Region.wanted o (yielded ops a.tmps) = true) (hw' : Region.wanted o' (yielded ops a.tmps) = true)
    (h : ∀ K : Act → World → Prop, RowKit.Hid (∀ a' w', S w' → TR P ops Q S ti a' w' → K a' w') → Oper.wp P o a w K Q)
    (h' : ∀ K : Act → World → Prop, RowKit.Hid (∀ a' w', S w' → TR P ops Q S tj a' w' → K a' w') → Oper.wp P o' a w K Q) : TR P ops Q S (.two i ti j tj) a w := by
  intro listed hn hs
  simp only [SK.ok, Bool.and_eq_true, beq_iff_eq] at hs
  obtain ⟨⟨⟨h1, h2⟩, h3⟩, h4⟩ := hs
  show wpAnyH P .any ops Q S (ti.len + 1) listed a w
  refine wpAnyH_all h1 (by simp) fun k hk => ?_
  rcases (show k = i ∨ k = j by simpa using hk) with rfl | rfl
  · unfold wpOp
    simp only [ho, hw, if_true]
    exact .inl (h _ fun a' w' hS' hT => ⟨hS', hT _ hn h3⟩)
  · unfold wpOp
    simp only [ho', hw', if_true]
    exact .inl (h' _ fun a' w' hS' hT => ⟨hS', by have := hT _ hn h4; rwa [← h2] at this⟩)
/-- More is kept from here on. -/
theorem TR.now (S' : World → Prop) (hSS : ∀ W, S' W → S W) (h : TR P ops Q S' t a w) : TR P ops Q S t a w :=
  fun listed hn hs => wpAnyH_mono hSS _ _ _ _ (h listed hn hs)
/-- The beginning. -/
theorem wp_region_tree {id : Nat} {ol : List Oper} {a : Act} {w : World} (t : SK) (S : World → Prop) (hm : P.follows .mixedOrders = true) (hl : t.len = ol.length) (hn : Region.noSelect ol.toArray = true)
    (hs : t.ok ol.toArray (Array.replicate ol.length false) = true) (h : TR P ol.toArray Q S t a w.drew) : (Code.region id ol.toArray true).wp P Q a w := by
  refine wp_region_held (S := S) hm ?_
  have h2 := h (Array.replicate ol.length false) hn hs
  rw [hl] at h2
  exact h2
end
end Go.Proofs.YtndekohimfjdeaaDoor
