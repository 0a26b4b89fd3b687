/-
  A region that draws its order, walked in one order of our own: what only reads is taken as soon as it may come up, under a condition S that is kept; calls and writes come up one at a time.
-/
import Derived.Test.YtndekohimfjdeaaDoorBase
import Derived.OrdersHeld
namespace Go.Proofs.YtndekohimfjdeaaDoor
section
variable {P : Program} {ops : Array Oper} {Q : Exit → Act → World → Prop}
/-- The order: what is in the list comes up so; what is marked may change the world, and is alone when it comes up. -/
def schedOk (ops : Array Oper) : Array Bool → List (Nat × Bool) → Bool
  | listed, [] => (Region.ready .any ops listed).isEmpty
  | listed, (i, e) :: l => (if e then Region.ready .any ops listed == [i] else Region.free .any ops listed i && (Region.ready .any ops listed).contains i) && schedOk ops (listed.setIfInBounds i true) l
/-- From here on, in the order l (each operation written out behind its number), S kept. -/
def TW (P : Program) (ops : Array Oper) (Q : Exit → Act → World → Prop) (S : World → Prop) (l : List (Nat × Bool × Oper)) (a : Act) (w : World) : Prop :=
  ∀ listed, Region.noSelect ops = true → schedOk ops listed (l.map fun x => (x.1, x.2.1)) = true → (∀ x ∈ l, ops[x.1]? = some x.2.2) → wpAnyH P .any ops Q S l.length listed a w
variable {S : World → Prop} {l : List (Nat × Bool × Oper)} {i : Nat} {o : Oper} {a : Act} {w : World}
theorem TW.done (h : Q .normal a w) : TW P ops Q S [] a w := by
  intro listed _ hs _
  refine wpAnyH_done ?_ h 0
  simpa [schedOk] using hs
theorem TW.val {v : Value} (hQ : ∀ c a w, Q (.panic c) (a.put o.dst v) w → Q (.panic c) a w) (hy : YieldsIf P ops S o v a) (hS : S w) (h : TW P ops Q S l (a.put o.dst v) w) :
    TW P ops Q S ((i, false, o) :: l) a w := by
  intro listed hn hs hi
  simp only [List.map_cons, schedOk, Bool.false_eq_true, if_false, Bool.and_eq_true] at hs
  exact wpAnyH_take (hi _ List.mem_cons_self) hn hs.1.1 hs.1.2 hQ hy hS (h _ hn hs.2 fun x hx => hi x (List.mem_cons_of_mem _ hx))
theorem TW.val2 {v : Value} (hw : Region.wanted o (yielded ops a.tmps) = true) (hy : ∀ w, S w → (execOp a.eval o).run P w = .ok (.value v) w)
    (hQ : ∀ c a w, Q (.panic c) (a.put o.dst v) w → Q (.panic c) a w) (hS : S w) (h : TW P ops Q S l (a.put o.dst v) w) : TW P ops Q S ((i, false, o) :: l) a w := TW.val hQ (.inl ⟨hw, hy⟩) hS h
theorem TW.eff (hw : Region.wanted o (yielded ops a.tmps) = true)
    (h : ∀ K : Act → World → Prop, RowKit.Hid (∀ a' w', S w' → TW P ops Q S l a' w' → K a' w') → Oper.wp P o a w K Q) : TW P ops Q S ((i, true, o) :: l) a w := by
  intro listed hn hs hi
  simp only [List.map_cons, schedOk, if_true, Bool.and_eq_true, beq_iff_eq] at hs
  refine wpAnyH_all hs.1 (by simp) fun j hj => ?_
  obtain rfl : j = i := by simpa using hj
  have ho := hi _ List.mem_cons_self
  unfold wpOp
  simp only [ho, hw, if_true]
  exact .inl (h _ fun a' w' hS' hT => ⟨hS', hT _ hn hs.2 fun x hx => hi x (List.mem_cons_of_mem _ hx)⟩)
/-- An operation that is not wanted. -/
theorem TW.skip {e : Bool} (hw : Region.wanted o (yielded ops a.tmps) = false)
    (hQ : ∀ c a w, Q (.panic c) (a.put o.dst undef) w → Q (.panic c) a w) (hS : S w) (h : TW P ops Q S l (a.put o.dst undef) w) : TW P ops Q S ((i, e, o) :: l) a w := by
  cases e
  · exact TW.val hQ (.inr ⟨hw, rfl⟩) hS h
  · intro listed hn hs hi
    simp only [List.map_cons, schedOk, if_true, Bool.and_eq_true, beq_iff_eq] at hs
    refine wpAnyH_all hs.1 (by simp) fun j hj => ?_
    obtain rfl : j = i := by simpa using hj
    have ho := hi _ List.mem_cons_self
    unfold wpOp
    simp only [ho, hw, Bool.false_eq_true, if_false]
    exact ⟨hS, h _ hn hs.2 fun x hx => hi x (List.mem_cons_of_mem _ hx)⟩
theorem wpAnyH_mono {S S' : World → Prop} (hSS : ∀ W, S' W → S W) : ∀ (fuel : Nat) (listed : Array Bool) (a : Act) (w : World), wpAnyH P .any ops Q S' fuel listed a w → wpAnyH P .any ops Q S fuel listed a w
  | 0, _, _, _, h => h
  | fuel + 1, _, _, _, h => ⟨h.1, fun i hi => wpOp_mono (fun a' w' h' => ⟨hSS _ h'.1, wpAnyH_mono hSS fuel _ a' w' h'.2⟩) (h.2 i hi)⟩
/-- More is kept from here on. -/
theorem TW.now (S' : World → Prop) (hSS : ∀ W, S' W → S W) (h : TW P ops Q S' l a w) : TW P ops Q S l a w :=
  fun listed hn hs hi => wpAnyH_mono hSS _ _ _ _ (h listed hn hs hi)
/-- The operations of an order, written out. -/
def outOf (d : Oper) : List Oper → List (Nat × Bool) → List (Nat × Bool × Oper)
  | _, [] => []
  | ops, x :: l => (x.1, x.2, (ops[x.1]?).getD d) :: outOf d ops l
theorem outOf_map (d : Oper) (ops : List Oper) : ∀ l : List (Nat × Bool), (outOf d ops l).map (fun x => (x.1, x.2.1)) = l
  | [] => rfl
  | x :: l => by simp [outOf, outOf_map d ops l]
theorem outOf_len (d : Oper) (ops : List Oper) : ∀ l : List (Nat × Bool), (outOf d ops l).length = l.length
  | [] => rfl
  | x :: l => by simp [outOf, outOf_len d ops l]
theorem outOf_mem (d : Oper) (ops : List Oper) : ∀ l : List (Nat × Bool), (l.all fun x => decide (x.1 < ops.length)) = true → ∀ x ∈ outOf d ops l, ops[x.1]? = some x.2.2
  | [], _, x, hx => by simp [outOf] at hx
  | y :: l, h, x, hx => by
    simp only [List.all_cons, Bool.and_eq_true, decide_eq_true_eq] at h
    rcases List.mem_cons.1 hx with rfl | hx
    · simp only []
      rw [List.getElem?_eq_getElem h.1]
      rfl
    · exact outOf_mem d ops l h.2 x hx
/-- The beginning. -/
theorem wp_region_text {id : Nat} {ol : List Oper} {a : Act} {w : World} (l : List (Nat × Bool)) (S : World → Prop) (hm : P.follows .mixedOrders = true) (hl : l.length = ol.length) (hn : Region.noSelect ol.toArray = true)
    (hs : schedOk ol.toArray (Array.replicate ol.length false) l = true) (hi : (l.all fun x => decide (x.1 < ol.length)) = true)
    (h : ∀ d : Oper, TW P ol.toArray Q S (outOf d ol l) a w.drew) : (Code.region id ol.toArray true).wp P Q a w := by
  refine wp_region_held (S := S) hm ?_
  have h2 := h { dst := none, op := .move (.tmp 0), type := 0, pos := "", after := #[], guard := none } (Array.replicate ol.length false) hn (by rw [outOf_map]; exact hs) (fun x hx => by
    have := outOf_mem _ ol l hi x hx
    simpa using this)
  rw [outOf_len, hl] at h2
  exact h2
end
end Go.Proofs.YtndekohimfjdeaaDoor
