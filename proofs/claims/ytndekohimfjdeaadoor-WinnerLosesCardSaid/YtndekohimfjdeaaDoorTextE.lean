/-
  A region that draws its order, walked in one order of our own, where an operation 'e' (an append, a store) ends what some reads lean on: F is kept throughout, G up to e; a read that leans on G must be one that e waits for.
-/
import Derived.Test.YtndekohimfjdeaaDoorBase
import Derived.Test.YtndekohimfjdeaaDoorText
import Derived.OrdersHeld
namespace Go.Proofs.YtndekohimfjdeaaDoor
section
variable {P : Program} {ops : Array Oper} {Q : Exit → Act → World → Prop} {F G : World → Prop} {e : Nat}
def SS (F G : World → Prop) (e : Nat) (listed : Array Bool) (w : World) : Prop := F w ∧ (listed.getD e true = true ∨ G w)
def wpAnyE (P : Program) (ops : Array Oper) (Q : Exit → Act → World → Prop) (F G : World → Prop) (e : Nat) : Nat → Array Bool → Act → World → Prop
  | 0, listed, a, w => Region.ready .any ops listed = [] ∧ Q .normal a w
  | fuel + 1, listed, a, w =>
    (Region.ready .any ops listed = [] → Q .normal a w) ∧
    ∀ i ∈ Region.ready .any ops listed, wpOp P ops Q i (fun a' w' => SS F G e (listed.setIfInBounds i true) w' ∧ wpAnyE P ops Q F G e fuel (listed.setIfInBounds i true) a' w') a w
theorem wpAny_of_E : ∀ (fuel : Nat) (listed : Array Bool) (a : Act) (w : World), wpAnyE P ops Q F G e fuel listed a w → wpAny P .any ops Q fuel listed a w
  | 0, _, _, _, h => h
  | fuel + 1, _, _, _, h => ⟨h.1, fun i hi => wpOp_mono (fun a' w' h' => wpAny_of_E fuel _ a' w' h'.2) (h.2 i hi)⟩
theorem SS.set {listed : Array Bool} {i : Nat} {w : World} (hne : e ≠ i) (h : SS F G e listed w) : SS F G e (listed.setIfInBounds i true) w := by
  unfold SS at *
  rwa [getD_set_ne true (Ne.symm hne)]
theorem SS.unset {listed : Array Bool} {i : Nat} {w : World} (hne : e ≠ i) (h : SS F G e (listed.setIfInBounds i true) w) : SS F G e listed w := by
  unfold SS at *
  rwa [getD_set_ne true (Ne.symm hne)] at h
/-- S: what the read leans on: F alone, or F and G where e waits for the read. -/
theorem wpAnyE_first {S : World → Prop} {i : Nat} {oi : Oper} {v : Value} (hi : ops[i]? = some oi) (hsel : ∀ (j : Nat) (o : Oper) cs b, ops[j]? = some o → o.op ≠ .select cs b)
    (hQ : ∀ c a w, Q (.panic c) (a.put oi.dst v) w → Q (.panic c) a w) (hei : e ≠ i)
    (hS : (∀ w, F w → S w) ∨ ((∀ w, F w → G w → S w) ∧ ∃ oe, ops[e]? = some oe ∧ ∃ x ∈ oe.after, Region.binds .any x = true ∧ x.on = i)) :
    ∀ (fuel : Nat) (listed : Array Bool) (a : Act) (w : World),
      (∀ j oj, ops[j]? = some oj → j ≠ i → listed.getD j true = false → (∀ e ∈ oj.after, Region.binds .any e = true → e.on ≠ i) → oi.apart ops oj = true) →
      i ∈ Region.ready .any ops listed → YieldsIf P ops S oi v a → SS F G e listed w → ((∀ w, F w → S w) ∨ listed.getD e true = false) →
      wpAnyE P ops Q F G e fuel (listed.setIfInBounds i true) (a.put oi.dst v) w → wpAnyE P ops Q F G e (fuel + 1) listed a w := by
  have hSw : ∀ (listed : Array Bool) (w : World), SS F G e listed w → ((∀ w, F w → S w) ∨ listed.getD e true = false) → S w := by
    rintro listed w ⟨hF, hG⟩ hb
    rcases hb with hb | hb
    · exact hb w hF
    · rcases hG with hG | hG
      · rw [hb] at hG; cases hG
      · rcases hS with hS | ⟨hS, _⟩
        · exact hS w hF
        · exact hS w hF hG
  intro fuel
  induction fuel with
  | zero =>
    intro listed a w _ hr hy hss hb H
    refine ⟨fun h => (by rw [h] at hr; cases hr), fun j hj => ?_⟩
    by_cases hji : j = i
    · subst hji; exact hy.wpOp hi (hSw listed w hss hb) ⟨hss.set hei, H⟩
    · have := ready_mono hj hji
      rw [H.1] at this
      cases this
  | succ fuel ih =>
    intro listed a w hfree hr hy hss hb H
    refine ⟨fun h => (by rw [h] at hr; cases hr), fun j hj => ?_⟩
    by_cases hji : j = i
    · subst hji; exact hy.wpOp hi (hSw listed w hss hb) ⟨hss.set hei, H⟩
    · have h1 := H.2 j (ready_mono hj hji)
      obtain ⟨hjun, oj, hoj, hall⟩ := mem_ready.1 hj
      have hnot : ∀ e ∈ oj.after, Region.binds .any e = true → e.on ≠ i := fun e he hb heq => by
        have h1 := hall e he hb
        have h0 := (mem_ready.1 hr).1
        rw [heq] at h1
        rcases Nat.lt_or_ge i listed.size with h' | h'
        · simp [h'] at h0 h1; rw [h0] at h1; cases h1
        · simp [Array.getElem?_eq_none h'] at h1
      have hb' : (∀ w, F w → S w) ∨ (listed.setIfInBounds j true).getD e true = false := by
        rcases hS with hS | ⟨_, oe, hoe, x, hx, hxb, hxi⟩
        · exact .inl hS
        · rcases hb with hb | hb
          · exact .inl hb
          · refine .inr ?_
            have hje : j ≠ e := by
              rintro rfl
              have : oj = oe := Option.some.inj (hoj.symm.trans hoe)
              subst this
              exact hnot x hx hxb hxi
            rw [getD_set_ne true hje]
            exact hb
      have h2 := wpOp_putIf hoj (hfree j oj hoj hji hjun hnot) (fun cs b => hsel i oi cs b hi) (fun cs b => hsel j oj cs b hoj) hQ hy h1
      have hfree' : ∀ k ok, ops[k]? = some ok → k ≠ i → (listed.setIfInBounds j true).getD k true = false →
          (∀ e ∈ ok.after, Region.binds .any e = true → e.on ≠ i) → oi.apart ops ok = true := fun k ok hk hki hun hno => by
        refine hfree k ok hk hki ?_ hno
        by_cases hjk : j = k
        · subst hjk; exact hjun
        · rw [getD_set_ne true hjk] at hun; exact hun
      refine wpOp_mono (fun a' w' h3 => ?_) h2
      obtain ⟨h4, h5, h6⟩ := h3
      rw [Array.setIfInBounds_comm _ _ (Ne.symm hji)] at h5
      have hss' : SS F G e (listed.setIfInBounds j true) w' := h5.unset hei
      refine ⟨hss', ih (listed.setIfInBounds j true) a' w' hfree' (ready_mono hr (Ne.symm hji)) h4 hss' hb' ?_⟩
      rw [Array.setIfInBounds_comm _ _ hji]
      exact h6
/-- e waits for i. -/
def edgeB (ops : Array Oper) (e i : Nat) : Bool := match ops[e]? with | some oe => oe.after.any fun x => Region.binds .any x && x.on == i | none => false
/-- The kinds: 0 a call or a write ahead of e · 1 a read under F (ahead of e) · 2 a read under F and G · 3 a read under F (behind e) · 4 e itself, a call or a write behind it. -/
def schedE (ops : Array Oper) (e : Nat) : Array Bool → List (Nat × Nat) → Bool
  | listed, [] => (Region.ready .any ops listed).isEmpty
  | listed, (i, k) :: l =>
    (match k with
      | 0 => Region.ready .any ops listed == [i]
      | 1 => Region.free .any ops listed i && (Region.ready .any ops listed).contains i && decide (e ≠ i)
      | 2 => Region.free .any ops listed i && (Region.ready .any ops listed).contains i && decide (e ≠ i) && (listed.getD e true == false) && edgeB ops e i
      | 3 => Region.free .any ops listed i && (Region.ready .any ops listed).contains i && decide (e ≠ i) && (listed.getD e true == true)
      | _ => Region.ready .any ops listed == [i] && ((listed.setIfInBounds i true).getD e true == true)) && schedE ops e (listed.setIfInBounds i true) l
def TE (P : Program) (ops : Array Oper) (Q : Exit → Act → World → Prop) (F G : World → Prop) (e : Nat) (l : List (Nat × Nat × Oper)) (a : Act) (w : World) : Prop :=
  ∀ listed, Region.noSelect ops = true → schedE ops e listed (l.map fun x => (x.1, x.2.1)) = true → (∀ x ∈ l, ops[x.1]? = some x.2.2) → wpAnyE P ops Q F G e l.length listed a w
variable {l : List (Nat × Nat × Oper)} {i : Nat} {o : Oper} {a : Act} {w : World}
theorem TE.done (h : Q .normal a w) : TE P ops Q F G e [] a w := by
  intro listed _ hs _
  exact ⟨by simpa [schedE] using hs, h⟩
theorem TE.val1 {v : Value} (hw : Region.wanted o (yielded ops a.tmps) = true) (hy : ∀ w, F w → (execOp a.eval o).run P w = .ok (.value v) w)
    (hQ : ∀ c a w, Q (.panic c) (a.put o.dst v) w → Q (.panic c) a w) (hF : F w) (hG : G w) (h : TE P ops Q F G e l (a.put o.dst v) w) : TE P ops Q F G e ((i, 1, o) :: l) a w := by
  intro listed hn hs hi
  simp only [List.map_cons, schedE, Bool.and_eq_true, decide_eq_true_eq] at hs
  exact wpAnyE_first (S := F) (hi _ List.mem_cons_self) (Region.noSelect_spec hn) hQ hs.1.2 (.inl fun _ h => h) _ _ _ _ (Region.free_spec (hi _ List.mem_cons_self) hs.1.1.1) (by simpa using hs.1.1.2) (.inl ⟨hw, hy⟩) ⟨hF, .inr hG⟩ (.inl fun _ h => h) (h _ hn hs.2 fun x hx => hi x (List.mem_cons_of_mem _ hx))
theorem TE.val2 {v : Value} (hw : Region.wanted o (yielded ops a.tmps) = true) (hy : ∀ w, (F w ∧ G w) → (execOp a.eval o).run P w = .ok (.value v) w)
    (hQ : ∀ c a w, Q (.panic c) (a.put o.dst v) w → Q (.panic c) a w) (hF : F w) (hG : G w) (h : TE P ops Q F G e l (a.put o.dst v) w) : TE P ops Q F G e ((i, 2, o) :: l) a w := by
  intro listed hn hs hi
  simp only [List.map_cons, schedE, Bool.and_eq_true, decide_eq_true_eq, beq_iff_eq] at hs
  refine wpAnyE_first (S := fun w => F w ∧ G w) (hi _ List.mem_cons_self) (Region.noSelect_spec hn) hQ hs.1.1.1.2 (.inr ⟨fun _ h h' => ⟨h, h'⟩, ?_⟩) _ _ _ _ (Region.free_spec (hi _ List.mem_cons_self) hs.1.1.1.1.1) (by simpa using hs.1.1.1.1.2) (.inl ⟨hw, hy⟩) ⟨hF, .inr hG⟩ (.inr hs.1.1.2) (h _ hn hs.2 fun x hx => hi x (List.mem_cons_of_mem _ hx))
  have h2 := hs.1.2
  unfold edgeB at h2
  split at h2
  · rename_i oe hoe
    obtain ⟨x, hx, hb⟩ := Array.any_eq_true'.1 h2
    simp only [Bool.and_eq_true, beq_iff_eq] at hb
    exact ⟨oe, hoe, x, hx, hb.1, hb.2⟩
  · cases h2
theorem TE.val3 {v : Value} (hw : Region.wanted o (yielded ops a.tmps) = true) (hy : ∀ w, F w → (execOp a.eval o).run P w = .ok (.value v) w)
    (hQ : ∀ c a w, Q (.panic c) (a.put o.dst v) w → Q (.panic c) a w) (hF : F w) (h : TE P ops Q F G e l (a.put o.dst v) w) : TE P ops Q F G e ((i, 3, o) :: l) a w := by
  intro listed hn hs hi
  simp only [List.map_cons, schedE, Bool.and_eq_true, decide_eq_true_eq, beq_iff_eq] at hs
  exact wpAnyE_first (S := F) (hi _ List.mem_cons_self) (Region.noSelect_spec hn) hQ hs.1.1.2 (.inl fun _ h => h) _ _ _ _ (Region.free_spec (hi _ List.mem_cons_self) hs.1.1.1.1) (by simpa using hs.1.1.1.2) (.inl ⟨hw, hy⟩) ⟨hF, .inl hs.1.2⟩ (.inl fun _ h => h) (h _ hn hs.2 fun x hx => hi x (List.mem_cons_of_mem _ hx))
theorem TE.eff0 (hw : Region.wanted o (yielded ops a.tmps) = true)
    (h : ∀ K : Act → World → Prop, RowKit.Hid (∀ a' w', F w' → G w' → TE P ops Q F G e l a' w' → K a' w') → Oper.wp P o a w K Q) : TE P ops Q F G e ((i, 0, o) :: l) a w := by
  intro listed hn hs hi
  simp only [List.map_cons, schedE, Bool.and_eq_true, beq_iff_eq] at hs
  refine ⟨fun h0 => (by rw [hs.1] at h0; cases h0), fun j hj => ?_⟩
  rw [hs.1] at hj
  obtain rfl : j = i := by simpa using hj
  have ho := hi _ List.mem_cons_self
  unfold wpOp
  simp only [ho, hw, if_true]
  exact .inl (h _ fun a' w' hF' hG' hT => ⟨⟨hF', .inr hG'⟩, hT _ hn hs.2 fun x hx => hi x (List.mem_cons_of_mem _ hx)⟩)
theorem TE.eff4 (hw : Region.wanted o (yielded ops a.tmps) = true)
    (h : ∀ K : Act → World → Prop, RowKit.Hid (∀ a' w', F w' → TE P ops Q F G e l a' w' → K a' w') → Oper.wp P o a w K Q) : TE P ops Q F G e ((i, 4, o) :: l) a w := by
  intro listed hn hs hi
  simp only [List.map_cons, schedE, Bool.and_eq_true, beq_iff_eq] at hs
  refine ⟨fun h0 => (by rw [hs.1.1] at h0; cases h0), fun j hj => ?_⟩
  rw [hs.1.1] at hj
  obtain rfl : j = i := by simpa using hj
  have ho := hi _ List.mem_cons_self
  unfold wpOp
  simp only [ho, hw, if_true]
  exact .inl (h _ fun a' w' hF' hT => ⟨⟨hF', .inl hs.1.2⟩, hT _ hn hs.2 fun x hx => hi x (List.mem_cons_of_mem _ hx)⟩)
def outE (d : Oper) : List Oper → List (Nat × Nat) → List (Nat × Nat × Oper)
  | _, [] => []
  | ops, x :: l => (x.1, x.2, (ops[x.1]?).getD d) :: outE d ops l
theorem outE_map (d : Oper) (ops : List Oper) : ∀ l : List (Nat × Nat), (outE d ops l).map (fun x => (x.1, x.2.1)) = l
  | [] => rfl
  | x :: l => by simp [outE, outE_map d ops l]
theorem outE_len (d : Oper) (ops : List Oper) : ∀ l : List (Nat × Nat), (outE d ops l).length = l.length
  | [] => rfl
  | x :: l => by simp [outE, outE_len d ops l]
theorem outE_mem (d : Oper) (ops : List Oper) : ∀ l : List (Nat × Nat), (l.all fun x => decide (x.1 < ops.length)) = true → ∀ x ∈ outE d ops l, ops[x.1]? = some x.2.2
  | [], _, x, hx => by simp [outE] at hx
  | y :: l, h, x, hx => by
    simp only [List.all_cons, Bool.and_eq_true, decide_eq_true_eq] at h
    rcases List.mem_cons.1 hx with rfl | hx
    · simp only []
      rw [List.getElem?_eq_getElem h.1]
      rfl
    · exact outE_mem d ops l h.2 x hx
theorem wp_region_E {id : Nat} {ol : List Oper} {a : Act} {w : World} (e : Nat) (l : List (Nat × Nat)) (F G : World → Prop) (hm : P.follows .mixedOrders = true) (hl : l.length = ol.length) (hn : Region.noSelect ol.toArray = true)
    (hs : schedE ol.toArray e (Array.replicate ol.length false) l = true) (hi : (l.all fun x => decide (x.1 < ol.length)) = true)
    (h : ∀ d : Oper, TE P ol.toArray Q F G e (outE d ol l) a w.drew) : (Code.region id ol.toArray true).wp P Q a w := by
  refine wp_region_any hm (wpAny_of_E (F := F) (G := G) (e := e) _ _ _ _ ?_)
  have h2 := h { dst := none, op := .move (.tmp 0), type := 0, pos := "", after := #[], guard := none } (Array.replicate ol.length false) hn (by rw [outE_map]; exact hs) (fun x hx => by
    have := outE_mem _ ol l hi x hx
    simpa using this)
  rw [outE_len, hl] at h2
  simpa using h2
end
end Go.Proofs.YtndekohimfjdeaaDoor
