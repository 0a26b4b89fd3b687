/-
  A region that draws its order, walked in one order of our own, where an operation 'e' (an append, a store) ends what some reads lean on: F is kept throughout, G up to e; a read that leans on G must be one that e waits for.
  Vectors, the reference: Order.
  Paths, in plain Lean: names, parts, folders and bases, stems and endings, conflict copies; what a copy was made of.
  Paths, in plain Lean: what was copied is recovered; temporary files; what is within a folder.
  Paths: strings and lists of bytes; Name, digits.
  Paths: the environment that the library reads; right, Check, split, ending, and the functions over them.
  Paths: ending, Split, Ending, Within, Temp, Temped.
  Paths: digits, marked.
  Paths: marked.
  Paths: Copy.
  Rows of slots: elements of K cells each: loads, stores, the tail cleared; an own row cut at its head.
  Paths: Copied.
-/
import Derived.Test.YtndekohimfjdeaaGreatDoorJ1
import Derived.OrdersHeld
import Derived.Lib.Split
import Derived.Lib.LastIndexByte
import Derived.Lib.ItoaNum
import Derived.Lib.Atoi
import Derived.Lib.Strings
import Derived.Test.YtndekohimfjdeaaGreatDoorShelf
import Derived.Test.YtndekohimfjdeaaGreatDoorChecked
import Derived.Lib.Hide
import Derived.Lib.LaidTab
import Derived.OpenShut
import Derived.WalkSmall
import Derived.Handy
import Derived.Deep.QuietTactic
import Derived.BigQuiet
import Derived.Lib.AtoiErrMem
import Derived.Laws.CopyRow
import Derived.Laws.Rows
namespace Go.Proofs.YtndekohimfjdeaaGreatDoor
section
variable {P : Program} {ops : Array Oper} {Q : Exit → Act → World → Prop} {F G : World → Prop} {e : Nat}
def SS (F G : World → Prop) (e : Nat) (listed : Array Bool) (w : World) : Prop := F w ∧ (listed.getD e true = true ∨ G w)
def wpAnyE (P : Program) (ops : Array Oper) (Q : Exit → Act → World → Prop) (F G : World → Prop) (e : Nat) : Nat → Array Bool → Act → World → Prop
  | 0, listed, a, w => Region.ready .any ops listed = [] ∧ Q .normal a w
  | fuel + 1, listed, a, w =>
    (Region.ready .any ops listed = [] → Q .normal a w) ∧
    ∀ i ∈ Region.ready .any ops listed, wpOp P ops Q i (fun a' w' => SS F G e (listed.setIfInBounds i true) w' ∧ wpAnyE P ops Q F G e fuel (listed.setIfInBounds i true) a' w') a w
theorem wpAny_of_E : ∀ (fuel : Nat) (listed : Array Bool) (a : Act) (w : World), wpAnyE P ops Q F G e fuel listed a w → wpAny P .any ops Q fuel listed a w
  | 0, _, _, _, h => h
  | fuel + 1, _, _, _, h => ⟨h.1, fun i hi => wpOp_mono (fun a' w' h' => wpAny_of_E fuel _ a' w' h'.2) (h.2 i hi)⟩
theorem SS.set {listed : Array Bool} {i : Nat} {w : World} (hne : e ≠ i) (h : SS F G e listed w) : SS F G e (listed.setIfInBounds i true) w := by
  unfold SS at *
  rwa [getD_set_ne true (Ne.symm hne)]
theorem SS.unset {listed : Array Bool} {i : Nat} {w : World} (hne : e ≠ i) (h : SS F G e (listed.setIfInBounds i true) w) : SS F G e listed w := by
  unfold SS at *
  rwa [getD_set_ne true (Ne.symm hne)] at h
/-- S: what the read leans on: F alone, or F and G where e waits for the read. -/
theorem wpAnyE_first {S : World → Prop} {i : Nat} {oi : Oper} {v : Value} (hi : ops[i]? = some oi) (hsel : ∀ (j : Nat) (o : Oper) cs b, ops[j]? = some o → o.op ≠ .select cs b)
    (hQ : ∀ c a w, Q (.panic c) (a.put oi.dst v) w → Q (.panic c) a w) (hei : e ≠ i)
    (hS : (∀ w, F w → S w) ∨ ((∀ w, F w → G w → S w) ∧ ∃ oe, ops[e]? = some oe ∧ ∃ x ∈ oe.after, Region.binds .any x = true ∧ x.on = i)) :
    ∀ (fuel : Nat) (listed : Array Bool) (a : Act) (w : World),
      (∀ j oj, ops[j]? = some oj → j ≠ i → listed.getD j true = false → (∀ e ∈ oj.after, Region.binds .any e = true → e.on ≠ i) → oi.apart ops oj = true) →
      i ∈ Region.ready .any ops listed → YieldsIf P ops S oi v a → SS F G e listed w → ((∀ w, F w → S w) ∨ listed.getD e true = false) →
      wpAnyE P ops Q F G e fuel (listed.setIfInBounds i true) (a.put oi.dst v) w → wpAnyE P ops Q F G e (fuel + 1) listed a w := by
  have hSw : ∀ (listed : Array Bool) (w : World), SS F G e listed w → ((∀ w, F w → S w) ∨ listed.getD e true = false) → S w := by
    rintro listed w ⟨hF, hG⟩ hb
    rcases hb with hb | hb
    · exact hb w hF
    · rcases hG with hG | hG
      · rw [hb] at hG; cases hG
      · rcases hS with hS | ⟨hS, _⟩
        · exact hS w hF
        · exact hS w hF hG
  intro fuel
  induction fuel with
  | zero =>
    intro listed a w _ hr hy hss hb H
    refine ⟨fun h => (by rw [h] at hr; cases hr), fun j hj => ?_⟩
    by_cases hji : j = i
    · subst hji; exact hy.wpOp hi (hSw listed w hss hb) ⟨hss.set hei, H⟩
    · have := ready_mono hj hji
      rw [H.1] at this
      cases this
  | succ fuel ih =>
    intro listed a w hfree hr hy hss hb H
    refine ⟨fun h => (by rw [h] at hr; cases hr), fun j hj => ?_⟩
    by_cases hji : j = i
    · subst hji; exact hy.wpOp hi (hSw listed w hss hb) ⟨hss.set hei, H⟩
    · have h1 := H.2 j (ready_mono hj hji)
      obtain ⟨hjun, oj, hoj, hall⟩ := mem_ready.1 hj
      have hnot : ∀ e ∈ oj.after, Region.binds .any e = true → e.on ≠ i := fun e he hb heq => by
        have h1 := hall e he hb
        have h0 := (mem_ready.1 hr).1
        rw [heq] at h1
        rcases Nat.lt_or_ge i listed.size with h' | h'
        · simp [h'] at h0 h1; rw [h0] at h1; cases h1
        · simp [Array.getElem?_eq_none h'] at h1
      have hb' : (∀ w, F w → S w) ∨ (listed.setIfInBounds j true).getD e true = false := by
        rcases hS with hS | ⟨_, oe, hoe, x, hx, hxb, hxi⟩
        · exact .inl hS
        · rcases hb with hb | hb
          · exact .inl hb
          · refine .inr ?_
            have hje : j ≠ e := by
              rintro rfl
              have : oj = oe := Option.some.inj (hoj.symm.trans hoe)
              subst this
              exact hnot x hx hxb hxi
            rw [getD_set_ne true hje]
            exact hb
      have h2 := wpOp_putIf hoj (hfree j oj hoj hji hjun hnot) (fun cs b => hsel i oi cs b hi) (fun cs b => hsel j oj cs b hoj) hQ hy h1
      have hfree' : ∀ k ok, ops[k]? = some ok → k ≠ i → (listed.setIfInBounds j true).getD k true = false →
          (∀ e ∈ ok.after, Region.binds .any e = true → e.on ≠ i) → oi.apart ops ok = true := fun k ok hk hki hun hno => by
        refine hfree k ok hk hki ?_ hno
        by_cases hjk : j = k
        · subst hjk; exact hjun
        · rw [getD_set_ne true hjk] at hun; exact hun
      refine wpOp_mono (fun a' w' h3 => ?_) h2
      obtain ⟨h4, h5, h6⟩ := h3
      rw [Array.setIfInBounds_comm _ _ (Ne.symm hji)] at h5
      have hss' : SS F G e (listed.setIfInBounds j true) w' := h5.unset hei
      refine ⟨hss', ih (listed.setIfInBounds j true) a' w' hfree' (ready_mono hr (Ne.symm hji)) h4 hss' hb' ?_⟩
      rw [Array.setIfInBounds_comm _ _ hji]
      exact h6
/-- e waits for i. -/
def edgeB (ops : Array Oper) (e i : Nat) : Bool := match ops[e]? with | some oe => oe.after.any fun x => Region.binds .any x && x.on == i | none => false
/-- The kinds: 0 a call or a write ahead of e · 1 a read under F (ahead of e) · 2 a read under F and G · 3 a read under F (behind e) · 4 e itself, a call or a write behind it. -/
def schedE (ops : Array Oper) (e : Nat) : Array Bool → List (Nat × Nat) → Bool
  | listed, [] => (Region.ready .any ops listed).isEmpty
  | listed, (i, k) :: l =>
    (match k with
      | 0 => Region.ready .any ops listed == [i]
      | 1 => Region.free .any ops listed i && (Region.ready .any ops listed).contains i && decide (e ≠ i)
      | 2 => Region.free .any ops listed i && (Region.ready .any ops listed).contains i && decide (e ≠ i) && (listed.getD e true == false) && edgeB ops e i
      | 3 => Region.free .any ops listed i && (Region.ready .any ops listed).contains i && decide (e ≠ i) && (listed.getD e true == true)
      | _ => Region.ready .any ops listed == [i] && ((listed.setIfInBounds i true).getD e true == true)) && schedE ops e (listed.setIfInBounds i true) l
def TE (P : Program) (ops : Array Oper) (Q : Exit → Act → World → Prop) (F G : World → Prop) (e : Nat) (l : List (Nat × Nat × Oper)) (a : Act) (w : World) : Prop :=
  ∀ listed, Region.noSelect ops = true → schedE ops e listed (l.map fun x => (x.1, x.2.1)) = true → (∀ x ∈ l, ops[x.1]? = some x.2.2) → wpAnyE P ops Q F G e l.length listed a w
variable {l : List (Nat × Nat × Oper)} {i : Nat} {o : Oper} {a : Act} {w : World}
theorem TE.done (h : Q .normal a w) : TE P ops Q F G e [] a w := by
  intro listed _ hs _
  exact ⟨by simpa [schedE] using hs, h⟩
theorem TE.val1 {v : Value} (hw : Region.wanted o (yielded ops a.tmps) = true) (hy : ∀ w, F w → (execOp a.eval o).run P w = .ok (.value v) w)
    (hQ : ∀ c a w, Q (.panic c) (a.put o.dst v) w → Q (.panic c) a w) (hF : F w) (hG : G w) (h : TE P ops Q F G e l (a.put o.dst v) w) : TE P ops Q F G e ((i, 1, o) :: l) a w := by
  intro listed hn hs hi
  simp only [List.map_cons, schedE, Bool.and_eq_true, decide_eq_true_eq] at hs
  exact wpAnyE_first (S := F) (hi _ List.mem_cons_self) (Region.noSelect_spec hn) hQ hs.1.2 (.inl fun _ h => h) _ _ _ _ (Region.free_spec (hi _ List.mem_cons_self) hs.1.1.1) (by simpa using hs.1.1.2) (.inl ⟨hw, hy⟩) ⟨hF, .inr hG⟩ (.inl fun _ h => h) (h _ hn hs.2 fun x hx => hi x (List.mem_cons_of_mem _ hx))
theorem TE.val2 {v : Value} (hw : Region.wanted o (yielded ops a.tmps) = true) (hy : ∀ w, (F w ∧ G w) → (execOp a.eval o).run P w = .ok (.value v) w)
    (hQ : ∀ c a w, Q (.panic c) (a.put o.dst v) w → Q (.panic c) a w) (hF : F w) (hG : G w) (h : TE P ops Q F G e l (a.put o.dst v) w) : TE P ops Q F G e ((i, 2, o) :: l) a w := by
  intro listed hn hs hi
  simp only [List.map_cons, schedE, Bool.and_eq_true, decide_eq_true_eq, beq_iff_eq] at hs
  refine wpAnyE_first (S := fun w => F w ∧ G w) (hi _ List.mem_cons_self) (Region.noSelect_spec hn) hQ hs.1.1.1.2 (.inr ⟨fun _ h h' => ⟨h, h'⟩, ?_⟩) _ _ _ _ (Region.free_spec (hi _ List.mem_cons_self) hs.1.1.1.1.1) (by simpa using hs.1.1.1.1.2) (.inl ⟨hw, hy⟩) ⟨hF, .inr hG⟩ (.inr hs.1.1.2) (h _ hn hs.2 fun x hx => hi x (List.mem_cons_of_mem _ hx))
  have h2 := hs.1.2
  unfold edgeB at h2
  split at h2
  · rename_i oe hoe
    obtain ⟨x, hx, hb⟩ := Array.any_eq_true'.1 h2
    simp only [Bool.and_eq_true, beq_iff_eq] at hb
    exact ⟨oe, hoe, x, hx, hb.1, hb.2⟩
  · cases h2
theorem TE.val3 {v : Value} (hw : Region.wanted o (yielded ops a.tmps) = true) (hy : ∀ w, F w → (execOp a.eval o).run P w = .ok (.value v) w)
    (hQ : ∀ c a w, Q (.panic c) (a.put o.dst v) w → Q (.panic c) a w) (hF : F w) (h : TE P ops Q F G e l (a.put o.dst v) w) : TE P ops Q F G e ((i, 3, o) :: l) a w := by
  intro listed hn hs hi
  simp only [List.map_cons, schedE, Bool.and_eq_true, decide_eq_true_eq, beq_iff_eq] at hs
  exact wpAnyE_first (S := F) (hi _ List.mem_cons_self) (Region.noSelect_spec hn) hQ hs.1.1.2 (.inl fun _ h => h) _ _ _ _ (Region.free_spec (hi _ List.mem_cons_self) hs.1.1.1.1) (by simpa using hs.1.1.1.2) (.inl ⟨hw, hy⟩) ⟨hF, .inl hs.1.2⟩ (.inl fun _ h => h) (h _ hn hs.2 fun x hx => hi x (List.mem_cons_of_mem _ hx))
theorem TE.eff0 (hw : Region.wanted o (yielded ops a.tmps) = true)
    (h : ∀ K : Act → World → Prop, RowKit.Hid (∀ a' w', F w' → G w' → TE P ops Q F G e l a' w' → K a' w') → Oper.wp P o a w K Q) : TE P ops Q F G e ((i, 0, o) :: l) a w := by
  intro listed hn hs hi
  simp only [List.map_cons, schedE, Bool.and_eq_true, beq_iff_eq] at hs
  refine ⟨fun h0 => (by rw [hs.1] at h0; cases h0), fun j hj => ?_⟩
  rw [hs.1] at hj
  obtain rfl : j = i := by simpa using hj
  have ho := hi _ List.mem_cons_self
  unfold wpOp
  simp only [ho, hw, if_true]
  exact .inl (h _ fun a' w' hF' hG' hT => ⟨⟨hF', .inr hG'⟩, hT _ hn hs.2 fun x hx => hi x (List.mem_cons_of_mem _ hx)⟩)
theorem TE.eff4 (hw : Region.wanted o (yielded ops a.tmps) = true)
    (h : ∀ K : Act → World → Prop, RowKit.Hid (∀ a' w', F w' → TE P ops Q F G e l a' w' → K a' w') → Oper.wp P o a w K Q) : TE P ops Q F G e ((i, 4, o) :: l) a w := by
  intro listed hn hs hi
  simp only [List.map_cons, schedE, Bool.and_eq_true, beq_iff_eq] at hs
  refine ⟨fun h0 => (by rw [hs.1.1] at h0; cases h0), fun j hj => ?_⟩
  rw [hs.1.1] at hj
  obtain rfl : j = i := by simpa using hj
  have ho := hi _ List.mem_cons_self
  unfold wpOp
  simp only [ho, hw, if_true]
  exact .inl (h _ fun a' w' hF' hT => ⟨⟨hF', .inl hs.1.2⟩, hT _ hn hs.2 fun x hx => hi x (List.mem_cons_of_mem _ hx)⟩)
def outE (d : Oper) : List Oper → List (Nat × Nat) → List (Nat × Nat × Oper)
  | _, [] => []
  | ops, x :: l => (x.1, x.2, (ops[x.1]?).getD d) :: outE d ops l
theorem outE_map (d : Oper) (ops : List Oper) : ∀ l : List (Nat × Nat), (outE d ops l).map (fun x => (x.1, x.2.1)) = l
  | [] => rfl
  | x :: l => by simp [outE, outE_map d ops l]
theorem outE_len (d : Oper) (ops : List Oper) : ∀ l : List (Nat × Nat), (outE d ops l).length = l.length
  | [] => rfl
  | x :: l => by simp [outE, outE_len d ops l]
theorem outE_mem (d : Oper) (ops : List Oper) : ∀ l : List (Nat × Nat), (l.all fun x => decide (x.1 < ops.length)) = true → ∀ x ∈ outE d ops l, ops[x.1]? = some x.2.2
  | [], _, x, hx => by simp [outE] at hx
  | y :: l, h, x, hx => by
    simp only [List.all_cons, Bool.and_eq_true, decide_eq_true_eq] at h
    rcases List.mem_cons.1 hx with rfl | hx
    · simp only []
      rw [List.getElem?_eq_getElem h.1]
      rfl
    · exact outE_mem d ops l h.2 x hx
theorem wp_region_E {id : Nat} {ol : List Oper} {a : Act} {w : World} (e : Nat) (l : List (Nat × Nat)) (F G : World → Prop) (hm : P.follows .mixedOrders = true) (hl : l.length = ol.length) (hn : Region.noSelect ol.toArray = true)
    (hs : schedE ol.toArray e (Array.replicate ol.length false) l = true) (hi : (l.all fun x => decide (x.1 < ol.length)) = true)
    (h : ∀ d : Oper, TE P ol.toArray Q F G e (outE d ol l) a w.drew) : (Code.region id ol.toArray true).wp P Q a w := by
  refine wp_region_any hm (wpAny_of_E (F := F) (G := G) (e := e) _ _ _ _ ?_)
  have h2 := h { dst := none, op := .move (.tmp 0), type := 0, pos := "", after := #[], guard := none } (Array.replicate ol.length false) hn (by rw [outE_map]; exact hs) (fun x hx => by
    have := outE_mem _ ol l hi x hx
    simpa using this)
  rw [outE_len, hl] at h2
  simpa using h2
end
end Go.Proofs.YtndekohimfjdeaaGreatDoor

namespace Go.Proofs.YtndekohimfjdeaaGreatDoor
open Go.RowKit
/-- All values of k devices from d on. -/
def sumK (f : Int → Nat) : Nat → Int → Nat
  | 0, _ => 0
  | k + 1, d => f d + sumK f k (d + 1)
theorem sumK_ofN : ∀ (k : Nat) (d : Int) (f : Int → Nat), sumV (ofN f k d) = sumK f k d
  | 0, _, _ => rfl
  | k + 1, d, f => by
    have ih := sumK_ofN k (d + 1) f
    rw [ofN, sumK, ← ih]
    by_cases hp : 0 < f d
    · rw [if_pos hp]; simp [sumV]
    · rw [if_neg hp, List.nil_append]; omega
theorem sumV_K {a : List (Int × Nat)} (ha : okV 0 a = true) : sumV a = sumK (val a) 16 1 := by
  have := sumK_ofN 16 1 (val a)
  rw [← this]
  exact congrArg sumV (canon_V ha)
theorem sumK_snoc : ∀ (k : Nat) (d : Int) (f : Int → Nat), sumK f (k + 1) d = sumK f k d + f (d + k)
  | 0, d, f => by simp [sumK]
  | k + 1, d, f => by
    have ih := sumK_snoc k (d + 1) f
    rw [sumK, ih, sumK, show d + 1 + (k : Int) = d + ((k + 1 : Nat) : Int) by omega]
    omega
theorem cmp_words {a0 a1 b0 b1 s t : Nat} (h0 : b0 < 18446744073709551616) (h1 : b1 < 18446744073709551616) (e0 : a0 * 18446744073709551616 + b0 = s) (e1 : a1 * 18446744073709551616 + b1 = t) :
    (a0 < a1 → s < t) ∧ (a1 < a0 → t < s) ∧ (a0 = a1 → b0 < b1 → s < t) ∧ (a0 = a1 → b1 < b0 → t < s) ∧ (a0 = a1 → b0 = b1 → s = t) := by omega
theorem carry_step {a q b p x s M : Nat} (h : a * M + b = s) (e : q * M + p = b + x) : (a + q) * M + p = s + x := by rw [Nat.add_mul]; omega
set_option maxRecDepth 100000 in
set_option maxHeartbeats 4000000 in
theorem rorder_v (B : Nat) (A1 A2 : Option Addr) (n1 c1 n2 c2 : Nat) (l1 l2 : List (Int × Nat)) (w : World) (hr1 : CReads w B A1 n1 l1) (hr2 : CReads w B A2 n2 l2) (hB : B ≤ w.heap.size) (hn1 : n1 ≤ 9223372036854775807) (hn2 : n2 ≤ 9223372036854775807)
    (hf1 : fitV l1) (hf2 : fitV l2) :
    Calls Tryz.prog 26 #[.slice A1 n1 c1, .slice A2 n2 c2] w fun e w' => e = .returned (.int .i64 (ordV l1 l2)) ∧ Below w.heap.size w w' := by
  have HR1 := Lib.hid hr1
  have HR2 := Lib.hid hr2
  have HF1 := Lib.hid hf1
  have HF2 := Lib.hid hf2
  clear hr1 hr2 hf1 hf2
  cases ho1 : okV 0 l1
  · have HO := Lib.hid ho1
    have HC := Lib.hid (show ordV l1 l2 = 0 by rw [ordV, ho1]; rfl)
    clear ho1
    go_enter Tryz.func26, Tryz.ntmps26
    go_wp2_with fail
    refine (rcheck_v B A1 n1 c1 l1 w HR1.out hB hn1).mono ?_
    rw [HO.out]
    rintro e w1 ⟨rfl, hb⟩
    go_wp2_with fail
    go_ret
    exact ⟨by rw [HC.out]; rfl, hb⟩
  · have HO1 := Lib.hid ho1
    clear ho1
    cases ho2 : okV 0 l2
    · have HO := Lib.hid ho2
      have HC := Lib.hid (show ordV l1 l2 = 0 by rw [ordV, ho2, HO1.out]; rfl)
      clear ho2
      go_enter Tryz.func26, Tryz.ntmps26
      go_wp2_with fail
      refine (rcheck_v B A1 n1 c1 l1 w HR1.out hB hn1).mono ?_
      rw [HO1.out]
      rintro e w1 ⟨rfl, hb⟩
      go_wp2_with fail
      refine (rcheck_v B A2 n2 c2 l2 w1 (Reads.below (show Reads w B 2 A2 n2 _ from HR2.out) (hb.mono hB)) (Nat.le_trans hB hb.size) hn2).mono ?_
      rw [HO.out]
      rintro e w2 ⟨rfl, hb2⟩
      go_wp2_with fail
      go_ret
      exact ⟨by rw [HC.out]; rfl, btwo hb hb2⟩
    · have HO2 := Lib.hid ho2
      have HC := Lib.hid (show ordV l1 l2 = ordF (sumV l1) (sumV l2) (val l1) (val l2) by rw [ordV, ho2, HO1.out]; rfl)
      clear ho2
      go_enter Tryz.func26, Tryz.ntmps26
      go_wp2_with fail
      refine (rcheck_v B A1 n1 c1 l1 w HR1.out hB hn1).mono ?_
      rw [HO1.out]
      rintro e w1 ⟨rfl, hb1⟩
      have B1 := Lib.hid hb1
      clear hb1
      go_wp2_with fail
      refine (rcheck_v B A2 n2 c2 l2 w1 (Reads.below (show Reads w B 2 A2 n2 _ from HR2.out) (B1.out.mono hB)) (Nat.le_trans hB B1.out.size) hn2).mono ?_
      rw [HO2.out]
      rintro e w2 ⟨rfl, hb2⟩
      have B2 := Lib.hid (btwo B1.out hb2)
      clear hb2 B1
      go_wp2_with fail
      refine (values_v B A1 n1 c1 l1 w2 (Reads.below (show Reads w B 2 A1 n1 _ from HR1.out) (B2.out.mono hB)) (Nat.le_trans hB B2.out.size) hn1 HO1.out HF1.out).mono ?_
      rintro e w3 ⟨rfl, hb3⟩
      have B3 := Lib.hid (btwo B2.out hb3)
      clear hb3 B2
      go_wp2_with fail
      refine (values_v B A2 n2 c2 l2 w3 (Reads.below (show Reads w B 2 A2 n2 _ from HR2.out) (B3.out.mono hB)) (Nat.le_trans hB B3.out.size) hn2 HO2.out HF2.out).mono ?_
      rintro e w4 ⟨rfl, hb4⟩
      have B4 := Lib.hid (btwo B3.out hb4)
      clear hb4 B3
      have HI1 := Lib.hid (show (Tryz.prog.info? 75).map (·.size) = some (valsL l1).length by rw [valsL_len]; kernel_rfl)
      have HI2 := Lib.hid (show (Tryz.prog.info? 75).map (·.size) = some (valsL l2).length by rw [valsL_len]; kernel_rfl)
      go_wp2_with (first
        | (refine wpList_storeN (t := 75) rfl (.tmp 5) (.tmp 21) rfl w4.heap.size (valsL l1) rfl rfl (List.replicate 17 (Value.int .u64 0)).toArray ((Below.heap_alloc _ _ _ (by simp)).trans (heap_alloc_new w4 _)) (by rw [valsL_len]; rfl) HI1.out ?_
           intro w5 n5 b5 z5 o5
           have B5 := Lib.hid (((B4.out.alloc B4.out.size (.cells (List.replicate 17 (Value.int .u64 0)).toArray 75)).alloc (by have := B4.out.size; simp; omega) (.cells (List.replicate 17 (Value.int .u64 0)).toArray 75)).trans (b5.mono B4.out.size))
           have N5 := Lib.hid n5
           have hz5 : w5.heap.size = w4.heap.size + 2 := by rw [z5]; simp
           have E5 := Lib.hid (show w5.heap[w4.heap.size + 1]? = some (.cells (List.replicate 17 (Value.int .u64 0)).toArray 75 (0, 0)) by
             rw [o5 _ (by omega)]
             have := heap_alloc_new (w4.alloc (.cells (List.replicate 17 (Value.int .u64 0)).toArray 75)) (.cells (List.replicate 17 (Value.int .u64 0)).toArray 75)
             simpa using this)
           clear n5 b5 z5 o5
           obtain ⟨g, hg⟩ : ∃ g, w4.heap.size = g := ⟨_, rfl⟩
           have hgw : w.heap.size ≤ g := by rw [← hg]; exact B4.out.size
           rw [hg] at N5 hz5 E5 ⊢
           clear hg B4)
        | (refine wpList_storeN (t := 75) rfl (.tmp 6) (.tmp 23) rfl (g + 1) (valsL l2) rfl rfl (List.replicate 17 (Value.int .u64 0)).toArray E5.out (by rw [valsL_len]; rfl) HI2.out ?_
           intro w6 n6 b6 z6 o6
           have B6 := Lib.hid (B5.out.trans (b6.mono (by omega)))
           have M6 := Lib.hid n6
           have N6 := Lib.hid (N5.out.keep (o6 g (by omega)))
           have hz6 : w6.heap.size = g + 2 := by rw [z6, hz5]
           clear n6 b6 z6 o6 hz5 N5 B5 E5)
        | fail)
      obtain ⟨xs, hxs⟩ : ∃ xs, valsL l1 = xs := ⟨_, rfl⟩
      obtain ⟨ys, hys⟩ : ∃ ys, valsL l2 = ys := ⟨_, rfl⟩
      have HX := Lib.hid (show ∀ j : Nat, j < 17 → xs[j]? = some (val l1 (j : Int)) by rw [← hxs]; exact fun j h => valsL_at l1 h)
      have HY := Lib.hid (show ∀ j : Nat, j < 17 → ys[j]? = some (val l2 (j : Int)) by rw [← hys]; exact fun j h => valsL_at l2 h)
      rw [hxs] at N6 ⊢
      rw [hys] at M6 ⊢
      clear hxs hys HI1 HI2
      have BV := Lib.hid ((B6.out.alloc (by omega) (.cells #[.int .u64 0, .int .u64 0] 77)).alloc (by simp; omega) (.cells #[.int .u64 0, .int .u64 0] 77))
      have P7 := Lib.hid (show NArr 77 ((w6.alloc (.cells #[.int .u64 0, .int .u64 0] 77)).alloc (.cells #[.int .u64 0, .int .u64 0] 77)) (g + 2) [0, 0] by
        have := NArr.new (t := 77) w6 #[.int .u64 0, .int .u64 0] [0, 0] rfl
        rw [hz6] at this
        exact this.alloc _)
      have Q7 := Lib.hid (show NArr 77 ((w6.alloc (.cells #[.int .u64 0, .int .u64 0] 77)).alloc (.cells #[.int .u64 0, .int .u64 0] 77)) (g + 2 + 1) [0, 0] by
        have := NArr.new (t := 77) (w6.alloc (.cells #[.int .u64 0, .int .u64 0] 77)) #[.int .u64 0, .int .u64 0] [0, 0] rfl
        have e : (w6.alloc (.cells #[.int .u64 0, .int .u64 0] 77)).heap.size = g + 2 + 1 := by simp [hz6]
        rw [e] at this
        exact this)
      have N7 := Lib.hid ((N6.out.alloc (.cells #[.int .u64 0, .int .u64 0] 77)).alloc (.cells #[.int .u64 0, .int .u64 0] 77))
      have M7 := Lib.hid ((M6.out.alloc (.cells #[.int .u64 0, .int .u64 0] 77)).alloc (.cells #[.int .u64 0, .int .u64 0] 77))
      clear N6 M6 B6 hz6
      obtain ⟨gl, hgl⟩ : ∃ x, g + 2 + 1 = x := ⟨_, rfl⟩
      obtain ⟨gh, hgh⟩ : ∃ x, g + 2 = x := ⟨_, rfl⟩
      obtain ⟨gy, hgy⟩ : ∃ x, g + 1 = x := ⟨_, rfl⟩
      have hne1 : gl ≠ gh := by omega
      have hne2 : g ≠ gh ∧ g ≠ gl ∧ gy ≠ gh ∧ gy ≠ gl := by omega
      have hle : w.heap.size ≤ gh ∧ w.heap.size ≤ gl := by omega
      rw [hgl] at Q7 ⊢
      rw [hgh] at P7 ⊢
      rw [hgy] at M7 ⊢
      clear hgl hgh hgy hgw
      generalize ((w6.alloc (.cells #[.int .u64 0, .int .u64 0] 77)).alloc (.cells #[.int .u64 0, .int .u64 0] 77)) = w7 at *
      go_loopw [9] (fun i wr => ∃ (k a0 a1 b0 b1 : Nat), k ≤ 16 ∧ i = .int .i64 ((k + 1 : Nat) : Int) ∧ NArr 77 wr gh [a0, a1] ∧ NArr 77 wr gl [b0, b1] ∧ NArr 75 wr g xs ∧ NArr 75 wr gy ys ∧
        a0 ≤ k ∧ a1 ≤ k ∧ b0 < 18446744073709551616 ∧ b1 < 18446744073709551616 ∧ a0 * 18446744073709551616 + b0 = sumK (val l1) k 1 ∧ a1 * 18446744073709551616 + b1 = sumK (val l2) k 1 ∧ Below w.heap.size w wr) (fun i _ => 17 - (intOf i).toNat)
      case atStart => exact ⟨0, 0, 0, 0, 0, Nat.zero_le _, rfl, P7.out, Q7.out, N7.out, M7.out, Nat.le_refl _, Nat.le_refl _, by omega, by omega, rfl, rfl, BV.out⟩
      case round =>
        obtain ⟨k, a0, a1, b0, b1, hk, rfl, hp, hq, hx, hy, ha0, ha1, hb0, hb1, hs0, hs1, hbw⟩ := hrel
        have PW := Lib.hid hp
        have QW := Lib.hid hq
        have XW := Lib.hid hx
        have YW := Lib.hid hy
        have BW := Lib.hid hbw
        have S0 := Lib.hid hs0
        have S1 := Lib.hid hs1
        clear hp hq hx hy hbw hs0 hs1 P7 Q7 N7 M7 BV
        by_cases hlt : k < 16
        · have HXV := Lib.hid (HX.out (k + 1) (by omega))
          have r0 := Lib.hid (show sumK (val l1) (k + 1) 1 = sumK (val l1) k 1 + val l1 ((k + 1 : Nat) : Int) by rw [sumK_snoc]; congr 2; omega)
          have r1 := Lib.hid (show sumK (val l2) (k + 1) 1 = sumK (val l2) k 1 + val l2 ((k + 1 : Nat) : Int) by rw [sumK_snoc]; congr 2; omega)
          have YV := Lib.hid (HY.out (k + 1) (by omega))
          obtain ⟨m, hm⟩ : ∃ m, k + 1 = m := ⟨_, rfl⟩
          have HM := Lib.hid hm
          have hm16 : m < 17 := by omega
          have hm0 : (0 : Int) ≤ (m : Int) := by omega
          have hm17 : (m : Int) < 17 := by omega
          have d0 : decide (m < 17) = true := by simpa using hm16
          have d0' : decide ((m : Int) < 17) = true := by simp; omega
          rw [hm] at HXV YV r0 r1 ⊢
          have v1 := fit_val l1 (m : Int) HF1.out
          have v2 := fit_val l2 (m : Int) HF2.out
          clear hm
          generalize val l1 (m : Int) = x at *
          generalize val l2 (m : Int) = y at *
          obtain ⟨q0, hq⟩ : ∃ q, (b0 + x) / 18446744073709551616 = q := ⟨_, rfl⟩
          obtain ⟨p0, hp⟩ : ∃ p, (b0 + x) % 18446744073709551616 = p := ⟨_, rfl⟩
          have hadd := run_add b0 x wr.drew
          rw [hq, hp] at hadd
          have hq0 : q0 ≤ 1 := by omega
          have hp0 : p0 < 18446744073709551616 := by omega
          have E0 := Lib.hid (show q0 * 18446744073709551616 + p0 = b0 + x by omega)
          have aq0 : a0 + q0 ≤ 17 := by omega
          have cx := NArr.cell XW.out (HXV.out)
          have cl := NArr.cell QW.out (show [b0, b1][0]? = some b0 from rfl)
          have fl := NArr.frozen QW.out 0
          clear hq hp
          go_upto_region 9 with fail
          refine wp_region_E 10 [(0, 1), (1, 2), (2, 1), (3, 1), (4, 1), (5, 0), (6, 1), (7, 1), (8, 1), (9, 1), (10, 4), (11, 3)] (fun V => V.cell? ⟨g, m, none⟩ = some (.int .u64 (x : Int))) (fun V => V.cell? ⟨gl, 0, none⟩ = some (.int .u64 (b0 : Int))) (by kernel_rfl) (by kernel_rfl) (by kernel_rfl) (by kernel_rfl) (by kernel_rfl) (fun _ => ?_)
          simp only [outE, List.getElem?_cons_zero, List.getElem?_cons_succ, Option.getD_some]
          have hF : wr.drew.cell? ⟨g, m, none⟩ = some (.int .u64 (x : Int)) := cx
          have hG : wr.drew.cell? ⟨gl, 0, none⟩ = some (.int .u64 (b0 : Int)) := cl
          have hfl : wr.drew.frozen? ⟨gl, 0, none⟩ = false := fl
          iterate 1 (refine TE.val1 (v := ?_) ?_ ?_ ?_ ?_ ?_ ?_; rotate_left; (focus rfl); (focus (intro W hSW; (try dsimp only at hSW); (try (obtain ⟨hS1, hSW⟩ := hSW)); (try (obtain ⟨hS2, hSW⟩ := hSW)); (try (obtain ⟨hS3, hSW⟩ := hSW)); (try (obtain ⟨hS4, hSW⟩ := hSW)); (try (obtain ⟨hS5, hSW⟩ := hSW)); (try (obtain ⟨hS6, hSW⟩ := hSW)); (try (obtain ⟨hS7, hSW⟩ := hSW)); (try (obtain ⟨hS8, hSW⟩ := hSW)); go_simp; (try with_reducible rfl); done)); (focus exact fun _ _ _ h => h); (focus exact hF); (focus exact hG); simp only [Act.put, List.setIfInBounds_toArray, List.set_cons_zero, List.set_cons_succ])
          iterate 1 (refine TE.val2 (v := ?_) ?_ ?_ ?_ ?_ ?_ ?_; rotate_left; (focus rfl); (focus (intro W hSW; (try dsimp only at hSW); (try (obtain ⟨hS1, hSW⟩ := hSW)); (try (obtain ⟨hS2, hSW⟩ := hSW)); (try (obtain ⟨hS3, hSW⟩ := hSW)); (try (obtain ⟨hS4, hSW⟩ := hSW)); (try (obtain ⟨hS5, hSW⟩ := hSW)); (try (obtain ⟨hS6, hSW⟩ := hSW)); (try (obtain ⟨hS7, hSW⟩ := hSW)); (try (obtain ⟨hS8, hSW⟩ := hSW)); go_simp; (try with_reducible rfl); done)); (focus exact fun _ _ _ h => h); (focus exact hF); (focus exact hG); simp only [Act.put, List.setIfInBounds_toArray, List.set_cons_zero, List.set_cons_succ])
          iterate 3 (refine TE.val1 (v := ?_) ?_ ?_ ?_ ?_ ?_ ?_; rotate_left; (focus rfl); (focus (intro W hSW; (try dsimp only at hSW); (try (obtain ⟨hS1, hSW⟩ := hSW)); (try (obtain ⟨hS2, hSW⟩ := hSW)); (try (obtain ⟨hS3, hSW⟩ := hSW)); (try (obtain ⟨hS4, hSW⟩ := hSW)); (try (obtain ⟨hS5, hSW⟩ := hSW)); (try (obtain ⟨hS6, hSW⟩ := hSW)); (try (obtain ⟨hS7, hSW⟩ := hSW)); (try (obtain ⟨hS8, hSW⟩ := hSW)); go_simp; (try with_reducible rfl); done)); (focus exact fun _ _ _ h => h); (focus exact hF); (focus exact hG); simp only [Act.put, List.setIfInBounds_toArray, List.set_cons_zero, List.set_cons_succ])
          refine TE.eff0 (by rfl) (fun K hK => ?_); go_simp
          (try (go_wp2_with fail)); refine hK.out _ _ hF hG ?_; clear hK; (try simp only [Act.put, List.setIfInBounds_toArray, List.set_cons_zero, List.set_cons_succ])
          iterate 4 (refine TE.val1 (v := ?_) ?_ ?_ ?_ ?_ ?_ ?_; rotate_left; (focus rfl); (focus (intro W hSW; (try dsimp only at hSW); (try (obtain ⟨hS1, hSW⟩ := hSW)); (try (obtain ⟨hS2, hSW⟩ := hSW)); (try (obtain ⟨hS3, hSW⟩ := hSW)); (try (obtain ⟨hS4, hSW⟩ := hSW)); (try (obtain ⟨hS5, hSW⟩ := hSW)); (try (obtain ⟨hS6, hSW⟩ := hSW)); (try (obtain ⟨hS7, hSW⟩ := hSW)); (try (obtain ⟨hS8, hSW⟩ := hSW)); go_simp; (try with_reducible rfl); done)); (focus exact fun _ _ _ h => h); (focus exact hF); (focus exact hG); simp only [Act.put, List.setIfInBounds_toArray, List.set_cons_zero, List.set_cons_succ])
          refine TE.eff4 (by rfl) (fun K hK => ?_); go_simp
          have QN0 := Lib.hid (QW.out.set_ 0 (p0 : Int) p0 rfl).drew
          have PN0 := Lib.hid (PW.out.setOther (p := ⟨gl, 0, none⟩) (by simpa using Ne.symm hne1) (.int .u64 (p0 : Int))).drew
          have XN0 := Lib.hid (XW.out.setOther (p := ⟨gl, 0, none⟩) (by simpa using hne2.2.1) (.int .u64 (p0 : Int))).drew
          have YN0 := Lib.hid (YW.out.setOther (p := ⟨gl, 0, none⟩) (by simpa using hne2.2.2.2) (.int .u64 (p0 : Int))).drew
          have BN0 := Lib.hid (BW.out.setCell (p := ⟨gl, 0, none⟩) hle.2 (.int .u64 (p0 : Int))).drew
          refine hK.out _ _ (NArr.cell XN0.out (HXV.out)) ?_
          have hF := NArr.cell XN0.out (HXV.out)
          clear hK cx cl fl hG hfl hadd PW QW XW YW BW
          (try simp only [Act.put, List.setIfInBounds_toArray, List.set_cons_zero, List.set_cons_succ])
          iterate 1 (refine TE.val3 (v := ?_) ?_ ?_ ?_ ?_ ?_; rotate_left; (focus rfl); (focus (intro W hSW; (try dsimp only at hSW); (try (obtain ⟨hS1, hSW⟩ := hSW)); (try (obtain ⟨hS2, hSW⟩ := hSW)); (try (obtain ⟨hS3, hSW⟩ := hSW)); (try (obtain ⟨hS4, hSW⟩ := hSW)); (try (obtain ⟨hS5, hSW⟩ := hSW)); (try (obtain ⟨hS6, hSW⟩ := hSW)); (try (obtain ⟨hS7, hSW⟩ := hSW)); (try (obtain ⟨hS8, hSW⟩ := hSW)); go_simp; (try with_reducible rfl); done)); (focus exact fun _ _ _ h => h); (focus exact hF); simp only [Act.put, List.setIfInBounds_toArray, List.set_cons_zero, List.set_cons_succ])
          refine TE.done ?_
          clear hF
          generalize (wr.setCell ⟨gl, 0, none⟩ (.int .u64 (p0 : Int))).drew = wn0 at *
          have ch := NArr.cell PN0.out (show [a0, a1][0]? = some a0 from rfl)
          have fh := NArr.frozen PN0.out 0
          have PM0 := Lib.hid (PN0.out.set_ 0 ((a0 : Int) + (q0 : Int)) (a0 + q0) (by simp))
          have QM0 := Lib.hid (QN0.out.setOther (p := ⟨gh, 0, none⟩) (by simpa using hne1) (.int .u64 ((a0 : Int) + (q0 : Int))))
          have XM0 := Lib.hid (XN0.out.setOther (p := ⟨gh, 0, none⟩) (by simpa using hne2.1) (.int .u64 ((a0 : Int) + (q0 : Int))))
          have YM0 := Lib.hid (YN0.out.setOther (p := ⟨gh, 0, none⟩) (by simpa using hne2.2.2.1) (.int .u64 ((a0 : Int) + (q0 : Int))))
          have BM0 := Lib.hid (BN0.out.setCell (p := ⟨gh, 0, none⟩) hle.1 (.int .u64 ((a0 : Int) + (q0 : Int))))
          go_upto_region 11 with fail
          clear ch fh PN0 QN0 XN0 YN0 BN0
          generalize wn0.setCell ⟨gh, 0, none⟩ (.int .u64 ((a0 : Int) + (q0 : Int))) = wm0 at *
          obtain ⟨q1, hq⟩ : ∃ q, (b1 + y) / 18446744073709551616 = q := ⟨_, rfl⟩
          obtain ⟨p1, hp⟩ : ∃ p, (b1 + y) % 18446744073709551616 = p := ⟨_, rfl⟩
          have hadd := run_add b1 y wm0.drew
          rw [hq, hp] at hadd
          have hq1 : q1 ≤ 1 := by omega
          have hp1 : p1 < 18446744073709551616 := by omega
          have E1 := Lib.hid (show q1 * 18446744073709551616 + p1 = b1 + y by omega)
          have aq1 : a1 + q1 ≤ 17 := by omega
          have cy := NArr.cell YM0.out (YV.out)
          have cl := NArr.cell QM0.out (show [p0, b1][1]? = some b1 from rfl)
          have fl := NArr.frozen QM0.out 1
          clear hq hp
          go_upto_region 11 with fail
          refine wp_region_E 10 [(0, 1), (1, 2), (2, 1), (3, 1), (4, 1), (5, 0), (6, 1), (7, 1), (8, 1), (9, 1), (10, 4), (11, 3)] (fun V => V.cell? ⟨gy, m, none⟩ = some (.int .u64 (y : Int))) (fun V => V.cell? ⟨gl, 1, none⟩ = some (.int .u64 (b1 : Int))) (by kernel_rfl) (by kernel_rfl) (by kernel_rfl) (by kernel_rfl) (by kernel_rfl) (fun _ => ?_)
          simp only [outE, List.getElem?_cons_zero, List.getElem?_cons_succ, Option.getD_some]
          have hF : wm0.drew.cell? ⟨gy, m, none⟩ = some (.int .u64 (y : Int)) := cy
          have hG : wm0.drew.cell? ⟨gl, 1, none⟩ = some (.int .u64 (b1 : Int)) := cl
          have hfl : wm0.drew.frozen? ⟨gl, 1, none⟩ = false := fl
          iterate 1 (refine TE.val1 (v := ?_) ?_ ?_ ?_ ?_ ?_ ?_; rotate_left; (focus rfl); (focus (intro W hSW; (try dsimp only at hSW); (try (obtain ⟨hS1, hSW⟩ := hSW)); (try (obtain ⟨hS2, hSW⟩ := hSW)); (try (obtain ⟨hS3, hSW⟩ := hSW)); (try (obtain ⟨hS4, hSW⟩ := hSW)); (try (obtain ⟨hS5, hSW⟩ := hSW)); (try (obtain ⟨hS6, hSW⟩ := hSW)); (try (obtain ⟨hS7, hSW⟩ := hSW)); (try (obtain ⟨hS8, hSW⟩ := hSW)); go_simp; (try with_reducible rfl); done)); (focus exact fun _ _ _ h => h); (focus exact hF); (focus exact hG); simp only [Act.put, List.setIfInBounds_toArray, List.set_cons_zero, List.set_cons_succ])
          iterate 1 (refine TE.val2 (v := ?_) ?_ ?_ ?_ ?_ ?_ ?_; rotate_left; (focus rfl); (focus (intro W hSW; (try dsimp only at hSW); (try (obtain ⟨hS1, hSW⟩ := hSW)); (try (obtain ⟨hS2, hSW⟩ := hSW)); (try (obtain ⟨hS3, hSW⟩ := hSW)); (try (obtain ⟨hS4, hSW⟩ := hSW)); (try (obtain ⟨hS5, hSW⟩ := hSW)); (try (obtain ⟨hS6, hSW⟩ := hSW)); (try (obtain ⟨hS7, hSW⟩ := hSW)); (try (obtain ⟨hS8, hSW⟩ := hSW)); go_simp; (try with_reducible rfl); done)); (focus exact fun _ _ _ h => h); (focus exact hF); (focus exact hG); simp only [Act.put, List.setIfInBounds_toArray, List.set_cons_zero, List.set_cons_succ])
          iterate 3 (refine TE.val1 (v := ?_) ?_ ?_ ?_ ?_ ?_ ?_; rotate_left; (focus rfl); (focus (intro W hSW; (try dsimp only at hSW); (try (obtain ⟨hS1, hSW⟩ := hSW)); (try (obtain ⟨hS2, hSW⟩ := hSW)); (try (obtain ⟨hS3, hSW⟩ := hSW)); (try (obtain ⟨hS4, hSW⟩ := hSW)); (try (obtain ⟨hS5, hSW⟩ := hSW)); (try (obtain ⟨hS6, hSW⟩ := hSW)); (try (obtain ⟨hS7, hSW⟩ := hSW)); (try (obtain ⟨hS8, hSW⟩ := hSW)); go_simp; (try with_reducible rfl); done)); (focus exact fun _ _ _ h => h); (focus exact hF); (focus exact hG); simp only [Act.put, List.setIfInBounds_toArray, List.set_cons_zero, List.set_cons_succ])
          refine TE.eff0 (by rfl) (fun K hK => ?_); go_simp
          (try (go_wp2_with fail)); refine hK.out _ _ hF hG ?_; clear hK; (try simp only [Act.put, List.setIfInBounds_toArray, List.set_cons_zero, List.set_cons_succ])
          iterate 4 (refine TE.val1 (v := ?_) ?_ ?_ ?_ ?_ ?_ ?_; rotate_left; (focus rfl); (focus (intro W hSW; (try dsimp only at hSW); (try (obtain ⟨hS1, hSW⟩ := hSW)); (try (obtain ⟨hS2, hSW⟩ := hSW)); (try (obtain ⟨hS3, hSW⟩ := hSW)); (try (obtain ⟨hS4, hSW⟩ := hSW)); (try (obtain ⟨hS5, hSW⟩ := hSW)); (try (obtain ⟨hS6, hSW⟩ := hSW)); (try (obtain ⟨hS7, hSW⟩ := hSW)); (try (obtain ⟨hS8, hSW⟩ := hSW)); go_simp; (try with_reducible rfl); done)); (focus exact fun _ _ _ h => h); (focus exact hF); (focus exact hG); simp only [Act.put, List.setIfInBounds_toArray, List.set_cons_zero, List.set_cons_succ])
          refine TE.eff4 (by rfl) (fun K hK => ?_); go_simp
          have QN1 := Lib.hid (QM0.out.set_ 1 (p1 : Int) p1 rfl).drew
          have PN1 := Lib.hid (PM0.out.setOther (p := ⟨gl, 1, none⟩) (by simpa using Ne.symm hne1) (.int .u64 (p1 : Int))).drew
          have XN1 := Lib.hid (XM0.out.setOther (p := ⟨gl, 1, none⟩) (by simpa using hne2.2.1) (.int .u64 (p1 : Int))).drew
          have YN1 := Lib.hid (YM0.out.setOther (p := ⟨gl, 1, none⟩) (by simpa using hne2.2.2.2) (.int .u64 (p1 : Int))).drew
          have BN1 := Lib.hid (BM0.out.setCell (p := ⟨gl, 1, none⟩) hle.2 (.int .u64 (p1 : Int))).drew
          refine hK.out _ _ (NArr.cell YN1.out (YV.out)) ?_
          have hF := NArr.cell YN1.out (YV.out)
          clear hK cy cl fl hG hfl hadd PM0 QM0 XM0 YM0 BM0
          (try simp only [Act.put, List.setIfInBounds_toArray, List.set_cons_zero, List.set_cons_succ])
          iterate 1 (refine TE.val3 (v := ?_) ?_ ?_ ?_ ?_ ?_; rotate_left; (focus rfl); (focus (intro W hSW; (try dsimp only at hSW); (try (obtain ⟨hS1, hSW⟩ := hSW)); (try (obtain ⟨hS2, hSW⟩ := hSW)); (try (obtain ⟨hS3, hSW⟩ := hSW)); (try (obtain ⟨hS4, hSW⟩ := hSW)); (try (obtain ⟨hS5, hSW⟩ := hSW)); (try (obtain ⟨hS6, hSW⟩ := hSW)); (try (obtain ⟨hS7, hSW⟩ := hSW)); (try (obtain ⟨hS8, hSW⟩ := hSW)); go_simp; (try with_reducible rfl); done)); (focus exact fun _ _ _ h => h); (focus exact hF); simp only [Act.put, List.setIfInBounds_toArray, List.set_cons_zero, List.set_cons_succ])
          refine TE.done ?_
          clear hF
          generalize (wm0.setCell ⟨gl, 1, none⟩ (.int .u64 (p1 : Int))).drew = wn1 at *
          have ch := NArr.cell PN1.out (show [a0 + q0, a1][1]? = some a1 from rfl)
          have fh := NArr.frozen PN1.out 1
          have PM1 := Lib.hid (PN1.out.set_ 1 ((a1 : Int) + (q1 : Int)) (a1 + q1) (by simp))
          have QM1 := Lib.hid (QN1.out.setOther (p := ⟨gh, 1, none⟩) (by simpa using hne1) (.int .u64 ((a1 : Int) + (q1 : Int))))
          have XM1 := Lib.hid (XN1.out.setOther (p := ⟨gh, 1, none⟩) (by simpa using hne2.1) (.int .u64 ((a1 : Int) + (q1 : Int))))
          have YM1 := Lib.hid (YN1.out.setOther (p := ⟨gh, 1, none⟩) (by simpa using hne2.2.2.1) (.int .u64 ((a1 : Int) + (q1 : Int))))
          have BM1 := Lib.hid (BN1.out.setCell (p := ⟨gh, 1, none⟩) hle.1 (.int .u64 ((a1 : Int) + (q1 : Int))))
          go_wp2_with fail
          clear ch fh PN1 QN1 XN1 YN1 BN1
          generalize wn1.setCell ⟨gh, 1, none⟩ (.int .u64 ((a1 : Int) + (q1 : Int))) = wm1 at *
          go_roundw
          case rel => exact ⟨k + 1, a0 + q0, a1 + q1, p0, p1, hlt, by rw [HM.out]; go_num, PM1.out, QM1.out, XM1.out, YM1.out, by omega, by omega, hp0, hp1, (carry_step S0.out E0.out).trans (by rw [HM.out, r0.out]), (carry_step S1.out E1.out).trans (by rw [HM.out, r1.out]), BM1.out⟩
          case measure => simp [intOf]; omega
        · obtain rfl : k = 16 := by omega
          have HSV := Lib.hid (show sumV l1 = sumK (val l1) 16 1 ∧ sumV l2 = sumK (val l2) 16 1 from ⟨sumV_K HO1.out, sumV_K HO2.out⟩)
          have HW := Lib.hid (cmp_words hb0 hb1 (S0.out.trans HSV.out.1.symm) (S1.out.trans HSV.out.2.symm))
          have c0 := NArr.cell PW.out (show [a0, a1][0]? = some a0 from rfl)
          have c1 := NArr.cell PW.out (show [a0, a1][1]? = some a1 from rfl)
          have c2 := NArr.cell QW.out (show [b0, b1][0]? = some b0 from rfl)
          have c3 := NArr.cell QW.out (show [b0, b1][1]? = some b1 from rfl)
          by_cases h1 : a0 < a1
          · have d1 : ((a0 : Int) != (a1 : Int)) = true := by rw [bne_iff_ne]; omega
            have d2 : decide (a0 < a1) = true := by simpa using h1
            have HF := Lib.hid (show ordV l1 l2 = -1 by rw [HC.out, ordF, if_pos (HW.out.1 h1)])
            clear h1
            go_wp2_with fail
            go_ret
            exact ⟨by rw [HF.out]; rfl, BW.out⟩
          · have d2 : decide (a0 < a1) = false := by simpa using h1
            by_cases h2 : a1 < a0
            · have d1 : ((a0 : Int) != (a1 : Int)) = true := by rw [bne_iff_ne]; omega
              have d3 : ((a0 : Int) == (a1 : Int)) = false := by rw [beq_eq_false_iff_ne]; omega
              have HF := Lib.hid (show ordV l1 l2 = 1 by have := HW.out.2.1 h2; rw [HC.out, ordF, if_neg (by omega), if_pos this])
              clear h1 h2
              go_wp2_with fail
              go_ret
              exact ⟨by rw [HF.out]; rfl, BW.out⟩
            · obtain rfl : a0 = a1 := by omega
              clear h1 h2
              by_cases h3 : b0 < b1
              · have d1 : ((b0 : Int) != (b1 : Int)) = true := by rw [bne_iff_ne]; omega
                have d3 : decide (b0 < b1) = true := by simpa using h3
                have HF := Lib.hid (show ordV l1 l2 = -1 by rw [HC.out, ordF, if_pos (HW.out.2.2.1 rfl h3)])
                clear h3
                go_wp2_with fail
                go_ret
                exact ⟨by rw [HF.out]; rfl, BW.out⟩
              · have d3 : decide (b0 < b1) = false := by simpa using h3
                by_cases h4 : b1 < b0
                · have d1 : ((b0 : Int) != (b1 : Int)) = true := by rw [bne_iff_ne]; omega
                  have HF := Lib.hid (show ordV l1 l2 = 1 by have := HW.out.2.2.2.1 rfl h4; rw [HC.out, ordF, if_neg (by omega), if_pos this])
                  clear h3 h4
                  go_wp2_with fail
                  go_ret
                  exact ⟨by rw [HF.out]; rfl, BW.out⟩
                · obtain rfl : b0 = b1 := by omega
                  clear h3 h4 d3 d2
                  have HG := Lib.hid (show ordV l1 l2 = firstD (val l1) (val l2) 16 1 by have := HW.out.2.2.2.2 rfl rfl; rw [HC.out, ordF, if_neg (by omega), if_neg (by omega)])
                  clear HC HW S0 S1
                  go_wp2_with fail
                  generalize wr = wo at *
                  go_loopw [11] (fun i wx => ∃ (k : Nat), k ≤ 16 ∧ i = .int .i64 ((k + 1 : Nat) : Int) ∧ ordV l1 l2 = firstD (val l1) (val l2) (16 - k) ((k : Int) + 1) ∧ Below wo.heap.size wo wx) (fun i _ => 17 - (intOf i).toNat)
                  case atStart => exact ⟨0, Nat.zero_le _, rfl, HG.out, Below.refl _ _⟩
                  case round =>
                    obtain ⟨k, hk, rfl, ho, hbq⟩ := hrel
                    have HO3 := Lib.hid ho
                    have BQ := Lib.hid hbq
                    clear ho hbq HG
                    by_cases hlt : k < 16
                    · have HS := Lib.hid (show ordV l1 l2 = if val l1 ((k + 1 : Nat) : Int) = val l2 ((k + 1 : Nat) : Int) then firstD (val l1) (val l2) (16 - (k + 1)) (((k + 1 : Nat) : Int) + 1) else if val l2 ((k + 1 : Nat) : Int) < val l1 ((k + 1 : Nat) : Int) then 1 else -1 by
                        rw [HO3.out, show 16 - k = (16 - (k + 1)) + 1 by omega]; rfl)
                      have cx := NArr.cell (XW.out.below BQ.out) (HX.out (k + 1) (by omega))
                      have cy := NArr.cell (YW.out.below BQ.out) (HY.out (k + 1) (by omega))
                      obtain ⟨m, hm⟩ : ∃ m, k + 1 = m := ⟨_, rfl⟩
                      have HM := Lib.hid hm
                      have hm16 : m < 17 := by omega
                      have hm0 : (0 : Int) ≤ (m : Int) := by omega
                      have hm17 : (m : Int) < 17 := by omega
                      have d0 : decide (m < 17) = true := by simpa using hm16
                      have d0' : decide ((m : Int) < 17) = true := by simp; omega
                      rw [hm] at cx cy HS ⊢
                      have v1 := fit_val l1 (m : Int) HF1.out
                      have v2 := fit_val l2 (m : Int) HF2.out
                      clear hm
                      generalize val l1 (m : Int) = x at *
                      generalize val l2 (m : Int) = y at *
                      by_cases h1 : x < y
                      · have e1 : decide (x < y) = true := by simpa using h1
                        have HF := Lib.hid (show ordV l1 l2 = -1 by rw [HS.out, if_neg (by omega), if_neg (by omega)])
                        clear h1
                        go_upto_region 20 with fail
                        go_quiet (fail)
                        go_wp2_with fail
                        go_ret
                        exact ⟨by rw [HF.out]; rfl, by first | exact below_drewN (BW.out.trans (BQ.out.mono BW.out.size)) _ | exact below_drewN (below_drewN (BW.out.trans (BQ.out.mono BW.out.size)) _) _⟩
                      · have e1 : decide (x < y) = false := by simpa using h1
                        by_cases h2 : y < x
                        · have e2 : decide (y < x) = true := by simpa using h2
                          have HF := Lib.hid (show ordV l1 l2 = 1 by rw [HS.out, if_neg (by omega), if_pos h2])
                          clear h1 h2
                          go_upto_region 20 with fail
                          go_quiet (fail)
                          go_upto_region 22 with fail
                          go_quiet (fail)
                          go_wp2_with fail
                          go_ret
                          exact ⟨by rw [HF.out]; rfl, by first | exact below_drewN (BW.out.trans (BQ.out.mono BW.out.size)) _ | exact below_drewN (below_drewN (BW.out.trans (BQ.out.mono BW.out.size)) _) _⟩
                        · have e2 : decide (y < x) = false := by simpa using h2
                          have HF := Lib.hid (show ordV l1 l2 = firstD (val l1) (val l2) (16 - (k + 1)) (((k + 1 : Nat) : Int) + 1) by rw [HS.out, if_pos (by omega), HM.out])
                          clear h1 h2
                          go_upto_region 20 with fail
                          go_quiet (fail)
                          go_upto_region 22 with fail
                          go_quiet (fail)
                          go_wp2_with fail
                          go_roundw
                          case rel => exact ⟨k + 1, hlt, by rw [HM.out]; go_num, HF.out, by first | exact below_drewN BQ.out _ | exact below_drewN (below_drewN BQ.out _) _⟩
                          case measure => simp [intOf]; omega
                    · obtain rfl : k = 16 := by omega
                      have HF := Lib.hid (show ordV l1 l2 = 0 by rw [HO3.out]; rfl)
                      go_wp2_with fail
                      go_ret
                      exact ⟨by rw [HF.out]; rfl, BW.out.trans (BQ.out.mono BW.out.size)⟩
end Go.Proofs.YtndekohimfjdeaaGreatDoor

namespace Go.Proofs.YtndekohimfjdeaaGreatDoor
abbrev Bl := List UInt8
def nameC (c : UInt8) : Bool := (decide (97 ≤ c.toNat) && decide (c.toNat ≤ 122)) || (decide (48 ≤ c.toNat) && decide (c.toNat ≤ 57)) || decide (c.toNat = 45) || decide (c.toNat = 95) || decide (c.toNat = 46)
def nameL (l : Bl) : Bool := decide (1 ≤ l.length) && decide (l.length ≤ 24) && !decide (l.head? = some 46) && l.all nameC
/-- The parts between the slashes. -/
def segs : Bl → List Bl
  | [] => [[]]
  | c :: l => if c = 47 then [] :: segs l else match segs l with
    | s :: r => (c :: s) :: r
    | [] => [[c]]
def prightL (l : Bl) : Bool := (segs l).all nameL && (decide ((segs l).length ≤ 4) && decide (l.length ≤ 64))
def checkL (l : Bl) : Nat := if 64 < l.length then 3 else if prightL l then 0 else 2
/-- Cut at the last c. -/
def cutL (c : UInt8) : Bl → Option (Bl × Bl)
  | [] => none
  | x :: l => match cutL c l with
    | some (a, b) => some (x :: a, b)
    | none => if x = c then some ([], l) else none
def folderL (l : Bl) : Bl := match cutL 47 l with
  | some (a, _) => a
  | none => []
def baseL (l : Bl) : Bl := match cutL 47 l with
  | some (_, b) => b
  | none => l
def stemB (b : Bl) : Bl := match cutL 46 b with
  | some (a, _) => a
  | none => b
def endB (b : Bl) : Bl := match cutL 46 b with
  | some (_, y) => 46 :: y
  | none => []
def dec (n : Nat) : Bl := Lib.decDigits n
def joinF (f b : Bl) : Bl := if f = [] then b else f ++ [47] ++ b
def markL (d n : Nat) : Bl := [46, 99] ++ dec d ++ [45] ++ dec n
def copyOut (l : Bl) (d n : Nat) : Bl := joinF (folderL l) (stemB (baseL l) ++ markL d n ++ endB (baseL l))
def copyL (l : Bl) (d n : Int) : Bl × Nat :=
  if checkL l ≠ 0 then ([], checkL l) else if d < 1 ∨ 99 < d ∨ n < 0 ∨ 999 < n then ([], 2)
  else if prightL (copyOut l d.toNat n.toNat) then (copyOut l d.toNat n.toNat, 0) else ([], 3)
def dig (c : UInt8) : Bool := decide (48 ≤ c.toNat) && decide (c.toNat ≤ 57)
def digitsL (l : Bl) : Nat := (l.reverse.takeWhile dig).length
/-- What a row of digits spells. -/
def numB (l : Bl) : Nat := l.foldl (fun a c => a * 10 + (c.toNat - 48)) 0
def markedL (s : Bl) : Option (Bl × Nat × Nat) :=
  let n := digitsL s
  let p := s.take (s.length - n)
  if ¬ [45] <:+ p then none else
  let r := p.take (p.length - 1)
  let m := digitsL r
  let q := r.take (r.length - m)
  if ¬ [46, 99] <:+ q then none else
  if n = 0 ∨ m = 0 ∨ 3 < n ∨ 2 < m then none else
  some (q.take (q.length - 2), numB (r.drop (r.length - m)), numB (s.drop (s.length - n)))
def tryL (l s y : Bl) : Option (Bl × Nat × Nat) := match markedL s with
  | none => none
  | some (q, d, n) => if (copyL (joinF (folderL l) (q ++ y)) d n).2 = 0 ∧ (copyL (joinF (folderL l) (q ++ y)) d n).1 = l then some (joinF (folderL l) (q ++ y), d, n) else none
def copiedL (l : Bl) : Option (Bl × Nat × Nat) := if checkL l ≠ 0 then none else match tryL l (stemB (baseL l)) (endB (baseL l)) with
  | some r => some r
  | none => tryL l (baseL l) []
def tempL (l : Bl) : Bl × Nat := if checkL l ≠ 0 then ([], checkL l) else ([46, 116, 109, 112, 47] ++ l, 0)
def tempedL (l : Bl) : Option Bl := if [46, 116, 109, 112, 47] <+: l ∧ checkL (l.drop 5) = 0 then some (l.drop 5) else none
def withinL (f s : Bl) : Bool := if checkL s ≠ 0 then false else decide (f = []) || (decide (checkL f = 0) && decide (f ++ [47] <+: s))
/-! ### Cuts -/
theorem cutL_none {c : UInt8} : ∀ {l : Bl}, cutL c l = none ↔ c ∉ l
  | [] => by simp [cutL]
  | x :: l => by
    unfold cutL
    cases h : cutL c l with
    | some p =>
      have := mt (cutL_none (c := c) (l := l)).2 (by rw [h]; simp)
      simp only [Classical.not_not] at this
      simp [this]
    | none =>
      have h2 := cutL_none.1 h
      by_cases e : x = c
      · subst e; simp
      · simp [e, h2, Ne.symm e]
theorem cutL_some {c : UInt8} : ∀ {l a b : Bl}, cutL c l = some (a, b) ↔ l = a ++ c :: b ∧ c ∉ b
  | [], a, b => by simp [cutL]
  | x :: l, a, b => by
    unfold cutL
    cases h : cutL c l with
    | some p =>
      obtain ⟨p1, p2⟩ := p
      obtain ⟨h1, h2⟩ := cutL_some.1 h
      simp only [Option.some.injEq, Prod.mk.injEq]
      constructor
      · rintro ⟨rfl, rfl⟩
        exact ⟨by rw [h1]; rfl, h2⟩
      · rintro ⟨e, hb⟩
        cases a with
        | nil =>
          simp only [List.nil_append, List.cons.injEq] at e
          exact absurd (by rw [← e.2, h1]; simp) hb
        | cons y a' =>
          simp only [List.cons_append, List.cons.injEq] at e
          have h3 := cutL_some.2 ⟨e.2, hb⟩
          rw [h] at h3
          injection h3 with h3
          injection h3 with h4 h5
          exact ⟨by rw [e.1, h4], h5⟩
    | none =>
      have h2 := cutL_none.1 h
      simp only
      by_cases e : x = c
      · subst e
        rw [if_pos rfl]
        simp only [Option.some.injEq, Prod.mk.injEq]
        constructor
        · rintro ⟨rfl, rfl⟩
          exact ⟨rfl, h2⟩
        · rintro ⟨e, hb⟩
          cases a with
          | nil =>
            simp only [List.nil_append, List.cons.injEq, true_and] at e
            exact ⟨rfl, e⟩
          | cons y a' =>
            simp only [List.cons_append, List.cons.injEq] at e
            exact absurd (by rw [e.2]; simp) h2
      · rw [if_neg e]
        constructor
        · intro h; cases h
        · rintro ⟨e2, hb⟩
          cases a with
          | nil =>
            simp only [List.nil_append, List.cons.injEq] at e2
            exact absurd e2.1 e
          | cons y a' =>
            simp only [List.cons_append, List.cons.injEq] at e2
            exact absurd (by rw [e2.2]; simp) h2
theorem cut_is {c : UInt8} {a b : Bl} (h : c ∉ b) : cutL c (a ++ c :: b) = some (a, b) := cutL_some.2 ⟨rfl, h⟩
theorem base_no (l : Bl) : (47 : UInt8) ∉ baseL l := by
  unfold baseL
  split
  · rename_i h; exact (cutL_some.1 h).2
  · rename_i h; exact cutL_none.1 h
/-- The folder and the base together. -/
theorem folder_base (l : Bl) : (47 ∈ l → l = folderL l ++ [47] ++ baseL l) ∧ (¬ 47 ∈ l → folderL l = [] ∧ baseL l = l) := by
  unfold folderL baseL
  cases h : cutL 47 l with
  | some p =>
    obtain ⟨a, b⟩ := p
    obtain ⟨h1, h2⟩ := cutL_some.1 h
    refine ⟨fun _ => by rw [h1]; simp, fun h3 => absurd (by rw [h1]; simp) h3⟩
  | none => exact ⟨fun h3 => absurd h3 (cutL_none.1 h), fun _ => ⟨rfl, rfl⟩⟩
theorem stem_end (b : Bl) : stemB b ++ endB b = b := by
  unfold stemB endB
  cases h : cutL 46 b with
  | some p => obtain ⟨h1, _⟩ := cutL_some.1 h; exact h1.symm
  | none => simp
theorem folder_of {f b : Bl} (h : (47 : UInt8) ∉ b) : folderL (f ++ [47] ++ b) = f ∧ baseL (f ++ [47] ++ b) = b := by
  unfold folderL baseL
  rw [List.append_assoc, List.singleton_append, cut_is h]
  exact ⟨rfl, rfl⟩
theorem base_of {b : Bl} (h : (47 : UInt8) ∉ b) : folderL b = [] ∧ baseL b = b := (folder_base b).2 h
theorem joinF_parts {f b : Bl} (h : (47 : UInt8) ∉ b) : folderL (joinF f b) = f ∧ baseL (joinF f b) = b := by
  unfold joinF
  split
  · rename_i e; subst e; exact base_of h
  · exact folder_of h
/-! ### Parts -/
theorem segs_ne : ∀ l : Bl, segs l ≠ []
  | [] => by simp [segs]
  | c :: l => by
    unfold segs
    split
    · simp
    · split <;> simp
theorem segs_one : ∀ {b : Bl}, (47 : UInt8) ∉ b → segs b = [b]
  | [], _ => rfl
  | c :: l, h => by
    simp only [List.mem_cons, not_or] at h
    unfold segs
    rw [if_neg (Ne.symm h.1), segs_one h.2]
theorem segs_app {b : Bl} (hb : (47 : UInt8) ∉ b) : ∀ (a : Bl), segs (a ++ 47 :: b) = segs a ++ [b]
  | [] => by
    rw [List.nil_append]
    unfold segs
    rw [if_pos rfl, segs_one hb]
    rfl
  | c :: a => by
    rw [List.cons_append]
    unfold segs
    rw [segs_app hb a]
    split
    · rfl
    · cases h : segs a with
      | nil => exact absurd h (segs_ne a)
      | cons s r => rfl
theorem segs_joinF {f b : Bl} (hb : (47 : UInt8) ∉ b) (hf : f ≠ []) : segs (joinF f b) = segs f ++ [b] := by
  unfold joinF
  rw [if_neg hf, List.append_assoc, List.singleton_append, segs_app hb]
theorem name_no47 {b : Bl} (h : nameL b = true) : (47 : UInt8) ∉ b := fun hm => by
  unfold nameL at h
  simp only [Bool.and_eq_true] at h
  have := List.all_eq_true.1 h.2 47 hm
  revert this
  decide
theorem name_len {b : Bl} (h : nameL b = true) : 1 ≤ b.length ∧ b.length ≤ 24 := by
  unfold nameL at h
  simp only [Bool.and_eq_true, decide_eq_true_eq] at h
  exact ⟨h.1.1.1, h.1.1.2⟩
theorem right_iff {l : Bl} : prightL l = true ↔ (∀ s ∈ segs l, nameL s = true) ∧ (segs l).length ≤ 4 ∧ l.length ≤ 64 := by
  unfold prightL
  simp only [Bool.and_eq_true, decide_eq_true_eq, List.all_eq_true]
theorem check_zero {l : Bl} : checkL l = 0 ↔ prightL l = true := by
  unfold checkL
  constructor
  · intro h
    split at h
    · cases h
    · split at h
      · assumption
      · cases h
  · intro h
    rw [if_neg (by have := (right_iff.1 h).2.2; omega), if_pos h]
theorem check_joinF {f b : Bl} (hb : (47 : UInt8) ∉ b) (hf : f ≠ []) : prightL (joinF f b) = true ↔ (∀ s ∈ segs f, nameL s = true) ∧ nameL b = true ∧ (segs f).length ≤ 3 ∧ (joinF f b).length ≤ 64 := by
  rw [right_iff, segs_joinF hb hf]
  constructor
  · rintro ⟨h1, h2, h3⟩
    refine ⟨fun s hs => h1 s (List.mem_append_left _ hs), h1 b (by simp), ?_, h3⟩
    rw [List.length_append, List.length_singleton] at h2
    omega
  · rintro ⟨h1, h2, h3, h4⟩
    refine ⟨fun s hs => ?_, by rw [List.length_append, List.length_singleton]; omega, h4⟩
    rcases List.mem_append.1 hs with hs | hs
    · exact h1 s hs
    · obtain rfl := List.mem_singleton.1 hs
      exact h2
theorem joinF_len {f b : Bl} (hf : f ≠ []) : (joinF f b).length = f.length + 1 + b.length := by
  unfold joinF
  rw [if_neg hf]
  simp
  omega
/-- A path, taken apart: its base is a name; its folder is none or a path. -/
theorem path_parts {l : Bl} (h : checkL l = 0) : nameL (baseL l) = true ∧ l = joinF (folderL l) (baseL l) ∧ (folderL l = [] ∨ (folderL l ≠ [] ∧ checkL (folderL l) = 0 ∧ (segs (folderL l)).length ≤ 3)) := by
  have hr := check_zero.1 h
  by_cases hm : 47 ∈ l
  · have e := (folder_base l).1 hm
    have hs : segs l = segs (folderL l) ++ [baseL l] := by
      exact (congrArg segs (e.trans (by simp))).trans (segs_app (base_no l) (folderL l))
    obtain ⟨h1, h2, h3⟩ := right_iff.1 hr
    rw [hs] at h1 h2
    rw [List.length_append, List.length_singleton] at h2
    have hf : folderL l ≠ [] := fun e2 => by
      have := name_len (h1 [] (by rw [e2]; simp [segs]))
      simp at this
    refine ⟨h1 _ (by simp), ?_, .inr ⟨hf, check_zero.2 (right_iff.2 ⟨fun s hs => h1 s (List.mem_append_left _ hs), by omega, ?_⟩), by omega⟩⟩
    · unfold joinF
      rw [if_neg hf]
      exact e
    · have := congrArg List.length e
      simp only [List.length_append, List.length_singleton] at this
      omega
  · obtain ⟨e1, e2⟩ := (folder_base l).2 hm
    refine ⟨?_, ?_, .inl e1⟩
    · rw [e2]
      exact (right_iff.1 hr).1 l (by rw [segs_one hm]; simp)
    · rw [e1, e2]
      rfl
/-! ### Digits -/
theorem dec_dig : ∀ (n : Nat), ∀ c ∈ dec n, dig c = true := by
  intro n
  induction n using Nat.strongRecOn with
  | _ n ih =>
    intro c hc
    unfold dec at hc
    rw [Lib.decDigits] at hc
    split at hc
    · obtain rfl := List.mem_singleton.1 hc
      rename_i h
      unfold dig
      have : (UInt8.ofNat (48 + n)).toNat = 48 + n := by rw [UInt8.toNat_ofNat']; omega
      rw [this, decide_eq_true (by omega), decide_eq_true (by omega)]
      rfl
    · rename_i h
      rcases List.mem_append.1 hc with hc | hc
      · exact ih (n / 10) (by omega) c hc
      · obtain rfl := List.mem_singleton.1 hc
        unfold dig
        have : (UInt8.ofNat (48 + n % 10)).toNat = 48 + n % 10 := by rw [UInt8.toNat_ofNat']; omega
        rw [this, decide_eq_true (by omega), decide_eq_true (by omega)]
        rfl
theorem dec_ne (n : Nat) : dec n ≠ [] := by
  unfold dec
  rw [Lib.decDigits]
  split <;> simp
theorem numB_app (l : Bl) (c : UInt8) : numB (l ++ [c]) = numB l * 10 + (c.toNat - 48) := by unfold numB; rw [List.foldl_append]; rfl
theorem numB_dec : ∀ n : Nat, numB (dec n) = n := by
  intro n
  induction n using Nat.strongRecOn with
  | _ n ih =>
    unfold dec
    rw [Lib.decDigits]
    split
    · rename_i h
      have : (UInt8.ofNat (48 + n)).toNat = 48 + n := by rw [UInt8.toNat_ofNat']; omega
      unfold numB
      simp only [List.foldl_cons, List.foldl_nil, this]
      omega
    · rename_i h
      have : (UInt8.ofNat (48 + n % 10)).toNat = 48 + n % 10 := by rw [UInt8.toNat_ofNat']; omega
      rw [numB_app, this]
      have := ih (n / 10) (by omega)
      unfold dec at this
      rw [this]
      omega
theorem dec_len {n k : Nat} (hk : 1 ≤ k) (h : n < 10 ^ k) : (dec n).length ≤ k := by
  induction k generalizing n with
  | zero => omega
  | succ k ih =>
    unfold dec
    rw [Lib.decDigits]
    split
    · simp
    · rename_i h10
      rcases Nat.eq_zero_or_pos k with e | e
      · subst e
        simp at h
        omega
      · have := ih (n := n / 10) e (by rw [Nat.pow_succ] at h; omega)
        unfold dec at this
        rw [List.length_append, List.length_singleton]
        omega
theorem tw_rev {p : UInt8 → Bool} {x d : Bl} {c : UInt8} (hd : ∀ y ∈ d, p y = true) (hc : p c = false) : ((x ++ c :: d).reverse.takeWhile p).length = d.length := by
  have e : (x ++ c :: d).reverse = d.reverse ++ c :: x.reverse := by simp
  rw [e, List.takeWhile_append_of_pos (by intro y hy; exact hd y (List.mem_reverse.1 hy)), List.takeWhile_cons, if_neg (by rw [hc]; simp)]
  simp
theorem digitsL_of {x d : Bl} {c : UInt8} (hd : ∀ y ∈ d, dig y = true) (hc : dig c = false) : digitsL (x ++ c :: d) = d.length := tw_rev hd hc
theorem take_pre {a b : Bl} : (a ++ b).take ((a ++ b).length - b.length) = a := by
  rw [List.length_append, Nat.add_sub_cancel, List.take_left]
theorem drop_pre {a b : Bl} : (a ++ b).drop ((a ++ b).length - b.length) = b := by
  rw [List.length_append, Nat.add_sub_cancel, List.drop_left]
/-- A mark at the end of a stem is found again. -/
theorem marked_of (x : Bl) {d n : Nat} (hd : d ≤ 99) (hn : n ≤ 999) : markedL (x ++ markL d n) = some (x, d, n) := by
  have e1 : x ++ markL d n = (x ++ [46, 99] ++ dec d) ++ 45 :: dec n := by simp [markL]
  have k1 : digitsL (x ++ markL d n) = (dec n).length := by rw [e1]; exact digitsL_of (dec_dig n) (by decide)
  have e2 : x ++ markL d n = (x ++ [46, 99] ++ dec d ++ [45]) ++ dec n := by simp [markL]
  have e3 : x ++ [46, 99] ++ dec d = (x ++ [46]) ++ 99 :: dec d := by simp
  have k2 : digitsL (x ++ [46, 99] ++ dec d) = (dec d).length := by rw [e3]; exact digitsL_of (dec_dig d) (by decide)
  have l1 := dec_len (n := n) (k := 3) (by decide) (by omega)
  have l2 := dec_len (n := d) (k := 2) (by decide) (by omega)
  have n1 : (dec n).length ≠ 0 := fun h => dec_ne n (List.length_eq_zero_iff.1 h)
  have n2 : (dec d).length ≠ 0 := fun h => dec_ne d (List.length_eq_zero_iff.1 h)
  unfold markedL
  simp only [k1]
  rw [show (x ++ markL d n).take ((x ++ markL d n).length - (dec n).length) = x ++ [46, 99] ++ dec d ++ [45] by rw [e2]; exact take_pre, show (x ++ markL d n).drop ((x ++ markL d n).length - (dec n).length) = dec n by rw [e2]; exact drop_pre]
  have t1 : (x ++ [46, 99] ++ dec d ++ [45]).take ((x ++ [46, 99] ++ dec d ++ [45]).length - 1) = x ++ [46, 99] ++ dec d := take_pre (b := [45])
  have t2 : (x ++ [46, 99] ++ dec d).take ((x ++ [46, 99] ++ dec d).length - (dec d).length) = x ++ [46, 99] := take_pre
  have t3 : (x ++ [46, 99] ++ dec d).drop ((x ++ [46, 99] ++ dec d).length - (dec d).length) = dec d := drop_pre
  have t4 : (x ++ [46, 99]).take ((x ++ [46, 99]).length - 2) = x := take_pre (b := [46, 99])
  rw [if_neg (Classical.not_not.2 (List.suffix_append _ _)), t1, k2, t2, t3, if_neg (Classical.not_not.2 (List.suffix_append _ _)), if_neg (by omega), t4, numB_dec, numB_dec]
/-- What has no point has no mark. -/
theorem marked_point {s : Bl} (h : (46 : UInt8) ∉ s) : markedL s = none := by
  unfold markedL
  simp only
  split
  · rfl
  · split
    · rfl
    · rename_i h1 h2
      exfalso
      simp only [Classical.not_not] at h2
      have h3 := h2.subset (show (46 : UInt8) ∈ [46, 99] by simp)
      exact h (List.mem_of_mem_take (List.mem_of_mem_take (List.mem_of_mem_take h3)))
end Go.Proofs.YtndekohimfjdeaaGreatDoor

namespace Go.Proofs.YtndekohimfjdeaaGreatDoor
theorem dig_range {c : UInt8} (h : dig c = true) : 48 ≤ c.toNat ∧ c.toNat ≤ 57 := by
  unfold dig at h
  simp only [Bool.and_eq_true, decide_eq_true_eq] at h
  exact h
theorem dec_no {c : UInt8} (hc : dig c = false) (n : Nat) : c ∉ dec n := fun h => by rw [dec_dig n c h] at hc; cases hc
theorem mark_no47 (d n : Nat) : (47 : UInt8) ∉ markL d n := by
  unfold markL
  simp only [List.mem_append, not_or]
  exact ⟨⟨⟨by decide, dec_no (by decide) d⟩, by decide⟩, dec_no (by decide) n⟩
theorem stem_no47 {b : Bl} (h : (47 : UInt8) ∉ b) : (47 : UInt8) ∉ stemB b ∧ (47 : UInt8) ∉ endB b := by
  have e := stem_end b
  rw [← e, List.mem_append, not_or] at h
  exact h
def cbase (l : Bl) (d n : Nat) : Bl := stemB (baseL l) ++ markL d n ++ endB (baseL l)
theorem cbase_no (l : Bl) (d n : Nat) : (47 : UInt8) ∉ cbase l d n := by
  have h := stem_no47 (base_no l)
  unfold cbase
  simp only [List.mem_append, not_or]
  exact ⟨⟨h.1, mark_no47 d n⟩, h.2⟩
theorem copy_parts (l : Bl) (d n : Nat) : folderL (copyOut l d n) = folderL l ∧ baseL (copyOut l d n) = cbase l d n := joinF_parts (cbase_no l d n)
theorem copyL_ok {l c : Bl} {d n : Int} (h : copyL l d n = (c, 0)) : checkL l = 0 ∧ c = copyOut l d.toNat n.toNat ∧ prightL c = true ∧ 1 ≤ d ∧ d ≤ 99 ∧ 0 ≤ n ∧ n ≤ 999 := by
  unfold copyL at h
  by_cases h1 : checkL l ≠ 0
  · rw [if_pos h1] at h
    injection h with _ h2
    exact absurd h2 h1
  · rw [if_neg h1] at h
    by_cases h2 : d < 1 ∨ 99 < d ∨ n < 0 ∨ 999 < n
    · rw [if_pos h2] at h
      injection h with _ h3
      cases h3
    · rw [if_neg h2] at h
      by_cases h3 : prightL (copyOut l d.toNat n.toNat) = true
      · rw [if_pos h3] at h
        injection h with h4 _
        exact ⟨Classical.not_not.1 h1, h4.symm, h4 ▸ h3, by omega, by omega, by omega, by omega⟩
      · rw [if_neg h3] at h
        injection h with _ h4
        cases h4
theorem copyL_mk {l : Bl} {d n : Nat} (h : checkL l = 0) (hd : 1 ≤ d) (hd2 : d ≤ 99) (hn : n ≤ 999) (hr : prightL (copyOut l d n) = true) : copyL l (d : Int) (n : Int) = (copyOut l d n, 0) := by
  unfold copyL
  rw [if_neg (by rw [h]; simp), if_neg (by omega), Int.toNat_natCast, Int.toNat_natCast, if_pos hr]
theorem copyL_err {l : Bl} {d n : Int} (h : (copyL l d n).2 ≠ 0) : (copyL l d n).1 = [] ∧ (copyL l d n).2 ≤ 3 := by
  unfold copyL at h ⊢
  split
  · refine ⟨rfl, ?_⟩
    show checkL l ≤ 3
    unfold checkL
    split
    · exact Nat.le_refl _
    · split <;> omega
  · rename_i h1
    rw [if_neg h1] at h
    split
    · exact ⟨rfl, by decide⟩
    · rename_i h2
      rw [if_neg h2] at h
      split
      · rename_i h3
        rw [if_pos h3] at h
        exact absurd rfl h
      · exact ⟨rfl, Nat.le_refl _⟩
theorem tryL_of {c l x y : Bl} {d n : Nat} (hm : markedL x = some (y, d, n)) {z : Bl} (hj : joinF (folderL c) (y ++ z) = l) (hc : copyL l d n = (c, 0)) : tryL c x z = some (l, d, n) := by
  unfold tryL
  rw [hm]
  simp only
  rw [hj, hc, if_pos ⟨rfl, rfl⟩]
/-- What was copied is recovered. -/
theorem copied_of {l : Bl} {d n : Nat} (h : checkL l = 0) (hd : 1 ≤ d) (hd2 : d ≤ 99) (hn : n ≤ 999) (hr : prightL (copyOut l d n) = true) : copiedL (copyOut l d n) = some (l, d, n) := by
  have hc := copyL_mk h hd hd2 hn hr
  obtain ⟨pf, pb⟩ := copy_parts l d n
  obtain ⟨_, hl, _⟩ := path_parts h
  unfold copiedL
  rw [if_neg (by rw [check_zero.2 hr]; simp), pb]
  unfold cbase
  cases hcut : cutL 46 (baseL l) with
  | some p =>
    obtain ⟨a, y⟩ := p
    obtain ⟨e1, e2⟩ := cutL_some.1 hcut
    have s1 : stemB (baseL l) = a := by unfold stemB; rw [hcut]
    have s2 : endB (baseL l) = 46 :: y := by unfold endB; rw [hcut]
    have k : cutL 46 (a ++ markL d n ++ 46 :: y) = some (a ++ markL d n, y) := cut_is e2
    have s3 : stemB (a ++ markL d n ++ 46 :: y) = a ++ markL d n := by unfold stemB; rw [k]
    have s4 : endB (a ++ markL d n ++ 46 :: y) = 46 :: y := by unfold endB; rw [k]
    rw [s1, s2, s3, s4, tryL_of (marked_of a hd2 hn) (by rw [pf, ← e1]; exact hl.symm) hc]
  | none =>
    have h46 := cutL_none.1 hcut
    have s1 : stemB (baseL l) = baseL l := by unfold stemB; rw [hcut]
    have s2 : endB (baseL l) = [] := by unfold endB; rw [hcut]
    have e3 : baseL l ++ markL d n ++ [] = baseL l ++ 46 :: ([99] ++ dec d ++ [45] ++ dec n) := by simp [markL]
    have k : cutL 46 (baseL l ++ markL d n ++ []) = some (baseL l, [99] ++ dec d ++ [45] ++ dec n) := by
      rw [e3]
      refine cut_is ?_
      simp only [List.mem_append, not_or]
      exact ⟨⟨⟨by decide, dec_no (by decide) d⟩, by decide⟩, dec_no (by decide) n⟩
    have s3 : stemB (baseL l ++ markL d n ++ []) = baseL l := by unfold stemB; rw [k]
    have t1 : tryL (copyOut l d n) (baseL l) (endB (baseL l ++ markL d n ++ [])) = none := by
      unfold tryL
      rw [marked_point h46]
    rw [s1, s2, s3, t1]
    simp only
    rw [List.append_nil]
    exact tryL_of (marked_of (baseL l) hd2 hn) (by rw [pf, List.append_nil]; exact hl.symm) hc
theorem copied_copy {l c : Bl} {d n : Int} (h : copyL l d n = (c, 0)) : copiedL c = some (l, d.toNat, n.toNat) ∧ checkL c = 0 := by
  obtain ⟨h1, h2, h3, h4, h5, h6, h7⟩ := copyL_ok h
  subst h2
  exact ⟨copied_of h1 (by omega) (by omega) (by omega) h3, check_zero.2 h3⟩
/-- A copy is the copy of one path, device and number. -/
theorem copy_inj {l l' c : Bl} {d n d' n' : Int} (h : copyL l d n = (c, 0)) (h' : copyL l' d' n' = (c, 0)) : l = l' ∧ d = d' ∧ n = n' := by
  have e := (copied_copy h).1.symm.trans (copied_copy h').1
  simp only [Option.some.injEq, Prod.mk.injEq] at e
  obtain ⟨_, _, _, h4, h5, h6, h7⟩ := copyL_ok h
  obtain ⟨_, _, _, k4, k5, k6, k7⟩ := copyL_ok h'
  exact ⟨e.1, by omega, by omega⟩
/-- What Copied finds is a copy. -/
theorem tryL_some {c x z l : Bl} {d n : Nat} (h : tryL c x z = some (l, d, n)) : copyL l d n = (c, 0) := by
  unfold tryL at h
  split at h
  · cases h
  · split at h
    · rename_i hh
      simp only [Option.some.injEq, Prod.mk.injEq] at h
      obtain ⟨rfl, rfl, rfl⟩ := h
      exact Prod.ext hh.2 hh.1
    · cases h
theorem copied_some {c l : Bl} {d n : Nat} (h : copiedL c = some (l, d, n)) : copyL l d n = (c, 0) := by
  unfold copiedL at h
  split at h
  · cases h
  · split at h
    · rename_i r hr
      rw [h] at hr
      exact tryL_some hr
    · exact tryL_some h
theorem copy_len {l c : Bl} {d n : Int} (h : copyL l d n = (c, 0)) : l.length < c.length := by
  obtain ⟨h1, rfl, _⟩ := copyL_ok h
  obtain ⟨_, hl, _⟩ := path_parts h1
  have e := congrArg List.length hl
  have s := congrArg List.length (stem_end (baseL l))
  unfold copyOut markL
  unfold joinF at e ⊢
  split
  · rename_i hf
    rw [if_pos hf] at e
    simp only [List.length_append, List.length_cons, List.length_nil] at e s ⊢
    omega
  · rename_i hf
    rw [if_neg hf] at e
    simp only [List.length_append, List.length_cons, List.length_nil] at e s ⊢
    omega
theorem copy_end {l c : Bl} {d n : Int} (h : copyL l d n = (c, 0)) : folderL c = folderL l ∧ (endB (baseL l) = [] ∨ endB (baseL c) = endB (baseL l)) := by
  obtain ⟨h1, rfl, _⟩ := copyL_ok h
  obtain ⟨pf, pb⟩ := copy_parts l d.toNat n.toNat
  refine ⟨pf, ?_⟩
  rw [pb]
  unfold cbase
  cases hcut : cutL 46 (baseL l) with
  | some p =>
    obtain ⟨a, y⟩ := p
    obtain ⟨e1, e2⟩ := cutL_some.1 hcut
    have s2 : endB (baseL l) = 46 :: y := by unfold endB; rw [hcut]
    right
    rw [s2]
    unfold endB
    rw [cut_is e2]
  | none =>
    left
    unfold endB
    rw [hcut]
/-! ### Temporary files, folders -/
theorem seg_tmp (l : Bl) : segs ([46, 116, 109, 112, 47] ++ l) = [46, 116, 109, 112] :: segs l := by
  simp only [List.cons_append, List.nil_append]
  simp [segs]
theorem temp_no (l : Bl) : checkL ([46, 116, 109, 112, 47] ++ l) ≠ 0 := fun h => by
  have h1 := (right_iff.1 (check_zero.1 h)).1
  rw [seg_tmp] at h1
  have := h1 [46, 116, 109, 112] (by simp)
  revert this
  decide
theorem temped_temp {l : Bl} (h : checkL l = 0) : tempedL ([46, 116, 109, 112, 47] ++ l) = some l := by
  unfold tempedL
  rw [if_pos ⟨List.prefix_append _ _, by simpa using h⟩]
  simp
theorem check_ne_nil {l : Bl} (h : checkL l = 0) : l ≠ [] := by
  rintro rfl
  revert h
  decide
theorem within_nil (s : Bl) : withinL [] s = decide (checkL s = 0) := by
  unfold withinL
  by_cases h : checkL s = 0
  · rw [if_neg (by rw [h]; simp), h]; simp
  · rw [if_pos h, decide_eq_false h]
theorem within_self {s : Bl} (h : checkL s = 0) : withinL s s = false := by
  unfold withinL
  rw [if_neg (by rw [h]; simp), decide_eq_false (check_ne_nil h)]
  have : ¬ (s ++ [47] <+: s) := fun hp => by
    have := hp.length_le
    simp at this
    omega
  rw [decide_eq_false this]
  simp
theorem within_iff {f s : Bl} : withinL f s = true ↔ checkL s = 0 ∧ (f = [] ∨ (checkL f = 0 ∧ f ++ [47] <+: s)) := by
  unfold withinL
  by_cases h : checkL s = 0
  · rw [if_neg (by rw [h]; simp)]
    simp [h]
  · rw [if_pos h]
    simp [h]
theorem within_trans {s t u : Bl} (h1 : withinL s t = true) (h2 : withinL t u = true) : withinL s u = true := by
  obtain ⟨a1, a2⟩ := within_iff.1 h1
  obtain ⟨b1, b2⟩ := within_iff.1 h2
  refine within_iff.2 ⟨b1, ?_⟩
  rcases a2 with a2 | ⟨a2, a3⟩
  · exact .inl a2
  · rcases b2 with b2 | ⟨_, b3⟩
    · exact absurd b2 (check_ne_nil a1)
    · exact .inr ⟨a2, a3.trans ((List.prefix_append t [47]).trans b3)⟩
theorem within_folder {l : Bl} (h : checkL l = 0) (hf : folderL l ≠ []) : checkL (folderL l) = 0 ∧ withinL (folderL l) l = true := by
  obtain ⟨_, hl, hp⟩ := path_parts h
  rcases hp with hp | ⟨_, hp, _⟩
  · exact absurd hp hf
  · refine ⟨hp, within_iff.2 ⟨h, .inr ⟨hp, ?_⟩⟩⟩
    unfold joinF at hl
    rw [if_neg hf] at hl
    exact ⟨baseL l, hl.symm⟩
end Go.Proofs.YtndekohimfjdeaaGreatDoor

namespace Go.Proofs.YtndekohimfjdeaaGreatDoor
open Go.RowKit
def st (l : Bl) : ByteArray := ⟨l.toArray⟩
theorem st_size (l : Bl) : (st l).size = l.length := by simp [st, ByteArray.size]
theorem st_data (l : Bl) : (st l).data.toList = l := rfl
theorem st_of (s : ByteArray) : s = st s.data.toList := by cases s; rfl
theorem st_inj {a b : Bl} (h : st a = st b) : a = b := congrArg (fun s : ByteArray => s.data.toList) h
theorem bsize (s : ByteArray) : s.size = s.data.toList.length := by cases s; simp [ByteArray.size]
theorem st_ext {x : ByteArray} {l : Bl} (h : x.data.toList = l) : x = st l := by rw [st_of x, h]
theorem st_app (a b : Bl) : st a ++ st b = st (a ++ b) := st_ext (by simp [st, ByteArray.data_append])
theorem st_take (a : Bl) (i : Nat) : (st a).extract 0 i = st (a.take i) := st_ext (Lib.extract_from_zero _ _)
theorem st_drop (a : Bl) (i : Nat) : (st a).extract i (st a).size = st (a.drop i) := st_ext (Lib.extract_to_end _ _)
theorem st_beq (a b : Bl) : ((st a).toList == (st b).toList) = decide (a = b) := by
  have e : ∀ x : ByteArray, x.toList = x.data.toList := fun x => ByteArray.toList_eq x
  rw [e, e, st_data, st_data]
  by_cases h : a = b
  · subst h; simp
  · rw [decide_eq_false h, beq_eq_false_iff_ne]; exact h
theorem nameC_iff {c : UInt8} : nameC c = true ↔ (97 ≤ c.toNat ∧ c.toNat ≤ 122) ∨ (48 ≤ c.toNat ∧ c.toNat ≤ 57) ∨ c.toNat = 45 ∨ c.toNat = 95 ∨ c.toNat = 46 := by
  unfold nameC
  simp only [Bool.or_eq_true, Bool.and_eq_true, decide_eq_true_eq]
  omega
def allN (s : ByteArray) (n : Nat) : Prop := ∀ k, k < n → ∀ h : k < s.size, nameC (s[k]'h) = true
theorem allN_succ {s : ByteArray} {n : Nat} (h : allN s n) (hn : n < s.size) (hc : nameC (s[n]'hn) = true) : allN s (n + 1) := fun k hk hks => by
  rcases Nat.lt_succ_iff_lt_or_eq.1 hk with hk | rfl
  · exact h k hk hks
  · exact hc
theorem at_data (s : ByteArray) {k : Nat} (h : k < s.size) : s.data.toList[k]? = some (s[k]'h) := Lib.data_getElem? s k h
theorem name_iff (s : ByteArray) : nameL s.data.toList = true ↔ 1 ≤ s.size ∧ s.size ≤ 24 ∧ (∀ h : 0 < s.size, (s[0]'h).toNat ≠ 46) ∧ allN s s.size := by
  unfold nameL
  simp only [Bool.and_eq_true, decide_eq_true_eq, Bool.not_eq_true', decide_eq_false_iff_not, List.all_eq_true, ← bsize]
  constructor
  · rintro ⟨⟨⟨h1, h2⟩, h3⟩, h4⟩
    refine ⟨h1, h2, fun h e => h3 ?_, fun k _ hk => h4 _ (List.mem_of_getElem? (at_data s hk))⟩
    rw [List.head?_eq_getElem?, at_data s h]
    congr 1
    exact UInt8.toNat_inj.1 e
  · rintro ⟨h1, h2, h3, h4⟩
    refine ⟨⟨⟨h1, h2⟩, fun e => ?_⟩, fun c hc => ?_⟩
    · rw [List.head?_eq_getElem?, at_data s (by omega)] at e
      have := Option.some.inj e
      exact h3 (by omega) (by rw [this]; rfl)
    · obtain ⟨k, hk⟩ := List.mem_iff_getElem?.1 hc
      have hl := (List.getElem?_eq_some_iff.1 hk).1
      rw [← bsize] at hl
      rw [at_data s hl] at hk
      exact Option.some.inj hk ▸ h4 k hl hl
theorem name_false {s : ByteArray} (h : ¬ (1 ≤ s.size ∧ s.size ≤ 24 ∧ (∀ h : 0 < s.size, (s[0]'h).toNat ≠ 46) ∧ allN s s.size)) : nameL s.data.toList = false := Bool.eq_false_iff.2 fun e => h ((name_iff s).1 e)
set_option maxRecDepth 100000 in
set_option maxHeartbeats 4000000 in
theorem name_v (s : ByteArray) (w : World) (hs : s.size ≤ 9223372036854775807) : Calls Tryz.prog 83 #[.string s] w fun e w' => e = .returned (.bool (nameL s.data.toList)) ∧ w = w' := by
  go_enter Tryz.func83, Tryz.ntmps83
  by_cases h1 : 1 ≤ s.size
  case neg =>
    have d1 : decide (s.size < 1) = true := decide_eq_true (by omega)
    have HD := Lib.hid (name_false (s := s) fun h => h1 h.1)
    go_wp2_with fail
    go_ret
    exact ⟨by rw [HD.out]; rfl, rfl⟩
  have d1 : decide (s.size < 1) = false := decide_eq_false (by omega)
  by_cases h2 : s.size ≤ 24
  case neg =>
    have d2 : decide (24 < s.size) = true := decide_eq_true (by omega)
    have HD := Lib.hid (name_false (s := s) fun h => h2 h.2.1)
    go_wp2_with fail
    go_ret
    exact ⟨by rw [HD.out]; rfl, rfl⟩
  have d2 : decide (24 < s.size) = false := decide_eq_false (by omega)
  have h0 : 0 < s.size := by omega
  by_cases h3 : (s[0]'h0).toNat = 46
  case pos =>
    have d3 : (((s[0]'h0).toNat : Int) == 46) = true := by rw [h3]; rfl
    have HD := Lib.hid (name_false (s := s) fun h => h.2.2.1 h0 h3)
    clear h3
    go_wp2_with fail
    go_ret
    exact ⟨by rw [HD.out]; rfl, rfl⟩
  have d3 : (((s[0]'h0).toNat : Int) == 46) = false := beq_eq_false_iff_ne.2 (by omega)
  have H3 := Lib.hid h3
  clear h3
  go_wp2_with fail
  go_loopw [3, 4, 20] (fun _ _ i wr => ∃ k : Nat, i = .int .i64 (k : Int) ∧ k ≤ s.size ∧ allN s k ∧ w = wr) (fun _ _ i _ => s.size - (intOf i).toNat)
  case atStart => exact ⟨0, rfl, Nat.zero_le _, fun k hk => by omega, rfl⟩
  case round =>
    obtain ⟨k, rfl, hk, hlow, rfl⟩ := hrel
    have HL := Lib.hid hlow
    clear hlow d1 d2 d3
    by_cases hlt : k < s.size
    case neg =>
      obtain rfl : k = s.size := by omega
      have HD := Lib.hid ((name_iff s).2 ⟨h1, h2, fun h => H3.out, HL.out⟩)
      go_wp2_with fail
      go_ret
      exact ⟨by rw [HD.out]; rfl, rfl⟩
    have k0 : (0 : Int) ≤ (k : Int) := by omega
    obtain ⟨x, hx⟩ : ∃ x, (s[k]'hlt).toNat = x := ⟨_, rfl⟩
    have HX := Lib.hid hx
    have hxv : (0 ≤ x ∧ x ≤ 44) ∨ (45 ≤ x ∧ x ≤ 45) ∨ (46 ≤ x ∧ x ≤ 46) ∨ (47 ≤ x ∧ x ≤ 47) ∨ (48 ≤ x ∧ x ≤ 57) ∨ (58 ≤ x ∧ x ≤ 94) ∨ (95 ≤ x ∧ x ≤ 95) ∨ (96 ≤ x ∧ x ≤ 96) ∨ (97 ≤ x ∧ x ≤ 122) ∨ (123 ≤ x ∧ x ≤ 255) := by
      have := (s[k]'hlt).toNat_lt; omega
    clear hx
    rcases hxv with hxv | hxv | hxv | hxv | hxv | hxv | hxv | hxv | hxv | hxv
    · obtain ⟨g1, g2⟩ := hxv
      have d0 : decide (97 ≤ x) = false := decide_eq_false (by omega)
      have d1 : decide (x ≤ 122) = true := decide_eq_true (by omega)
      have d2 : decide (48 ≤ x) = false := decide_eq_false (by omega)
      have d3 : decide (x ≤ 57) = true := decide_eq_true (by omega)
      have e0 : ((((s[k]'hlt).toNat : Nat) : Int) == 45) = false := by rw [HX.out]; exact beq_eq_false_iff_ne.2 (by omega)
      have f0 : ((((s[k]'hlt).toNat : Nat) : Int) == 95) = false := by rw [HX.out]; exact beq_eq_false_iff_ne.2 (by omega)
      have g0 : ((((s[k]'hlt).toNat : Nat) : Int) == 46) = false := by rw [HX.out]; exact beq_eq_false_iff_ne.2 (by omega)
      clear d0
      have d0 : decide ((97 : Int) ≤ (((s[k]'hlt).toNat : Nat) : Int)) = false := by rw [HX.out]; exact decide_eq_false (by omega)
      clear d1
      have d1 : decide ((((s[k]'hlt).toNat : Nat) : Int) ≤ 122) = true := by rw [HX.out]; exact decide_eq_true (by omega)
      clear d2
      have d2 : decide ((48 : Int) ≤ (((s[k]'hlt).toNat : Nat) : Int)) = false := by rw [HX.out]; exact decide_eq_false (by omega)
      clear d3
      have d3 : decide ((((s[k]'hlt).toNat : Nat) : Int) ≤ 57) = true := by rw [HX.out]; exact decide_eq_true (by omega)
      have HD := Lib.hid (name_false (s := s) fun h => by have := nameC_iff.1 (h.2.2.2 k hlt hlt); rw [HX.out] at this; omega)
      clear g1 g2
      go_wp2_with fail
      go_ret
      exact ⟨by rw [HD.out]; rfl, rfl⟩
    · obtain ⟨g1, g2⟩ := hxv
      have d0 : decide (97 ≤ x) = false := decide_eq_false (by omega)
      have d1 : decide (x ≤ 122) = true := decide_eq_true (by omega)
      have d2 : decide (48 ≤ x) = false := decide_eq_false (by omega)
      have d3 : decide (x ≤ 57) = true := decide_eq_true (by omega)
      have e0 : ((((s[k]'hlt).toNat : Nat) : Int) == 45) = true := by rw [HX.out]; exact beq_iff_eq.2 (by omega)
      have f0 : ((((s[k]'hlt).toNat : Nat) : Int) == 95) = false := by rw [HX.out]; exact beq_eq_false_iff_ne.2 (by omega)
      have g0 : ((((s[k]'hlt).toNat : Nat) : Int) == 46) = false := by rw [HX.out]; exact beq_eq_false_iff_ne.2 (by omega)
      clear d0
      have d0 : decide ((97 : Int) ≤ (((s[k]'hlt).toNat : Nat) : Int)) = false := by rw [HX.out]; exact decide_eq_false (by omega)
      clear d1
      have d1 : decide ((((s[k]'hlt).toNat : Nat) : Int) ≤ 122) = true := by rw [HX.out]; exact decide_eq_true (by omega)
      clear d2
      have d2 : decide ((48 : Int) ≤ (((s[k]'hlt).toNat : Nat) : Int)) = false := by rw [HX.out]; exact decide_eq_false (by omega)
      clear d3
      have d3 : decide ((((s[k]'hlt).toNat : Nat) : Int) ≤ 57) = true := by rw [HX.out]; exact decide_eq_true (by omega)
      have HN := Lib.hid (allN_succ HL.out hlt (nameC_iff.2 (by rw [HX.out]; omega)))
      clear g1 g2
      go_wp2_with fail
      go_roundw
      case rel => exact ⟨k + 1, by go_num, hlt, HN.out, by trivial⟩
      case measure => simp [intOf]; omega
    · obtain ⟨g1, g2⟩ := hxv
      have d0 : decide (97 ≤ x) = false := decide_eq_false (by omega)
      have d1 : decide (x ≤ 122) = true := decide_eq_true (by omega)
      have d2 : decide (48 ≤ x) = false := decide_eq_false (by omega)
      have d3 : decide (x ≤ 57) = true := decide_eq_true (by omega)
      have e0 : ((((s[k]'hlt).toNat : Nat) : Int) == 45) = false := by rw [HX.out]; exact beq_eq_false_iff_ne.2 (by omega)
      have f0 : ((((s[k]'hlt).toNat : Nat) : Int) == 95) = false := by rw [HX.out]; exact beq_eq_false_iff_ne.2 (by omega)
      have g0 : ((((s[k]'hlt).toNat : Nat) : Int) == 46) = true := by rw [HX.out]; exact beq_iff_eq.2 (by omega)
      clear d0
      have d0 : decide ((97 : Int) ≤ (((s[k]'hlt).toNat : Nat) : Int)) = false := by rw [HX.out]; exact decide_eq_false (by omega)
      clear d1
      have d1 : decide ((((s[k]'hlt).toNat : Nat) : Int) ≤ 122) = true := by rw [HX.out]; exact decide_eq_true (by omega)
      clear d2
      have d2 : decide ((48 : Int) ≤ (((s[k]'hlt).toNat : Nat) : Int)) = false := by rw [HX.out]; exact decide_eq_false (by omega)
      clear d3
      have d3 : decide ((((s[k]'hlt).toNat : Nat) : Int) ≤ 57) = true := by rw [HX.out]; exact decide_eq_true (by omega)
      have HN := Lib.hid (allN_succ HL.out hlt (nameC_iff.2 (by rw [HX.out]; omega)))
      clear g1 g2
      go_wp2_with fail
      go_roundw
      case rel => exact ⟨k + 1, by go_num, hlt, HN.out, by trivial⟩
      case measure => simp [intOf]; omega
    · obtain ⟨g1, g2⟩ := hxv
      have d0 : decide (97 ≤ x) = false := decide_eq_false (by omega)
      have d1 : decide (x ≤ 122) = true := decide_eq_true (by omega)
      have d2 : decide (48 ≤ x) = false := decide_eq_false (by omega)
      have d3 : decide (x ≤ 57) = true := decide_eq_true (by omega)
      have e0 : ((((s[k]'hlt).toNat : Nat) : Int) == 45) = false := by rw [HX.out]; exact beq_eq_false_iff_ne.2 (by omega)
      have f0 : ((((s[k]'hlt).toNat : Nat) : Int) == 95) = false := by rw [HX.out]; exact beq_eq_false_iff_ne.2 (by omega)
      have g0 : ((((s[k]'hlt).toNat : Nat) : Int) == 46) = false := by rw [HX.out]; exact beq_eq_false_iff_ne.2 (by omega)
      clear d0
      have d0 : decide ((97 : Int) ≤ (((s[k]'hlt).toNat : Nat) : Int)) = false := by rw [HX.out]; exact decide_eq_false (by omega)
      clear d1
      have d1 : decide ((((s[k]'hlt).toNat : Nat) : Int) ≤ 122) = true := by rw [HX.out]; exact decide_eq_true (by omega)
      clear d2
      have d2 : decide ((48 : Int) ≤ (((s[k]'hlt).toNat : Nat) : Int)) = false := by rw [HX.out]; exact decide_eq_false (by omega)
      clear d3
      have d3 : decide ((((s[k]'hlt).toNat : Nat) : Int) ≤ 57) = true := by rw [HX.out]; exact decide_eq_true (by omega)
      have HD := Lib.hid (name_false (s := s) fun h => by have := nameC_iff.1 (h.2.2.2 k hlt hlt); rw [HX.out] at this; omega)
      clear g1 g2
      go_wp2_with fail
      go_ret
      exact ⟨by rw [HD.out]; rfl, rfl⟩
    · obtain ⟨g1, g2⟩ := hxv
      have d0 : decide (97 ≤ x) = false := decide_eq_false (by omega)
      have d1 : decide (x ≤ 122) = true := decide_eq_true (by omega)
      have d2 : decide (48 ≤ x) = true := decide_eq_true (by omega)
      have d3 : decide (x ≤ 57) = true := decide_eq_true (by omega)
      have e0 : ((((s[k]'hlt).toNat : Nat) : Int) == 45) = false := by rw [HX.out]; exact beq_eq_false_iff_ne.2 (by omega)
      have f0 : ((((s[k]'hlt).toNat : Nat) : Int) == 95) = false := by rw [HX.out]; exact beq_eq_false_iff_ne.2 (by omega)
      have g0 : ((((s[k]'hlt).toNat : Nat) : Int) == 46) = false := by rw [HX.out]; exact beq_eq_false_iff_ne.2 (by omega)
      clear d0
      have d0 : decide ((97 : Int) ≤ (((s[k]'hlt).toNat : Nat) : Int)) = false := by rw [HX.out]; exact decide_eq_false (by omega)
      clear d1
      have d1 : decide ((((s[k]'hlt).toNat : Nat) : Int) ≤ 122) = true := by rw [HX.out]; exact decide_eq_true (by omega)
      clear d2
      have d2 : decide ((48 : Int) ≤ (((s[k]'hlt).toNat : Nat) : Int)) = true := by rw [HX.out]; exact decide_eq_true (by omega)
      clear d3
      have d3 : decide ((((s[k]'hlt).toNat : Nat) : Int) ≤ 57) = true := by rw [HX.out]; exact decide_eq_true (by omega)
      have HN := Lib.hid (allN_succ HL.out hlt (nameC_iff.2 (by rw [HX.out]; omega)))
      clear g1 g2
      go_wp2_with fail
      go_roundw
      case rel => exact ⟨k + 1, by go_num, hlt, HN.out, by trivial⟩
      case measure => simp [intOf]; omega
    · obtain ⟨g1, g2⟩ := hxv
      have d0 : decide (97 ≤ x) = false := decide_eq_false (by omega)
      have d1 : decide (x ≤ 122) = true := decide_eq_true (by omega)
      have d2 : decide (48 ≤ x) = true := decide_eq_true (by omega)
      have d3 : decide (x ≤ 57) = false := decide_eq_false (by omega)
      have e0 : ((((s[k]'hlt).toNat : Nat) : Int) == 45) = false := by rw [HX.out]; exact beq_eq_false_iff_ne.2 (by omega)
      have f0 : ((((s[k]'hlt).toNat : Nat) : Int) == 95) = false := by rw [HX.out]; exact beq_eq_false_iff_ne.2 (by omega)
      have g0 : ((((s[k]'hlt).toNat : Nat) : Int) == 46) = false := by rw [HX.out]; exact beq_eq_false_iff_ne.2 (by omega)
      clear d0
      have d0 : decide ((97 : Int) ≤ (((s[k]'hlt).toNat : Nat) : Int)) = false := by rw [HX.out]; exact decide_eq_false (by omega)
      clear d1
      have d1 : decide ((((s[k]'hlt).toNat : Nat) : Int) ≤ 122) = true := by rw [HX.out]; exact decide_eq_true (by omega)
      clear d2
      have d2 : decide ((48 : Int) ≤ (((s[k]'hlt).toNat : Nat) : Int)) = true := by rw [HX.out]; exact decide_eq_true (by omega)
      clear d3
      have d3 : decide ((((s[k]'hlt).toNat : Nat) : Int) ≤ 57) = false := by rw [HX.out]; exact decide_eq_false (by omega)
      have HD := Lib.hid (name_false (s := s) fun h => by have := nameC_iff.1 (h.2.2.2 k hlt hlt); rw [HX.out] at this; omega)
      clear g1 g2
      go_wp2_with fail
      go_ret
      exact ⟨by rw [HD.out]; rfl, rfl⟩
    · obtain ⟨g1, g2⟩ := hxv
      have d0 : decide (97 ≤ x) = false := decide_eq_false (by omega)
      have d1 : decide (x ≤ 122) = true := decide_eq_true (by omega)
      have d2 : decide (48 ≤ x) = true := decide_eq_true (by omega)
      have d3 : decide (x ≤ 57) = false := decide_eq_false (by omega)
      have e0 : ((((s[k]'hlt).toNat : Nat) : Int) == 45) = false := by rw [HX.out]; exact beq_eq_false_iff_ne.2 (by omega)
      have f0 : ((((s[k]'hlt).toNat : Nat) : Int) == 95) = true := by rw [HX.out]; exact beq_iff_eq.2 (by omega)
      have g0 : ((((s[k]'hlt).toNat : Nat) : Int) == 46) = false := by rw [HX.out]; exact beq_eq_false_iff_ne.2 (by omega)
      clear d0
      have d0 : decide ((97 : Int) ≤ (((s[k]'hlt).toNat : Nat) : Int)) = false := by rw [HX.out]; exact decide_eq_false (by omega)
      clear d1
      have d1 : decide ((((s[k]'hlt).toNat : Nat) : Int) ≤ 122) = true := by rw [HX.out]; exact decide_eq_true (by omega)
      clear d2
      have d2 : decide ((48 : Int) ≤ (((s[k]'hlt).toNat : Nat) : Int)) = true := by rw [HX.out]; exact decide_eq_true (by omega)
      clear d3
      have d3 : decide ((((s[k]'hlt).toNat : Nat) : Int) ≤ 57) = false := by rw [HX.out]; exact decide_eq_false (by omega)
      have HN := Lib.hid (allN_succ HL.out hlt (nameC_iff.2 (by rw [HX.out]; omega)))
      clear g1 g2
      go_wp2_with fail
      go_roundw
      case rel => exact ⟨k + 1, by go_num, hlt, HN.out, by trivial⟩
      case measure => simp [intOf]; omega
    · obtain ⟨g1, g2⟩ := hxv
      have d0 : decide (97 ≤ x) = false := decide_eq_false (by omega)
      have d1 : decide (x ≤ 122) = true := decide_eq_true (by omega)
      have d2 : decide (48 ≤ x) = true := decide_eq_true (by omega)
      have d3 : decide (x ≤ 57) = false := decide_eq_false (by omega)
      have e0 : ((((s[k]'hlt).toNat : Nat) : Int) == 45) = false := by rw [HX.out]; exact beq_eq_false_iff_ne.2 (by omega)
      have f0 : ((((s[k]'hlt).toNat : Nat) : Int) == 95) = false := by rw [HX.out]; exact beq_eq_false_iff_ne.2 (by omega)
      have g0 : ((((s[k]'hlt).toNat : Nat) : Int) == 46) = false := by rw [HX.out]; exact beq_eq_false_iff_ne.2 (by omega)
      clear d0
      have d0 : decide ((97 : Int) ≤ (((s[k]'hlt).toNat : Nat) : Int)) = false := by rw [HX.out]; exact decide_eq_false (by omega)
      clear d1
      have d1 : decide ((((s[k]'hlt).toNat : Nat) : Int) ≤ 122) = true := by rw [HX.out]; exact decide_eq_true (by omega)
      clear d2
      have d2 : decide ((48 : Int) ≤ (((s[k]'hlt).toNat : Nat) : Int)) = true := by rw [HX.out]; exact decide_eq_true (by omega)
      clear d3
      have d3 : decide ((((s[k]'hlt).toNat : Nat) : Int) ≤ 57) = false := by rw [HX.out]; exact decide_eq_false (by omega)
      have HD := Lib.hid (name_false (s := s) fun h => by have := nameC_iff.1 (h.2.2.2 k hlt hlt); rw [HX.out] at this; omega)
      clear g1 g2
      go_wp2_with fail
      go_ret
      exact ⟨by rw [HD.out]; rfl, rfl⟩
    · obtain ⟨g1, g2⟩ := hxv
      have d0 : decide (97 ≤ x) = true := decide_eq_true (by omega)
      have d1 : decide (x ≤ 122) = true := decide_eq_true (by omega)
      have d2 : decide (48 ≤ x) = true := decide_eq_true (by omega)
      have d3 : decide (x ≤ 57) = false := decide_eq_false (by omega)
      have e0 : ((((s[k]'hlt).toNat : Nat) : Int) == 45) = false := by rw [HX.out]; exact beq_eq_false_iff_ne.2 (by omega)
      have f0 : ((((s[k]'hlt).toNat : Nat) : Int) == 95) = false := by rw [HX.out]; exact beq_eq_false_iff_ne.2 (by omega)
      have g0 : ((((s[k]'hlt).toNat : Nat) : Int) == 46) = false := by rw [HX.out]; exact beq_eq_false_iff_ne.2 (by omega)
      clear d0
      have d0 : decide ((97 : Int) ≤ (((s[k]'hlt).toNat : Nat) : Int)) = true := by rw [HX.out]; exact decide_eq_true (by omega)
      clear d1
      have d1 : decide ((((s[k]'hlt).toNat : Nat) : Int) ≤ 122) = true := by rw [HX.out]; exact decide_eq_true (by omega)
      clear d2
      have d2 : decide ((48 : Int) ≤ (((s[k]'hlt).toNat : Nat) : Int)) = true := by rw [HX.out]; exact decide_eq_true (by omega)
      clear d3
      have d3 : decide ((((s[k]'hlt).toNat : Nat) : Int) ≤ 57) = false := by rw [HX.out]; exact decide_eq_false (by omega)
      have HN := Lib.hid (allN_succ HL.out hlt (nameC_iff.2 (by rw [HX.out]; omega)))
      clear g1 g2
      go_wp2_with fail
      go_roundw
      case rel => exact ⟨k + 1, by go_num, hlt, HN.out, by trivial⟩
      case measure => simp [intOf]; omega
    · obtain ⟨g1, g2⟩ := hxv
      have d0 : decide (97 ≤ x) = true := decide_eq_true (by omega)
      have d1 : decide (x ≤ 122) = false := decide_eq_false (by omega)
      have d2 : decide (48 ≤ x) = true := decide_eq_true (by omega)
      have d3 : decide (x ≤ 57) = false := decide_eq_false (by omega)
      have e0 : ((((s[k]'hlt).toNat : Nat) : Int) == 45) = false := by rw [HX.out]; exact beq_eq_false_iff_ne.2 (by omega)
      have f0 : ((((s[k]'hlt).toNat : Nat) : Int) == 95) = false := by rw [HX.out]; exact beq_eq_false_iff_ne.2 (by omega)
      have g0 : ((((s[k]'hlt).toNat : Nat) : Int) == 46) = false := by rw [HX.out]; exact beq_eq_false_iff_ne.2 (by omega)
      clear d0
      have d0 : decide ((97 : Int) ≤ (((s[k]'hlt).toNat : Nat) : Int)) = true := by rw [HX.out]; exact decide_eq_true (by omega)
      clear d1
      have d1 : decide ((((s[k]'hlt).toNat : Nat) : Int) ≤ 122) = false := by rw [HX.out]; exact decide_eq_false (by omega)
      clear d2
      have d2 : decide ((48 : Int) ≤ (((s[k]'hlt).toNat : Nat) : Int)) = true := by rw [HX.out]; exact decide_eq_true (by omega)
      clear d3
      have d3 : decide ((((s[k]'hlt).toNat : Nat) : Int) ≤ 57) = false := by rw [HX.out]; exact decide_eq_false (by omega)
      have HD := Lib.hid (name_false (s := s) fun h => by have := nameC_iff.1 (h.2.2.2 k hlt hlt); rw [HX.out] at this; omega)
      clear g1 g2
      go_wp2_with fail
      go_ret
      exact ⟨by rw [HD.out]; rfl, rfl⟩
end Go.Proofs.YtndekohimfjdeaaGreatDoor

namespace Go.Proofs.YtndekohimfjdeaaGreatDoor
open Go.RowKit
/-! ### Parts, as the library cuts them -/
theorem index_in : ∀ {a b : Bl}, (47 : UInt8) ∉ a → Lib.index (a ++ 47 :: b) [47] = a.length
  | [], b, _ => by simp [Lib.index, List.isPrefixOf]
  | x :: a, b, h => by
    simp only [List.mem_cons, not_or] at h
    rw [List.cons_append]
    unfold Lib.index
    have e : List.isPrefixOf [47] (x :: (a ++ 47 :: b)) = false := by
      simp only [List.isPrefixOf, Bool.and_true]
      exact beq_eq_false_iff_ne.2 h.1
    rw [if_neg (by rw [e]; simp), index_in h.2, if_neg (by simp)]
    simp
theorem index_out : ∀ {l : Bl}, (47 : UInt8) ∉ l → Lib.index l [47] = -1
  | [], _ => rfl
  | x :: l, h => by
    simp only [List.mem_cons, not_or] at h
    unfold Lib.index
    have e : List.isPrefixOf [47] (x :: l) = false := by
      simp only [List.isPrefixOf, Bool.and_true]
      exact beq_eq_false_iff_ne.2 h.1
    rw [if_neg (by rw [e]; simp), index_out h.2]
    rfl
theorem segs_first {b : Bl} : ∀ {a : Bl}, (47 : UInt8) ∉ a → segs (a ++ 47 :: b) = a :: segs b
  | [], _ => by rw [List.nil_append]; conv => lhs; unfold segs
                simp
  | x :: a, h => by
    simp only [List.mem_cons, not_or] at h
    rw [List.cons_append]
    conv => lhs; unfold segs
    rw [if_neg (Ne.symm h.1), segs_first h.2]
theorem first_cut : ∀ {l : Bl}, (47 : UInt8) ∈ l → ∃ a b, l = a ++ 47 :: b ∧ (47 : UInt8) ∉ a
  | x :: l, h => by
    by_cases e : x = 47
    · exact ⟨[], l, by rw [e]; rfl, by simp⟩
    · have h2 : (47 : UInt8) ∈ l := by
        rcases List.mem_cons.1 h with h | h
        · exact absurd h.symm e
        · exact h
      obtain ⟨a, b, rfl, hb⟩ := first_cut h2
      exact ⟨x :: a, b, rfl, by simp only [List.mem_cons, not_or]; exact ⟨Ne.symm e, hb⟩⟩
theorem splitK_segs : ∀ (n : Nat) (l : Bl), l.length ≤ n → Lib.splitK [47] 0 (Lib.count l [47]) l = segs l ∧ (segs l).length = Lib.count l [47] + 1
  | n, l, hn => by
    by_cases h : (47 : UInt8) ∈ l
    · obtain ⟨a, b, rfl, ha⟩ := first_cut h
      cases n with
      | zero => simp at hn
      | succ n =>
        have hl : b.length ≤ n := by simp at hn; omega
        obtain ⟨h1, h2⟩ := splitK_segs n b hl
        have hd : (a ++ 47 :: b).drop (a.length + ([47] : Bl).length) = b := by
          rw [List.drop_append]
          simp
        have hc : Lib.count (a ++ 47 :: b) [47] = Lib.count b [47] + 1 := by
          rw [Lib.count_hit (by simp) (index_in ha), hd]
          omega
        rw [hc, segs_first ha]
        unfold Lib.splitK
        rw [index_in ha, if_neg (by simp), Int.toNat_natCast, hd, h1]
        simp [h2]
    · have h0 : Lib.count l [47] = 0 := Lib.count_miss (index_out h)
      rw [h0, segs_one h]
      exact ⟨rfl, rfl⟩
theorem split_segs (l : Bl) : Lib.splitB (st [47]) 0 (Lib.countB (st l) (st [47])) (st l) = (segs l).map st ∧ Lib.countB (st l) (st [47]) + 1 = (segs l).length := by
  obtain ⟨h1, h2⟩ := splitK_segs l.length l (Nat.le_refl _)
  have h3 := Lib.splitB_data (st [47]) 0 (Lib.countB (st l) (st [47])) (st l)
  have e : Lib.countB (st l) (st [47]) = Lib.count l [47] := rfl
  rw [e] at h3 ⊢
  rw [st_data, st_data, h1] at h3
  refine ⟨?_, h2.symm⟩
  rw [← h3, List.map_map]
  conv => lhs; rw [← List.map_id (Lib.splitB (st [47]) 0 (Lib.count l [47]) (st l))]
  exact List.map_congr_left fun s _ => st_of s
theorem segs_len : ∀ (l x : Bl), x ∈ segs l → x.length ≤ l.length
  | [], x, h => by
    obtain rfl := List.mem_singleton.1 (show x ∈ [[]] from h)
    exact Nat.le_refl _
  | c :: l, x, h => by
    unfold segs at h
    split at h
    · rcases List.mem_cons.1 h with rfl | h
      · simp
      · have := segs_len l x h
        simp
        omega
    · split at h
      · rename_i s r hsr
        rcases List.mem_cons.1 h with rfl | h
        · have := segs_len l s (by rw [hsr]; simp)
          simp
          omega
        · have := segs_len l x (by rw [hsr]; exact List.mem_cons_of_mem _ h)
          simp
          omega
      · obtain rfl := List.mem_singleton.1 h
        simp
/-! ### What the library reads -/
structure EnvM (w : World) : Prop where
  mx : ∃ m, w.cell? ⟨0, 0, none⟩ = some (.int .i64 m)
theorem EnvM.below {w w' : World} (h : EnvM w) (hb : Below w.heap.size w w') : EnvM w' := by
  obtain ⟨m, hm⟩ := h.mx
  exact ⟨⟨m, (hb.cell (World.block_lt_of_cell? w _ hm)).trans hm⟩⟩
structure Env (w : World) : Prop where
  mx : ∃ m, w.cell? ⟨0, 0, none⟩ = some (.int .i64 m)
  tab : Lib.TabIs Tryz.prog w "internal/strconv.uint64pow10" .u64 Lib.pow10Tab
theorem gPow : Tryz.prog.globalNamed "internal/strconv.uint64pow10" = some 1 := by kernel_rfl
theorem Env.below {w w' : World} (h : Env w) (hb : Below w.heap.size w w') : Env w' := by
  obtain ⟨m, hm⟩ := h.mx
  refine ⟨⟨m, (hb.cell (World.block_lt_of_cell? w _ hm)).trans hm⟩, ?_⟩
  have ht := h.tab
  unfold Lib.TabIs at ht ⊢
  refine var?_below hb gPow ?_ ht
  unfold World.var? at ht
  rw [gPow] at ht
  simp only [Option.bind_some] at ht
  rcases Nat.lt_or_ge 1 w.heap.size with h2 | h2
  · exact h2
  · rw [Array.getElem?_eq_none h2] at ht
    cases ht
theorem Env.m {w : World} (h : Env w) : EnvM w := ⟨h.mx⟩
theorem below_dr (w : World) (q : Nat) : Below w.heap.size w (w.drewN q) := ⟨rfl, rfl, rfl, Nat.le_refl _, fun _ _ => rfl⟩
theorem below_gr (w : World) (k : Nat) (os : Array Obj) : Below w.heap.size w (Go.Sort.grow (w.drewN k) os) := by
  refine ⟨rfl, rfl, rfl, by simp [Go.Sort.grow], fun j hj => ?_⟩
  simp only [Go.Sort.grow]
  rw [Array.getElem?_append_left (by simpa using hj)]
  rfl
set_option maxRecDepth 100000 in
set_option maxHeartbeats 4000000 in
theorem prightM_v (l : Bl) (w : World) (he : EnvM w) (hs : l.length < 4294967281) : Calls Tryz.prog 67 #[.string (st l)] w fun e w' => e = .returned (.bool (prightL l)) ∧ Below w.heap.size w w' := by
  obtain ⟨m, hm⟩ := he.mx
  have hz : (st l).size = l.length := st_size l
  have HSP := Lib.hid (split_segs l)
  go_enter Tryz.func67, Tryz.ntmps67
  have SV := Tryz.strings_Split (st l) (st [47]) m w (by rw [hz]; exact hs) hm (by decide)
  rw [HSP.out.1, HSP.out.2] at SV
  go_wp2_with fail
  refine SV.mono ?_
  rintro e w1 ⟨rfl, hw1⟩
  have HB := Lib.hid (show Below w.heap.size w w1 from by rw [hw1]; exact (Below.refl _ _).alloc (Nat.le_refl _) _)
  have HC := Lib.hid (show ∀ (j : Nat) (x : Bl), (segs l)[j]? = some x → w1.cell? ⟨w.heap.size, j, none⟩ = some (.string (st x)) from fun j x hx => by
    rw [hw1]
    rw [World.cell?_alloc_at _ _ _ _ rfl, List.getElem?_toArray, List.map_map, List.getElem?_map, hx]
    rfl)
  clear hw1 SV
  obtain ⟨n, hn⟩ : ∃ n, (segs l).length = n := ⟨_, rfl⟩
  have HN := Lib.hid hn
  rw [hn]
  have hnb : n ≤ 4294967290 := by have h1 := HSP.out.2; have h2 := Lib.count_le l [47]; have h3 : Lib.countB (st l) (st [47]) = Lib.count l [47] := rfl; omega
  clear hn hz
  go_wp2_with fail
  go_loopw [5, 10] (fun _ i V => ∃ k : Nat, k ≤ n ∧ i = .int .i64 (k : Int) ∧ (∀ x ∈ (segs l).take k, nameL x = true) ∧ V = w1) (fun _ i _ => n - (intOf i).toNat)
  case atStart => exact ⟨0, Nat.zero_le _, rfl, by simp, rfl⟩
  case round =>
    obtain ⟨k, hk, rfl, hall, rfl⟩ := hrel
    have HA := Lib.hid hall
    clear hall
    by_cases hlt : k < n
    · obtain ⟨x, hx⟩ : ∃ x, (segs l)[k]? = some x := ⟨_, List.getElem?_eq_getElem (by rw [HN.out]; exact hlt)⟩
      have c0 := HC.out k x hx
      have k0 : (0 : Int) ≤ (k : Int) := by omega
      have k1 : (k : Int) < (n : Int) := by omega
      have HX := Lib.hid hx
      clear hx
      have NV := name_v (st x) wr (by have := segs_len l x (List.mem_of_getElem? HX.out); rw [st_size]; omega)
      rw [st_data] at NV
      go_wp2_with fail
      refine NV.mono ?_
      rintro e _ ⟨rfl, rfl⟩
      clear c0 NV
      cases hnx : nameL x with
      | false =>
        have HR := Lib.hid (show prightL l = false from Bool.eq_false_iff.2 fun h => by
          have := (right_iff.1 h).1 x (List.mem_of_getElem? HX.out)
          rw [hnx] at this
          cases this)
        clear hnx
        go_wp2_with fail
        go_ret
        exact ⟨by rw [HR.out]; rfl, HB.out⟩
      | true =>
        have HA2 := Lib.hid (show ∀ y ∈ (segs l).take (k + 1), nameL y = true from fun y hy => by
          rw [List.take_add_one, HX.out] at hy
          rcases List.mem_append.1 hy with hy | hy
          · exact HA.out y hy
          · obtain rfl : y = x := by simpa using hy
            exact hnx)
        clear hnx
        go_wp2_with fail
        go_roundw
        case rel => exact ⟨k + 1, hlt, by go_num, HA2.out, by trivial⟩
        case measure => simp [intOf]; omega
    · obtain rfl : k = n := by omega
      have HA2 := Lib.hid (show ∀ y ∈ segs l, nameL y = true by have h := HA.out; rwa [List.take_of_length_le (by rw [HN.out]; exact Nat.le_refl _)] at h)
      have HR := Lib.hid (show prightL l = (decide (k ≤ 4) && decide ((st l).size ≤ 64)) by
        unfold prightL
        rw [List.all_eq_true.2 HA2.out, HN.out, st_size]
        rfl)
      by_cases h4 : k ≤ 4
      · have d1 : decide ((k : Int) ≤ 4) = true := decide_eq_true (by omega)
        by_cases h5 : (st l).size ≤ 64
        · have d2 : decide (((st l).size : Int) ≤ 64) = true := decide_eq_true (by omega)
          have HR2 := Lib.hid (show prightL l = true by rw [HR.out, decide_eq_true h4, decide_eq_true h5]; rfl)
          go_wp2_with fail
          go_ret
          exact ⟨by rw [HR2.out]; rfl, HB.out⟩
        · have d2 : decide (((st l).size : Int) ≤ 64) = false := decide_eq_false (by omega)
          have HR2 := Lib.hid (show prightL l = false by rw [HR.out, decide_eq_true h4, decide_eq_false h5]; rfl)
          go_wp2_with fail
          go_ret
          exact ⟨by rw [HR2.out]; rfl, HB.out⟩
      · have d1 : decide ((k : Int) ≤ 4) = false := decide_eq_false (by omega)
        have HR2 := Lib.hid (show prightL l = false by rw [HR.out, decide_eq_false h4]; rfl)
        go_wp2_with fail
        go_ret
        exact ⟨by rw [HR2.out]; rfl, HB.out⟩
set_option maxRecDepth 100000 in
theorem pcheckM_v (l : Bl) (w : World) (he : EnvM w) : Calls Tryz.prog 47 #[.string (st l)] w fun e w' => e = .returned (.int .i64 (checkL l : Int)) ∧ Below w.heap.size w w' := by
  have hz := st_size l
  by_cases h : 64 < l.length
  · have HC := Lib.hid (show checkL l = 3 by unfold checkL; rw [if_pos h])
    have d1 : decide ((64 : Int) < ((st l).size : Int)) = true := decide_eq_true (by omega)
    clear hz
    go_enter Tryz.func47, Tryz.ntmps47
    go_wp2_with fail
    go_ret
    exact ⟨by rw [HC.out]; rfl, Below.refl _ _⟩
  · have d1 : decide ((64 : Int) < ((st l).size : Int)) = false := decide_eq_false (by omega)
    have HC := Lib.hid (show checkL l = if prightL l then 0 else 2 by unfold checkL; rw [if_neg h])
    have RV := prightM_v l w he (by omega)
    clear hz
    go_enter Tryz.func47, Tryz.ntmps47
    go_wp2_with fail
    cases hr : prightL l with
    | false =>
      rw [hr] at RV HC
      refine RV.mono ?_
      rintro e w1 ⟨rfl, b1⟩
      go_wp2_with fail
      go_ret
      exact ⟨by rw [HC.out]; rfl, b1⟩
    | true =>
      rw [hr] at RV HC
      refine RV.mono ?_
      rintro e w1 ⟨rfl, b1⟩
      go_wp2_with fail
      go_ret
      exact ⟨by rw [HC.out]; rfl, b1⟩
theorem pright_v (l : Bl) (w : World) (he : Env w) (hs : l.length < 4294967281) : Calls Tryz.prog 67 #[.string (st l)] w fun e w' => e = .returned (.bool (prightL l)) ∧ Below w.heap.size w w' := prightM_v l w he.m hs
theorem pcheck_v (l : Bl) (w : World) (he : Env w) : Calls Tryz.prog 47 #[.string (st l)] w fun e w' => e = .returned (.int .i64 (checkL l : Int)) ∧ Below w.heap.size w w' := pcheckM_v l w he.m
/-! ### The last of a byte -/
theorem last_cut (c : UInt8) (l : Bl) : (Lib.lastIndexByte (st l) (c.toNat : Int) = -1 ∧ cutL c l = none) ∨ ∃ i : Nat, i < l.length ∧ Lib.lastIndexByte (st l) (c.toNat : Int) = (i : Int) ∧ cutL c l = some (l.take i, l.drop (i + 1)) := by
  have hg : ∀ j (hj : j < l.length), (st l).data[j]! = l[j] := fun j hj => by
    rw [getElem!_pos (st l).data j (by simpa [st] using hj)]
    rfl
  rcases Lib.lastIndexByte_spec (st l) (c.toNat : Int) with ⟨h1, h2⟩ | ⟨i, hi, h1, h2, h3⟩
  · refine .inl ⟨h1, cutL_none.2 fun hm => ?_⟩
    obtain ⟨j, hj⟩ := List.mem_iff_getElem?.1 hm
    obtain ⟨hjl, he⟩ := List.getElem?_eq_some_iff.1 hj
    refine h2 j (by rw [st_size]; exact hjl) ?_
    rw [hg j hjl, he]
  · rw [st_size] at hi
    refine .inr ⟨i, hi, h1, cutL_some.2 ⟨?_, fun hm => ?_⟩⟩
    · have h4 : l[i] = c := by
        rw [hg i hi] at h2
        exact UInt8.toNat_inj.1 (by omega)
      have h5 := List.drop_eq_getElem_cons hi
      rw [h4] at h5
      rw [← h5, List.take_append_drop]
    · obtain ⟨j, hj⟩ := List.mem_iff_getElem?.1 hm
      rw [List.getElem?_drop] at hj
      obtain ⟨hjl, he⟩ := List.getElem?_eq_some_iff.1 hj
      refine h3 (i + 1 + j) (by omega) (by rw [st_size]; exact hjl) ?_
      rw [hg _ hjl, he]
set_option maxRecDepth 100000 in
theorem split_v (l : Bl) (w : World) (hs : l.length < 4294967281) : Calls Tryz.prog 64 #[.string (st l)] w fun e w' => e = .returned (.tuple #[.string (st (folderL l)), .string (st (baseL l))]) ∧ Below w.heap.size w w' := by
  have hz := st_size l
  have LV := Tryz.strings_LastIndexByte (st l) 47 (by omega) w
  rcases last_cut 47 l with ⟨h1, h2⟩ | ⟨i, hi, h1, h2⟩
  · have HF := Lib.hid (show folderL l = [] ∧ baseL l = l by unfold folderL baseL; rw [h2]; exact ⟨rfl, rfl⟩)
    rw [show Lib.lastIndexByte (st l) 47 = -1 from h1] at LV
    clear h1 h2 hz
    go_enter Tryz.func64, Tryz.ntmps64
    go_wp2_with fail
    refine LV.mono ?_
    rintro e w1 ⟨rfl, rfl⟩
    go_wp2_with fail
    go_returns
    exact ⟨by rw [HF.out.1, HF.out.2]; rfl, Below.refl _ _⟩
  · have HF := Lib.hid (show folderL l = l.take i ∧ baseL l = l.drop (i + 1) by unfold folderL baseL; rw [h2]; exact ⟨rfl, rfl⟩)
    rw [show Lib.lastIndexByte (st l) 47 = (i : Int) from h1] at LV
    clear h1
    have i0 : (0 : Int) ≤ (i : Int) := by omega
    have i1 : (i : Int) ≤ (st l).size := by omega
    have i2 : (i : Int) + 1 ≤ (st l).size := by omega
    have i3 : IntKind.i64.wrap ((i : Int) + 1) = (i : Int) + 1 := IntWalk.i64_in _ ⟨by omega, by omega⟩
    have i4 : (0 : Int) ≤ (i : Int) + 1 := by omega
    have i5 : ((i : Int) + 1).toNat = i + 1 := by omega
    have HT := Lib.hid (st_take l i)
    have HD := Lib.hid (st_drop l (i + 1))
    clear h2 hz
    go_enter Tryz.func64, Tryz.ntmps64
    go_wp2_with fail
    refine LV.mono ?_
    rintro e w1 ⟨rfl, rfl⟩
    go_upto_region 4 with fail
    go_quiet (fail)
    go_wp2_with fail
    go_returns
    exact ⟨by rw [HF.out.1, HF.out.2, ← HT.out, ← HD.out]; rfl, below_dr _ _⟩
end Go.Proofs.YtndekohimfjdeaaGreatDoor

namespace Go.Proofs.YtndekohimfjdeaaGreatDoor
open Go.RowKit
set_option maxRecDepth 100000 in
theorem ending_v (l : Bl) (w : World) (hs : l.length < 4294967281) : Calls Tryz.prog 65 #[.string (st l)] w fun e w' => e = .returned (.tuple #[.string (st (stemB (baseL l))), .string (st (endB (baseL l)))]) ∧ Below w.heap.size w w' := by
  have SV := split_v l w hs
  have hbl : (baseL l).length ≤ l.length := by
    rcases Classical.em ((47 : UInt8) ∈ l) with h | h
    · have := congrArg List.length ((folder_base l).1 h)
      simp only [List.length_append, List.length_singleton] at this
      omega
    · rw [((folder_base l).2 h).2]; exact Nat.le_refl _
  obtain ⟨b, hb⟩ : ∃ b, baseL l = b := ⟨_, rfl⟩
  rw [hb] at hbl SV ⊢
  clear hb
  have hz := st_size b
  have LV := fun w => Tryz.strings_LastIndexByte (st b) 46 (by omega) w
  rcases last_cut 46 b with ⟨h1, h2⟩ | ⟨i, hi, h1, h2⟩
  · have HF := Lib.hid (show stemB b = b ∧ endB b = [] by unfold stemB endB; rw [h2]; exact ⟨rfl, rfl⟩)
    rw [show Lib.lastIndexByte (st b) 46 = -1 from h1] at LV
    have LV2 := Lib.hid LV
    clear h1 h2 hz LV
    go_enter Tryz.func65, Tryz.ntmps65
    go_wp2_with fail
    refine SV.mono ?_
    rintro e w1 ⟨rfl, b1⟩
    go_wp2_with fail
    refine (LV2.out w1).mono ?_
    rintro e w2 ⟨rfl, rfl⟩
    go_wp2_with fail
    go_returns
    exact ⟨by rw [HF.out.1, HF.out.2]; rfl, b1⟩
  · have HF := Lib.hid (show stemB b = b.take i ∧ endB b = b.drop i by
      have e := cutL_some.1 h2
      unfold stemB endB
      rw [h2]
      refine ⟨rfl, ?_⟩
      exact ((congrArg (List.drop i) e.1).trans (List.drop_left' (by rw [List.length_take]; omega))).symm)
    rw [show Lib.lastIndexByte (st b) 46 = (i : Int) from h1] at LV
    have LV2 := Lib.hid LV
    have i0 : (0 : Int) ≤ (i : Int) := by omega
    have i1 : (i : Int) ≤ (st b).size := by omega
    have HT := Lib.hid (st_take b i)
    have HD := Lib.hid (st_drop b i)
    clear h1 h2 hz LV
    go_enter Tryz.func65, Tryz.ntmps65
    go_wp2_with fail
    refine SV.mono ?_
    rintro e w1 ⟨rfl, b1⟩
    go_wp2_with fail
    refine (LV2.out w1).mono ?_
    rintro e w2 ⟨rfl, rfl⟩
    go_upto_region 5 with fail
    go_quiet (fail)
    go_wp2_with fail
    go_returns
    exact ⟨by rw [HF.out.1, HF.out.2, ← HT.out, ← HD.out]; rfl, below_drewN b1 _⟩
/-- Split and Ending ask first whether it is a path. -/
def splitP (l : Bl) : Bl × Bl := if checkL l = 0 then (folderL l, baseL l) else ([], [])
def endP (l : Bl) : Bl × Bl := if checkL l = 0 then (stemB (baseL l), endB (baseL l)) else ([], [])
theorem check_len {l : Bl} (h : checkL l = 0) : l.length ≤ 64 := (right_iff.1 (check_zero.1 h)).2.2
end Go.Proofs.YtndekohimfjdeaaGreatDoor

namespace Go.Proofs.YtndekohimfjdeaaGreatDoor
open Go.RowKit
theorem tw_len {p : UInt8 → Bool} : ∀ {l : Bl} {k : Nat}, (∀ x ∈ l.take k, p x = true) → (k = l.length ∨ ∃ c, l[k]? = some c ∧ p c = false) → (l.takeWhile p).length = k
  | [], k, _, h => by
    rcases h with h | ⟨c, h, _⟩
    · simpa using h.symm
    · simp at h
  | x :: l, 0, _, h => by
    rcases h with h | ⟨c, h, hc⟩
    · simp at h
    · obtain rfl : x = c := by simpa using h
      rw [List.takeWhile_cons, if_neg (by rw [hc]; simp)]
      rfl
  | x :: l, k + 1, ha, h => by
    rw [List.takeWhile_cons, if_pos (ha x (by simp)), List.length_cons]
    congr 1
    refine tw_len (fun y hy => ha y (by rw [List.take_succ_cons]; exact List.mem_cons_of_mem _ hy)) ?_
    rcases h with h | ⟨c, h, hc⟩
    · left; simpa using h
    · right; exact ⟨c, by simpa using h, hc⟩
theorem dig_iff {c : UInt8} : dig c = true ↔ 48 ≤ c.toNat ∧ c.toNat ≤ 57 := by
  unfold dig
  rw [Bool.and_eq_true, decide_eq_true_eq, decide_eq_true_eq]
theorem st_index (l : Bl) (p : Nat) (c : UInt8) (hc : l[p]? = some c) (V : World) : (Instr.index 9 (.string (st l)) (.int .i64 (p : Int))).run Tryz.prog V = .ok (.int .u8 (c.toNat : Int)) V := by
  obtain ⟨hp, he⟩ := List.getElem?_eq_some_iff.1 hc
  rw [run_index_string V 9 (st l) .i64 (p : Int) Tryz.underlying9, dif_pos ⟨by omega, by rw [st_size]; omega⟩]
  have e : (st l)[((p : Int)).toNat]'(by rw [st_size]; simpa using hp) = c := by
    have h2 := at_data (st l) (k := p) (by rw [st_size]; exact hp)
    rw [st_data, hc] at h2
    simp only [Int.toNat_natCast]
    exact (Option.some.inj h2).symm
  rw [e]
/-- A row of digits spells its number. -/
theorem atoi_dig : ∀ (l : Bl), (∀ x ∈ l, dig x = true) → l ≠ [] → Lib.atoi l = some (numB l : Int) := by
  have key : ∀ (l : Bl) (a : Nat), (∀ x ∈ l, dig x = true) → Lib.decFrom a l = some (l.foldl (fun a c => a * 10 + (c.toNat - 48)) a) := by
    intro l
    induction l with
    | nil => intro a _; rfl
    | cons c l ih =>
      intro a h
      have hc := dig_iff.1 (h c List.mem_cons_self)
      unfold Lib.decFrom Lib.digitVal
      rw [if_pos hc]
      exact ih _ fun x hx => h x (List.mem_cons_of_mem _ hx)
  intro l h hne
  cases l with
  | nil => exact absurd rfl hne
  | cons c l =>
    have hc := dig_iff.1 (h c List.mem_cons_self)
    have n1 : (c == 45) = false := beq_eq_false_iff_ne.2 fun e => by rw [e] at hc; revert hc; decide
    have n2 : (c == 43) = false := beq_eq_false_iff_ne.2 fun e => by rw [e] at hc; revert hc; decide
    unfold Lib.atoi Lib.decNat
    simp only [n1, n2, Bool.false_eq_true, if_false, List.isEmpty_cons]
    rw [key _ 0 h]
    rfl
theorem digits_tail (l : Bl) : (∀ x ∈ l.drop (l.length - digitsL l), dig x = true) ∧ digitsL l ≤ l.length := by
  have h1 : digitsL l ≤ l.length := by
    unfold digitsL
    have := (List.takeWhile_prefix (l := l.reverse) dig).length_le
    rwa [List.length_reverse] at this
  refine ⟨fun x hx => ?_, h1⟩
  have h2 : l.drop (l.length - digitsL l) = (l.reverse.take (digitsL l)).reverse := by rw [List.reverse_take, List.reverse_reverse, List.length_reverse]
  rw [h2, List.mem_reverse] at hx
  unfold digitsL at hx
  rw [← List.prefix_iff_eq_take.1 (List.takeWhile_prefix _)] at hx
  exact List.all_eq_true.1 List.all_takeWhile x hx
theorem suffix_lib (p q : Bl) : Lib.hasSuffix p q = decide (q <:+ p) := by
  unfold Lib.hasSuffix
  cases h : q.isSuffixOf p with
  | true => exact (decide_eq_true (List.isSuffixOf_iff_suffix.1 h)).symm
  | false => exact (decide_eq_false fun h2 => by rw [List.isSuffixOf_iff_suffix.2 h2] at h; cases h).symm
theorem trim_lib {p q : Bl} : Lib.trimSuffix p q = if q <:+ p then p.take (p.length - q.length) else p := by
  unfold Lib.trimSuffix
  rw [suffix_lib]
  simp only [decide_eq_true_eq]
end Go.Proofs.YtndekohimfjdeaaGreatDoor

namespace Go.Proofs.YtndekohimfjdeaaGreatDoor
open Go.RowKit
def mN (s : Bl) : Nat := digitsL s
def mP (s : Bl) : Bl := s.take (s.length - mN s)
def mR (s : Bl) : Bl := Lib.trimSuffix (mP s) [45]
def mM (s : Bl) : Nat := digitsL (mR s)
def mQ (s : Bl) : Bl := (mR s).take ((mR s).length - mM s)
def mA (s : Bl) : Bl := Lib.trimSuffix (mQ s) [46, 99]
theorem marked_eq (s : Bl) : markedL s = if Lib.hasSuffix (mP s) [45] = true ∧ Lib.hasSuffix (mQ s) [46, 99] = true ∧ mN s ≠ 0 ∧ mM s ≠ 0 ∧ mN s ≤ 3 ∧ mM s ≤ 2 then some (mA s, numB ((mR s).drop ((mR s).length - mM s)), numB (s.drop (s.length - mN s))) else none := by
  have e0 : markedL s = (if ¬ [45] <:+ mP s then none else (fun r => (fun m => (fun q => if ¬ [46, 99] <:+ q then none else if mN s = 0 ∨ m = 0 ∨ 3 < mN s ∨ 2 < m then none else some (q.take (q.length - 2), numB (r.drop (r.length - m)), numB (s.drop (s.length - mN s)))) (r.take (r.length - m))) (digitsL r)) ((mP s).take ((mP s).length - 1))) := rfl
  rw [e0, suffix_lib, suffix_lib]
  by_cases h1 : [45] <:+ mP s
  · have hR : (mP s).take ((mP s).length - 1) = mR s := by unfold mR; rw [trim_lib, if_pos h1]; rfl
    rw [if_neg (Classical.not_not.2 h1), hR]
    show (if ¬ [46, 99] <:+ mQ s then none else if mN s = 0 ∨ mM s = 0 ∨ 3 < mN s ∨ 2 < mM s then none else some ((mQ s).take ((mQ s).length - 2), numB ((mR s).drop ((mR s).length - mM s)), numB (s.drop (s.length - mN s)))) = _
    by_cases h2 : [46, 99] <:+ mQ s
    · have hA : (mQ s).take ((mQ s).length - 2) = mA s := by unfold mA; rw [trim_lib, if_pos h2]; rfl
      rw [if_neg (Classical.not_not.2 h2), hA]
      by_cases h3 : mN s = 0 ∨ mM s = 0 ∨ 3 < mN s ∨ 2 < mM s
      · rw [if_pos h3, if_neg (by rintro ⟨_, _, _, _, _, _⟩; omega)]
      · rw [if_neg h3, if_pos ⟨decide_eq_true h1, decide_eq_true h2, by omega, by omega, by omega, by omega⟩]
    · rw [if_pos h2, if_neg (by rintro ⟨_, h, _⟩; rw [decide_eq_false h2] at h; cases h)]
  · rw [if_pos h1, if_neg (by rintro ⟨h, _⟩; rw [decide_eq_false h1] at h; cases h)]
theorem mR_len (s : Bl) : (mR s).length ≤ s.length := by
  unfold mR mP
  rw [trim_lib]
  split
  · rw [List.length_take, List.length_take]; omega
  · rw [List.length_take]; omega
theorem mN_le (s : Bl) : mN s ≤ s.length := (digits_tail s).2
theorem mM_le (s : Bl) : mM s ≤ (mR s).length := (digits_tail (mR s)).2
end Go.Proofs.YtndekohimfjdeaaGreatDoor

namespace Go.Proofs.YtndekohimfjdeaaGreatDoor
open Go.RowKit
theorem itoa_v (k : Nat) (w : World) (he : Env w) (hk : k ≤ 1000000) : Calls Tryz.prog 66 #[.int .i64 (k : Int)] w fun e w' => e = .returned (.string (st (dec k))) ∧ Below w.heap.size w w' := by
  refine (Tryz.strconv_Itoa (k : Int) (by omega) (by omega) w he.tab).mono ?_
  rintro e w' ⟨rfl, q, os, rfl⟩
  refine ⟨?_, below_gr w q os⟩
  unfold Lib.itoa
  rw [if_neg (by omega), Int.toNat_natCast]
  rfl
theorem str_empty (l : Bl) : (st l).toList.isEmpty = decide (l = []) := by
  rw [ByteArray.toList_eq, st_data]
  cases l <;> rfl
set_option maxRecDepth 100000 in
set_option maxHeartbeats 8000000 in
theorem copy_v (l : Bl) (d n : Int) (w : World) (he : Env w) : Calls Tryz.prog 38 #[.string (st l), .int .i64 d, .int .i64 n] w fun e w' => e = .returned (.tuple #[.string (st (copyL l d n).1), .int .i64 ((copyL l d n).2 : Int)]) ∧ Below w.heap.size w w' := by
  have CV := pcheck_v l w he
  obtain ⟨k, hk⟩ : ∃ k, checkL l = k := ⟨_, rfl⟩
  have HK := Lib.hid hk
  rw [hk] at CV
  clear hk
  have HC := Lib.hid (show copyL l d n = _ from rfl)
  go_enter Tryz.func38, Tryz.ntmps38
  go_wp2_with fail
  refine CV.mono ?_
  rintro e w1 ⟨rfl, b1⟩
  have E1 := Lib.hid (he.below b1)
  have B1 := Lib.hid b1
  clear b1 CV HC
  by_cases h : k = 0
  case neg =>
    have HS := Lib.hid (show copyL l d n = ([], k) by unfold copyL; rw [if_pos (by rw [HK.out]; exact h), HK.out])
    have d1 : ((k : Int) != 0) = true := by simp; omega
    clear h
    go_wp2_with fail
    go_returns
    exact ⟨by rw [HS.out]; rfl, B1.out⟩
  subst h
  have d1 : (((0 : Nat) : Int) != 0) = false := rfl
  have HBD : Hid ((d < 1 ∨ 99 < d ∨ n < 0 ∨ 999 < n) → copyL l d n = ([], 2)) := Lib.hid fun h => by unfold copyL; rw [if_neg (by rw [HK.out]; simp), if_pos h]
  by_cases a1 : d < 1
  · have HS := Lib.hid (HBD.out (.inl a1))
    have f1 : decide (d < 1) = true := decide_eq_true a1
    clear a1
    go_wp2_with fail
    go_returns
    exact ⟨by rw [HS.out]; rfl, B1.out⟩
  by_cases a2 : 99 < d
  · have HS := Lib.hid (HBD.out (.inr (.inl a2)))
    have f1 : decide (d < 1) = false := decide_eq_false a1
    have f2 : decide (99 < d) = true := decide_eq_true a2
    clear a1 a2
    go_wp2_with fail
    go_returns
    exact ⟨by rw [HS.out]; rfl, B1.out⟩
  by_cases a3 : n < 0
  · have HS := Lib.hid (HBD.out (.inr (.inr (.inl a3))))
    have f1 : decide (d < 1) = false := decide_eq_false a1
    have f2 : decide (99 < d) = false := decide_eq_false a2
    have f3 : decide (n < 0) = true := decide_eq_true a3
    clear a1 a2 a3
    go_wp2_with fail
    go_returns
    exact ⟨by rw [HS.out]; rfl, B1.out⟩
  by_cases a4 : 999 < n
  · have HS := Lib.hid (HBD.out (.inr (.inr (.inr a4))))
    have f1 : decide (d < 1) = false := decide_eq_false a1
    have f2 : decide (99 < d) = false := decide_eq_false a2
    have f3 : decide (n < 0) = false := decide_eq_false a3
    have f4 : decide (999 < n) = true := decide_eq_true a4
    clear a1 a2 a3 a4
    go_wp2_with fail
    go_returns
    exact ⟨by rw [HS.out]; rfl, B1.out⟩
  obtain ⟨d', rfl⟩ : ∃ d' : Nat, d = (d' : Int) := ⟨d.toNat, by omega⟩
  obtain ⟨n', rfl⟩ : ∃ n' : Nat, n = (n' : Int) := ⟨n.toNat, by omega⟩
  have HS := Lib.hid (show copyL l (d' : Int) (n' : Int) = if prightL (copyOut l d' n') then (copyOut l d' n', 0) else ([], 3) by
    unfold copyL
    rw [if_neg (by rw [HK.out]; simp), if_neg (by omega), Int.toNat_natCast, Int.toNat_natCast])
  have hd : d' ≤ 99 := by omega
  have hn : n' ≤ 999 := by omega
  have f1 : decide ((d' : Int) < 1) = false := decide_eq_false a1
  have f2 : decide ((99 : Int) < (d' : Int)) = false := decide_eq_false a2
  have f3 : decide ((n' : Int) < 0) = false := decide_eq_false a3
  have f4 : decide ((999 : Int) < (n' : Int)) = false := decide_eq_false a4
  clear a1 a2 a3 a4 HBD
  have hl := check_len HK.out
  have SV := Lib.hid (fun w => split_v l w (by omega))
  have EV := Lib.hid (fun w => ending_v l w (by omega))
  have HL := Lib.hid (show (folderL l).length ≤ 64 ∧ (stemB (baseL l)).length ≤ 64 ∧ (endB (baseL l)).length ≤ 64 by
    have e := congrArg List.length (stem_end (baseL l))
    rw [List.length_append] at e
    by_cases hm : (47 : UInt8) ∈ l
    · have := congrArg List.length ((folder_base l).1 hm)
      simp only [List.length_append, List.length_singleton] at this
      omega
    · obtain ⟨e1, e2⟩ := (folder_base l).2 hm
      rw [e1]
      rw [e2] at e ⊢
      simp only [List.length_nil]
      omega)
  have HO := Lib.hid (show copyOut l d' n' = joinF (folderL l) (stemB (baseL l) ++ markL d' n' ++ endB (baseL l)) from rfl)
  obtain ⟨f, hf⟩ : ∃ x, folderL l = x := ⟨_, rfl⟩
  obtain ⟨s, hs⟩ : ∃ x, stemB (baseL l) = x := ⟨_, rfl⟩
  obtain ⟨y, hy⟩ : ∃ x, endB (baseL l) = x := ⟨_, rfl⟩
  rw [hf, hs, hy] at HL HO
  rw [hf] at SV
  rw [hs, hy] at EV
  clear hf hs hy
  have l1 := dec_len (n := d') (k := 2) (by decide) (by omega)
  have l2 := dec_len (n := n') (k := 3) (by decide) (by omega)
  have HT := Lib.hid (show s ++ markL d' n' ++ y = s ++ [46, 99] ++ dec d' ++ [45] ++ dec n' ++ y by simp [markL])
  rw [HT.out] at HO
  obtain ⟨z, hz⟩ : ∃ x, s ++ [46, 99] ++ dec d' ++ [45] ++ dec n' ++ y = x := ⟨_, rfl⟩
  have hzl : (st z).size ≤ 1000 := by rw [st_size, ← hz]; simp only [List.length_append, List.length_cons, List.length_nil]; have := HL.out; omega
  have z0 : (st s).size ≤ 1000 := by rw [st_size]; have := HL.out; omega
  have z1 : (st (s ++ [46, 99])).size ≤ 1000 := by rw [st_size]; simp only [List.length_append, List.length_cons, List.length_nil]; have := HL.out; omega
  have z2 : (st (s ++ [46, 99] ++ dec d')).size ≤ 1000 := by rw [st_size]; simp only [List.length_append, List.length_cons, List.length_nil]; have := HL.out; omega
  have z3 : (st (s ++ [46, 99] ++ dec d' ++ [45])).size ≤ 1000 := by rw [st_size]; simp only [List.length_append, List.length_cons, List.length_nil]; have := HL.out; omega
  have z4 : (st (s ++ [46, 99] ++ dec d' ++ [45] ++ dec n')).size ≤ 1000 := by rw [st_size]; simp only [List.length_append, List.length_cons, List.length_nil]; have := HL.out; omega
  have y0 : (st y).size ≤ 1000 := by rw [st_size]; have := HL.out; omega
  have y1 : (st (dec d')).size ≤ 1000 := by rw [st_size]; omega
  have y2 : (st (dec n')).size ≤ 1000 := by rw [st_size]; omega
  have e1 : st s ++ (⟨#[46, 99]⟩ : ByteArray) = st (s ++ [46, 99]) := st_app s [46, 99]
  have e2 : st (s ++ [46, 99]) ++ st (dec d') = st (s ++ [46, 99] ++ dec d') := st_app _ _
  have e3 : st (s ++ [46, 99] ++ dec d') ++ (⟨#[45]⟩ : ByteArray) = st (s ++ [46, 99] ++ dec d' ++ [45]) := st_app _ [45]
  have e4 : st (s ++ [46, 99] ++ dec d' ++ [45]) ++ st (dec n') = st (s ++ [46, 99] ++ dec d' ++ [45] ++ dec n') := st_app _ _
  have e5 : st (s ++ [46, 99] ++ dec d' ++ [45] ++ dec n') ++ st y = st z := by rw [st_app, hz]
  rw [hz] at HO
  have HLE := Lib.hid (And.intro l1 l2)
  clear hz HT l1 l2
  generalize s ++ [46, 99] ++ dec d' ++ [45] ++ dec n' = s4 at *
  generalize s ++ [46, 99] ++ dec d' ++ [45] = s3 at *
  generalize s ++ [46, 99] ++ dec d' = s2 at *
  generalize s ++ [46, 99] = s1 at *
  have I1 := Lib.hid (fun w hw => itoa_v d' w hw (by omega))
  have I2 := Lib.hid (fun w hw => itoa_v n' w hw (by omega))
  generalize dec d' = dd at *
  generalize dec n' = dn at *
  go_wp2_with fail
  refine (SV.out w1).mono ?_
  rintro e w2 ⟨rfl, b2⟩
  have B2 := Lib.hid (B1.out.trans (b2.mono B1.out.size))
  have E2 := Lib.hid (E1.out.below b2)
  clear b2 B1 E1
  go_wp2_with fail
  refine (EV.out w2).mono ?_
  rintro e w3 ⟨rfl, b3⟩
  have B3 := Lib.hid (B2.out.trans (b3.mono B2.out.size))
  have E3 := Lib.hid (E2.out.below b3)
  clear b3 B2 E2
  go_wp2_with fail
  refine (I1.out w3 E3.out).mono ?_
  rintro e w4 ⟨rfl, b4⟩
  have B4 := Lib.hid (B3.out.trans (b4.mono B3.out.size))
  have E4 := Lib.hid (E3.out.below b4)
  clear b4 B3 E3
  go_wp2_with fail
  refine (I2.out w4 E4.out).mono ?_
  rintro e w5 ⟨rfl, b5⟩
  have B5 := Lib.hid (B4.out.trans (b5.mono B4.out.size))
  have E5 := Lib.hid (E4.out.below b5)
  clear b5 B4 E4
  have FIN : ∀ (o : Bl), copyOut l d' n' = o → o.length ≤ 2000 → ∀ (w : World), Env w → Calls Tryz.prog 67 #[.string (st o)] w fun e w' => e = .returned (.bool (prightL o)) ∧ Below w.heap.size w w' := fun o _ ho w hw => pright_v o w hw (by omega)
  have HF2 := Lib.hid FIN
  clear FIN
  by_cases hfe : f = []
  · have q0 : (st f).toList.isEmpty = true := by rw [str_empty]; exact decide_eq_true hfe
    have HO2 := Lib.hid (show copyOut l d' n' = z by rw [HO.out]; unfold joinF; rw [if_pos hfe])
    have RV := HF2.out z HO2.out (by rw [← st_size]; omega) w5 E5.out
    obtain ⟨b, hb⟩ : ∃ b, prightL z = b := ⟨_, rfl⟩
    rw [hb] at RV
    have HS2 := Lib.hid (show copyL l (d' : Int) (n' : Int) = if b then (z, 0) else ([], 3) by rw [HS.out, HO2.out, hb])
    clear hb hfe
    go_wp2_with fail
    refine RV.mono ?_
    rintro e w6 ⟨rfl, b6⟩
    have B6 := Lib.hid (B5.out.trans (b6.mono B5.out.size))
    clear b6 RV
    cases b with
    | false =>
      go_wp2_with fail
      go_returns
      exact ⟨by rw [HS2.out]; rfl, B6.out⟩
    | true =>
      go_wp2_with fail
      go_returns
      exact ⟨by rw [HS2.out]; rfl, B6.out⟩
  · have q0 : (st f).toList.isEmpty = false := by rw [str_empty]; exact decide_eq_false hfe
    have g1 : st f ++ (⟨#[47]⟩ : ByteArray) = st (f ++ [47]) := st_app f [47]
    have g2 : st (f ++ [47]) ++ st z = st (f ++ [47] ++ z) := st_app _ _
    have u0 : (st f).size ≤ 1000 := by rw [st_size]; have := HL.out; omega
    have u1 : (st (f ++ [47])).size ≤ 1000 := by rw [st_size]; simp only [List.length_append, List.length_cons, List.length_nil]; have := HL.out; omega
    have HO2 := Lib.hid (show copyOut l d' n' = f ++ [47] ++ z by rw [HO.out]; unfold joinF; rw [if_neg hfe])
    have RV := HF2.out (f ++ [47] ++ z) HO2.out (by have := HL.out; have := st_size z; simp only [List.length_append, List.length_cons, List.length_nil]; omega) w5 E5.out
    obtain ⟨b, hb⟩ : ∃ b, prightL (f ++ [47] ++ z) = b := ⟨_, rfl⟩
    rw [hb] at RV
    have HS2 := Lib.hid (show copyL l (d' : Int) (n' : Int) = if b then (f ++ [47] ++ z, 0) else ([], 3) by rw [HS.out, HO2.out, hb])
    clear hb hfe
    generalize f ++ [47] ++ z = o at *
    go_wp2_with fail
    refine RV.mono ?_
    rintro e w6 ⟨rfl, b6⟩
    have B6 := Lib.hid (B5.out.trans (b6.mono B5.out.size))
    clear b6 RV
    cases b with
    | false =>
      go_wp2_with fail
      go_returns
      exact ⟨by rw [HS2.out]; rfl, B6.out⟩
    | true =>
      go_wp2_with fail
      go_returns
      exact ⟨by rw [HS2.out]; rfl, B6.out⟩
end Go.Proofs.YtndekohimfjdeaaGreatDoor

namespace Go.Proofs.YtndekohimfjdeaaGreatDoor
open Go.RowKit
section
variable {α : Type} {K : Nat} {enc : α → List Value} (hk : ∀ x, (enc x).length = K)
include hk
theorem flat_len (l : List α) : (l.flatMap enc).length = l.length * K := by
  induction l with
  | nil => simp
  | cons x l ih => rw [List.flatMap_cons, List.length_append, hk, ih, List.length_cons, Nat.succ_mul, Nat.add_comm]
theorem flat_drop (l : List α) : ∀ k, (l.flatMap enc).drop (k * K) = (l.drop k).flatMap enc := by
  induction l with
  | nil => intro k; simp
  | cons x l ih =>
    intro k
    cases k with
    | zero => simp
    | succ k => rw [List.flatMap_cons, List.drop_succ_cons, ← ih k, List.drop_append, hk, List.drop_of_length_le (by rw [hk, Nat.succ_mul]; omega), List.nil_append, Nat.succ_mul, Nat.add_sub_cancel]
theorem flat_take (l : List α) : ∀ k, (l.flatMap enc).take (k * K) = (l.take k).flatMap enc := by
  induction l with
  | nil => intro k; simp
  | cons x l ih =>
    intro k
    cases k with
    | zero => simp
    | succ k => rw [List.flatMap_cons, List.take_succ_cons, List.flatMap_cons, ← ih k, List.take_append, hk, List.take_of_length_le (by rw [hk, Nat.succ_mul]; omega), Nat.succ_mul, Nat.add_sub_cancel]
theorem flat_at (l : List α) {k : Nat} {x : α} (h : l[k]? = some x) {i : Nat} (hi : i < K) : (l.flatMap enc)[k * K + i]? = (enc x)[i]? := by
  have h1 := flat_drop hk l k
  have h2 : (l.drop k).flatMap enc = enc x ++ (l.drop (k + 1)).flatMap enc := by
    obtain ⟨hl, he⟩ := List.getElem?_eq_some_iff.1 h
    rw [List.drop_eq_getElem_cons hl, he, List.flatMap_cons]
  rw [← List.getElem?_drop, h1, h2, List.getElem?_append_left (by rw [hk]; exact hi)]
end
section
variable {P : Program} {w : World}
theorem run_loadVar_slot (ad : Addr) (ty : TypeId) (vs : List Value) (d : TypeDesc) (hc : ∀ j v, vs[j]? = some v → w.cell? (ad.add j) = some v)
    (hu : P.underlying ty = some d) (hd : (match d with | .struct _ | .array _ _ => true | _ => false) = true) (hi : (P.info? ty).map (·.size) = some vs.length) :
    (loadVar ty ad).run P w = .ok (.agg vs.toArray) w := by
  have hl := run_loadCells_list (P := P) w ad vs hc
  cases hq : P.info? ty with
  | none => simp [hq] at hi
  | some i =>
    have hs : i.size = vs.length := by simpa [hq] using hi
    have hagg : (isAgg ty).run P w = .ok true w := by
      unfold isAgg
      rw [Sem.run_bind, run_underlying hu w]
      cases d <;> simp_all
    simp [loadVar, Sem.run_bind, hagg, sizeOf, typeInfo, hq, hs, hl]
theorem exec_load_slot {ρ : Operand → Value} {o : Oper} (ty : TypeId) (x : Operand) (ho : o.op = .load ty x) (ad : Addr) (hx : ρ x = .pointer (some ad)) (vs : List Value) (d : TypeDesc)
    (hc : ∀ j v, vs[j]? = some v → w.cell? (ad.add j) = some v)
    (hu : P.underlying ty = some d) (hd : (match d with | .struct _ | .array _ _ => true | _ => false) = true) (hi : (P.info? ty).map (·.size) = some vs.length) :
    (execOp ρ o).run P w = .ok (.value (.agg vs.toArray)) w := by
  unfold execOp
  simp only [ho, hx, Instr.loadAt, Instr.sureAddr, Sem.run_bind, Sem.run_pure, Result.andThen_ok, run_loadVar_slot ad ty vs d hc hu hd hi]
theorem wpList_load_slot {ops : Array Oper} {rest : List Oper} {o : Oper} {a : Act} {Q : Exit → Act → World → Prop} (hw : Region.wanted o (yielded ops a.tmps) = true) (ty : TypeId) (x : Operand) (ho : o.op = .load ty x)
    (ad : Addr) (hx : a.eval x = .pointer (some ad)) (vs : List Value) (d : TypeDesc) (hc : ∀ j v, vs[j]? = some v → w.cell? (ad.add j) = some v)
    (hu : P.underlying ty = some d) (hd : (match d with | .struct _ | .array _ _ => true | _ => false) = true) (hi : (P.info? ty).map (·.size) = some vs.length)
    (h : wpList P ops Q rest (a.put o.dst (.agg vs.toArray)) w) : wpList P ops Q (o :: rest) a w := by
  rw [wpList, if_pos hw]
  refine .inl ?_
  unfold Oper.wp
  rw [exec_load_slot ty x ho ad hx vs d hc hu hd hi]
  exact h
theorem seg_row {L vs : List Value} {o : Nat} (h : o + vs.length ≤ L.length) : (L.take o ++ vs ++ L.drop (o + vs.length)).length = L.length := by simp; omega
theorem seg_take {L vs : List Value} {o c n : Nat} (hv : vs.length = c) (h1 : o + c ≤ n) (h2 : n ≤ L.length) :
    (L.take o ++ vs ++ L.drop (o + c)).take n = (L.take n).take o ++ vs ++ (L.take n).drop (o + c) := by
  rw [List.take_append, List.take_of_length_le (by simp; omega), List.take_take, Nat.min_eq_left (show o ≤ n by omega), List.drop_take]
  congr 2
  simp
  omega
/-- A whole slot is written. -/
theorem run_store_own {base n cap g k K : Nat} {e ty : TypeId} {xs vs : List Value} (hown : w.ownsRow base e K (.slice (some ⟨g, 0, none⟩) n cap) n xs) (hk : k < n) (hl : vs.length = K) (h1 : ∀ v ∈ vs, v.oneCell' = true)
    (hi : (P.info? ty).map (·.size) = some K) :
    ∃ w', (storeVar ty ⟨g, k * K, none⟩ (.agg vs.toArray)).run P w = .ok () w' ∧ w'.ownsRow base e K (.slice (some ⟨g, 0, none⟩) n cap) n (xs.take (k * K) ++ vs ++ xs.drop (k * K + K)) ∧ w.grownBy w' (some g) ∧ w'.heap.size = w.heap.size := by
  rcases hown.2 with ⟨h, _⟩ | ⟨g', cap', cur, h, hbg, hg, hnc, hcm, hcs, htake⟩
  · simp at h
  · simp only [Value.slice.injEq, Option.some.injEq, Addr.mk.injEq, and_true, true_and] at h
    obtain ⟨rfl, rfl⟩ := h
    have hkn : k * K + K ≤ n * K := by rw [← Nat.succ_mul]; exact Nat.mul_le_mul_right _ hk
    have hnk : n * K ≤ cap * K := Nat.mul_le_mul_right _ hnc
    have hst := run_storeCells_at P g (k * K) e vs 0 cur w hg (by rw [hl, hcs]; omega) h1
    simp only [Nat.add_zero] at hst
    cases hq : P.info? ty with
    | none => simp [hq] at hi
    | some i =>
      have hs : i.size = K := by simpa [hq] using hi
      rw [hl] at hst
      have hrun : (storeVar ty ⟨g, k * K, none⟩ (.agg vs.toArray)).run P w = .ok () (w.setRow g (cur.toList.take (k * K) ++ vs ++ cur.toList.drop (k * K + K)).toArray) := by
        simpa [storeVar, sizeOf, typeInfo, hq, Value.cells, hs, hl] using hst
      refine ⟨_, hrun, ⟨?_, .inr ⟨g, cap, _, rfl, hbg, setRow_heap w g cur _ e _ hg, hnc, hcm, ?_, ?_⟩⟩, ⟨rfl, rfl, rfl, by simp, fun j _ hj => setRow_other w g j _ (fun e => hj (by simp [e]))⟩, by simp⟩
      · have := seg_row (L := xs) (vs := vs) (o := k * K) (by rw [hl, hown.1]; exact hkn)
        rw [hl] at this
        rw [this, hown.1]
      · have := seg_row (L := cur.toList) (vs := vs) (o := k * K) (by rw [hl, Array.length_toList, hcs]; omega)
        rw [hl] at this
        rw [List.size_toArray, this, Array.length_toList, hcs]
      · rw [← htake]
        exact seg_take hl hkn (by rw [Array.length_toList, hcs]; exact hnk)
theorem wpList_store_own {ops : Array Oper} {rest : List Oper} {o : Oper} {a : Act} {Q : Exit → Act → World → Prop} (hw : Region.wanted o (yielded ops a.tmps) = true) (ty : TypeId) (x y : Operand) (ho : o.op = .store ty x y)
    (base n cap g k K : Nat) (e : TypeId) (xs vs : List Value) (hx : a.eval x = .pointer (some ⟨g, k * K, none⟩)) (hy : a.eval y = .agg vs.toArray)
    (hown : w.ownsRow base e K (.slice (some ⟨g, 0, none⟩) n cap) n xs) (hk : k < n) (hl : vs.length = K) (h1 : ∀ v ∈ vs, v.oneCell' = true) (hi : (P.info? ty).map (·.size) = some K)
    (h : ∀ w', w'.ownsRow base e K (.slice (some ⟨g, 0, none⟩) n cap) n (xs.take (k * K) ++ vs ++ xs.drop (k * K + K)) → w.grownBy w' (some g) → w'.heap.size = w.heap.size → wpList P ops Q rest (a.put o.dst undef) w') : wpList P ops Q (o :: rest) a w := by
  obtain ⟨w', hr, h2, h3, h4⟩ := run_store_own (P := P) (ty := ty) hown hk hl h1 hi
  rw [wpList, if_pos hw]
  refine .inl ?_
  unfold Oper.wp execOp
  simp only [ho, hx, hy, Instr.storeAt, Instr.sureAddr, Sem.run_bind, Sem.run_pure, Result.andThen_ok, hr]
  exact h w' h2 h3 h4
/-- What lies behind an own row is cleared; the row stands. -/
theorem run_clear_own {base cap g m q K : Nat} {t e ty : TypeId} {z : Value} {xs : List Value} (ht : P.underlying t = some (.slice e)) (hz : ∀ w, (zeroValue e).run P w = .ok z w) (hzs : z.cells.size = K) (hK : 0 < K) (hz1 : ∀ v ∈ z.cells.toList, v.oneCell' = true)
    (hown : w.ownsRow base e K (.slice (some ⟨g, 0, none⟩) m cap) m xs) (hm : m + q ≤ cap) (A : Option Addr) (hA : 0 < q → A = some ⟨g, m * K, none⟩) (c : Nat) :
    ∃ w', (Builtin.clear_ #[t] ty #[.slice A q c]).run P w = .ok (.tuple #[]) w' ∧ w'.ownsRow base e K (.slice (some ⟨g, 0, none⟩) m cap) m xs ∧ w.grownBy w' (some g) ∧ w'.heap.size = w.heap.size := by
  rcases q with _ | q
  · exact ⟨w, by cases A <;> simp [Builtin.clear_, run_underlying ht], hown, World.grownBy.refl w _, rfl⟩
  obtain rfl := hA (Nat.succ_pos _)
  rcases hown.2 with ⟨h, _⟩ | ⟨g', cap', cur, h, hbg, hg, hnc, hcm, hcs, htake⟩
  · simp at h
  · simp only [Value.slice.injEq, Option.some.injEq, Addr.mk.injEq, and_true, true_and] at h
    obtain ⟨rfl, rfl⟩ := h
    have hmk : m * K + (q + 1) * K ≤ cap * K := by rw [← Nat.add_mul]; exact Nat.mul_le_mul_right _ hm
    have hzl : (Builtin.zeroCells z.cells (q + 1)).toList.length = (q + 1) * K := by rw [Array.length_toList, size_zeroCells, hzs]
    have hst := run_storeCells_at P g (m * K) e (Builtin.zeroCells z.cells (q + 1)).toList 0 cur w hg (by rw [hzl, hcs]; omega) (fun v hv => by
      simp only [Builtin.zeroCells, Array.toList_map, List.mem_map] at hv
      obtain ⟨i, _, rfl⟩ := hv
      have hlt : i % z.cells.size < z.cells.size := Nat.mod_lt _ (by omega)
      rw [getElem!_pos z.cells _ hlt]
      exact hz1 _ (by rw [← Array.getElem_toList]; exact List.getElem_mem _))
    simp only [Nat.add_zero] at hst
    have hrun : (Builtin.clear_ #[t] ty #[.slice (some ⟨g, m * K, none⟩) (q + 1) c]).run P w = .ok (.tuple #[]) (w.setRow g (cur.toList.take (m * K) ++ (Builtin.zeroCells z.cells (q + 1)).toList ++ cur.toList.drop (m * K + (Builtin.zeroCells z.cells (q + 1)).toList.length)).toArray) := by
      simp only [Builtin.clear_, List.getElem?_toArray, List.getElem?_cons_zero, Sem.run_bind, Sem.run_pure, Result.andThen_ok, run_underlying ht, hz, hst]
    refine ⟨_, hrun, ⟨hown.1, .inr ⟨g, cap, _, rfl, hbg, setRow_heap w g cur _ e _ hg, hnc, hcm, ?_, ?_⟩⟩, ⟨rfl, rfl, rfl, by simp, fun j _ hj => setRow_other w g j _ (fun e => hj (by simp [e]))⟩, by simp⟩
    · have := seg_row (L := cur.toList) (vs := (Builtin.zeroCells z.cells (q + 1)).toList) (o := m * K) (by rw [hzl, Array.length_toList, hcs]; exact hmk)
      rw [List.size_toArray, this, Array.length_toList, hcs]
    · rw [← htake, List.append_assoc, List.take_append_of_le_length (by rw [List.length_take, Array.length_toList, hcs]; omega), List.take_take, Nat.min_self]
theorem wpList_clear_own {ops : Array Oper} {rest : List Oper} {o : Oper} {a : Act} {Q : Exit → Act → World → Prop} (hw : Region.wanted o (yielded ops a.tmps) = true) (x : Operand) (t : TypeId)
    (ho : o.op = .call { callee := .builtin .clear, args := #[x], argTypes := #[t] }) (base cap g m q K : Nat) (e : TypeId) (z : Value) (xs : List Value) (A : Option Addr) (c : Nat) (hx : a.eval x = .slice A q c) (hA : 0 < q → A = some ⟨g, m * K, none⟩)
    (ht : P.underlying t = some (.slice e)) (hz : ∀ w, (zeroValue e).run P w = .ok z w) (hzs : z.cells.size = K) (hK : 0 < K) (hz1 : ∀ v ∈ z.cells.toList, v.oneCell' = true)
    (hown : w.ownsRow base e K (.slice (some ⟨g, 0, none⟩) m cap) m xs) (hm : m + q ≤ cap)
    (h : ∀ w', w'.ownsRow base e K (.slice (some ⟨g, 0, none⟩) m cap) m xs → w.grownBy w' (some g) → w'.heap.size = w.heap.size → wpList P ops Q rest (a.put o.dst (.tuple #[])) w') : wpList P ops Q (o :: rest) a w := by
  obtain ⟨w', hr, h2, h3, h4⟩ := run_clear_own (P := P) (ty := o.type) ht hz hzs hK hz1 hown hm A hA c
  rw [wpList, if_pos hw]
  refine .inl ?_
  unfold Oper.wp execOp
  simp only [ho, resolve, invoke, builtin, Sem.run_bind, Sem.run_pure, Result.andThen_ok, List.map_toArray, List.map_cons, List.map_nil, hx, hr]
  exact h w' h2 h3 h4
/-- An append that fits, of what lies anywhere (of the row itself, too). -/
theorem wp_append_fits {o : Oper} {a : Act} {K : Act → World → Prop} {Q : Exit → Act → World → Prop} (s x : Operand) (t : TypeId) (ho : o.op = .call { callee := .builtin .append, args := #[s, x], argTypes := #[t, t] })
    (base : Nat) (e : TypeId) (i : TypeInfo) (size : Nat) (ht : P.underlying t = some (.slice e)) (hi : P.info? e = some i) (hsize : i.size = size)
    (g n cap : Nat) (xs : List Value) (hs : a.eval s = .slice (some ⟨g, 0, none⟩) n cap) (hown : w.ownsRow base e size (.slice (some ⟨g, 0, none⟩) n cap) n xs)
    (ad : Addr) (m c : Nat) (news : List Value) (hx : a.eval x = .slice (some ad) m c) (hl : news.length = m * size) (hnews : ∀ j u, news[j]? = some u → w.cell? (ad.add j) = some u) (h1 : ∀ u ∈ news, u.oneCell' = true)
    (hroom : n + m ≤ cap) (h : ∀ w', w'.ownsRow base e size (.slice (some ⟨g, 0, none⟩) (n + m) cap) (n + m) (xs ++ news) → w.grownBy w' (some g) → K (a.put o.dst (.slice (some ⟨g, 0, none⟩) (n + m) cap)) w') : o.wp P a w K Q := by
  obtain ⟨w', hr, h2, h3⟩ := run_append_fits (P := P) w base t o.type e i size ht hi hsize g n cap xs hown ad m c news hl hnews h1 hroom
  unfold Oper.wp execOp
  simp only [ho, resolve, invoke, builtin, Sem.run_bind, Sem.run_pure, Result.andThen_ok, List.map_toArray, List.map_cons, List.map_nil, hs, hx, hr]
  exact h w' h2 h3
/-- The head of an own row is one. -/
theorem own_head {base n cap g m K : Nat} {e : TypeId} {xs : List Value} (hown : w.ownsRow base e K (.slice (some ⟨g, 0, none⟩) n cap) n xs) (hm : m ≤ n) : w.ownsRow base e K (.slice (some ⟨g, 0, none⟩) m cap) m (xs.take (m * K)) := by
  have hmk : m * K ≤ n * K := Nat.mul_le_mul_right _ hm
  refine ⟨by rw [List.length_take, hown.1]; omega, ?_⟩
  rcases hown.2 with ⟨h, _⟩ | ⟨g', cap', cur, h, hbg, hg, hnc, hcm, hcs, htake⟩
  · simp at h
  · simp only [Value.slice.injEq, Option.some.injEq, Addr.mk.injEq, and_true, true_and] at h
    obtain ⟨rfl, rfl⟩ := h
    exact .inr ⟨g, cap, cur, rfl, hbg, hg, by omega, hcm, hcs, by rw [← htake, List.take_take, Nat.min_eq_left hmk]⟩
end
end Go.Proofs.YtndekohimfjdeaaGreatDoor

namespace Go.Proofs.YtndekohimfjdeaaGreatDoor
open Go.RowKit
theorem marked_len {s q : Bl} {d n : Nat} (h : markedL s = some (q, d, n)) : q.length ≤ s.length := by
  rw [marked_eq] at h
  split at h
  · simp only [Option.some.injEq, Prod.mk.injEq] at h
    obtain ⟨rfl, _, _⟩ := h
    have h1 := mR_len s
    unfold mA
    rw [trim_lib]
    have h2 : (mQ s).length ≤ (mR s).length := by unfold mQ; rw [List.length_take]; omega
    split
    · rw [List.length_take]; omega
    · omega
  · cases h
theorem base_len (l : Bl) : (folderL l).length ≤ l.length ∧ (baseL l).length ≤ l.length ∧ (stemB (baseL l)).length ≤ l.length ∧ (endB (baseL l)).length ≤ l.length := by
  have e := congrArg List.length (stem_end (baseL l))
  rw [List.length_append] at e
  by_cases hm : (47 : UInt8) ∈ l
  · have := congrArg List.length ((folder_base l).1 hm)
    simp only [List.length_append, List.length_singleton] at this
    omega
  · obtain ⟨e1, e2⟩ := (folder_base l).2 hm
    rw [e1]
    rw [e2] at e ⊢
    simp only [List.length_nil]
    omega
/-- What Copied makes of one way to take a mark away. -/
def resV (r : Option (Bl × Nat × Nat)) : Value := .tuple #[.string (st (r.getD ([], 0, 0)).1), .int .i64 ((r.getD ([], 0, 0)).2.1 : Int), .int .i64 ((r.getD ([], 0, 0)).2.2 : Int), .bool r.isSome]
end Go.Proofs.YtndekohimfjdeaaGreatDoor
