/-
  XText for great regions: the order is checked over numbers (masks), so that the check is cheap.
-/
import Derived.Test.YtohcdnbchidjeaaText
namespace Go.Proofs.Ytohcdnbchidjeaa
def maskOf : List Nat → Nat
  | [] => 0
  | i :: l => (1 <<< i) ||| maskOf l
theorem testBit_one (i j : Nat) : (1 <<< i).testBit j = decide (j = i) := by
  rw [Nat.shiftLeft_eq, Nat.one_mul, Nat.testBit_two_pow]
  exact decide_eq_decide.2 eq_comm
theorem testBit_mask (j : Nat) : ∀ l : List Nat, (maskOf l).testBit j = l.contains j
  | [] => by simp [maskOf]
  | i :: l => by
    rw [maskOf, Nat.testBit_or, testBit_one, testBit_mask j l, List.contains_cons]
    rfl
/-- An operation as numbers: what it waits for, where it writes, what it looks at. -/
structure OSum where
  need : Nat
  dst : Nat
  looks : Nat
def sumOf (ops : Array Oper) (o : Oper) : OSum := ⟨maskOf ((o.after.toList.filter (Region.binds .any)).map (·.on)), maskOf o.dst.toList, maskOf (o.looksAt ops)⟩
def readyB (L j : Nat) (s : OSum) : Bool := !L.testBit j && (s.need &&& L == s.need)
def readyF (L : Nat) : List OSum → Nat → List Nat
  | [], _ => []
  | s :: r, j => bif readyB L j s then j :: readyF L r (j + 1) else readyF L r (j + 1)
def apartB (x y : OSum) : Bool := (x.dst &&& y.looks == 0) && (x.dst &&& y.dst == 0) && (y.dst &&& x.looks == 0)
def freeF (L i : Nat) (si : OSum) : List OSum → Nat → Bool
  | [], _ => true
  | s :: r, j => (j == i || L.testBit j || s.need.testBit i || apartB si s) && freeF L i si r (j + 1)
def fastOk (sums : List OSum) : Nat → List (Nat × Bool) → Bool
  | L, [] => (readyF L sums 0).isEmpty
  | L, (i, e) :: l => (bif e then readyF L sums 0 == [i] else (match sums[i]? with | some si => readyB L i si && freeF L i si sums 0 | none => false)) && fastOk sums (L ||| (1 <<< i)) l
theorem and_zero_of {a b : Nat} (h : (a &&& b == 0) = true) (j : Nat) (ha : a.testBit j = true) : b.testBit j = false := by
  have h := beq_iff_eq.1 h
  have h2 := Nat.testBit_and a b j
  rw [h, ha] at h2
  simpa using h2.symm
theorem sub_of {a b : Nat} : (a &&& b == a) = true ↔ ∀ j, a.testBit j = true → b.testBit j = true := by
  rw [beq_iff_eq]
  constructor
  · intro h j ha
    have h2 := Nat.testBit_and a b j
    rw [h, ha] at h2
    simpa using h2.symm
  · intro h
    refine Nat.eq_of_testBit_eq fun j => ?_
    rw [Nat.testBit_and]
    cases ha : a.testBit j
    · rfl
    · rw [h j ha]; rfl
theorem filter_range (p : Nat → Bool) (L : Nat) : ∀ (xs : List OSum) (j : Nat), (∀ k s, xs[k]? = some s → p (j + k) = readyB L (j + k) s) → (List.range' j xs.length).filter p = readyF L xs j
  | [], _, _ => rfl
  | s :: r, j, h => by
    have h0 := h 0 s rfl
    have hr := filter_range p L r (j + 1) fun k s' hs => by have := h (k + 1) s' hs; rwa [show j + (k + 1) = j + 1 + k by omega] at this
    rw [List.length_cons, List.range'_succ, List.filter_cons, readyF, hr]
    rw [Nat.add_zero] at h0
    rw [h0]
    cases readyB L j s <;> rfl
/-- The array of those that have come up, as a number. -/
def Says (listed : Array Bool) (L n : Nat) : Prop := listed.size = n ∧ ∀ i, i < n → listed[i]? = some (L.testBit i)
theorem Says.set {listed : Array Bool} {L n i : Nat} (h : Says listed L n) : Says (listed.setIfInBounds i true) (L ||| (1 <<< i)) n := by
  refine ⟨by rw [Array.size_setIfInBounds, h.1], fun j hj => ?_⟩
  rw [Array.getElem?_setIfInBounds, Nat.testBit_or, testBit_one]
  by_cases hij : i = j
  · subst hij
    rw [if_pos rfl, if_pos (by rw [h.1]; exact hj)]
    simp
  · rw [if_neg hij, h.2 j hj]
    simp [Ne.symm hij]
theorem Says.getD {listed : Array Bool} {L n i : Nat} (h : Says listed L n) (hi : i < n) (d : Bool) : listed.getD i d = L.testBit i := by
  have := h.2 i hi
  rw [Array.getD_eq_getD_getElem?, this]
  rfl
section
variable {ops : Array Oper} {listed : Array Bool} {L : Nat} {sums : List OSum}
theorem sum_at (hsum : ops.toList.map (sumOf ops) = sums) {k : Nat} {s : OSum} (h : sums[k]? = some s) : ∃ o, ops[k]? = some o ∧ s = sumOf ops o := by
  rw [← hsum, List.getElem?_map] at h
  cases ho : ops.toList[k]? with
  | none => rw [ho] at h; cases h
  | some o =>
    rw [ho] at h
    injection h with h
    exact ⟨o, by rw [← Array.getElem?_toList]; exact ho, h.symm⟩
theorem ready_eq (hsum : ops.toList.map (sumOf ops) = sums) (hs : Says listed L ops.size) (hL : ∀ i, ops.size ≤ i → L.testBit i = false) : Region.ready .any ops listed = readyF L sums 0 := by
  have hlen : sums.length = ops.size := by rw [← hsum]; simp
  have h0 := filter_range (fun i => !listed.getD i true && ((ops[i]?).map (·.after.all fun e => !Region.binds .any e || listed.getD e.on false)).getD false) L sums 0 fun k s hk => by
    obtain ⟨o, ho, rfl⟩ := sum_at hsum hk
    have hkn : k < ops.size := (Array.getElem?_eq_some_iff.1 ho).1
    rw [Nat.zero_add]
    simp only [ho, Option.map_some, Option.getD_some, readyB, hs.getD hkn]
    congr 1
    rw [Bool.eq_iff_iff, sub_of, Array.all_eq_true_iff_forall_mem]
    have hgd : ∀ e : Nat, listed.getD e false = L.testBit e := fun e => by
      by_cases he : e < ops.size
      · exact hs.getD he _
      · rw [hL e (by omega), Array.getD_eq_getD_getElem?, Array.getElem?_eq_none (by rw [hs.1]; omega)]; rfl
    constructor
    · intro h j hj
      rw [sumOf, testBit_mask, List.contains_iff_mem] at hj
      obtain ⟨e, he, rfl⟩ := List.mem_map.1 hj
      obtain ⟨he1, he2⟩ := List.mem_filter.1 he
      have := h e (Array.mem_toList_iff.1 he1)
      rw [he2, hgd] at this
      simpa using this
    · intro h e he
      cases hb : Region.binds .any e
      · rfl
      · rw [hgd, h e.on (by rw [sumOf, testBit_mask, List.contains_iff_mem]; exact List.mem_map.2 ⟨e, List.mem_filter.2 ⟨Array.mem_toList_iff.2 he, hb⟩, rfl⟩)]
        rfl
  rw [hlen] at h0
  rw [← h0, Region.ready, List.range_eq_range']
theorem contains_false {l : List Nat} {m d : Nat} (h : (m &&& maskOf l == 0) = true) (hd : m.testBit d = true) : l.contains d = false := by
  have := and_zero_of h d hd
  rwa [testBit_mask] at this
theorem apart_of {x y : Oper} (h : apartB (sumOf ops x) (sumOf ops y) = true) : x.apart ops y = true := by
  simp only [apartB, sumOf, Bool.and_eq_true] at h
  obtain ⟨⟨h1, h2⟩, h3⟩ := h
  unfold Oper.apart
  rw [Bool.and_eq_true]
  constructor
  · cases hd : x.dst with
    | none => rfl
    | some d =>
      rw [hd] at h1 h2
      have hb : (maskOf (some d).toList).testBit d = true := by rw [testBit_mask]; simp
      simp only [Bool.and_eq_true]
      refine ⟨by rw [contains_false h1 hb]; rfl, ?_⟩
      cases hy : y.dst with
      | none => rfl
      | some d' =>
        rw [hy] at h2
        have := contains_false h2 hb
        simp only [Option.toList_some, List.contains_cons, List.contains_nil, Bool.or_false] at this
        simp only [bne_iff_ne, ne_eq, Option.some.injEq]
        intro e
        subst e
        simp at this
  · cases hd : y.dst with
    | none => rfl
    | some d =>
      rw [hd] at h3
      have hb : (maskOf (some d).toList).testBit d = true := by rw [testBit_mask]; simp
      show (!(x.looksAt ops).contains d) = true
      rw [contains_false h3 hb]; rfl
theorem freeF_spec {i : Nat} {si : OSum} : ∀ (xs : List OSum) (j : Nat), freeF L i si xs j = true → ∀ k s, xs[k]? = some s → (j + k = i ∨ L.testBit (j + k) = true ∨ s.need.testBit i = true ∨ apartB si s = true)
  | [], _, _, k, s, h => by simp at h
  | x :: r, j, h, k, s, hk => by
    rw [freeF, Bool.and_eq_true] at h
    cases k with
    | zero =>
      simp only [List.getElem?_cons_zero, Option.some.injEq] at hk
      subst hk
      have := h.1
      simp only [Bool.or_eq_true, beq_iff_eq] at this
      rw [Nat.add_zero]
      rcases this with ((h1 | h1) | h1) | h1
      · exact .inl h1
      · exact .inr (.inl h1)
      · exact .inr (.inr (.inl h1))
      · exact .inr (.inr (.inr h1))
    | succ k =>
      have := freeF_spec r (j + 1) h.2 k s (by simpa using hk)
      rwa [show j + 1 + k = j + (k + 1) by omega] at this
theorem free_of (hsum : ops.toList.map (sumOf ops) = sums) (hs : Says listed L ops.size) {i : Nat} {si : OSum} (hi : sums[i]? = some si) (hf : freeF L i si sums 0 = true) : Region.free .any ops listed i = true := by
  obtain ⟨oi, hoi, rfl⟩ := sum_at hsum hi
  unfold Region.free
  simp only [hoi]
  rw [List.all_eq_true]
  intro j hj
  have hjn : j < ops.size := List.mem_range.1 hj
  have hoj := Array.getElem?_eq_getElem hjn
  have hsj : sums[j]? = some (sumOf ops ops[j]) := by rw [← hsum, List.getElem?_map, Array.getElem?_toList, hoj]; rfl
  have h := freeF_spec sums 0 hf j _ hsj
  rw [Nat.zero_add] at h
  simp only [hoj, Bool.or_eq_true, beq_iff_eq, hs.getD hjn]
  rcases h with h | h | h | h
  · exact .inl (.inl h)
  · exact .inl (.inr h)
  · refine .inr (.inl ?_)
    rw [sumOf, testBit_mask, List.contains_iff_mem] at h
    obtain ⟨e, he, rfl⟩ := List.mem_map.1 h
    obtain ⟨he1, he2⟩ := List.mem_filter.1 he
    rw [Array.any_eq_true']
    exact ⟨e, Array.mem_toList_iff.1 he1, by rw [he2]; simp⟩
  · exact .inr (.inr (apart_of h))
theorem fast_sched (hsum : ops.toList.map (sumOf ops) = sums) : ∀ (l : List (Nat × Bool)) (listed : Array Bool) (L : Nat), Says listed L ops.size → (∀ i, ops.size ≤ i → L.testBit i = false) → (∀ x ∈ l, x.1 < ops.size) → fastOk sums L l = true → schedOk ops listed l = true
  | [], listed, L, hs, hL, _, h => by
    rw [schedOk, ready_eq hsum hs hL]
    exact h
  | (i, e) :: l, listed, L, hs, hL, hb, h => by
    have hin : i < ops.size := hb (i, e) List.mem_cons_self
    rw [fastOk, Bool.and_eq_true] at h
    rw [schedOk, Bool.and_eq_true]
    refine ⟨?_, fast_sched hsum l _ _ hs.set (fun j hj => by rw [Nat.testBit_or, hL j hj, testBit_one]; simp; omega) (fun x hx => hb x (List.mem_cons_of_mem _ hx)) h.2⟩
    cases e with
    | true =>
      rw [if_pos rfl, ready_eq hsum hs hL]
      exact h.1
    | false =>
      rw [if_neg (by simp)]
      have h1 := h.1
      simp only [cond_false] at h1
      cases hi : sums[i]? with
      | none => rw [hi] at h1; cases h1
      | some si =>
        rw [hi] at h1
        simp only [Bool.and_eq_true] at h1
        rw [Bool.and_eq_true]
        refine ⟨free_of hsum hs hi h1.2, ?_⟩
        rw [ready_eq hsum hs hL, List.contains_iff_mem, ← ready_eq hsum hs hL]
        unfold Region.ready
        rw [List.mem_filter]
        have e2 := ready_eq hsum hs hL
        obtain ⟨oi, hoi, rfl⟩ := sum_at hsum hi
        refine ⟨List.mem_range.2 hin, ?_⟩
        have hr := h1.1
        simp only [readyB, Bool.and_eq_true] at hr
        simp only [hs.getD hin, hoi, Option.map_some, Option.getD_some, Bool.and_eq_true]
        refine ⟨hr.1, ?_⟩
        rw [Array.all_eq_true_iff_forall_mem]
        intro e he
        cases hbd : Region.binds .any e
        · rfl
        · have := sub_of.1 hr.2 e.on (by rw [sumOf, testBit_mask, List.contains_iff_mem]; exact List.mem_map.2 ⟨e, List.mem_filter.2 ⟨Array.mem_toList_iff.2 he, hbd⟩, rfl⟩)
          have he2 : e.on < ops.size := by
            rcases Nat.lt_or_ge e.on ops.size with h' | h'
            · exact h'
            · rw [hL _ h'] at this; cases this
          rw [hs.getD he2, this]
          rfl
end
section
variable {P : Program} {Q : Exit → Act → World → Prop}
/-- The beginning. -/
theorem wp_region_swift {id : Nat} {ol : List Oper} {a : Act} {w : World} (l : List (Nat × Bool)) (sums : List OSum) (S : World → Prop) (hm : P.follows .mixedOrders = true) (hl : l.length = ol.length) (hn : Region.noSelect ol.toArray = true)
    (hsum : ol.map (sumOf ol.toArray) = sums) (hs : fastOk sums 0 l = true) (hi : (l.all fun x => decide (x.1 < ol.length)) = true)
    (h : ∀ d : Oper, TW P ol.toArray Q S (outOf d ol l) a w.drew) : (Code.region id ol.toArray true).wp P Q a w := by
  refine wp_region_text l S hm hl hn (fast_sched (sums := sums) (by simpa using hsum) l _ 0 ⟨by simp, fun i hi => ?_⟩ (fun i _ => Nat.zero_testBit i) (fun x hx => ?_) hs) hi h
  · rw [Array.getElem?_replicate, if_pos (by simpa using hi), Nat.zero_testBit]
  · have := List.all_eq_true.1 hi x hx
    simpa using this
end
end Go.Proofs.Ytohcdnbchidjeaa
