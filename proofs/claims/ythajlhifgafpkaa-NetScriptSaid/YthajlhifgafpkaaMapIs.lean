/-
  Maps with keys of any kind (integers, arrays, structs): a block that reads as a list of keys and values; look-up, store, removal, length.
-/
import Derived.Test.YthajlhifgafpkaaBase
import Derived.WideKeyArr
import Derived.DeepKeys4
import Derived.Maps.Own
import Derived.Maps.OwnOps
import Derived.Maps.OwnSet
namespace Go.Proofs.Ythajlhifgafpkaa
open Go.RowKit Go.MapKept Go.ChangeMaps
open Go.Maps (Keyed)
section
variable {α β : Type} [DecidableEq α]
def aget (k : α) : List (α × β) → Option β
  | [] => none
  | x :: l => if x.1 = k then some x.2 else aget k l
def aput (k : α) (v : β) : List (α × β) → List (α × β)
  | [] => [(k, v)]
  | x :: l => if x.1 = k then (k, v) :: l else x :: aput k v l
def adel (k : α) : List (α × β) → List (α × β)
  | [] => []
  | x :: l => if x.1 = k then l else x :: adel k l
theorem aget_none {k : α} : ∀ {l : List (α × β)}, (∀ x ∈ l, x.1 ≠ k) → aget k l = none
  | [], _ => rfl
  | x :: l, h => by rw [aget, if_neg (h x List.mem_cons_self), aget_none fun y hy => h y (List.mem_cons_of_mem _ hy)]
theorem aget_some {k : α} : ∀ {l : List (α × β)} {v : β}, aget k l = some v → (k, v) ∈ l
  | [], _, h => by simp [aget] at h
  | x :: l, v, h => by
    rw [aget] at h
    split at h
    · rename_i e
      injection h with h
      subst e; subst h
      exact List.mem_cons_self
    · exact List.mem_cons_of_mem _ (aget_some h)
theorem aget_at {k : α} : ∀ {l : List (α × β)} {j : Nat} {v : β}, l.Pairwise (fun x y => x.1 ≠ y.1) → l[j]? = some (k, v) → aget k l = some v
  | [], _, _, _, h => by simp at h
  | x :: l, 0, v, _, h => by
    simp only [List.getElem?_cons_zero, Option.some.injEq] at h
    subst h
    simp [aget]
  | x :: l, j + 1, v, hp, h => by
    rw [List.getElem?_cons_succ] at h
    rw [List.pairwise_cons] at hp
    rw [aget, if_neg (hp.1 _ (List.mem_of_getElem? h)), aget_at hp.2 h]
theorem aput_none {k : α} {v : β} : ∀ {l : List (α × β)}, (∀ x ∈ l, x.1 ≠ k) → aput k v l = l ++ [(k, v)]
  | [], _ => rfl
  | x :: l, h => by rw [aput, if_neg (h x List.mem_cons_self), aput_none fun y hy => h y (List.mem_cons_of_mem _ hy)]; rfl
theorem aput_at {k : α} {v u : β} : ∀ {l : List (α × β)} {j : Nat}, l.Pairwise (fun x y => x.1 ≠ y.1) → l[j]? = some (k, u) → aput k v l = l.set j (k, v)
  | [], _, _, h => by simp at h
  | x :: l, 0, _, h => by
    simp only [List.getElem?_cons_zero, Option.some.injEq] at h
    subst h
    simp [aput]
  | x :: l, j + 1, hp, h => by
    rw [List.getElem?_cons_succ] at h
    rw [List.pairwise_cons] at hp
    rw [aput, if_neg (hp.1 _ (List.mem_of_getElem? h)), aput_at hp.2 h, List.set_cons_succ]
theorem adel_none {k : α} : ∀ {l : List (α × β)}, (∀ x ∈ l, x.1 ≠ k) → adel k l = l
  | [], _ => rfl
  | x :: l, h => by rw [adel, if_neg (h x List.mem_cons_self), adel_none fun y hy => h y (List.mem_cons_of_mem _ hy)]
theorem adel_at {k : α} {u : β} : ∀ {l : List (α × β)} {j : Nat}, l.Pairwise (fun x y => x.1 ≠ y.1) → l[j]? = some (k, u) → adel k l = l.eraseIdx j
  | [], _, _, h => by simp at h
  | x :: l, 0, _, h => by
    simp only [List.getElem?_cons_zero, Option.some.injEq] at h
    subst h
    simp [adel]
  | x :: l, j + 1, hp, h => by
    rw [List.getElem?_cons_succ] at h
    rw [List.pairwise_cons] at hp
    rw [adel, if_neg (hp.1 _ (List.mem_of_getElem? h)), adel_at hp.2 h]
    rfl
theorem mem_aput {k : α} {v : β} : ∀ {l : List (α × β)} {y : α × β}, y ∈ aput k v l → y = (k, v) ∨ y ∈ l
  | [], y, h => by simpa [aput] using h
  | x :: l, y, h => by
    rw [aput] at h
    split at h
    · rcases List.mem_cons.1 h with h | h
      · exact .inl h
      · exact .inr (List.mem_cons_of_mem _ h)
    · rcases List.mem_cons.1 h with h | h
      · exact .inr (h ▸ List.mem_cons_self)
      · rcases mem_aput h with h | h
        · exact .inl h
        · exact .inr (List.mem_cons_of_mem _ h)
theorem aput_pair {k : α} {v : β} : ∀ {l : List (α × β)}, l.Pairwise (fun x y => x.1 ≠ y.1) → (aput k v l).Pairwise (fun x y => x.1 ≠ y.1)
  | [], _ => by simp [aput]
  | x :: l, h => by
    rw [List.pairwise_cons] at h
    rw [aput]
    split
    · rename_i e
      rw [List.pairwise_cons]
      exact ⟨fun y hy => e ▸ h.1 y hy, h.2⟩
    · rename_i e
      rw [List.pairwise_cons]
      refine ⟨fun y hy => ?_, aput_pair h.2⟩
      rcases mem_aput hy with rfl | hy
      · exact e
      · exact h.1 y hy
theorem aget_aput (k q : α) (v : β) : ∀ l : List (α × β), aget q (aput k v l) = if k = q then some v else aget q l
  | [] => by simp [aput, aget]
  | x :: l => by
    rw [aput]
    split
    · rename_i e
      subst e
      rw [aget, aget]
      split <;> simp_all
    · rename_i e
      rw [aget, aget, aget_aput k q v l]
      split
      · rename_i e2
        rw [if_neg (fun e3 => e (e2.trans e3.symm))]
      · rfl
theorem adel_sub {k : α} : ∀ {l : List (α × β)}, (adel k l).Sublist l
  | [] => .slnil
  | x :: l => by
    rw [adel]
    split
    · exact List.sublist_cons_self _ _
    · exact adel_sub.cons_cons _
theorem aget_adel (k q : α) : ∀ {l : List (α × β)}, l.Pairwise (fun x y => x.1 ≠ y.1) → aget q (adel k l) = if k = q then none else aget q l
  | [], _ => by simp [adel, aget]
  | x :: l, h => by
    rw [List.pairwise_cons] at h
    rw [adel]
    split
    · rename_i e
      subst e
      rw [aget]
      split
      · rename_i e2
        rw [aget_none fun y hy => e2 ▸ (h.1 y hy).symm]
      · rfl
    · rename_i e
      rw [aget, aget, aget_adel k q h.2]
      split
      · rename_i e2
        rw [if_neg (fun e3 => e (e2.trans e3.symm))]
      · rfl
end
section
variable {P : Program} {k e t : TypeId} {α β : Type} [DecidableEq α] {ek : α → Value} {ev : β → Value} {w w' : World} {b : Nat} {l : List (α × β)}
/-- Block b is a map that reads as the list l. -/
def MapIs (P : Program) (k : TypeId) (ek : α → Value) (ev : β → Value) (w : World) (b : Nat) (l : List (α × β)) : Prop :=
  ∃ es clock, w.heap[b]? = some (.map es clock) ∧ es.toList.map (fun x => (x.key, x.val)) = l.map (fun x => (ek x.1, ev x.2)) ∧ (∀ x ∈ l, ∃ q, keyOf P k (ek x.1) = some q) ∧ l.Pairwise (fun x y => x.1 ≠ y.1)
omit [DecidableEq α] in
theorem MapIs.made (w : World) : MapIs P k ek ev (w.alloc (.map #[] 0)) w.heap.size ([] : List (α × β)) :=
  ⟨#[], 0, (MapKept.heap_alloc w _).1, rfl, by simp, List.Pairwise.nil⟩
omit [DecidableEq α] in
theorem MapIs.keep (h : MapIs P k ek ev w b l) (hb : w'.heap[b]? = w.heap[b]?) : MapIs P k ek ev w' b l := by
  obtain ⟨es, clock, h1, h2⟩ := h
  exact ⟨es, clock, hb.trans h1, h2⟩
omit [DecidableEq α] in
theorem MapIs.lt (h : MapIs P k ek ev w b l) : b < w.heap.size := by
  obtain ⟨es, clock, hb, _⟩ := h
  exact (Array.getElem?_eq_some_iff.1 hb).1
omit [DecidableEq α] in
theorem MapIs.pair (h : MapIs P k ek ev w b l) : l.Pairwise (fun x y => x.1 ≠ y.1) := by
  obtain ⟨_, _, _, _, _, h⟩ := h
  exact h
omit [DecidableEq α] in
theorem mapIs_find (K : Keyed P k) (hinj : ∀ x y : α, ek x = ek y → x = y) {es : Array MapEntry} (hm : es.toList.map (fun x => (x.key, x.val)) = l.map (fun x => (ek x.1, ev x.2))) (hk : ∀ x ∈ l, ∃ q, keyOf P k (ek x.1) = some q)
    (w : World) {x : α} {q : Lit} (hx : keyOf P k (ek x) = some q) :
    ((Instr.findKey k (ek x) es.toList).run P w = .ok none w ∧ ∀ y ∈ l, y.1 ≠ x) ∨ ∃ (j : Nat) (e0 : MapEntry) (u : β), (Instr.findKey k (ek x) es.toList).run P w = .ok (some (j, ev u)) w ∧ es.toList[j]? = some e0 ∧ e0.key = ek x ∧ e0.val = ev u ∧ l[j]? = some (x, u) := by
  have hkeys : ∀ y ∈ es.toList, ∃ q, keyOf P k y.key = some q := fun y hy => by
    have : (y.key, y.val) ∈ es.toList.map (fun x => (x.key, x.val)) := List.mem_map_of_mem hy
    rw [hm] at this
    obtain ⟨z, hz, he⟩ := List.mem_map.1 this
    obtain ⟨q, hq⟩ := hk z hz
    injection he with h1 h2
    exact ⟨q, h1 ▸ hq⟩
  rcases K.find w hx es.toList hkeys with ⟨h1, h2⟩ | ⟨j, e0, h1, h2, h3⟩
  · refine .inl ⟨h1, fun y hy e => ?_⟩
    have : (ek y.1, ev y.2) ∈ l.map (fun x => (ek x.1, ev x.2)) := List.mem_map.2 ⟨y, hy, rfl⟩
    rw [← hm] at this
    obtain ⟨z, hz, he⟩ := List.mem_map.1 this
    injection he with h4 h5
    exact h2 z hz (h4.trans (by rw [e]))
  · have h4 : (es.toList.map (fun x => (x.key, x.val)))[j]? = some (e0.key, e0.val) := by rw [List.getElem?_map, h2]; rfl
    rw [hm, List.getElem?_map] at h4
    cases hl : l[j]? with
    | none => rw [hl] at h4; cases h4
    | some y =>
      rw [hl] at h4
      simp only [Option.map_some, Option.some.injEq, Prod.mk.injEq] at h4
      obtain ⟨y1, y2⟩ := y
      have : y1 = x := hinj _ _ (h4.1.trans h3)
      subst this
      exact .inr ⟨j, e0, y2, by rw [h1, ← h4.2], h2, h3, h4.2.symm, hl⟩
theorem MapIs.look (h : MapIs P k ek ev w b l) (K : Keyed P k) (hinj : ∀ x y : α, ek x = ek y → x = y) (ht : P.underlying t = some (.map k e)) {z : Value} (hz : (zeroValue e).run P w = .ok z w) (c : Bool) {x : α} {q : Lit} (hx : keyOf P k (ek x) = some q) :
    (Instr.lookup t (.map (some b)) (ek x) c).run P w = .ok (if c then .tuple #[((aget x l).map ev).getD z, .bool (aget x l).isSome] else ((aget x l).map ev).getD z) w := by
  obtain ⟨es, clock, hb, hm, hk, hp⟩ := h
  rcases mapIs_find K hinj hm hk w hx with ⟨h1, h2⟩ | ⟨j, e0, u, h1, h2, h3, h4, h5⟩
  · rw [aget_none h2]
    cases c <;> simp [Instr.lookup, run_underlying ht, MapKept.run_getObj_map hb, K.check w _ hx, h1, hz, Result.andThen]
  · rw [aget_at hp h5]
    cases c <;> simp [Instr.lookup, run_underlying ht, MapKept.run_getObj_map hb, K.check w _ hx, h1, Result.andThen]
theorem look_nil (K : Keyed P k) (ht : P.underlying t = some (.map k e)) {z : Value} (hz : (zeroValue e).run P w = .ok z w) (c : Bool) {key : Value} {q : Lit} (hx : keyOf P k key = some q) :
    (Instr.lookup t (.map none) key c).run P w = .ok (if c then .tuple #[z, .bool false] else z) w := Maps.look_nil c K ht hz hx
theorem MapIs.store (h : MapIs P k ek ev w b l) (K : Keyed P k) (hinj : ∀ x y : α, ek x = ek y → x = y) (ht : P.underlying t = some (.map k e)) {x : α} {q : Lit} (hx : keyOf P k (ek x) = some q) (v : β) :
    ∃ w', (Instr.mapUpdate t (.map (some b)) (ek x) (ev v)).run P w = .ok () w' ∧ MapIs P k ek ev w' b (aput x v l) ∧ w.grownBy w' (some b) ∧ w'.heap.size = w.heap.size := by
  obtain ⟨es, clock, hb, hm, hk, hp⟩ := h
  have hg : ∀ es' clock', w.grownBy (setBlock w b (.map es' clock')) (some b) := fun es' clock' => ⟨rfl, rfl, rfl, by simp [setBlock], fun i _ hi => heap_setBlock_other hb _ (fun e => hi (by rw [e]))⟩
  have hK' : ∀ y ∈ aput x v l, ∃ q, keyOf P k (ek y.1) = some q := fun y hy => by
    rcases mem_aput hy with rfl | hy
    · exact ⟨q, hx⟩
    · exact hk y hy
  rcases mapIs_find K hinj hm hk w hx with ⟨h1, h2⟩ | ⟨j, e0, u, h1, h2, h3, h4, h5⟩
  · refine ⟨setBlock w b (.map (es.push ⟨ek x, ev v, clock⟩) (clock + 1)), ?_, ⟨_, _, heap_setBlock_same hb _, ?_, hK', aput_pair hp⟩, hg _ _, by simp [setBlock]⟩
    · simp [Instr.mapUpdate, run_underlying ht, MapKept.run_getObj_map hb, K.check w false hx, h1, MapKept.run_setObj_map _ hb, Result.andThen, setBlock]
    · rw [aput_none h2, Array.toList_push, List.map_append, hm, List.map_append]; rfl
  · have hjs : j < es.size := by simpa using (List.getElem?_eq_some_iff.1 h2).1
    have hej : es[j]? = some e0 := by rw [← Array.getElem?_toList]; exact h2
    refine ⟨setBlock w b (.map (es.modify j fun e => { e with key := ek x, val := ev v }) clock), ?_, ⟨_, _, heap_setBlock_same hb _, ?_, hK', aput_pair hp⟩, hg _ _, by simp [setBlock]⟩
    · simp [Instr.mapUpdate, run_underlying ht, MapKept.run_getObj_map hb, K.check w false hx, h1, MapKept.run_setObj_map _ hb, Result.andThen, setBlock, hej, h3, K.stays w hx]
    · rw [aput_at hp h5, List.map_set, ← hm]
      apply List.ext_getElem?
      intro i
      rw [List.getElem?_map, List.getElem?_set, Array.getElem?_toList, Array.getElem?_modify, List.length_map, List.getElem?_map, Array.getElem?_toList]
      by_cases hi : j = i
      · subst hi
        simp [hjs, Array.length_toList]
      · simp [hi]
theorem MapIs.drop (h : MapIs P k ek ev w b l) (K : Keyed P k) (hinj : ∀ x y : α, ek x = ek y → x = y) (ht : P.underlying t = some (.map k e)) {x : α} {q : Lit} (hx : keyOf P k (ek x) = some q) (ty : TypeId) :
    ∃ w', (Builtin.delete_ #[t, k] ty #[.map (some b), ek x]).run P w = .ok (.tuple #[]) w' ∧ MapIs P k ek ev w' b (adel x l) ∧ w.grownBy w' (some b) ∧ w'.heap.size = w.heap.size := by
  obtain ⟨es, clock, hb, hm, hk, hp⟩ := h
  have hg : ∀ es' clock', w.grownBy (setBlock w b (.map es' clock')) (some b) := fun es' clock' => ⟨rfl, rfl, rfl, by simp [setBlock], fun i _ hi => heap_setBlock_other hb _ (fun e => hi (by rw [e]))⟩
  have hK' : ∀ y ∈ adel x l, ∃ q, keyOf P k (ek y.1) = some q := fun y hy => hk y (adel_sub.subset hy)
  rcases mapIs_find K hinj hm hk w hx with ⟨h1, h2⟩ | ⟨j, e0, u, h1, h2, h3, h4, h5⟩
  · refine ⟨setBlock w b (.map es clock), ?_, ⟨_, _, heap_setBlock_same hb _, ?_, hK', hp.sublist adel_sub⟩, hg _ _, by simp [setBlock]⟩
    · simp [Builtin.delete_, run_underlying ht, MapKept.run_getObj_map hb, K.check w _ hx, h1, MapKept.run_setObj_map _ hb, Result.andThen, setBlock]
    · rw [adel_none h2, hm]
  · have hjl : j < es.toList.length := (List.getElem?_eq_some_iff.1 h2).1
    have hjs : j < es.size := by simpa using hjl
    have hsub : (es.eraseIdxIfInBounds j).toList = es.toList.eraseIdx j := by
      unfold Array.eraseIdxIfInBounds
      rw [dif_pos hjs]
      simp
    refine ⟨setBlock w b (.map (es.eraseIdxIfInBounds j) clock), ?_, ⟨_, _, heap_setBlock_same hb _, ?_, hK', hp.sublist adel_sub⟩, hg _ _, by simp [setBlock]⟩
    · simp [Builtin.delete_, run_underlying ht, MapKept.run_getObj_map hb, K.check w _ hx, h1, MapKept.run_setObj_map _ hb, Result.andThen, setBlock]
    · rw [adel_at hp h5, hsub]
      have e1 : ∀ {γ δ : Type} (f : γ → δ) (l : List γ) (i : Nat), (l.eraseIdx i).map f = (l.map f).eraseIdx i := fun f l i => by
        induction l generalizing i with
        | nil => rfl
        | cons a l ih => cases i <;> simp [ih]
      rw [e1, hm, e1]
end
end Go.Proofs.Ythajlhifgafpkaa
