/-
  Tables, plainly: rows of the same members, tables made of them in any order.
-/
import Derived.Test.YtohcdnbchidjeaaTabN
namespace Go.Proofs.Ytohcdnbchidjeaa
def pvsP (l : List KV) : List P3 := l.map pv
theorem asc_ext : ∀ {l m : List KV}, asc l → asc m → (∀ x, x ∈ l ↔ x ∈ m) → l = m
  | [], [], _, _, _ => rfl
  | [], y :: m, _, _, h => by have := (h y).2 List.mem_cons_self; simp at this
  | x :: l, [], _, _, h => by have := (h x).1 List.mem_cons_self; simp at this
  | x :: l, y :: m, hl, hm, h => by
    have hxy : x = y := by
      have h1 := (h x).1 List.mem_cons_self
      have h2 := (h y).2 List.mem_cons_self
      rcases List.mem_cons.1 h1 with h1 | h1
      · exact h1
      · rcases List.mem_cons.1 h2 with h2 | h2
        · exact h2.symm
        · have a := hm.1 x h1
          have b := hl.1 y h2
          rw [klt_asymm a] at b
          cases b
    subst hxy
    have : l = m := asc_ext hl.2 hm.2 fun z => by
      constructor
      · intro hz
        rcases List.mem_cons.1 ((h z).1 (List.mem_cons_of_mem _ hz)) with e | e
        · subst e; have := hl.1 z hz; rw [klt_irrefl] at this; cases this
        · exact e
      · intro hz
        rcases List.mem_cons.1 ((h z).2 (List.mem_cons_of_mem _ hz)) with e | e
        · subst e; have := hm.1 z hz; rw [klt_irrefl] at this; cases this
        · exact e
    rw [this]
theorem mem_putL {k v : ByteArray} {t : List KV} {x : KV} : x ∈ putL k v t ↔ x = (k, v) ∨ (x ∈ t ∧ x.1 ≠ k) := by
  unfold putL
  rw [List.mem_append, List.mem_cons, mem_lo, mem_gt]
  constructor
  · rintro (⟨h1, h2⟩ | h | ⟨h1, h2⟩)
    · exact .inr ⟨h1, klt_ne h2⟩
    · exact .inl h
    · exact .inr ⟨h1, (klt_ne h2).symm⟩
  · rintro (h | ⟨h1, h2⟩)
    · exact .inr (.inl h)
    · cases h3 : klt x.1 k
      · exact .inr (.inr ⟨h1, klt_total h2 h3⟩)
      · exact .inl ⟨h1, rfl⟩
/-- Each key once. -/
def once : List KV → Prop
  | [] => True
  | x :: l => (∀ y ∈ l, y.1 ≠ x.1) ∧ once l
theorem mem_of : ∀ (l t : List KV), once l → ∀ x : KV, x ∈ (pvsP l).foldl (fun t x => putL x.1 x.2.1 t) t ↔ x ∈ l ∨ (x ∈ t ∧ ∀ y ∈ l, y.1 ≠ x.1)
  | [], t, _, x => by simp [pvsP]
  | y :: l, t, h, x => by
    show x ∈ (pvsP l).foldl (fun t x => putL x.1 x.2.1 t) (putL y.1 y.2 t) ↔ _
    rw [mem_of l _ h.2 x, mem_putL]
    constructor
    · rintro (h1 | ⟨h1 | ⟨h1, h2⟩, h3⟩)
      · exact .inl (List.mem_cons_of_mem _ h1)
      · exact .inl (List.mem_cons.2 (.inl h1))
      · exact .inr ⟨h1, fun z hz => by
          rcases List.mem_cons.1 hz with rfl | hz
          · exact h2.symm
          · exact h3 z hz⟩
    · rintro (h1 | ⟨h1, h2⟩)
      · rcases List.mem_cons.1 h1 with rfl | h1
        · exact .inr ⟨.inl rfl, h.1⟩
        · exact .inl h1
      · exact .inr ⟨.inr ⟨h1, (h2 y List.mem_cons_self).symm⟩, fun z hz => h2 z (List.mem_cons_of_mem _ hz)⟩
theorem asc_of : ∀ (l : List P3) (t : List KV), asc t → asc (l.foldl (fun t x => putL x.1 x.2.1 t) t)
  | [], _, h => h
  | _ :: l, _, h => asc_of l _ (asc_putL h)
theorem ofL_same {l L : List KV} (ho : once l) (hL : asc L) (hm : ∀ x, x ∈ l ↔ x ∈ L) : ofL (pvsP l) = L :=
  asc_ext (asc_of _ _ trivial) hL fun x => by
    rw [show x ∈ ofL (pvsP l) ↔ _ from mem_of l [] ho x]
    simp [hm x]
theorem mem_pre' : ∀ (t : Tr) (x : KV), x ∈ t.pre ↔ x ∈ t.flat
  | .nil, x => Iff.rfl
  | .node l k v r, x => by
    simp only [Tr.pre, Tr.flat, List.mem_cons, List.mem_append, mem_pre' l x, mem_pre' r x]
    constructor
    · rintro (h | h | h)
      · exact .inr (.inl h)
      · exact .inl h
      · exact .inr (.inr h)
    · rintro (h | h | h)
      · exact .inr (.inl h)
      · exact .inl h
      · exact .inr (.inr h)
theorem once_app : ∀ {l m : List KV}, once l → once m → (∀ x ∈ l, ∀ y ∈ m, y.1 ≠ x.1) → once (l ++ m)
  | [], m, _, h, _ => h
  | x :: l, m, hl, hm, h => ⟨fun y hy => by
      rcases List.mem_append.1 hy with hy | hy
      · exact hl.1 y hy
      · exact h x List.mem_cons_self y hy, once_app hl.2 hm fun z hz => h z (List.mem_cons_of_mem _ hz)⟩
theorem once_pre : ∀ t : Tr, asc t.flat → once t.pre
  | .nil, _ => trivial
  | .node l k v r, h => by
    obtain ⟨h1, h2, h3, h4, h5⟩ := asc_node.1 (show asc (l.flat ++ (k, v) :: r.flat) from h)
    refine ⟨fun y hy => ?_, once_app (once_pre l h1) (once_pre r h2) fun x hx y hy => ?_⟩
    · rcases List.mem_append.1 hy with hy | hy
      · exact klt_ne (h3 y ((mem_pre' l y).1 hy))
      · exact (klt_ne (h4 y ((mem_pre' r y).1 hy))).symm
    · exact (klt_ne (h5 x ((mem_pre' l x).1 hx) y ((mem_pre' r y).1 hy))).symm
theorem once_asc : ∀ {l : List KV}, asc l → once l
  | [], _ => trivial
  | _ :: _, h => ⟨fun y hy => (klt_ne (h.1 y hy)).symm, once_asc h.2⟩
theorem of_pre {t : Tr} (h : good t) : ofT (pvsP t.pre) = t :=
  good_unique (ofT_good _).1 h ((ofT_good _).2.trans (ofL_same (once_pre t h.1) h.1 (mem_pre' t)))
theorem getL_mem : ∀ {l : List KV} {x : KV}, once l → x ∈ l → getL x.1 l = some x.2
  | y :: l, x, h, hx => by
    rw [getL]
    rcases List.mem_cons.1 hx with rfl | hx
    · rw [if_pos (kbeq_self _)]
    · rw [if_neg (by rw [kbeq_iff]; exact (h.1 x hx).symm), getL_mem h.2 hx]
theorem get_mem {t : Tr} (h : good t) {x : KV} (hx : x ∈ t.flat) : t.get x.1 = some x.2 := by rw [get_flat t x.1 h.1, getL_mem (once_asc h.1) hx]
end Go.Proofs.Ytohcdnbchidjeaa
