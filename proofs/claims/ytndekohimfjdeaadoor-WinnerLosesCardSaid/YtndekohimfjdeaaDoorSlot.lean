/-
  Rows of slots: elements of K cells each: loads, stores, the tail cleared; an own row cut at its head.
-/
import Derived.Test.YtndekohimfjdeaaDoorBase
import Derived.Laws.CopyRow
import Derived.Laws.Rows
namespace Go.Proofs.YtndekohimfjdeaaDoor
open Go.RowKit
section
variable {α : Type} {K : Nat} {enc : α → List Value} (hk : ∀ x, (enc x).length = K)
include hk
theorem flat_len (l : List α) : (l.flatMap enc).length = l.length * K := by
  induction l with
  | nil => simp
  | cons x l ih => rw [List.flatMap_cons, List.length_append, hk, ih, List.length_cons, Nat.succ_mul, Nat.add_comm]
theorem flat_drop (l : List α) : ∀ k, (l.flatMap enc).drop (k * K) = (l.drop k).flatMap enc := by
  induction l with
  | nil => intro k; simp
  | cons x l ih =>
    intro k
    cases k with
    | zero => simp
    | succ k => rw [List.flatMap_cons, List.drop_succ_cons, ← ih k, List.drop_append, hk, List.drop_of_length_le (by rw [hk, Nat.succ_mul]; omega), List.nil_append, Nat.succ_mul, Nat.add_sub_cancel]
theorem flat_take (l : List α) : ∀ k, (l.flatMap enc).take (k * K) = (l.take k).flatMap enc := by
  induction l with
  | nil => intro k; simp
  | cons x l ih =>
    intro k
    cases k with
    | zero => simp
    | succ k => rw [List.flatMap_cons, List.take_succ_cons, List.flatMap_cons, ← ih k, List.take_append, hk, List.take_of_length_le (by rw [hk, Nat.succ_mul]; omega), Nat.succ_mul, Nat.add_sub_cancel]
theorem flat_at (l : List α) {k : Nat} {x : α} (h : l[k]? = some x) {i : Nat} (hi : i < K) : (l.flatMap enc)[k * K + i]? = (enc x)[i]? := by
  have h1 := flat_drop hk l k
  have h2 : (l.drop k).flatMap enc = enc x ++ (l.drop (k + 1)).flatMap enc := by
    obtain ⟨hl, he⟩ := List.getElem?_eq_some_iff.1 h
    rw [List.drop_eq_getElem_cons hl, he, List.flatMap_cons]
  rw [← List.getElem?_drop, h1, h2, List.getElem?_append_left (by rw [hk]; exact hi)]
end
section
variable {P : Program} {w : World}
theorem run_loadVar_slot (ad : Addr) (ty : TypeId) (vs : List Value) (d : TypeDesc) (hc : ∀ j v, vs[j]? = some v → w.cell? (ad.add j) = some v)
    (hu : P.underlying ty = some d) (hd : (match d with | .struct _ | .array _ _ => true | _ => false) = true) (hi : (P.info? ty).map (·.size) = some vs.length) :
    (loadVar ty ad).run P w = .ok (.agg vs.toArray) w := by
  have hl := run_loadCells_list (P := P) w ad vs hc
  cases hq : P.info? ty with
  | none => simp [hq] at hi
  | some i =>
    have hs : i.size = vs.length := by simpa [hq] using hi
    have hagg : (isAgg ty).run P w = .ok true w := by
      unfold isAgg
      rw [Sem.run_bind, run_underlying hu w]
      cases d <;> simp_all
    simp [loadVar, Sem.run_bind, hagg, sizeOf, typeInfo, hq, hs, hl]
theorem exec_load_slot {ρ : Operand → Value} {o : Oper} (ty : TypeId) (x : Operand) (ho : o.op = .load ty x) (ad : Addr) (hx : ρ x = .pointer (some ad)) (vs : List Value) (d : TypeDesc)
    (hc : ∀ j v, vs[j]? = some v → w.cell? (ad.add j) = some v)
    (hu : P.underlying ty = some d) (hd : (match d with | .struct _ | .array _ _ => true | _ => false) = true) (hi : (P.info? ty).map (·.size) = some vs.length) :
    (execOp ρ o).run P w = .ok (.value (.agg vs.toArray)) w := by
  unfold execOp
  simp only [ho, hx, Instr.loadAt, Instr.sureAddr, Sem.run_bind, Sem.run_pure, Result.andThen_ok, run_loadVar_slot ad ty vs d hc hu hd hi]
theorem wpList_load_slot {ops : Array Oper} {rest : List Oper} {o : Oper} {a : Act} {Q : Exit → Act → World → Prop} (hw : Region.wanted o (yielded ops a.tmps) = true) (ty : TypeId) (x : Operand) (ho : o.op = .load ty x)
    (ad : Addr) (hx : a.eval x = .pointer (some ad)) (vs : List Value) (d : TypeDesc) (hc : ∀ j v, vs[j]? = some v → w.cell? (ad.add j) = some v)
    (hu : P.underlying ty = some d) (hd : (match d with | .struct _ | .array _ _ => true | _ => false) = true) (hi : (P.info? ty).map (·.size) = some vs.length)
    (h : wpList P ops Q rest (a.put o.dst (.agg vs.toArray)) w) : wpList P ops Q (o :: rest) a w := by
  rw [wpList, if_pos hw]
  refine .inl ?_
  unfold Oper.wp
  rw [exec_load_slot ty x ho ad hx vs d hc hu hd hi]
  exact h
theorem seg_row {L vs : List Value} {o : Nat} (h : o + vs.length ≤ L.length) : (L.take o ++ vs ++ L.drop (o + vs.length)).length = L.length := by simp; omega
theorem seg_take {L vs : List Value} {o c n : Nat} (hv : vs.length = c) (h1 : o + c ≤ n) (h2 : n ≤ L.length) :
    (L.take o ++ vs ++ L.drop (o + c)).take n = (L.take n).take o ++ vs ++ (L.take n).drop (o + c) := by
  rw [List.take_append, List.take_of_length_le (by simp; omega), List.take_take, Nat.min_eq_left (show o ≤ n by omega), List.drop_take]
  congr 2
  simp
  omega
/-- A whole slot is written. -/
theorem run_store_own {base n cap g k K : Nat} {e ty : TypeId} {xs vs : List Value} (hown : w.ownsRow base e K (.slice (some ⟨g, 0, none⟩) n cap) n xs) (hk : k < n) (hl : vs.length = K) (h1 : ∀ v ∈ vs, v.oneCell' = true)
    (hi : (P.info? ty).map (·.size) = some K) :
    ∃ w', (storeVar ty ⟨g, k * K, none⟩ (.agg vs.toArray)).run P w = .ok () w' ∧ w'.ownsRow base e K (.slice (some ⟨g, 0, none⟩) n cap) n (xs.take (k * K) ++ vs ++ xs.drop (k * K + K)) ∧ w.grownBy w' (some g) ∧ w'.heap.size = w.heap.size := by
  rcases hown.2 with ⟨h, _⟩ | ⟨g', cap', cur, h, hbg, hg, hnc, hcm, hcs, htake⟩
  · simp at h
  · simp only [Value.slice.injEq, Option.some.injEq, Addr.mk.injEq, and_true, true_and] at h
    obtain ⟨rfl, rfl⟩ := h
    have hkn : k * K + K ≤ n * K := by rw [← Nat.succ_mul]; exact Nat.mul_le_mul_right _ hk
    have hnk : n * K ≤ cap * K := Nat.mul_le_mul_right _ hnc
    have hst := run_storeCells_at P g (k * K) e vs 0 cur w hg (by rw [hl, hcs]; omega) h1
    simp only [Nat.add_zero] at hst
    cases hq : P.info? ty with
    | none => simp [hq] at hi
    | some i =>
      have hs : i.size = K := by simpa [hq] using hi
      rw [hl] at hst
      have hrun : (storeVar ty ⟨g, k * K, none⟩ (.agg vs.toArray)).run P w = .ok () (w.setRow g (cur.toList.take (k * K) ++ vs ++ cur.toList.drop (k * K + K)).toArray) := by
        simpa [storeVar, sizeOf, typeInfo, hq, Value.cells, hs, hl] using hst
      refine ⟨_, hrun, ⟨?_, .inr ⟨g, cap, _, rfl, hbg, setRow_heap w g cur _ e _ hg, hnc, hcm, ?_, ?_⟩⟩, ⟨rfl, rfl, rfl, by simp, fun j _ hj => setRow_other w g j _ (fun e => hj (by simp [e]))⟩, by simp⟩
      · have := seg_row (L := xs) (vs := vs) (o := k * K) (by rw [hl, hown.1]; exact hkn)
        rw [hl] at this
        rw [this, hown.1]
      · have := seg_row (L := cur.toList) (vs := vs) (o := k * K) (by rw [hl, Array.length_toList, hcs]; omega)
        rw [hl] at this
        rw [List.size_toArray, this, Array.length_toList, hcs]
      · rw [← htake]
        exact seg_take hl hkn (by rw [Array.length_toList, hcs]; exact hnk)
theorem wpList_store_own {ops : Array Oper} {rest : List Oper} {o : Oper} {a : Act} {Q : Exit → Act → World → Prop} (hw : Region.wanted o (yielded ops a.tmps) = true) (ty : TypeId) (x y : Operand) (ho : o.op = .store ty x y)
    (base n cap g k K : Nat) (e : TypeId) (xs vs : List Value) (hx : a.eval x = .pointer (some ⟨g, k * K, none⟩)) (hy : a.eval y = .agg vs.toArray)
    (hown : w.ownsRow base e K (.slice (some ⟨g, 0, none⟩) n cap) n xs) (hk : k < n) (hl : vs.length = K) (h1 : ∀ v ∈ vs, v.oneCell' = true) (hi : (P.info? ty).map (·.size) = some K)
    (h : ∀ w', w'.ownsRow base e K (.slice (some ⟨g, 0, none⟩) n cap) n (xs.take (k * K) ++ vs ++ xs.drop (k * K + K)) → w.grownBy w' (some g) → w'.heap.size = w.heap.size → wpList P ops Q rest (a.put o.dst undef) w') : wpList P ops Q (o :: rest) a w := by
  obtain ⟨w', hr, h2, h3, h4⟩ := run_store_own (P := P) (ty := ty) hown hk hl h1 hi
  rw [wpList, if_pos hw]
  refine .inl ?_
  unfold Oper.wp execOp
  simp only [ho, hx, hy, Instr.storeAt, Instr.sureAddr, Sem.run_bind, Sem.run_pure, Result.andThen_ok, hr]
  exact h w' h2 h3 h4
/-- What lies behind an own row is cleared; the row stands. -/
theorem run_clear_own {base cap g m q K : Nat} {t e ty : TypeId} {z : Value} {xs : List Value} (ht : P.underlying t = some (.slice e)) (hz : ∀ w, (zeroValue e).run P w = .ok z w) (hzs : z.cells.size = K) (hK : 0 < K) (hz1 : ∀ v ∈ z.cells.toList, v.oneCell' = true)
    (hown : w.ownsRow base e K (.slice (some ⟨g, 0, none⟩) m cap) m xs) (hm : m + q ≤ cap) (A : Option Addr) (hA : 0 < q → A = some ⟨g, m * K, none⟩) (c : Nat) :
    ∃ w', (Builtin.clear_ #[t] ty #[.slice A q c]).run P w = .ok (.tuple #[]) w' ∧ w'.ownsRow base e K (.slice (some ⟨g, 0, none⟩) m cap) m xs ∧ w.grownBy w' (some g) ∧ w'.heap.size = w.heap.size := by
  rcases q with _ | q
  · exact ⟨w, by cases A <;> simp [Builtin.clear_, run_underlying ht], hown, World.grownBy.refl w _, rfl⟩
  obtain rfl := hA (Nat.succ_pos _)
  rcases hown.2 with ⟨h, _⟩ | ⟨g', cap', cur, h, hbg, hg, hnc, hcm, hcs, htake⟩
  · simp at h
  · simp only [Value.slice.injEq, Option.some.injEq, Addr.mk.injEq, and_true, true_and] at h
    obtain ⟨rfl, rfl⟩ := h
    have hmk : m * K + (q + 1) * K ≤ cap * K := by rw [← Nat.add_mul]; exact Nat.mul_le_mul_right _ hm
    have hzl : (Builtin.zeroCells z.cells (q + 1)).toList.length = (q + 1) * K := by rw [Array.length_toList, size_zeroCells, hzs]
    have hst := run_storeCells_at P g (m * K) e (Builtin.zeroCells z.cells (q + 1)).toList 0 cur w hg (by rw [hzl, hcs]; omega) (fun v hv => by
      simp only [Builtin.zeroCells, Array.toList_map, List.mem_map] at hv
      obtain ⟨i, _, rfl⟩ := hv
      have hlt : i % z.cells.size < z.cells.size := Nat.mod_lt _ (by omega)
      rw [getElem!_pos z.cells _ hlt]
      exact hz1 _ (by rw [← Array.getElem_toList]; exact List.getElem_mem _))
    simp only [Nat.add_zero] at hst
    have hrun : (Builtin.clear_ #[t] ty #[.slice (some ⟨g, m * K, none⟩) (q + 1) c]).run P w = .ok (.tuple #[]) (w.setRow g (cur.toList.take (m * K) ++ (Builtin.zeroCells z.cells (q + 1)).toList ++ cur.toList.drop (m * K + (Builtin.zeroCells z.cells (q + 1)).toList.length)).toArray) := by
      simp only [Builtin.clear_, List.getElem?_toArray, List.getElem?_cons_zero, Sem.run_bind, Sem.run_pure, Result.andThen_ok, run_underlying ht, hz, hst]
    refine ⟨_, hrun, ⟨hown.1, .inr ⟨g, cap, _, rfl, hbg, setRow_heap w g cur _ e _ hg, hnc, hcm, ?_, ?_⟩⟩, ⟨rfl, rfl, rfl, by simp, fun j _ hj => setRow_other w g j _ (fun e => hj (by simp [e]))⟩, by simp⟩
    · have := seg_row (L := cur.toList) (vs := (Builtin.zeroCells z.cells (q + 1)).toList) (o := m * K) (by rw [hzl, Array.length_toList, hcs]; exact hmk)
      rw [List.size_toArray, this, Array.length_toList, hcs]
    · rw [← htake, List.append_assoc, List.take_append_of_le_length (by rw [List.length_take, Array.length_toList, hcs]; omega), List.take_take, Nat.min_self]
theorem wpList_clear_own {ops : Array Oper} {rest : List Oper} {o : Oper} {a : Act} {Q : Exit → Act → World → Prop} (hw : Region.wanted o (yielded ops a.tmps) = true) (x : Operand) (t : TypeId)
    (ho : o.op = .call { callee := .builtin .clear, args := #[x], argTypes := #[t] }) (base cap g m q K : Nat) (e : TypeId) (z : Value) (xs : List Value) (A : Option Addr) (c : Nat) (hx : a.eval x = .slice A q c) (hA : 0 < q → A = some ⟨g, m * K, none⟩)
    (ht : P.underlying t = some (.slice e)) (hz : ∀ w, (zeroValue e).run P w = .ok z w) (hzs : z.cells.size = K) (hK : 0 < K) (hz1 : ∀ v ∈ z.cells.toList, v.oneCell' = true)
    (hown : w.ownsRow base e K (.slice (some ⟨g, 0, none⟩) m cap) m xs) (hm : m + q ≤ cap)
    (h : ∀ w', w'.ownsRow base e K (.slice (some ⟨g, 0, none⟩) m cap) m xs → w.grownBy w' (some g) → w'.heap.size = w.heap.size → wpList P ops Q rest (a.put o.dst (.tuple #[])) w') : wpList P ops Q (o :: rest) a w := by
  obtain ⟨w', hr, h2, h3, h4⟩ := run_clear_own (P := P) (ty := o.type) ht hz hzs hK hz1 hown hm A hA c
  rw [wpList, if_pos hw]
  refine .inl ?_
  unfold Oper.wp execOp
  simp only [ho, resolve, invoke, builtin, Sem.run_bind, Sem.run_pure, Result.andThen_ok, List.map_toArray, List.map_cons, List.map_nil, hx, hr]
  exact h w' h2 h3 h4
/-- An append that fits, of what lies anywhere (of the row itself, too). -/
theorem wp_append_fits {o : Oper} {a : Act} {K : Act → World → Prop} {Q : Exit → Act → World → Prop} (s x : Operand) (t : TypeId) (ho : o.op = .call { callee := .builtin .append, args := #[s, x], argTypes := #[t, t] })
    (base : Nat) (e : TypeId) (i : TypeInfo) (size : Nat) (ht : P.underlying t = some (.slice e)) (hi : P.info? e = some i) (hsize : i.size = size)
    (g n cap : Nat) (xs : List Value) (hs : a.eval s = .slice (some ⟨g, 0, none⟩) n cap) (hown : w.ownsRow base e size (.slice (some ⟨g, 0, none⟩) n cap) n xs)
    (ad : Addr) (m c : Nat) (news : List Value) (hx : a.eval x = .slice (some ad) m c) (hl : news.length = m * size) (hnews : ∀ j u, news[j]? = some u → w.cell? (ad.add j) = some u) (h1 : ∀ u ∈ news, u.oneCell' = true)
    (hroom : n + m ≤ cap) (h : ∀ w', w'.ownsRow base e size (.slice (some ⟨g, 0, none⟩) (n + m) cap) (n + m) (xs ++ news) → w.grownBy w' (some g) → K (a.put o.dst (.slice (some ⟨g, 0, none⟩) (n + m) cap)) w') : o.wp P a w K Q := by
  obtain ⟨w', hr, h2, h3⟩ := run_append_fits (P := P) w base t o.type e i size ht hi hsize g n cap xs hown ad m c news hl hnews h1 hroom
  unfold Oper.wp execOp
  simp only [ho, resolve, invoke, builtin, Sem.run_bind, Sem.run_pure, Result.andThen_ok, List.map_toArray, List.map_cons, List.map_nil, hs, hx, hr]
  exact h w' h2 h3
/-- The head of an own row is one. -/
theorem own_head {base n cap g m K : Nat} {e : TypeId} {xs : List Value} (hown : w.ownsRow base e K (.slice (some ⟨g, 0, none⟩) n cap) n xs) (hm : m ≤ n) : w.ownsRow base e K (.slice (some ⟨g, 0, none⟩) m cap) m (xs.take (m * K)) := by
  have hmk : m * K ≤ n * K := Nat.mul_le_mul_right _ hm
  refine ⟨by rw [List.length_take, hown.1]; omega, ?_⟩
  rcases hown.2 with ⟨h, _⟩ | ⟨g', cap', cur, h, hbg, hg, hnc, hcm, hcs, htake⟩
  · simp at h
  · simp only [Value.slice.injEq, Option.some.injEq, Addr.mk.injEq, and_true, true_and] at h
    obtain ⟨rfl, rfl⟩ := h
    exact .inr ⟨g, cap, cur, rfl, hbg, hg, by omega, hcm, hcs, by rw [← htake, List.take_take, Nat.min_eq_left hmk]⟩
end
end Go.Proofs.YtndekohimfjdeaaDoor
