/-
  Matrices: what the reference's Apply needs beside its walk.
-/
import Derived.Test.YtikegnnlmfidfaaMatCa
import Derived.Test.YtikegnnlmfidfaaMatJ
import Derived.Test.YtikegnnlmfidfaaTextG
namespace Go.Proofs.Ytikegnnlmfidfaa
open Go.RowKit
/-- The reference's place of a number that is not there is the program's. -/
theorem insR_lb {d : Int} : ∀ {l : List Int}, ¬ d ∈ l → insR d l = l.take (lbI d l) ++ d :: l.drop (lbI d l)
  | [], _ => rfl
  | x :: l, h => by
    have hx : x ≠ d := fun e => h (e ▸ List.mem_cons_self)
    have hl : ¬ d ∈ l := fun e => h (List.mem_cons_of_mem _ e)
    have ih := insR_lb (d := d) (l := l) hl
    unfold insR lbI at ih ⊢
    by_cases hlt : x < d
    · rw [List.takeWhile_cons_of_pos (by simp; omega), List.dropWhile_cons_of_pos (by simp; omega), List.takeWhile_cons_of_pos (by simp; omega)]
      simp only [List.length_cons, List.take_succ_cons, List.drop_succ_cons, List.cons_append]
      rw [ih]
    · rw [List.takeWhile_cons_of_neg (by simp; omega), List.dropWhile_cons_of_neg (by simp; omega), List.takeWhile_cons_of_neg (by simp; omega)]
      rfl
section
variable {V V0 : World} {base n c : Nat} {rs : List Rw}
/-- One row's slice put in the place of the other one. -/
theorem OwnM.put {g i : Nat} {r : Rw} (h : OwnM V0 base (some ⟨g, 0, none⟩) n c rs) (hV : Below V0.heap.size V0 V) (hbz : base ≤ V0.heap.size) (hi : rs[i]? = some r) {a' : Option Addr} {n' c' : Nat} {ds' : List Int} (ho : IOwn V V0.heap.size a' n' c' ds') :
    OwnM (V.setCell ⟨g, i * 2 + 1, none⟩ (.slice a' n' c')) base (some ⟨g, 0, none⟩) n c (rs.take i ++ ⟨r.f, a', n', c', ds'⟩ :: rs.drop (i + 1)) ∧ V.cell? ⟨g, i * 2 + 1, none⟩ = some (.slice r.a r.n r.c) ∧ V.frozen? ⟨g, i * 2 + 1, none⟩ = false ∧ base ≤ g ∧ g < V0.heap.size := by
  have hil := (List.getElem?_eq_some_iff.1 hi).1
  have hln := h.len
  have hsp := split_at hi
  obtain ⟨hq1, hq2⟩ := h.row.lt g rfl
  have OW := own_keep h.row (w' := V) (fun j hj => hV.block j (h.row.lt j hj).2)
  have htl : (rs.take i).length = i := by rw [List.length_take]; omega
  have hst := (OW.stored (i * 2 + 1) (.slice a' n' c')).1
  have hcl : V.cell? ⟨g, i * 2 + 1, none⟩ = some (.slice r.a r.n r.c) := by
    rw [OW.cellAt (i * 2 + 1) (by omega)]
    have := flat_at Rw.cells_len rs hi (i := 1) (by omega)
    rw [this]
    rfl
  have hkp : ∀ {b m q : Nat} {A' : Option Addr} {l2 : List Int}, IOwn V b A' m q l2 → IOwn (V.setCell ⟨g, i * 2 + 1, none⟩ (.slice a' n' c')) b A' m q l2 := fun h2 => h2.keep fun j hj => Below.heap_setCell V _ _ j fun e => row_int_ne OW h2 hj (by rw [e]; rfl)
  have hold : ∀ y ∈ rs, IOwn (V.setCell ⟨g, i * 2 + 1, none⟩ (.slice a' n' c')) base y.a y.n y.c y.ds ∧ y.f.size ≤ 9223372036854775807 := fun y hy => ⟨hkp ((h.each y hy).1.below hV), (h.each y hy).2⟩
  have hap := h.apart
  rw [hsp, List.pairwise_append, List.pairwise_cons] at hap
  have hnw : ∀ y ∈ rs, apartR y ⟨r.f, a', n', c', ds'⟩ ∧ apartR ⟨r.f, a', n', c', ds'⟩ y := fun y hy => ⟨fun b h1 h2 => by
    have p1 := ((h.each y hy).1.lt b h1).2
    have p2 := (ho.lt b h2).1
    omega, fun b h1 h2 => by
    have p1 := ((h.each y hy).1.lt b h2).2
    have p2 := (ho.lt b h1).1
    omega⟩
  refine ⟨⟨?_, fun y hy => ?_, ?_⟩, hcl, OW.frozenAt _, hq1, hq2⟩
  · have e := set_slice (ys := rs.take i) (zs := rs.drop (i + 1)) (x := r) (v := .slice a' n' c') rfl
    rw [← hsp, htl] at e
    have e2 : (rs.take i ++ ⟨r.f, a', n', c', ds'⟩ :: rs.drop (i + 1)).flatMap Rw.cells = (rs.flatMap Rw.cells).set (i * 2 + 1) (.slice a' n' c') := by
      rw [e, List.flatMap_append, List.flatMap_append, List.flatMap_cons, List.flatMap_cons]
      rfl
    rw [e2]
    exact hst
  · rcases List.mem_append.1 hy with hy | hy
    · exact hold y (List.mem_of_mem_take hy)
    · rcases List.mem_cons.1 hy with rfl | hy
      · exact ⟨hkp (ho.down hbz), (h.each r (List.mem_of_getElem? hi)).2⟩
      · exact hold y (List.mem_of_mem_drop hy)
  · rw [List.pairwise_append, List.pairwise_cons]
    refine ⟨hap.1, ⟨fun y hy => (hnw y (List.mem_of_mem_drop hy)).2, hap.2.1.2⟩, fun x hx y hy => ?_⟩
    rcases List.mem_cons.1 hy with rfl | hy
    · exact (hnw x (List.mem_of_mem_take hx)).1
    · exact hap.2.2 x hx y (List.mem_cons_of_mem _ hy)
/-- The matrix's block is none of the rows' own. -/
theorem OwnM.setRow {A : Option Addr} {g : Nat} (h : OwnM V base A n c rs) (hg : g < base) (cs : Array Value) : OwnM (V.setRow g cs) base A n c rs :=
  ⟨own_keep h.row (fun j hj => setRow_other _ _ _ _ (by have := (h.row.lt j hj).1; omega)), fun y hy => ⟨(h.each y hy).1.keep (fun j hj => setRow_other _ _ _ _ (by have := ((h.each y hy).1.lt j hj).1; omega)), (h.each y hy).2⟩, h.apart⟩
end
theorem fnd_at {rs : List PRow} {f : ByteArray} {i : Nat} {r : PRow} (ha : ∀ (i j : Nat) (x y : PRow), i < j → rs[i]? = some x → rs[j]? = some y → klt x.1 y.1 = true) (hx : rs[i]? = some r) {g : PRow → PRow} : (rs.map fun x => if x.1 = r.1 then g x else x) = rs.take i ++ g r :: rs.drop (i + 1) := by
  have h := map_at (f := fun x : PRow => if x.1 = r.1 then g x else x) hx (fun j y hy hj => if_neg (other_name ha hx j y hy hj))
  simpa using h
end Go.Proofs.Ytikegnnlmfidfaa
