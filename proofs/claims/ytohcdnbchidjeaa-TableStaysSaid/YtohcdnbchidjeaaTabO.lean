/-
  Tables in memory: a table in a variable; Of.
-/
import Derived.Test.YtohcdnbchidjeaaTabU
namespace Go.Proofs.Ytohcdnbchidjeaa
open Go.RowKit
/-- A variable of the call's own that holds a table. -/
def TCell (w : World) (g : Nat) (t : Tr) (q : Option Addr) : Prop := w.cell? ⟨g, 0, none⟩ = some (.pointer q) ∧ w.frozen? ⟨g, 0, none⟩ = false ∧ w.cell? ⟨g, 1, none⟩ = none ∧ Rep w w.heap.size t q ∧ g < w.heap.size
section
variable {w w' : World} {g : Nat} {t : Tr} {q : Option Addr}
theorem TCell.below (h : TCell w g t q) (hb : Below w.heap.size w w') : TCell w' g t q :=
  ⟨keepC hb h.1 h.2.2.2.2, keepF hb h.2.1 h.2.2.2.2, keepC hb h.2.2.1 h.2.2.2.2, h.2.2.2.1.step hb, Nat.lt_of_lt_of_le h.2.2.2.2 hb.size⟩
theorem TCell.alloc (h : TCell w g t q) (o : Obj) : TCell (w.alloc o) g t q := h.below ((Below.refl _ _).alloc (Nat.le_refl _) _)
theorem TCell.store (h : TCell w g t q) {t' : Tr} {q' : Option Addr} (h' : Rep w w.heap.size t' q') : TCell (w.setCell ⟨g, 0, none⟩ (.pointer q')) g t' q' :=
  ⟨World.cell?_setCell_same w _ _ h.1, by rw [World.frozen?_setCell]; exact h.2.1, (World.cell?_setCell_other w _ _ _ (by intro e; injection e with _ e2 _; cases e2)).trans h.2.2.1, by simpa using Rep.set1 h.2.2.1 0 (.pointer q') h', by simpa using h.2.2.2.2⟩
theorem TCell.other (h : TCell w g t q) {g' : Nat} (hn : w.cell? ⟨g', 1, none⟩ = none) (hne : g' ≠ g) (u : Value) : TCell (w.setCell ⟨g', 0, none⟩ u) g t q :=
  ⟨(World.cell?_setCell_far w _ _ _ hne).trans h.1, by rw [World.frozen?_setCell]; exact h.2.1, (World.cell?_setCell_far w _ _ _ hne).trans h.2.2.1, by simpa using Rep.set1 hn 0 u h.2.2.2.1, by simpa using h.2.2.2.2⟩
theorem TCell.new (w : World) : TCell (w.alloc (.cells #[.pointer none] 24)) w.heap.size .nil none :=
  ⟨box1 w _ _, World.frozen?_alloc_at _ _ _ _ rfl, by rw [World.cell?_alloc_at _ _ _ _ rfl]; rfl, rfl, by simp⟩
end
theorem cnt_put (t : Tr) (k v : ByteArray) : (t.put k v).cnt ≤ t.cnt + 1 := by
  have h1 := cut_cnt t k
  have h2 := cut_cnt (t.cut k).2 (k ++ kzero)
  rw [Tr.put, cnt_join, cnt_join]
  simp only [Tr.cnt]
  omega
theorem cnt_drop (t : Tr) (k : ByteArray) : (t.drop k).cnt ≤ t.cnt := by
  have h1 := cut_cnt t k
  have h2 := cut_cnt (t.cut k).2 (k ++ kzero)
  rw [Tr.drop]
  split
  · rw [Tr.rest, cnt_join]; omega
  · exact Nat.le_refl _
theorem cnt_of (l : List P3) : ∀ t : Tr, (l.foldl ofStep t).cnt ≤ t.cnt + l.length := by
  induction l with
  | nil => intro t; exact Nat.le_refl _
  | cons x l ih => intro t; have := ih (ofStep t x); have := cnt_put t x.1 x.2.1; simp only [List.foldl_cons, List.length_cons]; simp only [ofStep] at *; omega
theorem take_snoc' {α : Type} {l : List α} {k : Nat} {x : α} (h : l[k]? = some x) : l.take (k + 1) = l.take k ++ [x] := by
  obtain ⟨h1, rfl⟩ := List.getElem?_eq_some_iff.1 h
  exact List.take_succ_eq_append_getElem h1
def smallK (l : List P3) : Prop := ∀ x ∈ l, x.1.size ≤ 140737488355328
theorem smallK.at_ {l : List P3} (h : smallK l) {k : Nat} {x : P3} (hx : l[k]? = some x) : x.1.size ≤ 140737488355328 := h x (List.mem_of_getElem? hx)
set_option maxHeartbeats 1000000 in
theorem of_v (B : Nat) (A : Option Addr) (n c : Nat) (l : List P3) (w : World) (hr : PReads w B A n l) (hB : B ≤ w.heap.size) (hn : n ≤ 900000) (hk : smallK l) :
    Calls Try.prog 20 #[.slice A n c] w (TabPost w (ofT l)) := by
  have HN : Hid (l.length = n) := Lib.hid hr.len
  have T0 := Lib.hid ((TCell.new w).alloc (.cells #[.pointer none] 24))
  have T1 := Lib.hid (by have := TCell.new (w.alloc (.cells #[.pointer none] 24)); rwa [World.size_alloc] at this : TCell ((w.alloc (.cells #[.pointer none] 24)).alloc (.cells #[.pointer none] 24)) (w.heap.size + 1) .nil none)
  have E1 := Lib.hid (show Below w.heap.size w ((w.alloc (.cells #[.pointer none] 24)).alloc (.cells #[.pointer none] 24)) from ((Below.refl _ _).alloc (Nat.le_refl _) _).alloc (by simp) _)
  have HR := Lib.hid hr
  have HK := Lib.hid hk
  clear hr hk
  go_enter Try.func20, Try.ntmps20
  go_wp2
  go_loopw [8] (fun i wr => ∃ (k : Nat) (q : Option Addr), k ≤ n ∧ i = .int .i64 (k : Int) ∧ TCell wr (w.heap.size + 1) ((l.take k).foldl ofStep .nil) q ∧ TCell wr w.heap.size .nil none ∧ Below w.heap.size w wr) (fun i _ => n - (intOf i).toNat)
  case atStart => exact ⟨0, none, Nat.zero_le _, rfl, T1.out, T0.out, E1.out⟩
  case round =>
    obtain ⟨k, q, hkn, rfl, ht1, ht0, hb⟩ := hrel
    have H1 := Lib.hid ht1
    have H0 := Lib.hid ht0
    have HB := Lib.hid hb
    have hgs : w.heap.size + 1 < wr.heap.size := ht1.2.2.2.2
    clear ht1 ht0 hb
    by_cases hlt : k < n
    · obtain ⟨ad, x, he, had, hx, c0, c1, c2⟩ := PReads.at_ (Reads.below (show Reads w B 3 A n _ from HR.out) (HB.out.mono hB)) hlt
      subst he
      have HX := Lib.hid hx
      have HKX := Lib.hid (HK.out.at_ hx)
      have HT := Lib.hid (take_snoc' hx)
      have HCN := Lib.hid (cnt_of (l.take k) .nil)
      have HLT := Lib.hid (show (l.take k).length ≤ n by rw [List.length_take, HN.out]; omega)
      clear hx
      have H1a := Lib.hid (H1.out.alloc (.cells #[.string x.1, .string x.2.1, .bool x.2.2] 39))
      have H0a := Lib.hid (H0.out.alloc (.cells #[.string x.1, .string x.2.1, .bool x.2.2] 39))
      have ct := H1.out.1
      have BA := Lib.hid (show Below wr.heap.size wr (wr.alloc (.cells #[.string x.1, .string x.2.1, .bool x.2.2] 39)) from (Below.refl _ _).alloc (Nat.le_refl _) _)
      go_wp2_with fail
      refine (put_v x.1 x.2.1 _ _ q _ H1a.out.2.2.2.1 (Nat.le_refl _) (by have := HCN.out; have := HLT.out; simp only [Tr.cnt] at *; omega) HKX.out).mono ?_
      rintro e w1 ⟨q1, rfl, r1, hb1⟩
      have K1 := Lib.hid (H1a.out.below hb1)
      have K0 := Lib.hid (H0a.out.below hb1)
      have R1 := Lib.hid r1
      have kf := K1.out.2.1
      have kc := K1.out.1
      have BB := Lib.hid (btwo BA.out hb1)
      clear hb1 r1 ct
      go_wp2
      go_roundw
      case rel => exact ⟨k + 1, q1, by omega, by go_num, by rw [HT.out, List.foldl_append]; exact K1.out.store R1.out, K0.out.other K1.out.2.2.1 (by omega) _, (HB.out.trans (BB.out.mono HB.out.size)).setCell (by simp) _⟩
      case measure => simp [intOf]; omega
    · obtain rfl : k = n := by omega
      have HT := Lib.hid (show (l.take k).foldl ofStep .nil = ofT l by rw [List.take_of_length_le (by rw [HN.out]; exact Nat.le_refl _)]; rfl)
      have c1 := H1.out.1
      have c0 := H0.out.1
      have f0 := H0.out.2.1
      go_wp2
      refine bodyPost_ret (v := .agg #[.pointer q]) (by simp [results, Try.results20, go_sem, c0]) rfl ?_
      have := (H0.out.store H1.out.2.2.2.1).2.2.2.1
      rw [HT.out] at this
      exact ⟨q, rfl, this, HB.out.setCell (by simp) _⟩
end Go.Proofs.Ytohcdnbchidjeaa
