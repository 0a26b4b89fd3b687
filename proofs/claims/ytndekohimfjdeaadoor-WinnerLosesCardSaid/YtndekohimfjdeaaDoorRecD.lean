/-
  Records: record.Check.
-/
import Derived.Test.YtndekohimfjdeaaDoorRecC
namespace Go.Proofs.YtndekohimfjdeaaDoor
open Go.RowKit Go.Shelf
/-- Where a record's slices lie. -/
structure RSh where
  A : Option Addr
  n : Nat
  c : Nat
  D : Option Addr
  m : Nat
  k : Nat
/-- The value of a record. -/
@[reducible] def rvl (r : Rcd) (a : RSh) : Value := .agg #[.string (st r.path), .slice a.A a.n a.c, .int .i64 r.dev, .bool r.gone, .int .i64 r.size, .int .i64 r.len, .slice a.D a.m a.k]
/-- A record's slices read as its lists. -/
structure RReads (w : World) (B : Nat) (r : Rcd) (a : RSh) : Prop where
  cs : CReads w B a.A a.n r.v
  dg : DReads w B a.D a.m r.ds
  hn : a.n ≤ 1000000
  hm : a.m ≤ 1000000
  ft : fitV r.v
theorem RReads.below {w w' : World} {B : Nat} {r : Rcd} {a : RSh} (h : RReads w B r a) (hb : Below B w w') : RReads w' B r a := ⟨Reads.below h.cs hb, h.dg.below hb, h.hn, h.hm, h.ft⟩
theorem RReads.more {w : World} {B B' : Nat} {r : Rcd} {a : RSh} (h : RReads w B r a) (hb : B ≤ B') : RReads w B' r a := ⟨Reads.more h.cs hb, Reads.more h.dg hb, h.hn, h.hm, h.ft⟩
theorem rcells_at {W : World} {g o : Nat} {vs : Array Value} {t : TypeId} {fr : Nat × Nat} {us : List Value} (h : W.heap[g]? = some (.cells vs t fr)) (hu : ∀ j v, us[j]? = some v → vs[o + j]? = some v) :
    ∀ j v, us[j]? = some v → W.cell? ((⟨g, o, none⟩ : Addr).add j) = some v := by
  intro j v hv
  have e : (⟨g, o, none⟩ : Addr).add j = ⟨g, o + j, none⟩ := by unfold Addr.add; by_cases hj : j = 0 <;> simp [hj]
  rw [e, cell_of_row _ _ (o + j) _ _ _ h]
  exact hu j v hv
theorem three_at {x y z : Value} {vs : Array Value} {o : Nat} (h0 : vs[o]? = some x) (h1 : vs[o + 1]? = some y) (h2 : vs[o + 2]? = some z) : ∀ j v, [x, y, z][j]? = some v → vs[o + j]? = some v
  | 0, v, h => by rw [← h]; exact h0
  | 1, v, h => by rw [← h]; exact h1
  | 2, v, h => by rw [← h]; exact h2
  | j + 3, v, h => by simp at h
set_option maxRecDepth 100000 in
set_option maxHeartbeats 8000000 in
theorem recCheck_v (r : Rcd) (a : RSh) (B : Nat) (w : World) (he : EnvM w) (hr : RReads w B r a) (hB : B ≤ w.heap.size) :
    Calls Tryd.prog 33 #[.agg #[.string (st r.path), .slice a.A a.n a.c, .int .i64 r.dev, .bool r.gone, .int .i64 r.size, .int .i64 r.len, .slice a.D a.m a.k]] w fun e w' => e = .returned (.int .i64 (okR r : Int)) ∧ Below w.heap.size w w' := by
  obtain ⟨p, v, dv, g, s, l, ds⟩ := r
  obtain ⟨A, n, c, D, m, k⟩ := a
  dsimp only
  have HI := Lib.hid (show (Tryd.prog.info? 25).map (·.size) = some 3 by kernel_rfl)
  have HR := Lib.hid hr
  have HE := Lib.hid he
  have hn := hr.hn
  have hm := hr.hm
  have hml : ds.length = m := hr.dg.len
  dsimp only at hn hm
  clear hr he
  have BA := Lib.hid ((Below.refl w.heap.size w).alloc (Nat.le_refl _) (.cells #[.string (st p), .slice A n c, .int .i64 dv, .bool g, .int .i64 s, .int .i64 l, .slice D m k] 27))
  have X1 := Lib.hid (heap_alloc_new w (.cells #[.string (st p), .slice A n c, .int .i64 dv, .bool g, .int .i64 s, .int .i64 l, .slice D m k] 27))
  have hz : (w.alloc (.cells #[.string (st p), .slice A n c, .int .i64 dv, .bool g, .int .i64 s, .int .i64 l, .slice D m k] 27)).heap.size = w.heap.size + 1 := by simp
  have HOK := Lib.hid (show okR ⟨p, v, dv, g, s, l, ds⟩ = if checkL p ≠ 0 then checkL p else if okV 0 v = false then 2 else if chk s l m = 3 then 3 else if val v dv = 0 ∨ (g = true ∧ (decide (s = 0) && decide (l = 0) && decide (m = 0)) = false) ∨ (g = false ∧ chk s l m ≠ 0) then 2 else 0 by
    rw [← hml]; rfl)
  go_enter Tryd.func33, Tryd.ntmps33
  go_wp2_with fail
  generalize w.alloc (.cells #[.string (st p), .slice A n c, .int .i64 dv, .bool g, .int .i64 s, .int .i64 l, .slice D m k] 27) = w1 at *
  refine (pcheckM_v p w1 (HE.out.below BA.out)).mono ?_
  rintro e w2 ⟨rfl, b2⟩
  have X2 := Lib.hid ((b2.block w.heap.size (by omega)).trans X1.out)
  have B2 := Lib.hid (BA.out.trans (b2.mono (by omega)))
  have hz2 : w.heap.size + 1 ≤ w2.heap.size := by have := b2.size; omega
  clear X1 BA b2
  by_cases h1 : checkL p = 0
  case neg =>
    have d1 : ((checkL p : Int) != 0) = true := by rw [bne_iff_ne]; omega
    have HQ := Lib.hid (show okR ⟨p, v, dv, g, s, l, ds⟩ = checkL p by rw [HOK.out, if_pos h1])
    clear h1
    generalize checkL p = q at *
    go_wp2
    go_ret
    exact ⟨by rw [HQ.out]; rfl, B2.out⟩
  have HQ1 := Lib.hid (HOK.out.trans (if_neg (by omega)))
  clear HOK
  rw [h1]
  clear h1
  have c1 : w2.cell? ⟨w.heap.size, 1, none⟩ = some (.slice A n c) := by rw [cell_of_row _ _ 1 _ _ _ X2.out]; rfl
  go_wp2_with fail
  refine (check_v B A n c v w2 (Reads.below HR.out.cs (B2.out.mono hB)) (by omega) (by omega)).mono ?_
  rintro e w3 ⟨rfl, b3⟩
  have X3 := Lib.hid ((b3.block w.heap.size (by omega)).trans X2.out)
  have B3 := Lib.hid (B2.out.trans (b3.mono (by omega)))
  have hz3 : w.heap.size + 1 ≤ w3.heap.size := by have := b3.size; omega
  clear X2 B2 b3 c1
  cases h2 : okV 0 v
  · have HQ := Lib.hid (HQ1.out.trans (if_pos h2))
    clear h2
    go_wp2
    go_ret
    exact ⟨by rw [HQ.out]; rfl, B3.out⟩
  have HQ2 := Lib.hid (HQ1.out.trans (if_neg (by rw [h2]; decide)))
  clear HQ1 h2
  go_wp2_with (first
    | (refine wpList_load_slot rfl 25 (.tmp 18) rfl ⟨w.heap.size, 4, none⟩ rfl [.int .i64 s, .int .i64 l, .slice D m k] _ (rcells_at X3.out (three_at rfl rfl rfl)) Tryd.underlying25 rfl HI.out ?_)
    | fail)
  refine (bcheck_v s l D m k w3 (by omega)).mono ?_
  rintro e w4 ⟨rfl, b4⟩
  have X4 := Lib.hid ((b4.block w.heap.size (by omega)).trans X3.out)
  have B4 := Lib.hid (B3.out.trans (b4.mono (by omega)))
  have hz4 : w.heap.size + 1 ≤ w4.heap.size := by have := b4.size; omega
  clear X3 B3 b4
  by_cases h3 : chk s l m = 3
  · have HQ := Lib.hid (HQ2.out.trans (if_pos h3))
    rw [h3]
    clear h3
    go_wp2
    go_ret
    exact ⟨by rw [HQ.out]; rfl, B4.out⟩
  have HQ3 := Lib.hid (HQ2.out.trans (if_neg h3))
  have d3 : ((chk s l m : Int) == 3) = false := by rw [beq_eq_false_iff_ne]; omega
  clear HQ2 h3
  have CK := Lib.hid (show ∀ W : World, Calls Tryd.prog 50 #[.agg #[.int .i64 s, .int .i64 l, .slice D m k]] W fun e w' => e = .returned (.int .i64 (chk s l m : Int)) ∧ Below W.heap.size W w' from fun W => bcheck_v s l D m k W (by omega))
  generalize chk s l m = q at *
  have c1 : w4.cell? ⟨w.heap.size, 1, none⟩ = some (.slice A n c) := by rw [cell_of_row _ _ 1 _ _ _ X4.out]; rfl
  have c2 : w4.cell? ⟨w.heap.size, 2, none⟩ = some (.int .i64 dv) := by rw [cell_of_row _ _ 2 _ _ _ X4.out]; rfl
  go_wp2_with fail
  refine (val_v B A n c v dv w4 (Reads.below HR.out.cs (B4.out.mono hB)) (by omega) (by omega)).mono ?_
  rintro e w5 ⟨rfl, b5⟩
  have X5 := Lib.hid ((b5.block w.heap.size (by omega)).trans X4.out)
  have B5 := Lib.hid (B4.out.trans (b5.mono (by omega)))
  have hz5 : w.heap.size + 1 ≤ w5.heap.size := by have := b5.size; omega
  clear X4 B4 b5 c1 c2
  by_cases h4 : val v dv = 0
  · have HQ := Lib.hid (HQ3.out.trans (if_pos (.inl h4)))
    have d4 : ((val v dv : Int) == 0) = true := by rw [beq_iff_eq]; omega
    clear h4
    generalize val v dv = x at *
    go_wp2
    go_ret
    exact ⟨by rw [HQ.out]; rfl, B5.out⟩
  have d4 : ((val v dv : Int) == 0) = false := by rw [beq_eq_false_iff_ne]; omega
  have c3 : w5.cell? ⟨w.heap.size, 3, none⟩ = some (.bool g) := by rw [cell_of_row _ _ 3 _ _ _ X5.out]; rfl
  cases g
  · by_cases h5 : q = 0
    · have HQ := Lib.hid (HQ3.out.trans (if_neg (by simp [h4, h5])))
      have d5 : ((q : Int) != 0) = false := by rw [bne_eq_false_iff_eq]; omega
      clear h4 h5 HQ3
      generalize val v dv = x at *
      go_wp2_with (first
        | (refine wpList_load_slot rfl 25 (.tmp 43) rfl ⟨w.heap.size, 4, none⟩ rfl [.int .i64 s, .int .i64 l, .slice D m k] _ (rcells_at X5.out (three_at rfl rfl rfl)) Tryd.underlying25 rfl HI.out ?_)
        | fail)
      refine (CK.out w5).mono ?_
      rintro e w6 ⟨rfl, b6⟩
      have B6 := Lib.hid (B5.out.trans (b6.mono (by omega)))
      clear b6
      go_wp2
      go_ret
      exact ⟨by rw [HQ.out]; rfl, B6.out⟩
    · have HQ := Lib.hid (HQ3.out.trans (if_pos (.inr (.inr ⟨rfl, h5⟩))))
      have d5 : ((q : Int) != 0) = true := by rw [bne_iff_ne]; omega
      clear h4 h5 HQ3
      generalize val v dv = x at *
      go_wp2_with (first
        | (refine wpList_load_slot rfl 25 (.tmp 43) rfl ⟨w.heap.size, 4, none⟩ rfl [.int .i64 s, .int .i64 l, .slice D m k] _ (rcells_at X5.out (three_at rfl rfl rfl)) Tryd.underlying25 rfl HI.out ?_)
        | fail)
      refine (CK.out w5).mono ?_
      rintro e w6 ⟨rfl, b6⟩
      have B6 := Lib.hid (B5.out.trans (b6.mono (by omega)))
      clear b6
      go_wp2
      go_ret
      exact ⟨by rw [HQ.out]; rfl, B6.out⟩
  · have HEM := Lib.hid (empty_v s l D m k)
    obtain ⟨em, hem⟩ : ∃ em, (decide (s = 0) && decide (l = 0) && decide (m = 0)) = em := ⟨_, rfl⟩
    rw [hem] at HEM HQ3
    clear hem
    cases em
    · have HQ := Lib.hid (HQ3.out.trans (if_pos (.inr (.inl ⟨rfl, rfl⟩))))
      clear h4 HQ3
      generalize val v dv = x at *
      go_wp2_with (first
        | (refine wpList_load_slot rfl 25 (.tmp 34) rfl ⟨w.heap.size, 4, none⟩ rfl [.int .i64 s, .int .i64 l, .slice D m k] _ (rcells_at X5.out (three_at rfl rfl rfl)) Tryd.underlying25 rfl HI.out ?_)
        | fail)
      refine (HEM.out w5 (by omega)).mono ?_
      rintro e w6 ⟨rfl, b6⟩
      have B6 := Lib.hid (B5.out.trans (b6.mono (by omega)))
      clear b6
      go_wp2
      go_ret
      exact ⟨by rw [HQ.out]; rfl, B6.out⟩
    · have HQ := Lib.hid (HQ3.out.trans (if_neg (by simp [h4])))
      clear h4 HQ3
      generalize val v dv = x at *
      go_wp2_with (first
        | (refine wpList_load_slot rfl 25 (.tmp 34) rfl ⟨w.heap.size, 4, none⟩ rfl [.int .i64 s, .int .i64 l, .slice D m k] _ (rcells_at X5.out (three_at rfl rfl rfl)) Tryd.underlying25 rfl HI.out ?_)
        | fail)
      refine (HEM.out w5 (by omega)).mono ?_
      rintro e w6 ⟨rfl, b6⟩
      have c3' : w6.cell? ⟨w.heap.size, 3, none⟩ = some (.bool true) := by rw [cell_of_row _ _ 3 _ _ _ ((b6.block w.heap.size (by omega)).trans X5.out)]; rfl
      have B6 := Lib.hid (B5.out.trans (b6.mono (by omega)))
      clear b6 c3
      go_wp2
      go_ret
      exact ⟨by rw [HQ.out]; rfl, B6.out⟩
end Go.Proofs.YtndekohimfjdeaaDoor
