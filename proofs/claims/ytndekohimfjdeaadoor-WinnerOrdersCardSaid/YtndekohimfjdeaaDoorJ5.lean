/-
  Records: the same version (the reference), the same record (the kit), behind; which of many wins.
  Winner: what is settled, in plain Lean.
  Winner: which of many wins.
  Winner: the order of versions, in plain Lean.
  Winner: WinnerOrders.
  Cards: the wrap that keeps the world's shape beside a further premise.
-/
import Derived.Test.YtndekohimfjdeaaDoorJ1
import Derived.Test.YtndekohimfjdeaaDoorJ2
import Derived.Test.YtndekohimfjdeaaDoorJ3
import Derived.Test.YtndekohimfjdeaaDoorJ4
import Derived.Test.YtndekohimfjdeaaDoorRows
import Derived.Handed
import Derived.SizedLaws
import Derived.LaidMore
import Derived.Stop.Joined
import Derived.Stop.LaidErr
namespace Go.Proofs.YtndekohimfjdeaaDoor
open Go.RowKit Go.Shelf
def verR (r q : Rcd) : Bool := decide (r.path = q.path) && decide (cmpV r.v q.v = 1)
set_option maxRecDepth 100000 in
set_option maxHeartbeats 8000000 in
theorem version_v (r q : Rcd) (a b : RSh) (B : Nat) (w : World) (hr : RReads w B r a) (hq : RReads w B q b) (hB : B ≤ w.heap.size) :
    Calls Tryd.prog 17 #[.agg #[.string (st r.path), .slice a.A a.n a.c, .int .i64 r.dev, .bool r.gone, .int .i64 r.size, .int .i64 r.len, .slice a.D a.m a.k], .agg #[.string (st q.path), .slice b.A b.n b.c, .int .i64 q.dev, .bool q.gone, .int .i64 q.size, .int .i64 q.len, .slice b.D b.m b.k]] w fun e w' => e = .returned (.bool (verR r q)) ∧ Below w.heap.size w w' := by
  have HI := Lib.hid (show (Tryd.prog.info? 27).map (·.size) = some 7 by kernel_rfl)
  have HL := Lib.hid (show (Tryd.prog.info? 25).map (·.size) = some 3 by kernel_rfl)
  have BA := Lib.hid (((Below.refl w.heap.size w).alloc (Nat.le_refl _) (.cells #[.string (st r.path), .slice a.A a.n a.c, .int .i64 r.dev, .bool r.gone, .int .i64 r.size, .int .i64 r.len, .slice a.D a.m a.k] 27)).alloc (by simp) (.cells #[.string (st q.path), .slice b.A b.n b.c, .int .i64 q.dev, .bool q.gone, .int .i64 q.size, .int .i64 q.len, .slice b.D b.m b.k] 27))
  have Y := Lib.hid (heap_alloc2_new w (.cells #[.string (st r.path), .slice a.A a.n a.c, .int .i64 r.dev, .bool r.gone, .int .i64 r.size, .int .i64 r.len, .slice a.D a.m a.k] 27) (.cells #[.string (st q.path), .slice b.A b.n b.c, .int .i64 q.dev, .bool q.gone, .int .i64 q.size, .int .i64 q.len, .slice b.D b.m b.k] 27))
  have X := Lib.hid (heap_alloc2_old w (.cells #[.string (st r.path), .slice a.A a.n a.c, .int .i64 r.dev, .bool r.gone, .int .i64 r.size, .int .i64 r.len, .slice a.D a.m a.k] 27) (.cells #[.string (st q.path), .slice b.A b.n b.c, .int .i64 q.dev, .bool q.gone, .int .i64 q.size, .int .i64 q.len, .slice b.D b.m b.k] 27))
  have HR := Lib.hid hr
  have HQ := Lib.hid hq
  have hn1 := hr.hn
  have hn2 := hq.hn
  have hm1 := hr.hm
  have hm2 := hq.hm
  have hz : w.heap.size + 2 ≤ ((w.alloc (.cells #[.string (st r.path), .slice a.A a.n a.c, .int .i64 r.dev, .bool r.gone, .int .i64 r.size, .int .i64 r.len, .slice a.D a.m a.k] 27)).alloc (.cells #[.string (st q.path), .slice b.A b.n b.c, .int .i64 q.dev, .bool q.gone, .int .i64 q.size, .int .i64 q.len, .slice b.D b.m b.k] 27)).heap.size := by simp
  clear hr hq
  go_enter Tryd.func17, Tryd.ntmps17
  go_upto_region 1 with fail
  generalize (w.alloc (.cells #[.string (st r.path), .slice a.A a.n a.c, .int .i64 r.dev, .bool r.gone, .int .i64 r.size, .int .i64 r.len, .slice a.D a.m a.k] 27)).alloc (.cells #[.string (st q.path), .slice b.A b.n b.c, .int .i64 q.dev, .bool q.gone, .int .i64 q.size, .int .i64 q.len, .slice b.D b.m b.k] 27) = w2 at *
  have c1 := cell_of_row _ _ 0 _ _ _ X.out
  have c2 := cell_of_row _ _ 0 _ _ _ Y.out
  have c3 := cell_of_row _ _ 1 _ _ _ X.out
  have c4 := cell_of_row _ _ 1 _ _ _ Y.out
  have dp := st_beq r.path q.path
  by_cases hp : r.path = q.path
  case neg =>
    rw [decide_eq_false hp] at dp
    have HF := Lib.hid (show verR r q = false by unfold verR; rw [decide_eq_false hp]; rfl)
    clear hp
    go_wp2
    go_ret
    exact ⟨by rw [HF.out]; rfl, BA.out⟩
  rw [decide_eq_true hp] at dp
  have HF := Lib.hid (show verR r q = decide (cmpV r.v q.v = 1) by unfold verR; rw [decide_eq_true hp]; rfl)
  clear hp
  go_wp2_with fail
  refine (rcompare_v B a.A b.A a.n a.c b.n b.c r.v q.v w2 (Reads.below HR.out.cs (BA.out.mono hB)) (Reads.below HQ.out.cs (BA.out.mono hB)) (by omega) (by omega) (by omega) HR.out.ft HQ.out.ft).mono ?_
  rintro e w3 ⟨rfl, b3⟩
  clear c1 c2 c3 c4
  replace X := Lib.hid ((b3.block w.heap.size (by omega)).trans X.out)
  replace Y := Lib.hid ((b3.block (w.heap.size + 1) (by omega)).trans Y.out)
  replace BA := Lib.hid (BA.out.trans (b3.mono (by omega)))
  replace hz : w.heap.size + 2 ≤ w3.heap.size := by have := b3.size; omega
  clear b3
  by_cases h1 : cmpV r.v q.v = 1
  · rw [decide_eq_true h1] at HF
    rw [h1]
    clear h1
    go_wp2
    go_ret
    exact ⟨by rw [HF.out]; rfl, BA.out⟩
  · rw [decide_eq_false h1] at HF
    have d1 : (cmpV r.v q.v == 1) = false := by rw [beq_eq_false_iff_ne]; exact h1
    clear h1
    go_wp2
    go_ret
    exact ⟨by rw [HF.out]; rfl, BA.out⟩
def behindR (r q : Rcd) : Bool := decide (cmpV r.v q.v = 2 ∨ cmpV r.v q.v = 1)
set_option maxRecDepth 100000 in
set_option maxHeartbeats 8000000 in
theorem behind_v (r q : Rcd) (a b : RSh) (B : Nat) (w : World) (hr : RReads w B r a) (hq : RReads w B q b) (hB : B ≤ w.heap.size) :
    Calls Tryd.prog 21 #[.agg #[.string (st r.path), .slice a.A a.n a.c, .int .i64 r.dev, .bool r.gone, .int .i64 r.size, .int .i64 r.len, .slice a.D a.m a.k], .agg #[.string (st q.path), .slice b.A b.n b.c, .int .i64 q.dev, .bool q.gone, .int .i64 q.size, .int .i64 q.len, .slice b.D b.m b.k]] w fun e w' => e = .returned (.bool (behindR r q)) ∧ Below w.heap.size w w' := by
  have HI := Lib.hid (show (Tryd.prog.info? 27).map (·.size) = some 7 by kernel_rfl)
  have HL := Lib.hid (show (Tryd.prog.info? 25).map (·.size) = some 3 by kernel_rfl)
  have BA := Lib.hid (((Below.refl w.heap.size w).alloc (Nat.le_refl _) (.cells #[.string (st r.path), .slice a.A a.n a.c, .int .i64 r.dev, .bool r.gone, .int .i64 r.size, .int .i64 r.len, .slice a.D a.m a.k] 27)).alloc (by simp) (.cells #[.string (st q.path), .slice b.A b.n b.c, .int .i64 q.dev, .bool q.gone, .int .i64 q.size, .int .i64 q.len, .slice b.D b.m b.k] 27))
  have Y := Lib.hid (heap_alloc2_new w (.cells #[.string (st r.path), .slice a.A a.n a.c, .int .i64 r.dev, .bool r.gone, .int .i64 r.size, .int .i64 r.len, .slice a.D a.m a.k] 27) (.cells #[.string (st q.path), .slice b.A b.n b.c, .int .i64 q.dev, .bool q.gone, .int .i64 q.size, .int .i64 q.len, .slice b.D b.m b.k] 27))
  have X := Lib.hid (heap_alloc2_old w (.cells #[.string (st r.path), .slice a.A a.n a.c, .int .i64 r.dev, .bool r.gone, .int .i64 r.size, .int .i64 r.len, .slice a.D a.m a.k] 27) (.cells #[.string (st q.path), .slice b.A b.n b.c, .int .i64 q.dev, .bool q.gone, .int .i64 q.size, .int .i64 q.len, .slice b.D b.m b.k] 27))
  have HR := Lib.hid hr
  have HQ := Lib.hid hq
  have hn1 := hr.hn
  have hn2 := hq.hn
  have hm1 := hr.hm
  have hm2 := hq.hm
  have hz : w.heap.size + 2 ≤ ((w.alloc (.cells #[.string (st r.path), .slice a.A a.n a.c, .int .i64 r.dev, .bool r.gone, .int .i64 r.size, .int .i64 r.len, .slice a.D a.m a.k] 27)).alloc (.cells #[.string (st q.path), .slice b.A b.n b.c, .int .i64 q.dev, .bool q.gone, .int .i64 q.size, .int .i64 q.len, .slice b.D b.m b.k] 27)).heap.size := by simp
  clear hr hq
  go_enter Tryd.func21, Tryd.ntmps21
  go_upto_region 1 with fail
  generalize (w.alloc (.cells #[.string (st r.path), .slice a.A a.n a.c, .int .i64 r.dev, .bool r.gone, .int .i64 r.size, .int .i64 r.len, .slice a.D a.m a.k] 27)).alloc (.cells #[.string (st q.path), .slice b.A b.n b.c, .int .i64 q.dev, .bool q.gone, .int .i64 q.size, .int .i64 q.len, .slice b.D b.m b.k] 27) = w2 at *
  have c3 := cell_of_row _ _ 1 _ _ _ X.out
  have c4 := cell_of_row _ _ 1 _ _ _ Y.out
  go_wp2_with fail
  refine (rcompare_v B a.A b.A a.n a.c b.n b.c r.v q.v w2 (Reads.below HR.out.cs (BA.out.mono hB)) (Reads.below HQ.out.cs (BA.out.mono hB)) (by omega) (by omega) (by omega) HR.out.ft HQ.out.ft).mono ?_
  rintro e w3 ⟨rfl, b3⟩
  clear c3 c4
  replace X := Lib.hid ((b3.block w.heap.size (by omega)).trans X.out)
  replace Y := Lib.hid ((b3.block (w.heap.size + 1) (by omega)).trans Y.out)
  replace BA := Lib.hid (BA.out.trans (b3.mono (by omega)))
  replace hz : w.heap.size + 2 ≤ w3.heap.size := by have := b3.size; omega
  clear b3
  by_cases h2 : cmpV r.v q.v = 2
  · have HF := Lib.hid (show behindR r q = true from decide_eq_true (.inl h2))
    rw [h2]
    clear h2
    go_wp2
    go_ret
    exact ⟨by rw [HF.out]; rfl, BA.out⟩
  have d2 : (cmpV r.v q.v == 2) = false := by rw [beq_eq_false_iff_ne]; exact h2
  by_cases h1 : cmpV r.v q.v = 1
  · have HF := Lib.hid (show behindR r q = true from decide_eq_true (.inr h1))
    rw [h1] at d2 ⊢
    clear h1 h2
    go_wp2
    go_ret
    exact ⟨by rw [HF.out]; rfl, BA.out⟩
  · have d1 : (cmpV r.v q.v == 1) = false := by rw [beq_eq_false_iff_ne]; exact h1
    have HF := Lib.hid (show behindR r q = false from decide_eq_false (by omega))
    clear h1 h2
    go_wp2
    go_ret
    exact ⟨by rw [HF.out]; rfl, BA.out⟩
/-- Are records the same? -/
def sameR (r q : Rcd) : Bool := decide (r.path = q.path) && (decide (r.v = q.v) && (decide (r.dev = q.dev) && (decide (r.gone = q.gone) && sameP r.size r.len q.size q.len r.ds q.ds)))
set_option maxRecDepth 100000 in
set_option maxHeartbeats 8000000 in
theorem krec_v (r q : Rcd) (a b : RSh) (B : Nat) (w : World) (hr : RReads w B r a) (hq : RReads w B q b) (hB : B ≤ w.heap.size) :
    Calls Tryd.prog 18 #[.agg #[.string (st r.path), .slice a.A a.n a.c, .int .i64 r.dev, .bool r.gone, .int .i64 r.size, .int .i64 r.len, .slice a.D a.m a.k], .agg #[.string (st q.path), .slice b.A b.n b.c, .int .i64 q.dev, .bool q.gone, .int .i64 q.size, .int .i64 q.len, .slice b.D b.m b.k]] w fun e w' => e = .returned (.bool (sameR r q)) ∧ Below w.heap.size w w' := by
  have HI := Lib.hid (show (Tryd.prog.info? 27).map (·.size) = some 7 by kernel_rfl)
  have HL := Lib.hid (show (Tryd.prog.info? 25).map (·.size) = some 3 by kernel_rfl)
  have BA := Lib.hid (((Below.refl w.heap.size w).alloc (Nat.le_refl _) (.cells #[.string (st r.path), .slice a.A a.n a.c, .int .i64 r.dev, .bool r.gone, .int .i64 r.size, .int .i64 r.len, .slice a.D a.m a.k] 27)).alloc (by simp) (.cells #[.string (st q.path), .slice b.A b.n b.c, .int .i64 q.dev, .bool q.gone, .int .i64 q.size, .int .i64 q.len, .slice b.D b.m b.k] 27))
  have Y := Lib.hid (heap_alloc2_new w (.cells #[.string (st r.path), .slice a.A a.n a.c, .int .i64 r.dev, .bool r.gone, .int .i64 r.size, .int .i64 r.len, .slice a.D a.m a.k] 27) (.cells #[.string (st q.path), .slice b.A b.n b.c, .int .i64 q.dev, .bool q.gone, .int .i64 q.size, .int .i64 q.len, .slice b.D b.m b.k] 27))
  have X := Lib.hid (heap_alloc2_old w (.cells #[.string (st r.path), .slice a.A a.n a.c, .int .i64 r.dev, .bool r.gone, .int .i64 r.size, .int .i64 r.len, .slice a.D a.m a.k] 27) (.cells #[.string (st q.path), .slice b.A b.n b.c, .int .i64 q.dev, .bool q.gone, .int .i64 q.size, .int .i64 q.len, .slice b.D b.m b.k] 27))
  have HR := Lib.hid hr
  have HQ := Lib.hid hq
  have hn1 := hr.hn
  have hn2 := hq.hn
  have hm1 := hr.hm
  have hm2 := hq.hm
  have hz : w.heap.size + 2 ≤ ((w.alloc (.cells #[.string (st r.path), .slice a.A a.n a.c, .int .i64 r.dev, .bool r.gone, .int .i64 r.size, .int .i64 r.len, .slice a.D a.m a.k] 27)).alloc (.cells #[.string (st q.path), .slice b.A b.n b.c, .int .i64 q.dev, .bool q.gone, .int .i64 q.size, .int .i64 q.len, .slice b.D b.m b.k] 27)).heap.size := by simp
  clear hr hq
  go_enter Tryd.func18, Tryd.ntmps18
  go_upto_region 1 with fail
  generalize (w.alloc (.cells #[.string (st r.path), .slice a.A a.n a.c, .int .i64 r.dev, .bool r.gone, .int .i64 r.size, .int .i64 r.len, .slice a.D a.m a.k] 27)).alloc (.cells #[.string (st q.path), .slice b.A b.n b.c, .int .i64 q.dev, .bool q.gone, .int .i64 q.size, .int .i64 q.len, .slice b.D b.m b.k] 27) = w2 at *
  have c1 := cell_of_row _ _ 0 _ _ _ X.out
  have c2 := cell_of_row _ _ 0 _ _ _ Y.out
  have c3 := cell_of_row _ _ 1 _ _ _ X.out
  have c4 := cell_of_row _ _ 1 _ _ _ Y.out
  have dp := st_beq r.path q.path
  by_cases hp : r.path = q.path
  case neg =>
    rw [decide_eq_false hp] at dp
    have HF := Lib.hid (show sameR r q = false by unfold sameR; simp [hp])
    clear hp
    go_wp2
    go_ret
    exact ⟨by rw [HF.out]; rfl, BA.out⟩
  rw [decide_eq_true hp] at dp
  have HP := Lib.hid hp
  clear hp
  go_wp2_with fail
  refine (same_v B a.A b.A a.n a.c b.n b.c r.v q.v w2 (Reads.below HR.out.cs (BA.out.mono hB)) (Reads.below HQ.out.cs (BA.out.mono hB)) (by omega) (by omega)).mono ?_
  rintro e w3 ⟨rfl, b3⟩
  clear c1 c2 c3 c4
  replace X := Lib.hid ((b3.block w.heap.size (by omega)).trans X.out)
  replace Y := Lib.hid ((b3.block (w.heap.size + 1) (by omega)).trans Y.out)
  replace BA := Lib.hid (BA.out.trans (b3.mono (by omega)))
  replace hz : w.heap.size + 2 ≤ w3.heap.size := by have := b3.size; omega
  clear b3
  by_cases h1 : r.v = q.v
  case neg =>
    rw [decide_eq_false h1]
    have HF := Lib.hid (show sameR r q = false by unfold sameR; simp [h1])
    clear h1
    go_wp2
    go_ret
    exact ⟨by rw [HF.out]; rfl, BA.out⟩
  rw [decide_eq_true h1]
  have c1 := cell_of_row _ _ 2 _ _ _ X.out
  have c2 := cell_of_row _ _ 2 _ _ _ Y.out
  by_cases h2 : r.dev = q.dev
  case neg =>
    have d2 : (r.dev == q.dev) = false := by rw [beq_eq_false_iff_ne]; exact h2
    have HF := Lib.hid (show sameR r q = false by unfold sameR; simp [h2])
    clear h2
    go_wp2
    go_ret
    exact ⟨by rw [HF.out]; rfl, BA.out⟩
  have d2 : (r.dev == q.dev) = true := by rw [beq_iff_eq]; exact h2
  have c3 := cell_of_row _ _ 3 _ _ _ X.out
  have c4 := cell_of_row _ _ 3 _ _ _ Y.out
  by_cases h3 : r.gone = q.gone
  case neg =>
    have d3 : (r.gone == q.gone) = false := by rw [beq_eq_false_iff_ne]; exact h3
    have HF := Lib.hid (show sameR r q = false by unfold sameR; simp [h3])
    clear h3
    go_wp2
    go_ret
    exact ⟨by rw [HF.out]; rfl, BA.out⟩
  have d3 : (r.gone == q.gone) = true := by rw [beq_iff_eq]; exact h3
  have HF := Lib.hid (show sameR r q = sameP r.size r.len q.size q.len r.ds q.ds by unfold sameR; simp [HP.out, h1, h2, h3])
  clear h1 h2 h3
  go_wp2_with (first
    | (refine wpList_load_slot rfl 25 (.tmp 32) rfl ⟨w.heap.size, 4, none⟩ rfl [.int .i64 r.size, .int .i64 r.len, .slice a.D a.m a.k] _ (rcells_at X.out (three_at rfl rfl rfl)) Tryd.underlying25 rfl HL.out ?_)
    | (refine wpList_load_slot rfl 25 (.tmp 34) rfl ⟨w.heap.size + 1, 4, none⟩ rfl [.int .i64 q.size, .int .i64 q.len, .slice b.D b.m b.k] _ (rcells_at Y.out (three_at rfl rfl rfl)) Tryd.underlying25 rfl HL.out ?_)
    | fail)
  refine (list_v r.size r.len q.size q.len a.D b.D a.m a.k b.m b.k B r.ds q.ds w3 (HR.out.dg.below (BA.out.mono hB)) (HQ.out.dg.below (BA.out.mono hB)) (by omega) (by omega)).mono ?_
  rintro e w4 ⟨rfl, b3⟩
  clear c1 c2 c3 c4
  replace X := Lib.hid ((b3.block w.heap.size (by omega)).trans X.out)
  replace Y := Lib.hid ((b3.block (w.heap.size + 1) (by omega)).trans Y.out)
  replace BA := Lib.hid (BA.out.trans (b3.mono (by omega)))
  replace hz : w.heap.size + 2 ≤ w4.heap.size := by have := b3.size; omega
  clear b3
  cases hs : sameP r.size r.len q.size q.len r.ds q.ds
  all_goals
    rw [hs] at HF
    clear hs
    go_wp2
    go_ret
    exact ⟨by rw [HF.out]; rfl, BA.out⟩
theorem pick_v (k : Nat) (w : World) (hk : k < 2) : Calls Tryd.prog 16 #[.int .i64 (k : Int), .int .i64 2] w fun e w' => e = .returned (.int .i64 (k : Int)) ∧ w = w' := by
  obtain rfl | rfl : k = 0 ∨ k = 1 := by omega
  all_goals
    go_enter Tryd.func16, Tryd.ntmps16
    go_wp2
    go_ret
    exact ⟨rfl, rfl⟩
end Go.Proofs.YtndekohimfjdeaaDoor

namespace Go.Proofs.YtndekohimfjdeaaDoor
open Go.RowKit Go.Shelf
theorem hstep {w w' : World} {g : Nat} {o : Obj} (h : w.heap[g]? = some o) (b : Below w.heap.size w w') : w'.heap[g]? = some o := (b.block g (Array.getElem?_eq_some_iff.1 h).1).trans h
theorem RReads.step {w w' : World} {r : Rcd} {a : RSh} (h : RReads w w.heap.size r a) (b : Below w.heap.size w w') : RReads w' w'.heap.size r a := (h.below b).more b.size
theorem okR_iff (r : Rcd) : okR r = 0 ↔ checkL r.path = 0 ∧ okV 0 r.v = true ∧ chk r.size r.len r.ds.length ≠ 3 ∧ ¬(val r.v r.dev = 0 ∨ (r.gone = true ∧ emptyR r = false) ∨ (r.gone = false ∧ chk r.size r.len r.ds.length ≠ 0)) := by
  unfold okR
  constructor
  · intro h
    split at h
    · omega
    · rename_i h1
      split at h
      · cases h
      · rename_i h2
        split at h
        · cases h
        · rename_i h3
          split at h
          · cases h
          · rename_i h4
            exact ⟨by omega, by simpa using h2, h3, h4⟩
  · rintro ⟨h1, h2, h3, h4⟩
    rw [if_neg (by omega), if_neg (by rw [h2]; decide), if_neg h3, if_neg h4]
theorem twoE_iff (r q : Rcd) : twoE r q = 0 ↔ okR r = 0 ∧ okR q = 0 ∧ r.path = q.path := by
  unfold twoE
  constructor
  · intro h
    split at h
    · omega
    · split at h
      · omega
      · split at h
        · exact ⟨by omega, by omega, by assumption⟩
        · cases h
  · rintro ⟨h1, h2, h3⟩
    rw [if_neg (by omega), if_neg (by omega), if_pos h3]
theorem twoE_swap (r q : Rcd) : twoE r q = 0 ↔ twoE q r = 0 := by
  rw [twoE_iff, twoE_iff]
  constructor
  · rintro ⟨h1, h2, h3⟩; exact ⟨h2, h1, h3.symm⟩
  · rintro ⟨h1, h2, h3⟩; exact ⟨h2, h1, h3.symm⟩
section
variable {l m n : List (Int × Nat)}
theorem leF_refl (f : Int → Nat) : leF f f := fun _ _ _ => Nat.le_refl _
theorem cmp_of_le (hl : okV 0 l = true) (hm : okV 0 m = true) (h : leF (val l) (val m)) : cmpV l m = 2 ∨ cmpV l m = 1 := by
  have := (least_iff l m hl hm).2 h
  unfold leastV at this
  exact of_decide_eq_true this
theorem le_anti (hl : okV 0 l = true) (hm : okV 0 m = true) (h : leF (val l) (val m)) (h' : leF (val m) (val l)) : l = m := by
  have h1 := cmp_of_le hl hm h
  have h2 := cmp_of_le hm hl h'
  rw [cmp_turn l m hl hm] at h2
  refine (same_iff l m hl hm).1 ?_
  rcases h1 with e | e
  · rw [e] at h2
    simp [turnedV] at h2
  · exact e
theorem ok_merge2 (hl : okV 0 l = true) (hm : okV 0 m = true) : okV 0 (mergeV [l, m]) = true := ok_merge _ (by simp [allOk, hl, hm])
theorem merge_eat (hl : okV 0 l = true) (hm : okV 0 m = true) (h : leF (val m) (val l)) : mergeV [l, m] = l :=
  le_anti (ok_merge2 hl hm) hl (merge_least hl hm (leF_refl _) h) (merge_upper hl hm).1
end
/-- The settled one of two that may be. -/
def setX (r q : Rcd) : Rcd := {winX r q with v := mergeV [r.v, q.v]}
theorem setR_ok {r q : Rcd} (h : twoE r q = 0) : setR r q = (setX r q, 0) := by
  unfold setR
  rw [if_neg (fun x => x h)]
  rfl
theorem winX_cases (r q : Rcd) : winX r q = r ∨ winX r q = q := by unfold winX; split <;> simp
theorem setX_ok {r q : Rcd} (h : okR r = 0) (h' : okR q = 0) (hp : r.path = q.path) : okR (setX r q) = 0 ∧ (setX r q).path = r.path := by
  have hv := ok_merge2 (okR_v h) (okR_v h')
  have key : ∀ x : Rcd, okR x = 0 → leF (val x.v) (val (mergeV [r.v, q.v])) → okR {x with v := mergeV [r.v, q.v]} = 0 := by
    intro x hx hle
    obtain ⟨k1, k2, k3, k4⟩ := (okR_iff x).1 hx
    refine (okR_iff _).2 ⟨k1, hv, k3, fun hc => k4 ?_⟩
    rcases hc with hc | hc
    · refine .inl ?_
      dsimp only at hc
      by_cases hd : 1 ≤ x.dev ∧ x.dev ≤ 16
      · have := hle x.dev hd.1 hd.2
        omega
      · rcases Int.lt_or_le x.dev 1 with h1 | h1
        · exact val_low x.v 0 x.dev k2 (by omega)
        · exact val_hi x.v 0 x.dev k2 (by omega)
    · exact .inr hc
  have hu := merge_upper (okR_v h) (okR_v h')
  unfold setX
  rcases winX_cases r q with e | e <;> rw [e]
  · exact ⟨key r h hu.1, rfl⟩
  · exact ⟨key q h' hu.2, hp.symm⟩
theorem settle_each {r q : Rcd} (h : okR r = 0) (h' : okR q = 0) (hp : r.path = q.path) (o : Rcd) (ho : o = r ∨ o = q) :
    okR o = 0 ∧ o.path = (setX r q).path ∧ twoE (setX r q) o = 0 ∧ verR (setX (setX r q) o) (setX r q) = true ∧ doR (setX r q) o = (1, 0) ∧
      (cmpV (setX r q).v o.v = 1 ∧ doR o (setX r q) = (1, 0) ∨ cmpV (setX r q).v o.v = 3 ∧ doR o (setX r q) = (2, 0)) := by
  obtain ⟨hx, hxp⟩ := setX_ok h h' hp
  have hv := ok_merge2 (okR_v h) (okR_v h')
  have hu := merge_upper (okR_v h) (okR_v h')
  have hoo : okR o = 0 := by rcases ho with rfl | rfl <;> assumption
  have hop : o.path = (setX r q).path := by rw [hxp]; rcases ho with rfl | rfl; rfl; exact hp.symm
  have hol : leF (val o.v) (val (setX r q).v) := by rcases ho with rfl | rfl; exact hu.1; exact hu.2
  have htwo : twoE (setX r q) o = 0 := (twoE_iff _ _).2 ⟨hx, hoo, hop.symm⟩
  have hvx : okV 0 (setX r q).v = true := hv
  have heat : mergeV [(setX r q).v, o.v] = (setX r q).v := merge_eat hvx (okR_v hoo) hol
  have hc := cmp_of_le (okR_v hoo) hvx hol
  have hct := cmp_turn o.v (setX r q).v (okR_v hoo) hvx
  obtain ⟨d, n, e1, _, e3⟩ := do_ok hx hoo hop.symm
  obtain ⟨d', n', e1', _, e3'⟩ := do_ok hoo hx hop
  have hcc : cmpV (setX r q).v o.v = 1 ∧ cmpV o.v (setX r q).v = 1 ∨ cmpV (setX r q).v o.v = 3 ∧ cmpV o.v (setX r q).v = 2 := by
    rcases hc with e | e
    · rw [e] at hct
      exact .inr ⟨by rw [hct]; rfl, e⟩
    · rw [e] at hct
      exact .inl ⟨by rw [hct]; rfl, e⟩
  refine ⟨hoo, hop, htwo, ?_, ?_, ?_⟩
  · have e : (setX (setX r q) o).path = (setX r q).path := (setX_ok hx hoo hop.symm).2
    have ev : (setX (setX r q) o).v = (setX r q).v := heat
    unfold verR
    rw [e, ev, decide_eq_true rfl, (same_iff _ _ hvx hvx).2 rfl]
    rfl
  · rw [e1]
    rcases hcc with ⟨c1, _⟩ | ⟨c1, _⟩
    · rcases e3 with ⟨a1, a2⟩ | ⟨a1, a2⟩ | ⟨a1, a2⟩ | ⟨a1, a2⟩ | ⟨a1, a2⟩
      · rw [a2]
      all_goals (rw [c1] at a1; cases a1)
    · rcases e3 with ⟨a1, a2⟩ | ⟨a1, a2⟩ | ⟨a1, a2⟩ | ⟨a1, a2⟩ | ⟨a1, a2⟩
      · rw [c1] at a1; cases a1
      · rw [a2]
      all_goals (rw [c1] at a1; cases a1)
  · rw [e1']
    rcases hcc with ⟨c1, c2⟩ | ⟨c1, c2⟩
    · refine .inl ⟨c1, ?_⟩
      rcases e3' with ⟨a1, a2⟩ | ⟨a1, a2⟩ | ⟨a1, a2⟩ | ⟨a1, a2⟩ | ⟨a1, a2⟩
      · rw [a2]
      all_goals (rw [c2] at a1; cases a1)
    · refine .inr ⟨c1, ?_⟩
      rcases e3' with ⟨a1, a2⟩ | ⟨a1, a2⟩ | ⟨a1, a2⟩ | ⟨a1, a2⟩ | ⟨a1, a2⟩
      · rw [c2] at a1; cases a1
      · rw [c2] at a1; cases a1
      · rw [a2]
      all_goals (rw [c2] at a1; cases a1)
theorem setX_same {r q : Rcd} (h : okR r = 0) (h' : okR q = 0) (hp : r.path = q.path) (hs : cmpV r.v q.v = 1) : verR (setX r q) r = true ∧ (setX r q).v = r.v := by
  have e := (same_iff _ _ (okR_v h) (okR_v h')).1 hs
  have ev : (setX r q).v = r.v := merge_eat (okR_v h) (okR_v h') (by rw [e]; exact leF_refl _)
  refine ⟨?_, ev⟩
  unfold verR
  rw [(setX_ok h h' hp).2, ev, decide_eq_true rfl, (same_iff _ _ (okR_v h) (okR_v h)).2 rfl]
  rfl
theorem setX_swap {r q : Rcd} (h : okR r = 0) (h' : okR q = 0) (hs : cmpV r.v q.v ≠ 1) : setX q r = setX r q := by
  have hz : ordV r.v q.v ≠ 0 := fun x => hs ((ord_zero (okR_v h) (okR_v h')).1 x)
  have ht := ordV_turn r.v q.v
  have hw : winX q r = winX r q := by
    unfold winX
    by_cases h1 : 0 < ordV r.v q.v
    · rw [if_pos h1, if_neg (by omega)]
    · rw [if_neg h1, if_pos (by omega)]
  unfold setX
  rw [hw, merge_swap (okR_v h) (okR_v h')]
theorem sameR_self (r : Rcd) : sameR r r = true := by simp [sameR, sameP]
theorem sameP_self (s l : Int) (ds : List Dg) : sameP s l s l ds ds = true := by simp [sameP]
end Go.Proofs.YtndekohimfjdeaaDoor

namespace Go.Proofs.YtndekohimfjdeaaDoor
open Go.RowKit Go.Shelf
/-- The first one that may not be. -/
def badR : List Rcd → Nat
  | [] => 0
  | r :: l => if okR r ≠ 0 then okR r else badR l
/-- Which of the first ones wins. -/
def bestR (l : List Rcd) : Nat → Nat
  | 0 => 0
  | i + 1 => if 0 < ordV ((l[i]?).getD zeroR).v ((l[bestR l i]?).getD zeroR).v then i else bestR l i
def pathsR (l : List Rcd) : Bool := l.all fun r => decide (r.path = ((l[0]?).getD zeroR).path)
/-- Which of many wins. -/
def ofR (l : List Rcd) : Nat × Nat := if l.length = 0 then (0, 2) else if badR l ≠ 0 then (0, badR l) else if pathsR l then (bestR l l.length, 0) else (0, 2)
theorem best_lt (l : List Rcd) (h : 0 < l.length) : ∀ i, i ≤ l.length → bestR l i < l.length
  | 0, _ => h
  | i + 1, hi => by
    unfold bestR
    split
    · omega
    · exact best_lt l h i (by omega)
theorem bad_step {l : List Rcd} {k : Nat} {r : Rcd} (h : l[k]? = some r) : badR (l.drop k) = if okR r ≠ 0 then okR r else badR (l.drop (k + 1)) := by
  obtain ⟨hk, e⟩ := List.getElem?_eq_some_iff.1 h
  rw [List.drop_eq_getElem_cons hk, e]
  rfl
set_option maxRecDepth 100000 in
set_option maxHeartbeats 16000000 in
theorem of_v' (l : List (Rcd × RSh)) (A : Option Addr) (n c B : Nat) (w : World) (he : EnvM w) (hr : RRows w B A n l) (hB : B ≤ w.heap.size) (hn : n ≤ 1000000) :
    Calls Tryd.prog 19 #[.slice A n c] w fun e w' => e = .returned (.tuple #[.int .i64 ((ofR (l.map Prod.fst)).1 : Int), .int .i64 ((ofR (l.map Prod.fst)).2 : Int)]) ∧ Below w.heap.size w w' := by
  have HI := Lib.hid (show (Tryd.prog.info? 27).map (·.size) = some 7 by kernel_rfl)
  have HR := Lib.hid hr
  have HE := Lib.hid he
  have HLN := Lib.hid hr.len
  obtain ⟨o, ho⟩ : ∃ o, ofR (l.map Prod.fst) = o := ⟨_, rfl⟩
  rw [ho]
  unfold ofR at ho
  have HO := Lib.hid ho
  clear hr he ho
  go_enter Tryd.func19, Tryd.ntmps19
  by_cases h0 : n = 0
  · subst h0
    obtain rfl := if_p HO.out (by rw [List.length_map, HLN.out])
    go_wp2
    go_ret2
    exact ⟨rfl, Below.refl _ _⟩
  have dn : ((n : Int) == 0) = false := by rw [beq_eq_false_iff_ne]; omega
  replace HO := Lib.hid (if_n HO.out (by rw [List.length_map, HLN.out]; exact h0))
  go_upto_region 4 with fail
  go_loopw [15] (fun i wr => ∃ k : Nat, k ≤ n ∧ i = .int .i64 (k : Int) ∧ badR (l.map Prod.fst) = badR ((l.map Prod.fst).drop k) ∧ Below w.heap.size w wr) (fun i _ => n - (intOf i).toNat)
  case atStart => exact ⟨0, Nat.zero_le _, rfl, by rw [List.drop_zero], Below.refl _ _⟩
  case round =>
    obtain ⟨k, hk, rfl, hbad, hb⟩ := hrel
    have HBD := Lib.hid hbad
    clear hbad
    have k0 : (0 : Int) ≤ (k : Int) := by omega
    by_cases hlt : k < n
    · obtain ⟨ad, x, rfl, hx, hx2, hc⟩ := HR.out.at_ hlt
      have HX := Lib.hid (show (l.map Prod.fst)[k]? = some x.1 by rw [List.getElem?_map, hx]; rfl)
      have HC := Lib.hid (hc wr (hb.mono hB))
      have b1 := Lib.hid (hb.alloc hb.size (.cells #[.string (st x.1.path), .slice x.2.A x.2.n x.2.c, .int .i64 x.1.dev, .bool x.1.gone, .int .i64 x.1.size, .int .i64 x.1.len, .slice x.2.D x.2.m x.2.k] 27))
      have HX2 := Lib.hid ((hx2.below (b1.out.mono hB)))
      clear hx hc hx2
      go_wp2_with (first
        | (refine wpList_load_slot rfl 27 (.tmp 17) rfl (ad.add (k * 7)) rfl [.string (st x.1.path), .slice x.2.A x.2.n x.2.c, .int .i64 x.1.dev, .bool x.1.gone, .int .i64 x.1.size, .int .i64 x.1.len, .slice x.2.D x.2.m x.2.k] _ HC.out Tryd.underlying27 rfl HI.out ?_)
        | fail)
      refine (recCheck_v x.1 x.2 B _ (HE.out.below b1.out) HX2.out (Nat.le_trans hB b1.out.size)).mono ?_
      rintro e w4 ⟨rfl, b4⟩
      have E2 := Lib.hid (b1.out.trans (b4.mono b1.out.size))
      clear b4 b1 hb
      by_cases h3 : okR x.1 = 0
      · have d3 : ((okR x.1 : Int) != 0) = false := by rw [bne_eq_false_iff_eq]; omega
        have H3 := Lib.hid (show badR (l.map Prod.fst) = badR ((l.map Prod.fst).drop (k + 1)) by rw [HBD.out, bad_step HX.out, if_neg (by omega)])
        clear h3
        go_wp2
        go_roundw
        case rel => exact ⟨k + 1, hlt, by go_num, H3.out, E2.out⟩
        case measure => simp [intOf]; omega
      · have d3 : ((okR x.1 : Int) != 0) = true := by rw [bne_iff_ne]; omega
        have H3 : badR (l.map Prod.fst) = okR x.1 := by rw [HBD.out, bad_step HX.out, if_pos h3]
        obtain rfl := if_p HO.out (by rw [H3]; exact h3)
        have H4 := Lib.hid H3
        clear h3 H3
        go_wp2
        go_ret2
        exact ⟨by rw [H4.out]; rfl, E2.out⟩
    · obtain rfl : k = n := by omega
      have hb0 : badR (l.map Prod.fst) = 0 := by
        rw [HBD.out, List.drop_of_length_le (by rw [List.length_map, HLN.out]; exact Nat.le_refl _)]
        rfl
      replace HO := Lib.hid (if_n HO.out (fun h => h hb0))
      clear hb0 hlt HBD
      have E0 := Lib.hid hb
      clear hb
      go_upto_region 12 with fail
      go_loopw [7, 27] (fun bs i wr => ∃ j : Nat, j ≤ k ∧ i = .int .i64 (j : Int) ∧ bs = .int .i64 (bestR (l.map Prod.fst) j : Int) ∧ (((l.map Prod.fst).take j).all fun r => decide (r.path = (((l.map Prod.fst)[0]?).getD zeroR).path)) = true ∧ Below w.heap.size w wr) (fun _ i _ => k - (intOf i).toNat)
      case atStart => exact ⟨0, Nat.zero_le _, rfl, rfl, rfl, E0.out⟩
      case round =>
        obtain ⟨j, hj, rfl, rfl, hal, hb⟩ := hrel
        have HA := Lib.hid hal
        clear hal
        have j0 : (0 : Int) ≤ (j : Int) := by omega
        by_cases hlt : j < k
        · obtain ⟨ad, x, rfl, hx, hx2, hc⟩ := HR.out.at_ hlt
          obtain ⟨ad', x0, hA', hx0, hx02, hc0⟩ := HR.out.at_ (show 0 < k by omega)
          obtain rfl := Option.some.inj hA'
          have hbl := best_lt (l.map Prod.fst) (by rw [List.length_map, HLN.out]; omega) j (by rw [List.length_map, HLN.out]; omega)
          rw [List.length_map, HLN.out] at hbl
          obtain ⟨ad', xb, hA'', hxb, hxb2, hcb⟩ := HR.out.at_ hbl
          obtain rfl := Option.some.inj hA''
          have HX := Lib.hid (show (l.map Prod.fst)[j]? = some x.1 by rw [List.getElem?_map, hx]; rfl)
          have HXB := Lib.hid (show (l.map Prod.fst)[bestR (l.map Prod.fst) j]? = some xb.1 by rw [List.getElem?_map, hxb]; rfl)
          have HX0 := Lib.hid (show (((l.map Prod.fst)[0]?).getD zeroR) = x0.1 by rw [List.getElem?_map, hx0]; rfl)
          have HBR := Lib.hid (show bestR (l.map Prod.fst) (j + 1) = if 0 < ordV x.1.v xb.1.v then j else bestR (l.map Prod.fst) j by rw [bestR, HX.out, HXB.out]; rfl)
          have HBL := Lib.hid hbl
          have b1 := Lib.hid (hb.alloc hb.size (.cells #[.string (st x.1.path), .slice x.2.A x.2.n x.2.c, .int .i64 x.1.dev, .bool x.1.gone, .int .i64 x.1.size, .int .i64 x.1.len, .slice x.2.D x.2.m x.2.k] 27))
          have bb := (Below.refl wr.heap.size wr).alloc (Nat.le_refl _) (.cells #[.string (st x.1.path), .slice x.2.A x.2.n x.2.c, .int .i64 x.1.dev, .bool x.1.gone, .int .i64 x.1.size, .int .i64 x.1.len, .slice x.2.D x.2.m x.2.k] 27)
          have HC := Lib.hid (hc wr (hb.mono hB))
          have PO := Lib.hid (heap_alloc_new wr (.cells #[.string (st x.1.path), .slice x.2.A x.2.n x.2.c, .int .i64 x.1.dev, .bool x.1.gone, .int .i64 x.1.size, .int .i64 x.1.len, .slice x.2.D x.2.m x.2.k] 27))
          have p0 : (wr.alloc (.cells #[.string (st x.1.path), .slice x.2.A x.2.n x.2.c, .int .i64 x.1.dev, .bool x.1.gone, .int .i64 x.1.size, .int .i64 x.1.len, .slice x.2.D x.2.m x.2.k] 27)).cell? ⟨wr.heap.size, 0, none⟩ = some (.string (st x.1.path)) := by rw [cell_of_row _ _ 0 _ _ _ PO.out]; rfl
          have p1 : (wr.alloc (.cells #[.string (st x.1.path), .slice x.2.A x.2.n x.2.c, .int .i64 x.1.dev, .bool x.1.gone, .int .i64 x.1.size, .int .i64 x.1.len, .slice x.2.D x.2.m x.2.k] 27)).cell? ad = some (.string (st x0.1.path)) := by
            have := hc0 _ (b1.out.mono hB) 0 _ rfl
            rwa [add_zero, show 0 * 7 = 0 from rfl, add_zero] at this
          have HCB := Lib.hid (hcb _ (b1.out.mono hB))
          have HX2 := Lib.hid ((hx2.below (b1.out.mono hB)).more (Nat.le_trans hB b1.out.size))
          have HXB2 := Lib.hid ((hxb2.below (b1.out.mono hB)).more (Nat.le_trans hB b1.out.size))
          clear hc hc0 hcb hx hx0 hxb hx2 hx02 hxb2 hA' hA'' hb bb
          go_upto_region 14 with (first
            | (refine wpList_load_slot rfl 27 (.tmp 30) rfl (ad.add (j * 7)) rfl [.string (st x.1.path), .slice x.2.A x.2.n x.2.c, .int .i64 x.1.dev, .bool x.1.gone, .int .i64 x.1.size, .int .i64 x.1.len, .slice x.2.D x.2.m x.2.k] _ HC.out Tryd.underlying27 rfl HI.out ?_)
            | fail)
          have dp := st_beq x.1.path x0.1.path
          clear HC
          generalize wr.alloc (.cells #[.string (st x.1.path), .slice x.2.A x.2.n x.2.c, .int .i64 x.1.dev, .bool x.1.gone, .int .i64 x.1.size, .int .i64 x.1.len, .slice x.2.D x.2.m x.2.k] 27) = w1 at *
          generalize wr.heap.size = go at *
          by_cases hp : x.1.path = x0.1.path
          case neg =>
            rw [decide_eq_false hp] at dp
            have HPN := Lib.hid hp
            clear hp
            have hpf : pathsR (l.map Prod.fst) = false := all_not HX.out (decide_eq_false (by rw [HX0.out]; exact HPN.out))
            obtain rfl := if_n HO.out (by rw [hpf]; decide)
            clear hpf
            go_quiet (fail)
            go_wp2
            go_ret2
            exact ⟨rfl, below_drewN b1.out _⟩
          rw [decide_eq_true hp] at dp
          have HAN := Lib.hid (all_step HA.out HX.out (decide_eq_true (show x.1.path = (((l.map Prod.fst)[0]?).getD zeroR).path by rw [HX0.out]; exact hp)))
          clear hp
          go_quiet (fail)
          clear p0 p1 dp
          go_upto_region 16 with fail
          have j1 : (0 : Int) ≤ (bestR (l.map Prod.fst) j : Int) := by omega
          have j2 : (bestR (l.map Prod.fst) j : Int) < (k : Int) := by have := HBL.out; omega
          refine wp_region_text [(0, false), (1, false), (2, false), (3, false), (4, false), (5, false), (6, false), (7, true)] (fun V => V.heap[go]? = some (.cells #[.string (st x.1.path), .slice x.2.A x.2.n x.2.c, .int .i64 x.1.dev, .bool x.1.gone, .int .i64 x.1.size, .int .i64 x.1.len, .slice x.2.D x.2.m x.2.k] 27 (0, 0)) ∧ ∀ j' u, (rcC xb)[j']? = some u → V.cell? ((ad.add (bestR (l.map Prod.fst) j * 7)).add j') = some u) (by kernel_rfl) (by kernel_rfl) (by kernel_rfl) (by kernel_rfl) (by kernel_rfl) (fun _ => ?_)
          simp only [outOf, List.getElem?_cons_zero, List.getElem?_cons_succ, Option.getD_some]
          have hS : (w1.drewN nq).drew.heap[go]? = some (.cells #[.string (st x.1.path), .slice x.2.A x.2.n x.2.c, .int .i64 x.1.dev, .bool x.1.gone, .int .i64 x.1.size, .int .i64 x.1.len, .slice x.2.D x.2.m x.2.k] 27 (0, 0)) ∧ ∀ j' u, (rcC xb)[j']? = some u → (w1.drewN nq).drew.cell? ((ad.add (bestR (l.map Prod.fst) j * 7)).add j') = some u := ⟨PO.out, HCB.out⟩
          have T2 := Lib.hid (below_drewN b1.out nq).drew
          have R1 := Lib.hid (show RReads (w1.drewN nq).drew (w1.drewN nq).drew.heap.size x.1 x.2 from ⟨HX2.out.cs, HX2.out.dg, HX2.out.hn, HX2.out.hm, HX2.out.ft⟩)
          have R2 := Lib.hid (show RReads (w1.drewN nq).drew (w1.drewN nq).drew.heap.size xb.1 xb.2 from ⟨HXB2.out.cs, HXB2.out.dg, HXB2.out.hn, HXB2.out.hm, HXB2.out.ft⟩)
          generalize (w1.drewN nq).drew = w3 at *
          refine TW.val2 (v := .agg #[.string (st x.1.path), .slice x.2.A x.2.n x.2.c, .int .i64 x.1.dev, .bool x.1.gone, .int .i64 x.1.size, .int .i64 x.1.len, .slice x.2.D x.2.m x.2.k]) ?_ ?_ ?_ ?_ ?_
          (focus rfl)
          (focus exact fun V hV => exec_load_slot 27 (.tmp 9) rfl ⟨go, 0, none⟩ rfl [.string (st x.1.path), .slice x.2.A x.2.n x.2.c, .int .i64 x.1.dev, .bool x.1.gone, .int .i64 x.1.size, .int .i64 x.1.len, .slice x.2.D x.2.m x.2.k] _ (rcells_at hV.1 arr_at) Tryd.underlying27 rfl HI.out)
          (focus exact fun _ _ _ h => h)
          (focus exact hS)
          simp only [Act.put, List.setIfInBounds_toArray, List.set_cons_zero, List.set_cons_succ]
          iterate 4 ((first | (refine TW.val2 (v := ?_) ?_ ?_ ?_ ?_ ?_; rotate_left; (focus rfl); (focus (intro W hSW; (try dsimp only at hSW); (try (obtain ⟨hS1, hSW⟩ := hSW)); (try (obtain ⟨hS2, hSW⟩ := hSW)); (try (obtain ⟨hS3, hSW⟩ := hSW)); (try (obtain ⟨hS4, hSW⟩ := hSW)); (try (obtain ⟨hS5, hSW⟩ := hSW)); (try (obtain ⟨hS6, hSW⟩ := hSW)); (try (obtain ⟨hS7, hSW⟩ := hSW)); (try (obtain ⟨hS8, hSW⟩ := hSW)); go_simp; (try with_reducible rfl); done)); (focus exact fun _ _ _ h => h); (focus assumption)) | (refine TW.skip (e := false) ?_ ?_ ?_ ?_; (focus rfl); (focus exact fun _ _ _ h => h); (focus assumption))); simp only [Act.put, List.setIfInBounds_toArray, List.set_cons_zero, List.set_cons_succ])
          refine TW.val2 (v := .agg #[.string (st xb.1.path), .slice xb.2.A xb.2.n xb.2.c, .int .i64 xb.1.dev, .bool xb.1.gone, .int .i64 xb.1.size, .int .i64 xb.1.len, .slice xb.2.D xb.2.m xb.2.k]) ?_ ?_ ?_ ?_ ?_
          (focus rfl)
          (focus exact fun V hV => exec_load_slot 27 (.tmp 43) rfl (ad.add (bestR (l.map Prod.fst) j * 7)) rfl [.string (st xb.1.path), .slice xb.2.A xb.2.n xb.2.c, .int .i64 xb.1.dev, .bool xb.1.gone, .int .i64 xb.1.size, .int .i64 xb.1.len, .slice xb.2.D xb.2.m xb.2.k] _ hV.2 Tryd.underlying27 rfl HI.out)
          (focus exact fun _ _ _ h => h)
          (focus exact hS)
          simp only [Act.put, List.setIfInBounds_toArray, List.set_cons_zero, List.set_cons_succ]
          iterate 1 ((first | (refine TW.val2 (v := ?_) ?_ ?_ ?_ ?_ ?_; rotate_left; (focus rfl); (focus (intro W hSW; (try dsimp only at hSW); (try (obtain ⟨hS1, hSW⟩ := hSW)); (try (obtain ⟨hS2, hSW⟩ := hSW)); (try (obtain ⟨hS3, hSW⟩ := hSW)); (try (obtain ⟨hS4, hSW⟩ := hSW)); (try (obtain ⟨hS5, hSW⟩ := hSW)); (try (obtain ⟨hS6, hSW⟩ := hSW)); (try (obtain ⟨hS7, hSW⟩ := hSW)); (try (obtain ⟨hS8, hSW⟩ := hSW)); go_simp; (try with_reducible rfl); done)); (focus exact fun _ _ _ h => h); (focus assumption)) | (refine TW.skip (e := false) ?_ ?_ ?_ ?_; (focus rfl); (focus exact fun _ _ _ h => h); (focus assumption))); simp only [Act.put, List.setIfInBounds_toArray, List.set_cons_zero, List.set_cons_succ])
          refine TW.eff (by rfl) (fun K hK => ?_); go_simp
          refine (beats_v x.1 xb.1 x.2 xb.2 w3.heap.size w3 R1.out R2.out (Nat.le_refl _)).mono ?_
          rintro e w4 ⟨rfl, b4⟩
          have hS2 : w4.heap[go]? = some (.cells #[.string (st x.1.path), .slice x.2.A x.2.n x.2.c, .int .i64 x.1.dev, .bool x.1.gone, .int .i64 x.1.size, .int .i64 x.1.len, .slice x.2.D x.2.m x.2.k] 27 (0, 0)) ∧ ∀ j' u, (rcC xb)[j']? = some u → w4.cell? ((ad.add (bestR (l.map Prod.fst) j * 7)).add j') = some u := ⟨hstep hS.1 b4, fun j' u hu => (b4.cell (World.block_lt_of_cell? w3 _ (hS.2 j' u hu))).trans (hS.2 j' u hu)⟩
          have E2 := Lib.hid (T2.out.trans (b4.mono T2.out.size))
          clear hS b4
          refine hK.out _ _ hS2 ?_
          clear hK hS2
          (try simp only [Act.put, List.setIfInBounds_toArray, List.set_cons_zero, List.set_cons_succ])
          refine TW.done ?_
          by_cases h5 : 0 < ordV x.1.v xb.1.v
          · rw [if_pos h5] at HBR
            rw [decide_eq_true h5]
            clear h5
            go_wp2
            go_roundw
            case rel => exact ⟨j + 1, hlt, by go_num, by rw [HBR.out], HAN.out, E2.out⟩
            case measure => simp [intOf]; omega
          · rw [if_neg h5] at HBR
            rw [decide_eq_false h5]
            clear h5
            go_wp2
            go_roundw
            case rel => exact ⟨j + 1, hlt, by go_num, by rw [HBR.out], HAN.out, E2.out⟩
            case measure => simp [intOf]; omega
        · obtain rfl : j = k := by omega
          have hpt : pathsR (l.map Prod.fst) = true := by
            have := HA.out
            rwa [List.take_of_length_le (by rw [List.length_map, HLN.out]; exact Nat.le_refl _)] at this
          have h1 := if_p HO.out hpt
          rw [List.length_map, HLN.out] at h1
          obtain rfl := h1
          have EB := Lib.hid hb
          clear hpt hb
          go_wp2
          go_ret2
          exact ⟨rfl, EB.out⟩
end Go.Proofs.YtndekohimfjdeaaDoor

namespace Go.Proofs.YtndekohimfjdeaaDoor
open Go.RowKit Go.Shelf
theorem rowL {W : World} {g k : Nat} {L : List (Rcd × RSh)} {z : Rcd × RSh} {t : TypeId} {fr : Nat × Nat} (h : W.heap[g]? = some (.cells (L.flatMap rcC).toArray t fr)) (hz : L[k]? = some z) :
    ∀ j u, (rcC z)[j]? = some u → W.cell? ((⟨g, k * 7, none⟩ : Addr).add j) = some u := by
  refine rcells_at h fun j v hv => ?_
  have hj : j < 7 := by
    have := (List.getElem?_eq_some_iff.1 hv).1
    rwa [rcC_len] at this
  rw [List.getElem?_toArray, flat_at rcC_len L hz hj]
  exact hv
theorem readsL {w : World} {B g : Nat} {L : List (Rcd × RSh)} {t : TypeId} {fr : Nat × Nat} (h : w.heap[g]? = some (.cells (L.flatMap rcC).toArray t fr)) (hg : g < B) : Reads w B 7 (some ⟨g, 0, none⟩) L.length (L.flatMap rcC) := by
  refine ⟨flat_len rcC_len L, fun _ => ⟨_, rfl, hg, fun j u hu => ?_⟩⟩
  exact rcells_at (o := 0) h (fun j v hv => by simpa using hv) j u hu
theorem rowsL {w : World} {B g : Nat} {L : List (Rcd × RSh)} {t : TypeId} {fr : Nat × Nat} (h : w.heap[g]? = some (.cells (L.flatMap rcC).toArray t fr)) (hg : g < B) (al : ∀ x ∈ L, RReads w B x.1 x.2) : RRows w B (some ⟨g, 0, none⟩) L.length L := ⟨readsL h hg, al⟩
theorem ord_self (l : List (Int × Nat)) : ordV l l = 0 := by have := ordV_turn l l; omega
/-- The best one is not beaten. -/
theorem best_max (l : List Rcd) (hv : ∀ r ∈ l, okV 0 r.v = true) : ∀ k, k ≤ l.length → ∀ i, i < k → ordV ((l[i]?).getD zeroR).v ((l[bestR l k]?).getD zeroR).v ≤ 0
  | 0, _, i, hi => by omega
  | k + 1, hk, i, hi => by
    have hget : ∀ j, j < l.length → okV 0 ((l[j]?).getD zeroR).v = true := fun j hj => by
      rw [List.getElem?_eq_getElem hj]
      exact hv _ (List.getElem_mem hj)
    have ih := best_max l hv k (by omega)
    have hb := best_lt l (by omega) k (by omega)
    rw [bestR]
    by_cases h : 0 < ordV ((l[k]?).getD zeroR).v ((l[bestR l k]?).getD zeroR).v
    · rw [if_pos h]
      rcases Nat.lt_or_ge i k with h1 | h1
      · have ht := ordV_turn ((l[k]?).getD zeroR).v ((l[bestR l k]?).getD zeroR).v
        exact (ord_trans (hget i (by omega)) (hget _ hb) (hget k (by omega)) (ih i h1) (by omega)).1
      · obtain rfl : i = k := by omega
        rw [ord_self]
        exact Int.le_refl _
    · rw [if_neg h]
      rcases Nat.lt_or_ge i k with h1 | h1
      · exact ih i h1
      · obtain rfl : i = k := by omega
        omega
theorem of_ok {l : List Rcd} (hl : l ≠ []) (h : ∀ r ∈ l, okR r = 0) (hp : ∀ r ∈ l, r.path = ((l[0]?).getD zeroR).path) : ofR l = (bestR l l.length, 0) := by
  unfold ofR
  have hb : badR l = 0 := by
    clear hl hp
    induction l with
    | nil => rfl
    | cons r l ih =>
      unfold badR
      rw [if_neg (by have := h r List.mem_cons_self; omega)]
      exact ih fun x hx => h x (List.mem_cons_of_mem _ hx)
  rw [if_neg (by simpa using hl), if_neg (by omega), if_pos]
  unfold pathsR
  rw [List.all_eq_true]
  intro r hr
  exact decide_eq_true (hp r hr)
section
variable {a b c : Rcd} (ha : okR a = 0) (hb : okR b = 0) (hc : okR c = 0) (hab : a.path = b.path) (hbc : b.path = c.path)
include ha hb hab
theorem win_lt : (winR a b = (1, 0) ∧ ordV a.v b.v < 0) ∨ (winR a b = (0, 0) ∧ 0 ≤ ordV a.v b.v) := by
  rw [win_ok ha hb hab]
  have := ordV_turn a.v b.v
  by_cases h : 0 < ordV b.v a.v
  · rw [if_pos h]; exact .inl ⟨rfl, by omega⟩
  · rw [if_neg h]; exact .inr ⟨rfl, by omega⟩
theorem ver_iff : verR a b = true ↔ ordV a.v b.v = 0 := by
  unfold verR
  rw [decide_eq_true hab, ord_zero (okR_v ha) (okR_v hb)]
  simp
include hc hbc
/-- The answers of the comparisons of three. -/
theorem three_win : ∃ x y z w : Nat, ∃ s : Bool, winR a b = (x, 0) ∧ winR b a = (y, 0) ∧ winR b c = (z, 0) ∧ winR a c = (w, 0) ∧ verR a b = s ∧
    (s = true ∧ x = 0 ∧ y = 0 ∨ s = false ∧ x = 1 ∧ y = 0 ∨ s = false ∧ x = 0 ∧ y = 1) ∧ (z = 0 ∨ z = 1) ∧ (w = 0 ∨ w = 1) ∧ ¬(x = 1 ∧ z = 1 ∧ w = 0) ∧ ¬(x = 0 ∧ z = 0 ∧ w = 1) := by
  have h1 := win_lt ha hb hab
  have h2 := win_lt hb ha hab.symm
  have h3 := win_lt hb hc hbc
  have h4 := win_lt ha hc (hab.trans hbc)
  have t := ordV_turn a.v b.v
  have t2 := ordV_turn b.v c.v
  have t3 := ordV_turn a.v c.v
  have f := ord_trans (okR_v ha) (okR_v hb) (okR_v hc)
  have g := ord_trans (okR_v hc) (okR_v hb) (okR_v ha)
  have hs := ver_iff ha hb hab
  obtain ⟨s, hs0⟩ : ∃ s, verR a b = s := ⟨_, rfl⟩
  rw [hs0] at hs
  have key : ∀ x y z w : Nat, winR a b = (x, 0) → winR b a = (y, 0) → winR b c = (z, 0) → winR a c = (w, 0) →
      ((x = 1 ∧ ordV a.v b.v < 0) ∨ (x = 0 ∧ 0 ≤ ordV a.v b.v)) → ((y = 1 ∧ ordV b.v a.v < 0) ∨ (y = 0 ∧ 0 ≤ ordV b.v a.v)) → ((z = 1 ∧ ordV b.v c.v < 0) ∨ (z = 0 ∧ 0 ≤ ordV b.v c.v)) → ((w = 1 ∧ ordV a.v c.v < 0) ∨ (w = 0 ∧ 0 ≤ ordV a.v c.v)) →
      ∃ x y z w : Nat, ∃ s : Bool, winR a b = (x, 0) ∧ winR b a = (y, 0) ∧ winR b c = (z, 0) ∧ winR a c = (w, 0) ∧ verR a b = s ∧
    (s = true ∧ x = 0 ∧ y = 0 ∨ s = false ∧ x = 1 ∧ y = 0 ∨ s = false ∧ x = 0 ∧ y = 1) ∧ (z = 0 ∨ z = 1) ∧ (w = 0 ∨ w = 1) ∧ ¬(x = 1 ∧ z = 1 ∧ w = 0) ∧ ¬(x = 0 ∧ z = 0 ∧ w = 1) := by
    intro x y z w e1 e2 e3 e4 k1 k2 k3 k4
    refine ⟨x, y, z, w, s, e1, e2, e3, e4, hs0, ?_, by omega, by omega, ?_, ?_⟩
    · cases s
      · have : ordV a.v b.v ≠ 0 := fun h => by have := hs.2 h; cases this
        simp
        omega
      · have := hs.1 rfl
        simp
        omega
    · rintro ⟨rfl, rfl, rfl⟩
      have := (f (by omega) (by omega)).2 (by omega)
      omega
    · rintro ⟨rfl, rfl, rfl⟩
      have := (g (by omega) (by omega)).1
      omega
  rcases h1 with ⟨e1, k1⟩ | ⟨e1, k1⟩ <;> rcases h2 with ⟨e2, k2⟩ | ⟨e2, k2⟩ <;> rcases h3 with ⟨e3, k3⟩ | ⟨e3, k3⟩ <;> rcases h4 with ⟨e4, k4⟩ | ⟨e4, k4⟩ <;>
    exact key _ _ _ _ e1 e2 e3 e4 (by omega) (by omega) (by omega) (by omega)
/-- Of three: the best one, in either order; it is not beaten. -/
theorem three_of : ∃ n m : Nat, ∃ p q : Rcd, ofR [a, b, c] = (n, 0) ∧ ofR [c, b, a] = (m, 0) ∧ n < 3 ∧ m < 3 ∧ [a, b, c][n]? = some p ∧ [a, b, c][2 - m]? = some q ∧ verR p q = true ∧ ∀ r ∈ [a, b, c], winR p r = (0, 0) := by
  have hal : ∀ r ∈ [a, b, c], okR r = 0 ∧ r.path = a.path := by
    intro r hr
    simp only [List.mem_cons, List.not_mem_nil, or_false] at hr
    rcases hr with rfl | rfl | rfl
    · exact ⟨ha, rfl⟩
    · exact ⟨hb, hab.symm⟩
    · exact ⟨hc, (hab.trans hbc).symm⟩
  have hal2 : ∀ r ∈ [c, b, a], okR r = 0 ∧ r.path = c.path := by
    intro r hr
    simp only [List.mem_cons, List.not_mem_nil, or_false] at hr
    rcases hr with rfl | rfl | rfl
    · exact ⟨hc, rfl⟩
    · exact ⟨hb, hbc⟩
    · exact ⟨ha, hab.trans hbc⟩
  have e1 := of_ok (l := [a, b, c]) (by simp) (fun r hr => (hal r hr).1) (fun r hr => (hal r hr).2)
  have e2 := of_ok (l := [c, b, a]) (by simp) (fun r hr => (hal2 r hr).1) (fun r hr => (hal2 r hr).2)
  have n1 := best_lt [a, b, c] (by simp) 3 (by simp)
  have n2 := best_lt [c, b, a] (by simp) 3 (by simp)
  have m1 := best_max [a, b, c] (fun r hr => okR_v (hal r hr).1) 3 (by simp)
  have m2 := best_max [c, b, a] (fun r hr => okR_v (hal2 r hr).1) 3 (by simp)
  generalize hn : bestR [a, b, c] 3 = n at *
  generalize hm : bestR [c, b, a] 3 = m at *
  simp only [List.length_cons, List.length_nil] at e1 e2 n1 n2
  obtain ⟨p, hp⟩ : ∃ p, [a, b, c][n]? = some p := ⟨_, List.getElem?_eq_getElem (by simp; omega)⟩
  obtain ⟨q, hq⟩ : ∃ q, [c, b, a][m]? = some q := ⟨_, List.getElem?_eq_getElem (by simp; omega)⟩
  have hq2 : [a, b, c][2 - m]? = some q := by
    rcases (show m = 0 ∨ m = 1 ∨ m = 2 by omega) with rfl | rfl | rfl <;> exact hq
  have hpm := hal p (List.mem_of_getElem? hp)
  have hqm := hal q (List.mem_of_getElem? hq2)
  rw [hp] at m1
  rw [hq] at m2
  simp only [Option.getD_some] at m1 m2
  have k1 : ∀ r ∈ [a, b, c], ordV r.v p.v ≤ 0 := by
    intro r hr
    simp only [List.mem_cons, List.not_mem_nil, or_false] at hr
    rcases hr with rfl | rfl | rfl
    · exact m1 0 (by omega)
    · exact m1 1 (by omega)
    · exact m1 2 (by omega)
  have k2 : ∀ r ∈ [a, b, c], ordV r.v q.v ≤ 0 := by
    intro r hr
    simp only [List.mem_cons, List.not_mem_nil, or_false] at hr
    rcases hr with rfl | rfl | rfl
    · exact m2 2 (by omega)
    · exact m2 1 (by omega)
    · exact m2 0 (by omega)
  refine ⟨n, m, p, q, e1, e2, by omega, by omega, hp, hq2, ?_, fun r hr => ?_⟩
  · refine (ver_iff hpm.1 hqm.1 (hpm.2.trans hqm.2.symm)).2 ?_
    have h1 := k1 q (List.mem_of_getElem? hq2)
    have h2 := k2 p (List.mem_of_getElem? hp)
    have := ordV_turn p.v q.v
    omega
  · rcases win_lt hpm.1 (hal r hr).1 (hpm.2.trans (hal r hr).2.symm) with ⟨_, h⟩ | ⟨h, _⟩
    · have h1 := k1 r hr
      have := ordV_turn p.v r.v
      omega
    · exact h
end
/-- What is settled is behind neither. -/
theorem settle_behind {a b : Rcd} (ha : okR a = 0) (hb : okR b = 0) (hab : a.path = b.path) : behindR a (setX a b) = true ∧ behindR b (setX a b) = true ∧ (setX b a).v = (setX a b).v := by
  have hu := merge_upper (okR_v ha) (okR_v hb)
  have hm := ok_merge2 (okR_v ha) (okR_v hb)
  exact ⟨decide_eq_true (cmp_of_le (okR_v ha) hm hu.1), decide_eq_true (cmp_of_le (okR_v hb) hm hu.2), merge_swap (okR_v ha) (okR_v hb)⟩
end Go.Proofs.YtndekohimfjdeaaDoor

namespace Go.Proofs.YtndekohimfjdeaaDoor
open Go.RowKit Go.Shelf
set_option maxRecDepth 100000 in
set_option maxHeartbeats 16000000 in
theorem orders_v (r q s : Rcd) (a b d : RSh) (B : Nat) (w : World) (he : EnvM w) (hr : RIn w B r a) (hq : RIn w B q b) (hs : RIn w B s d) (hB : B ≤ w.heap.size) :
    Calls Tryd.prog 5 #[.agg #[.string (st r.path), .slice a.A a.n a.c, .int .i64 r.dev, .bool r.gone, .int .i64 r.size, .int .i64 r.len, .slice a.D a.m a.k], .agg #[.string (st q.path), .slice b.A b.n b.c, .int .i64 q.dev, .bool q.gone, .int .i64 q.size, .int .i64 q.len, .slice b.D b.m b.k], .agg #[.string (st s.path), .slice d.A d.n d.c, .int .i64 s.dev, .bool s.gone, .int .i64 s.size, .int .i64 s.len, .slice d.D d.m d.k]] w fun e w' => e = .returned (.bool true) ∧ Below w.heap.size w w' := by
  have HI := Lib.hid (show (Tryd.prog.info? 27).map (·.size) = some 7 by kernel_rfl)
  have BA := Lib.hid ((((Below.refl w.heap.size w).alloc (Nat.le_refl _) (.cells #[.string (st r.path), .slice a.A a.n a.c, .int .i64 r.dev, .bool r.gone, .int .i64 r.size, .int .i64 r.len, .slice a.D a.m a.k] 27)).alloc (by simp) (.cells #[.string (st q.path), .slice b.A b.n b.c, .int .i64 q.dev, .bool q.gone, .int .i64 q.size, .int .i64 q.len, .slice b.D b.m b.k] 27)).alloc (by simp; omega) (.cells #[.string (st s.path), .slice d.A d.n d.c, .int .i64 s.dev, .bool s.gone, .int .i64 s.size, .int .i64 s.len, .slice d.D d.m d.k] 27))
  have hz2 : ((w.alloc (.cells #[.string (st r.path), .slice a.A a.n a.c, .int .i64 r.dev, .bool r.gone, .int .i64 r.size, .int .i64 r.len, .slice a.D a.m a.k] 27)).alloc (.cells #[.string (st q.path), .slice b.A b.n b.c, .int .i64 q.dev, .bool q.gone, .int .i64 q.size, .int .i64 q.len, .slice b.D b.m b.k] 27)).heap.size = w.heap.size + 2 := by simp
  have X := Lib.hid ((Below.heap_alloc _ (.cells #[.string (st s.path), .slice d.A d.n d.c, .int .i64 s.dev, .bool s.gone, .int .i64 s.size, .int .i64 s.len, .slice d.D d.m d.k] 27) w.heap.size (by omega)).trans (heap_alloc2_old w (.cells #[.string (st r.path), .slice a.A a.n a.c, .int .i64 r.dev, .bool r.gone, .int .i64 r.size, .int .i64 r.len, .slice a.D a.m a.k] 27) (.cells #[.string (st q.path), .slice b.A b.n b.c, .int .i64 q.dev, .bool q.gone, .int .i64 q.size, .int .i64 q.len, .slice b.D b.m b.k] 27)))
  have Y := Lib.hid ((Below.heap_alloc _ (.cells #[.string (st s.path), .slice d.A d.n d.c, .int .i64 s.dev, .bool s.gone, .int .i64 s.size, .int .i64 s.len, .slice d.D d.m d.k] 27) (w.heap.size + 1) (by omega)).trans (heap_alloc2_new w (.cells #[.string (st r.path), .slice a.A a.n a.c, .int .i64 r.dev, .bool r.gone, .int .i64 r.size, .int .i64 r.len, .slice a.D a.m a.k] 27) (.cells #[.string (st q.path), .slice b.A b.n b.c, .int .i64 q.dev, .bool q.gone, .int .i64 q.size, .int .i64 q.len, .slice b.D b.m b.k] 27)))
  have Z := Lib.hid (show (((w.alloc (.cells #[.string (st r.path), .slice a.A a.n a.c, .int .i64 r.dev, .bool r.gone, .int .i64 r.size, .int .i64 r.len, .slice a.D a.m a.k] 27)).alloc (.cells #[.string (st q.path), .slice b.A b.n b.c, .int .i64 q.dev, .bool q.gone, .int .i64 q.size, .int .i64 q.len, .slice b.D b.m b.k] 27)).alloc (.cells #[.string (st s.path), .slice d.A d.n d.c, .int .i64 s.dev, .bool s.gone, .int .i64 s.size, .int .i64 s.len, .slice d.D d.m d.k] 27)).heap[w.heap.size + 2]? = some (.cells #[.string (st s.path), .slice d.A d.n d.c, .int .i64 s.dev, .bool s.gone, .int .i64 s.size, .int .i64 s.len, .slice d.D d.m d.k] 27 (0, 0)) from by
    have e := heap_alloc_new ((w.alloc (.cells #[.string (st r.path), .slice a.A a.n a.c, .int .i64 r.dev, .bool r.gone, .int .i64 r.size, .int .i64 r.len, .slice a.D a.m a.k] 27)).alloc (.cells #[.string (st q.path), .slice b.A b.n b.c, .int .i64 q.dev, .bool q.gone, .int .i64 q.size, .int .i64 q.len, .slice b.D b.m b.k] 27)) (.cells #[.string (st s.path), .slice d.A d.n d.c, .int .i64 s.dev, .bool s.gone, .int .i64 s.size, .int .i64 s.len, .slice d.D d.m d.k] 27)
    rwa [hz2] at e)
  have HR0 := Lib.hid hr
  have HQ0 := Lib.hid hq
  have HS0 := Lib.hid hs
  have HE := Lib.hid (he.below BA.out)
  clear hr hq hs he hz2
  go_enter Tryd.func5, Tryd.ntmps5
  go_upto_region 1 with fail
  generalize (((w.alloc (.cells #[.string (st r.path), .slice a.A a.n a.c, .int .i64 r.dev, .bool r.gone, .int .i64 r.size, .int .i64 r.len, .slice a.D a.m a.k] 27)).alloc (.cells #[.string (st q.path), .slice b.A b.n b.c, .int .i64 q.dev, .bool q.gone, .int .i64 q.size, .int .i64 q.len, .slice b.D b.m b.k] 27)).alloc (.cells #[.string (st s.path), .slice d.A d.n d.c, .int .i64 s.dev, .bool s.gone, .int .i64 s.size, .int .i64 s.len, .slice d.D d.m d.k] 27)) = w2 at *
  go_wp2_with fail
  refine (lives_v w2 HE.out).mono ?_
  rintro e w3 ⟨rfl, b3⟩
  replace X := Lib.hid (hstep X.out b3)
  replace Y := Lib.hid (hstep Y.out b3)
  replace Z := Lib.hid (hstep Z.out b3)
  replace HE := Lib.hid (HE.out.below b3)
  replace BA := Lib.hid (BA.out.trans (b3.mono BA.out.size))
  clear b3
  have RS := Lib.hid (heap_alloc_new w3 (.cells #[.string (st r.path), .slice a.A a.n a.c, .int .i64 r.dev, .bool r.gone, .int .i64 r.size, .int .i64 r.len, .slice a.D a.m a.k, .string (st q.path), .slice b.A b.n b.c, .int .i64 q.dev, .bool q.gone, .int .i64 q.size, .int .i64 q.len, .slice b.D b.m b.k, .string (st s.path), .slice d.A d.n d.c, .int .i64 s.dev, .bool s.gone, .int .i64 s.size, .int .i64 s.len, .slice d.D d.m d.k] 27))
  have b3 := (Below.refl w3.heap.size w3).alloc (Nat.le_refl _) (.cells #[.string (st r.path), .slice a.A a.n a.c, .int .i64 r.dev, .bool r.gone, .int .i64 r.size, .int .i64 r.len, .slice a.D a.m a.k, .string (st q.path), .slice b.A b.n b.c, .int .i64 q.dev, .bool q.gone, .int .i64 q.size, .int .i64 q.len, .slice b.D b.m b.k, .string (st s.path), .slice d.A d.n d.c, .int .i64 s.dev, .bool s.gone, .int .i64 s.size, .int .i64 s.len, .slice d.D d.m d.k] 27)
  have hz4 : w3.heap.size < (w3.alloc (.cells #[.string (st r.path), .slice a.A a.n a.c, .int .i64 r.dev, .bool r.gone, .int .i64 r.size, .int .i64 r.len, .slice a.D a.m a.k, .string (st q.path), .slice b.A b.n b.c, .int .i64 q.dev, .bool q.gone, .int .i64 q.size, .int .i64 q.len, .slice b.D b.m b.k, .string (st s.path), .slice d.A d.n d.c, .int .i64 s.dev, .bool s.gone, .int .i64 s.size, .int .i64 s.len, .slice d.D d.m d.k] 27)).heap.size := by simp
  go_wp2_with (first | (refine wpList_load_slot rfl 27 (.tmp 3) rfl ⟨w.heap.size, 0, none⟩ rfl [.string (st r.path), .slice a.A a.n a.c, .int .i64 r.dev, .bool r.gone, .int .i64 r.size, .int .i64 r.len, .slice a.D a.m a.k] _ (rcells_at X.out arr_at) Tryd.underlying27 rfl HI.out ?_) | (refine wpList_load_slot rfl 27 (.tmp 4) rfl ⟨w.heap.size + 1, 0, none⟩ rfl [.string (st q.path), .slice b.A b.n b.c, .int .i64 q.dev, .bool q.gone, .int .i64 q.size, .int .i64 q.len, .slice b.D b.m b.k] _ (rcells_at Y.out arr_at) Tryd.underlying27 rfl HI.out ?_) | (refine wpList_load_slot rfl 27 (.tmp 5) rfl ⟨w.heap.size + 2, 0, none⟩ rfl [.string (st s.path), .slice d.A d.n d.c, .int .i64 s.dev, .bool s.gone, .int .i64 s.size, .int .i64 s.len, .slice d.D d.m d.k] _ (rcells_at Z.out arr_at) Tryd.underlying27 rfl HI.out ?_) | fail)
  replace X := Lib.hid (hstep X.out b3)
  replace Y := Lib.hid (hstep Y.out b3)
  replace Z := Lib.hid (hstep Z.out b3)
  replace HE := Lib.hid (HE.out.below b3)
  replace BA := Lib.hid (BA.out.trans (b3.mono BA.out.size))
  clear b3
  generalize w3.alloc (.cells #[.string (st r.path), .slice a.A a.n a.c, .int .i64 r.dev, .bool r.gone, .int .i64 r.size, .int .i64 r.len, .slice a.D a.m a.k, .string (st q.path), .slice b.A b.n b.c, .int .i64 q.dev, .bool q.gone, .int .i64 q.size, .int .i64 q.len, .slice b.D b.m b.k, .string (st s.path), .slice d.A d.n d.c, .int .i64 s.dev, .bool s.gone, .int .i64 s.size, .int .i64 s.len, .slice d.D d.m d.k] 27) = w4 at *
  generalize w3.heap.size = g4 at *
  refine (lights_v [(r, a), (q, b), (s, d)] (some ⟨g4, 0, none⟩) 3 3 (g4 + 1) 3 100 w4 (readsL (L := [(r, a), (q, b), (s, d)]) RS.out (Nat.lt_succ_self _)) rfl (by omega) (by omega) (by omega)).mono ?_
  rintro e w5 ⟨rfl, b3⟩
  replace X := Lib.hid (hstep X.out b3)
  replace Y := Lib.hid (hstep Y.out b3)
  replace Z := Lib.hid (hstep Z.out b3)
  replace HE := Lib.hid (HE.out.below b3)
  replace BA := Lib.hid (BA.out.trans (b3.mono BA.out.size))
  clear b3 RS hz4
  cases hLL : lightsX 100 3 [(r, a), (q, b), (s, d)]
  · clear hLL
    go_wp2
    go_ret
    exact ⟨by first | rfl | simp, BA.out⟩
  have hL3 : lightX 100 (r, a) = true ∧ lightX 100 (q, b) = true ∧ lightX 100 (s, d) = true := by unfold lightsX at hLL; simp only [List.all_cons, Bool.and_eq_true] at hLL; exact ⟨hLL.2.1, hLL.2.2.1, hLL.2.2.2.1⟩
  have HR := Lib.hid (((HR0.out.light hL3.1 (by omega)).below (BA.out.mono hB)).more (Nat.le_trans hB BA.out.size))
  have HQ := Lib.hid (((HQ0.out.light hL3.2.1 (by omega)).below (BA.out.mono hB)).more (Nat.le_trans hB BA.out.size))
  have HS := Lib.hid (((HS0.out.light hL3.2.2 (by omega)).below (BA.out.mono hB)).more (Nat.le_trans hB BA.out.size))
  clear hLL hL3 HR0 HQ0 HS0
  go_wp2_with (first | (refine wpList_load_slot rfl 27 (.tmp 3) rfl ⟨w.heap.size, 0, none⟩ rfl [.string (st r.path), .slice a.A a.n a.c, .int .i64 r.dev, .bool r.gone, .int .i64 r.size, .int .i64 r.len, .slice a.D a.m a.k] _ (rcells_at X.out arr_at) Tryd.underlying27 rfl HI.out ?_) | (refine wpList_load_slot rfl 27 (.tmp 4) rfl ⟨w.heap.size + 1, 0, none⟩ rfl [.string (st q.path), .slice b.A b.n b.c, .int .i64 q.dev, .bool q.gone, .int .i64 q.size, .int .i64 q.len, .slice b.D b.m b.k] _ (rcells_at Y.out arr_at) Tryd.underlying27 rfl HI.out ?_) | (refine wpList_load_slot rfl 27 (.tmp 5) rfl ⟨w.heap.size + 2, 0, none⟩ rfl [.string (st s.path), .slice d.A d.n d.c, .int .i64 s.dev, .bool s.gone, .int .i64 s.size, .int .i64 s.len, .slice d.D d.m d.k] _ (rcells_at Z.out arr_at) Tryd.underlying27 rfl HI.out ?_) | fail)
  refine (rrecCheck_v r a w5.heap.size w5 HR.out (Nat.le_refl _)).mono ?_
  rintro e w6 ⟨rfl, b3⟩
  replace X := Lib.hid (hstep X.out b3)
  replace Y := Lib.hid (hstep Y.out b3)
  replace Z := Lib.hid (hstep Z.out b3)
  replace HE := Lib.hid (HE.out.below b3)
  replace BA := Lib.hid (BA.out.trans (b3.mono BA.out.size))
  replace HR := Lib.hid (HR.out.step b3)
  replace HQ := Lib.hid (HQ.out.step b3)
  replace HS := Lib.hid (HS.out.step b3)
  clear b3
  by_cases h1 : okR r = 0
  case neg =>
    have d1 : ((okR r : Int) != 0) = true := by rw [bne_iff_ne]; omega
    clear h1
    generalize okR r = x at *
    go_wp2
    go_ret
    exact ⟨by first | rfl | simp, BA.out⟩
  have H1 := Lib.hid h1
  rw [h1]
  clear h1
  go_wp2_with (first | (refine wpList_load_slot rfl 27 (.tmp 3) rfl ⟨w.heap.size, 0, none⟩ rfl [.string (st r.path), .slice a.A a.n a.c, .int .i64 r.dev, .bool r.gone, .int .i64 r.size, .int .i64 r.len, .slice a.D a.m a.k] _ (rcells_at X.out arr_at) Tryd.underlying27 rfl HI.out ?_) | (refine wpList_load_slot rfl 27 (.tmp 4) rfl ⟨w.heap.size + 1, 0, none⟩ rfl [.string (st q.path), .slice b.A b.n b.c, .int .i64 q.dev, .bool q.gone, .int .i64 q.size, .int .i64 q.len, .slice b.D b.m b.k] _ (rcells_at Y.out arr_at) Tryd.underlying27 rfl HI.out ?_) | (refine wpList_load_slot rfl 27 (.tmp 5) rfl ⟨w.heap.size + 2, 0, none⟩ rfl [.string (st s.path), .slice d.A d.n d.c, .int .i64 s.dev, .bool s.gone, .int .i64 s.size, .int .i64 s.len, .slice d.D d.m d.k] _ (rcells_at Z.out arr_at) Tryd.underlying27 rfl HI.out ?_) | fail)
  refine (rrecCheck_v q b w6.heap.size w6 HQ.out (Nat.le_refl _)).mono ?_
  rintro e w7 ⟨rfl, b3⟩
  replace X := Lib.hid (hstep X.out b3)
  replace Y := Lib.hid (hstep Y.out b3)
  replace Z := Lib.hid (hstep Z.out b3)
  replace HE := Lib.hid (HE.out.below b3)
  replace BA := Lib.hid (BA.out.trans (b3.mono BA.out.size))
  replace HR := Lib.hid (HR.out.step b3)
  replace HQ := Lib.hid (HQ.out.step b3)
  replace HS := Lib.hid (HS.out.step b3)
  clear b3
  by_cases h2 : okR q = 0
  case neg =>
    have d1 : ((okR q : Int) != 0) = true := by rw [bne_iff_ne]; omega
    clear h2
    generalize okR q = x at *
    go_wp2
    go_ret
    exact ⟨by first | rfl | simp, BA.out⟩
  have H2 := Lib.hid h2
  rw [h2]
  clear h2
  go_wp2_with (first | (refine wpList_load_slot rfl 27 (.tmp 3) rfl ⟨w.heap.size, 0, none⟩ rfl [.string (st r.path), .slice a.A a.n a.c, .int .i64 r.dev, .bool r.gone, .int .i64 r.size, .int .i64 r.len, .slice a.D a.m a.k] _ (rcells_at X.out arr_at) Tryd.underlying27 rfl HI.out ?_) | (refine wpList_load_slot rfl 27 (.tmp 4) rfl ⟨w.heap.size + 1, 0, none⟩ rfl [.string (st q.path), .slice b.A b.n b.c, .int .i64 q.dev, .bool q.gone, .int .i64 q.size, .int .i64 q.len, .slice b.D b.m b.k] _ (rcells_at Y.out arr_at) Tryd.underlying27 rfl HI.out ?_) | (refine wpList_load_slot rfl 27 (.tmp 5) rfl ⟨w.heap.size + 2, 0, none⟩ rfl [.string (st s.path), .slice d.A d.n d.c, .int .i64 s.dev, .bool s.gone, .int .i64 s.size, .int .i64 s.len, .slice d.D d.m d.k] _ (rcells_at Z.out arr_at) Tryd.underlying27 rfl HI.out ?_) | fail)
  refine (rrecCheck_v s d w7.heap.size w7 HS.out (Nat.le_refl _)).mono ?_
  rintro e w8 ⟨rfl, b3⟩
  replace X := Lib.hid (hstep X.out b3)
  replace Y := Lib.hid (hstep Y.out b3)
  replace Z := Lib.hid (hstep Z.out b3)
  replace HE := Lib.hid (HE.out.below b3)
  replace BA := Lib.hid (BA.out.trans (b3.mono BA.out.size))
  replace HR := Lib.hid (HR.out.step b3)
  replace HQ := Lib.hid (HQ.out.step b3)
  replace HS := Lib.hid (HS.out.step b3)
  clear b3
  by_cases h3 : okR s = 0
  case neg =>
    have d1 : ((okR s : Int) != 0) = true := by rw [bne_iff_ne]; omega
    clear h3
    generalize okR s = x at *
    go_wp2
    go_ret
    exact ⟨by first | rfl | simp, BA.out⟩
  have H3 := Lib.hid h3
  rw [h3]
  clear h3
  have c1 := cell_of_row _ _ 0 _ _ _ X.out
  have c2 := cell_of_row _ _ 0 _ _ _ Y.out
  have c3 := cell_of_row _ _ 0 _ _ _ Z.out
  have dp1 := st_beq r.path q.path
  have dp2 := st_beq q.path s.path
  by_cases hp : r.path = q.path
  case neg =>
    rw [decide_eq_false hp] at dp1
    clear hp dp2
    go_wp2
    go_ret
    exact ⟨by first | rfl | simp, BA.out⟩
  by_cases hp2 : q.path = s.path
  case neg =>
    rw [decide_eq_true hp] at dp1
    rw [decide_eq_false hp2] at dp2
    clear hp hp2
    go_wp2
    go_ret
    exact ⟨by first | rfl | simp, BA.out⟩
  rw [decide_eq_true hp] at dp1
  rw [decide_eq_true hp2] at dp2
  obtain ⟨x, y, z, u, sm, e1, e2, e3, e4, e5, e6⟩ := three_win H1.out H2.out H3.out hp hp2
  have hOF := three_of H1.out H2.out H3.out hp hp2
  have hSB := settle_behind H1.out H2.out hp
  have htw := two_ok H1.out H2.out hp
  have htw' := two_ok H2.out H1.out hp.symm
  have HP := Lib.hid hp
  have E1 := Lib.hid e1
  have E2 := Lib.hid e2
  have E3 := Lib.hid e3
  have E4 := Lib.hid e4
  have E5 := Lib.hid e5
  have E6 := Lib.hid e6
  have OF := Lib.hid hOF
  have SB := Lib.hid hSB
  have TW1 := Lib.hid htw
  have TW2 := Lib.hid htw'
  clear hp hp2 e1 e2 e3 e4 e5 e6 hOF hSB htw htw'
  go_wp2_with (first | (refine wpList_load_slot rfl 27 (.tmp 3) rfl ⟨w.heap.size, 0, none⟩ rfl [.string (st r.path), .slice a.A a.n a.c, .int .i64 r.dev, .bool r.gone, .int .i64 r.size, .int .i64 r.len, .slice a.D a.m a.k] _ (rcells_at X.out arr_at) Tryd.underlying27 rfl HI.out ?_) | (refine wpList_load_slot rfl 27 (.tmp 4) rfl ⟨w.heap.size + 1, 0, none⟩ rfl [.string (st q.path), .slice b.A b.n b.c, .int .i64 q.dev, .bool q.gone, .int .i64 q.size, .int .i64 q.len, .slice b.D b.m b.k] _ (rcells_at Y.out arr_at) Tryd.underlying27 rfl HI.out ?_) | (refine wpList_load_slot rfl 27 (.tmp 5) rfl ⟨w.heap.size + 2, 0, none⟩ rfl [.string (st s.path), .slice d.A d.n d.c, .int .i64 s.dev, .bool s.gone, .int .i64 s.size, .int .i64 s.len, .slice d.D d.m d.k] _ (rcells_at Z.out arr_at) Tryd.underlying27 rfl HI.out ?_) | fail)
  clear c1 c2 c3 dp1 dp2
  refine (winner_v r q a b w8.heap.size w8 HE.out HR.out HQ.out (Nat.le_refl _)).mono ?_
  rintro e w9 ⟨rfl, b3⟩
  rw [E1.out]
  replace X := Lib.hid (hstep X.out b3)
  replace Y := Lib.hid (hstep Y.out b3)
  replace Z := Lib.hid (hstep Z.out b3)
  replace HE := Lib.hid (HE.out.below b3)
  replace BA := Lib.hid (BA.out.trans (b3.mono BA.out.size))
  replace HR := Lib.hid (HR.out.step b3)
  replace HQ := Lib.hid (HQ.out.step b3)
  replace HS := Lib.hid (HS.out.step b3)
  clear b3
  go_wp2_with (first | (refine wpList_load_slot rfl 27 (.tmp 3) rfl ⟨w.heap.size, 0, none⟩ rfl [.string (st r.path), .slice a.A a.n a.c, .int .i64 r.dev, .bool r.gone, .int .i64 r.size, .int .i64 r.len, .slice a.D a.m a.k] _ (rcells_at X.out arr_at) Tryd.underlying27 rfl HI.out ?_) | (refine wpList_load_slot rfl 27 (.tmp 4) rfl ⟨w.heap.size + 1, 0, none⟩ rfl [.string (st q.path), .slice b.A b.n b.c, .int .i64 q.dev, .bool q.gone, .int .i64 q.size, .int .i64 q.len, .slice b.D b.m b.k] _ (rcells_at Y.out arr_at) Tryd.underlying27 rfl HI.out ?_) | (refine wpList_load_slot rfl 27 (.tmp 5) rfl ⟨w.heap.size + 2, 0, none⟩ rfl [.string (st s.path), .slice d.A d.n d.c, .int .i64 s.dev, .bool s.gone, .int .i64 s.size, .int .i64 s.len, .slice d.D d.m d.k] _ (rcells_at Z.out arr_at) Tryd.underlying27 rfl HI.out ?_) | fail)
  refine (winner_v q r b a w9.heap.size w9 HE.out HQ.out HR.out (Nat.le_refl _)).mono ?_
  rintro e w10 ⟨rfl, b3⟩
  rw [E2.out]
  replace X := Lib.hid (hstep X.out b3)
  replace Y := Lib.hid (hstep Y.out b3)
  replace Z := Lib.hid (hstep Z.out b3)
  replace HE := Lib.hid (HE.out.below b3)
  replace BA := Lib.hid (BA.out.trans (b3.mono BA.out.size))
  replace HR := Lib.hid (HR.out.step b3)
  replace HQ := Lib.hid (HQ.out.step b3)
  replace HS := Lib.hid (HS.out.step b3)
  clear b3
  go_wp2_with (first | (refine wpList_load_slot rfl 27 (.tmp 3) rfl ⟨w.heap.size, 0, none⟩ rfl [.string (st r.path), .slice a.A a.n a.c, .int .i64 r.dev, .bool r.gone, .int .i64 r.size, .int .i64 r.len, .slice a.D a.m a.k] _ (rcells_at X.out arr_at) Tryd.underlying27 rfl HI.out ?_) | (refine wpList_load_slot rfl 27 (.tmp 4) rfl ⟨w.heap.size + 1, 0, none⟩ rfl [.string (st q.path), .slice b.A b.n b.c, .int .i64 q.dev, .bool q.gone, .int .i64 q.size, .int .i64 q.len, .slice b.D b.m b.k] _ (rcells_at Y.out arr_at) Tryd.underlying27 rfl HI.out ?_) | (refine wpList_load_slot rfl 27 (.tmp 5) rfl ⟨w.heap.size + 2, 0, none⟩ rfl [.string (st s.path), .slice d.A d.n d.c, .int .i64 s.dev, .bool s.gone, .int .i64 s.size, .int .i64 s.len, .slice d.D d.m d.k] _ (rcells_at Z.out arr_at) Tryd.underlying27 rfl HI.out ?_) | fail)
  refine (winner_v q s b d w10.heap.size w10 HE.out HQ.out HS.out (Nat.le_refl _)).mono ?_
  rintro e w11 ⟨rfl, b3⟩
  rw [E3.out]
  replace X := Lib.hid (hstep X.out b3)
  replace Y := Lib.hid (hstep Y.out b3)
  replace Z := Lib.hid (hstep Z.out b3)
  replace HE := Lib.hid (HE.out.below b3)
  replace BA := Lib.hid (BA.out.trans (b3.mono BA.out.size))
  replace HR := Lib.hid (HR.out.step b3)
  replace HQ := Lib.hid (HQ.out.step b3)
  replace HS := Lib.hid (HS.out.step b3)
  clear b3
  go_wp2_with (first | (refine wpList_load_slot rfl 27 (.tmp 3) rfl ⟨w.heap.size, 0, none⟩ rfl [.string (st r.path), .slice a.A a.n a.c, .int .i64 r.dev, .bool r.gone, .int .i64 r.size, .int .i64 r.len, .slice a.D a.m a.k] _ (rcells_at X.out arr_at) Tryd.underlying27 rfl HI.out ?_) | (refine wpList_load_slot rfl 27 (.tmp 4) rfl ⟨w.heap.size + 1, 0, none⟩ rfl [.string (st q.path), .slice b.A b.n b.c, .int .i64 q.dev, .bool q.gone, .int .i64 q.size, .int .i64 q.len, .slice b.D b.m b.k] _ (rcells_at Y.out arr_at) Tryd.underlying27 rfl HI.out ?_) | (refine wpList_load_slot rfl 27 (.tmp 5) rfl ⟨w.heap.size + 2, 0, none⟩ rfl [.string (st s.path), .slice d.A d.n d.c, .int .i64 s.dev, .bool s.gone, .int .i64 s.size, .int .i64 s.len, .slice d.D d.m d.k] _ (rcells_at Z.out arr_at) Tryd.underlying27 rfl HI.out ?_) | fail)
  refine (winner_v r s a d w11.heap.size w11 HE.out HR.out HS.out (Nat.le_refl _)).mono ?_
  rintro e w12 ⟨rfl, b3⟩
  rw [E4.out]
  replace X := Lib.hid (hstep X.out b3)
  replace Y := Lib.hid (hstep Y.out b3)
  replace Z := Lib.hid (hstep Z.out b3)
  replace HE := Lib.hid (HE.out.below b3)
  replace BA := Lib.hid (BA.out.trans (b3.mono BA.out.size))
  replace HR := Lib.hid (HR.out.step b3)
  replace HQ := Lib.hid (HQ.out.step b3)
  replace HS := Lib.hid (HS.out.step b3)
  clear b3
  go_wp2_with (first | (refine wpList_load_slot rfl 27 (.tmp 3) rfl ⟨w.heap.size, 0, none⟩ rfl [.string (st r.path), .slice a.A a.n a.c, .int .i64 r.dev, .bool r.gone, .int .i64 r.size, .int .i64 r.len, .slice a.D a.m a.k] _ (rcells_at X.out arr_at) Tryd.underlying27 rfl HI.out ?_) | (refine wpList_load_slot rfl 27 (.tmp 4) rfl ⟨w.heap.size + 1, 0, none⟩ rfl [.string (st q.path), .slice b.A b.n b.c, .int .i64 q.dev, .bool q.gone, .int .i64 q.size, .int .i64 q.len, .slice b.D b.m b.k] _ (rcells_at Y.out arr_at) Tryd.underlying27 rfl HI.out ?_) | (refine wpList_load_slot rfl 27 (.tmp 5) rfl ⟨w.heap.size + 2, 0, none⟩ rfl [.string (st s.path), .slice d.A d.n d.c, .int .i64 s.dev, .bool s.gone, .int .i64 s.size, .int .i64 s.len, .slice d.D d.m d.k] _ (rcells_at Z.out arr_at) Tryd.underlying27 rfl HI.out ?_) | fail)
  refine (version_v r q a b w12.heap.size w12 HR.out HQ.out (Nat.le_refl _)).mono ?_
  rintro e w13 ⟨rfl, b3⟩
  rw [E5.out]
  replace X := Lib.hid (hstep X.out b3)
  replace Y := Lib.hid (hstep Y.out b3)
  replace Z := Lib.hid (hstep Z.out b3)
  replace HE := Lib.hid (HE.out.below b3)
  replace BA := Lib.hid (BA.out.trans (b3.mono BA.out.size))
  replace HR := Lib.hid (HR.out.step b3)
  replace HQ := Lib.hid (HQ.out.step b3)
  replace HS := Lib.hid (HS.out.step b3)
  clear b3
  dsimp only
  go_upto_region 10 with fail
  go_cut [131] from 90 to 131 (fun v wx => v = .bool false ∧ w13 = wx)
  case first =>
    obtain ⟨k1, k2, k3, k4, k5⟩ := E6.out
    rcases k1 with ⟨rfl, rfl, rfl⟩ | ⟨rfl, rfl, rfl⟩ | ⟨rfl, rfl, rfl⟩
    all_goals
      rcases k2 with rfl | rfl
      all_goals
        rcases k3 with rfl | rfl
        all_goals
          first
          | (exfalso; omega)
          | (clear k4 k5
             go_wp2_with fail
             go_meet
             exact ⟨rfl, rfl⟩)
  case rest =>
  obtain ⟨rfl, rfl⟩ := hcut
  have RS := Lib.hid (heap_alloc_new w13 (.cells #[.string (st r.path), .slice a.A a.n a.c, .int .i64 r.dev, .bool r.gone, .int .i64 r.size, .int .i64 r.len, .slice a.D a.m a.k, .string (st q.path), .slice b.A b.n b.c, .int .i64 q.dev, .bool q.gone, .int .i64 q.size, .int .i64 q.len, .slice b.D b.m b.k, .string (st s.path), .slice d.A d.n d.c, .int .i64 s.dev, .bool s.gone, .int .i64 s.size, .int .i64 s.len, .slice d.D d.m d.k] 27))
  have b3 := (Below.refl w13.heap.size w13).alloc (Nat.le_refl _) (.cells #[.string (st r.path), .slice a.A a.n a.c, .int .i64 r.dev, .bool r.gone, .int .i64 r.size, .int .i64 r.len, .slice a.D a.m a.k, .string (st q.path), .slice b.A b.n b.c, .int .i64 q.dev, .bool q.gone, .int .i64 q.size, .int .i64 q.len, .slice b.D b.m b.k, .string (st s.path), .slice d.A d.n d.c, .int .i64 s.dev, .bool s.gone, .int .i64 s.size, .int .i64 s.len, .slice d.D d.m d.k] 27)
  go_upto_region 13 with (first | (refine wpList_load_slot rfl 27 (.tmp 3) rfl ⟨w.heap.size, 0, none⟩ rfl [.string (st r.path), .slice a.A a.n a.c, .int .i64 r.dev, .bool r.gone, .int .i64 r.size, .int .i64 r.len, .slice a.D a.m a.k] _ (rcells_at X.out arr_at) Tryd.underlying27 rfl HI.out ?_) | (refine wpList_load_slot rfl 27 (.tmp 4) rfl ⟨w.heap.size + 1, 0, none⟩ rfl [.string (st q.path), .slice b.A b.n b.c, .int .i64 q.dev, .bool q.gone, .int .i64 q.size, .int .i64 q.len, .slice b.D b.m b.k] _ (rcells_at Y.out arr_at) Tryd.underlying27 rfl HI.out ?_) | (refine wpList_load_slot rfl 27 (.tmp 5) rfl ⟨w.heap.size + 2, 0, none⟩ rfl [.string (st s.path), .slice d.A d.n d.c, .int .i64 s.dev, .bool s.gone, .int .i64 s.size, .int .i64 s.len, .slice d.D d.m d.k] _ (rcells_at Z.out arr_at) Tryd.underlying27 rfl HI.out ?_) | fail)
  replace X := Lib.hid (hstep X.out b3)
  replace Y := Lib.hid (hstep Y.out b3)
  replace Z := Lib.hid (hstep Z.out b3)
  replace HE := Lib.hid (HE.out.below b3)
  replace BA := Lib.hid (BA.out.trans (b3.mono BA.out.size))
  replace HR := Lib.hid (HR.out.step b3)
  replace HQ := Lib.hid (HQ.out.step b3)
  replace HS := Lib.hid (HS.out.step b3)
  clear b3
  generalize w13.alloc (.cells #[.string (st r.path), .slice a.A a.n a.c, .int .i64 r.dev, .bool r.gone, .int .i64 r.size, .int .i64 r.len, .slice a.D a.m a.k, .string (st q.path), .slice b.A b.n b.c, .int .i64 q.dev, .bool q.gone, .int .i64 q.size, .int .i64 q.len, .slice b.D b.m b.k, .string (st s.path), .slice d.A d.n d.c, .int .i64 s.dev, .bool s.gone, .int .i64 s.size, .int .i64 s.len, .slice d.D d.m d.k] 27) = w14 at *
  generalize hgs : w13.heap.size = gs at *
  obtain ⟨n, m, p, p', o1, o2, hn, hm, hp1, hp2, hv, hw⟩ := OF.out
  obtain ⟨xp, hxp, rfl⟩ : ∃ xp, [(r, a), (q, b), (s, d)][n]? = some xp ∧ xp.1 = p := by
    rcases (show n = 0 ∨ n = 1 ∨ n = 2 by omega) with rfl | rfl | rfl <;> exact ⟨_, rfl, Option.some.inj hp1⟩
  obtain ⟨xq, hxq, rfl⟩ : ∃ xq, [(r, a), (q, b), (s, d)][2 - m]? = some xq ∧ xq.1 = p' := by
    rcases (show m = 0 ∨ m = 1 ∨ m = 2 by omega) with rfl | rfl | rfl <;> exact ⟨_, rfl, Option.some.inj hp2⟩
  have O1 := Lib.hid o1
  have O2 := Lib.hid o2
  have HXP := Lib.hid hxp
  have HXQ := Lib.hid hxq
  have HV := Lib.hid hv
  have HWN := Lib.hid hw
  clear o1 o2 hp1 hp2 hv hw hxp hxq hgs
  have HAL : ∀ W : World, RReads W W.heap.size r a → RReads W W.heap.size q b → RReads W W.heap.size s d → ∀ x ∈ [(r, a), (q, b), (s, d)], RReads W W.heap.size x.1 x.2 := by
    intro W h1 h2 h3 x hx
    simp only [List.mem_cons, List.not_mem_nil, or_false] at hx
    rcases hx with rfl | rfl | rfl
    · exact h1
    · exact h2
    · exact h3
  have HALR := Lib.hid HAL
  clear HAL
  go_wp2_with fail
  refine (of_v' [(r, a), (q, b), (s, d)] (some ⟨gs, 0, none⟩) 3 3 w14.heap.size w14 HE.out (rowsL (L := [(r, a), (q, b), (s, d)]) RS.out (Array.getElem?_eq_some_iff.1 RS.out).1 (HALR.out _ HR.out HQ.out HS.out)) (Nat.le_refl _) (by omega)).mono ?_
  rintro e w15 ⟨rfl, b3⟩
  rw [show ([(r, a), (q, b), (s, d)] : List (Rcd × RSh)).map Prod.fst = [r, q, s] from rfl, O1.out]
  replace X := Lib.hid (hstep X.out b3)
  replace Y := Lib.hid (hstep Y.out b3)
  replace Z := Lib.hid (hstep Z.out b3)
  replace HE := Lib.hid (HE.out.below b3)
  replace BA := Lib.hid (BA.out.trans (b3.mono BA.out.size))
  replace HR := Lib.hid (HR.out.step b3)
  replace HQ := Lib.hid (HQ.out.step b3)
  replace HS := Lib.hid (HS.out.step b3)
  replace RS := Lib.hid (hstep RS.out b3)
  clear b3
  have RT := Lib.hid (heap_alloc_new w15 (.cells #[.string (st s.path), .slice d.A d.n d.c, .int .i64 s.dev, .bool s.gone, .int .i64 s.size, .int .i64 s.len, .slice d.D d.m d.k, .string (st q.path), .slice b.A b.n b.c, .int .i64 q.dev, .bool q.gone, .int .i64 q.size, .int .i64 q.len, .slice b.D b.m b.k, .string (st r.path), .slice a.A a.n a.c, .int .i64 r.dev, .bool r.gone, .int .i64 r.size, .int .i64 r.len, .slice a.D a.m a.k] 27))
  have b3 := (Below.refl w15.heap.size w15).alloc (Nat.le_refl _) (.cells #[.string (st s.path), .slice d.A d.n d.c, .int .i64 s.dev, .bool s.gone, .int .i64 s.size, .int .i64 s.len, .slice d.D d.m d.k, .string (st q.path), .slice b.A b.n b.c, .int .i64 q.dev, .bool q.gone, .int .i64 q.size, .int .i64 q.len, .slice b.D b.m b.k, .string (st r.path), .slice a.A a.n a.c, .int .i64 r.dev, .bool r.gone, .int .i64 r.size, .int .i64 r.len, .slice a.D a.m a.k] 27)
  dsimp only
  go_wp2_with (first | (refine wpList_load_slot rfl 27 (.tmp 3) rfl ⟨w.heap.size, 0, none⟩ rfl [.string (st r.path), .slice a.A a.n a.c, .int .i64 r.dev, .bool r.gone, .int .i64 r.size, .int .i64 r.len, .slice a.D a.m a.k] _ (rcells_at X.out arr_at) Tryd.underlying27 rfl HI.out ?_) | (refine wpList_load_slot rfl 27 (.tmp 4) rfl ⟨w.heap.size + 1, 0, none⟩ rfl [.string (st q.path), .slice b.A b.n b.c, .int .i64 q.dev, .bool q.gone, .int .i64 q.size, .int .i64 q.len, .slice b.D b.m b.k] _ (rcells_at Y.out arr_at) Tryd.underlying27 rfl HI.out ?_) | (refine wpList_load_slot rfl 27 (.tmp 5) rfl ⟨w.heap.size + 2, 0, none⟩ rfl [.string (st s.path), .slice d.A d.n d.c, .int .i64 s.dev, .bool s.gone, .int .i64 s.size, .int .i64 s.len, .slice d.D d.m d.k] _ (rcells_at Z.out arr_at) Tryd.underlying27 rfl HI.out ?_) | fail)
  replace X := Lib.hid (hstep X.out b3)
  replace Y := Lib.hid (hstep Y.out b3)
  replace Z := Lib.hid (hstep Z.out b3)
  replace HE := Lib.hid (HE.out.below b3)
  replace BA := Lib.hid (BA.out.trans (b3.mono BA.out.size))
  replace HR := Lib.hid (HR.out.step b3)
  replace HQ := Lib.hid (HQ.out.step b3)
  replace HS := Lib.hid (HS.out.step b3)
  replace RS := Lib.hid (hstep RS.out b3)
  clear b3
  generalize w15.alloc (.cells #[.string (st s.path), .slice d.A d.n d.c, .int .i64 s.dev, .bool s.gone, .int .i64 s.size, .int .i64 s.len, .slice d.D d.m d.k, .string (st q.path), .slice b.A b.n b.c, .int .i64 q.dev, .bool q.gone, .int .i64 q.size, .int .i64 q.len, .slice b.D b.m b.k, .string (st r.path), .slice a.A a.n a.c, .int .i64 r.dev, .bool r.gone, .int .i64 r.size, .int .i64 r.len, .slice a.D a.m a.k] 27) = w16 at *
  generalize w15.heap.size = gt at *
  refine (of_v' [(s, d), (q, b), (r, a)] (some ⟨gt, 0, none⟩) 3 3 w16.heap.size w16 HE.out (rowsL (L := [(s, d), (q, b), (r, a)]) RT.out (Array.getElem?_eq_some_iff.1 RT.out).1 (by
    intro x hx
    refine HALR.out _ HR.out HQ.out HS.out x ?_
    simp only [List.mem_cons, List.not_mem_nil, or_false] at hx ⊢
    rcases hx with rfl | rfl | rfl <;> simp)) (Nat.le_refl _) (by omega)).mono ?_
  rintro e w17 ⟨rfl, b3⟩
  rw [show ([(s, d), (q, b), (r, a)] : List (Rcd × RSh)).map Prod.fst = [s, q, r] from rfl, O2.out]
  replace X := Lib.hid (hstep X.out b3)
  replace Y := Lib.hid (hstep Y.out b3)
  replace Z := Lib.hid (hstep Z.out b3)
  replace HE := Lib.hid (HE.out.below b3)
  replace BA := Lib.hid (BA.out.trans (b3.mono BA.out.size))
  replace HR := Lib.hid (HR.out.step b3)
  replace HQ := Lib.hid (HQ.out.step b3)
  replace HS := Lib.hid (HS.out.step b3)
  replace RS := Lib.hid (hstep RS.out b3)
  clear b3 RT
  dsimp only
  go_upto_region 15 with fail
  obtain ⟨m', hm'⟩ : ∃ m' : Nat, 2 - m = m' := ⟨_, rfl⟩
  rw [hm'] at HXQ
  have dm : (2 : Int) - (m : Int) = (m' : Int) := by omega
  have dw : IntKind.i64.wrap (m' : Int) = (m' : Int) := IntWalk.i64_in _ ⟨by omega, by omega⟩
  have n0 : (0 : Int) ≤ (n : Int) := by omega
  have n1 : (n : Int) < 3 := by omega
  have m0 : (0 : Int) ≤ (m' : Int) := by omega
  have m1 : (m' : Int) < 3 := by omega
  have HN3 := Lib.hid hn
  clear hm' hm hn
  go_cut [167] from 149 to 167 (fun v wx => v = .bool false ∧ Below w17.heap.size w17 wx)
  case first =>
    (try dsimp only [List.append])
    refine wp_region_text [(0, false), (1, false), (2, false), (3, false), (4, false), (5, false), (6, false), (7, false), (8, false), (9, false), (10, false), (11, false), (12, false), (13, false), (14, false), (15, false), (16, true), (17, false), (18, false)] (fun V => V.heap[gs]? = some (.cells #[.string (st r.path), .slice a.A a.n a.c, .int .i64 r.dev, .bool r.gone, .int .i64 r.size, .int .i64 r.len, .slice a.D a.m a.k, .string (st q.path), .slice b.A b.n b.c, .int .i64 q.dev, .bool q.gone, .int .i64 q.size, .int .i64 q.len, .slice b.D b.m b.k, .string (st s.path), .slice d.A d.n d.c, .int .i64 s.dev, .bool s.gone, .int .i64 s.size, .int .i64 s.len, .slice d.D d.m d.k] 27 (0, 0))) (by kernel_rfl) (by kernel_rfl) (by kernel_rfl) (by kernel_rfl) (by kernel_rfl) (fun _ => ?_)
    simp only [outOf, List.getElem?_cons_zero, List.getElem?_cons_succ, Option.getD_some]
    have hS : w17.drew.heap[gs]? = some (.cells #[.string (st r.path), .slice a.A a.n a.c, .int .i64 r.dev, .bool r.gone, .int .i64 r.size, .int .i64 r.len, .slice a.D a.m a.k, .string (st q.path), .slice b.A b.n b.c, .int .i64 q.dev, .bool q.gone, .int .i64 q.size, .int .i64 q.len, .slice b.D b.m b.k, .string (st s.path), .slice d.A d.n d.c, .int .i64 s.dev, .bool s.gone, .int .i64 s.size, .int .i64 s.len, .slice d.D d.m d.k] 27 (0, 0)) := RS.out
    have T := Lib.hid (show Below w17.heap.size w17 w17.drew from (Below.refl _ _).drew)
    have R1 := Lib.hid (HALR.out _ HR.out HQ.out HS.out xp (List.mem_of_getElem? HXP.out))
    have R2 := Lib.hid (HALR.out _ HR.out HQ.out HS.out xq (List.mem_of_getElem? HXQ.out))
    generalize w17.drew = v0 at *
    iterate 9 ((first | (refine TW.val2 (v := ?_) ?_ ?_ ?_ ?_ ?_; rotate_left; (focus rfl); (focus (intro W hSW; (try dsimp only at hSW); (try (obtain ⟨hS1, hSW⟩ := hSW)); (try (obtain ⟨hS2, hSW⟩ := hSW)); (try (obtain ⟨hS3, hSW⟩ := hSW)); (try (obtain ⟨hS4, hSW⟩ := hSW)); (try (obtain ⟨hS5, hSW⟩ := hSW)); (try (obtain ⟨hS6, hSW⟩ := hSW)); (try (obtain ⟨hS7, hSW⟩ := hSW)); (try (obtain ⟨hS8, hSW⟩ := hSW)); go_simp; (try with_reducible rfl); done)); (focus exact fun _ _ _ h => h); (focus assumption)) | (refine TW.skip (e := false) ?_ ?_ ?_ ?_; (focus rfl); (focus exact fun _ _ _ h => h); (focus assumption))); simp only [Act.put, List.setIfInBounds_toArray, List.set_cons_zero, List.set_cons_succ])
    iterate 1 ((first | (refine TW.val2 (v := ?_) ?_ ?_ ?_ ?_ ?_; rotate_left; (focus rfl); (focus (intro W hSW; (try dsimp only at hSW); (try (obtain ⟨hS1, hSW⟩ := hSW)); (try (obtain ⟨hS2, hSW⟩ := hSW)); (try (obtain ⟨hS3, hSW⟩ := hSW)); (try (obtain ⟨hS4, hSW⟩ := hSW)); (try (obtain ⟨hS5, hSW⟩ := hSW)); (try (obtain ⟨hS6, hSW⟩ := hSW)); (try (obtain ⟨hS7, hSW⟩ := hSW)); (try (obtain ⟨hS8, hSW⟩ := hSW)); go_simp; (try with_reducible rfl); done)); (focus exact fun _ _ _ h => h); (focus assumption)) | (refine TW.skip (e := false) ?_ ?_ ?_ ?_; (focus rfl); (focus exact fun _ _ _ h => h); (focus assumption))); simp only [Act.put, List.setIfInBounds_toArray, List.set_cons_zero, List.set_cons_succ])
    refine TW.val2 (v := .agg #[.string (st xp.1.path), .slice xp.2.A xp.2.n xp.2.c, .int .i64 xp.1.dev, .bool xp.1.gone, .int .i64 xp.1.size, .int .i64 xp.1.len, .slice xp.2.D xp.2.m xp.2.k]) ?_ ?_ ?_ ?_ ?_
    (focus rfl)
    (focus exact fun V hV => exec_load_slot 27 (.tmp 158) rfl ⟨gs, n * 7, none⟩ rfl [.string (st xp.1.path), .slice xp.2.A xp.2.n xp.2.c, .int .i64 xp.1.dev, .bool xp.1.gone, .int .i64 xp.1.size, .int .i64 xp.1.len, .slice xp.2.D xp.2.m xp.2.k] _ (rowL (L := [(r, a), (q, b), (s, d)]) hV HXP.out) Tryd.underlying27 rfl HI.out)
    (focus exact fun _ _ _ h => h)
    (focus exact hS)
    simp only [Act.put, List.setIfInBounds_toArray, List.set_cons_zero, List.set_cons_succ]
    iterate 4 ((first | (refine TW.val2 (v := ?_) ?_ ?_ ?_ ?_ ?_; rotate_left; (focus rfl); (focus (intro W hSW; (try dsimp only at hSW); (try (obtain ⟨hS1, hSW⟩ := hSW)); (try (obtain ⟨hS2, hSW⟩ := hSW)); (try (obtain ⟨hS3, hSW⟩ := hSW)); (try (obtain ⟨hS4, hSW⟩ := hSW)); (try (obtain ⟨hS5, hSW⟩ := hSW)); (try (obtain ⟨hS6, hSW⟩ := hSW)); (try (obtain ⟨hS7, hSW⟩ := hSW)); (try (obtain ⟨hS8, hSW⟩ := hSW)); go_simp; (try with_reducible rfl); done)); (focus exact fun _ _ _ h => h); (focus assumption)) | (refine TW.skip (e := false) ?_ ?_ ?_ ?_; (focus rfl); (focus exact fun _ _ _ h => h); (focus assumption))); simp only [Act.put, List.setIfInBounds_toArray, List.set_cons_zero, List.set_cons_succ])
    refine TW.val2 (v := .agg #[.string (st xq.1.path), .slice xq.2.A xq.2.n xq.2.c, .int .i64 xq.1.dev, .bool xq.1.gone, .int .i64 xq.1.size, .int .i64 xq.1.len, .slice xq.2.D xq.2.m xq.2.k]) ?_ ?_ ?_ ?_ ?_
    (focus rfl)
    (focus exact fun V hV => exec_load_slot 27 (.tmp 163) rfl ⟨gs, m' * 7, none⟩ rfl [.string (st xq.1.path), .slice xq.2.A xq.2.n xq.2.c, .int .i64 xq.1.dev, .bool xq.1.gone, .int .i64 xq.1.size, .int .i64 xq.1.len, .slice xq.2.D xq.2.m xq.2.k] _ (rowL (L := [(r, a), (q, b), (s, d)]) hV HXQ.out) Tryd.underlying27 rfl HI.out)
    (focus exact fun _ _ _ h => h)
    (focus exact hS)
    simp only [Act.put, List.setIfInBounds_toArray, List.set_cons_zero, List.set_cons_succ]
    refine TW.eff (by rfl) (fun K hK => ?_); go_simp
    refine (version_v xp.1 xq.1 xp.2 xq.2 v0.heap.size v0 (R1.out.step T.out) (R2.out.step T.out) (Nat.le_refl _)).mono ?_
    rintro e v1 ⟨rfl, b3⟩
    rw [HV.out]
    have hS2 : v1.heap[gs]? = some (.cells #[.string (st r.path), .slice a.A a.n a.c, .int .i64 r.dev, .bool r.gone, .int .i64 r.size, .int .i64 r.len, .slice a.D a.m a.k, .string (st q.path), .slice b.A b.n b.c, .int .i64 q.dev, .bool q.gone, .int .i64 q.size, .int .i64 q.len, .slice b.D b.m b.k, .string (st s.path), .slice d.A d.n d.c, .int .i64 s.dev, .bool s.gone, .int .i64 s.size, .int .i64 s.len, .slice d.D d.m d.k] 27 (0, 0)) := hstep hS b3
    have T2 := Lib.hid (T.out.trans (b3.mono T.out.size))
    clear hS b3
    refine hK.out _ _ hS2 ?_
    clear hK
    (try simp only [Act.put, List.setIfInBounds_toArray, List.set_cons_zero, List.set_cons_succ])
    have hS := hS2
    clear hS2
    iterate 2 ((first | (refine TW.val2 (v := ?_) ?_ ?_ ?_ ?_ ?_; rotate_left; (focus rfl); (focus (intro W hSW; (try dsimp only at hSW); (try (obtain ⟨hS1, hSW⟩ := hSW)); (try (obtain ⟨hS2, hSW⟩ := hSW)); (try (obtain ⟨hS3, hSW⟩ := hSW)); (try (obtain ⟨hS4, hSW⟩ := hSW)); (try (obtain ⟨hS5, hSW⟩ := hSW)); (try (obtain ⟨hS6, hSW⟩ := hSW)); (try (obtain ⟨hS7, hSW⟩ := hSW)); (try (obtain ⟨hS8, hSW⟩ := hSW)); go_simp; (try with_reducible rfl); done)); (focus exact fun _ _ _ h => h); (focus assumption)) | (refine TW.skip (e := false) ?_ ?_ ?_ ?_; (focus rfl); (focus exact fun _ _ _ h => h); (focus assumption))); simp only [Act.put, List.setIfInBounds_toArray, List.set_cons_zero, List.set_cons_succ])
    refine TW.done ?_
    go_wp2_with fail
    go_meet
    exact ⟨rfl, T2.out⟩
  case rest =>
  obtain ⟨rfl, b3⟩ := hcut
  replace X := Lib.hid (hstep X.out b3)
  replace Y := Lib.hid (hstep Y.out b3)
  replace Z := Lib.hid (hstep Z.out b3)
  replace HE := Lib.hid (HE.out.below b3)
  replace BA := Lib.hid (BA.out.trans (b3.mono BA.out.size))
  replace HR := Lib.hid (HR.out.step b3)
  replace HQ := Lib.hid (HQ.out.step b3)
  replace HS := Lib.hid (HS.out.step b3)
  replace RS := Lib.hid (hstep RS.out b3)
  clear b3 HV HXQ OF dm dw m0 m1 O1 O2
  go_upto_region 18 with fail
  go_loopw [21] (fun i wr => ∃ k : Nat, k ≤ 3 ∧ i = .int .i64 (k : Int) ∧ Below wc.heap.size wc wr) (fun i _ => 3 - (intOf i).toNat)
  case atStart => exact ⟨0, by omega, rfl, Below.refl _ _⟩
  case round =>
    obtain ⟨k, hk, rfl, hT⟩ := hrel
    have T := Lib.hid hT
    clear hT
    by_cases hlt : k < 3
    · obtain ⟨o, ho⟩ : ∃ o, [(r, a), (q, b), (s, d)][k]? = some o := ⟨_, List.getElem?_eq_getElem (by simpa using hlt)⟩
      have HOX := Lib.hid ho
      have hw := HWN.out o.1 (by
        have hm := List.mem_of_getElem? ho
        simp only [List.mem_cons, List.not_mem_nil, or_false] at hm ⊢
        rcases hm with rfl | rfl | rfl <;> simp)
      have HW := Lib.hid hw
      have k0 : (0 : Int) ≤ (k : Int) := by omega
      have k1 : (k : Int) < 3 := by omega
      clear ho hw
      go_upto_region 20 with fail
      go_cut [22, 23] from 174 to 187 (fun v v' wx => v = .int .i64 0 ∧ v' = .int .i64 0 ∧ Below wc.heap.size wc wx)
      case first =>
        refine wp_region_text [(0, false), (1, false), (2, false), (3, false), (4, false), (5, false), (6, false), (7, false), (8, true), (9, false), (10, false), (11, false), (12, false), (13, false)] (fun V => V.heap[gs]? = some (.cells #[.string (st r.path), .slice a.A a.n a.c, .int .i64 r.dev, .bool r.gone, .int .i64 r.size, .int .i64 r.len, .slice a.D a.m a.k, .string (st q.path), .slice b.A b.n b.c, .int .i64 q.dev, .bool q.gone, .int .i64 q.size, .int .i64 q.len, .slice b.D b.m b.k, .string (st s.path), .slice d.A d.n d.c, .int .i64 s.dev, .bool s.gone, .int .i64 s.size, .int .i64 s.len, .slice d.D d.m d.k] 27 (0, 0))) (by kernel_rfl) (by kernel_rfl) (by kernel_rfl) (by kernel_rfl) (by kernel_rfl) (fun _ => ?_)
        simp only [outOf, List.getElem?_cons_zero, List.getElem?_cons_succ, Option.getD_some]
        have hS : wr.drew.heap[gs]? = some (.cells #[.string (st r.path), .slice a.A a.n a.c, .int .i64 r.dev, .bool r.gone, .int .i64 r.size, .int .i64 r.len, .slice a.D a.m a.k, .string (st q.path), .slice b.A b.n b.c, .int .i64 q.dev, .bool q.gone, .int .i64 q.size, .int .i64 q.len, .slice b.D b.m b.k, .string (st s.path), .slice d.A d.n d.c, .int .i64 s.dev, .bool s.gone, .int .i64 s.size, .int .i64 s.len, .slice d.D d.m d.k] 27 (0, 0)) := hstep RS.out T.out.drew
        have T1 := Lib.hid T.out.drew
        have R1 := Lib.hid (HALR.out _ HR.out HQ.out HS.out xp (List.mem_of_getElem? HXP.out))
        have R2 := Lib.hid (HALR.out _ HR.out HQ.out HS.out o (List.mem_of_getElem? HOX.out))
        generalize wr.drew = v0 at *
        iterate 3 ((first | (refine TW.val2 (v := ?_) ?_ ?_ ?_ ?_ ?_; rotate_left; (focus rfl); (focus (intro W hSW; (try dsimp only at hSW); (try (obtain ⟨hS1, hSW⟩ := hSW)); (try (obtain ⟨hS2, hSW⟩ := hSW)); (try (obtain ⟨hS3, hSW⟩ := hSW)); (try (obtain ⟨hS4, hSW⟩ := hSW)); (try (obtain ⟨hS5, hSW⟩ := hSW)); (try (obtain ⟨hS6, hSW⟩ := hSW)); (try (obtain ⟨hS7, hSW⟩ := hSW)); (try (obtain ⟨hS8, hSW⟩ := hSW)); go_simp; (try with_reducible rfl); done)); (focus exact fun _ _ _ h => h); (focus assumption)) | (refine TW.skip (e := false) ?_ ?_ ?_ ?_; (focus rfl); (focus exact fun _ _ _ h => h); (focus assumption))); simp only [Act.put, List.setIfInBounds_toArray, List.set_cons_zero, List.set_cons_succ])
        refine TW.val2 (v := .agg #[.string (st xp.1.path), .slice xp.2.A xp.2.n xp.2.c, .int .i64 xp.1.dev, .bool xp.1.gone, .int .i64 xp.1.size, .int .i64 xp.1.len, .slice xp.2.D xp.2.m xp.2.k]) ?_ ?_ ?_ ?_ ?_
        (focus rfl)
        (focus exact fun V hV => exec_load_slot 27 (.tmp 177) rfl ⟨gs, n * 7, none⟩ rfl [.string (st xp.1.path), .slice xp.2.A xp.2.n xp.2.c, .int .i64 xp.1.dev, .bool xp.1.gone, .int .i64 xp.1.size, .int .i64 xp.1.len, .slice xp.2.D xp.2.m xp.2.k] _ (rowL (L := [(r, a), (q, b), (s, d)]) hV HXP.out) Tryd.underlying27 rfl HI.out)
        (focus exact fun _ _ _ h => h)
        (focus exact hS)
        simp only [Act.put, List.setIfInBounds_toArray, List.set_cons_zero, List.set_cons_succ]
        iterate 3 ((first | (refine TW.val2 (v := ?_) ?_ ?_ ?_ ?_ ?_; rotate_left; (focus rfl); (focus (intro W hSW; (try dsimp only at hSW); (try (obtain ⟨hS1, hSW⟩ := hSW)); (try (obtain ⟨hS2, hSW⟩ := hSW)); (try (obtain ⟨hS3, hSW⟩ := hSW)); (try (obtain ⟨hS4, hSW⟩ := hSW)); (try (obtain ⟨hS5, hSW⟩ := hSW)); (try (obtain ⟨hS6, hSW⟩ := hSW)); (try (obtain ⟨hS7, hSW⟩ := hSW)); (try (obtain ⟨hS8, hSW⟩ := hSW)); go_simp; (try with_reducible rfl); done)); (focus exact fun _ _ _ h => h); (focus assumption)) | (refine TW.skip (e := false) ?_ ?_ ?_ ?_; (focus rfl); (focus exact fun _ _ _ h => h); (focus assumption))); simp only [Act.put, List.setIfInBounds_toArray, List.set_cons_zero, List.set_cons_succ])
        refine TW.val2 (v := .agg #[.string (st o.1.path), .slice o.2.A o.2.n o.2.c, .int .i64 o.1.dev, .bool o.1.gone, .int .i64 o.1.size, .int .i64 o.1.len, .slice o.2.D o.2.m o.2.k]) ?_ ?_ ?_ ?_ ?_
        (focus rfl)
        (focus exact fun V hV => exec_load_slot 27 (.tmp 181) rfl ⟨gs, k * 7, none⟩ rfl [.string (st o.1.path), .slice o.2.A o.2.n o.2.c, .int .i64 o.1.dev, .bool o.1.gone, .int .i64 o.1.size, .int .i64 o.1.len, .slice o.2.D o.2.m o.2.k] _ (rowL (L := [(r, a), (q, b), (s, d)]) hV HOX.out) Tryd.underlying27 rfl HI.out)
        (focus exact fun _ _ _ h => h)
        (focus exact hS)
        simp only [Act.put, List.setIfInBounds_toArray, List.set_cons_zero, List.set_cons_succ]
        refine TW.eff (by rfl) (fun K hK => ?_); go_simp
        refine (winner_v xp.1 o.1 xp.2 o.2 v0.heap.size v0 (HE.out.below T1.out) (R1.out.step T1.out) (R2.out.step T1.out) (Nat.le_refl _)).mono ?_
        rintro e v1 ⟨rfl, b3⟩
        rw [HW.out]
        have hS2 : v1.heap[gs]? = some (.cells #[.string (st r.path), .slice a.A a.n a.c, .int .i64 r.dev, .bool r.gone, .int .i64 r.size, .int .i64 r.len, .slice a.D a.m a.k, .string (st q.path), .slice b.A b.n b.c, .int .i64 q.dev, .bool q.gone, .int .i64 q.size, .int .i64 q.len, .slice b.D b.m b.k, .string (st s.path), .slice d.A d.n d.c, .int .i64 s.dev, .bool s.gone, .int .i64 s.size, .int .i64 s.len, .slice d.D d.m d.k] 27 (0, 0)) := hstep hS b3
        have T2 := Lib.hid (T1.out.trans (b3.mono T1.out.size))
        clear hS b3
        refine hK.out _ _ hS2 ?_
        clear hK
        (try simp only [Act.put, List.setIfInBounds_toArray, List.set_cons_zero, List.set_cons_succ])
        have hS := hS2
        clear hS2
        iterate 5 ((first | (refine TW.val2 (v := ?_) ?_ ?_ ?_ ?_ ?_; rotate_left; (focus rfl); (focus (intro W hSW; (try dsimp only at hSW); (try (obtain ⟨hS1, hSW⟩ := hSW)); (try (obtain ⟨hS2, hSW⟩ := hSW)); (try (obtain ⟨hS3, hSW⟩ := hSW)); (try (obtain ⟨hS4, hSW⟩ := hSW)); (try (obtain ⟨hS5, hSW⟩ := hSW)); (try (obtain ⟨hS6, hSW⟩ := hSW)); (try (obtain ⟨hS7, hSW⟩ := hSW)); (try (obtain ⟨hS8, hSW⟩ := hSW)); go_simp; (try with_reducible rfl); done)); (focus exact fun _ _ _ h => h); (focus assumption)) | (refine TW.skip (e := false) ?_ ?_ ?_ ?_; (focus rfl); (focus exact fun _ _ _ h => h); (focus assumption))); simp only [Act.put, List.setIfInBounds_toArray, List.set_cons_zero, List.set_cons_succ])
        refine TW.done ?_
        go_wp2_with fail
        go_meet
        exact ⟨rfl, rfl, T2.out⟩
      case rest =>
      obtain ⟨rfl, rfl, hT2⟩ := hcut
      have T2 := Lib.hid hT2
      clear hT2 T
      go_wp2
      go_roundw
      case rel => exact ⟨k + 1, hlt, by go_num, T2.out⟩
      case measure => simp [intOf]; omega
    · obtain rfl : k = 3 := by omega
      have b3 := T.out
      replace X := Lib.hid (hstep X.out b3)
      replace Y := Lib.hid (hstep Y.out b3)
      replace Z := Lib.hid (hstep Z.out b3)
      replace HE := Lib.hid (HE.out.below b3)
      replace BA := Lib.hid (BA.out.trans (b3.mono BA.out.size))
      replace HR := Lib.hid (HR.out.step b3)
      replace HQ := Lib.hid (HQ.out.step b3)
      replace HS := Lib.hid (HS.out.step b3)
      replace RS := Lib.hid (hstep RS.out b3)
      clear b3 T hlt
      have SWP := Lib.hid (fun h : cmpV r.v q.v ≠ 1 => setX_swap H1.out H2.out h)
      have BH1 := Lib.hid SB.out.1
      have BH2 := Lib.hid SB.out.2.1
      have BH3 := Lib.hid SB.out.2.2
      have SV1 := Lib.hid (settle_v r q a b wr.heap.size wr HE.out HR.out HQ.out (Nat.le_refl _))
      rw [setR_ok TW1.out] at SV1
      clear SB
      generalize hx0 : setX r q = x0 at *
      generalize hy0 : setX q r = y0 at *
      have HY0 := Lib.hid hy0
      clear hx0 hy0
      go_wp2_with (first | (refine wpList_load_slot rfl 27 (.tmp 3) rfl ⟨w.heap.size, 0, none⟩ rfl [.string (st r.path), .slice a.A a.n a.c, .int .i64 r.dev, .bool r.gone, .int .i64 r.size, .int .i64 r.len, .slice a.D a.m a.k] _ (rcells_at X.out arr_at) Tryd.underlying27 rfl HI.out ?_) | (refine wpList_load_slot rfl 27 (.tmp 4) rfl ⟨w.heap.size + 1, 0, none⟩ rfl [.string (st q.path), .slice b.A b.n b.c, .int .i64 q.dev, .bool q.gone, .int .i64 q.size, .int .i64 q.len, .slice b.D b.m b.k] _ (rcells_at Y.out arr_at) Tryd.underlying27 rfl HI.out ?_) | (refine wpList_load_slot rfl 27 (.tmp 5) rfl ⟨w.heap.size + 2, 0, none⟩ rfl [.string (st s.path), .slice d.A d.n d.c, .int .i64 s.dev, .bool s.gone, .int .i64 s.size, .int .i64 s.len, .slice d.D d.m d.k] _ (rcells_at Z.out arr_at) Tryd.underlying27 rfl HI.out ?_) | fail)
      refine SV1.out.mono ?_
      rintro e w20 ⟨xs, rfl, hx, b3⟩
      have HX := Lib.hid hx
      replace X := Lib.hid (hstep X.out b3)
      replace Y := Lib.hid (hstep Y.out b3)
      replace Z := Lib.hid (hstep Z.out b3)
      replace HE := Lib.hid (HE.out.below b3)
      replace BA := Lib.hid (BA.out.trans (b3.mono BA.out.size))
      replace HR := Lib.hid (HR.out.step b3)
      replace HQ := Lib.hid (HQ.out.step b3)
      replace HS := Lib.hid (HS.out.step b3)
      clear b3 hx SV1 RS
      have b4 := (Below.refl w20.heap.size w20).alloc (Nat.le_refl _) (.cells #[.string (st x0.path), .slice xs.A xs.n xs.c, .int .i64 x0.dev, .bool x0.gone, .int .i64 x0.size, .int .i64 x0.len, .slice xs.D xs.m xs.k] 27)
      replace HX := Lib.hid (HX.out.step b4)
      clear b4
      have b3 := (Below.refl w20.heap.size w20).alloc (Nat.le_refl _) (.cells #[.string (st x0.path), .slice xs.A xs.n xs.c, .int .i64 x0.dev, .bool x0.gone, .int .i64 x0.size, .int .i64 x0.len, .slice xs.D xs.m xs.k] 27)
      replace X := Lib.hid (hstep X.out b3)
      replace Y := Lib.hid (hstep Y.out b3)
      replace Z := Lib.hid (hstep Z.out b3)
      replace HE := Lib.hid (HE.out.below b3)
      replace BA := Lib.hid (BA.out.trans (b3.mono BA.out.size))
      replace HR := Lib.hid (HR.out.step b3)
      replace HQ := Lib.hid (HQ.out.step b3)
      replace HS := Lib.hid (HS.out.step b3)
      have PX := Lib.hid (heap_alloc_new w20 (.cells #[.string (st x0.path), .slice xs.A xs.n xs.c, .int .i64 x0.dev, .bool x0.gone, .int .i64 x0.size, .int .i64 x0.len, .slice xs.D xs.m xs.k] 27))
      clear b3
      (try dsimp only)
      go_upto_region 24 with fail
      generalize w20.alloc (.cells #[.string (st x0.path), .slice xs.A xs.n xs.c, .int .i64 x0.dev, .bool x0.gone, .int .i64 x0.size, .int .i64 x0.len, .slice xs.D xs.m xs.k] 27) = w21 at *
      generalize w20.heap.size = gx at *
      have SV2 := Lib.hid (settle_v q r b a w21.heap.size w21 HE.out HQ.out HR.out (Nat.le_refl _))
      rw [setR_ok TW2.out, HY0.out] at SV2
      go_wp2_with (first | (refine wpList_load_slot rfl 27 (.tmp 3) rfl ⟨w.heap.size, 0, none⟩ rfl [.string (st r.path), .slice a.A a.n a.c, .int .i64 r.dev, .bool r.gone, .int .i64 r.size, .int .i64 r.len, .slice a.D a.m a.k] _ (rcells_at X.out arr_at) Tryd.underlying27 rfl HI.out ?_) | (refine wpList_load_slot rfl 27 (.tmp 4) rfl ⟨w.heap.size + 1, 0, none⟩ rfl [.string (st q.path), .slice b.A b.n b.c, .int .i64 q.dev, .bool q.gone, .int .i64 q.size, .int .i64 q.len, .slice b.D b.m b.k] _ (rcells_at Y.out arr_at) Tryd.underlying27 rfl HI.out ?_) | (refine wpList_load_slot rfl 27 (.tmp 5) rfl ⟨w.heap.size + 2, 0, none⟩ rfl [.string (st s.path), .slice d.A d.n d.c, .int .i64 s.dev, .bool s.gone, .int .i64 s.size, .int .i64 s.len, .slice d.D d.m d.k] _ (rcells_at Z.out arr_at) Tryd.underlying27 rfl HI.out ?_) | fail)
      refine SV2.out.mono ?_
      rintro e w22 ⟨ys, rfl, hy, b3⟩
      have HY := Lib.hid hy
      replace X := Lib.hid (hstep X.out b3)
      replace Y := Lib.hid (hstep Y.out b3)
      replace Z := Lib.hid (hstep Z.out b3)
      replace HE := Lib.hid (HE.out.below b3)
      replace BA := Lib.hid (BA.out.trans (b3.mono BA.out.size))
      replace HR := Lib.hid (HR.out.step b3)
      replace HQ := Lib.hid (HQ.out.step b3)
      replace HS := Lib.hid (HS.out.step b3)
      replace PX := Lib.hid (hstep PX.out b3)
      replace HX := Lib.hid (HX.out.step b3)
      clear b3 hy SV2
      have b4 := (Below.refl w22.heap.size w22).alloc (Nat.le_refl _) (.cells #[.string (st y0.path), .slice ys.A ys.n ys.c, .int .i64 y0.dev, .bool y0.gone, .int .i64 y0.size, .int .i64 y0.len, .slice ys.D ys.m ys.k] 27)
      replace HY := Lib.hid (HY.out.step b4)
      clear b4
      have b3 := (Below.refl w22.heap.size w22).alloc (Nat.le_refl _) (.cells #[.string (st y0.path), .slice ys.A ys.n ys.c, .int .i64 y0.dev, .bool y0.gone, .int .i64 y0.size, .int .i64 y0.len, .slice ys.D ys.m ys.k] 27)
      replace X := Lib.hid (hstep X.out b3)
      replace Y := Lib.hid (hstep Y.out b3)
      replace Z := Lib.hid (hstep Z.out b3)
      replace HE := Lib.hid (HE.out.below b3)
      replace BA := Lib.hid (BA.out.trans (b3.mono BA.out.size))
      replace HR := Lib.hid (HR.out.step b3)
      replace HQ := Lib.hid (HQ.out.step b3)
      replace HS := Lib.hid (HS.out.step b3)
      replace PX := Lib.hid (hstep PX.out b3)
      replace HX := Lib.hid (HX.out.step b3)
      have PY := Lib.hid (heap_alloc_new w22 (.cells #[.string (st y0.path), .slice ys.A ys.n ys.c, .int .i64 y0.dev, .bool y0.gone, .int .i64 y0.size, .int .i64 y0.len, .slice ys.D ys.m ys.k] 27))
      clear b3
      (try dsimp only)
      go_upto_region 25 with fail
      generalize w22.alloc (.cells #[.string (st y0.path), .slice ys.A ys.n ys.c, .int .i64 y0.dev, .bool y0.gone, .int .i64 y0.size, .int .i64 y0.len, .slice ys.D ys.m ys.k] 27) = w23 at *
      generalize w22.heap.size = gy at *
      have c1 : w23.cell? ⟨gx, 1, none⟩ = some (.slice xs.A xs.n xs.c) := by rw [cell_of_row _ _ 1 _ _ _ PX.out]; rfl
      have c2 : w23.cell? ⟨gy, 1, none⟩ = some (.slice ys.A ys.n ys.c) := by rw [cell_of_row _ _ 1 _ _ _ PY.out]; rfl
      have hxn := HX.out.hn
      go_wp2_with fail
      refine (same_v w23.heap.size xs.A ys.A xs.n xs.c ys.n ys.c x0.v y0.v w23 HX.out.cs HY.out.cs (Nat.le_refl _) (by omega)).mono ?_
      rintro e w24 ⟨rfl, b3⟩
      rw [decide_eq_true BH3.out.symm]
      clear c1 c2
      replace X := Lib.hid (hstep X.out b3)
      replace Y := Lib.hid (hstep Y.out b3)
      replace Z := Lib.hid (hstep Z.out b3)
      replace HE := Lib.hid (HE.out.below b3)
      replace BA := Lib.hid (BA.out.trans (b3.mono BA.out.size))
      replace HR := Lib.hid (HR.out.step b3)
      replace HQ := Lib.hid (HQ.out.step b3)
      replace HS := Lib.hid (HS.out.step b3)
      replace PX := Lib.hid (hstep PX.out b3)
      replace HX := Lib.hid (HX.out.step b3)
      replace PY := Lib.hid (hstep PY.out b3)
      replace HY := Lib.hid (HY.out.step b3)
      clear b3
      cases sm
      · have hne : cmpV r.v q.v ≠ 1 := by
          intro h
          have := E5.out
          unfold verR at this
          rw [decide_eq_true HP.out, decide_eq_true h] at this
          cases this
        obtain rfl := SWP.out hne
        clear hne
        go_wp2_with (first | (refine wpList_load_slot rfl 27 (.tmp 3) rfl ⟨w.heap.size, 0, none⟩ rfl [.string (st r.path), .slice a.A a.n a.c, .int .i64 r.dev, .bool r.gone, .int .i64 r.size, .int .i64 r.len, .slice a.D a.m a.k] _ (rcells_at X.out arr_at) Tryd.underlying27 rfl HI.out ?_) | (refine wpList_load_slot rfl 27 (.tmp 4) rfl ⟨w.heap.size + 1, 0, none⟩ rfl [.string (st q.path), .slice b.A b.n b.c, .int .i64 q.dev, .bool q.gone, .int .i64 q.size, .int .i64 q.len, .slice b.D b.m b.k] _ (rcells_at Y.out arr_at) Tryd.underlying27 rfl HI.out ?_) | (refine wpList_load_slot rfl 27 (.tmp 5) rfl ⟨w.heap.size + 2, 0, none⟩ rfl [.string (st s.path), .slice d.A d.n d.c, .int .i64 s.dev, .bool s.gone, .int .i64 s.size, .int .i64 s.len, .slice d.D d.m d.k] _ (rcells_at Z.out arr_at) Tryd.underlying27 rfl HI.out ?_) | (refine wpList_load_slot rfl 27 (.tmp 24) rfl ⟨gx, 0, none⟩ rfl [.string (st y0.path), .slice xs.A xs.n xs.c, .int .i64 y0.dev, .bool y0.gone, .int .i64 y0.size, .int .i64 y0.len, .slice xs.D xs.m xs.k] _ (rcells_at PX.out arr_at) Tryd.underlying27 rfl HI.out ?_) | (refine wpList_load_slot rfl 27 (.tmp 25) rfl ⟨gy, 0, none⟩ rfl [.string (st y0.path), .slice ys.A ys.n ys.c, .int .i64 y0.dev, .bool y0.gone, .int .i64 y0.size, .int .i64 y0.len, .slice ys.D ys.m ys.k] _ (rcells_at PY.out arr_at) Tryd.underlying27 rfl HI.out ?_) | fail)
        refine (krec_v y0 y0 xs ys w24.heap.size w24 HX.out HY.out (Nat.le_refl _)).mono ?_
        rintro e w25 ⟨rfl, b3⟩
        rw [sameR_self]
        replace X := Lib.hid (hstep X.out b3)
        replace Y := Lib.hid (hstep Y.out b3)
        replace Z := Lib.hid (hstep Z.out b3)
        replace HE := Lib.hid (HE.out.below b3)
        replace BA := Lib.hid (BA.out.trans (b3.mono BA.out.size))
        replace HR := Lib.hid (HR.out.step b3)
        replace HQ := Lib.hid (HQ.out.step b3)
        replace HS := Lib.hid (HS.out.step b3)
        replace PX := Lib.hid (hstep PX.out b3)
        replace HX := Lib.hid (HX.out.step b3)
        clear b3
        go_wp2_with (first | (refine wpList_load_slot rfl 27 (.tmp 3) rfl ⟨w.heap.size, 0, none⟩ rfl [.string (st r.path), .slice a.A a.n a.c, .int .i64 r.dev, .bool r.gone, .int .i64 r.size, .int .i64 r.len, .slice a.D a.m a.k] _ (rcells_at X.out arr_at) Tryd.underlying27 rfl HI.out ?_) | (refine wpList_load_slot rfl 27 (.tmp 4) rfl ⟨w.heap.size + 1, 0, none⟩ rfl [.string (st q.path), .slice b.A b.n b.c, .int .i64 q.dev, .bool q.gone, .int .i64 q.size, .int .i64 q.len, .slice b.D b.m b.k] _ (rcells_at Y.out arr_at) Tryd.underlying27 rfl HI.out ?_) | (refine wpList_load_slot rfl 27 (.tmp 5) rfl ⟨w.heap.size + 2, 0, none⟩ rfl [.string (st s.path), .slice d.A d.n d.c, .int .i64 s.dev, .bool s.gone, .int .i64 s.size, .int .i64 s.len, .slice d.D d.m d.k] _ (rcells_at Z.out arr_at) Tryd.underlying27 rfl HI.out ?_) | (refine wpList_load_slot rfl 27 (.tmp 24) rfl ⟨gx, 0, none⟩ rfl [.string (st y0.path), .slice xs.A xs.n xs.c, .int .i64 y0.dev, .bool y0.gone, .int .i64 y0.size, .int .i64 y0.len, .slice xs.D xs.m xs.k] _ (rcells_at PX.out arr_at) Tryd.underlying27 rfl HI.out ?_) | fail)
        refine (behind_v r y0 a xs w25.heap.size w25 HR.out HX.out (Nat.le_refl _)).mono ?_
        rintro e u1 ⟨rfl, b3⟩
        rw [BH1.out]
        replace X := Lib.hid (hstep X.out b3)
        replace Y := Lib.hid (hstep Y.out b3)
        replace Z := Lib.hid (hstep Z.out b3)
        replace HE := Lib.hid (HE.out.below b3)
        replace BA := Lib.hid (BA.out.trans (b3.mono BA.out.size))
        replace HR := Lib.hid (HR.out.step b3)
        replace HQ := Lib.hid (HQ.out.step b3)
        replace HS := Lib.hid (HS.out.step b3)
        replace PX := Lib.hid (hstep PX.out b3)
        replace HX := Lib.hid (HX.out.step b3)
        clear b3
        go_wp2_with (first | (refine wpList_load_slot rfl 27 (.tmp 3) rfl ⟨w.heap.size, 0, none⟩ rfl [.string (st r.path), .slice a.A a.n a.c, .int .i64 r.dev, .bool r.gone, .int .i64 r.size, .int .i64 r.len, .slice a.D a.m a.k] _ (rcells_at X.out arr_at) Tryd.underlying27 rfl HI.out ?_) | (refine wpList_load_slot rfl 27 (.tmp 4) rfl ⟨w.heap.size + 1, 0, none⟩ rfl [.string (st q.path), .slice b.A b.n b.c, .int .i64 q.dev, .bool q.gone, .int .i64 q.size, .int .i64 q.len, .slice b.D b.m b.k] _ (rcells_at Y.out arr_at) Tryd.underlying27 rfl HI.out ?_) | (refine wpList_load_slot rfl 27 (.tmp 5) rfl ⟨w.heap.size + 2, 0, none⟩ rfl [.string (st s.path), .slice d.A d.n d.c, .int .i64 s.dev, .bool s.gone, .int .i64 s.size, .int .i64 s.len, .slice d.D d.m d.k] _ (rcells_at Z.out arr_at) Tryd.underlying27 rfl HI.out ?_) | (refine wpList_load_slot rfl 27 (.tmp 24) rfl ⟨gx, 0, none⟩ rfl [.string (st y0.path), .slice xs.A xs.n xs.c, .int .i64 y0.dev, .bool y0.gone, .int .i64 y0.size, .int .i64 y0.len, .slice xs.D xs.m xs.k] _ (rcells_at PX.out arr_at) Tryd.underlying27 rfl HI.out ?_) | fail)
        refine (behind_v q y0 b xs u1.heap.size u1 HQ.out HX.out (Nat.le_refl _)).mono ?_
        rintro e u2 ⟨rfl, b3⟩
        rw [BH2.out]
        replace BA := Lib.hid (BA.out.trans (b3.mono BA.out.size))
        clear b3
        go_wp2
        go_ret
        exact ⟨by first | rfl | simp, BA.out⟩
      ·
        go_wp2_with (first | (refine wpList_load_slot rfl 27 (.tmp 3) rfl ⟨w.heap.size, 0, none⟩ rfl [.string (st r.path), .slice a.A a.n a.c, .int .i64 r.dev, .bool r.gone, .int .i64 r.size, .int .i64 r.len, .slice a.D a.m a.k] _ (rcells_at X.out arr_at) Tryd.underlying27 rfl HI.out ?_) | (refine wpList_load_slot rfl 27 (.tmp 4) rfl ⟨w.heap.size + 1, 0, none⟩ rfl [.string (st q.path), .slice b.A b.n b.c, .int .i64 q.dev, .bool q.gone, .int .i64 q.size, .int .i64 q.len, .slice b.D b.m b.k] _ (rcells_at Y.out arr_at) Tryd.underlying27 rfl HI.out ?_) | (refine wpList_load_slot rfl 27 (.tmp 5) rfl ⟨w.heap.size + 2, 0, none⟩ rfl [.string (st s.path), .slice d.A d.n d.c, .int .i64 s.dev, .bool s.gone, .int .i64 s.size, .int .i64 s.len, .slice d.D d.m d.k] _ (rcells_at Z.out arr_at) Tryd.underlying27 rfl HI.out ?_) | (refine wpList_load_slot rfl 27 (.tmp 24) rfl ⟨gx, 0, none⟩ rfl [.string (st x0.path), .slice xs.A xs.n xs.c, .int .i64 x0.dev, .bool x0.gone, .int .i64 x0.size, .int .i64 x0.len, .slice xs.D xs.m xs.k] _ (rcells_at PX.out arr_at) Tryd.underlying27 rfl HI.out ?_) | fail)
        refine (behind_v r x0 a xs w24.heap.size w24 HR.out HX.out (Nat.le_refl _)).mono ?_
        rintro e u1 ⟨rfl, b3⟩
        rw [BH1.out]
        replace X := Lib.hid (hstep X.out b3)
        replace Y := Lib.hid (hstep Y.out b3)
        replace Z := Lib.hid (hstep Z.out b3)
        replace HE := Lib.hid (HE.out.below b3)
        replace BA := Lib.hid (BA.out.trans (b3.mono BA.out.size))
        replace HR := Lib.hid (HR.out.step b3)
        replace HQ := Lib.hid (HQ.out.step b3)
        replace HS := Lib.hid (HS.out.step b3)
        replace PX := Lib.hid (hstep PX.out b3)
        replace HX := Lib.hid (HX.out.step b3)
        clear b3
        go_wp2_with (first | (refine wpList_load_slot rfl 27 (.tmp 3) rfl ⟨w.heap.size, 0, none⟩ rfl [.string (st r.path), .slice a.A a.n a.c, .int .i64 r.dev, .bool r.gone, .int .i64 r.size, .int .i64 r.len, .slice a.D a.m a.k] _ (rcells_at X.out arr_at) Tryd.underlying27 rfl HI.out ?_) | (refine wpList_load_slot rfl 27 (.tmp 4) rfl ⟨w.heap.size + 1, 0, none⟩ rfl [.string (st q.path), .slice b.A b.n b.c, .int .i64 q.dev, .bool q.gone, .int .i64 q.size, .int .i64 q.len, .slice b.D b.m b.k] _ (rcells_at Y.out arr_at) Tryd.underlying27 rfl HI.out ?_) | (refine wpList_load_slot rfl 27 (.tmp 5) rfl ⟨w.heap.size + 2, 0, none⟩ rfl [.string (st s.path), .slice d.A d.n d.c, .int .i64 s.dev, .bool s.gone, .int .i64 s.size, .int .i64 s.len, .slice d.D d.m d.k] _ (rcells_at Z.out arr_at) Tryd.underlying27 rfl HI.out ?_) | (refine wpList_load_slot rfl 27 (.tmp 24) rfl ⟨gx, 0, none⟩ rfl [.string (st x0.path), .slice xs.A xs.n xs.c, .int .i64 x0.dev, .bool x0.gone, .int .i64 x0.size, .int .i64 x0.len, .slice xs.D xs.m xs.k] _ (rcells_at PX.out arr_at) Tryd.underlying27 rfl HI.out ?_) | fail)
        refine (behind_v q x0 b xs u1.heap.size u1 HQ.out HX.out (Nat.le_refl _)).mono ?_
        rintro e u2 ⟨rfl, b3⟩
        rw [BH2.out]
        replace BA := Lib.hid (BA.out.trans (b3.mono BA.out.size))
        clear b3
        go_wp2
        go_ret
        exact ⟨by first | rfl | simp, BA.out⟩
end Go.Proofs.YtndekohimfjdeaaDoor

namespace Go.Proofs.YtndekohimfjdeaaDoor
open Go Go.RowKit Go.ChangeShapes Go.WideShapes Go.ChangeAt
variable {H : Type} {enc : TypeId × Value → H}
theorem returns_and_shaped {a : Assume} {C : Checked} {os : Os} {f : FuncId} {fn : Func} {s : ChangeSpec} {conds : List PathCond} {apart fresh handsOn again : Bool} {X : World → Array Value → Prop}
    (hX : ∀ (w w' : World) (args : Array Value), w.heap = w'.heap → X w args → X w' args)
    (own : ownKnob C.prog.godebug = none) (started : os.Started) (noInit : C.prog.inits.idxOf? f = none) (hfn : C.prog.funcs[f]? = some fn)
    (witness : ∃ (w : World) (tape : Tape) (i : Input), w.os = os ∧ (w.forCall tape i).Shaped C.prog ∧ i.vars = [] ∧ Input.okWide C.prog (w.forCall tape i) .any w.heap.size f i ∧
      ((s.pre enc C.prog fn conds apart (w.forCall tape i).memory i.args ∧ X (w.forCall tape i).memory i.args) ∧ sizedMet enc C.prog fn (OpenSpec.ofChange s) apart (w.forCall tape i).memory i.args) ∧ a.holds C.prog (lone (Frame.enter C.prog f i.args .normal) [] (w.forCall tape i)))
    (contract : ∀ (W : World) (base : Nat) (args : Array Value) (ds gs : List (DataW H)) (before : List MemPlace),
      (∀ (j : Nat) t v, fn.params[j]? = some t → args[j]? = some v → Value.okWide C.prog W .any base t v) →
      DataW.Whole enc C.prog fn.params.toList s.vars apart W args.toList ds gs before →
      conds.all (PathCond.test C.prog ⟨fn.params.toList, ds, s.plain.varTypes C.prog, gs⟩) = true →
      (DataW.weightsEach C.prog (fn.params.toList ++ s.plain.varTypes C.prog) (ds ++ gs)).all (· ≤ reachBytes) = true → X W args →
      W.ShapedOpen C.prog →
      Calls C.prog f args W fun e W' => ∃ v, e = .returned v ∧ s.post enc C.prog fn apart fresh handsOn again W args v W') :
    ReturnsInHanded a C os f .any (fun w args => (s.pre enc C.prog fn conds apart w args ∧ X w args) ∧ sizedMet enc C.prog fn (OpenSpec.ofChange s) apart w args) (s.post enc C.prog fn apart fresh handsOn again) := by
  refine returnsInHanded_of_calls own started noInit witness ?_
  intro w tape i _ hsh _ hok hpre hholds
  obtain ⟨_, _, _, fn', hfn', _, _, _, _, hval⟩ := hok
  have e : fn' = fn := Option.some.inj (hfn'.symm.trans hfn)
  subst e
  obtain ⟨⟨⟨ds, gs, before, hw, hc⟩, hx⟩, hz⟩ := hpre
  have hw' := DataW.Whole.of_heap (w' := w.forCall tape i) (by rfl) hw
  refine (contract (w.forCall tape i) w.heap.size i.args ds gs before hval hw' hc (hz.weights hw) (hX _ _ _ (by rfl) hx) hsh).mono fun e W' ⟨v, he, hp⟩ => ?_
  subst he
  exact ChangeSpec.post_blind hp
end Go.Proofs.YtndekohimfjdeaaDoor
