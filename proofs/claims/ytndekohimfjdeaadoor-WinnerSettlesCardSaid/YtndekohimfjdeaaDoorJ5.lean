/-
  Records: the same version (the reference), the same record (the kit), behind; which of many wins.
  Winner: what is settled, in plain Lean.
  A region that draws its order, walked state by state: what has come up so far is written out; states that are reached in several ways are shown once.
  Winner: WinnerSettles.
  Cards: the wrap that keeps the world's shape beside a further premise.
-/
import Derived.Test.YtndekohimfjdeaaDoorJ1
import Derived.Test.YtndekohimfjdeaaDoorJ2
import Derived.Test.YtndekohimfjdeaaDoorJ3
import Derived.Test.YtndekohimfjdeaaDoorJ4
import Derived.Test.YtndekohimfjdeaaDoorRows
import Derived.Handed
import Derived.SizedLaws
import Derived.LaidMore
import Derived.Stop.Joined
import Derived.Stop.LaidErr
namespace Go.Proofs.YtndekohimfjdeaaDoor
open Go.RowKit Go.Shelf
def verR (r q : Rcd) : Bool := decide (r.path = q.path) && decide (cmpV r.v q.v = 1)
set_option maxRecDepth 100000 in
set_option maxHeartbeats 8000000 in
theorem version_v (r q : Rcd) (a b : RSh) (B : Nat) (w : World) (hr : RReads w B r a) (hq : RReads w B q b) (hB : B ≤ w.heap.size) :
    Calls Tryd.prog 17 #[.agg #[.string (st r.path), .slice a.A a.n a.c, .int .i64 r.dev, .bool r.gone, .int .i64 r.size, .int .i64 r.len, .slice a.D a.m a.k], .agg #[.string (st q.path), .slice b.A b.n b.c, .int .i64 q.dev, .bool q.gone, .int .i64 q.size, .int .i64 q.len, .slice b.D b.m b.k]] w fun e w' => e = .returned (.bool (verR r q)) ∧ Below w.heap.size w w' := by
  have HI := Lib.hid (show (Tryd.prog.info? 27).map (·.size) = some 7 by kernel_rfl)
  have HL := Lib.hid (show (Tryd.prog.info? 25).map (·.size) = some 3 by kernel_rfl)
  have BA := Lib.hid (((Below.refl w.heap.size w).alloc (Nat.le_refl _) (.cells #[.string (st r.path), .slice a.A a.n a.c, .int .i64 r.dev, .bool r.gone, .int .i64 r.size, .int .i64 r.len, .slice a.D a.m a.k] 27)).alloc (by simp) (.cells #[.string (st q.path), .slice b.A b.n b.c, .int .i64 q.dev, .bool q.gone, .int .i64 q.size, .int .i64 q.len, .slice b.D b.m b.k] 27))
  have Y := Lib.hid (heap_alloc2_new w (.cells #[.string (st r.path), .slice a.A a.n a.c, .int .i64 r.dev, .bool r.gone, .int .i64 r.size, .int .i64 r.len, .slice a.D a.m a.k] 27) (.cells #[.string (st q.path), .slice b.A b.n b.c, .int .i64 q.dev, .bool q.gone, .int .i64 q.size, .int .i64 q.len, .slice b.D b.m b.k] 27))
  have X := Lib.hid (heap_alloc2_old w (.cells #[.string (st r.path), .slice a.A a.n a.c, .int .i64 r.dev, .bool r.gone, .int .i64 r.size, .int .i64 r.len, .slice a.D a.m a.k] 27) (.cells #[.string (st q.path), .slice b.A b.n b.c, .int .i64 q.dev, .bool q.gone, .int .i64 q.size, .int .i64 q.len, .slice b.D b.m b.k] 27))
  have HR := Lib.hid hr
  have HQ := Lib.hid hq
  have hn1 := hr.hn
  have hn2 := hq.hn
  have hm1 := hr.hm
  have hm2 := hq.hm
  have hz : w.heap.size + 2 ≤ ((w.alloc (.cells #[.string (st r.path), .slice a.A a.n a.c, .int .i64 r.dev, .bool r.gone, .int .i64 r.size, .int .i64 r.len, .slice a.D a.m a.k] 27)).alloc (.cells #[.string (st q.path), .slice b.A b.n b.c, .int .i64 q.dev, .bool q.gone, .int .i64 q.size, .int .i64 q.len, .slice b.D b.m b.k] 27)).heap.size := by simp
  clear hr hq
  go_enter Tryd.func17, Tryd.ntmps17
  go_upto_region 1 with fail
  generalize (w.alloc (.cells #[.string (st r.path), .slice a.A a.n a.c, .int .i64 r.dev, .bool r.gone, .int .i64 r.size, .int .i64 r.len, .slice a.D a.m a.k] 27)).alloc (.cells #[.string (st q.path), .slice b.A b.n b.c, .int .i64 q.dev, .bool q.gone, .int .i64 q.size, .int .i64 q.len, .slice b.D b.m b.k] 27) = w2 at *
  have c1 := cell_of_row _ _ 0 _ _ _ X.out
  have c2 := cell_of_row _ _ 0 _ _ _ Y.out
  have c3 := cell_of_row _ _ 1 _ _ _ X.out
  have c4 := cell_of_row _ _ 1 _ _ _ Y.out
  have dp := st_beq r.path q.path
  by_cases hp : r.path = q.path
  case neg =>
    rw [decide_eq_false hp] at dp
    have HF := Lib.hid (show verR r q = false by unfold verR; rw [decide_eq_false hp]; rfl)
    clear hp
    go_wp2
    go_ret
    exact ⟨by rw [HF.out]; rfl, BA.out⟩
  rw [decide_eq_true hp] at dp
  have HF := Lib.hid (show verR r q = decide (cmpV r.v q.v = 1) by unfold verR; rw [decide_eq_true hp]; rfl)
  clear hp
  go_wp2_with fail
  refine (rcompare_v B a.A b.A a.n a.c b.n b.c r.v q.v w2 (Reads.below HR.out.cs (BA.out.mono hB)) (Reads.below HQ.out.cs (BA.out.mono hB)) (by omega) (by omega) (by omega) HR.out.ft HQ.out.ft).mono ?_
  rintro e w3 ⟨rfl, b3⟩
  clear c1 c2 c3 c4
  replace X := Lib.hid ((b3.block w.heap.size (by omega)).trans X.out)
  replace Y := Lib.hid ((b3.block (w.heap.size + 1) (by omega)).trans Y.out)
  replace BA := Lib.hid (BA.out.trans (b3.mono (by omega)))
  replace hz : w.heap.size + 2 ≤ w3.heap.size := by have := b3.size; omega
  clear b3
  by_cases h1 : cmpV r.v q.v = 1
  · rw [decide_eq_true h1] at HF
    rw [h1]
    clear h1
    go_wp2
    go_ret
    exact ⟨by rw [HF.out]; rfl, BA.out⟩
  · rw [decide_eq_false h1] at HF
    have d1 : (cmpV r.v q.v == 1) = false := by rw [beq_eq_false_iff_ne]; exact h1
    clear h1
    go_wp2
    go_ret
    exact ⟨by rw [HF.out]; rfl, BA.out⟩
def behindR (r q : Rcd) : Bool := decide (cmpV r.v q.v = 2 ∨ cmpV r.v q.v = 1)
set_option maxRecDepth 100000 in
set_option maxHeartbeats 8000000 in
theorem behind_v (r q : Rcd) (a b : RSh) (B : Nat) (w : World) (hr : RReads w B r a) (hq : RReads w B q b) (hB : B ≤ w.heap.size) :
    Calls Tryd.prog 21 #[.agg #[.string (st r.path), .slice a.A a.n a.c, .int .i64 r.dev, .bool r.gone, .int .i64 r.size, .int .i64 r.len, .slice a.D a.m a.k], .agg #[.string (st q.path), .slice b.A b.n b.c, .int .i64 q.dev, .bool q.gone, .int .i64 q.size, .int .i64 q.len, .slice b.D b.m b.k]] w fun e w' => e = .returned (.bool (behindR r q)) ∧ Below w.heap.size w w' := by
  have HI := Lib.hid (show (Tryd.prog.info? 27).map (·.size) = some 7 by kernel_rfl)
  have HL := Lib.hid (show (Tryd.prog.info? 25).map (·.size) = some 3 by kernel_rfl)
  have BA := Lib.hid (((Below.refl w.heap.size w).alloc (Nat.le_refl _) (.cells #[.string (st r.path), .slice a.A a.n a.c, .int .i64 r.dev, .bool r.gone, .int .i64 r.size, .int .i64 r.len, .slice a.D a.m a.k] 27)).alloc (by simp) (.cells #[.string (st q.path), .slice b.A b.n b.c, .int .i64 q.dev, .bool q.gone, .int .i64 q.size, .int .i64 q.len, .slice b.D b.m b.k] 27))
  have Y := Lib.hid (heap_alloc2_new w (.cells #[.string (st r.path), .slice a.A a.n a.c, .int .i64 r.dev, .bool r.gone, .int .i64 r.size, .int .i64 r.len, .slice a.D a.m a.k] 27) (.cells #[.string (st q.path), .slice b.A b.n b.c, .int .i64 q.dev, .bool q.gone, .int .i64 q.size, .int .i64 q.len, .slice b.D b.m b.k] 27))
  have X := Lib.hid (heap_alloc2_old w (.cells #[.string (st r.path), .slice a.A a.n a.c, .int .i64 r.dev, .bool r.gone, .int .i64 r.size, .int .i64 r.len, .slice a.D a.m a.k] 27) (.cells #[.string (st q.path), .slice b.A b.n b.c, .int .i64 q.dev, .bool q.gone, .int .i64 q.size, .int .i64 q.len, .slice b.D b.m b.k] 27))
  have HR := Lib.hid hr
  have HQ := Lib.hid hq
  have hn1 := hr.hn
  have hn2 := hq.hn
  have hm1 := hr.hm
  have hm2 := hq.hm
  have hz : w.heap.size + 2 ≤ ((w.alloc (.cells #[.string (st r.path), .slice a.A a.n a.c, .int .i64 r.dev, .bool r.gone, .int .i64 r.size, .int .i64 r.len, .slice a.D a.m a.k] 27)).alloc (.cells #[.string (st q.path), .slice b.A b.n b.c, .int .i64 q.dev, .bool q.gone, .int .i64 q.size, .int .i64 q.len, .slice b.D b.m b.k] 27)).heap.size := by simp
  clear hr hq
  go_enter Tryd.func21, Tryd.ntmps21
  go_upto_region 1 with fail
  generalize (w.alloc (.cells #[.string (st r.path), .slice a.A a.n a.c, .int .i64 r.dev, .bool r.gone, .int .i64 r.size, .int .i64 r.len, .slice a.D a.m a.k] 27)).alloc (.cells #[.string (st q.path), .slice b.A b.n b.c, .int .i64 q.dev, .bool q.gone, .int .i64 q.size, .int .i64 q.len, .slice b.D b.m b.k] 27) = w2 at *
  have c3 := cell_of_row _ _ 1 _ _ _ X.out
  have c4 := cell_of_row _ _ 1 _ _ _ Y.out
  go_wp2_with fail
  refine (rcompare_v B a.A b.A a.n a.c b.n b.c r.v q.v w2 (Reads.below HR.out.cs (BA.out.mono hB)) (Reads.below HQ.out.cs (BA.out.mono hB)) (by omega) (by omega) (by omega) HR.out.ft HQ.out.ft).mono ?_
  rintro e w3 ⟨rfl, b3⟩
  clear c3 c4
  replace X := Lib.hid ((b3.block w.heap.size (by omega)).trans X.out)
  replace Y := Lib.hid ((b3.block (w.heap.size + 1) (by omega)).trans Y.out)
  replace BA := Lib.hid (BA.out.trans (b3.mono (by omega)))
  replace hz : w.heap.size + 2 ≤ w3.heap.size := by have := b3.size; omega
  clear b3
  by_cases h2 : cmpV r.v q.v = 2
  · have HF := Lib.hid (show behindR r q = true from decide_eq_true (.inl h2))
    rw [h2]
    clear h2
    go_wp2
    go_ret
    exact ⟨by rw [HF.out]; rfl, BA.out⟩
  have d2 : (cmpV r.v q.v == 2) = false := by rw [beq_eq_false_iff_ne]; exact h2
  by_cases h1 : cmpV r.v q.v = 1
  · have HF := Lib.hid (show behindR r q = true from decide_eq_true (.inr h1))
    rw [h1] at d2 ⊢
    clear h1 h2
    go_wp2
    go_ret
    exact ⟨by rw [HF.out]; rfl, BA.out⟩
  · have d1 : (cmpV r.v q.v == 1) = false := by rw [beq_eq_false_iff_ne]; exact h1
    have HF := Lib.hid (show behindR r q = false from decide_eq_false (by omega))
    clear h1 h2
    go_wp2
    go_ret
    exact ⟨by rw [HF.out]; rfl, BA.out⟩
/-- Are records the same? -/
def sameR (r q : Rcd) : Bool := decide (r.path = q.path) && (decide (r.v = q.v) && (decide (r.dev = q.dev) && (decide (r.gone = q.gone) && sameP r.size r.len q.size q.len r.ds q.ds)))
set_option maxRecDepth 100000 in
set_option maxHeartbeats 8000000 in
theorem krec_v (r q : Rcd) (a b : RSh) (B : Nat) (w : World) (hr : RReads w B r a) (hq : RReads w B q b) (hB : B ≤ w.heap.size) :
    Calls Tryd.prog 18 #[.agg #[.string (st r.path), .slice a.A a.n a.c, .int .i64 r.dev, .bool r.gone, .int .i64 r.size, .int .i64 r.len, .slice a.D a.m a.k], .agg #[.string (st q.path), .slice b.A b.n b.c, .int .i64 q.dev, .bool q.gone, .int .i64 q.size, .int .i64 q.len, .slice b.D b.m b.k]] w fun e w' => e = .returned (.bool (sameR r q)) ∧ Below w.heap.size w w' := by
  have HI := Lib.hid (show (Tryd.prog.info? 27).map (·.size) = some 7 by kernel_rfl)
  have HL := Lib.hid (show (Tryd.prog.info? 25).map (·.size) = some 3 by kernel_rfl)
  have BA := Lib.hid (((Below.refl w.heap.size w).alloc (Nat.le_refl _) (.cells #[.string (st r.path), .slice a.A a.n a.c, .int .i64 r.dev, .bool r.gone, .int .i64 r.size, .int .i64 r.len, .slice a.D a.m a.k] 27)).alloc (by simp) (.cells #[.string (st q.path), .slice b.A b.n b.c, .int .i64 q.dev, .bool q.gone, .int .i64 q.size, .int .i64 q.len, .slice b.D b.m b.k] 27))
  have Y := Lib.hid (heap_alloc2_new w (.cells #[.string (st r.path), .slice a.A a.n a.c, .int .i64 r.dev, .bool r.gone, .int .i64 r.size, .int .i64 r.len, .slice a.D a.m a.k] 27) (.cells #[.string (st q.path), .slice b.A b.n b.c, .int .i64 q.dev, .bool q.gone, .int .i64 q.size, .int .i64 q.len, .slice b.D b.m b.k] 27))
  have X := Lib.hid (heap_alloc2_old w (.cells #[.string (st r.path), .slice a.A a.n a.c, .int .i64 r.dev, .bool r.gone, .int .i64 r.size, .int .i64 r.len, .slice a.D a.m a.k] 27) (.cells #[.string (st q.path), .slice b.A b.n b.c, .int .i64 q.dev, .bool q.gone, .int .i64 q.size, .int .i64 q.len, .slice b.D b.m b.k] 27))
  have HR := Lib.hid hr
  have HQ := Lib.hid hq
  have hn1 := hr.hn
  have hn2 := hq.hn
  have hm1 := hr.hm
  have hm2 := hq.hm
  have hz : w.heap.size + 2 ≤ ((w.alloc (.cells #[.string (st r.path), .slice a.A a.n a.c, .int .i64 r.dev, .bool r.gone, .int .i64 r.size, .int .i64 r.len, .slice a.D a.m a.k] 27)).alloc (.cells #[.string (st q.path), .slice b.A b.n b.c, .int .i64 q.dev, .bool q.gone, .int .i64 q.size, .int .i64 q.len, .slice b.D b.m b.k] 27)).heap.size := by simp
  clear hr hq
  go_enter Tryd.func18, Tryd.ntmps18
  go_upto_region 1 with fail
  generalize (w.alloc (.cells #[.string (st r.path), .slice a.A a.n a.c, .int .i64 r.dev, .bool r.gone, .int .i64 r.size, .int .i64 r.len, .slice a.D a.m a.k] 27)).alloc (.cells #[.string (st q.path), .slice b.A b.n b.c, .int .i64 q.dev, .bool q.gone, .int .i64 q.size, .int .i64 q.len, .slice b.D b.m b.k] 27) = w2 at *
  have c1 := cell_of_row _ _ 0 _ _ _ X.out
  have c2 := cell_of_row _ _ 0 _ _ _ Y.out
  have c3 := cell_of_row _ _ 1 _ _ _ X.out
  have c4 := cell_of_row _ _ 1 _ _ _ Y.out
  have dp := st_beq r.path q.path
  by_cases hp : r.path = q.path
  case neg =>
    rw [decide_eq_false hp] at dp
    have HF := Lib.hid (show sameR r q = false by unfold sameR; simp [hp])
    clear hp
    go_wp2
    go_ret
    exact ⟨by rw [HF.out]; rfl, BA.out⟩
  rw [decide_eq_true hp] at dp
  have HP := Lib.hid hp
  clear hp
  go_wp2_with fail
  refine (same_v B a.A b.A a.n a.c b.n b.c r.v q.v w2 (Reads.below HR.out.cs (BA.out.mono hB)) (Reads.below HQ.out.cs (BA.out.mono hB)) (by omega) (by omega)).mono ?_
  rintro e w3 ⟨rfl, b3⟩
  clear c1 c2 c3 c4
  replace X := Lib.hid ((b3.block w.heap.size (by omega)).trans X.out)
  replace Y := Lib.hid ((b3.block (w.heap.size + 1) (by omega)).trans Y.out)
  replace BA := Lib.hid (BA.out.trans (b3.mono (by omega)))
  replace hz : w.heap.size + 2 ≤ w3.heap.size := by have := b3.size; omega
  clear b3
  by_cases h1 : r.v = q.v
  case neg =>
    rw [decide_eq_false h1]
    have HF := Lib.hid (show sameR r q = false by unfold sameR; simp [h1])
    clear h1
    go_wp2
    go_ret
    exact ⟨by rw [HF.out]; rfl, BA.out⟩
  rw [decide_eq_true h1]
  have c1 := cell_of_row _ _ 2 _ _ _ X.out
  have c2 := cell_of_row _ _ 2 _ _ _ Y.out
  by_cases h2 : r.dev = q.dev
  case neg =>
    have d2 : (r.dev == q.dev) = false := by rw [beq_eq_false_iff_ne]; exact h2
    have HF := Lib.hid (show sameR r q = false by unfold sameR; simp [h2])
    clear h2
    go_wp2
    go_ret
    exact ⟨by rw [HF.out]; rfl, BA.out⟩
  have d2 : (r.dev == q.dev) = true := by rw [beq_iff_eq]; exact h2
  have c3 := cell_of_row _ _ 3 _ _ _ X.out
  have c4 := cell_of_row _ _ 3 _ _ _ Y.out
  by_cases h3 : r.gone = q.gone
  case neg =>
    have d3 : (r.gone == q.gone) = false := by rw [beq_eq_false_iff_ne]; exact h3
    have HF := Lib.hid (show sameR r q = false by unfold sameR; simp [h3])
    clear h3
    go_wp2
    go_ret
    exact ⟨by rw [HF.out]; rfl, BA.out⟩
  have d3 : (r.gone == q.gone) = true := by rw [beq_iff_eq]; exact h3
  have HF := Lib.hid (show sameR r q = sameP r.size r.len q.size q.len r.ds q.ds by unfold sameR; simp [HP.out, h1, h2, h3])
  clear h1 h2 h3
  go_wp2_with (first
    | (refine wpList_load_slot rfl 25 (.tmp 32) rfl ⟨w.heap.size, 4, none⟩ rfl [.int .i64 r.size, .int .i64 r.len, .slice a.D a.m a.k] _ (rcells_at X.out (three_at rfl rfl rfl)) Tryd.underlying25 rfl HL.out ?_)
    | (refine wpList_load_slot rfl 25 (.tmp 34) rfl ⟨w.heap.size + 1, 4, none⟩ rfl [.int .i64 q.size, .int .i64 q.len, .slice b.D b.m b.k] _ (rcells_at Y.out (three_at rfl rfl rfl)) Tryd.underlying25 rfl HL.out ?_)
    | fail)
  refine (list_v r.size r.len q.size q.len a.D b.D a.m a.k b.m b.k B r.ds q.ds w3 (HR.out.dg.below (BA.out.mono hB)) (HQ.out.dg.below (BA.out.mono hB)) (by omega) (by omega)).mono ?_
  rintro e w4 ⟨rfl, b3⟩
  clear c1 c2 c3 c4
  replace X := Lib.hid ((b3.block w.heap.size (by omega)).trans X.out)
  replace Y := Lib.hid ((b3.block (w.heap.size + 1) (by omega)).trans Y.out)
  replace BA := Lib.hid (BA.out.trans (b3.mono (by omega)))
  replace hz : w.heap.size + 2 ≤ w4.heap.size := by have := b3.size; omega
  clear b3
  cases hs : sameP r.size r.len q.size q.len r.ds q.ds
  all_goals
    rw [hs] at HF
    clear hs
    go_wp2
    go_ret
    exact ⟨by rw [HF.out]; rfl, BA.out⟩
theorem pick_v (k : Nat) (w : World) (hk : k < 2) : Calls Tryd.prog 16 #[.int .i64 (k : Int), .int .i64 2] w fun e w' => e = .returned (.int .i64 (k : Int)) ∧ w = w' := by
  obtain rfl | rfl : k = 0 ∨ k = 1 := by omega
  all_goals
    go_enter Tryd.func16, Tryd.ntmps16
    go_wp2
    go_ret
    exact ⟨rfl, rfl⟩
end Go.Proofs.YtndekohimfjdeaaDoor

namespace Go.Proofs.YtndekohimfjdeaaDoor
open Go.RowKit Go.Shelf
theorem hstep {w w' : World} {g : Nat} {o : Obj} (h : w.heap[g]? = some o) (b : Below w.heap.size w w') : w'.heap[g]? = some o := (b.block g (Array.getElem?_eq_some_iff.1 h).1).trans h
theorem RReads.step {w w' : World} {r : Rcd} {a : RSh} (h : RReads w w.heap.size r a) (b : Below w.heap.size w w') : RReads w' w'.heap.size r a := (h.below b).more b.size
theorem okR_iff (r : Rcd) : okR r = 0 ↔ checkL r.path = 0 ∧ okV 0 r.v = true ∧ chk r.size r.len r.ds.length ≠ 3 ∧ ¬(val r.v r.dev = 0 ∨ (r.gone = true ∧ emptyR r = false) ∨ (r.gone = false ∧ chk r.size r.len r.ds.length ≠ 0)) := by
  unfold okR
  constructor
  · intro h
    split at h
    · omega
    · rename_i h1
      split at h
      · cases h
      · rename_i h2
        split at h
        · cases h
        · rename_i h3
          split at h
          · cases h
          · rename_i h4
            exact ⟨by omega, by simpa using h2, h3, h4⟩
  · rintro ⟨h1, h2, h3, h4⟩
    rw [if_neg (by omega), if_neg (by rw [h2]; decide), if_neg h3, if_neg h4]
theorem twoE_iff (r q : Rcd) : twoE r q = 0 ↔ okR r = 0 ∧ okR q = 0 ∧ r.path = q.path := by
  unfold twoE
  constructor
  · intro h
    split at h
    · omega
    · split at h
      · omega
      · split at h
        · exact ⟨by omega, by omega, by assumption⟩
        · cases h
  · rintro ⟨h1, h2, h3⟩
    rw [if_neg (by omega), if_neg (by omega), if_pos h3]
theorem twoE_swap (r q : Rcd) : twoE r q = 0 ↔ twoE q r = 0 := by
  rw [twoE_iff, twoE_iff]
  constructor
  · rintro ⟨h1, h2, h3⟩; exact ⟨h2, h1, h3.symm⟩
  · rintro ⟨h1, h2, h3⟩; exact ⟨h2, h1, h3.symm⟩
section
variable {l m n : List (Int × Nat)}
theorem leF_refl (f : Int → Nat) : leF f f := fun _ _ _ => Nat.le_refl _
theorem cmp_of_le (hl : okV 0 l = true) (hm : okV 0 m = true) (h : leF (val l) (val m)) : cmpV l m = 2 ∨ cmpV l m = 1 := by
  have := (least_iff l m hl hm).2 h
  unfold leastV at this
  exact of_decide_eq_true this
theorem le_anti (hl : okV 0 l = true) (hm : okV 0 m = true) (h : leF (val l) (val m)) (h' : leF (val m) (val l)) : l = m := by
  have h1 := cmp_of_le hl hm h
  have h2 := cmp_of_le hm hl h'
  rw [cmp_turn l m hl hm] at h2
  refine (same_iff l m hl hm).1 ?_
  rcases h1 with e | e
  · rw [e] at h2
    simp [turnedV] at h2
  · exact e
theorem ok_merge2 (hl : okV 0 l = true) (hm : okV 0 m = true) : okV 0 (mergeV [l, m]) = true := ok_merge _ (by simp [allOk, hl, hm])
theorem merge_eat (hl : okV 0 l = true) (hm : okV 0 m = true) (h : leF (val m) (val l)) : mergeV [l, m] = l :=
  le_anti (ok_merge2 hl hm) hl (merge_least hl hm (leF_refl _) h) (merge_upper hl hm).1
end
/-- The settled one of two that may be. -/
def setX (r q : Rcd) : Rcd := {winX r q with v := mergeV [r.v, q.v]}
theorem setR_ok {r q : Rcd} (h : twoE r q = 0) : setR r q = (setX r q, 0) := by
  unfold setR
  rw [if_neg (fun x => x h)]
  rfl
theorem winX_cases (r q : Rcd) : winX r q = r ∨ winX r q = q := by unfold winX; split <;> simp
theorem setX_ok {r q : Rcd} (h : okR r = 0) (h' : okR q = 0) (hp : r.path = q.path) : okR (setX r q) = 0 ∧ (setX r q).path = r.path := by
  have hv := ok_merge2 (okR_v h) (okR_v h')
  have key : ∀ x : Rcd, okR x = 0 → leF (val x.v) (val (mergeV [r.v, q.v])) → okR {x with v := mergeV [r.v, q.v]} = 0 := by
    intro x hx hle
    obtain ⟨k1, k2, k3, k4⟩ := (okR_iff x).1 hx
    refine (okR_iff _).2 ⟨k1, hv, k3, fun hc => k4 ?_⟩
    rcases hc with hc | hc
    · refine .inl ?_
      dsimp only at hc
      by_cases hd : 1 ≤ x.dev ∧ x.dev ≤ 16
      · have := hle x.dev hd.1 hd.2
        omega
      · rcases Int.lt_or_le x.dev 1 with h1 | h1
        · exact val_low x.v 0 x.dev k2 (by omega)
        · exact val_hi x.v 0 x.dev k2 (by omega)
    · exact .inr hc
  have hu := merge_upper (okR_v h) (okR_v h')
  unfold setX
  rcases winX_cases r q with e | e <;> rw [e]
  · exact ⟨key r h hu.1, rfl⟩
  · exact ⟨key q h' hu.2, hp.symm⟩
theorem settle_each {r q : Rcd} (h : okR r = 0) (h' : okR q = 0) (hp : r.path = q.path) (o : Rcd) (ho : o = r ∨ o = q) :
    okR o = 0 ∧ o.path = (setX r q).path ∧ twoE (setX r q) o = 0 ∧ verR (setX (setX r q) o) (setX r q) = true ∧ doR (setX r q) o = (1, 0) ∧
      (cmpV (setX r q).v o.v = 1 ∧ doR o (setX r q) = (1, 0) ∨ cmpV (setX r q).v o.v = 3 ∧ doR o (setX r q) = (2, 0)) := by
  obtain ⟨hx, hxp⟩ := setX_ok h h' hp
  have hv := ok_merge2 (okR_v h) (okR_v h')
  have hu := merge_upper (okR_v h) (okR_v h')
  have hoo : okR o = 0 := by rcases ho with rfl | rfl <;> assumption
  have hop : o.path = (setX r q).path := by rw [hxp]; rcases ho with rfl | rfl; rfl; exact hp.symm
  have hol : leF (val o.v) (val (setX r q).v) := by rcases ho with rfl | rfl; exact hu.1; exact hu.2
  have htwo : twoE (setX r q) o = 0 := (twoE_iff _ _).2 ⟨hx, hoo, hop.symm⟩
  have hvx : okV 0 (setX r q).v = true := hv
  have heat : mergeV [(setX r q).v, o.v] = (setX r q).v := merge_eat hvx (okR_v hoo) hol
  have hc := cmp_of_le (okR_v hoo) hvx hol
  have hct := cmp_turn o.v (setX r q).v (okR_v hoo) hvx
  obtain ⟨d, n, e1, _, e3⟩ := do_ok hx hoo hop.symm
  obtain ⟨d', n', e1', _, e3'⟩ := do_ok hoo hx hop
  have hcc : cmpV (setX r q).v o.v = 1 ∧ cmpV o.v (setX r q).v = 1 ∨ cmpV (setX r q).v o.v = 3 ∧ cmpV o.v (setX r q).v = 2 := by
    rcases hc with e | e
    · rw [e] at hct
      exact .inr ⟨by rw [hct]; rfl, e⟩
    · rw [e] at hct
      exact .inl ⟨by rw [hct]; rfl, e⟩
  refine ⟨hoo, hop, htwo, ?_, ?_, ?_⟩
  · have e : (setX (setX r q) o).path = (setX r q).path := (setX_ok hx hoo hop.symm).2
    have ev : (setX (setX r q) o).v = (setX r q).v := heat
    unfold verR
    rw [e, ev, decide_eq_true rfl, (same_iff _ _ hvx hvx).2 rfl]
    rfl
  · rw [e1]
    rcases hcc with ⟨c1, _⟩ | ⟨c1, _⟩
    · rcases e3 with ⟨a1, a2⟩ | ⟨a1, a2⟩ | ⟨a1, a2⟩ | ⟨a1, a2⟩ | ⟨a1, a2⟩
      · rw [a2]
      all_goals (rw [c1] at a1; cases a1)
    · rcases e3 with ⟨a1, a2⟩ | ⟨a1, a2⟩ | ⟨a1, a2⟩ | ⟨a1, a2⟩ | ⟨a1, a2⟩
      · rw [c1] at a1; cases a1
      · rw [a2]
      all_goals (rw [c1] at a1; cases a1)
  · rw [e1']
    rcases hcc with ⟨c1, c2⟩ | ⟨c1, c2⟩
    · refine .inl ⟨c1, ?_⟩
      rcases e3' with ⟨a1, a2⟩ | ⟨a1, a2⟩ | ⟨a1, a2⟩ | ⟨a1, a2⟩ | ⟨a1, a2⟩
      · rw [a2]
      all_goals (rw [c2] at a1; cases a1)
    · refine .inr ⟨c1, ?_⟩
      rcases e3' with ⟨a1, a2⟩ | ⟨a1, a2⟩ | ⟨a1, a2⟩ | ⟨a1, a2⟩ | ⟨a1, a2⟩
      · rw [c2] at a1; cases a1
      · rw [c2] at a1; cases a1
      · rw [a2]
      all_goals (rw [c2] at a1; cases a1)
theorem setX_same {r q : Rcd} (h : okR r = 0) (h' : okR q = 0) (hp : r.path = q.path) (hs : cmpV r.v q.v = 1) : verR (setX r q) r = true ∧ (setX r q).v = r.v := by
  have e := (same_iff _ _ (okR_v h) (okR_v h')).1 hs
  have ev : (setX r q).v = r.v := merge_eat (okR_v h) (okR_v h') (by rw [e]; exact leF_refl _)
  refine ⟨?_, ev⟩
  unfold verR
  rw [(setX_ok h h' hp).2, ev, decide_eq_true rfl, (same_iff _ _ (okR_v h) (okR_v h)).2 rfl]
  rfl
theorem setX_swap {r q : Rcd} (h : okR r = 0) (h' : okR q = 0) (hs : cmpV r.v q.v ≠ 1) : setX q r = setX r q := by
  have hz : ordV r.v q.v ≠ 0 := fun x => hs ((ord_zero (okR_v h) (okR_v h')).1 x)
  have ht := ordV_turn r.v q.v
  have hw : winX q r = winX r q := by
    unfold winX
    by_cases h1 : 0 < ordV r.v q.v
    · rw [if_pos h1, if_neg (by omega)]
    · rw [if_neg h1, if_pos (by omega)]
  unfold setX
  rw [hw, merge_swap (okR_v h) (okR_v h')]
theorem sameR_self (r : Rcd) : sameR r r = true := by simp [sameR, sameP]
theorem sameP_self (s l : Int) (ds : List Dg) : sameP s l s l ds ds = true := by simp [sameP]
end Go.Proofs.YtndekohimfjdeaaDoor

namespace Go.Proofs.YtndekohimfjdeaaDoor
section
variable {P : Program} {ops : Array Oper} {Q : Exit → Act → World → Prop} {S : World → Prop} {n : Nat} {listed : Array Bool} {a : Act} {w : World}
/-- From here on: n operations are left, 'listed' tells which came up. -/
def TA (P : Program) (ops : Array Oper) (Q : Exit → Act → World → Prop) (S : World → Prop) (n : Nat) (listed : Array Bool) (a : Act) (w : World) : Prop := wpAnyH P .any ops Q S n listed a w
/-- Number i comes up next; it may change the world. -/
def TAE (P : Program) (ops : Array Oper) (Q : Exit → Act → World → Prop) (S : World → Prop) (n : Nat) (listed : Array Bool) (a : Act) (w : World) (i : Nat) : Prop :=
  ∃ o, ops[i]? = some o ∧ Region.wanted o (yielded ops a.tmps) = true ∧ ∀ K : Act → World → Prop, RowKit.Hid (∀ a' w', S w' → TA P ops Q S n (listed.setIfInBounds i true) a' w' → K a' w') → Oper.wp P o a w K Q
theorem TA.all (rs : List Nat) (hr : Region.ready .any ops listed = rs) (hne : rs ≠ []) (h : ∀ i ∈ rs, TAE P ops Q S n listed a w i) : TA P ops Q S (n + 1) listed a w := by
  refine wpAnyH_all hr hne fun i hi => ?_
  obtain ⟨o, ho, hw, hk⟩ := h i hi
  unfold wpOp
  simp only [ho, hw, if_true]
  exact .inl (hk _ fun a' w' hS' hT => ⟨hS', hT⟩)
theorem TA.all1 (i : Nat) (hr : Region.ready .any ops listed = [i]) (h : TAE P ops Q S n listed a w i) : TA P ops Q S (n + 1) listed a w := TA.all [i] hr (by simp) fun j hj => by
  obtain rfl : j = i := by simpa using hj
  exact h
theorem TA.all2 (i j : Nat) (hr : Region.ready .any ops listed = [i, j]) (h : TAE P ops Q S n listed a w i) (h' : TAE P ops Q S n listed a w j) : TA P ops Q S (n + 1) listed a w := TA.all [i, j] hr (by simp) fun x hx => by
  rcases (show x = i ∨ x = j by simpa using hx) with rfl | rfl
  · exact h
  · exact h'
theorem TA.all3 (i j k : Nat) (hr : Region.ready .any ops listed = [i, j, k]) (h : TAE P ops Q S n listed a w i) (h' : TAE P ops Q S n listed a w j) (h'' : TAE P ops Q S n listed a w k) : TA P ops Q S (n + 1) listed a w := TA.all [i, j, k] hr (by simp) fun x hx => by
  rcases (show x = i ∨ x = j ∨ x = k by simpa using hx) with rfl | rfl | rfl
  · exact h
  · exact h'
  · exact h''
theorem TA.all4 (i j k l : Nat) (hr : Region.ready .any ops listed = [i, j, k, l]) (h : TAE P ops Q S n listed a w i) (h' : TAE P ops Q S n listed a w j) (h'' : TAE P ops Q S n listed a w k) (h3 : TAE P ops Q S n listed a w l) : TA P ops Q S (n + 1) listed a w := TA.all [i, j, k, l] hr (by simp) fun x hx => by
  rcases (show x = i ∨ x = j ∨ x = k ∨ x = l by simpa using hx) with rfl | rfl | rfl | rfl
  · exact h
  · exact h'
  · exact h''
  · exact h3
/-- An operation that only reads is taken first. -/
theorem TA.val2 {v : Value} (i : Nat) (o : Oper) (ho : ops[i]? = some o) (hn : Region.noSelect ops = true) (hf : (Region.free .any ops listed i && (Region.ready .any ops listed).contains i) = true) (hw : Region.wanted o (yielded ops a.tmps) = true)
    (hy : ∀ w, S w → (execOp a.eval o).run P w = .ok (.value v) w) (hQ : ∀ c a w, Q (.panic c) (a.put o.dst v) w → Q (.panic c) a w) (hS : S w) (h : TA P ops Q S n (listed.setIfInBounds i true) (a.put o.dst v) w) : TA P ops Q S (n + 1) listed a w := by
  rw [Bool.and_eq_true] at hf
  exact wpAnyH_take ho hn hf.1 hf.2 hQ (.inl ⟨hw, hy⟩) hS h
/-- From here on along a tree. -/
theorem TA.tree (t : SK) (hn : Region.noSelect ops = true) (hl : t.len = n) (hok : t.ok ops listed = true) (h : TR P ops Q S t a w) : TA P ops Q S n listed a w := by
  subst hl
  exact h listed hn hok
/-- A state that is reached in several ways is shown once. -/
theorem TA.share {X : Type} (J : X → Prop) (m : Nat) (listed' : Array Bool) (A : X → Act) (W : X → World) (h : ∀ x, J x → TA P ops Q S m listed' (A x) (W x)) (k : RowKit.Hid (∀ x, J x → TA P ops Q S m listed' (A x) (W x)) → TA P ops Q S n listed a w) : TA P ops Q S n listed a w := k h
/-- The beginning. -/
theorem wp_region_ta {id : Nat} {ol : List Oper} {a : Act} {w : World} (S : World → Prop) (m : Nat) (listed : Array Bool) (hm : P.follows .mixedOrders = true) (hl : ol.length = m) (hi : Array.replicate ol.length false = listed) (h : TA P ol.toArray Q S m listed a w.drew) : (Code.region id ol.toArray true).wp P Q a w := by
  refine wp_region_held (S := S) hm ?_
  subst hl
  subst hi
  exact h
end
end Go.Proofs.YtndekohimfjdeaaDoor

namespace Go.Proofs.YtndekohimfjdeaaDoor
open Go.RowKit Go.Shelf
theorem row_k {W : World} {gs k : Nat} {x y z : Rcd × RSh} {t : TypeId} {fr : Nat × Nat} (h : W.heap[gs]? = some (.cells (rcC x ++ rcC y).toArray t fr)) (hz : [x, y][k]? = some z) :
    ∀ j u, (rcC z)[j]? = some u → W.cell? ((⟨gs, k * 7, none⟩ : Addr).add j) = some u := by
  refine rcells_at h fun j v hv => ?_
  have hj : j < 7 := by
    have := (List.getElem?_eq_some_iff.1 hv).1
    rwa [rcC_len] at this
  rw [List.getElem?_toArray]
  match k, hz with
  | 0, hz =>
    simp at hz
    subst hz
    rw [List.getElem?_append_left (by rw [rcC_len]; omega)]
    simpa using hv
  | 1, hz =>
    simp at hz
    subst hz
    rw [List.getElem?_append_right (by rw [rcC_len]; omega), rcC_len]
    rw [show 1 * 7 + j - 7 = j by omega]
    exact hv
  | k + 2, hz => simp at hz
set_option maxRecDepth 100000 in
set_option maxHeartbeats 16000000 in
theorem settles_v (r q : Rcd) (a b : RSh) (B : Nat) (w : World) (he : EnvM w) (hr : RIn w B r a) (hq : RIn w B q b) (hB : B ≤ w.heap.size) :
    Calls Tryd.prog 4 #[.agg #[.string (st r.path), .slice a.A a.n a.c, .int .i64 r.dev, .bool r.gone, .int .i64 r.size, .int .i64 r.len, .slice a.D a.m a.k], .agg #[.string (st q.path), .slice b.A b.n b.c, .int .i64 q.dev, .bool q.gone, .int .i64 q.size, .int .i64 q.len, .slice b.D b.m b.k]] w fun e w' => e = .returned (.bool true) ∧ Below w.heap.size w w' := by
  have HI := Lib.hid (show (Tryd.prog.info? 27).map (·.size) = some 7 by kernel_rfl)
  have HL := Lib.hid (show (Tryd.prog.info? 25).map (·.size) = some 3 by kernel_rfl)
  have BA := Lib.hid (((Below.refl w.heap.size w).alloc (Nat.le_refl _) (.cells #[.string (st r.path), .slice a.A a.n a.c, .int .i64 r.dev, .bool r.gone, .int .i64 r.size, .int .i64 r.len, .slice a.D a.m a.k] 27)).alloc (by simp) (.cells #[.string (st q.path), .slice b.A b.n b.c, .int .i64 q.dev, .bool q.gone, .int .i64 q.size, .int .i64 q.len, .slice b.D b.m b.k] 27))
  have Y := Lib.hid (heap_alloc2_new w (.cells #[.string (st r.path), .slice a.A a.n a.c, .int .i64 r.dev, .bool r.gone, .int .i64 r.size, .int .i64 r.len, .slice a.D a.m a.k] 27) (.cells #[.string (st q.path), .slice b.A b.n b.c, .int .i64 q.dev, .bool q.gone, .int .i64 q.size, .int .i64 q.len, .slice b.D b.m b.k] 27))
  have X := Lib.hid (heap_alloc2_old w (.cells #[.string (st r.path), .slice a.A a.n a.c, .int .i64 r.dev, .bool r.gone, .int .i64 r.size, .int .i64 r.len, .slice a.D a.m a.k] 27) (.cells #[.string (st q.path), .slice b.A b.n b.c, .int .i64 q.dev, .bool q.gone, .int .i64 q.size, .int .i64 q.len, .slice b.D b.m b.k] 27))
  have HR0 := Lib.hid hr
  have HQ0 := Lib.hid hq
  have HE := Lib.hid (he.below BA.out)
  clear hr hq he
  go_enter Tryd.func4, Tryd.ntmps4
  go_upto_region 1 with fail
  generalize (w.alloc (.cells #[.string (st r.path), .slice a.A a.n a.c, .int .i64 r.dev, .bool r.gone, .int .i64 r.size, .int .i64 r.len, .slice a.D a.m a.k] 27)).alloc (.cells #[.string (st q.path), .slice b.A b.n b.c, .int .i64 q.dev, .bool q.gone, .int .i64 q.size, .int .i64 q.len, .slice b.D b.m b.k] 27) = w2 at *
  go_wp2_with fail
  refine (lives_v w2 HE.out).mono ?_
  rintro e w3 ⟨rfl, b3⟩
  replace X := Lib.hid (hstep X.out b3)
  replace Y := Lib.hid (hstep Y.out b3)
  replace HE := Lib.hid (HE.out.below b3)
  replace BA := Lib.hid (BA.out.trans (b3.mono BA.out.size))
  clear b3
  go_wp2_with (first | (refine wpList_load_slot rfl 27 (.tmp 2) rfl ⟨w.heap.size, 0, none⟩ rfl [.string (st r.path), .slice a.A a.n a.c, .int .i64 r.dev, .bool r.gone, .int .i64 r.size, .int .i64 r.len, .slice a.D a.m a.k] _ (rcells_at X.out arr_at) Tryd.underlying27 rfl HI.out ?_) | (refine wpList_load_slot rfl 27 (.tmp 3) rfl ⟨w.heap.size + 1, 0, none⟩ rfl [.string (st q.path), .slice b.A b.n b.c, .int .i64 q.dev, .bool q.gone, .int .i64 q.size, .int .i64 q.len, .slice b.D b.m b.k] _ (rcells_at Y.out arr_at) Tryd.underlying27 rfl HI.out ?_) | fail)
  refine (light_v r a 300 w3).mono ?_
  rintro e w4 ⟨rfl, b3⟩
  replace X := Lib.hid (hstep X.out b3)
  replace Y := Lib.hid (hstep Y.out b3)
  replace HE := Lib.hid (HE.out.below b3)
  replace BA := Lib.hid (BA.out.trans (b3.mono BA.out.size))
  clear b3
  cases hL1 : lightX 300 (r, a)
  · clear hL1
    go_wp2
    go_ret
    exact ⟨by first | rfl | simp, BA.out⟩
  have HL1 := Lib.hid hL1
  clear hL1
  go_wp2_with (first | (refine wpList_load_slot rfl 27 (.tmp 2) rfl ⟨w.heap.size, 0, none⟩ rfl [.string (st r.path), .slice a.A a.n a.c, .int .i64 r.dev, .bool r.gone, .int .i64 r.size, .int .i64 r.len, .slice a.D a.m a.k] _ (rcells_at X.out arr_at) Tryd.underlying27 rfl HI.out ?_) | (refine wpList_load_slot rfl 27 (.tmp 3) rfl ⟨w.heap.size + 1, 0, none⟩ rfl [.string (st q.path), .slice b.A b.n b.c, .int .i64 q.dev, .bool q.gone, .int .i64 q.size, .int .i64 q.len, .slice b.D b.m b.k] _ (rcells_at Y.out arr_at) Tryd.underlying27 rfl HI.out ?_) | fail)
  refine (light_v q b 300 w4).mono ?_
  rintro e w5 ⟨rfl, b3⟩
  replace X := Lib.hid (hstep X.out b3)
  replace Y := Lib.hid (hstep Y.out b3)
  replace HE := Lib.hid (HE.out.below b3)
  replace BA := Lib.hid (BA.out.trans (b3.mono BA.out.size))
  clear b3
  cases hL2 : lightX 300 (q, b)
  · clear hL2
    go_wp2
    go_ret
    exact ⟨by first | rfl | simp, BA.out⟩
  have HR := Lib.hid (((HR0.out.light HL1.out (by omega)).below (BA.out.mono hB)).more (Nat.le_trans hB BA.out.size))
  have HQ := Lib.hid (((HQ0.out.light hL2 (by omega)).below (BA.out.mono hB)).more (Nat.le_trans hB BA.out.size))
  clear hL2 HL1 HR0 HQ0
  go_wp2_with (first | (refine wpList_load_slot rfl 27 (.tmp 2) rfl ⟨w.heap.size, 0, none⟩ rfl [.string (st r.path), .slice a.A a.n a.c, .int .i64 r.dev, .bool r.gone, .int .i64 r.size, .int .i64 r.len, .slice a.D a.m a.k] _ (rcells_at X.out arr_at) Tryd.underlying27 rfl HI.out ?_) | (refine wpList_load_slot rfl 27 (.tmp 3) rfl ⟨w.heap.size + 1, 0, none⟩ rfl [.string (st q.path), .slice b.A b.n b.c, .int .i64 q.dev, .bool q.gone, .int .i64 q.size, .int .i64 q.len, .slice b.D b.m b.k] _ (rcells_at Y.out arr_at) Tryd.underlying27 rfl HI.out ?_) | fail)
  by_cases h0 : twoE r q = 0
  case neg =>
    have h0' : twoE q r ≠ 0 := fun x => h0 ((twoE_swap r q).2 x)
    obtain ⟨S1, hS1⟩ : ∃ S1, setR r q = S1 := ⟨_, rfl⟩
    obtain ⟨S2, hS2⟩ : ∃ S2, setR q r = S2 := ⟨_, rfl⟩
    have e1 : S1.2 = twoE r q := by rw [← hS1]; unfold setR; rw [if_pos h0]
    have e2 : S2.2 = twoE q r := by rw [← hS2]; unfold setR; rw [if_pos h0']
    have d1 : ((S1.2 : Int) == 0) = false := by rw [beq_eq_false_iff_ne]; omega
    have d2 : ((S2.2 : Int) == 0) = false := by rw [beq_eq_false_iff_ne]; omega
    have d3 : ((S1.2 : Int) != 0) = true := by rw [bne_iff_ne]; omega
    have SV1 := Lib.hid (settle_v r q a b w5.heap.size w5 HE.out HR.out HQ.out (Nat.le_refl _))
    rw [hS1] at SV1
    have HS2 := Lib.hid hS2
    clear h0 h0' e1 e2 hS1 hS2
    refine SV1.out.mono ?_
    rintro e w6 ⟨x, rfl, hx, b3⟩
    replace X := Lib.hid (hstep X.out b3)
    replace Y := Lib.hid (hstep Y.out b3)
    replace HE := Lib.hid (HE.out.below b3)
    replace BA := Lib.hid (BA.out.trans (b3.mono BA.out.size))
    replace HR := Lib.hid (HR.out.step b3)
    replace HQ := Lib.hid (HQ.out.step b3)
    clear b3 hx SV1
    have b3 := (Below.refl w6.heap.size w6).alloc (Nat.le_refl _) (.cells #[.string (st S1.1.path), .slice x.A x.n x.c, .int .i64 S1.1.dev, .bool S1.1.gone, .int .i64 S1.1.size, .int .i64 S1.1.len, .slice x.D x.m x.k] 27)
    go_upto_region 6 with fail
    generalize w6.alloc (.cells #[.string (st S1.1.path), .slice x.A x.n x.c, .int .i64 S1.1.dev, .bool S1.1.gone, .int .i64 S1.1.size, .int .i64 S1.1.len, .slice x.D x.m x.k] 27) = w7 at *
    replace X := Lib.hid (hstep X.out b3)
    replace Y := Lib.hid (hstep Y.out b3)
    replace HE := Lib.hid (HE.out.below b3)
    replace BA := Lib.hid (BA.out.trans (b3.mono BA.out.size))
    replace HR := Lib.hid (HR.out.step b3)
    replace HQ := Lib.hid (HQ.out.step b3)
    clear b3
    have SV2 := Lib.hid (settle_v q r b a w7.heap.size w7 HE.out HQ.out HR.out (Nat.le_refl _))
    rw [HS2.out] at SV2
    go_wp2_with (first | (refine wpList_load_slot rfl 27 (.tmp 2) rfl ⟨w.heap.size, 0, none⟩ rfl [.string (st r.path), .slice a.A a.n a.c, .int .i64 r.dev, .bool r.gone, .int .i64 r.size, .int .i64 r.len, .slice a.D a.m a.k] _ (rcells_at X.out arr_at) Tryd.underlying27 rfl HI.out ?_) | (refine wpList_load_slot rfl 27 (.tmp 3) rfl ⟨w.heap.size + 1, 0, none⟩ rfl [.string (st q.path), .slice b.A b.n b.c, .int .i64 q.dev, .bool q.gone, .int .i64 q.size, .int .i64 q.len, .slice b.D b.m b.k] _ (rcells_at Y.out arr_at) Tryd.underlying27 rfl HI.out ?_) | fail)
    refine SV2.out.mono ?_
    rintro e w8 ⟨y, rfl, hy, b3⟩
    replace BA := Lib.hid (BA.out.trans (b3.mono BA.out.size))
    replace BA := Lib.hid (BA.out.alloc BA.out.size (.cells #[.string (st S2.1.path), .slice y.A y.n y.c, .int .i64 S2.1.dev, .bool S2.1.gone, .int .i64 S2.1.size, .int .i64 S2.1.len, .slice y.D y.m y.k] 27))
    clear b3 hy SV2
    go_wp2
    go_ret
    exact ⟨by first | rfl | simp, BA.out⟩
  obtain ⟨k1, k2, k3⟩ := (twoE_iff r q).1 h0
  have K := Lib.hid (And.intro k1 (And.intro k2 k3))
  have SV1 := Lib.hid (settle_v r q a b w5.heap.size w5 HE.out HR.out HQ.out (Nat.le_refl _))
  rw [setR_ok h0] at SV1
  clear h0 k1 k2 k3
  generalize hx0 : setX r q = x0 at *
  have HX0 := Lib.hid hx0
  clear hx0
  refine SV1.out.mono ?_
  rintro e w6 ⟨x, rfl, hx, b3⟩
  have HX := Lib.hid hx
  replace X := Lib.hid (hstep X.out b3)
  replace Y := Lib.hid (hstep Y.out b3)
  replace HE := Lib.hid (HE.out.below b3)
  replace BA := Lib.hid (BA.out.trans (b3.mono BA.out.size))
  replace HR := Lib.hid (HR.out.step b3)
  replace HQ := Lib.hid (HQ.out.step b3)
  clear b3 hx SV1
  have b4 := (Below.refl w6.heap.size w6).alloc (Nat.le_refl _) (.cells #[.string (st x0.path), .slice x.A x.n x.c, .int .i64 x0.dev, .bool x0.gone, .int .i64 x0.size, .int .i64 x0.len, .slice x.D x.m x.k] 27)
  replace HX := Lib.hid (HX.out.step b4)
  clear b4
  have b3 := (Below.refl w6.heap.size w6).alloc (Nat.le_refl _) (.cells #[.string (st x0.path), .slice x.A x.n x.c, .int .i64 x0.dev, .bool x0.gone, .int .i64 x0.size, .int .i64 x0.len, .slice x.D x.m x.k] 27)
  replace X := Lib.hid (hstep X.out b3)
  replace Y := Lib.hid (hstep Y.out b3)
  replace HE := Lib.hid (HE.out.below b3)
  replace BA := Lib.hid (BA.out.trans (b3.mono BA.out.size))
  replace HR := Lib.hid (HR.out.step b3)
  replace HQ := Lib.hid (HQ.out.step b3)
  have PX := Lib.hid (heap_alloc_new w6 (.cells #[.string (st x0.path), .slice x.A x.n x.c, .int .i64 x0.dev, .bool x0.gone, .int .i64 x0.size, .int .i64 x0.len, .slice x.D x.m x.k] 27))
  clear b3
  (try dsimp only)
  go_upto_region 6 with fail
  generalize w6.alloc (.cells #[.string (st x0.path), .slice x.A x.n x.c, .int .i64 x0.dev, .bool x0.gone, .int .i64 x0.size, .int .i64 x0.len, .slice x.D x.m x.k] 27) = w7 at *
  generalize w6.heap.size = gx at *
  have K2 := Lib.hid (show twoE q r = 0 from (twoE_iff q r).2 ⟨K.out.2.1, K.out.1, K.out.2.2.symm⟩)
  have SV2 := Lib.hid (settle_v q r b a w7.heap.size w7 HE.out HQ.out HR.out (Nat.le_refl _))
  rw [setR_ok K2.out] at SV2
  generalize hy0 : setX q r = y0 at *
  have HY0 := Lib.hid hy0
  clear hy0
  go_wp2_with (first | (refine wpList_load_slot rfl 27 (.tmp 2) rfl ⟨w.heap.size, 0, none⟩ rfl [.string (st r.path), .slice a.A a.n a.c, .int .i64 r.dev, .bool r.gone, .int .i64 r.size, .int .i64 r.len, .slice a.D a.m a.k] _ (rcells_at X.out arr_at) Tryd.underlying27 rfl HI.out ?_) | (refine wpList_load_slot rfl 27 (.tmp 3) rfl ⟨w.heap.size + 1, 0, none⟩ rfl [.string (st q.path), .slice b.A b.n b.c, .int .i64 q.dev, .bool q.gone, .int .i64 q.size, .int .i64 q.len, .slice b.D b.m b.k] _ (rcells_at Y.out arr_at) Tryd.underlying27 rfl HI.out ?_) | fail)
  refine SV2.out.mono ?_
  rintro e w8 ⟨y, rfl, hy, b3⟩
  have HY := Lib.hid hy
  replace X := Lib.hid (hstep X.out b3)
  replace Y := Lib.hid (hstep Y.out b3)
  replace HE := Lib.hid (HE.out.below b3)
  replace BA := Lib.hid (BA.out.trans (b3.mono BA.out.size))
  replace HR := Lib.hid (HR.out.step b3)
  replace HQ := Lib.hid (HQ.out.step b3)
  replace PX := Lib.hid (hstep PX.out b3)
  replace HX := Lib.hid (HX.out.step b3)
  clear b3 hy SV2
  have b4 := (Below.refl w8.heap.size w8).alloc (Nat.le_refl _) (.cells #[.string (st y0.path), .slice y.A y.n y.c, .int .i64 y0.dev, .bool y0.gone, .int .i64 y0.size, .int .i64 y0.len, .slice y.D y.m y.k] 27)
  replace HY := Lib.hid (HY.out.step b4)
  clear b4
  have b3 := (Below.refl w8.heap.size w8).alloc (Nat.le_refl _) (.cells #[.string (st y0.path), .slice y.A y.n y.c, .int .i64 y0.dev, .bool y0.gone, .int .i64 y0.size, .int .i64 y0.len, .slice y.D y.m y.k] 27)
  replace X := Lib.hid (hstep X.out b3)
  replace Y := Lib.hid (hstep Y.out b3)
  replace HE := Lib.hid (HE.out.below b3)
  replace BA := Lib.hid (BA.out.trans (b3.mono BA.out.size))
  replace HR := Lib.hid (HR.out.step b3)
  replace HQ := Lib.hid (HQ.out.step b3)
  replace PX := Lib.hid (hstep PX.out b3)
  replace HX := Lib.hid (HX.out.step b3)
  have PY := Lib.hid (heap_alloc_new w8 (.cells #[.string (st y0.path), .slice y.A y.n y.c, .int .i64 y0.dev, .bool y0.gone, .int .i64 y0.size, .int .i64 y0.len, .slice y.D y.m y.k] 27))
  clear b3
  (try dsimp only)
  go_upto_region 7 with fail
  generalize w8.alloc (.cells #[.string (st y0.path), .slice y.A y.n y.c, .int .i64 y0.dev, .bool y0.gone, .int .i64 y0.size, .int .i64 y0.len, .slice y.D y.m y.k] 27) = w9 at *
  generalize w8.heap.size = gy at *
  obtain ⟨k, xw, hk, hxw, hw, hxr⟩ : ∃ (k : Nat) (x : Rcd × RSh), k < 2 ∧ [(r, a), (q, b)][k]? = some x ∧ winR r q = (k, 0) ∧ winX r q = x.1 := by
    by_cases h2 : 0 < ordV q.v r.v
    · exact ⟨1, (q, b), by omega, rfl, by rw [win_ok K.out.1 K.out.2.1 K.out.2.2, if_pos h2], by unfold winX; rw [if_pos h2]⟩
    · exact ⟨0, (r, a), by omega, rfl, by rw [win_ok K.out.1 K.out.2.1 K.out.2.2, if_neg h2], by unfold winX; rw [if_neg h2]⟩
  have HXW := Lib.hid hxw
  have HW := Lib.hid hw
  have HXR := Lib.hid hxr
  clear hxw hw hxr
  go_wp2_with (first | (refine wpList_load_slot rfl 27 (.tmp 2) rfl ⟨w.heap.size, 0, none⟩ rfl [.string (st r.path), .slice a.A a.n a.c, .int .i64 r.dev, .bool r.gone, .int .i64 r.size, .int .i64 r.len, .slice a.D a.m a.k] _ (rcells_at X.out arr_at) Tryd.underlying27 rfl HI.out ?_) | (refine wpList_load_slot rfl 27 (.tmp 3) rfl ⟨w.heap.size + 1, 0, none⟩ rfl [.string (st q.path), .slice b.A b.n b.c, .int .i64 q.dev, .bool q.gone, .int .i64 q.size, .int .i64 q.len, .slice b.D b.m b.k] _ (rcells_at Y.out arr_at) Tryd.underlying27 rfl HI.out ?_) | fail)
  refine (winner_v r q a b w9.heap.size w9 HE.out HR.out HQ.out (Nat.le_refl _)).mono ?_
  rintro e w10 ⟨rfl, b3⟩
  rw [HW.out]
  replace X := Lib.hid (hstep X.out b3)
  replace Y := Lib.hid (hstep Y.out b3)
  replace HE := Lib.hid (HE.out.below b3)
  replace BA := Lib.hid (BA.out.trans (b3.mono BA.out.size))
  replace HR := Lib.hid (HR.out.step b3)
  replace HQ := Lib.hid (HQ.out.step b3)
  replace PX := Lib.hid (hstep PX.out b3)
  replace HX := Lib.hid (HX.out.step b3)
  replace PY := Lib.hid (hstep PY.out b3)
  replace HY := Lib.hid (HY.out.step b3)
  clear b3
  dsimp only
  go_upto_region 10 with fail
  go_cut [11] from 60 to 66 (fun p wx => ∃ gw, p = .pointer (some ⟨gw, 0, none⟩) ∧ wx.heap[gw]? = some (.cells #[.string (st xw.1.path), .slice xw.2.A xw.2.n xw.2.c, .int .i64 xw.1.dev, .bool xw.1.gone, .int .i64 xw.1.size, .int .i64 xw.1.len, .slice xw.2.D xw.2.m xw.2.k] 27 (0, 0)) ∧ Below w10.heap.size w10 wx)
  case first =>
    refine wp_region_ta (fun V => V.heap[w.heap.size]? = some (.cells #[.string (st r.path), .slice a.A a.n a.c, .int .i64 r.dev, .bool r.gone, .int .i64 r.size, .int .i64 r.len, .slice a.D a.m a.k] 27 (0, 0)) ∧ V.heap[w.heap.size + 1]? = some (.cells #[.string (st q.path), .slice b.A b.n b.c, .int .i64 q.dev, .bool q.gone, .int .i64 q.size, .int .i64 q.len, .slice b.D b.m b.k] 27 (0, 0))) 9 #[false, false, false, false, false, false, false, false, false] (by kernel_rfl) (by kernel_rfl) (by kernel_rfl) ?_
    have hS : w10.drew.heap[w.heap.size]? = some (.cells #[.string (st r.path), .slice a.A a.n a.c, .int .i64 r.dev, .bool r.gone, .int .i64 r.size, .int .i64 r.len, .slice a.D a.m a.k] 27 (0, 0)) ∧ w10.drew.heap[w.heap.size + 1]? = some (.cells #[.string (st q.path), .slice b.A b.n b.c, .int .i64 q.dev, .bool q.gone, .int .i64 q.size, .int .i64 q.len, .slice b.D b.m b.k] 27 (0, 0)) := ⟨X.out, Y.out⟩
    have T := Lib.hid (show Below w10.heap.size w10 w10.drew from (Below.refl _ _).drew)
    have XA := X
    have YA := Y
    generalize w10.drew = v0 at *
    refine TA.val2 (v := .agg #[.string (st r.path), .slice a.A a.n a.c, .int .i64 r.dev, .bool r.gone, .int .i64 r.size, .int .i64 r.len, .slice a.D a.m a.k]) 0 _ (by simp only [List.getElem?_toArray, List.getElem?_cons_succ, List.getElem?_cons_zero]; rfl) (by kernel_rfl) (by kernel_rfl) ?_ ?_ ?_ ?_ ?_
    (focus rfl)
    (focus exact fun V hV => exec_load_slot 27 (.tmp 2) rfl ⟨w.heap.size, 0, none⟩ rfl [.string (st r.path), .slice a.A a.n a.c, .int .i64 r.dev, .bool r.gone, .int .i64 r.size, .int .i64 r.len, .slice a.D a.m a.k] _ (rcells_at hV.1 arr_at) Tryd.underlying27 rfl HI.out)
    (focus exact fun _ _ _ h => h)
    (focus exact hS)
    simp only [Act.put, List.setIfInBounds_toArray, List.set_cons_zero, List.set_cons_succ]
    refine TA.val2 (v := .agg #[.string (st q.path), .slice b.A b.n b.c, .int .i64 q.dev, .bool q.gone, .int .i64 q.size, .int .i64 q.len, .slice b.D b.m b.k]) 1 _ (by simp only [List.getElem?_toArray, List.getElem?_cons_succ, List.getElem?_cons_zero]; rfl) (by kernel_rfl) (by kernel_rfl) ?_ ?_ ?_ ?_ ?_
    (focus rfl)
    (focus exact fun V hV => exec_load_slot 27 (.tmp 3) rfl ⟨w.heap.size + 1, 0, none⟩ rfl [.string (st q.path), .slice b.A b.n b.c, .int .i64 q.dev, .bool q.gone, .int .i64 q.size, .int .i64 q.len, .slice b.D b.m b.k] _ (rcells_at hV.2 arr_at) Tryd.underlying27 rfl HI.out)
    (focus exact fun _ _ _ h => h)
    (focus exact hS)
    simp only [Act.put, List.setIfInBounds_toArray, List.set_cons_zero, List.set_cons_succ]
    refine TA.val2 (v := .int .i64 (k : Int)) 3 _ (by simp only [List.getElem?_toArray, List.getElem?_cons_succ, List.getElem?_cons_zero]; rfl) (by kernel_rfl) (by kernel_rfl) ?_ ?_ ?_ ?_ ?_
    (focus rfl)
    (focus exact fun V _ => rfl)
    (focus exact fun _ _ _ h => h)
    (focus exact hS)
    simp only [Act.put, List.setIfInBounds_toArray, List.set_cons_zero, List.set_cons_succ]
    have k0 : (0 : Int) ≤ (k : Int) := by omega
    have k1 : (k : Int) < 2 := by omega
    refine TA.all3 2 4 7 (by kernel_rfl) ?_ ?_ ?_
    ·
      refine ⟨_, (by simp only [List.getElem?_toArray, List.getElem?_cons_succ, List.getElem?_cons_zero]; rfl), (by rfl), fun K hK => ?_⟩
      go_simp
      have bb := (Below.refl v0.heap.size v0).alloc (Nat.le_refl _) (.cells #[.string (st r.path), .slice a.A a.n a.c, .int .i64 r.dev, .bool r.gone, .int .i64 r.size, .int .i64 r.len, .slice a.D a.m a.k, .string (st q.path), .slice b.A b.n b.c, .int .i64 q.dev, .bool q.gone, .int .i64 q.size, .int .i64 q.len, .slice b.D b.m b.k] 27)
      have RS := heap_alloc_new v0 (.cells #[.string (st r.path), .slice a.A a.n a.c, .int .i64 r.dev, .bool r.gone, .int .i64 r.size, .int .i64 r.len, .slice a.D a.m a.k, .string (st q.path), .slice b.A b.n b.c, .int .i64 q.dev, .bool q.gone, .int .i64 q.size, .int .i64 q.len, .slice b.D b.m b.k] 27)
      replace hS : (v0.alloc (.cells #[.string (st r.path), .slice a.A a.n a.c, .int .i64 r.dev, .bool r.gone, .int .i64 r.size, .int .i64 r.len, .slice a.D a.m a.k, .string (st q.path), .slice b.A b.n b.c, .int .i64 q.dev, .bool q.gone, .int .i64 q.size, .int .i64 q.len, .slice b.D b.m b.k] 27)).heap[w.heap.size]? = some (.cells #[.string (st r.path), .slice a.A a.n a.c, .int .i64 r.dev, .bool r.gone, .int .i64 r.size, .int .i64 r.len, .slice a.D a.m a.k] 27 (0, 0)) ∧ (v0.alloc (.cells #[.string (st r.path), .slice a.A a.n a.c, .int .i64 r.dev, .bool r.gone, .int .i64 r.size, .int .i64 r.len, .slice a.D a.m a.k, .string (st q.path), .slice b.A b.n b.c, .int .i64 q.dev, .bool q.gone, .int .i64 q.size, .int .i64 q.len, .slice b.D b.m b.k] 27)).heap[w.heap.size + 1]? = some (.cells #[.string (st q.path), .slice b.A b.n b.c, .int .i64 q.dev, .bool q.gone, .int .i64 q.size, .int .i64 q.len, .slice b.D b.m b.k] 27 (0, 0)) := ⟨hstep hS.1 bb, hstep hS.2 bb⟩
      replace T := Lib.hid (T.out.trans (bb.mono T.out.size))
      skip
      clear bb
      refine hK.out _ _ hS ?_
      clear hK
      simp only [Act.put, List.setIfInBounds_toArray, List.set_cons_zero, List.set_cons_succ]
      generalize v0.alloc (.cells #[.string (st r.path), .slice a.A a.n a.c, .int .i64 r.dev, .bool r.gone, .int .i64 r.size, .int .i64 r.len, .slice a.D a.m a.k, .string (st q.path), .slice b.A b.n b.c, .int .i64 q.dev, .bool q.gone, .int .i64 q.size, .int .i64 q.len, .slice b.D b.m b.k] 27) = v1 at *
      generalize v0.heap.size = gs at *
      refine TA.all2 4 7 (by kernel_rfl) ?_ ?_
      ·
        refine ⟨_, (by simp only [List.getElem?_toArray, List.getElem?_cons_succ, List.getElem?_cons_zero]; rfl), (by rfl), fun K hK => ?_⟩
        go_simp
        refine (pick_v k _ hk).mono ?_
        rintro e v9 ⟨rfl, rfl⟩
        refine hK.out _ _ hS ?_
        clear hK
        simp only [Act.put, List.setIfInBounds_toArray, List.set_cons_zero, List.set_cons_succ]
        refine TA.all2 5 7 (by kernel_rfl) ?_ ?_
        ·
          refine ⟨_, (by simp only [List.getElem?_toArray, List.getElem?_cons_succ, List.getElem?_cons_zero]; rfl), (by rfl), fun K hK => ?_⟩
          go_simp
          refine hK.out _ _ hS ?_
          clear hK
          simp only [Act.put, List.setIfInBounds_toArray, List.set_cons_zero, List.set_cons_succ]
          refine TA.all2 6 7 (by kernel_rfl) ?_ ?_
          ·
            refine ⟨_, (by simp only [List.getElem?_toArray, List.getElem?_cons_succ, List.getElem?_cons_zero]; rfl), (by rfl), fun K hK => ?_⟩
            unfold Oper.wp
            rw [exec_load_slot 27 (.tmp 65) rfl ⟨gs, k * 7, none⟩ rfl [.string (st xw.1.path), .slice xw.2.A xw.2.n xw.2.c, .int .i64 xw.1.dev, .bool xw.1.gone, .int .i64 xw.1.size, .int .i64 xw.1.len, .slice xw.2.D xw.2.m xw.2.k] _ (row_k RS HXW.out) Tryd.underlying27 rfl HI.out]
            refine hK.out _ _ hS ?_
            clear hK
            simp only [Act.put, List.setIfInBounds_toArray, List.set_cons_zero, List.set_cons_succ]
            refine TA.all1 7 (by kernel_rfl) ?_
            refine ⟨_, (by simp only [List.getElem?_toArray, List.getElem?_cons_succ, List.getElem?_cons_zero]; rfl), (by rfl), fun K hK => ?_⟩
            go_simp
            have bb := (Below.refl v1.heap.size v1).alloc (Nat.le_refl _) (.cells #[.string ⟨#[]⟩, .slice none 0 0, .int .i64 0, .bool false, .int .i64 0, .int .i64 0, .slice none 0 0] 27)
            have RZ := heap_alloc_new v1 (.cells #[.string ⟨#[]⟩, .slice none 0 0, .int .i64 0, .bool false, .int .i64 0, .int .i64 0, .slice none 0 0] 27)
            have hgw := T.out.size
            replace hS : (v1.alloc (.cells #[.string ⟨#[]⟩, .slice none 0 0, .int .i64 0, .bool false, .int .i64 0, .int .i64 0, .slice none 0 0] 27)).heap[w.heap.size]? = some (.cells #[.string (st r.path), .slice a.A a.n a.c, .int .i64 r.dev, .bool r.gone, .int .i64 r.size, .int .i64 r.len, .slice a.D a.m a.k] 27 (0, 0)) ∧ (v1.alloc (.cells #[.string ⟨#[]⟩, .slice none 0 0, .int .i64 0, .bool false, .int .i64 0, .int .i64 0, .slice none 0 0] 27)).heap[w.heap.size + 1]? = some (.cells #[.string (st q.path), .slice b.A b.n b.c, .int .i64 q.dev, .bool q.gone, .int .i64 q.size, .int .i64 q.len, .slice b.D b.m b.k] 27 (0, 0)) := ⟨hstep hS.1 bb, hstep hS.2 bb⟩
            replace T := Lib.hid (T.out.trans (bb.mono T.out.size))
            replace RS := hstep RS bb
            clear bb
            refine hK.out _ _ hS ?_
            clear hK
            simp only [Act.put, List.setIfInBounds_toArray, List.set_cons_zero, List.set_cons_succ]
            generalize v1.alloc (.cells #[.string ⟨#[]⟩, .slice none 0 0, .int .i64 0, .bool false, .int .i64 0, .int .i64 0, .slice none 0 0] 27) = v2 at *
            generalize v1.heap.size = gw at *
            refine TA.all1 8 (by kernel_rfl) ⟨_, (by simp only [List.getElem?_toArray, List.getElem?_cons_succ, List.getElem?_cons_zero]; rfl), (by rfl), fun K hK => ?_⟩
            refine wp_store_row 27 (.tmp 11) (.tmp 66) rfl gw #[.string (st xw.1.path), .slice xw.2.A xw.2.n xw.2.c, .int .i64 xw.1.dev, .bool xw.1.gone, .int .i64 xw.1.size, .int .i64 xw.1.len, .slice xw.2.D xw.2.m xw.2.k] rfl rfl 27 _ RZ HI.out rfl (by simp [Value.oneCell']) ?_
            have XS := Lib.hid (setRow_heap v2 gw _ #[.string (st xw.1.path), .slice xw.2.A xw.2.n xw.2.c, .int .i64 xw.1.dev, .bool xw.1.gone, .int .i64 xw.1.size, .int .i64 xw.1.len, .slice xw.2.D xw.2.m xw.2.k] _ _ RZ)
            have BS := Lib.hid (below_setRow T.out hgw #[.string (st xw.1.path), .slice xw.2.A xw.2.n xw.2.c, .int .i64 xw.1.dev, .bool xw.1.gone, .int .i64 xw.1.size, .int .i64 xw.1.len, .slice xw.2.D xw.2.m xw.2.k])
            have hlt := (Array.getElem?_eq_some_iff.1 XA.out).1
            have hlt2 := (Array.getElem?_eq_some_iff.1 YA.out).1
            replace hS : (v2.setRow gw #[.string (st xw.1.path), .slice xw.2.A xw.2.n xw.2.c, .int .i64 xw.1.dev, .bool xw.1.gone, .int .i64 xw.1.size, .int .i64 xw.1.len, .slice xw.2.D xw.2.m xw.2.k]).heap[w.heap.size]? = some (.cells #[.string (st r.path), .slice a.A a.n a.c, .int .i64 r.dev, .bool r.gone, .int .i64 r.size, .int .i64 r.len, .slice a.D a.m a.k] 27 (0, 0)) ∧ (v2.setRow gw #[.string (st xw.1.path), .slice xw.2.A xw.2.n xw.2.c, .int .i64 xw.1.dev, .bool xw.1.gone, .int .i64 xw.1.size, .int .i64 xw.1.len, .slice xw.2.D xw.2.m xw.2.k]).heap[w.heap.size + 1]? = some (.cells #[.string (st q.path), .slice b.A b.n b.c, .int .i64 q.dev, .bool q.gone, .int .i64 q.size, .int .i64 q.len, .slice b.D b.m b.k] 27 (0, 0)) := ⟨(setRow_other _ _ _ _ (by omega)).trans hS.1, (setRow_other _ _ _ _ (by omega)).trans hS.2⟩
            refine hK.out _ _ hS ?_
            clear hK
            simp only [Act.put, List.setIfInBounds_toArray, List.set_cons_zero, List.set_cons_succ]
            refine TA.tree SK.done (by kernel_rfl) rfl (by kernel_rfl) ?_
            refine TR.done ?_
            go_wp2_with fail
            go_meet
            exact ⟨gw, rfl, XS.out, BS.out⟩
          ·
            refine ⟨_, (by simp only [List.getElem?_toArray, List.getElem?_cons_succ, List.getElem?_cons_zero]; rfl), (by rfl), fun K hK => ?_⟩
            go_simp
            have bb := (Below.refl v1.heap.size v1).alloc (Nat.le_refl _) (.cells #[.string ⟨#[]⟩, .slice none 0 0, .int .i64 0, .bool false, .int .i64 0, .int .i64 0, .slice none 0 0] 27)
            have RZ := heap_alloc_new v1 (.cells #[.string ⟨#[]⟩, .slice none 0 0, .int .i64 0, .bool false, .int .i64 0, .int .i64 0, .slice none 0 0] 27)
            have hgw := T.out.size
            replace hS : (v1.alloc (.cells #[.string ⟨#[]⟩, .slice none 0 0, .int .i64 0, .bool false, .int .i64 0, .int .i64 0, .slice none 0 0] 27)).heap[w.heap.size]? = some (.cells #[.string (st r.path), .slice a.A a.n a.c, .int .i64 r.dev, .bool r.gone, .int .i64 r.size, .int .i64 r.len, .slice a.D a.m a.k] 27 (0, 0)) ∧ (v1.alloc (.cells #[.string ⟨#[]⟩, .slice none 0 0, .int .i64 0, .bool false, .int .i64 0, .int .i64 0, .slice none 0 0] 27)).heap[w.heap.size + 1]? = some (.cells #[.string (st q.path), .slice b.A b.n b.c, .int .i64 q.dev, .bool q.gone, .int .i64 q.size, .int .i64 q.len, .slice b.D b.m b.k] 27 (0, 0)) := ⟨hstep hS.1 bb, hstep hS.2 bb⟩
            replace T := Lib.hid (T.out.trans (bb.mono T.out.size))
            replace RS := hstep RS bb
            clear bb
            refine hK.out _ _ hS ?_
            clear hK
            simp only [Act.put, List.setIfInBounds_toArray, List.set_cons_zero, List.set_cons_succ]
            generalize v1.alloc (.cells #[.string ⟨#[]⟩, .slice none 0 0, .int .i64 0, .bool false, .int .i64 0, .int .i64 0, .slice none 0 0] 27) = v2 at *
            generalize v1.heap.size = gw at *
            refine TA.all1 6 (by kernel_rfl) ?_
            refine ⟨_, (by simp only [List.getElem?_toArray, List.getElem?_cons_succ, List.getElem?_cons_zero]; rfl), (by rfl), fun K hK => ?_⟩
            unfold Oper.wp
            rw [exec_load_slot 27 (.tmp 65) rfl ⟨gs, k * 7, none⟩ rfl [.string (st xw.1.path), .slice xw.2.A xw.2.n xw.2.c, .int .i64 xw.1.dev, .bool xw.1.gone, .int .i64 xw.1.size, .int .i64 xw.1.len, .slice xw.2.D xw.2.m xw.2.k] _ (row_k RS HXW.out) Tryd.underlying27 rfl HI.out]
            refine hK.out _ _ hS ?_
            clear hK
            simp only [Act.put, List.setIfInBounds_toArray, List.set_cons_zero, List.set_cons_succ]
            refine TA.all1 8 (by kernel_rfl) ⟨_, (by simp only [List.getElem?_toArray, List.getElem?_cons_succ, List.getElem?_cons_zero]; rfl), (by rfl), fun K hK => ?_⟩
            refine wp_store_row 27 (.tmp 11) (.tmp 66) rfl gw #[.string (st xw.1.path), .slice xw.2.A xw.2.n xw.2.c, .int .i64 xw.1.dev, .bool xw.1.gone, .int .i64 xw.1.size, .int .i64 xw.1.len, .slice xw.2.D xw.2.m xw.2.k] rfl rfl 27 _ RZ HI.out rfl (by simp [Value.oneCell']) ?_
            have XS := Lib.hid (setRow_heap v2 gw _ #[.string (st xw.1.path), .slice xw.2.A xw.2.n xw.2.c, .int .i64 xw.1.dev, .bool xw.1.gone, .int .i64 xw.1.size, .int .i64 xw.1.len, .slice xw.2.D xw.2.m xw.2.k] _ _ RZ)
            have BS := Lib.hid (below_setRow T.out hgw #[.string (st xw.1.path), .slice xw.2.A xw.2.n xw.2.c, .int .i64 xw.1.dev, .bool xw.1.gone, .int .i64 xw.1.size, .int .i64 xw.1.len, .slice xw.2.D xw.2.m xw.2.k])
            have hlt := (Array.getElem?_eq_some_iff.1 XA.out).1
            have hlt2 := (Array.getElem?_eq_some_iff.1 YA.out).1
            replace hS : (v2.setRow gw #[.string (st xw.1.path), .slice xw.2.A xw.2.n xw.2.c, .int .i64 xw.1.dev, .bool xw.1.gone, .int .i64 xw.1.size, .int .i64 xw.1.len, .slice xw.2.D xw.2.m xw.2.k]).heap[w.heap.size]? = some (.cells #[.string (st r.path), .slice a.A a.n a.c, .int .i64 r.dev, .bool r.gone, .int .i64 r.size, .int .i64 r.len, .slice a.D a.m a.k] 27 (0, 0)) ∧ (v2.setRow gw #[.string (st xw.1.path), .slice xw.2.A xw.2.n xw.2.c, .int .i64 xw.1.dev, .bool xw.1.gone, .int .i64 xw.1.size, .int .i64 xw.1.len, .slice xw.2.D xw.2.m xw.2.k]).heap[w.heap.size + 1]? = some (.cells #[.string (st q.path), .slice b.A b.n b.c, .int .i64 q.dev, .bool q.gone, .int .i64 q.size, .int .i64 q.len, .slice b.D b.m b.k] 27 (0, 0)) := ⟨(setRow_other _ _ _ _ (by omega)).trans hS.1, (setRow_other _ _ _ _ (by omega)).trans hS.2⟩
            refine hK.out _ _ hS ?_
            clear hK
            simp only [Act.put, List.setIfInBounds_toArray, List.set_cons_zero, List.set_cons_succ]
            refine TA.tree SK.done (by kernel_rfl) rfl (by kernel_rfl) ?_
            refine TR.done ?_
            go_wp2_with fail
            go_meet
            exact ⟨gw, rfl, XS.out, BS.out⟩
        ·
          refine ⟨_, (by simp only [List.getElem?_toArray, List.getElem?_cons_succ, List.getElem?_cons_zero]; rfl), (by rfl), fun K hK => ?_⟩
          go_simp
          have bb := (Below.refl v1.heap.size v1).alloc (Nat.le_refl _) (.cells #[.string ⟨#[]⟩, .slice none 0 0, .int .i64 0, .bool false, .int .i64 0, .int .i64 0, .slice none 0 0] 27)
          have RZ := heap_alloc_new v1 (.cells #[.string ⟨#[]⟩, .slice none 0 0, .int .i64 0, .bool false, .int .i64 0, .int .i64 0, .slice none 0 0] 27)
          have hgw := T.out.size
          replace hS : (v1.alloc (.cells #[.string ⟨#[]⟩, .slice none 0 0, .int .i64 0, .bool false, .int .i64 0, .int .i64 0, .slice none 0 0] 27)).heap[w.heap.size]? = some (.cells #[.string (st r.path), .slice a.A a.n a.c, .int .i64 r.dev, .bool r.gone, .int .i64 r.size, .int .i64 r.len, .slice a.D a.m a.k] 27 (0, 0)) ∧ (v1.alloc (.cells #[.string ⟨#[]⟩, .slice none 0 0, .int .i64 0, .bool false, .int .i64 0, .int .i64 0, .slice none 0 0] 27)).heap[w.heap.size + 1]? = some (.cells #[.string (st q.path), .slice b.A b.n b.c, .int .i64 q.dev, .bool q.gone, .int .i64 q.size, .int .i64 q.len, .slice b.D b.m b.k] 27 (0, 0)) := ⟨hstep hS.1 bb, hstep hS.2 bb⟩
          replace T := Lib.hid (T.out.trans (bb.mono T.out.size))
          replace RS := hstep RS bb
          clear bb
          refine hK.out _ _ hS ?_
          clear hK
          simp only [Act.put, List.setIfInBounds_toArray, List.set_cons_zero, List.set_cons_succ]
          generalize v1.alloc (.cells #[.string ⟨#[]⟩, .slice none 0 0, .int .i64 0, .bool false, .int .i64 0, .int .i64 0, .slice none 0 0] 27) = v2 at *
          generalize v1.heap.size = gw at *
          refine TA.all1 5 (by kernel_rfl) ?_
          refine ⟨_, (by simp only [List.getElem?_toArray, List.getElem?_cons_succ, List.getElem?_cons_zero]; rfl), (by rfl), fun K hK => ?_⟩
          go_simp
          refine hK.out _ _ hS ?_
          clear hK
          simp only [Act.put, List.setIfInBounds_toArray, List.set_cons_zero, List.set_cons_succ]
          refine TA.all1 6 (by kernel_rfl) ?_
          refine ⟨_, (by simp only [List.getElem?_toArray, List.getElem?_cons_succ, List.getElem?_cons_zero]; rfl), (by rfl), fun K hK => ?_⟩
          unfold Oper.wp
          rw [exec_load_slot 27 (.tmp 65) rfl ⟨gs, k * 7, none⟩ rfl [.string (st xw.1.path), .slice xw.2.A xw.2.n xw.2.c, .int .i64 xw.1.dev, .bool xw.1.gone, .int .i64 xw.1.size, .int .i64 xw.1.len, .slice xw.2.D xw.2.m xw.2.k] _ (row_k RS HXW.out) Tryd.underlying27 rfl HI.out]
          refine hK.out _ _ hS ?_
          clear hK
          simp only [Act.put, List.setIfInBounds_toArray, List.set_cons_zero, List.set_cons_succ]
          refine TA.all1 8 (by kernel_rfl) ⟨_, (by simp only [List.getElem?_toArray, List.getElem?_cons_succ, List.getElem?_cons_zero]; rfl), (by rfl), fun K hK => ?_⟩
          refine wp_store_row 27 (.tmp 11) (.tmp 66) rfl gw #[.string (st xw.1.path), .slice xw.2.A xw.2.n xw.2.c, .int .i64 xw.1.dev, .bool xw.1.gone, .int .i64 xw.1.size, .int .i64 xw.1.len, .slice xw.2.D xw.2.m xw.2.k] rfl rfl 27 _ RZ HI.out rfl (by simp [Value.oneCell']) ?_
          have XS := Lib.hid (setRow_heap v2 gw _ #[.string (st xw.1.path), .slice xw.2.A xw.2.n xw.2.c, .int .i64 xw.1.dev, .bool xw.1.gone, .int .i64 xw.1.size, .int .i64 xw.1.len, .slice xw.2.D xw.2.m xw.2.k] _ _ RZ)
          have BS := Lib.hid (below_setRow T.out hgw #[.string (st xw.1.path), .slice xw.2.A xw.2.n xw.2.c, .int .i64 xw.1.dev, .bool xw.1.gone, .int .i64 xw.1.size, .int .i64 xw.1.len, .slice xw.2.D xw.2.m xw.2.k])
          have hlt := (Array.getElem?_eq_some_iff.1 XA.out).1
          have hlt2 := (Array.getElem?_eq_some_iff.1 YA.out).1
          replace hS : (v2.setRow gw #[.string (st xw.1.path), .slice xw.2.A xw.2.n xw.2.c, .int .i64 xw.1.dev, .bool xw.1.gone, .int .i64 xw.1.size, .int .i64 xw.1.len, .slice xw.2.D xw.2.m xw.2.k]).heap[w.heap.size]? = some (.cells #[.string (st r.path), .slice a.A a.n a.c, .int .i64 r.dev, .bool r.gone, .int .i64 r.size, .int .i64 r.len, .slice a.D a.m a.k] 27 (0, 0)) ∧ (v2.setRow gw #[.string (st xw.1.path), .slice xw.2.A xw.2.n xw.2.c, .int .i64 xw.1.dev, .bool xw.1.gone, .int .i64 xw.1.size, .int .i64 xw.1.len, .slice xw.2.D xw.2.m xw.2.k]).heap[w.heap.size + 1]? = some (.cells #[.string (st q.path), .slice b.A b.n b.c, .int .i64 q.dev, .bool q.gone, .int .i64 q.size, .int .i64 q.len, .slice b.D b.m b.k] 27 (0, 0)) := ⟨(setRow_other _ _ _ _ (by omega)).trans hS.1, (setRow_other _ _ _ _ (by omega)).trans hS.2⟩
          refine hK.out _ _ hS ?_
          clear hK
          simp only [Act.put, List.setIfInBounds_toArray, List.set_cons_zero, List.set_cons_succ]
          refine TA.tree SK.done (by kernel_rfl) rfl (by kernel_rfl) ?_
          refine TR.done ?_
          go_wp2_with fail
          go_meet
          exact ⟨gw, rfl, XS.out, BS.out⟩
      ·
        refine ⟨_, (by simp only [List.getElem?_toArray, List.getElem?_cons_succ, List.getElem?_cons_zero]; rfl), (by rfl), fun K hK => ?_⟩
        go_simp
        have bb := (Below.refl v1.heap.size v1).alloc (Nat.le_refl _) (.cells #[.string ⟨#[]⟩, .slice none 0 0, .int .i64 0, .bool false, .int .i64 0, .int .i64 0, .slice none 0 0] 27)
        have RZ := heap_alloc_new v1 (.cells #[.string ⟨#[]⟩, .slice none 0 0, .int .i64 0, .bool false, .int .i64 0, .int .i64 0, .slice none 0 0] 27)
        have hgw := T.out.size
        replace hS : (v1.alloc (.cells #[.string ⟨#[]⟩, .slice none 0 0, .int .i64 0, .bool false, .int .i64 0, .int .i64 0, .slice none 0 0] 27)).heap[w.heap.size]? = some (.cells #[.string (st r.path), .slice a.A a.n a.c, .int .i64 r.dev, .bool r.gone, .int .i64 r.size, .int .i64 r.len, .slice a.D a.m a.k] 27 (0, 0)) ∧ (v1.alloc (.cells #[.string ⟨#[]⟩, .slice none 0 0, .int .i64 0, .bool false, .int .i64 0, .int .i64 0, .slice none 0 0] 27)).heap[w.heap.size + 1]? = some (.cells #[.string (st q.path), .slice b.A b.n b.c, .int .i64 q.dev, .bool q.gone, .int .i64 q.size, .int .i64 q.len, .slice b.D b.m b.k] 27 (0, 0)) := ⟨hstep hS.1 bb, hstep hS.2 bb⟩
        replace T := Lib.hid (T.out.trans (bb.mono T.out.size))
        replace RS := hstep RS bb
        clear bb
        refine hK.out _ _ hS ?_
        clear hK
        simp only [Act.put, List.setIfInBounds_toArray, List.set_cons_zero, List.set_cons_succ]
        generalize v1.alloc (.cells #[.string ⟨#[]⟩, .slice none 0 0, .int .i64 0, .bool false, .int .i64 0, .int .i64 0, .slice none 0 0] 27) = v2 at *
        generalize v1.heap.size = gw at *
        refine TA.all1 4 (by kernel_rfl) ?_
        refine ⟨_, (by simp only [List.getElem?_toArray, List.getElem?_cons_succ, List.getElem?_cons_zero]; rfl), (by rfl), fun K hK => ?_⟩
        go_simp
        refine (pick_v k _ hk).mono ?_
        rintro e v9 ⟨rfl, rfl⟩
        refine hK.out _ _ hS ?_
        clear hK
        simp only [Act.put, List.setIfInBounds_toArray, List.set_cons_zero, List.set_cons_succ]
        refine TA.all1 5 (by kernel_rfl) ?_
        refine ⟨_, (by simp only [List.getElem?_toArray, List.getElem?_cons_succ, List.getElem?_cons_zero]; rfl), (by rfl), fun K hK => ?_⟩
        go_simp
        refine hK.out _ _ hS ?_
        clear hK
        simp only [Act.put, List.setIfInBounds_toArray, List.set_cons_zero, List.set_cons_succ]
        refine TA.all1 6 (by kernel_rfl) ?_
        refine ⟨_, (by simp only [List.getElem?_toArray, List.getElem?_cons_succ, List.getElem?_cons_zero]; rfl), (by rfl), fun K hK => ?_⟩
        unfold Oper.wp
        rw [exec_load_slot 27 (.tmp 65) rfl ⟨gs, k * 7, none⟩ rfl [.string (st xw.1.path), .slice xw.2.A xw.2.n xw.2.c, .int .i64 xw.1.dev, .bool xw.1.gone, .int .i64 xw.1.size, .int .i64 xw.1.len, .slice xw.2.D xw.2.m xw.2.k] _ (row_k RS HXW.out) Tryd.underlying27 rfl HI.out]
        refine hK.out _ _ hS ?_
        clear hK
        simp only [Act.put, List.setIfInBounds_toArray, List.set_cons_zero, List.set_cons_succ]
        refine TA.all1 8 (by kernel_rfl) ⟨_, (by simp only [List.getElem?_toArray, List.getElem?_cons_succ, List.getElem?_cons_zero]; rfl), (by rfl), fun K hK => ?_⟩
        refine wp_store_row 27 (.tmp 11) (.tmp 66) rfl gw #[.string (st xw.1.path), .slice xw.2.A xw.2.n xw.2.c, .int .i64 xw.1.dev, .bool xw.1.gone, .int .i64 xw.1.size, .int .i64 xw.1.len, .slice xw.2.D xw.2.m xw.2.k] rfl rfl 27 _ RZ HI.out rfl (by simp [Value.oneCell']) ?_
        have XS := Lib.hid (setRow_heap v2 gw _ #[.string (st xw.1.path), .slice xw.2.A xw.2.n xw.2.c, .int .i64 xw.1.dev, .bool xw.1.gone, .int .i64 xw.1.size, .int .i64 xw.1.len, .slice xw.2.D xw.2.m xw.2.k] _ _ RZ)
        have BS := Lib.hid (below_setRow T.out hgw #[.string (st xw.1.path), .slice xw.2.A xw.2.n xw.2.c, .int .i64 xw.1.dev, .bool xw.1.gone, .int .i64 xw.1.size, .int .i64 xw.1.len, .slice xw.2.D xw.2.m xw.2.k])
        have hlt := (Array.getElem?_eq_some_iff.1 XA.out).1
        have hlt2 := (Array.getElem?_eq_some_iff.1 YA.out).1
        replace hS : (v2.setRow gw #[.string (st xw.1.path), .slice xw.2.A xw.2.n xw.2.c, .int .i64 xw.1.dev, .bool xw.1.gone, .int .i64 xw.1.size, .int .i64 xw.1.len, .slice xw.2.D xw.2.m xw.2.k]).heap[w.heap.size]? = some (.cells #[.string (st r.path), .slice a.A a.n a.c, .int .i64 r.dev, .bool r.gone, .int .i64 r.size, .int .i64 r.len, .slice a.D a.m a.k] 27 (0, 0)) ∧ (v2.setRow gw #[.string (st xw.1.path), .slice xw.2.A xw.2.n xw.2.c, .int .i64 xw.1.dev, .bool xw.1.gone, .int .i64 xw.1.size, .int .i64 xw.1.len, .slice xw.2.D xw.2.m xw.2.k]).heap[w.heap.size + 1]? = some (.cells #[.string (st q.path), .slice b.A b.n b.c, .int .i64 q.dev, .bool q.gone, .int .i64 q.size, .int .i64 q.len, .slice b.D b.m b.k] 27 (0, 0)) := ⟨(setRow_other _ _ _ _ (by omega)).trans hS.1, (setRow_other _ _ _ _ (by omega)).trans hS.2⟩
        refine hK.out _ _ hS ?_
        clear hK
        simp only [Act.put, List.setIfInBounds_toArray, List.set_cons_zero, List.set_cons_succ]
        refine TA.tree SK.done (by kernel_rfl) rfl (by kernel_rfl) ?_
        refine TR.done ?_
        go_wp2_with fail
        go_meet
        exact ⟨gw, rfl, XS.out, BS.out⟩
    ·
      refine ⟨_, (by simp only [List.getElem?_toArray, List.getElem?_cons_succ, List.getElem?_cons_zero]; rfl), (by rfl), fun K hK => ?_⟩
      go_simp
      refine (pick_v k _ hk).mono ?_
      rintro e v9 ⟨rfl, rfl⟩
      refine hK.out _ _ hS ?_
      clear hK
      simp only [Act.put, List.setIfInBounds_toArray, List.set_cons_zero, List.set_cons_succ]
      refine TA.all2 2 7 (by kernel_rfl) ?_ ?_
      ·
        refine ⟨_, (by simp only [List.getElem?_toArray, List.getElem?_cons_succ, List.getElem?_cons_zero]; rfl), (by rfl), fun K hK => ?_⟩
        go_simp
        have bb := (Below.refl v0.heap.size v0).alloc (Nat.le_refl _) (.cells #[.string (st r.path), .slice a.A a.n a.c, .int .i64 r.dev, .bool r.gone, .int .i64 r.size, .int .i64 r.len, .slice a.D a.m a.k, .string (st q.path), .slice b.A b.n b.c, .int .i64 q.dev, .bool q.gone, .int .i64 q.size, .int .i64 q.len, .slice b.D b.m b.k] 27)
        have RS := heap_alloc_new v0 (.cells #[.string (st r.path), .slice a.A a.n a.c, .int .i64 r.dev, .bool r.gone, .int .i64 r.size, .int .i64 r.len, .slice a.D a.m a.k, .string (st q.path), .slice b.A b.n b.c, .int .i64 q.dev, .bool q.gone, .int .i64 q.size, .int .i64 q.len, .slice b.D b.m b.k] 27)
        replace hS : (v0.alloc (.cells #[.string (st r.path), .slice a.A a.n a.c, .int .i64 r.dev, .bool r.gone, .int .i64 r.size, .int .i64 r.len, .slice a.D a.m a.k, .string (st q.path), .slice b.A b.n b.c, .int .i64 q.dev, .bool q.gone, .int .i64 q.size, .int .i64 q.len, .slice b.D b.m b.k] 27)).heap[w.heap.size]? = some (.cells #[.string (st r.path), .slice a.A a.n a.c, .int .i64 r.dev, .bool r.gone, .int .i64 r.size, .int .i64 r.len, .slice a.D a.m a.k] 27 (0, 0)) ∧ (v0.alloc (.cells #[.string (st r.path), .slice a.A a.n a.c, .int .i64 r.dev, .bool r.gone, .int .i64 r.size, .int .i64 r.len, .slice a.D a.m a.k, .string (st q.path), .slice b.A b.n b.c, .int .i64 q.dev, .bool q.gone, .int .i64 q.size, .int .i64 q.len, .slice b.D b.m b.k] 27)).heap[w.heap.size + 1]? = some (.cells #[.string (st q.path), .slice b.A b.n b.c, .int .i64 q.dev, .bool q.gone, .int .i64 q.size, .int .i64 q.len, .slice b.D b.m b.k] 27 (0, 0)) := ⟨hstep hS.1 bb, hstep hS.2 bb⟩
        replace T := Lib.hid (T.out.trans (bb.mono T.out.size))
        skip
        clear bb
        refine hK.out _ _ hS ?_
        clear hK
        simp only [Act.put, List.setIfInBounds_toArray, List.set_cons_zero, List.set_cons_succ]
        generalize v0.alloc (.cells #[.string (st r.path), .slice a.A a.n a.c, .int .i64 r.dev, .bool r.gone, .int .i64 r.size, .int .i64 r.len, .slice a.D a.m a.k, .string (st q.path), .slice b.A b.n b.c, .int .i64 q.dev, .bool q.gone, .int .i64 q.size, .int .i64 q.len, .slice b.D b.m b.k] 27) = v1 at *
        generalize v0.heap.size = gs at *
        refine TA.all2 5 7 (by kernel_rfl) ?_ ?_
        ·
          refine ⟨_, (by simp only [List.getElem?_toArray, List.getElem?_cons_succ, List.getElem?_cons_zero]; rfl), (by rfl), fun K hK => ?_⟩
          go_simp
          refine hK.out _ _ hS ?_
          clear hK
          simp only [Act.put, List.setIfInBounds_toArray, List.set_cons_zero, List.set_cons_succ]
          refine TA.all2 6 7 (by kernel_rfl) ?_ ?_
          ·
            refine ⟨_, (by simp only [List.getElem?_toArray, List.getElem?_cons_succ, List.getElem?_cons_zero]; rfl), (by rfl), fun K hK => ?_⟩
            unfold Oper.wp
            rw [exec_load_slot 27 (.tmp 65) rfl ⟨gs, k * 7, none⟩ rfl [.string (st xw.1.path), .slice xw.2.A xw.2.n xw.2.c, .int .i64 xw.1.dev, .bool xw.1.gone, .int .i64 xw.1.size, .int .i64 xw.1.len, .slice xw.2.D xw.2.m xw.2.k] _ (row_k RS HXW.out) Tryd.underlying27 rfl HI.out]
            refine hK.out _ _ hS ?_
            clear hK
            simp only [Act.put, List.setIfInBounds_toArray, List.set_cons_zero, List.set_cons_succ]
            refine TA.all1 7 (by kernel_rfl) ?_
            refine ⟨_, (by simp only [List.getElem?_toArray, List.getElem?_cons_succ, List.getElem?_cons_zero]; rfl), (by rfl), fun K hK => ?_⟩
            go_simp
            have bb := (Below.refl v1.heap.size v1).alloc (Nat.le_refl _) (.cells #[.string ⟨#[]⟩, .slice none 0 0, .int .i64 0, .bool false, .int .i64 0, .int .i64 0, .slice none 0 0] 27)
            have RZ := heap_alloc_new v1 (.cells #[.string ⟨#[]⟩, .slice none 0 0, .int .i64 0, .bool false, .int .i64 0, .int .i64 0, .slice none 0 0] 27)
            have hgw := T.out.size
            replace hS : (v1.alloc (.cells #[.string ⟨#[]⟩, .slice none 0 0, .int .i64 0, .bool false, .int .i64 0, .int .i64 0, .slice none 0 0] 27)).heap[w.heap.size]? = some (.cells #[.string (st r.path), .slice a.A a.n a.c, .int .i64 r.dev, .bool r.gone, .int .i64 r.size, .int .i64 r.len, .slice a.D a.m a.k] 27 (0, 0)) ∧ (v1.alloc (.cells #[.string ⟨#[]⟩, .slice none 0 0, .int .i64 0, .bool false, .int .i64 0, .int .i64 0, .slice none 0 0] 27)).heap[w.heap.size + 1]? = some (.cells #[.string (st q.path), .slice b.A b.n b.c, .int .i64 q.dev, .bool q.gone, .int .i64 q.size, .int .i64 q.len, .slice b.D b.m b.k] 27 (0, 0)) := ⟨hstep hS.1 bb, hstep hS.2 bb⟩
            replace T := Lib.hid (T.out.trans (bb.mono T.out.size))
            replace RS := hstep RS bb
            clear bb
            refine hK.out _ _ hS ?_
            clear hK
            simp only [Act.put, List.setIfInBounds_toArray, List.set_cons_zero, List.set_cons_succ]
            generalize v1.alloc (.cells #[.string ⟨#[]⟩, .slice none 0 0, .int .i64 0, .bool false, .int .i64 0, .int .i64 0, .slice none 0 0] 27) = v2 at *
            generalize v1.heap.size = gw at *
            refine TA.all1 8 (by kernel_rfl) ⟨_, (by simp only [List.getElem?_toArray, List.getElem?_cons_succ, List.getElem?_cons_zero]; rfl), (by rfl), fun K hK => ?_⟩
            refine wp_store_row 27 (.tmp 11) (.tmp 66) rfl gw #[.string (st xw.1.path), .slice xw.2.A xw.2.n xw.2.c, .int .i64 xw.1.dev, .bool xw.1.gone, .int .i64 xw.1.size, .int .i64 xw.1.len, .slice xw.2.D xw.2.m xw.2.k] rfl rfl 27 _ RZ HI.out rfl (by simp [Value.oneCell']) ?_
            have XS := Lib.hid (setRow_heap v2 gw _ #[.string (st xw.1.path), .slice xw.2.A xw.2.n xw.2.c, .int .i64 xw.1.dev, .bool xw.1.gone, .int .i64 xw.1.size, .int .i64 xw.1.len, .slice xw.2.D xw.2.m xw.2.k] _ _ RZ)
            have BS := Lib.hid (below_setRow T.out hgw #[.string (st xw.1.path), .slice xw.2.A xw.2.n xw.2.c, .int .i64 xw.1.dev, .bool xw.1.gone, .int .i64 xw.1.size, .int .i64 xw.1.len, .slice xw.2.D xw.2.m xw.2.k])
            have hlt := (Array.getElem?_eq_some_iff.1 XA.out).1
            have hlt2 := (Array.getElem?_eq_some_iff.1 YA.out).1
            replace hS : (v2.setRow gw #[.string (st xw.1.path), .slice xw.2.A xw.2.n xw.2.c, .int .i64 xw.1.dev, .bool xw.1.gone, .int .i64 xw.1.size, .int .i64 xw.1.len, .slice xw.2.D xw.2.m xw.2.k]).heap[w.heap.size]? = some (.cells #[.string (st r.path), .slice a.A a.n a.c, .int .i64 r.dev, .bool r.gone, .int .i64 r.size, .int .i64 r.len, .slice a.D a.m a.k] 27 (0, 0)) ∧ (v2.setRow gw #[.string (st xw.1.path), .slice xw.2.A xw.2.n xw.2.c, .int .i64 xw.1.dev, .bool xw.1.gone, .int .i64 xw.1.size, .int .i64 xw.1.len, .slice xw.2.D xw.2.m xw.2.k]).heap[w.heap.size + 1]? = some (.cells #[.string (st q.path), .slice b.A b.n b.c, .int .i64 q.dev, .bool q.gone, .int .i64 q.size, .int .i64 q.len, .slice b.D b.m b.k] 27 (0, 0)) := ⟨(setRow_other _ _ _ _ (by omega)).trans hS.1, (setRow_other _ _ _ _ (by omega)).trans hS.2⟩
            refine hK.out _ _ hS ?_
            clear hK
            simp only [Act.put, List.setIfInBounds_toArray, List.set_cons_zero, List.set_cons_succ]
            refine TA.tree SK.done (by kernel_rfl) rfl (by kernel_rfl) ?_
            refine TR.done ?_
            go_wp2_with fail
            go_meet
            exact ⟨gw, rfl, XS.out, BS.out⟩
          ·
            refine ⟨_, (by simp only [List.getElem?_toArray, List.getElem?_cons_succ, List.getElem?_cons_zero]; rfl), (by rfl), fun K hK => ?_⟩
            go_simp
            have bb := (Below.refl v1.heap.size v1).alloc (Nat.le_refl _) (.cells #[.string ⟨#[]⟩, .slice none 0 0, .int .i64 0, .bool false, .int .i64 0, .int .i64 0, .slice none 0 0] 27)
            have RZ := heap_alloc_new v1 (.cells #[.string ⟨#[]⟩, .slice none 0 0, .int .i64 0, .bool false, .int .i64 0, .int .i64 0, .slice none 0 0] 27)
            have hgw := T.out.size
            replace hS : (v1.alloc (.cells #[.string ⟨#[]⟩, .slice none 0 0, .int .i64 0, .bool false, .int .i64 0, .int .i64 0, .slice none 0 0] 27)).heap[w.heap.size]? = some (.cells #[.string (st r.path), .slice a.A a.n a.c, .int .i64 r.dev, .bool r.gone, .int .i64 r.size, .int .i64 r.len, .slice a.D a.m a.k] 27 (0, 0)) ∧ (v1.alloc (.cells #[.string ⟨#[]⟩, .slice none 0 0, .int .i64 0, .bool false, .int .i64 0, .int .i64 0, .slice none 0 0] 27)).heap[w.heap.size + 1]? = some (.cells #[.string (st q.path), .slice b.A b.n b.c, .int .i64 q.dev, .bool q.gone, .int .i64 q.size, .int .i64 q.len, .slice b.D b.m b.k] 27 (0, 0)) := ⟨hstep hS.1 bb, hstep hS.2 bb⟩
            replace T := Lib.hid (T.out.trans (bb.mono T.out.size))
            replace RS := hstep RS bb
            clear bb
            refine hK.out _ _ hS ?_
            clear hK
            simp only [Act.put, List.setIfInBounds_toArray, List.set_cons_zero, List.set_cons_succ]
            generalize v1.alloc (.cells #[.string ⟨#[]⟩, .slice none 0 0, .int .i64 0, .bool false, .int .i64 0, .int .i64 0, .slice none 0 0] 27) = v2 at *
            generalize v1.heap.size = gw at *
            refine TA.all1 6 (by kernel_rfl) ?_
            refine ⟨_, (by simp only [List.getElem?_toArray, List.getElem?_cons_succ, List.getElem?_cons_zero]; rfl), (by rfl), fun K hK => ?_⟩
            unfold Oper.wp
            rw [exec_load_slot 27 (.tmp 65) rfl ⟨gs, k * 7, none⟩ rfl [.string (st xw.1.path), .slice xw.2.A xw.2.n xw.2.c, .int .i64 xw.1.dev, .bool xw.1.gone, .int .i64 xw.1.size, .int .i64 xw.1.len, .slice xw.2.D xw.2.m xw.2.k] _ (row_k RS HXW.out) Tryd.underlying27 rfl HI.out]
            refine hK.out _ _ hS ?_
            clear hK
            simp only [Act.put, List.setIfInBounds_toArray, List.set_cons_zero, List.set_cons_succ]
            refine TA.all1 8 (by kernel_rfl) ⟨_, (by simp only [List.getElem?_toArray, List.getElem?_cons_succ, List.getElem?_cons_zero]; rfl), (by rfl), fun K hK => ?_⟩
            refine wp_store_row 27 (.tmp 11) (.tmp 66) rfl gw #[.string (st xw.1.path), .slice xw.2.A xw.2.n xw.2.c, .int .i64 xw.1.dev, .bool xw.1.gone, .int .i64 xw.1.size, .int .i64 xw.1.len, .slice xw.2.D xw.2.m xw.2.k] rfl rfl 27 _ RZ HI.out rfl (by simp [Value.oneCell']) ?_
            have XS := Lib.hid (setRow_heap v2 gw _ #[.string (st xw.1.path), .slice xw.2.A xw.2.n xw.2.c, .int .i64 xw.1.dev, .bool xw.1.gone, .int .i64 xw.1.size, .int .i64 xw.1.len, .slice xw.2.D xw.2.m xw.2.k] _ _ RZ)
            have BS := Lib.hid (below_setRow T.out hgw #[.string (st xw.1.path), .slice xw.2.A xw.2.n xw.2.c, .int .i64 xw.1.dev, .bool xw.1.gone, .int .i64 xw.1.size, .int .i64 xw.1.len, .slice xw.2.D xw.2.m xw.2.k])
            have hlt := (Array.getElem?_eq_some_iff.1 XA.out).1
            have hlt2 := (Array.getElem?_eq_some_iff.1 YA.out).1
            replace hS : (v2.setRow gw #[.string (st xw.1.path), .slice xw.2.A xw.2.n xw.2.c, .int .i64 xw.1.dev, .bool xw.1.gone, .int .i64 xw.1.size, .int .i64 xw.1.len, .slice xw.2.D xw.2.m xw.2.k]).heap[w.heap.size]? = some (.cells #[.string (st r.path), .slice a.A a.n a.c, .int .i64 r.dev, .bool r.gone, .int .i64 r.size, .int .i64 r.len, .slice a.D a.m a.k] 27 (0, 0)) ∧ (v2.setRow gw #[.string (st xw.1.path), .slice xw.2.A xw.2.n xw.2.c, .int .i64 xw.1.dev, .bool xw.1.gone, .int .i64 xw.1.size, .int .i64 xw.1.len, .slice xw.2.D xw.2.m xw.2.k]).heap[w.heap.size + 1]? = some (.cells #[.string (st q.path), .slice b.A b.n b.c, .int .i64 q.dev, .bool q.gone, .int .i64 q.size, .int .i64 q.len, .slice b.D b.m b.k] 27 (0, 0)) := ⟨(setRow_other _ _ _ _ (by omega)).trans hS.1, (setRow_other _ _ _ _ (by omega)).trans hS.2⟩
            refine hK.out _ _ hS ?_
            clear hK
            simp only [Act.put, List.setIfInBounds_toArray, List.set_cons_zero, List.set_cons_succ]
            refine TA.tree SK.done (by kernel_rfl) rfl (by kernel_rfl) ?_
            refine TR.done ?_
            go_wp2_with fail
            go_meet
            exact ⟨gw, rfl, XS.out, BS.out⟩
        ·
          refine ⟨_, (by simp only [List.getElem?_toArray, List.getElem?_cons_succ, List.getElem?_cons_zero]; rfl), (by rfl), fun K hK => ?_⟩
          go_simp
          have bb := (Below.refl v1.heap.size v1).alloc (Nat.le_refl _) (.cells #[.string ⟨#[]⟩, .slice none 0 0, .int .i64 0, .bool false, .int .i64 0, .int .i64 0, .slice none 0 0] 27)
          have RZ := heap_alloc_new v1 (.cells #[.string ⟨#[]⟩, .slice none 0 0, .int .i64 0, .bool false, .int .i64 0, .int .i64 0, .slice none 0 0] 27)
          have hgw := T.out.size
          replace hS : (v1.alloc (.cells #[.string ⟨#[]⟩, .slice none 0 0, .int .i64 0, .bool false, .int .i64 0, .int .i64 0, .slice none 0 0] 27)).heap[w.heap.size]? = some (.cells #[.string (st r.path), .slice a.A a.n a.c, .int .i64 r.dev, .bool r.gone, .int .i64 r.size, .int .i64 r.len, .slice a.D a.m a.k] 27 (0, 0)) ∧ (v1.alloc (.cells #[.string ⟨#[]⟩, .slice none 0 0, .int .i64 0, .bool false, .int .i64 0, .int .i64 0, .slice none 0 0] 27)).heap[w.heap.size + 1]? = some (.cells #[.string (st q.path), .slice b.A b.n b.c, .int .i64 q.dev, .bool q.gone, .int .i64 q.size, .int .i64 q.len, .slice b.D b.m b.k] 27 (0, 0)) := ⟨hstep hS.1 bb, hstep hS.2 bb⟩
          replace T := Lib.hid (T.out.trans (bb.mono T.out.size))
          replace RS := hstep RS bb
          clear bb
          refine hK.out _ _ hS ?_
          clear hK
          simp only [Act.put, List.setIfInBounds_toArray, List.set_cons_zero, List.set_cons_succ]
          generalize v1.alloc (.cells #[.string ⟨#[]⟩, .slice none 0 0, .int .i64 0, .bool false, .int .i64 0, .int .i64 0, .slice none 0 0] 27) = v2 at *
          generalize v1.heap.size = gw at *
          refine TA.all1 5 (by kernel_rfl) ?_
          refine ⟨_, (by simp only [List.getElem?_toArray, List.getElem?_cons_succ, List.getElem?_cons_zero]; rfl), (by rfl), fun K hK => ?_⟩
          go_simp
          refine hK.out _ _ hS ?_
          clear hK
          simp only [Act.put, List.setIfInBounds_toArray, List.set_cons_zero, List.set_cons_succ]
          refine TA.all1 6 (by kernel_rfl) ?_
          refine ⟨_, (by simp only [List.getElem?_toArray, List.getElem?_cons_succ, List.getElem?_cons_zero]; rfl), (by rfl), fun K hK => ?_⟩
          unfold Oper.wp
          rw [exec_load_slot 27 (.tmp 65) rfl ⟨gs, k * 7, none⟩ rfl [.string (st xw.1.path), .slice xw.2.A xw.2.n xw.2.c, .int .i64 xw.1.dev, .bool xw.1.gone, .int .i64 xw.1.size, .int .i64 xw.1.len, .slice xw.2.D xw.2.m xw.2.k] _ (row_k RS HXW.out) Tryd.underlying27 rfl HI.out]
          refine hK.out _ _ hS ?_
          clear hK
          simp only [Act.put, List.setIfInBounds_toArray, List.set_cons_zero, List.set_cons_succ]
          refine TA.all1 8 (by kernel_rfl) ⟨_, (by simp only [List.getElem?_toArray, List.getElem?_cons_succ, List.getElem?_cons_zero]; rfl), (by rfl), fun K hK => ?_⟩
          refine wp_store_row 27 (.tmp 11) (.tmp 66) rfl gw #[.string (st xw.1.path), .slice xw.2.A xw.2.n xw.2.c, .int .i64 xw.1.dev, .bool xw.1.gone, .int .i64 xw.1.size, .int .i64 xw.1.len, .slice xw.2.D xw.2.m xw.2.k] rfl rfl 27 _ RZ HI.out rfl (by simp [Value.oneCell']) ?_
          have XS := Lib.hid (setRow_heap v2 gw _ #[.string (st xw.1.path), .slice xw.2.A xw.2.n xw.2.c, .int .i64 xw.1.dev, .bool xw.1.gone, .int .i64 xw.1.size, .int .i64 xw.1.len, .slice xw.2.D xw.2.m xw.2.k] _ _ RZ)
          have BS := Lib.hid (below_setRow T.out hgw #[.string (st xw.1.path), .slice xw.2.A xw.2.n xw.2.c, .int .i64 xw.1.dev, .bool xw.1.gone, .int .i64 xw.1.size, .int .i64 xw.1.len, .slice xw.2.D xw.2.m xw.2.k])
          have hlt := (Array.getElem?_eq_some_iff.1 XA.out).1
          have hlt2 := (Array.getElem?_eq_some_iff.1 YA.out).1
          replace hS : (v2.setRow gw #[.string (st xw.1.path), .slice xw.2.A xw.2.n xw.2.c, .int .i64 xw.1.dev, .bool xw.1.gone, .int .i64 xw.1.size, .int .i64 xw.1.len, .slice xw.2.D xw.2.m xw.2.k]).heap[w.heap.size]? = some (.cells #[.string (st r.path), .slice a.A a.n a.c, .int .i64 r.dev, .bool r.gone, .int .i64 r.size, .int .i64 r.len, .slice a.D a.m a.k] 27 (0, 0)) ∧ (v2.setRow gw #[.string (st xw.1.path), .slice xw.2.A xw.2.n xw.2.c, .int .i64 xw.1.dev, .bool xw.1.gone, .int .i64 xw.1.size, .int .i64 xw.1.len, .slice xw.2.D xw.2.m xw.2.k]).heap[w.heap.size + 1]? = some (.cells #[.string (st q.path), .slice b.A b.n b.c, .int .i64 q.dev, .bool q.gone, .int .i64 q.size, .int .i64 q.len, .slice b.D b.m b.k] 27 (0, 0)) := ⟨(setRow_other _ _ _ _ (by omega)).trans hS.1, (setRow_other _ _ _ _ (by omega)).trans hS.2⟩
          refine hK.out _ _ hS ?_
          clear hK
          simp only [Act.put, List.setIfInBounds_toArray, List.set_cons_zero, List.set_cons_succ]
          refine TA.tree SK.done (by kernel_rfl) rfl (by kernel_rfl) ?_
          refine TR.done ?_
          go_wp2_with fail
          go_meet
          exact ⟨gw, rfl, XS.out, BS.out⟩
      ·
        refine ⟨_, (by simp only [List.getElem?_toArray, List.getElem?_cons_succ, List.getElem?_cons_zero]; rfl), (by rfl), fun K hK => ?_⟩
        go_simp
        have bb := (Below.refl v0.heap.size v0).alloc (Nat.le_refl _) (.cells #[.string ⟨#[]⟩, .slice none 0 0, .int .i64 0, .bool false, .int .i64 0, .int .i64 0, .slice none 0 0] 27)
        have RZ := heap_alloc_new v0 (.cells #[.string ⟨#[]⟩, .slice none 0 0, .int .i64 0, .bool false, .int .i64 0, .int .i64 0, .slice none 0 0] 27)
        have hgw := T.out.size
        replace hS : (v0.alloc (.cells #[.string ⟨#[]⟩, .slice none 0 0, .int .i64 0, .bool false, .int .i64 0, .int .i64 0, .slice none 0 0] 27)).heap[w.heap.size]? = some (.cells #[.string (st r.path), .slice a.A a.n a.c, .int .i64 r.dev, .bool r.gone, .int .i64 r.size, .int .i64 r.len, .slice a.D a.m a.k] 27 (0, 0)) ∧ (v0.alloc (.cells #[.string ⟨#[]⟩, .slice none 0 0, .int .i64 0, .bool false, .int .i64 0, .int .i64 0, .slice none 0 0] 27)).heap[w.heap.size + 1]? = some (.cells #[.string (st q.path), .slice b.A b.n b.c, .int .i64 q.dev, .bool q.gone, .int .i64 q.size, .int .i64 q.len, .slice b.D b.m b.k] 27 (0, 0)) := ⟨hstep hS.1 bb, hstep hS.2 bb⟩
        replace T := Lib.hid (T.out.trans (bb.mono T.out.size))
        skip
        clear bb
        refine hK.out _ _ hS ?_
        clear hK
        simp only [Act.put, List.setIfInBounds_toArray, List.set_cons_zero, List.set_cons_succ]
        generalize v0.alloc (.cells #[.string ⟨#[]⟩, .slice none 0 0, .int .i64 0, .bool false, .int .i64 0, .int .i64 0, .slice none 0 0] 27) = v1 at *
        generalize v0.heap.size = gw at *
        refine TA.all1 2 (by kernel_rfl) ?_
        refine ⟨_, (by simp only [List.getElem?_toArray, List.getElem?_cons_succ, List.getElem?_cons_zero]; rfl), (by rfl), fun K hK => ?_⟩
        go_simp
        have bb := (Below.refl v1.heap.size v1).alloc (Nat.le_refl _) (.cells #[.string (st r.path), .slice a.A a.n a.c, .int .i64 r.dev, .bool r.gone, .int .i64 r.size, .int .i64 r.len, .slice a.D a.m a.k, .string (st q.path), .slice b.A b.n b.c, .int .i64 q.dev, .bool q.gone, .int .i64 q.size, .int .i64 q.len, .slice b.D b.m b.k] 27)
        have RS := heap_alloc_new v1 (.cells #[.string (st r.path), .slice a.A a.n a.c, .int .i64 r.dev, .bool r.gone, .int .i64 r.size, .int .i64 r.len, .slice a.D a.m a.k, .string (st q.path), .slice b.A b.n b.c, .int .i64 q.dev, .bool q.gone, .int .i64 q.size, .int .i64 q.len, .slice b.D b.m b.k] 27)
        replace hS : (v1.alloc (.cells #[.string (st r.path), .slice a.A a.n a.c, .int .i64 r.dev, .bool r.gone, .int .i64 r.size, .int .i64 r.len, .slice a.D a.m a.k, .string (st q.path), .slice b.A b.n b.c, .int .i64 q.dev, .bool q.gone, .int .i64 q.size, .int .i64 q.len, .slice b.D b.m b.k] 27)).heap[w.heap.size]? = some (.cells #[.string (st r.path), .slice a.A a.n a.c, .int .i64 r.dev, .bool r.gone, .int .i64 r.size, .int .i64 r.len, .slice a.D a.m a.k] 27 (0, 0)) ∧ (v1.alloc (.cells #[.string (st r.path), .slice a.A a.n a.c, .int .i64 r.dev, .bool r.gone, .int .i64 r.size, .int .i64 r.len, .slice a.D a.m a.k, .string (st q.path), .slice b.A b.n b.c, .int .i64 q.dev, .bool q.gone, .int .i64 q.size, .int .i64 q.len, .slice b.D b.m b.k] 27)).heap[w.heap.size + 1]? = some (.cells #[.string (st q.path), .slice b.A b.n b.c, .int .i64 q.dev, .bool q.gone, .int .i64 q.size, .int .i64 q.len, .slice b.D b.m b.k] 27 (0, 0)) := ⟨hstep hS.1 bb, hstep hS.2 bb⟩
        replace T := Lib.hid (T.out.trans (bb.mono T.out.size))
        replace RZ := hstep RZ bb
        clear bb
        refine hK.out _ _ hS ?_
        clear hK
        simp only [Act.put, List.setIfInBounds_toArray, List.set_cons_zero, List.set_cons_succ]
        generalize v1.alloc (.cells #[.string (st r.path), .slice a.A a.n a.c, .int .i64 r.dev, .bool r.gone, .int .i64 r.size, .int .i64 r.len, .slice a.D a.m a.k, .string (st q.path), .slice b.A b.n b.c, .int .i64 q.dev, .bool q.gone, .int .i64 q.size, .int .i64 q.len, .slice b.D b.m b.k] 27) = v2 at *
        generalize v1.heap.size = gs at *
        refine TA.all1 5 (by kernel_rfl) ?_
        refine ⟨_, (by simp only [List.getElem?_toArray, List.getElem?_cons_succ, List.getElem?_cons_zero]; rfl), (by rfl), fun K hK => ?_⟩
        go_simp
        refine hK.out _ _ hS ?_
        clear hK
        simp only [Act.put, List.setIfInBounds_toArray, List.set_cons_zero, List.set_cons_succ]
        refine TA.all1 6 (by kernel_rfl) ?_
        refine ⟨_, (by simp only [List.getElem?_toArray, List.getElem?_cons_succ, List.getElem?_cons_zero]; rfl), (by rfl), fun K hK => ?_⟩
        unfold Oper.wp
        rw [exec_load_slot 27 (.tmp 65) rfl ⟨gs, k * 7, none⟩ rfl [.string (st xw.1.path), .slice xw.2.A xw.2.n xw.2.c, .int .i64 xw.1.dev, .bool xw.1.gone, .int .i64 xw.1.size, .int .i64 xw.1.len, .slice xw.2.D xw.2.m xw.2.k] _ (row_k RS HXW.out) Tryd.underlying27 rfl HI.out]
        refine hK.out _ _ hS ?_
        clear hK
        simp only [Act.put, List.setIfInBounds_toArray, List.set_cons_zero, List.set_cons_succ]
        refine TA.all1 8 (by kernel_rfl) ⟨_, (by simp only [List.getElem?_toArray, List.getElem?_cons_succ, List.getElem?_cons_zero]; rfl), (by rfl), fun K hK => ?_⟩
        refine wp_store_row 27 (.tmp 11) (.tmp 66) rfl gw #[.string (st xw.1.path), .slice xw.2.A xw.2.n xw.2.c, .int .i64 xw.1.dev, .bool xw.1.gone, .int .i64 xw.1.size, .int .i64 xw.1.len, .slice xw.2.D xw.2.m xw.2.k] rfl rfl 27 _ RZ HI.out rfl (by simp [Value.oneCell']) ?_
        have XS := Lib.hid (setRow_heap v2 gw _ #[.string (st xw.1.path), .slice xw.2.A xw.2.n xw.2.c, .int .i64 xw.1.dev, .bool xw.1.gone, .int .i64 xw.1.size, .int .i64 xw.1.len, .slice xw.2.D xw.2.m xw.2.k] _ _ RZ)
        have BS := Lib.hid (below_setRow T.out hgw #[.string (st xw.1.path), .slice xw.2.A xw.2.n xw.2.c, .int .i64 xw.1.dev, .bool xw.1.gone, .int .i64 xw.1.size, .int .i64 xw.1.len, .slice xw.2.D xw.2.m xw.2.k])
        have hlt := (Array.getElem?_eq_some_iff.1 XA.out).1
        have hlt2 := (Array.getElem?_eq_some_iff.1 YA.out).1
        replace hS : (v2.setRow gw #[.string (st xw.1.path), .slice xw.2.A xw.2.n xw.2.c, .int .i64 xw.1.dev, .bool xw.1.gone, .int .i64 xw.1.size, .int .i64 xw.1.len, .slice xw.2.D xw.2.m xw.2.k]).heap[w.heap.size]? = some (.cells #[.string (st r.path), .slice a.A a.n a.c, .int .i64 r.dev, .bool r.gone, .int .i64 r.size, .int .i64 r.len, .slice a.D a.m a.k] 27 (0, 0)) ∧ (v2.setRow gw #[.string (st xw.1.path), .slice xw.2.A xw.2.n xw.2.c, .int .i64 xw.1.dev, .bool xw.1.gone, .int .i64 xw.1.size, .int .i64 xw.1.len, .slice xw.2.D xw.2.m xw.2.k]).heap[w.heap.size + 1]? = some (.cells #[.string (st q.path), .slice b.A b.n b.c, .int .i64 q.dev, .bool q.gone, .int .i64 q.size, .int .i64 q.len, .slice b.D b.m b.k] 27 (0, 0)) := ⟨(setRow_other _ _ _ _ (by omega)).trans hS.1, (setRow_other _ _ _ _ (by omega)).trans hS.2⟩
        refine hK.out _ _ hS ?_
        clear hK
        simp only [Act.put, List.setIfInBounds_toArray, List.set_cons_zero, List.set_cons_succ]
        refine TA.tree SK.done (by kernel_rfl) rfl (by kernel_rfl) ?_
        refine TR.done ?_
        go_wp2_with fail
        go_meet
        exact ⟨gw, rfl, XS.out, BS.out⟩
    ·
      refine ⟨_, (by simp only [List.getElem?_toArray, List.getElem?_cons_succ, List.getElem?_cons_zero]; rfl), (by rfl), fun K hK => ?_⟩
      go_simp
      have bb := (Below.refl v0.heap.size v0).alloc (Nat.le_refl _) (.cells #[.string ⟨#[]⟩, .slice none 0 0, .int .i64 0, .bool false, .int .i64 0, .int .i64 0, .slice none 0 0] 27)
      have RZ := heap_alloc_new v0 (.cells #[.string ⟨#[]⟩, .slice none 0 0, .int .i64 0, .bool false, .int .i64 0, .int .i64 0, .slice none 0 0] 27)
      have hgw := T.out.size
      replace hS : (v0.alloc (.cells #[.string ⟨#[]⟩, .slice none 0 0, .int .i64 0, .bool false, .int .i64 0, .int .i64 0, .slice none 0 0] 27)).heap[w.heap.size]? = some (.cells #[.string (st r.path), .slice a.A a.n a.c, .int .i64 r.dev, .bool r.gone, .int .i64 r.size, .int .i64 r.len, .slice a.D a.m a.k] 27 (0, 0)) ∧ (v0.alloc (.cells #[.string ⟨#[]⟩, .slice none 0 0, .int .i64 0, .bool false, .int .i64 0, .int .i64 0, .slice none 0 0] 27)).heap[w.heap.size + 1]? = some (.cells #[.string (st q.path), .slice b.A b.n b.c, .int .i64 q.dev, .bool q.gone, .int .i64 q.size, .int .i64 q.len, .slice b.D b.m b.k] 27 (0, 0)) := ⟨hstep hS.1 bb, hstep hS.2 bb⟩
      replace T := Lib.hid (T.out.trans (bb.mono T.out.size))
      skip
      clear bb
      refine hK.out _ _ hS ?_
      clear hK
      simp only [Act.put, List.setIfInBounds_toArray, List.set_cons_zero, List.set_cons_succ]
      generalize v0.alloc (.cells #[.string ⟨#[]⟩, .slice none 0 0, .int .i64 0, .bool false, .int .i64 0, .int .i64 0, .slice none 0 0] 27) = v1 at *
      generalize v0.heap.size = gw at *
      refine TA.all2 2 4 (by kernel_rfl) ?_ ?_
      ·
        refine ⟨_, (by simp only [List.getElem?_toArray, List.getElem?_cons_succ, List.getElem?_cons_zero]; rfl), (by rfl), fun K hK => ?_⟩
        go_simp
        have bb := (Below.refl v1.heap.size v1).alloc (Nat.le_refl _) (.cells #[.string (st r.path), .slice a.A a.n a.c, .int .i64 r.dev, .bool r.gone, .int .i64 r.size, .int .i64 r.len, .slice a.D a.m a.k, .string (st q.path), .slice b.A b.n b.c, .int .i64 q.dev, .bool q.gone, .int .i64 q.size, .int .i64 q.len, .slice b.D b.m b.k] 27)
        have RS := heap_alloc_new v1 (.cells #[.string (st r.path), .slice a.A a.n a.c, .int .i64 r.dev, .bool r.gone, .int .i64 r.size, .int .i64 r.len, .slice a.D a.m a.k, .string (st q.path), .slice b.A b.n b.c, .int .i64 q.dev, .bool q.gone, .int .i64 q.size, .int .i64 q.len, .slice b.D b.m b.k] 27)
        replace hS : (v1.alloc (.cells #[.string (st r.path), .slice a.A a.n a.c, .int .i64 r.dev, .bool r.gone, .int .i64 r.size, .int .i64 r.len, .slice a.D a.m a.k, .string (st q.path), .slice b.A b.n b.c, .int .i64 q.dev, .bool q.gone, .int .i64 q.size, .int .i64 q.len, .slice b.D b.m b.k] 27)).heap[w.heap.size]? = some (.cells #[.string (st r.path), .slice a.A a.n a.c, .int .i64 r.dev, .bool r.gone, .int .i64 r.size, .int .i64 r.len, .slice a.D a.m a.k] 27 (0, 0)) ∧ (v1.alloc (.cells #[.string (st r.path), .slice a.A a.n a.c, .int .i64 r.dev, .bool r.gone, .int .i64 r.size, .int .i64 r.len, .slice a.D a.m a.k, .string (st q.path), .slice b.A b.n b.c, .int .i64 q.dev, .bool q.gone, .int .i64 q.size, .int .i64 q.len, .slice b.D b.m b.k] 27)).heap[w.heap.size + 1]? = some (.cells #[.string (st q.path), .slice b.A b.n b.c, .int .i64 q.dev, .bool q.gone, .int .i64 q.size, .int .i64 q.len, .slice b.D b.m b.k] 27 (0, 0)) := ⟨hstep hS.1 bb, hstep hS.2 bb⟩
        replace T := Lib.hid (T.out.trans (bb.mono T.out.size))
        replace RZ := hstep RZ bb
        clear bb
        refine hK.out _ _ hS ?_
        clear hK
        simp only [Act.put, List.setIfInBounds_toArray, List.set_cons_zero, List.set_cons_succ]
        generalize v1.alloc (.cells #[.string (st r.path), .slice a.A a.n a.c, .int .i64 r.dev, .bool r.gone, .int .i64 r.size, .int .i64 r.len, .slice a.D a.m a.k, .string (st q.path), .slice b.A b.n b.c, .int .i64 q.dev, .bool q.gone, .int .i64 q.size, .int .i64 q.len, .slice b.D b.m b.k] 27) = v2 at *
        generalize v1.heap.size = gs at *
        refine TA.all1 4 (by kernel_rfl) ?_
        refine ⟨_, (by simp only [List.getElem?_toArray, List.getElem?_cons_succ, List.getElem?_cons_zero]; rfl), (by rfl), fun K hK => ?_⟩
        go_simp
        refine (pick_v k _ hk).mono ?_
        rintro e v9 ⟨rfl, rfl⟩
        refine hK.out _ _ hS ?_
        clear hK
        simp only [Act.put, List.setIfInBounds_toArray, List.set_cons_zero, List.set_cons_succ]
        refine TA.all1 5 (by kernel_rfl) ?_
        refine ⟨_, (by simp only [List.getElem?_toArray, List.getElem?_cons_succ, List.getElem?_cons_zero]; rfl), (by rfl), fun K hK => ?_⟩
        go_simp
        refine hK.out _ _ hS ?_
        clear hK
        simp only [Act.put, List.setIfInBounds_toArray, List.set_cons_zero, List.set_cons_succ]
        refine TA.all1 6 (by kernel_rfl) ?_
        refine ⟨_, (by simp only [List.getElem?_toArray, List.getElem?_cons_succ, List.getElem?_cons_zero]; rfl), (by rfl), fun K hK => ?_⟩
        unfold Oper.wp
        rw [exec_load_slot 27 (.tmp 65) rfl ⟨gs, k * 7, none⟩ rfl [.string (st xw.1.path), .slice xw.2.A xw.2.n xw.2.c, .int .i64 xw.1.dev, .bool xw.1.gone, .int .i64 xw.1.size, .int .i64 xw.1.len, .slice xw.2.D xw.2.m xw.2.k] _ (row_k RS HXW.out) Tryd.underlying27 rfl HI.out]
        refine hK.out _ _ hS ?_
        clear hK
        simp only [Act.put, List.setIfInBounds_toArray, List.set_cons_zero, List.set_cons_succ]
        refine TA.all1 8 (by kernel_rfl) ⟨_, (by simp only [List.getElem?_toArray, List.getElem?_cons_succ, List.getElem?_cons_zero]; rfl), (by rfl), fun K hK => ?_⟩
        refine wp_store_row 27 (.tmp 11) (.tmp 66) rfl gw #[.string (st xw.1.path), .slice xw.2.A xw.2.n xw.2.c, .int .i64 xw.1.dev, .bool xw.1.gone, .int .i64 xw.1.size, .int .i64 xw.1.len, .slice xw.2.D xw.2.m xw.2.k] rfl rfl 27 _ RZ HI.out rfl (by simp [Value.oneCell']) ?_
        have XS := Lib.hid (setRow_heap v2 gw _ #[.string (st xw.1.path), .slice xw.2.A xw.2.n xw.2.c, .int .i64 xw.1.dev, .bool xw.1.gone, .int .i64 xw.1.size, .int .i64 xw.1.len, .slice xw.2.D xw.2.m xw.2.k] _ _ RZ)
        have BS := Lib.hid (below_setRow T.out hgw #[.string (st xw.1.path), .slice xw.2.A xw.2.n xw.2.c, .int .i64 xw.1.dev, .bool xw.1.gone, .int .i64 xw.1.size, .int .i64 xw.1.len, .slice xw.2.D xw.2.m xw.2.k])
        have hlt := (Array.getElem?_eq_some_iff.1 XA.out).1
        have hlt2 := (Array.getElem?_eq_some_iff.1 YA.out).1
        replace hS : (v2.setRow gw #[.string (st xw.1.path), .slice xw.2.A xw.2.n xw.2.c, .int .i64 xw.1.dev, .bool xw.1.gone, .int .i64 xw.1.size, .int .i64 xw.1.len, .slice xw.2.D xw.2.m xw.2.k]).heap[w.heap.size]? = some (.cells #[.string (st r.path), .slice a.A a.n a.c, .int .i64 r.dev, .bool r.gone, .int .i64 r.size, .int .i64 r.len, .slice a.D a.m a.k] 27 (0, 0)) ∧ (v2.setRow gw #[.string (st xw.1.path), .slice xw.2.A xw.2.n xw.2.c, .int .i64 xw.1.dev, .bool xw.1.gone, .int .i64 xw.1.size, .int .i64 xw.1.len, .slice xw.2.D xw.2.m xw.2.k]).heap[w.heap.size + 1]? = some (.cells #[.string (st q.path), .slice b.A b.n b.c, .int .i64 q.dev, .bool q.gone, .int .i64 q.size, .int .i64 q.len, .slice b.D b.m b.k] 27 (0, 0)) := ⟨(setRow_other _ _ _ _ (by omega)).trans hS.1, (setRow_other _ _ _ _ (by omega)).trans hS.2⟩
        refine hK.out _ _ hS ?_
        clear hK
        simp only [Act.put, List.setIfInBounds_toArray, List.set_cons_zero, List.set_cons_succ]
        refine TA.tree SK.done (by kernel_rfl) rfl (by kernel_rfl) ?_
        refine TR.done ?_
        go_wp2_with fail
        go_meet
        exact ⟨gw, rfl, XS.out, BS.out⟩
      ·
        refine ⟨_, (by simp only [List.getElem?_toArray, List.getElem?_cons_succ, List.getElem?_cons_zero]; rfl), (by rfl), fun K hK => ?_⟩
        go_simp
        refine (pick_v k _ hk).mono ?_
        rintro e v9 ⟨rfl, rfl⟩
        refine hK.out _ _ hS ?_
        clear hK
        simp only [Act.put, List.setIfInBounds_toArray, List.set_cons_zero, List.set_cons_succ]
        refine TA.all1 2 (by kernel_rfl) ?_
        refine ⟨_, (by simp only [List.getElem?_toArray, List.getElem?_cons_succ, List.getElem?_cons_zero]; rfl), (by rfl), fun K hK => ?_⟩
        go_simp
        have bb := (Below.refl v1.heap.size v1).alloc (Nat.le_refl _) (.cells #[.string (st r.path), .slice a.A a.n a.c, .int .i64 r.dev, .bool r.gone, .int .i64 r.size, .int .i64 r.len, .slice a.D a.m a.k, .string (st q.path), .slice b.A b.n b.c, .int .i64 q.dev, .bool q.gone, .int .i64 q.size, .int .i64 q.len, .slice b.D b.m b.k] 27)
        have RS := heap_alloc_new v1 (.cells #[.string (st r.path), .slice a.A a.n a.c, .int .i64 r.dev, .bool r.gone, .int .i64 r.size, .int .i64 r.len, .slice a.D a.m a.k, .string (st q.path), .slice b.A b.n b.c, .int .i64 q.dev, .bool q.gone, .int .i64 q.size, .int .i64 q.len, .slice b.D b.m b.k] 27)
        replace hS : (v1.alloc (.cells #[.string (st r.path), .slice a.A a.n a.c, .int .i64 r.dev, .bool r.gone, .int .i64 r.size, .int .i64 r.len, .slice a.D a.m a.k, .string (st q.path), .slice b.A b.n b.c, .int .i64 q.dev, .bool q.gone, .int .i64 q.size, .int .i64 q.len, .slice b.D b.m b.k] 27)).heap[w.heap.size]? = some (.cells #[.string (st r.path), .slice a.A a.n a.c, .int .i64 r.dev, .bool r.gone, .int .i64 r.size, .int .i64 r.len, .slice a.D a.m a.k] 27 (0, 0)) ∧ (v1.alloc (.cells #[.string (st r.path), .slice a.A a.n a.c, .int .i64 r.dev, .bool r.gone, .int .i64 r.size, .int .i64 r.len, .slice a.D a.m a.k, .string (st q.path), .slice b.A b.n b.c, .int .i64 q.dev, .bool q.gone, .int .i64 q.size, .int .i64 q.len, .slice b.D b.m b.k] 27)).heap[w.heap.size + 1]? = some (.cells #[.string (st q.path), .slice b.A b.n b.c, .int .i64 q.dev, .bool q.gone, .int .i64 q.size, .int .i64 q.len, .slice b.D b.m b.k] 27 (0, 0)) := ⟨hstep hS.1 bb, hstep hS.2 bb⟩
        replace T := Lib.hid (T.out.trans (bb.mono T.out.size))
        replace RZ := hstep RZ bb
        clear bb
        refine hK.out _ _ hS ?_
        clear hK
        simp only [Act.put, List.setIfInBounds_toArray, List.set_cons_zero, List.set_cons_succ]
        generalize v1.alloc (.cells #[.string (st r.path), .slice a.A a.n a.c, .int .i64 r.dev, .bool r.gone, .int .i64 r.size, .int .i64 r.len, .slice a.D a.m a.k, .string (st q.path), .slice b.A b.n b.c, .int .i64 q.dev, .bool q.gone, .int .i64 q.size, .int .i64 q.len, .slice b.D b.m b.k] 27) = v2 at *
        generalize v1.heap.size = gs at *
        refine TA.all1 5 (by kernel_rfl) ?_
        refine ⟨_, (by simp only [List.getElem?_toArray, List.getElem?_cons_succ, List.getElem?_cons_zero]; rfl), (by rfl), fun K hK => ?_⟩
        go_simp
        refine hK.out _ _ hS ?_
        clear hK
        simp only [Act.put, List.setIfInBounds_toArray, List.set_cons_zero, List.set_cons_succ]
        refine TA.all1 6 (by kernel_rfl) ?_
        refine ⟨_, (by simp only [List.getElem?_toArray, List.getElem?_cons_succ, List.getElem?_cons_zero]; rfl), (by rfl), fun K hK => ?_⟩
        unfold Oper.wp
        rw [exec_load_slot 27 (.tmp 65) rfl ⟨gs, k * 7, none⟩ rfl [.string (st xw.1.path), .slice xw.2.A xw.2.n xw.2.c, .int .i64 xw.1.dev, .bool xw.1.gone, .int .i64 xw.1.size, .int .i64 xw.1.len, .slice xw.2.D xw.2.m xw.2.k] _ (row_k RS HXW.out) Tryd.underlying27 rfl HI.out]
        refine hK.out _ _ hS ?_
        clear hK
        simp only [Act.put, List.setIfInBounds_toArray, List.set_cons_zero, List.set_cons_succ]
        refine TA.all1 8 (by kernel_rfl) ⟨_, (by simp only [List.getElem?_toArray, List.getElem?_cons_succ, List.getElem?_cons_zero]; rfl), (by rfl), fun K hK => ?_⟩
        refine wp_store_row 27 (.tmp 11) (.tmp 66) rfl gw #[.string (st xw.1.path), .slice xw.2.A xw.2.n xw.2.c, .int .i64 xw.1.dev, .bool xw.1.gone, .int .i64 xw.1.size, .int .i64 xw.1.len, .slice xw.2.D xw.2.m xw.2.k] rfl rfl 27 _ RZ HI.out rfl (by simp [Value.oneCell']) ?_
        have XS := Lib.hid (setRow_heap v2 gw _ #[.string (st xw.1.path), .slice xw.2.A xw.2.n xw.2.c, .int .i64 xw.1.dev, .bool xw.1.gone, .int .i64 xw.1.size, .int .i64 xw.1.len, .slice xw.2.D xw.2.m xw.2.k] _ _ RZ)
        have BS := Lib.hid (below_setRow T.out hgw #[.string (st xw.1.path), .slice xw.2.A xw.2.n xw.2.c, .int .i64 xw.1.dev, .bool xw.1.gone, .int .i64 xw.1.size, .int .i64 xw.1.len, .slice xw.2.D xw.2.m xw.2.k])
        have hlt := (Array.getElem?_eq_some_iff.1 XA.out).1
        have hlt2 := (Array.getElem?_eq_some_iff.1 YA.out).1
        replace hS : (v2.setRow gw #[.string (st xw.1.path), .slice xw.2.A xw.2.n xw.2.c, .int .i64 xw.1.dev, .bool xw.1.gone, .int .i64 xw.1.size, .int .i64 xw.1.len, .slice xw.2.D xw.2.m xw.2.k]).heap[w.heap.size]? = some (.cells #[.string (st r.path), .slice a.A a.n a.c, .int .i64 r.dev, .bool r.gone, .int .i64 r.size, .int .i64 r.len, .slice a.D a.m a.k] 27 (0, 0)) ∧ (v2.setRow gw #[.string (st xw.1.path), .slice xw.2.A xw.2.n xw.2.c, .int .i64 xw.1.dev, .bool xw.1.gone, .int .i64 xw.1.size, .int .i64 xw.1.len, .slice xw.2.D xw.2.m xw.2.k]).heap[w.heap.size + 1]? = some (.cells #[.string (st q.path), .slice b.A b.n b.c, .int .i64 q.dev, .bool q.gone, .int .i64 q.size, .int .i64 q.len, .slice b.D b.m b.k] 27 (0, 0)) := ⟨(setRow_other _ _ _ _ (by omega)).trans hS.1, (setRow_other _ _ _ _ (by omega)).trans hS.2⟩
        refine hK.out _ _ hS ?_
        clear hK
        simp only [Act.put, List.setIfInBounds_toArray, List.set_cons_zero, List.set_cons_succ]
        refine TA.tree SK.done (by kernel_rfl) rfl (by kernel_rfl) ?_
        refine TR.done ?_
        go_wp2_with fail
        go_meet
        exact ⟨gw, rfl, XS.out, BS.out⟩
  obtain ⟨gw, rfl, hpw, b3⟩ := hcut
  replace X := Lib.hid (hstep X.out b3)
  replace Y := Lib.hid (hstep Y.out b3)
  replace HE := Lib.hid (HE.out.below b3)
  replace BA := Lib.hid (BA.out.trans (b3.mono BA.out.size))
  replace HR := Lib.hid (HR.out.step b3)
  replace HQ := Lib.hid (HQ.out.step b3)
  replace PX := Lib.hid (hstep PX.out b3)
  replace HX := Lib.hid (HX.out.step b3)
  replace PY := Lib.hid (hstep PY.out b3)
  replace HY := Lib.hid (HY.out.step b3)
  have PW := Lib.hid hpw
  clear b3 hpw
  have HWR := Lib.hid (show RReads wc wc.heap.size xw.1 xw.2 from by
    have hm := List.mem_of_getElem? HXW.out
    simp only [List.mem_cons, List.not_mem_nil, or_false] at hm
    rcases hm with rfl | rfl
    · exact HR.out
    · exact HQ.out)
  go_wp2_with (first | (refine wpList_load_slot rfl 27 (.tmp 2) rfl ⟨w.heap.size, 0, none⟩ rfl [.string (st r.path), .slice a.A a.n a.c, .int .i64 r.dev, .bool r.gone, .int .i64 r.size, .int .i64 r.len, .slice a.D a.m a.k] _ (rcells_at X.out arr_at) Tryd.underlying27 rfl HI.out ?_) | (refine wpList_load_slot rfl 27 (.tmp 3) rfl ⟨w.heap.size + 1, 0, none⟩ rfl [.string (st q.path), .slice b.A b.n b.c, .int .i64 q.dev, .bool q.gone, .int .i64 q.size, .int .i64 q.len, .slice b.D b.m b.k] _ (rcells_at Y.out arr_at) Tryd.underlying27 rfl HI.out ?_) | fail)
  refine (version_v r q a b wc.heap.size wc HR.out HQ.out (Nat.le_refl _)).mono ?_
  rintro e w12 ⟨rfl, b3⟩
  replace X := Lib.hid (hstep X.out b3)
  replace Y := Lib.hid (hstep Y.out b3)
  replace HE := Lib.hid (HE.out.below b3)
  replace BA := Lib.hid (BA.out.trans (b3.mono BA.out.size))
  replace HR := Lib.hid (HR.out.step b3)
  replace HQ := Lib.hid (HQ.out.step b3)
  replace PX := Lib.hid (hstep PX.out b3)
  replace HX := Lib.hid (HX.out.step b3)
  replace PY := Lib.hid (hstep PY.out b3)
  replace HY := Lib.hid (HY.out.step b3)
  replace PW := Lib.hid (hstep PW.out b3)
  replace HWR := Lib.hid (HWR.out.step b3)
  clear b3
  by_cases hv : cmpV r.v q.v = 1
  · rw [show verR r q = true by unfold verR; rw [decide_eq_true K.out.2.2, decide_eq_true hv]; rfl]
    have SX := Lib.hid (setX_same K.out.1 K.out.2.1 K.out.2.2 hv).1
    rw [HX0.out] at SX
    clear hv
    go_wp2_with (first | (refine wpList_load_slot rfl 27 (.tmp 2) rfl ⟨w.heap.size, 0, none⟩ rfl [.string (st r.path), .slice a.A a.n a.c, .int .i64 r.dev, .bool r.gone, .int .i64 r.size, .int .i64 r.len, .slice a.D a.m a.k] _ (rcells_at X.out arr_at) Tryd.underlying27 rfl HI.out ?_) | (refine wpList_load_slot rfl 27 (.tmp 5) rfl ⟨gx, 0, none⟩ rfl [.string (st x0.path), .slice x.A x.n x.c, .int .i64 x0.dev, .bool x0.gone, .int .i64 x0.size, .int .i64 x0.len, .slice x.D x.m x.k] _ (rcells_at PX.out arr_at) Tryd.underlying27 rfl HI.out ?_) | fail)
    refine (version_v x0 r x a w12.heap.size w12 HX.out HR.out (Nat.le_refl _)).mono ?_
    rintro e w13 ⟨rfl, b3⟩
    rw [SX.out]
    replace BA := Lib.hid (BA.out.trans (b3.mono BA.out.size))
    clear b3
    go_wp2
    go_ret
    exact ⟨by first | rfl | simp, BA.out⟩
  rw [show verR r q = false by unfold verR; rw [decide_eq_false hv]; simp]
  have SW := setX_swap K.out.1 K.out.2.1 hv
  rw [HX0.out, HY0.out] at SW
  subst SW
  clear hv
  go_wp2_with (first | (refine wpList_load_slot rfl 27 (.tmp 5) rfl ⟨gx, 0, none⟩ rfl [.string (st y0.path), .slice x.A x.n x.c, .int .i64 y0.dev, .bool y0.gone, .int .i64 y0.size, .int .i64 y0.len, .slice x.D x.m x.k] _ (rcells_at PX.out arr_at) Tryd.underlying27 rfl HI.out ?_) | (refine wpList_load_slot rfl 27 (.tmp 7) rfl ⟨gy, 0, none⟩ rfl [.string (st y0.path), .slice y.A y.n y.c, .int .i64 y0.dev, .bool y0.gone, .int .i64 y0.size, .int .i64 y0.len, .slice y.D y.m y.k] _ (rcells_at PY.out arr_at) Tryd.underlying27 rfl HI.out ?_) | fail)
  refine (krec_v y0 y0 x y w12.heap.size w12 HX.out HY.out (Nat.le_refl _)).mono ?_
  rintro e w13 ⟨rfl, b3⟩
  rw [sameR_self]
  replace X := Lib.hid (hstep X.out b3)
  replace Y := Lib.hid (hstep Y.out b3)
  replace HE := Lib.hid (HE.out.below b3)
  replace BA := Lib.hid (BA.out.trans (b3.mono BA.out.size))
  replace HR := Lib.hid (HR.out.step b3)
  replace HQ := Lib.hid (HQ.out.step b3)
  replace PX := Lib.hid (hstep PX.out b3)
  replace HX := Lib.hid (HX.out.step b3)
  replace PY := Lib.hid (hstep PY.out b3)
  replace HY := Lib.hid (HY.out.step b3)
  replace PW := Lib.hid (hstep PW.out b3)
  replace HWR := Lib.hid (HWR.out.step b3)
  clear b3
  have hf : y0.gone = xw.1.gone ∧ y0.dev = xw.1.dev ∧ y0.size = xw.1.size ∧ y0.len = xw.1.len ∧ y0.ds = xw.1.ds := by
    rw [← HX0.out, ← HXR.out]
    exact ⟨rfl, rfl, rfl, rfl, rfl⟩
  have c1 : w13.cell? ⟨gx, 3, none⟩ = some (.bool xw.1.gone) := by rw [cell_of_row _ _ 3 _ _ _ PX.out, ← hf.1]; rfl
  have c2 := cell_of_row _ _ 3 _ _ _ PW.out
  have c3 : w13.cell? ⟨gx, 2, none⟩ = some (.int .i64 xw.1.dev) := by rw [cell_of_row _ _ 2 _ _ _ PX.out, ← hf.2.1]; rfl
  have c4 := cell_of_row _ _ 2 _ _ _ PW.out
  have HF := Lib.hid hf
  clear hf
  go_wp2_with (first
    | (refine wpList_load_slot rfl 25 (.tmp 100) rfl ⟨gx, 4, none⟩ rfl [.int .i64 y0.size, .int .i64 y0.len, .slice x.D x.m x.k] _ (rcells_at PX.out (three_at rfl rfl rfl)) Tryd.underlying25 rfl HL.out ?_)
    | (refine wpList_load_slot rfl 25 (.tmp 102) rfl ⟨gw, 4, none⟩ rfl [.int .i64 xw.1.size, .int .i64 xw.1.len, .slice xw.2.D xw.2.m xw.2.k] _ (rcells_at PW.out (three_at rfl rfl rfl)) Tryd.underlying25 rfl HL.out ?_)
    | fail)
  refine (list_v y0.size y0.len xw.1.size xw.1.len x.D xw.2.D x.m x.k xw.2.m xw.2.k w13.heap.size y0.ds xw.1.ds w13 HX.out.dg HWR.out.dg (Nat.le_refl _) (by have := HX.out.hm; omega)).mono ?_
  rintro e w14 ⟨rfl, b3⟩
  rw [show sameP y0.size y0.len xw.1.size xw.1.len y0.ds xw.1.ds = true by rw [HF.out.2.2.1, HF.out.2.2.2.1, HF.out.2.2.2.2]; exact sameP_self _ _ _]
  clear c1 c2 c3 c4
  replace X := Lib.hid (hstep X.out b3)
  replace Y := Lib.hid (hstep Y.out b3)
  replace HE := Lib.hid (HE.out.below b3)
  replace BA := Lib.hid (BA.out.trans (b3.mono BA.out.size))
  replace HR := Lib.hid (HR.out.step b3)
  replace HQ := Lib.hid (HQ.out.step b3)
  replace PX := Lib.hid (hstep PX.out b3)
  replace HX := Lib.hid (HX.out.step b3)
  replace PY := Lib.hid (hstep PY.out b3)
  replace HY := Lib.hid (HY.out.step b3)
  replace PW := Lib.hid (hstep PW.out b3)
  replace HWR := Lib.hid (HWR.out.step b3)
  clear b3
  go_wp2_with (first | (refine wpList_load_slot rfl 27 (.tmp 5) rfl ⟨gx, 0, none⟩ rfl [.string (st y0.path), .slice x.A x.n x.c, .int .i64 y0.dev, .bool y0.gone, .int .i64 y0.size, .int .i64 y0.len, .slice x.D x.m x.k] _ (rcells_at PX.out arr_at) Tryd.underlying27 rfl HI.out ?_) | fail)
  refine (rrecCheck_v y0 x w14.heap.size w14 HX.out (Nat.le_refl _)).mono ?_
  rintro e w15 ⟨rfl, b3⟩
  rw [show okR y0 = 0 by rw [← HX0.out]; exact (setX_ok K.out.1 K.out.2.1 K.out.2.2).1]
  replace X := Lib.hid (hstep X.out b3)
  replace Y := Lib.hid (hstep Y.out b3)
  replace HE := Lib.hid (HE.out.below b3)
  replace BA := Lib.hid (BA.out.trans (b3.mono BA.out.size))
  replace HR := Lib.hid (HR.out.step b3)
  replace HQ := Lib.hid (HQ.out.step b3)
  replace PX := Lib.hid (hstep PX.out b3)
  replace HX := Lib.hid (HX.out.step b3)
  replace PY := Lib.hid (hstep PY.out b3)
  replace HY := Lib.hid (HY.out.step b3)
  replace PW := Lib.hid (hstep PW.out b3)
  replace HWR := Lib.hid (HWR.out.step b3)
  clear b3
  go_wp2_with (first | (refine wpList_load_slot rfl 27 (.tmp 2) rfl ⟨w.heap.size, 0, none⟩ rfl [.string (st r.path), .slice a.A a.n a.c, .int .i64 r.dev, .bool r.gone, .int .i64 r.size, .int .i64 r.len, .slice a.D a.m a.k] _ (rcells_at X.out arr_at) Tryd.underlying27 rfl HI.out ?_) | (refine wpList_load_slot rfl 27 (.tmp 3) rfl ⟨w.heap.size + 1, 0, none⟩ rfl [.string (st q.path), .slice b.A b.n b.c, .int .i64 q.dev, .bool q.gone, .int .i64 q.size, .int .i64 q.len, .slice b.D b.m b.k] _ (rcells_at Y.out arr_at) Tryd.underlying27 rfl HI.out ?_) | fail)
  have b3 := (Below.refl w15.heap.size w15).alloc (Nat.le_refl _) (.cells #[.string (st r.path), .slice a.A a.n a.c, .int .i64 r.dev, .bool r.gone, .int .i64 r.size, .int .i64 r.len, .slice a.D a.m a.k, .string (st q.path), .slice b.A b.n b.c, .int .i64 q.dev, .bool q.gone, .int .i64 q.size, .int .i64 q.len, .slice b.D b.m b.k] 27)
  have RS := Lib.hid (heap_alloc_new w15 (.cells #[.string (st r.path), .slice a.A a.n a.c, .int .i64 r.dev, .bool r.gone, .int .i64 r.size, .int .i64 r.len, .slice a.D a.m a.k, .string (st q.path), .slice b.A b.n b.c, .int .i64 q.dev, .bool q.gone, .int .i64 q.size, .int .i64 q.len, .slice b.D b.m b.k] 27))
  replace X := Lib.hid (hstep X.out b3)
  replace Y := Lib.hid (hstep Y.out b3)
  replace HE := Lib.hid (HE.out.below b3)
  replace BA := Lib.hid (BA.out.trans (b3.mono BA.out.size))
  replace HR := Lib.hid (HR.out.step b3)
  replace HQ := Lib.hid (HQ.out.step b3)
  replace PX := Lib.hid (hstep PX.out b3)
  replace HX := Lib.hid (HX.out.step b3)
  replace PY := Lib.hid (hstep PY.out b3)
  replace HY := Lib.hid (HY.out.step b3)
  replace PW := Lib.hid (hstep PW.out b3)
  replace HWR := Lib.hid (HWR.out.step b3)
  clear b3
  generalize w15.alloc (.cells #[.string (st r.path), .slice a.A a.n a.c, .int .i64 r.dev, .bool r.gone, .int .i64 r.size, .int .i64 r.len, .slice a.D a.m a.k, .string (st q.path), .slice b.A b.n b.c, .int .i64 q.dev, .bool q.gone, .int .i64 q.size, .int .i64 q.len, .slice b.D b.m b.k] 27) = wl at *
  generalize w15.heap.size = gs at *
  clear PY HY PW HWR HXW HXR HW HF HY0 Y
  go_loopw [116] (fun i wr => ∃ k : Nat, k ≤ 2 ∧ i = .int .i64 (k : Int) ∧ Below wl.heap.size wl wr) (fun i _ => 2 - (intOf i).toNat)
  case atStart => exact ⟨0, by omega, rfl, Below.refl _ _⟩
  case round =>
    obtain ⟨kk, hkk, rfl, hT⟩ := hrel
    have T := Lib.hid hT
    clear hT
    by_cases hlt : kk < 2
    · obtain ⟨o, ho⟩ : ∃ o, [(r, a), (q, b)][kk]? = some o := ⟨_, List.getElem?_eq_getElem (by simpa using hlt)⟩
      have hm := List.mem_of_getElem? ho
      simp only [List.mem_cons, List.not_mem_nil, or_false] at hm
      have HO := Lib.hid (show RReads wl wl.heap.size o.1 o.2 by
        rcases hm with rfl | rfl
        · exact HR.out
        · exact HQ.out)
      have hSE := settle_each K.out.1 K.out.2.1 K.out.2.2 o.1 (by rcases hm with rfl | rfl; exact .inl rfl; exact .inr rfl)
      rw [HX0.out] at hSE
      have SE := Lib.hid hSE
      have HRK := Lib.hid (row_k (x := (r, a)) (y := (q, b)) (hstep RS.out T.out) ho)
      have k0 : (0 : Int) ≤ (kk : Int) := by omega
      clear hm hSE ho
      have b4 := (Below.refl wr.heap.size wr).alloc (Nat.le_refl _) (.cells #[.string (st o.1.path), .slice o.2.A o.2.n o.2.c, .int .i64 o.1.dev, .bool o.1.gone, .int .i64 o.1.size, .int .i64 o.1.len, .slice o.2.D o.2.m o.2.k] 27)
      have PO := Lib.hid (heap_alloc_new wr (.cells #[.string (st o.1.path), .slice o.2.A o.2.n o.2.c, .int .i64 o.1.dev, .bool o.1.gone, .int .i64 o.1.size, .int .i64 o.1.len, .slice o.2.D o.2.m o.2.k] 27))
      have T2 := Lib.hid (T.out.trans (b4.mono T.out.size))
      clear b4
      go_upto_region 18 with (first
        | (refine wpList_load_slot rfl 27 (.tmp 118) rfl ⟨gs, kk * 7, none⟩ rfl [.string (st o.1.path), .slice o.2.A o.2.n o.2.c, .int .i64 o.1.dev, .bool o.1.gone, .int .i64 o.1.size, .int .i64 o.1.len, .slice o.2.D o.2.m o.2.k] _ HRK.out Tryd.underlying27 rfl HI.out ?_)
        | fail)
      generalize wr.alloc (.cells #[.string (st o.1.path), .slice o.2.A o.2.n o.2.c, .int .i64 o.1.dev, .bool o.1.gone, .int .i64 o.1.size, .int .i64 o.1.len, .slice o.2.D o.2.m o.2.k] 27) = w1 at *
      generalize wr.heap.size = go at *
      clear HRK T
      have c1 : w1.cell? ⟨gx, 1, none⟩ = some (.slice x.A x.n x.c) := by rw [cell_of_row _ _ 1 _ _ _ (hstep PX.out T2.out)]; rfl
      have c2 : w1.cell? ⟨go, 1, none⟩ = some (.slice o.2.A o.2.n o.2.c) := by rw [cell_of_row _ _ 1 _ _ _ PO.out]; rfl
      have hxn := HX.out.hn
      have hon := HO.out.hn
      go_wp2_with fail
      refine (rcompare_v w1.heap.size x.A o.2.A x.n x.c o.2.n o.2.c y0.v o.1.v w1 (HX.out.step T2.out).cs (HO.out.step T2.out).cs (Nat.le_refl _) (by omega) (by omega) HX.out.ft HO.out.ft).mono ?_
      rintro e w2' ⟨rfl, b3⟩
      clear c1 c2
      replace PO := Lib.hid (hstep PO.out b3)
      replace T2 := Lib.hid (T2.out.trans (b3.mono T2.out.size))
      clear b3
      have P2 := Lib.hid (hstep PX.out T2.out)
      go_wp2_with (first | (refine wpList_load_slot rfl 27 (.tmp 5) rfl ⟨gx, 0, none⟩ rfl [.string (st y0.path), .slice x.A x.n x.c, .int .i64 y0.dev, .bool y0.gone, .int .i64 y0.size, .int .i64 y0.len, .slice x.D x.m x.k] _ (rcells_at P2.out arr_at) Tryd.underlying27 rfl HI.out ?_) | (refine wpList_load_slot rfl 27 (.tmp 13) rfl ⟨go, 0, none⟩ rfl [.string (st o.1.path), .slice o.2.A o.2.n o.2.c, .int .i64 o.1.dev, .bool o.1.gone, .int .i64 o.1.size, .int .i64 o.1.len, .slice o.2.D o.2.m o.2.k] _ (rcells_at PO.out arr_at) Tryd.underlying27 rfl HI.out ?_) | fail)
      have SV := Lib.hid (settle_v y0 o.1 x o.2 w2'.heap.size w2' (HE.out.below T2.out) (HX.out.step T2.out) (HO.out.step T2.out) (Nat.le_refl _))
      rw [setR_ok SE.out.2.2.1] at SV
      generalize hz0 : setX y0 o.1 = z0 at *
      have HZ0 := Lib.hid hz0
      clear hz0
      refine SV.out.mono ?_
      rintro e w3' ⟨z, rfl, hz, b3⟩
      replace PO := Lib.hid (hstep PO.out b3)
      replace T2 := Lib.hid (T2.out.trans (b3.mono T2.out.size))
      clear b3 P2
      have b3 := (Below.refl w3'.heap.size w3').alloc (Nat.le_refl _) (.cells #[.string (st z0.path), .slice z.A z.n z.c, .int .i64 z0.dev, .bool z0.gone, .int .i64 z0.size, .int .i64 z0.len, .slice z.D z.m z.k] 27)
      have PZ := Lib.hid (heap_alloc_new w3' (.cells #[.string (st z0.path), .slice z.A z.n z.c, .int .i64 z0.dev, .bool z0.gone, .int .i64 z0.size, .int .i64 z0.len, .slice z.D z.m z.k] 27))
      have HZ := Lib.hid (hz.step b3)
      replace PO := Lib.hid (hstep PO.out b3)
      replace T2 := Lib.hid (T2.out.trans (b3.mono T2.out.size))
      clear b3 hz SV
      dsimp only
      go_upto_region 20 with fail
      generalize w3'.alloc (.cells #[.string (st z0.path), .slice z.A z.n z.c, .int .i64 z0.dev, .bool z0.gone, .int .i64 z0.size, .int .i64 z0.len, .slice z.D z.m z.k] 27) = w4' at *
      generalize w3'.heap.size = gz at *
      have P2 := Lib.hid (hstep PX.out T2.out)
      go_wp2_with (first | (refine wpList_load_slot rfl 27 (.tmp 5) rfl ⟨gx, 0, none⟩ rfl [.string (st y0.path), .slice x.A x.n x.c, .int .i64 y0.dev, .bool y0.gone, .int .i64 y0.size, .int .i64 y0.len, .slice x.D x.m x.k] _ (rcells_at P2.out arr_at) Tryd.underlying27 rfl HI.out ?_) | (refine wpList_load_slot rfl 27 (.tmp 13) rfl ⟨go, 0, none⟩ rfl [.string (st o.1.path), .slice o.2.A o.2.n o.2.c, .int .i64 o.1.dev, .bool o.1.gone, .int .i64 o.1.size, .int .i64 o.1.len, .slice o.2.D o.2.m o.2.k] _ (rcells_at PO.out arr_at) Tryd.underlying27 rfl HI.out ?_) | fail)
      refine (do_v y0 o.1 x o.2 w4'.heap.size w4' (HE.out.below T2.out) (HX.out.step T2.out) (HO.out.step T2.out) (Nat.le_refl _)).mono ?_
      rintro e w5' ⟨rfl, b3⟩
      rw [SE.out.2.2.2.2.1]
      replace PO := Lib.hid (hstep PO.out b3)
      replace PZ := Lib.hid (hstep PZ.out b3)
      replace HZ := Lib.hid (HZ.out.step b3)
      replace T2 := Lib.hid (T2.out.trans (b3.mono T2.out.size))
      clear b3 P2
      have P2 := Lib.hid (hstep PX.out T2.out)
      go_wp2_with (first | (refine wpList_load_slot rfl 27 (.tmp 5) rfl ⟨gx, 0, none⟩ rfl [.string (st y0.path), .slice x.A x.n x.c, .int .i64 y0.dev, .bool y0.gone, .int .i64 y0.size, .int .i64 y0.len, .slice x.D x.m x.k] _ (rcells_at P2.out arr_at) Tryd.underlying27 rfl HI.out ?_) | (refine wpList_load_slot rfl 27 (.tmp 13) rfl ⟨go, 0, none⟩ rfl [.string (st o.1.path), .slice o.2.A o.2.n o.2.c, .int .i64 o.1.dev, .bool o.1.gone, .int .i64 o.1.size, .int .i64 o.1.len, .slice o.2.D o.2.m o.2.k] _ (rcells_at PO.out arr_at) Tryd.underlying27 rfl HI.out ?_) | fail)
      refine (do_v o.1 y0 o.2 x w5'.heap.size w5' (HE.out.below T2.out) (HO.out.step T2.out) (HX.out.step T2.out) (Nat.le_refl _)).mono ?_
      rintro e w6' ⟨rfl, b3⟩
      replace PO := Lib.hid (hstep PO.out b3)
      replace PZ := Lib.hid (hstep PZ.out b3)
      replace HZ := Lib.hid (HZ.out.step b3)
      replace T2 := Lib.hid (T2.out.trans (b3.mono T2.out.size))
      clear b3 P2
      have P2 := Lib.hid (hstep PX.out T2.out)
      have HV := Lib.hid (show verR z0 y0 = true from SE.out.2.2.2.1)
      rcases SE.out.2.2.2.2.2 with ⟨e1, e2⟩ | ⟨e1, e2⟩
      all_goals
        rw [e1, e2]
        clear e1 e2
        dsimp only
        go_wp2_with (first | (refine wpList_load_slot rfl 27 (.tmp 15) rfl ⟨gz, 0, none⟩ rfl [.string (st z0.path), .slice z.A z.n z.c, .int .i64 z0.dev, .bool z0.gone, .int .i64 z0.size, .int .i64 z0.len, .slice z.D z.m z.k] _ (rcells_at PZ.out arr_at) Tryd.underlying27 rfl HI.out ?_) | (refine wpList_load_slot rfl 27 (.tmp 5) rfl ⟨gx, 0, none⟩ rfl [.string (st y0.path), .slice x.A x.n x.c, .int .i64 y0.dev, .bool y0.gone, .int .i64 y0.size, .int .i64 y0.len, .slice x.D x.m x.k] _ (rcells_at P2.out arr_at) Tryd.underlying27 rfl HI.out ?_) | fail)
        refine (version_v z0 y0 z x w6'.heap.size w6' HZ.out (HX.out.step T2.out) (Nat.le_refl _)).mono ?_
        rintro e w7' ⟨rfl, b3⟩
        rw [HV.out]
        replace T2 := Lib.hid (T2.out.trans (b3.mono T2.out.size))
        clear b3
        go_wp2
        go_roundw
        case rel => exact ⟨kk + 1, hlt, by go_num, T2.out⟩
        case measure => simp [intOf]; omega
    · obtain rfl : kk = 2 := by omega
      replace BA := Lib.hid (BA.out.trans (T.out.mono BA.out.size))
      go_wp2
      go_ret
      exact ⟨by first | rfl | simp, BA.out⟩
end Go.Proofs.YtndekohimfjdeaaDoor

namespace Go.Proofs.YtndekohimfjdeaaDoor
open Go Go.RowKit Go.ChangeShapes Go.WideShapes Go.ChangeAt
variable {H : Type} {enc : TypeId × Value → H}
theorem returns_and_shaped {a : Assume} {C : Checked} {os : Os} {f : FuncId} {fn : Func} {s : ChangeSpec} {conds : List PathCond} {apart fresh handsOn again : Bool} {X : World → Array Value → Prop}
    (hX : ∀ (w w' : World) (args : Array Value), w.heap = w'.heap → X w args → X w' args)
    (own : ownKnob C.prog.godebug = none) (started : os.Started) (noInit : C.prog.inits.idxOf? f = none) (hfn : C.prog.funcs[f]? = some fn)
    (witness : ∃ (w : World) (tape : Tape) (i : Input), w.os = os ∧ (w.forCall tape i).Shaped C.prog ∧ i.vars = [] ∧ Input.okWide C.prog (w.forCall tape i) .any w.heap.size f i ∧
      ((s.pre enc C.prog fn conds apart (w.forCall tape i).memory i.args ∧ X (w.forCall tape i).memory i.args) ∧ sizedMet enc C.prog fn (OpenSpec.ofChange s) apart (w.forCall tape i).memory i.args) ∧ a.holds C.prog (lone (Frame.enter C.prog f i.args .normal) [] (w.forCall tape i)))
    (contract : ∀ (W : World) (base : Nat) (args : Array Value) (ds gs : List (DataW H)) (before : List MemPlace),
      (∀ (j : Nat) t v, fn.params[j]? = some t → args[j]? = some v → Value.okWide C.prog W .any base t v) →
      DataW.Whole enc C.prog fn.params.toList s.vars apart W args.toList ds gs before →
      conds.all (PathCond.test C.prog ⟨fn.params.toList, ds, s.plain.varTypes C.prog, gs⟩) = true →
      (DataW.weightsEach C.prog (fn.params.toList ++ s.plain.varTypes C.prog) (ds ++ gs)).all (· ≤ reachBytes) = true → X W args →
      W.ShapedOpen C.prog →
      Calls C.prog f args W fun e W' => ∃ v, e = .returned v ∧ s.post enc C.prog fn apart fresh handsOn again W args v W') :
    ReturnsInHanded a C os f .any (fun w args => (s.pre enc C.prog fn conds apart w args ∧ X w args) ∧ sizedMet enc C.prog fn (OpenSpec.ofChange s) apart w args) (s.post enc C.prog fn apart fresh handsOn again) := by
  refine returnsInHanded_of_calls own started noInit witness ?_
  intro w tape i _ hsh _ hok hpre hholds
  obtain ⟨_, _, _, fn', hfn', _, _, _, _, hval⟩ := hok
  have e : fn' = fn := Option.some.inj (hfn'.symm.trans hfn)
  subst e
  obtain ⟨⟨⟨ds, gs, before, hw, hc⟩, hx⟩, hz⟩ := hpre
  have hw' := DataW.Whole.of_heap (w' := w.forCall tape i) (by rfl) hw
  refine (contract (w.forCall tape i) w.heap.size i.args ds gs before hval hw' hc (hz.weights hw) (hX _ _ _ (by rfl) hx) hsh).mono fun e W' ⟨v, he, hp⟩ => ?_
  subst he
  exact ChangeSpec.post_blind hp
end Go.Proofs.YtndekohimfjdeaaDoor
