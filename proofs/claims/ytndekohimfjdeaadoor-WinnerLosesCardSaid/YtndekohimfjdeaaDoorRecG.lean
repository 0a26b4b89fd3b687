/-
  Winner: what is to be done.
-/
import Derived.Test.YtndekohimfjdeaaDoorRecF
namespace Go.Proofs.YtndekohimfjdeaaDoor
open Go.RowKit Go.Shelf
theorem st_nil (l : Bl) : (st l).toList.isEmpty = decide (l = []) := by
  rw [ByteArray.toList_eq]
  cases l <;> rfl
theorem if_n {α : Type} {c : Prop} [Decidable c] {x y o : α} (h : (if c then x else y) = o) (hc : ¬c) : y = o := (if_neg hc).symm.trans h
theorem if_p {α : Type} {c : Prop} [Decidable c] {x y o : α} (h : (if c then x else y) = o) (hc : c) : x = o := (if_pos hc).symm.trans h
/-- What is to be done. -/
def doR (r q : Rcd) : Nat × Nat :=
  if r.path ≠ [] ∧ okR r ≠ 0 then (0, okR r)
  else if okR q ≠ 0 then (0, okR q)
  else if r.path = [] then (2, 0)
  else if r.path ≠ q.path then (0, 2)
  else if cmpV r.v q.v = 1 ∨ cmpV r.v q.v = 3 then (1, 0)
  else if cmpV r.v q.v = 2 then (2, 0)
  else if 0 < ordV r.v q.v then (1, 0)
  else if r.gone = false ∧ (q.gone = true ∨ sameP r.size r.len q.size q.len r.ds q.ds = false) then (3, 0)
  else (2, 0)
set_option maxRecDepth 100000 in
set_option maxHeartbeats 16000000 in
theorem do_v (r q : Rcd) (a b : RSh) (B : Nat) (w : World) (he : EnvM w) (hr : RReads w B r a) (hq : RReads w B q b) (hB : B ≤ w.heap.size) :
    Calls Tryd.prog 10 #[.agg #[.string (st r.path), .slice a.A a.n a.c, .int .i64 r.dev, .bool r.gone, .int .i64 r.size, .int .i64 r.len, .slice a.D a.m a.k], .agg #[.string (st q.path), .slice b.A b.n b.c, .int .i64 q.dev, .bool q.gone, .int .i64 q.size, .int .i64 q.len, .slice b.D b.m b.k]] w fun e w' => e = .returned (.tuple #[.int .i64 ((doR r q).1 : Int), .int .i64 ((doR r q).2 : Int)]) ∧ Below w.heap.size w w' := by
  have HI := Lib.hid (show (Tryd.prog.info? 27).map (·.size) = some 7 by kernel_rfl)
  have HL := Lib.hid (show (Tryd.prog.info? 25).map (·.size) = some 3 by kernel_rfl)
  have BA := Lib.hid (((Below.refl w.heap.size w).alloc (Nat.le_refl _) (.cells #[.string (st r.path), .slice a.A a.n a.c, .int .i64 r.dev, .bool r.gone, .int .i64 r.size, .int .i64 r.len, .slice a.D a.m a.k] 27)).alloc (by simp) (.cells #[.string (st q.path), .slice b.A b.n b.c, .int .i64 q.dev, .bool q.gone, .int .i64 q.size, .int .i64 q.len, .slice b.D b.m b.k] 27))
  have Y := Lib.hid (heap_alloc2_new w (.cells #[.string (st r.path), .slice a.A a.n a.c, .int .i64 r.dev, .bool r.gone, .int .i64 r.size, .int .i64 r.len, .slice a.D a.m a.k] 27) (.cells #[.string (st q.path), .slice b.A b.n b.c, .int .i64 q.dev, .bool q.gone, .int .i64 q.size, .int .i64 q.len, .slice b.D b.m b.k] 27))
  have X := Lib.hid (heap_alloc2_old w (.cells #[.string (st r.path), .slice a.A a.n a.c, .int .i64 r.dev, .bool r.gone, .int .i64 r.size, .int .i64 r.len, .slice a.D a.m a.k] 27) (.cells #[.string (st q.path), .slice b.A b.n b.c, .int .i64 q.dev, .bool q.gone, .int .i64 q.size, .int .i64 q.len, .slice b.D b.m b.k] 27))
  have HR := Lib.hid hr
  have HQ := Lib.hid hq
  have hn := hr.hn
  have hn2 := hq.hn
  have hm := hr.hm
  have HE := Lib.hid he
  have hz : w.heap.size + 2 ≤ ((w.alloc (.cells #[.string (st r.path), .slice a.A a.n a.c, .int .i64 r.dev, .bool r.gone, .int .i64 r.size, .int .i64 r.len, .slice a.D a.m a.k] 27)).alloc (.cells #[.string (st q.path), .slice b.A b.n b.c, .int .i64 q.dev, .bool q.gone, .int .i64 q.size, .int .i64 q.len, .slice b.D b.m b.k] 27)).heap.size := by simp
  obtain ⟨o, ho⟩ : ∃ o, doR r q = o := ⟨_, rfl⟩
  rw [ho]
  unfold doR at ho
  have HW := Lib.hid ho
  clear hr hq he ho
  go_enter Tryd.func10, Tryd.ntmps10
  go_upto_region 1 with fail
  generalize (w.alloc (.cells #[.string (st r.path), .slice a.A a.n a.c, .int .i64 r.dev, .bool r.gone, .int .i64 r.size, .int .i64 r.len, .slice a.D a.m a.k] 27)).alloc (.cells #[.string (st q.path), .slice b.A b.n b.c, .int .i64 q.dev, .bool q.gone, .int .i64 q.size, .int .i64 q.len, .slice b.D b.m b.k] 27) = w2 at *
  have c1 := cell_of_row _ _ 0 _ _ _ X.out
  have dp := st_nil r.path
  by_cases hp : r.path = []
  · rw [decide_eq_true hp] at dp
    replace HW := Lib.hid (if_n HW.out (fun h => h.1 hp))
    have HP := Lib.hid hp
    clear hp
    go_wp2_with (first
      | (refine wpList_load_row rfl 27 (.tmp 2) rfl w.heap.size rfl 27 _ (0, 0) _ X.out Tryd.underlying27 rfl HI.out ?_)
      | (refine wpList_load_row rfl 27 (.tmp 3) rfl (w.heap.size + 1) rfl 27 _ (0, 0) _ Y.out Tryd.underlying27 rfl HI.out ?_)
      | fail)
    refine (recCheck_v q b B w2 (HE.out.below BA.out) (HQ.out.below (BA.out.mono hB)) (by omega)).mono ?_
    rintro e w3 ⟨rfl, b3⟩
    replace X := Lib.hid ((b3.block w.heap.size (by omega)).trans X.out)
    replace Y := Lib.hid ((b3.block (w.heap.size + 1) (by omega)).trans Y.out)
    replace BA := Lib.hid (BA.out.trans (b3.mono (by omega)))
    replace hz : w.heap.size + 2 ≤ w3.heap.size := by have := b3.size; omega
    clear b3
    by_cases h1 : okR q = 0
    · have d1 : ((okR q : Int) != 0) = false := by rw [bne_eq_false_iff_eq]; omega
      obtain rfl := if_p (if_n HW.out (fun h => h h1)) HP.out
      clear h1
      go_wp2
      go_ret2
      exact ⟨rfl, BA.out⟩
    · have d1 : ((okR q : Int) != 0) = true := by rw [bne_iff_ne]; omega
      obtain rfl := if_p HW.out h1
      clear h1
      go_wp2
      go_ret2
      exact ⟨rfl, BA.out⟩
  rw [decide_eq_false hp] at dp
  have HP := Lib.hid hp
  clear hp
  go_wp2_with (first
    | (refine wpList_load_row rfl 27 (.tmp 2) rfl w.heap.size rfl 27 _ (0, 0) _ X.out Tryd.underlying27 rfl HI.out ?_)
    | (refine wpList_load_row rfl 27 (.tmp 3) rfl (w.heap.size + 1) rfl 27 _ (0, 0) _ Y.out Tryd.underlying27 rfl HI.out ?_)
    | fail)
  refine (recCheck_v r a B w2 (HE.out.below BA.out) (HR.out.below (BA.out.mono hB)) (by omega)).mono ?_
  rintro e w3 ⟨rfl, b3⟩
  clear c1
  replace X := Lib.hid ((b3.block w.heap.size (by omega)).trans X.out)
  replace Y := Lib.hid ((b3.block (w.heap.size + 1) (by omega)).trans Y.out)
  replace BA := Lib.hid (BA.out.trans (b3.mono (by omega)))
  replace hz : w.heap.size + 2 ≤ w3.heap.size := by have := b3.size; omega
  clear b3
  by_cases h0 : okR r = 0
  case neg =>
    have d1 : ((okR r : Int) != 0) = true := by rw [bne_iff_ne]; omega
    obtain rfl := if_p HW.out (And.intro HP.out h0)
    clear h0
    go_wp2
    go_ret2
    exact ⟨rfl, BA.out⟩
  replace HW := Lib.hid (if_n HW.out (fun h => h.2 h0))
  rw [h0]
  clear h0
  go_wp2_with (first
    | (refine wpList_load_row rfl 27 (.tmp 2) rfl w.heap.size rfl 27 _ (0, 0) _ X.out Tryd.underlying27 rfl HI.out ?_)
    | (refine wpList_load_row rfl 27 (.tmp 3) rfl (w.heap.size + 1) rfl 27 _ (0, 0) _ Y.out Tryd.underlying27 rfl HI.out ?_)
    | fail)
  refine (recCheck_v q b B w3 (HE.out.below BA.out) (HQ.out.below (BA.out.mono hB)) (by omega)).mono ?_
  rintro e w4 ⟨rfl, b3⟩
  replace X := Lib.hid ((b3.block w.heap.size (by omega)).trans X.out)
  replace Y := Lib.hid ((b3.block (w.heap.size + 1) (by omega)).trans Y.out)
  replace BA := Lib.hid (BA.out.trans (b3.mono (by omega)))
  replace hz : w.heap.size + 2 ≤ w4.heap.size := by have := b3.size; omega
  clear b3
  by_cases h1 : okR q = 0
  case neg =>
    have d1 : ((okR q : Int) != 0) = true := by rw [bne_iff_ne]; omega
    obtain rfl := if_p HW.out h1
    clear h1
    go_wp2
    go_ret2
    exact ⟨rfl, BA.out⟩
  replace HW := Lib.hid (if_n (if_n HW.out (fun h => h h1)) HP.out)
  rw [h1]
  clear h1
  have c1 := cell_of_row _ _ 0 _ _ _ X.out
  have c2 := cell_of_row _ _ 0 _ _ _ Y.out
  have c3 := cell_of_row _ _ 1 _ _ _ X.out
  have c4 := cell_of_row _ _ 1 _ _ _ Y.out
  have dp2 : ((st r.path).toList == (st q.path).toList) = decide (r.path = q.path) := st_beq r.path q.path
  by_cases h2 : r.path = q.path
  case neg =>
    rw [decide_eq_false h2] at dp2
    obtain rfl := if_p HW.out h2
    clear h2
    go_wp2
    go_ret2
    exact ⟨rfl, BA.out⟩
  rw [decide_eq_true h2] at dp2
  replace HW := Lib.hid (if_n HW.out (fun h => h h2))
  clear h2
  go_wp2_with fail
  refine (compare_v B a.A b.A a.n a.c b.n b.c r.v q.v w4 (Reads.below HR.out.cs (BA.out.mono hB)) (Reads.below HQ.out.cs (BA.out.mono hB)) (by omega) (by omega) (by omega) HR.out.ft HQ.out.ft).mono ?_
  rintro e w5 ⟨rfl, b3⟩
  clear c1 c2 c3 c4
  replace X := Lib.hid ((b3.block w.heap.size (by omega)).trans X.out)
  replace Y := Lib.hid ((b3.block (w.heap.size + 1) (by omega)).trans Y.out)
  replace BA := Lib.hid (BA.out.trans (b3.mono (by omega)))
  replace hz : w.heap.size + 2 ≤ w5.heap.size := by have := b3.size; omega
  clear b3
  generalize cmpV r.v q.v = cm at *
  by_cases h3 : cm = 1
  · subst h3
    obtain rfl := if_p HW.out (Or.inl rfl)
    go_wp2
    go_ret2
    exact ⟨rfl, BA.out⟩
  have d3 : (cm == 1) = false := by rw [beq_eq_false_iff_ne]; exact h3
  by_cases h4 : cm = 3
  · subst h4
    obtain rfl := if_p HW.out (Or.inr rfl)
    go_wp2
    go_ret2
    exact ⟨rfl, BA.out⟩
  have d4 : (cm == 3) = false := by rw [beq_eq_false_iff_ne]; exact h4
  by_cases h5 : cm = 2
  · subst h5
    obtain rfl := if_p (if_n HW.out (fun h => by omega)) rfl
    go_wp2
    go_ret2
    exact ⟨rfl, BA.out⟩
  have d5 : (cm == 2) = false := by rw [beq_eq_false_iff_ne]; exact h5
  replace HW := Lib.hid (if_n (if_n HW.out (fun h => h.elim h3 h4)) h5)
  clear h3 h4 h5
  go_wp2_with (first
    | (refine wpList_load_row rfl 27 (.tmp 2) rfl w.heap.size rfl 27 _ (0, 0) _ X.out Tryd.underlying27 rfl HI.out ?_)
    | (refine wpList_load_row rfl 27 (.tmp 3) rfl (w.heap.size + 1) rfl 27 _ (0, 0) _ Y.out Tryd.underlying27 rfl HI.out ?_)
    | fail)
  refine (beats_v r q a b B w5 (HR.out.below (BA.out.mono hB)) (HQ.out.below (BA.out.mono hB)) (by omega)).mono ?_
  rintro e w6 ⟨rfl, b3⟩
  replace X := Lib.hid ((b3.block w.heap.size (by omega)).trans X.out)
  replace Y := Lib.hid ((b3.block (w.heap.size + 1) (by omega)).trans Y.out)
  replace BA := Lib.hid (BA.out.trans (b3.mono (by omega)))
  replace hz : w.heap.size + 2 ≤ w6.heap.size := by have := b3.size; omega
  clear b3
  by_cases h6 : 0 < ordV r.v q.v
  · rw [decide_eq_true h6]
    obtain rfl := if_p HW.out h6
    clear h6
    go_wp2
    go_ret2
    exact ⟨rfl, BA.out⟩
  rw [decide_eq_false h6]
  replace HW := Lib.hid (if_n HW.out h6)
  clear h6
  cases hg : r.gone
  case true =>
    obtain rfl := if_n HW.out (fun h => by simp [hg] at h)
    have c1 : w6.cell? ⟨w.heap.size, 3, none⟩ = some (.bool true) := by rw [cell_of_row _ _ 3 _ _ _ X.out, ← hg]; rfl
    clear hg
    go_wp2
    go_ret2
    exact ⟨rfl, BA.out⟩
  have c1 : w6.cell? ⟨w.heap.size, 3, none⟩ = some (.bool false) := by rw [cell_of_row _ _ 3 _ _ _ X.out, ← hg]; rfl
  cases hg2 : q.gone
  case true =>
    obtain rfl := if_p HW.out (And.intro hg (Or.inl hg2))
    have c2 : w6.cell? ⟨w.heap.size + 1, 3, none⟩ = some (.bool true) := by rw [cell_of_row _ _ 3 _ _ _ Y.out, ← hg2]; rfl
    clear hg hg2
    go_wp2
    go_ret2
    exact ⟨rfl, BA.out⟩
  have c2 : w6.cell? ⟨w.heap.size + 1, 3, none⟩ = some (.bool false) := by rw [cell_of_row _ _ 3 _ _ _ Y.out, ← hg2]; rfl
  have HG := Lib.hid hg
  have HG2 := Lib.hid hg2
  clear hg hg2
  go_wp2_with (first
    | (refine wpList_load_slot rfl 25 (.tmp 54) rfl ⟨w.heap.size, 4, none⟩ rfl [.int .i64 r.size, .int .i64 r.len, .slice a.D a.m a.k] _ (rcells_at X.out (three_at rfl rfl rfl)) Tryd.underlying25 rfl HL.out ?_)
    | (refine wpList_load_slot rfl 25 (.tmp 56) rfl ⟨w.heap.size + 1, 4, none⟩ rfl [.int .i64 q.size, .int .i64 q.len, .slice b.D b.m b.k] _ (rcells_at Y.out (three_at rfl rfl rfl)) Tryd.underlying25 rfl HL.out ?_)
    | fail)
  refine (bsame_v r.size r.len q.size q.len a.D b.D a.m a.k b.m b.k B r.ds q.ds w6 (HR.out.dg.below (BA.out.mono hB)) (HQ.out.dg.below (BA.out.mono hB)) (by omega) (by omega)).mono ?_
  rintro e w7 ⟨rfl, b3⟩
  replace X := Lib.hid ((b3.block w.heap.size (by omega)).trans X.out)
  replace Y := Lib.hid ((b3.block (w.heap.size + 1) (by omega)).trans Y.out)
  replace BA := Lib.hid (BA.out.trans (b3.mono (by omega)))
  replace hz : w.heap.size + 2 ≤ w7.heap.size := by have := b3.size; omega
  clear b3
  cases hs : sameP r.size r.len q.size q.len r.ds q.ds
  · obtain rfl := if_p HW.out (And.intro HG.out (Or.inr hs))
    clear hs
    go_wp2
    go_ret2
    exact ⟨rfl, BA.out⟩
  · obtain rfl := if_n HW.out (fun h => h.2.elim (fun e => by rw [HG2.out] at e; cases e) (fun e => by rw [hs] at e; cases e))
    clear hs
    go_wp2
    go_ret2
    exact ⟨rfl, BA.out⟩
end Go.Proofs.YtndekohimfjdeaaDoor
