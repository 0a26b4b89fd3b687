/-
  Winner: WinnerLoses.
-/
import Derived.Test.YtndekohimfjdeaaDoorRecJ
import Derived.Test.YtndekohimfjdeaaDoorRecE
import Derived.Test.YtndekohimfjdeaaDoorOrdL
namespace Go.Proofs.YtndekohimfjdeaaDoor
open Go.RowKit Go.Shelf
theorem arr_at {us : List Value} : ∀ j v, us[j]? = some v → us.toArray[0 + j]? = some v := by
  intro j v h
  rw [Nat.zero_add]
  simpa using h
/-- What a record that is handed in reads as. -/
structure RIn (w : World) (B : Nat) (r : Rcd) (a : RSh) : Prop where
  cs : CReads w B a.A a.n r.v
  dg : DReads w B a.D a.m r.ds
  ft : fitV r.v
theorem RIn.below {w w' : World} {B : Nat} {r : Rcd} {a : RSh} (h : RIn w B r a) (hb : Below B w w') : RIn w' B r a := ⟨Reads.below h.cs hb, h.dg.below hb, h.ft⟩
theorem RIn.light {w : World} {B most : Nat} {r : Rcd} {a : RSh} (h : RIn w B r a) (hl : lightX most (r, a) = true) (hm : most ≤ 1000) : RReads w B r a := by
  simp only [lightX, Bool.and_eq_true, decide_eq_true_eq] at hl
  exact ⟨h.cs, h.dg, by omega, by omega, h.ft⟩
theorem reads2 {w : World} {B g : Nat} {x y : Rcd × RSh} {t : TypeId} {fr : Nat × Nat} (h : w.heap[g]? = some (.cells (rcC x ++ rcC y).toArray t fr)) (hg : g < B) : Reads w B 7 (some ⟨g, 0, none⟩) 2 ([x, y].flatMap rcC) := by
  refine ⟨rfl, fun _ => ⟨_, rfl, hg, fun j u hu => ?_⟩⟩
  rw [flat2] at hu
  exact rcells_at (o := 0) h (fun j v hv => by simpa using hv) j u hu
/-! ### What the answers are of records that may be -/
theorem okR_path {r : Rcd} (h : okR r = 0) : checkL r.path = 0 := by
  unfold okR at h
  split at h
  · rename_i h1; exact absurd h h1
  · rename_i h1; omega
theorem okR_ne {r : Rcd} (h : okR r = 0) : r.path ≠ [] := by
  intro e
  have := okR_path h
  rw [e] at this
  revert this
  decide
theorem okR_v {r : Rcd} (h : okR r = 0) : okV 0 r.v = true := by
  unfold okR at h
  split at h
  · rename_i h1; exact absurd h h1
  · split at h
    · cases h
    · rename_i h2; simpa using h2
theorem two_ok {r q : Rcd} (h : okR r = 0) (h' : okR q = 0) (hp : r.path = q.path) : twoE r q = 0 := by
  unfold twoE
  rw [if_neg (by omega), if_neg (by omega), if_pos hp]
theorem win_ok {r q : Rcd} (h : okR r = 0) (h' : okR q = 0) (hp : r.path = q.path) : winR r q = if 0 < ordV q.v r.v then (1, 0) else (0, 0) := by
  unfold winR
  rw [if_neg (by rw [two_ok h h' hp]; omega)]
theorem cmp_four (l m : List (Int × Nat)) (hl : okV 0 l = true) (hm : okV 0 m = true) : cmpV l m = 1 ∨ cmpV l m = 2 ∨ cmpV l m = 3 ∨ cmpV l m = 4 := by
  rw [cmpV, hl, hm, if_pos (by rfl)]
  unfold cmpF
  cases ltN (val l) (val m) 16 <;> cases ltN (val m) (val l) 16 <;> simp
theorem do_ok {r q : Rcd} (h : okR r = 0) (h' : okR q = 0) (hp : r.path = q.path) : ∃ d n : Nat, doR r q = (d, 0) ∧ winR r q = (n, 0) ∧
    (cmpV r.v q.v = 1 ∧ d = 1 ∨ cmpV r.v q.v = 3 ∧ d = 1 ∨ cmpV r.v q.v = 2 ∧ d = 2 ∨ cmpV r.v q.v = 4 ∧ n = 0 ∧ d = 1 ∨
      cmpV r.v q.v = 4 ∧ n = 1 ∧ d = if r.gone = false ∧ (q.gone = true ∨ sameP r.size r.len q.size q.len r.ds q.ds = false) then 3 else 2) := by
  have hne := okR_ne h
  have hd : doR r q = if cmpV r.v q.v = 1 ∨ cmpV r.v q.v = 3 then (1, 0)
      else if cmpV r.v q.v = 2 then (2, 0)
      else if 0 < ordV r.v q.v then (1, 0)
      else if r.gone = false ∧ (q.gone = true ∨ sameP r.size r.len q.size q.len r.ds q.ds = false) then (3, 0)
      else (2, 0) := by
    unfold doR
    rw [if_neg (fun x => x.2 h), if_neg (fun x => x h'), if_neg hne, if_neg (fun x => x hp)]
  rw [hd, win_ok h h' hp]
  rcases cmp_four r.v q.v (okR_v h) (okR_v h') with e | e | e | e
  · refine ⟨1, if 0 < ordV q.v r.v then 1 else 0, by rw [if_pos (.inl e)], by split <;> rfl, .inl ⟨e, rfl⟩⟩
  · refine ⟨2, if 0 < ordV q.v r.v then 1 else 0, by rw [if_neg (by omega), if_pos e], by split <;> rfl, .inr (.inr (.inl ⟨e, rfl⟩))⟩
  · refine ⟨1, if 0 < ordV q.v r.v then 1 else 0, by rw [if_pos (.inr e)], by split <;> rfl, .inr (.inl ⟨e, rfl⟩)⟩
  · rw [if_neg (by omega), if_neg (by omega)]
    have hz : ordV r.v q.v ≠ 0 := fun x => by
      have := (ord_zero (okR_v h) (okR_v h')).1 x
      omega
    have ht := ordV_turn r.v q.v
    by_cases h0 : 0 < ordV r.v q.v
    · rw [if_pos h0, if_neg (by omega)]
      exact ⟨1, 0, rfl, rfl, .inr (.inr (.inr (.inl ⟨e, rfl, rfl⟩)))⟩
    · rw [if_neg h0, if_pos (show 0 < ordV q.v r.v by omega)]
      exact ⟨_, 1, by split <;> rfl, rfl, .inr (.inr (.inr (.inr ⟨e, rfl, rfl⟩)))⟩
set_option maxRecDepth 100000 in
set_option maxHeartbeats 16000000 in
theorem loses_v (r q : Rcd) (a b : RSh) (B : Nat) (w : World) (he : EnvM w) (hr : RIn w B r a) (hq : RIn w B q b) (hB : B ≤ w.heap.size) :
    Calls Tryd.prog 3 #[.agg #[.string (st r.path), .slice a.A a.n a.c, .int .i64 r.dev, .bool r.gone, .int .i64 r.size, .int .i64 r.len, .slice a.D a.m a.k], .agg #[.string (st q.path), .slice b.A b.n b.c, .int .i64 q.dev, .bool q.gone, .int .i64 q.size, .int .i64 q.len, .slice b.D b.m b.k]] w fun e w' => e = .returned (.bool true) ∧ Below w.heap.size w w' := by
  have HI := Lib.hid (show (Tryd.prog.info? 27).map (·.size) = some 7 by kernel_rfl)
  have HL := Lib.hid (show (Tryd.prog.info? 25).map (·.size) = some 3 by kernel_rfl)
  have BA := Lib.hid (((Below.refl w.heap.size w).alloc (Nat.le_refl _) (.cells #[.string (st r.path), .slice a.A a.n a.c, .int .i64 r.dev, .bool r.gone, .int .i64 r.size, .int .i64 r.len, .slice a.D a.m a.k] 27)).alloc (by simp) (.cells #[.string (st q.path), .slice b.A b.n b.c, .int .i64 q.dev, .bool q.gone, .int .i64 q.size, .int .i64 q.len, .slice b.D b.m b.k] 27))
  have Y := Lib.hid (heap_alloc2_new w (.cells #[.string (st r.path), .slice a.A a.n a.c, .int .i64 r.dev, .bool r.gone, .int .i64 r.size, .int .i64 r.len, .slice a.D a.m a.k] 27) (.cells #[.string (st q.path), .slice b.A b.n b.c, .int .i64 q.dev, .bool q.gone, .int .i64 q.size, .int .i64 q.len, .slice b.D b.m b.k] 27))
  have X := Lib.hid (heap_alloc2_old w (.cells #[.string (st r.path), .slice a.A a.n a.c, .int .i64 r.dev, .bool r.gone, .int .i64 r.size, .int .i64 r.len, .slice a.D a.m a.k] 27) (.cells #[.string (st q.path), .slice b.A b.n b.c, .int .i64 q.dev, .bool q.gone, .int .i64 q.size, .int .i64 q.len, .slice b.D b.m b.k] 27))
  have HR := Lib.hid hr
  have HQ := Lib.hid hq
  have HE := Lib.hid he
  have hz : w.heap.size + 2 ≤ ((w.alloc (.cells #[.string (st r.path), .slice a.A a.n a.c, .int .i64 r.dev, .bool r.gone, .int .i64 r.size, .int .i64 r.len, .slice a.D a.m a.k] 27)).alloc (.cells #[.string (st q.path), .slice b.A b.n b.c, .int .i64 q.dev, .bool q.gone, .int .i64 q.size, .int .i64 q.len, .slice b.D b.m b.k] 27)).heap.size := by simp
  clear hr hq he
  go_enter Tryd.func3, Tryd.ntmps3
  go_upto_region 1 with fail
  generalize (w.alloc (.cells #[.string (st r.path), .slice a.A a.n a.c, .int .i64 r.dev, .bool r.gone, .int .i64 r.size, .int .i64 r.len, .slice a.D a.m a.k] 27)).alloc (.cells #[.string (st q.path), .slice b.A b.n b.c, .int .i64 q.dev, .bool q.gone, .int .i64 q.size, .int .i64 q.len, .slice b.D b.m b.k] 27) = w2 at *
  go_wp2_with fail
  refine (lives_v w2 (HE.out.below BA.out)).mono ?_
  rintro e w3 ⟨rfl, b3⟩
  replace X := Lib.hid ((b3.block w.heap.size (by omega)).trans X.out)
  replace Y := Lib.hid ((b3.block (w.heap.size + 1) (by omega)).trans Y.out)
  replace BA := Lib.hid (BA.out.trans (b3.mono (by omega)))
  replace hz : w.heap.size + 2 ≤ w3.heap.size := by have := b3.size; omega
  clear b3
  have R4 := Lib.hid (reads2 (x := (r, a)) (y := (q, b)) (heap_alloc_new w3 (.cells (rcC (r, a) ++ rcC (q, b)).toArray 27)) (Nat.lt_succ_self _))
  have b3 := (Below.refl w3.heap.size w3).alloc (Nat.le_refl _) (.cells (rcC (r, a) ++ rcC (q, b)).toArray 27)
  have hz4 : (w3.alloc (.cells (rcC (r, a) ++ rcC (q, b)).toArray 27)).heap.size = w3.heap.size + 1 := by simp
  go_wp2_with (first
    | (refine wpList_load_slot rfl 27 (.tmp 2) rfl ⟨w.heap.size, 0, none⟩ rfl [.string (st r.path), .slice a.A a.n a.c, .int .i64 r.dev, .bool r.gone, .int .i64 r.size, .int .i64 r.len, .slice a.D a.m a.k] _ (rcells_at X.out arr_at) Tryd.underlying27 rfl HI.out ?_)
    | (refine wpList_load_slot rfl 27 (.tmp 3) rfl ⟨w.heap.size + 1, 0, none⟩ rfl [.string (st q.path), .slice b.A b.n b.c, .int .i64 q.dev, .bool q.gone, .int .i64 q.size, .int .i64 q.len, .slice b.D b.m b.k] _ (rcells_at Y.out arr_at) Tryd.underlying27 rfl HI.out ?_)
    | fail)
  replace X := Lib.hid ((b3.block w.heap.size (by omega)).trans X.out)
  replace Y := Lib.hid ((b3.block (w.heap.size + 1) (by omega)).trans Y.out)
  replace BA := Lib.hid (BA.out.trans (b3.mono (by omega)))
  have hrw : (#[.string (st r.path), .slice a.A a.n a.c, .int .i64 r.dev, .bool r.gone, .int .i64 r.size, .int .i64 r.len, .slice a.D a.m a.k, .string (st q.path), .slice b.A b.n b.c, .int .i64 q.dev, .bool q.gone, .int .i64 q.size, .int .i64 q.len, .slice b.D b.m b.k] : Array Value) = (rcC (r, a) ++ rcC (q, b)).toArray := rfl
  rw [hrw]
  clear b3 hrw
  generalize w3.alloc (.cells (rcC (r, a) ++ rcC (q, b)).toArray 27) = w4 at *
  generalize w3.heap.size = g at *
  refine (lights_v [(r, a), (q, b)] (some ⟨g, 0, none⟩) 2 2 (g + 1) 2 100 w4 R4.out rfl (by omega) (by omega) (by omega)).mono ?_
  rintro e w5 ⟨rfl, b3⟩
  replace hz : w.heap.size + 2 ≤ w4.heap.size := by omega
  clear hz4 R4
  replace X := Lib.hid ((b3.block w.heap.size (by omega)).trans X.out)
  replace Y := Lib.hid ((b3.block (w.heap.size + 1) (by omega)).trans Y.out)
  replace BA := Lib.hid (BA.out.trans (b3.mono (by omega)))
  replace hz : w.heap.size + 2 ≤ w5.heap.size := by have := b3.size; omega
  clear b3
  cases hLL : lightsX 100 2 [(r, a), (q, b)]
  · clear hLL
    go_wp2
    go_ret
    exact ⟨by first | rfl | simp, BA.out⟩
  have hLr : lightX 100 (r, a) = true := by unfold lightsX at hLL; simp only [List.all_cons, Bool.and_eq_true] at hLL; exact hLL.2.1
  have hLq : lightX 100 (q, b) = true := by unfold lightsX at hLL; simp only [List.all_cons, Bool.and_eq_true] at hLL; exact hLL.2.2.1
  replace HR := Lib.hid (HR.out.light hLr (by omega))
  replace HQ := Lib.hid (HQ.out.light hLq (by omega))
  clear hLL hLr hLq
  go_wp2_with (first
    | (refine wpList_load_slot rfl 27 (.tmp 2) rfl ⟨w.heap.size, 0, none⟩ rfl [.string (st r.path), .slice a.A a.n a.c, .int .i64 r.dev, .bool r.gone, .int .i64 r.size, .int .i64 r.len, .slice a.D a.m a.k] _ (rcells_at X.out arr_at) Tryd.underlying27 rfl HI.out ?_)
    | (refine wpList_load_slot rfl 27 (.tmp 3) rfl ⟨w.heap.size + 1, 0, none⟩ rfl [.string (st q.path), .slice b.A b.n b.c, .int .i64 q.dev, .bool q.gone, .int .i64 q.size, .int .i64 q.len, .slice b.D b.m b.k] _ (rcells_at Y.out arr_at) Tryd.underlying27 rfl HI.out ?_)
    | fail)
  refine (rrecCheck_v r a B w5 (HR.out.below (BA.out.mono hB)) (by omega)).mono ?_
  rintro e w6 ⟨rfl, b3⟩
  replace X := Lib.hid ((b3.block w.heap.size (by omega)).trans X.out)
  replace Y := Lib.hid ((b3.block (w.heap.size + 1) (by omega)).trans Y.out)
  replace BA := Lib.hid (BA.out.trans (b3.mono (by omega)))
  replace hz : w.heap.size + 2 ≤ w6.heap.size := by have := b3.size; omega
  clear b3
  by_cases h1 : okR r = 0
  case neg =>
    have d1 : ((okR r : Int) != 0) = true := by rw [bne_iff_ne]; omega
    clear h1
    generalize okR r = x at *
    go_wp2
    go_ret
    exact ⟨by first | rfl | simp, BA.out⟩
  have H1 := Lib.hid h1
  rw [h1]
  clear h1
  go_wp2_with (first
    | (refine wpList_load_slot rfl 27 (.tmp 2) rfl ⟨w.heap.size, 0, none⟩ rfl [.string (st r.path), .slice a.A a.n a.c, .int .i64 r.dev, .bool r.gone, .int .i64 r.size, .int .i64 r.len, .slice a.D a.m a.k] _ (rcells_at X.out arr_at) Tryd.underlying27 rfl HI.out ?_)
    | (refine wpList_load_slot rfl 27 (.tmp 3) rfl ⟨w.heap.size + 1, 0, none⟩ rfl [.string (st q.path), .slice b.A b.n b.c, .int .i64 q.dev, .bool q.gone, .int .i64 q.size, .int .i64 q.len, .slice b.D b.m b.k] _ (rcells_at Y.out arr_at) Tryd.underlying27 rfl HI.out ?_)
    | fail)
  refine (rrecCheck_v q b B w6 (HQ.out.below (BA.out.mono hB)) (by omega)).mono ?_
  rintro e w7 ⟨rfl, b3⟩
  replace X := Lib.hid ((b3.block w.heap.size (by omega)).trans X.out)
  replace Y := Lib.hid ((b3.block (w.heap.size + 1) (by omega)).trans Y.out)
  replace BA := Lib.hid (BA.out.trans (b3.mono (by omega)))
  replace hz : w.heap.size + 2 ≤ w7.heap.size := by have := b3.size; omega
  clear b3
  by_cases h2 : okR q = 0
  case neg =>
    have d1 : ((okR q : Int) != 0) = true := by rw [bne_iff_ne]; omega
    clear h2
    generalize okR q = x at *
    go_wp2
    go_ret
    exact ⟨by first | rfl | simp, BA.out⟩
  have H2 := Lib.hid h2
  rw [h2]
  clear h2
  have c1 := cell_of_row _ _ 0 _ _ _ X.out
  have c2 := cell_of_row _ _ 0 _ _ _ Y.out
  have dp2 := st_beq r.path q.path
  by_cases hp : r.path = q.path
  case neg =>
    rw [decide_eq_false hp] at dp2
    clear hp
    go_wp2
    go_ret
    exact ⟨by first | rfl | simp, BA.out⟩
  rw [decide_eq_true hp] at dp2
  obtain ⟨d, n, hd, hn, hcase⟩ := do_ok H1.out H2.out hp
  have HD := Lib.hid hd
  have HN := Lib.hid hn
  have HCA := Lib.hid hcase
  clear hp hd hn hcase
  go_wp2_with (first
    | (refine wpList_load_slot rfl 27 (.tmp 2) rfl ⟨w.heap.size, 0, none⟩ rfl [.string (st r.path), .slice a.A a.n a.c, .int .i64 r.dev, .bool r.gone, .int .i64 r.size, .int .i64 r.len, .slice a.D a.m a.k] _ (rcells_at X.out arr_at) Tryd.underlying27 rfl HI.out ?_)
    | (refine wpList_load_slot rfl 27 (.tmp 3) rfl ⟨w.heap.size + 1, 0, none⟩ rfl [.string (st q.path), .slice b.A b.n b.c, .int .i64 q.dev, .bool q.gone, .int .i64 q.size, .int .i64 q.len, .slice b.D b.m b.k] _ (rcells_at Y.out arr_at) Tryd.underlying27 rfl HI.out ?_)
    | fail)
  clear c1 c2
  refine (do_v r q a b B w7 (HE.out.below BA.out) (HR.out.below (BA.out.mono hB)) (HQ.out.below (BA.out.mono hB)) (by omega)).mono ?_
  rintro e w8 ⟨rfl, b3⟩
  rw [HD.out]
  replace X := Lib.hid ((b3.block w.heap.size (by omega)).trans X.out)
  replace Y := Lib.hid ((b3.block (w.heap.size + 1) (by omega)).trans Y.out)
  replace BA := Lib.hid (BA.out.trans (b3.mono (by omega)))
  replace hz : w.heap.size + 2 ≤ w8.heap.size := by have := b3.size; omega
  clear b3
  go_wp2_with (first
    | (refine wpList_load_slot rfl 27 (.tmp 2) rfl ⟨w.heap.size, 0, none⟩ rfl [.string (st r.path), .slice a.A a.n a.c, .int .i64 r.dev, .bool r.gone, .int .i64 r.size, .int .i64 r.len, .slice a.D a.m a.k] _ (rcells_at X.out arr_at) Tryd.underlying27 rfl HI.out ?_)
    | (refine wpList_load_slot rfl 27 (.tmp 3) rfl ⟨w.heap.size + 1, 0, none⟩ rfl [.string (st q.path), .slice b.A b.n b.c, .int .i64 q.dev, .bool q.gone, .int .i64 q.size, .int .i64 q.len, .slice b.D b.m b.k] _ (rcells_at Y.out arr_at) Tryd.underlying27 rfl HI.out ?_)
    | fail)
  refine (winner_v r q a b B w8 (HE.out.below BA.out) (HR.out.below (BA.out.mono hB)) (HQ.out.below (BA.out.mono hB)) (by omega)).mono ?_
  rintro e w9 ⟨rfl, b3⟩
  rw [HN.out]
  replace X := Lib.hid ((b3.block w.heap.size (by omega)).trans X.out)
  replace Y := Lib.hid ((b3.block (w.heap.size + 1) (by omega)).trans Y.out)
  replace BA := Lib.hid (BA.out.trans (b3.mono (by omega)))
  replace hz : w.heap.size + 2 ≤ w9.heap.size := by have := b3.size; omega
  clear b3
  have c1 := cell_of_row _ _ 1 _ _ _ X.out
  have c2 := cell_of_row _ _ 1 _ _ _ Y.out
  have hn1 := HR.out.hn
  have hn2 := HQ.out.hn
  have hm1 := HR.out.hm
  go_wp2_with fail
  refine (rcompare_v B a.A b.A a.n a.c b.n b.c r.v q.v w9 (Reads.below HR.out.cs (BA.out.mono hB)) (Reads.below HQ.out.cs (BA.out.mono hB)) (by omega) (by omega) (by omega) HR.out.ft HQ.out.ft).mono ?_
  rintro e w10 ⟨rfl, b3⟩
  clear c1 c2
  replace X := Lib.hid ((b3.block w.heap.size (by omega)).trans X.out)
  replace Y := Lib.hid ((b3.block (w.heap.size + 1) (by omega)).trans Y.out)
  replace BA := Lib.hid (BA.out.trans (b3.mono (by omega)))
  replace hz : w.heap.size + 2 ≤ w10.heap.size := by have := b3.size; omega
  clear b3
  dsimp only
  rcases HCA.out with ⟨e1, e2⟩ | ⟨e1, e2⟩ | ⟨e1, e2⟩ | ⟨e1, e2, e3⟩ | ⟨e1, e2, e3⟩
  · rw [e1, e2]
    clear e1 e2 HCA
    go_wp2
    go_ret
    exact ⟨by first | rfl | simp, BA.out⟩
  · rw [e1, e2]
    clear e1 e2 HCA
    go_wp2
    go_ret
    exact ⟨by first | rfl | simp, BA.out⟩
  · rw [e1, e2]
    clear e1 e2 HCA
    go_wp2
    go_ret
    exact ⟨by first | rfl | simp, BA.out⟩
  · rw [e1, e2, e3]
    clear e1 e2 e3 HCA
    go_wp2
    go_ret
    exact ⟨by first | rfl | simp, BA.out⟩
  · rw [e1, e2, e3]
    have E3 := Lib.hid e3
    clear e1 e2 e3 HCA
    cases hg : r.gone
    case true =>
      rw [if_neg (fun h => by simp at h)]
      have c1 : w10.cell? ⟨w.heap.size, 3, none⟩ = some (.bool true) := by rw [cell_of_row _ _ 3 _ _ _ X.out, ← hg]; rfl
      clear hg
      go_wp2
      go_ret
      exact ⟨by first | rfl | simp, BA.out⟩
    have c1 : w10.cell? ⟨w.heap.size, 3, none⟩ = some (.bool false) := by rw [cell_of_row _ _ 3 _ _ _ X.out, ← hg]; rfl
    cases hg2 : q.gone
    case true =>
      rw [if_pos (And.intro rfl (Or.inl rfl))]
      have c2 : w10.cell? ⟨w.heap.size + 1, 3, none⟩ = some (.bool true) := by rw [cell_of_row _ _ 3 _ _ _ Y.out, ← hg2]; rfl
      clear hg hg2
      go_wp2
      go_ret
      exact ⟨by first | rfl | simp, BA.out⟩
    have c2 : w10.cell? ⟨w.heap.size + 1, 3, none⟩ = some (.bool false) := by rw [cell_of_row _ _ 3 _ _ _ Y.out, ← hg2]; rfl
    clear hg hg2
    generalize hdd : (if false = false ∧ (false = true ∨ sameP r.size r.len q.size q.len r.ds q.ds = false) then 3 else 2) = dd
    have HDD := Lib.hid hdd
    clear hdd
    go_wp2_with (first
      | (refine wpList_load_slot rfl 25 (.tmp 68) rfl ⟨w.heap.size, 4, none⟩ rfl [.int .i64 r.size, .int .i64 r.len, .slice a.D a.m a.k] _ (rcells_at X.out (three_at rfl rfl rfl)) Tryd.underlying25 rfl HL.out ?_)
      | (refine wpList_load_slot rfl 25 (.tmp 70) rfl ⟨w.heap.size + 1, 4, none⟩ rfl [.int .i64 q.size, .int .i64 q.len, .slice b.D b.m b.k] _ (rcells_at Y.out (three_at rfl rfl rfl)) Tryd.underlying25 rfl HL.out ?_)
      | fail)
    refine (list_v r.size r.len q.size q.len a.D b.D a.m a.k b.m b.k B r.ds q.ds w10 (HR.out.dg.below (BA.out.mono hB)) (HQ.out.dg.below (BA.out.mono hB)) (by omega) (by omega)).mono ?_
    rintro e w11 ⟨rfl, b3⟩
    replace X := Lib.hid ((b3.block w.heap.size (by omega)).trans X.out)
    replace Y := Lib.hid ((b3.block (w.heap.size + 1) (by omega)).trans Y.out)
    replace BA := Lib.hid (BA.out.trans (b3.mono (by omega)))
    replace hz : w.heap.size + 2 ≤ w11.heap.size := by have := b3.size; omega
    clear b3
    cases hs : sameP r.size r.len q.size q.len r.ds q.ds
    · obtain rfl : 3 = dd := by have := HDD.out; simpa [hs] using this
      clear hs
      go_wp2
      go_ret
      exact ⟨by first | rfl | simp, BA.out⟩
    · obtain rfl : 2 = dd := by have := HDD.out; simpa [hs] using this
      clear hs
      go_wp2
      go_ret
      exact ⟨by first | rfl | simp, BA.out⟩
end Go.Proofs.YtndekohimfjdeaaDoor
