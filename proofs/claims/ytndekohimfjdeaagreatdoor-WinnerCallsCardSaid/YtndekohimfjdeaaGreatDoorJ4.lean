/-
  Winner: the order of versions; rows of records; which two may be held against each other; which of two wins.
  Winner: what is to be done.
  Records: the reference's Check.
  The order of vectors, in plain Lean.
  Winner, the reference: two, Winner, Do.
  As XTextE, where the ending operation e may wait for the read through others.
  Records: copied.
  XTextF (an operation 'e' ends what some reads lean on) walked state by state, as XTextA.
-/
import Derived.Test.YtndekohimfjdeaaGreatDoorJ1
import Derived.Test.YtndekohimfjdeaaGreatDoorJ2
import Derived.Test.YtndekohimfjdeaaGreatDoorJ3
namespace Go.Proofs.YtndekohimfjdeaaGreatDoor
open Go.RowKit Go.Shelf
theorem add_hd (g j : Nat) : (⟨g, 0, none⟩ : Addr).add j = ⟨g, j, none⟩ := by unfold Addr.add; by_cases hj : j = 0 <;> simp [hj]
/-- A record's cells. -/
def rcC (x : Rcd × RSh) : List Value := [.string (st x.1.path), .slice x.2.A x.2.n x.2.c, .int .i64 x.1.dev, .bool x.1.gone, .int .i64 x.1.size, .int .i64 x.1.len, .slice x.2.D x.2.m x.2.k]
theorem rcC_len (x : Rcd × RSh) : (rcC x).length = 7 := rfl
theorem rcC_arr (x : Rcd × RSh) : (rcC x).toArray = #[.string (st x.1.path), .slice x.2.A x.2.n x.2.c, .int .i64 x.1.dev, .bool x.1.gone, .int .i64 x.1.size, .int .i64 x.1.len, .slice x.2.D x.2.m x.2.k] := rfl
/-- A slice of records reads as these. -/
structure RRows (w : World) (B : Nat) (A : Option Addr) (n : Nat) (l : List (Rcd × RSh)) : Prop where
  rd : Reads w B 7 A n (l.flatMap rcC)
  al : ∀ x ∈ l, RReads w B x.1 x.2
section
variable {w w' : World} {B n : Nat} {A : Option Addr} {l : List (Rcd × RSh)}
theorem RRows.len (h : RRows w B A n l) : l.length = n := by
  have h1 := h.rd.1
  rw [flat_len rcC_len] at h1
  omega
theorem RRows.below (h : RRows w B A n l) (hb : Below B w w') : RRows w' B A n l := ⟨Reads.below h.rd hb, fun x hx => (h.al x hx).below hb⟩
theorem RRows.more {B' : Nat} (h : RRows w B A n l) (hb : B ≤ B') : RRows w B' A n l := ⟨Reads.more h.rd hb, fun x hx => (h.al x hx).more hb⟩
theorem RRows.at_ {k : Nat} (h : RRows w B A n l) (hk : k < n) :
    ∃ ad x, A = some ad ∧ l[k]? = some x ∧ RReads w B x.1 x.2 ∧ ∀ W, Below B w W → ∀ j u, (rcC x)[j]? = some u → W.cell? ((ad.add (k * 7)).add j) = some u := by
  have hl : k < l.length := by rw [h.len]; exact hk
  obtain ⟨ad, e, hb, hc⟩ := h.rd.2 (by omega)
  refine ⟨ad, l[k], e, List.getElem?_eq_getElem hl, h.al _ (List.getElem_mem hl), fun W hW j u hu => ?_⟩
  have hj : j < 7 := by
    have := (List.getElem?_eq_some_iff.1 hu).1
    rwa [rcC_len] at this
  rw [add_of_add]
  refine (hW.cell (p := ad.add (k * 7 + j)) (by rw [block_of_add]; exact hb)).trans (hc _ u ?_)
  rw [flat_at rcC_len l (List.getElem?_eq_getElem hl) hj]
  exact hu
end
set_option maxRecDepth 100000 in
set_option maxHeartbeats 8000000 in
theorem total_v (r q : Rcd) (a b : RSh) (B : Nat) (w : World) (hr : RReads w B r a) (hq : RReads w B q b) (hB : B ≤ w.heap.size) :
    Calls Tryz.prog 43 #[.agg #[.string (st r.path), .slice a.A a.n a.c, .int .i64 r.dev, .bool r.gone, .int .i64 r.size, .int .i64 r.len, .slice a.D a.m a.k], .agg #[.string (st q.path), .slice b.A b.n b.c, .int .i64 q.dev, .bool q.gone, .int .i64 q.size, .int .i64 q.len, .slice b.D b.m b.k]] w fun e w' => e = .returned (.int .i64 (ordV r.v q.v)) ∧ Below w.heap.size w w' := by
  have BA := Lib.hid (((Below.refl w.heap.size w).alloc (Nat.le_refl _) (.cells #[.string (st r.path), .slice a.A a.n a.c, .int .i64 r.dev, .bool r.gone, .int .i64 r.size, .int .i64 r.len, .slice a.D a.m a.k] 55)).alloc (by simp) (.cells #[.string (st q.path), .slice b.A b.n b.c, .int .i64 q.dev, .bool q.gone, .int .i64 q.size, .int .i64 q.len, .slice b.D b.m b.k] 55))
  have Y := Lib.hid (heap_alloc2_new w (.cells #[.string (st r.path), .slice a.A a.n a.c, .int .i64 r.dev, .bool r.gone, .int .i64 r.size, .int .i64 r.len, .slice a.D a.m a.k] 55) (.cells #[.string (st q.path), .slice b.A b.n b.c, .int .i64 q.dev, .bool q.gone, .int .i64 q.size, .int .i64 q.len, .slice b.D b.m b.k] 55))
  have X := Lib.hid (heap_alloc2_old w (.cells #[.string (st r.path), .slice a.A a.n a.c, .int .i64 r.dev, .bool r.gone, .int .i64 r.size, .int .i64 r.len, .slice a.D a.m a.k] 55) (.cells #[.string (st q.path), .slice b.A b.n b.c, .int .i64 q.dev, .bool q.gone, .int .i64 q.size, .int .i64 q.len, .slice b.D b.m b.k] 55))
  have hn := hr.hn
  have hm := hq.hn
  have HR := Lib.hid hr
  have HQ := Lib.hid hq
  clear hr hq
  have c1 := cell_of_row _ _ 1 _ _ _ X.out
  have c2 := cell_of_row _ _ 1 _ _ _ Y.out
  go_enter Tryz.func43, Tryz.ntmps43
  go_wp2_with fail
  have hz := BA.out.size
  refine (order_v B a.A b.A a.n a.c b.n b.c r.v q.v _ (Reads.below HR.out.cs (BA.out.mono hB)) (Reads.below HQ.out.cs (BA.out.mono hB)) (by omega) (by omega) (by omega) HR.out.ft HQ.out.ft).mono ?_
  rintro e w1 ⟨rfl, b1⟩
  have B1 := Lib.hid (BA.out.trans (b1.mono hz))
  clear b1
  go_wp2
  go_ret
  exact ⟨rfl, B1.out⟩
set_option maxRecDepth 100000 in
set_option maxHeartbeats 8000000 in
theorem beats_v (r q : Rcd) (a b : RSh) (B : Nat) (w : World) (hr : RReads w B r a) (hq : RReads w B q b) (hB : B ≤ w.heap.size) :
    Calls Tryz.prog 24 #[.agg #[.string (st r.path), .slice a.A a.n a.c, .int .i64 r.dev, .bool r.gone, .int .i64 r.size, .int .i64 r.len, .slice a.D a.m a.k], .agg #[.string (st q.path), .slice b.A b.n b.c, .int .i64 q.dev, .bool q.gone, .int .i64 q.size, .int .i64 q.len, .slice b.D b.m b.k]] w fun e w' => e = .returned (.bool (decide (0 < ordV r.v q.v))) ∧ Below w.heap.size w w' := by
  have HI := Lib.hid (show (Tryz.prog.info? 55).map (·.size) = some 7 by kernel_rfl)
  have BA := Lib.hid (((Below.refl w.heap.size w).alloc (Nat.le_refl _) (.cells #[.string (st r.path), .slice a.A a.n a.c, .int .i64 r.dev, .bool r.gone, .int .i64 r.size, .int .i64 r.len, .slice a.D a.m a.k] 55)).alloc (by simp) (.cells #[.string (st q.path), .slice b.A b.n b.c, .int .i64 q.dev, .bool q.gone, .int .i64 q.size, .int .i64 q.len, .slice b.D b.m b.k] 55))
  have Y := Lib.hid (heap_alloc2_new w (.cells #[.string (st r.path), .slice a.A a.n a.c, .int .i64 r.dev, .bool r.gone, .int .i64 r.size, .int .i64 r.len, .slice a.D a.m a.k] 55) (.cells #[.string (st q.path), .slice b.A b.n b.c, .int .i64 q.dev, .bool q.gone, .int .i64 q.size, .int .i64 q.len, .slice b.D b.m b.k] 55))
  have X := Lib.hid (heap_alloc2_old w (.cells #[.string (st r.path), .slice a.A a.n a.c, .int .i64 r.dev, .bool r.gone, .int .i64 r.size, .int .i64 r.len, .slice a.D a.m a.k] 55) (.cells #[.string (st q.path), .slice b.A b.n b.c, .int .i64 q.dev, .bool q.gone, .int .i64 q.size, .int .i64 q.len, .slice b.D b.m b.k] 55))
  have HR := Lib.hid hr
  have HQ := Lib.hid hq
  have hz : ((w.alloc (.cells #[.string (st r.path), .slice a.A a.n a.c, .int .i64 r.dev, .bool r.gone, .int .i64 r.size, .int .i64 r.len, .slice a.D a.m a.k] 55)).alloc (.cells #[.string (st q.path), .slice b.A b.n b.c, .int .i64 q.dev, .bool q.gone, .int .i64 q.size, .int .i64 q.len, .slice b.D b.m b.k] 55)).heap.size = w.heap.size + 2 := by simp
  clear hr hq
  go_enter Tryz.func24, Tryz.ntmps24
  go_upto_region 1 with fail
  generalize (w.alloc (.cells #[.string (st r.path), .slice a.A a.n a.c, .int .i64 r.dev, .bool r.gone, .int .i64 r.size, .int .i64 r.len, .slice a.D a.m a.k] 55)).alloc (.cells #[.string (st q.path), .slice b.A b.n b.c, .int .i64 q.dev, .bool q.gone, .int .i64 q.size, .int .i64 q.len, .slice b.D b.m b.k] 55) = w2 at *
  go_wp2
  have B3 := Lib.hid (BA.out.trans ((Below.refl w2.heap.size w2).alloc (Nat.le_refl _) (.cells #[.func (.func 43) #[] #[]] 71) |>.mono (by omega)))
  have Z3 := Lib.hid (heap_alloc_new w2 (.cells #[.func (.func 43) #[] #[]] 71))
  have X3 := Lib.hid ((Below.heap_alloc w2 (.cells #[.func (.func 43) #[] #[]] 71) w.heap.size (by omega)).trans X.out)
  have Y3 := Lib.hid ((Below.heap_alloc w2 (.cells #[.func (.func 43) #[] #[]] 71) (w.heap.size + 1) (by omega)).trans Y.out)
  have hz3 : (w2.alloc (.cells #[.func (.func 43) #[] #[]] 71)).heap.size = w.heap.size + 3 := by simp [hz]
  rw [hz] at Z3
  generalize w2.alloc (.cells #[.func (.func 43) #[] #[]] 71) = w3 at *
  clear BA X Y hz
  go_loopw [10] (fun i wr => ∃ k : Nat, k ≤ 1 ∧ i = .int .i64 (k : Int) ∧ (k = 1 → ordV r.v q.v = 0) ∧ Below w3.heap.size w3 wr) (fun i _ => 1 - (intOf i).toNat)
  case atStart => exact ⟨0, by omega, rfl, fun h => by omega, Below.refl _ _⟩
  case round =>
    obtain ⟨k, hk, rfl, ho, hb⟩ := hrel
    by_cases hlt : k < 1
    · obtain rfl : k = 0 := by omega
      clear ho hk hlt
      have XW := Lib.hid ((hb.block w.heap.size (by omega)).trans X3.out)
      have YW := Lib.hid ((hb.block (w.heap.size + 1) (by omega)).trans Y3.out)
      have c0 : wr.cell? ⟨w.heap.size + 2, 0, none⟩ = some (.func (.func 43) #[] #[]) := by rw [cell_of_row _ _ 0 _ _ _ ((hb.block (w.heap.size + 2) (by omega)).trans Z3.out)]; rfl
      go_wp2_with (first
        | (refine wpList_load_row rfl 55 (.tmp 2) rfl w.heap.size rfl 55 _ (0, 0) _ XW.out Tryz.underlying55 rfl HI.out ?_)
        | (refine wpList_load_row rfl 55 (.tmp 3) rfl (w.heap.size + 1) rfl 55 _ (0, 0) _ YW.out Tryz.underlying55 rfl HI.out ?_)
        | fail)
      have E1 := Lib.hid (B3.out.trans (hb.mono (by omega)))
      have hzr : w.heap.size + 3 ≤ wr.heap.size := by have := hb.size; omega
      refine (total_v r q a b B wr (HR.out.below (E1.out.mono hB)) (HQ.out.below (E1.out.mono hB)) (by omega)).mono ?_
      rintro e w4 ⟨rfl, b4⟩
      have E2 := Lib.hid (hb.trans (b4.mono (by omega)))
      have E3 := Lib.hid (E1.out.trans (b4.mono (by omega)))
      clear b4 hb
      by_cases h1 : ordV r.v q.v = 0
      · have d1 : (ordV r.v q.v != 0) = false := by rw [bne_eq_false_iff_eq]; exact h1
        have HO := Lib.hid h1
        clear h1
        go_wp2
        go_roundw
        case rel => exact ⟨1, by omega, by go_num, fun _ => HO.out, E2.out⟩
        case measure => simp [intOf]
      · have d1 : (ordV r.v q.v != 0) = true := by rw [bne_iff_ne]; exact h1
        clear h1
        cases d2 : decide (0 < ordV r.v q.v)
        all_goals
          have HD := Lib.hid d2
          go_wp2
          go_ret
          first
          | exact ⟨rfl, E3.out⟩
          | exact ⟨by rw [HD.out]; rfl, E3.out⟩
    · obtain rfl : k = 1 := by omega
      have h1 := ho rfl
      have HF := Lib.hid (show decide (0 < ordV r.v q.v) = false by rw [h1]; rfl)
      have E1 := Lib.hid (B3.out.trans (hb.mono (by omega)))
      clear ho hk hlt h1 hb
      go_wp2
      go_ret
      exact ⟨by rw [HF.out]; rfl, E1.out⟩
theorem flat2 (x y : Rcd × RSh) : [x, y].flatMap rcC = rcC x ++ rcC y := by simp
theorem rows2 {w : World} {B g : Nat} {x y : Rcd × RSh} {t : TypeId} {fr : Nat × Nat} (h : w.heap[g]? = some (.cells (rcC x ++ rcC y).toArray t fr)) (hg : g < B) (hx : RReads w B x.1 x.2) (hy : RReads w B y.1 y.2) :
    RRows w B (some ⟨g, 0, none⟩) 2 [x, y] := by
  refine ⟨⟨rfl, fun _ => ⟨_, rfl, hg, fun j u hu => ?_⟩⟩, fun z hz => ?_⟩
  · rw [flat2] at hu
    exact rcells_at (o := 0) h (fun j v hv => by simpa using hv) j u hu
  · rcases List.mem_cons.1 hz with rfl | hz
    · exact hx
    · rw [List.mem_singleton.1 hz]; exact hy
theorem st_ne {p q : Bl} (h : p ≠ q) : ((st p).toList == (st q).toList) = false := by
  rw [beq_eq_false_iff_ne, ByteArray.toList_eq, ByteArray.toList_eq]
  exact h
/-- Why two may not be held against each other. -/
def twoE (r q : Rcd) : Nat := if okR r ≠ 0 then okR r else if okR q ≠ 0 then okR q else if r.path = q.path then 0 else 2
set_option maxRecDepth 100000 in
set_option maxHeartbeats 8000000 in
theorem wcheck_v (r q : Rcd) (a b : RSh) (B : Nat) (w : World) (he : EnvM w) (hr : RReads w B r a) (hq : RReads w B q b) (hB : B ≤ w.heap.size) :
    Calls Tryz.prog 23 #[.agg #[.string (st r.path), .slice a.A a.n a.c, .int .i64 r.dev, .bool r.gone, .int .i64 r.size, .int .i64 r.len, .slice a.D a.m a.k], .agg #[.string (st q.path), .slice b.A b.n b.c, .int .i64 q.dev, .bool q.gone, .int .i64 q.size, .int .i64 q.len, .slice b.D b.m b.k]] w fun e w' => e = .returned (.int .i64 (twoE r q : Int)) ∧ Below w.heap.size w w' := by
  have HI := Lib.hid (show (Tryz.prog.info? 27).map (·.size) = some 7 by kernel_rfl)
  have BA := Lib.hid (((Below.refl w.heap.size w).alloc (Nat.le_refl _) (.cells #[.string (st r.path), .slice a.A a.n a.c, .int .i64 r.dev, .bool r.gone, .int .i64 r.size, .int .i64 r.len, .slice a.D a.m a.k] 27)).alloc (by simp) (.cells #[.string (st q.path), .slice b.A b.n b.c, .int .i64 q.dev, .bool q.gone, .int .i64 q.size, .int .i64 q.len, .slice b.D b.m b.k] 27))
  have Y := Lib.hid (heap_alloc2_new w (.cells #[.string (st r.path), .slice a.A a.n a.c, .int .i64 r.dev, .bool r.gone, .int .i64 r.size, .int .i64 r.len, .slice a.D a.m a.k] 27) (.cells #[.string (st q.path), .slice b.A b.n b.c, .int .i64 q.dev, .bool q.gone, .int .i64 q.size, .int .i64 q.len, .slice b.D b.m b.k] 27))
  have X := Lib.hid (heap_alloc2_old w (.cells #[.string (st r.path), .slice a.A a.n a.c, .int .i64 r.dev, .bool r.gone, .int .i64 r.size, .int .i64 r.len, .slice a.D a.m a.k] 27) (.cells #[.string (st q.path), .slice b.A b.n b.c, .int .i64 q.dev, .bool q.gone, .int .i64 q.size, .int .i64 q.len, .slice b.D b.m b.k] 27))
  have HR := Lib.hid hr
  have HQ := Lib.hid hq
  have hz : ((w.alloc (.cells #[.string (st r.path), .slice a.A a.n a.c, .int .i64 r.dev, .bool r.gone, .int .i64 r.size, .int .i64 r.len, .slice a.D a.m a.k] 27)).alloc (.cells #[.string (st q.path), .slice b.A b.n b.c, .int .i64 q.dev, .bool q.gone, .int .i64 q.size, .int .i64 q.len, .slice b.D b.m b.k] 27)).heap.size = w.heap.size + 2 := by simp
  clear hr hq
  go_enter Tryz.func23, Tryz.ntmps23
  go_upto_region 1 with fail
  generalize (w.alloc (.cells #[.string (st r.path), .slice a.A a.n a.c, .int .i64 r.dev, .bool r.gone, .int .i64 r.size, .int .i64 r.len, .slice a.D a.m a.k] 27)).alloc (.cells #[.string (st q.path), .slice b.A b.n b.c, .int .i64 q.dev, .bool q.gone, .int .i64 q.size, .int .i64 q.len, .slice b.D b.m b.k] 27) = w2 at *
  go_wp2_with (first
    | (refine wpList_load_row rfl 27 (.tmp 2) rfl w.heap.size rfl 27 _ (0, 0) _ X.out Tryz.underlying27 rfl HI.out ?_)
    | (refine wpList_load_row rfl 27 (.tmp 3) rfl (w.heap.size + 1) rfl 27 _ (0, 0) _ Y.out Tryz.underlying27 rfl HI.out ?_)
    | fail)
  have RW := Lib.hid (rows2 (x := (r, a)) (y := (q, b)) (heap_alloc_new w2 (.cells (rcC (r, a) ++ rcC (q, b)).toArray 27)) (Nat.lt_succ_self _) ((HR.out.below (BA.out.mono hB)).below ((Below.refl w2.heap.size w2).alloc (Nat.le_refl _) (.cells (rcC (r, a) ++ rcC (q, b)).toArray 27) |>.mono (by omega)) |>.more (by omega)) ((HQ.out.below (BA.out.mono hB)).below ((Below.refl w2.heap.size w2).alloc (Nat.le_refl _) (.cells (rcC (r, a) ++ rcC (q, b)).toArray 27) |>.mono (by omega)) |>.more (by omega)))
  have B3 := Lib.hid (BA.out.trans ((Below.refl w2.heap.size w2).alloc (Nat.le_refl _) (.cells (rcC (r, a) ++ rcC (q, b)).toArray 27) |>.mono (by omega)))
  have X3 := Lib.hid ((Below.heap_alloc w2 (.cells (rcC (r, a) ++ rcC (q, b)).toArray 27) w.heap.size (by omega)).trans X.out)
  have Y3 := Lib.hid ((Below.heap_alloc w2 (.cells (rcC (r, a) ++ rcC (q, b)).toArray 27) (w.heap.size + 1) (by omega)).trans Y.out)
  have hz3 : (w2.alloc (.cells (rcC (r, a) ++ rcC (q, b)).toArray 27)).heap.size = w.heap.size + 3 := by simp [hz]
  have hrw : (#[.string (st r.path), .slice a.A a.n a.c, .int .i64 r.dev, .bool r.gone, .int .i64 r.size, .int .i64 r.len, .slice a.D a.m a.k, .string (st q.path), .slice b.A b.n b.c, .int .i64 q.dev, .bool q.gone, .int .i64 q.size, .int .i64 q.len, .slice b.D b.m b.k] : Array Value) = (rcC (r, a) ++ rcC (q, b)).toArray := rfl
  rw [hrw]
  rw [hz] at RW
  generalize w2.alloc (.cells (rcC (r, a) ++ rcC (q, b)).toArray 27) = w3 at *
  clear BA X Y hz hrw
  go_loopw [12] (fun i wr => ∃ k : Nat, k ≤ 2 ∧ i = .int .i64 (k : Int) ∧ (1 ≤ k → okR r = 0) ∧ (2 ≤ k → okR q = 0) ∧ Below w3.heap.size w3 wr) (fun i _ => 2 - (intOf i).toNat)
  case atStart => exact ⟨0, by omega, rfl, fun h => by omega, fun h => by omega, Below.refl _ _⟩
  case round =>
    obtain ⟨k, hk, rfl, h1, h2, hb⟩ := hrel
    have H1 := Lib.hid h1
    have H2 := Lib.hid h2
    clear h1 h2
    have E1 := Lib.hid (B3.out.trans (hb.mono (by omega)))
    have hzr : w.heap.size + 3 ≤ wr.heap.size := by have := hb.size; omega
    by_cases hlt : k < 2
    · obtain ⟨ad, x, hA, hx, hx2, hc⟩ := RW.out.at_ hlt
      obtain rfl := Option.some.inj hA
      have HX := Lib.hid hx
      have HX2 := Lib.hid (((hx2.below (hb.mono (by omega))).below ((Below.refl wr.heap.size wr).alloc (Nat.le_refl _) (.cells #[.string (st x.1.path), .slice x.2.A x.2.n x.2.c, .int .i64 x.1.dev, .bool x.1.gone, .int .i64 x.1.size, .int .i64 x.1.len, .slice x.2.D x.2.m x.2.k] 27) |>.mono (by omega))))
      have HC := Lib.hid (show ∀ j u, (rcC x)[j]? = some u → wr.cell? ((⟨w.heap.size + 2, k * 7, none⟩ : Addr).add j) = some u by have := hc wr (hb.mono (by omega)); rwa [add_hd] at this)
      have b1 := Lib.hid (hb.alloc hb.size (.cells #[.string (st x.1.path), .slice x.2.A x.2.n x.2.c, .int .i64 x.1.dev, .bool x.1.gone, .int .i64 x.1.size, .int .i64 x.1.len, .slice x.2.D x.2.m x.2.k] 27))
      have b0 := Lib.hid (E1.out.alloc E1.out.size (.cells #[.string (st x.1.path), .slice x.2.A x.2.n x.2.c, .int .i64 x.1.dev, .bool x.1.gone, .int .i64 x.1.size, .int .i64 x.1.len, .slice x.2.D x.2.m x.2.k] 27))
      have k0 : (0 : Int) ≤ (k : Int) := by omega
      clear hx hc hA hx2 hb
      go_wp2_with (first
        | (refine wpList_load_slot rfl 27 (.tmp 14) rfl ⟨w.heap.size + 2, k * 7, none⟩ rfl [.string (st x.1.path), .slice x.2.A x.2.n x.2.c, .int .i64 x.1.dev, .bool x.1.gone, .int .i64 x.1.size, .int .i64 x.1.len, .slice x.2.D x.2.m x.2.k] _ HC.out Tryz.underlying27 rfl HI.out ?_)
        | fail)
      refine (recCheck_v x.1 x.2 _ _ (he.below b0.out) HX2.out (by simp; omega)).mono ?_
      rintro e w4 ⟨rfl, b4⟩
      have E2 := Lib.hid (b1.out.trans (b4.mono b1.out.size))
      have E3 := Lib.hid (b0.out.trans (b4.mono b0.out.size))
      clear b4 b0 b1
      by_cases h3 : okR x.1 = 0
      · have d3 : ((okR x.1 : Int) != 0) = false := by rw [bne_eq_false_iff_eq]; omega
        have H3 := Lib.hid (show (1 ≤ k + 1 → okR r = 0) ∧ (2 ≤ k + 1 → okR q = 0) by
          have hx := HX.out
          refine ⟨fun _ => ?_, fun h => ?_⟩
          · rcases Nat.eq_zero_or_pos k with h0 | h0
            · subst h0; simp at hx; rw [← hx] at h3; exact h3
            · exact H1.out h0
          · obtain rfl : k = 1 := by omega
            simp at hx; rw [← hx] at h3; exact h3)
        clear h3
        go_wp2
        go_roundw
        case rel => exact ⟨k + 1, hlt, by go_num, H3.out.1, H3.out.2, E2.out⟩
        case measure => simp [intOf]; omega
      · have d3 : ((okR x.1 : Int) != 0) = true := by rw [bne_iff_ne]; omega
        have H3 := Lib.hid (show twoE r q = okR x.1 by
          have hx := HX.out
          unfold twoE
          rcases Nat.eq_zero_or_pos k with h0 | h0
          · subst h0; simp at hx; rw [← hx] at h3 ⊢; exact if_pos h3
          · obtain rfl : k = 1 := by omega
            simp at hx; rw [← hx] at h3 ⊢; rw [if_neg (by rw [H1.out (by omega)]; exact fun h => h rfl)]; exact if_pos h3)
        clear h3
        go_wp2
        go_ret
        exact ⟨by rw [H3.out]; rfl, E3.out⟩
    · obtain rfl : k = 2 := by omega
      have X4 := (hb.block w.heap.size (by omega)).trans X3.out
      have Y4 := (hb.block (w.heap.size + 1) (by omega)).trans Y3.out
      have c1 := cell_of_row _ _ 0 _ _ _ X4
      have c2 := cell_of_row _ _ 0 _ _ _ Y4
      have HT := Lib.hid (show twoE r q = if r.path = q.path then 0 else 2 by unfold twoE; rw [if_neg (by rw [H1.out (by omega)]; exact fun h => h rfl), if_neg (by rw [H2.out (by omega)]; exact fun h => h rfl)])
      clear X4 Y4 hb
      by_cases hp : r.path = q.path
      · rw [if_pos hp] at HT
        rw [hp] at c1
        clear hp
        go_wp2
        go_ret
        exact ⟨by rw [HT.out]; rfl, E1.out⟩
      · rw [if_neg hp] at HT
        have hs := st_ne hp
        clear hp
        go_wp2
        go_ret
        exact ⟨by rw [HT.out]; rfl, E1.out⟩
/-- Which of two wins. -/
def winR (r q : Rcd) : Nat × Nat := if twoE r q ≠ 0 then (0, twoE r q) else if 0 < ordV q.v r.v then (1, 0) else (0, 0)
set_option maxRecDepth 100000 in
set_option maxHeartbeats 8000000 in
theorem winner_v (r q : Rcd) (a b : RSh) (B : Nat) (w : World) (he : EnvM w) (hr : RReads w B r a) (hq : RReads w B q b) (hB : B ≤ w.heap.size) :
    Calls Tryz.prog 7 #[.agg #[.string (st r.path), .slice a.A a.n a.c, .int .i64 r.dev, .bool r.gone, .int .i64 r.size, .int .i64 r.len, .slice a.D a.m a.k], .agg #[.string (st q.path), .slice b.A b.n b.c, .int .i64 q.dev, .bool q.gone, .int .i64 q.size, .int .i64 q.len, .slice b.D b.m b.k]] w fun e w' => e = .returned (.tuple #[.int .i64 ((winR r q).1 : Int), .int .i64 ((winR r q).2 : Int)]) ∧ Below w.heap.size w w' := by
  have HI := Lib.hid (show (Tryz.prog.info? 27).map (·.size) = some 7 by kernel_rfl)
  have BA := Lib.hid (((Below.refl w.heap.size w).alloc (Nat.le_refl _) (.cells #[.string (st r.path), .slice a.A a.n a.c, .int .i64 r.dev, .bool r.gone, .int .i64 r.size, .int .i64 r.len, .slice a.D a.m a.k] 27)).alloc (by simp) (.cells #[.string (st q.path), .slice b.A b.n b.c, .int .i64 q.dev, .bool q.gone, .int .i64 q.size, .int .i64 q.len, .slice b.D b.m b.k] 27))
  have Y := Lib.hid (heap_alloc2_new w (.cells #[.string (st r.path), .slice a.A a.n a.c, .int .i64 r.dev, .bool r.gone, .int .i64 r.size, .int .i64 r.len, .slice a.D a.m a.k] 27) (.cells #[.string (st q.path), .slice b.A b.n b.c, .int .i64 q.dev, .bool q.gone, .int .i64 q.size, .int .i64 q.len, .slice b.D b.m b.k] 27))
  have X := Lib.hid (heap_alloc2_old w (.cells #[.string (st r.path), .slice a.A a.n a.c, .int .i64 r.dev, .bool r.gone, .int .i64 r.size, .int .i64 r.len, .slice a.D a.m a.k] 27) (.cells #[.string (st q.path), .slice b.A b.n b.c, .int .i64 q.dev, .bool q.gone, .int .i64 q.size, .int .i64 q.len, .slice b.D b.m b.k] 27))
  have HR := Lib.hid hr
  have HQ := Lib.hid hq
  have HE := Lib.hid (he.below BA.out)
  have hz : ((w.alloc (.cells #[.string (st r.path), .slice a.A a.n a.c, .int .i64 r.dev, .bool r.gone, .int .i64 r.size, .int .i64 r.len, .slice a.D a.m a.k] 27)).alloc (.cells #[.string (st q.path), .slice b.A b.n b.c, .int .i64 q.dev, .bool q.gone, .int .i64 q.size, .int .i64 q.len, .slice b.D b.m b.k] 27)).heap.size = w.heap.size + 2 := by simp
  clear hr hq
  go_enter Tryz.func7, Tryz.ntmps7
  go_upto_region 1 with fail
  generalize (w.alloc (.cells #[.string (st r.path), .slice a.A a.n a.c, .int .i64 r.dev, .bool r.gone, .int .i64 r.size, .int .i64 r.len, .slice a.D a.m a.k] 27)).alloc (.cells #[.string (st q.path), .slice b.A b.n b.c, .int .i64 q.dev, .bool q.gone, .int .i64 q.size, .int .i64 q.len, .slice b.D b.m b.k] 27) = w2 at *
  go_wp2_with (first
    | (refine wpList_load_row rfl 27 (.tmp 2) rfl w.heap.size rfl 27 _ (0, 0) _ X.out Tryz.underlying27 rfl HI.out ?_)
    | (refine wpList_load_row rfl 27 (.tmp 3) rfl (w.heap.size + 1) rfl 27 _ (0, 0) _ Y.out Tryz.underlying27 rfl HI.out ?_)
    | fail)
  refine (wcheck_v r q a b B w2 HE.out (HR.out.below (BA.out.mono hB)) (HQ.out.below (BA.out.mono hB)) (by omega)).mono ?_
  rintro e w3 ⟨rfl, b3⟩
  have B3 := Lib.hid (BA.out.trans (b3.mono (by omega)))
  have X3 := Lib.hid ((b3.block w.heap.size (by omega)).trans X.out)
  have Y3 := Lib.hid ((b3.block (w.heap.size + 1) (by omega)).trans Y.out)
  have hz3 : w.heap.size + 2 ≤ w3.heap.size := by have := b3.size; omega
  clear b3 BA X Y
  by_cases h1 : twoE r q = 0
  case neg =>
    have d1 : ((twoE r q : Int) != 0) = true := by rw [bne_iff_ne]; omega
    have HW := Lib.hid (show winR r q = (0, twoE r q) from if_pos h1)
    clear h1
    go_wp2
    go_ret2
    exact ⟨by rw [HW.out]; rfl, B3.out⟩
  have HW := Lib.hid (show winR r q = if 0 < ordV q.v r.v then (1, 0) else (0, 0) from if_neg (fun h => h h1))
  rw [h1]
  clear h1
  go_wp2_with (first
    | (refine wpList_load_row rfl 27 (.tmp 2) rfl w.heap.size rfl 27 _ (0, 0) _ X3.out Tryz.underlying27 rfl HI.out ?_)
    | (refine wpList_load_row rfl 27 (.tmp 3) rfl (w.heap.size + 1) rfl 27 _ (0, 0) _ Y3.out Tryz.underlying27 rfl HI.out ?_)
    | fail)
  refine (beats_v q r b a B w3 (HQ.out.below (B3.out.mono hB)) (HR.out.below (B3.out.mono hB)) (by omega)).mono ?_
  rintro e w4 ⟨rfl, b4⟩
  have B4 := Lib.hid (B3.out.trans (b4.mono (by omega)))
  clear b4 B3 X3 Y3
  by_cases h2 : 0 < ordV q.v r.v
  · have HV := Lib.hid (HW.out.trans (if_pos h2))
    rw [decide_eq_true h2]
    clear h2 HW
    go_wp2
    go_ret2
    exact ⟨by rw [HV.out]; rfl, B4.out⟩
  · have HV := Lib.hid (HW.out.trans (if_neg h2))
    rw [decide_eq_false h2]
    clear h2 HW
    go_wp2
    go_ret2
    exact ⟨by rw [HV.out]; rfl, B4.out⟩
end Go.Proofs.YtndekohimfjdeaaGreatDoor

namespace Go.Proofs.YtndekohimfjdeaaGreatDoor
open Go.RowKit Go.Shelf
theorem st_nil (l : Bl) : (st l).toList.isEmpty = decide (l = []) := by
  rw [ByteArray.toList_eq]
  cases l <;> rfl
theorem if_n {α : Type} {c : Prop} [Decidable c] {x y o : α} (h : (if c then x else y) = o) (hc : ¬c) : y = o := (if_neg hc).symm.trans h
theorem if_p {α : Type} {c : Prop} [Decidable c] {x y o : α} (h : (if c then x else y) = o) (hc : c) : x = o := (if_pos hc).symm.trans h
/-- What is to be done. -/
def doR (r q : Rcd) : Nat × Nat :=
  if r.path ≠ [] ∧ okR r ≠ 0 then (0, okR r)
  else if okR q ≠ 0 then (0, okR q)
  else if r.path = [] then (2, 0)
  else if r.path ≠ q.path then (0, 2)
  else if cmpV r.v q.v = 1 ∨ cmpV r.v q.v = 3 then (1, 0)
  else if cmpV r.v q.v = 2 then (2, 0)
  else if 0 < ordV r.v q.v then (1, 0)
  else if r.gone = false ∧ (q.gone = true ∨ sameP r.size r.len q.size q.len r.ds q.ds = false) then (3, 0)
  else (2, 0)
set_option maxRecDepth 100000 in
set_option maxHeartbeats 16000000 in
theorem do_v (r q : Rcd) (a b : RSh) (B : Nat) (w : World) (he : EnvM w) (hr : RReads w B r a) (hq : RReads w B q b) (hB : B ≤ w.heap.size) :
    Calls Tryz.prog 9 #[.agg #[.string (st r.path), .slice a.A a.n a.c, .int .i64 r.dev, .bool r.gone, .int .i64 r.size, .int .i64 r.len, .slice a.D a.m a.k], .agg #[.string (st q.path), .slice b.A b.n b.c, .int .i64 q.dev, .bool q.gone, .int .i64 q.size, .int .i64 q.len, .slice b.D b.m b.k]] w fun e w' => e = .returned (.tuple #[.int .i64 ((doR r q).1 : Int), .int .i64 ((doR r q).2 : Int)]) ∧ Below w.heap.size w w' := by
  have HI := Lib.hid (show (Tryz.prog.info? 27).map (·.size) = some 7 by kernel_rfl)
  have HL := Lib.hid (show (Tryz.prog.info? 25).map (·.size) = some 3 by kernel_rfl)
  have BA := Lib.hid (((Below.refl w.heap.size w).alloc (Nat.le_refl _) (.cells #[.string (st r.path), .slice a.A a.n a.c, .int .i64 r.dev, .bool r.gone, .int .i64 r.size, .int .i64 r.len, .slice a.D a.m a.k] 27)).alloc (by simp) (.cells #[.string (st q.path), .slice b.A b.n b.c, .int .i64 q.dev, .bool q.gone, .int .i64 q.size, .int .i64 q.len, .slice b.D b.m b.k] 27))
  have Y := Lib.hid (heap_alloc2_new w (.cells #[.string (st r.path), .slice a.A a.n a.c, .int .i64 r.dev, .bool r.gone, .int .i64 r.size, .int .i64 r.len, .slice a.D a.m a.k] 27) (.cells #[.string (st q.path), .slice b.A b.n b.c, .int .i64 q.dev, .bool q.gone, .int .i64 q.size, .int .i64 q.len, .slice b.D b.m b.k] 27))
  have X := Lib.hid (heap_alloc2_old w (.cells #[.string (st r.path), .slice a.A a.n a.c, .int .i64 r.dev, .bool r.gone, .int .i64 r.size, .int .i64 r.len, .slice a.D a.m a.k] 27) (.cells #[.string (st q.path), .slice b.A b.n b.c, .int .i64 q.dev, .bool q.gone, .int .i64 q.size, .int .i64 q.len, .slice b.D b.m b.k] 27))
  have HR := Lib.hid hr
  have HQ := Lib.hid hq
  have hn := hr.hn
  have hn2 := hq.hn
  have hm := hr.hm
  have HE := Lib.hid he
  have hz : w.heap.size + 2 ≤ ((w.alloc (.cells #[.string (st r.path), .slice a.A a.n a.c, .int .i64 r.dev, .bool r.gone, .int .i64 r.size, .int .i64 r.len, .slice a.D a.m a.k] 27)).alloc (.cells #[.string (st q.path), .slice b.A b.n b.c, .int .i64 q.dev, .bool q.gone, .int .i64 q.size, .int .i64 q.len, .slice b.D b.m b.k] 27)).heap.size := by simp
  obtain ⟨o, ho⟩ : ∃ o, doR r q = o := ⟨_, rfl⟩
  rw [ho]
  unfold doR at ho
  have HW := Lib.hid ho
  clear hr hq he ho
  go_enter Tryz.func9, Tryz.ntmps9
  go_upto_region 1 with fail
  generalize (w.alloc (.cells #[.string (st r.path), .slice a.A a.n a.c, .int .i64 r.dev, .bool r.gone, .int .i64 r.size, .int .i64 r.len, .slice a.D a.m a.k] 27)).alloc (.cells #[.string (st q.path), .slice b.A b.n b.c, .int .i64 q.dev, .bool q.gone, .int .i64 q.size, .int .i64 q.len, .slice b.D b.m b.k] 27) = w2 at *
  have c1 := cell_of_row _ _ 0 _ _ _ X.out
  have dp := st_nil r.path
  by_cases hp : r.path = []
  · rw [decide_eq_true hp] at dp
    replace HW := Lib.hid (if_n HW.out (fun h => h.1 hp))
    have HP := Lib.hid hp
    clear hp
    go_wp2_with (first
      | (refine wpList_load_row rfl 27 (.tmp 2) rfl w.heap.size rfl 27 _ (0, 0) _ X.out Tryz.underlying27 rfl HI.out ?_)
      | (refine wpList_load_row rfl 27 (.tmp 3) rfl (w.heap.size + 1) rfl 27 _ (0, 0) _ Y.out Tryz.underlying27 rfl HI.out ?_)
      | fail)
    refine (recCheck_v q b B w2 (HE.out.below BA.out) (HQ.out.below (BA.out.mono hB)) (by omega)).mono ?_
    rintro e w3 ⟨rfl, b3⟩
    replace X := Lib.hid ((b3.block w.heap.size (by omega)).trans X.out)
    replace Y := Lib.hid ((b3.block (w.heap.size + 1) (by omega)).trans Y.out)
    replace BA := Lib.hid (BA.out.trans (b3.mono (by omega)))
    replace hz : w.heap.size + 2 ≤ w3.heap.size := by have := b3.size; omega
    clear b3
    by_cases h1 : okR q = 0
    · have d1 : ((okR q : Int) != 0) = false := by rw [bne_eq_false_iff_eq]; omega
      obtain rfl := if_p (if_n HW.out (fun h => h h1)) HP.out
      clear h1
      go_wp2
      go_ret2
      exact ⟨rfl, BA.out⟩
    · have d1 : ((okR q : Int) != 0) = true := by rw [bne_iff_ne]; omega
      obtain rfl := if_p HW.out h1
      clear h1
      go_wp2
      go_ret2
      exact ⟨rfl, BA.out⟩
  rw [decide_eq_false hp] at dp
  have HP := Lib.hid hp
  clear hp
  go_wp2_with (first
    | (refine wpList_load_row rfl 27 (.tmp 2) rfl w.heap.size rfl 27 _ (0, 0) _ X.out Tryz.underlying27 rfl HI.out ?_)
    | (refine wpList_load_row rfl 27 (.tmp 3) rfl (w.heap.size + 1) rfl 27 _ (0, 0) _ Y.out Tryz.underlying27 rfl HI.out ?_)
    | fail)
  refine (recCheck_v r a B w2 (HE.out.below BA.out) (HR.out.below (BA.out.mono hB)) (by omega)).mono ?_
  rintro e w3 ⟨rfl, b3⟩
  clear c1
  replace X := Lib.hid ((b3.block w.heap.size (by omega)).trans X.out)
  replace Y := Lib.hid ((b3.block (w.heap.size + 1) (by omega)).trans Y.out)
  replace BA := Lib.hid (BA.out.trans (b3.mono (by omega)))
  replace hz : w.heap.size + 2 ≤ w3.heap.size := by have := b3.size; omega
  clear b3
  by_cases h0 : okR r = 0
  case neg =>
    have d1 : ((okR r : Int) != 0) = true := by rw [bne_iff_ne]; omega
    obtain rfl := if_p HW.out (And.intro HP.out h0)
    clear h0
    go_wp2
    go_ret2
    exact ⟨rfl, BA.out⟩
  replace HW := Lib.hid (if_n HW.out (fun h => h.2 h0))
  rw [h0]
  clear h0
  go_wp2_with (first
    | (refine wpList_load_row rfl 27 (.tmp 2) rfl w.heap.size rfl 27 _ (0, 0) _ X.out Tryz.underlying27 rfl HI.out ?_)
    | (refine wpList_load_row rfl 27 (.tmp 3) rfl (w.heap.size + 1) rfl 27 _ (0, 0) _ Y.out Tryz.underlying27 rfl HI.out ?_)
    | fail)
  refine (recCheck_v q b B w3 (HE.out.below BA.out) (HQ.out.below (BA.out.mono hB)) (by omega)).mono ?_
  rintro e w4 ⟨rfl, b3⟩
  replace X := Lib.hid ((b3.block w.heap.size (by omega)).trans X.out)
  replace Y := Lib.hid ((b3.block (w.heap.size + 1) (by omega)).trans Y.out)
  replace BA := Lib.hid (BA.out.trans (b3.mono (by omega)))
  replace hz : w.heap.size + 2 ≤ w4.heap.size := by have := b3.size; omega
  clear b3
  by_cases h1 : okR q = 0
  case neg =>
    have d1 : ((okR q : Int) != 0) = true := by rw [bne_iff_ne]; omega
    obtain rfl := if_p HW.out h1
    clear h1
    go_wp2
    go_ret2
    exact ⟨rfl, BA.out⟩
  replace HW := Lib.hid (if_n (if_n HW.out (fun h => h h1)) HP.out)
  rw [h1]
  clear h1
  have c1 := cell_of_row _ _ 0 _ _ _ X.out
  have c2 := cell_of_row _ _ 0 _ _ _ Y.out
  have c3 := cell_of_row _ _ 1 _ _ _ X.out
  have c4 := cell_of_row _ _ 1 _ _ _ Y.out
  have dp2 : ((st r.path).toList == (st q.path).toList) = decide (r.path = q.path) := st_beq r.path q.path
  by_cases h2 : r.path = q.path
  case neg =>
    rw [decide_eq_false h2] at dp2
    obtain rfl := if_p HW.out h2
    clear h2
    go_wp2
    go_ret2
    exact ⟨rfl, BA.out⟩
  rw [decide_eq_true h2] at dp2
  replace HW := Lib.hid (if_n HW.out (fun h => h h2))
  clear h2
  go_wp2_with fail
  refine (compare_v B a.A b.A a.n a.c b.n b.c r.v q.v w4 (Reads.below HR.out.cs (BA.out.mono hB)) (Reads.below HQ.out.cs (BA.out.mono hB)) (by omega) (by omega) (by omega) HR.out.ft HQ.out.ft).mono ?_
  rintro e w5 ⟨rfl, b3⟩
  clear c1 c2 c3 c4
  replace X := Lib.hid ((b3.block w.heap.size (by omega)).trans X.out)
  replace Y := Lib.hid ((b3.block (w.heap.size + 1) (by omega)).trans Y.out)
  replace BA := Lib.hid (BA.out.trans (b3.mono (by omega)))
  replace hz : w.heap.size + 2 ≤ w5.heap.size := by have := b3.size; omega
  clear b3
  generalize cmpV r.v q.v = cm at *
  by_cases h3 : cm = 1
  · subst h3
    obtain rfl := if_p HW.out (Or.inl rfl)
    go_wp2
    go_ret2
    exact ⟨rfl, BA.out⟩
  have d3 : (cm == 1) = false := by rw [beq_eq_false_iff_ne]; exact h3
  by_cases h4 : cm = 3
  · subst h4
    obtain rfl := if_p HW.out (Or.inr rfl)
    go_wp2
    go_ret2
    exact ⟨rfl, BA.out⟩
  have d4 : (cm == 3) = false := by rw [beq_eq_false_iff_ne]; exact h4
  by_cases h5 : cm = 2
  · subst h5
    obtain rfl := if_p (if_n HW.out (fun h => by omega)) rfl
    go_wp2
    go_ret2
    exact ⟨rfl, BA.out⟩
  have d5 : (cm == 2) = false := by rw [beq_eq_false_iff_ne]; exact h5
  replace HW := Lib.hid (if_n (if_n HW.out (fun h => h.elim h3 h4)) h5)
  clear h3 h4 h5
  go_wp2_with (first
    | (refine wpList_load_row rfl 27 (.tmp 2) rfl w.heap.size rfl 27 _ (0, 0) _ X.out Tryz.underlying27 rfl HI.out ?_)
    | (refine wpList_load_row rfl 27 (.tmp 3) rfl (w.heap.size + 1) rfl 27 _ (0, 0) _ Y.out Tryz.underlying27 rfl HI.out ?_)
    | fail)
  refine (beats_v r q a b B w5 (HR.out.below (BA.out.mono hB)) (HQ.out.below (BA.out.mono hB)) (by omega)).mono ?_
  rintro e w6 ⟨rfl, b3⟩
  replace X := Lib.hid ((b3.block w.heap.size (by omega)).trans X.out)
  replace Y := Lib.hid ((b3.block (w.heap.size + 1) (by omega)).trans Y.out)
  replace BA := Lib.hid (BA.out.trans (b3.mono (by omega)))
  replace hz : w.heap.size + 2 ≤ w6.heap.size := by have := b3.size; omega
  clear b3
  by_cases h6 : 0 < ordV r.v q.v
  · rw [decide_eq_true h6]
    obtain rfl := if_p HW.out h6
    clear h6
    go_wp2
    go_ret2
    exact ⟨rfl, BA.out⟩
  rw [decide_eq_false h6]
  replace HW := Lib.hid (if_n HW.out h6)
  clear h6
  cases hg : r.gone
  case true =>
    obtain rfl := if_n HW.out (fun h => by simp [hg] at h)
    have c1 : w6.cell? ⟨w.heap.size, 3, none⟩ = some (.bool true) := by rw [cell_of_row _ _ 3 _ _ _ X.out, ← hg]; rfl
    clear hg
    go_wp2
    go_ret2
    exact ⟨rfl, BA.out⟩
  have c1 : w6.cell? ⟨w.heap.size, 3, none⟩ = some (.bool false) := by rw [cell_of_row _ _ 3 _ _ _ X.out, ← hg]; rfl
  cases hg2 : q.gone
  case true =>
    obtain rfl := if_p HW.out (And.intro hg (Or.inl hg2))
    have c2 : w6.cell? ⟨w.heap.size + 1, 3, none⟩ = some (.bool true) := by rw [cell_of_row _ _ 3 _ _ _ Y.out, ← hg2]; rfl
    clear hg hg2
    go_wp2
    go_ret2
    exact ⟨rfl, BA.out⟩
  have c2 : w6.cell? ⟨w.heap.size + 1, 3, none⟩ = some (.bool false) := by rw [cell_of_row _ _ 3 _ _ _ Y.out, ← hg2]; rfl
  have HG := Lib.hid hg
  have HG2 := Lib.hid hg2
  clear hg hg2
  go_wp2_with (first
    | (refine wpList_load_slot rfl 25 (.tmp 54) rfl ⟨w.heap.size, 4, none⟩ rfl [.int .i64 r.size, .int .i64 r.len, .slice a.D a.m a.k] _ (rcells_at X.out (three_at rfl rfl rfl)) Tryz.underlying25 rfl HL.out ?_)
    | (refine wpList_load_slot rfl 25 (.tmp 56) rfl ⟨w.heap.size + 1, 4, none⟩ rfl [.int .i64 q.size, .int .i64 q.len, .slice b.D b.m b.k] _ (rcells_at Y.out (three_at rfl rfl rfl)) Tryz.underlying25 rfl HL.out ?_)
    | fail)
  refine (bsame_v r.size r.len q.size q.len a.D b.D a.m a.k b.m b.k B r.ds q.ds w6 (HR.out.dg.below (BA.out.mono hB)) (HQ.out.dg.below (BA.out.mono hB)) (by omega) (by omega)).mono ?_
  rintro e w7 ⟨rfl, b3⟩
  replace X := Lib.hid ((b3.block w.heap.size (by omega)).trans X.out)
  replace Y := Lib.hid ((b3.block (w.heap.size + 1) (by omega)).trans Y.out)
  replace BA := Lib.hid (BA.out.trans (b3.mono (by omega)))
  replace hz : w.heap.size + 2 ≤ w7.heap.size := by have := b3.size; omega
  clear b3
  cases hs : sameP r.size r.len q.size q.len r.ds q.ds
  · obtain rfl := if_p HW.out (And.intro HG.out (Or.inr hs))
    clear hs
    go_wp2
    go_ret2
    exact ⟨rfl, BA.out⟩
  · obtain rfl := if_n HW.out (fun h => h.2.elim (fun e => by rw [HG2.out] at e; cases e) (fun e => by rw [hs] at e; cases e))
    clear hs
    go_wp2
    go_ret2
    exact ⟨rfl, BA.out⟩
end Go.Proofs.YtndekohimfjdeaaGreatDoor

namespace Go.Proofs.YtndekohimfjdeaaGreatDoor
open Go.RowKit Go.Shelf
theorem chk_zero (l : Int) (m : Nat) : chk 0 l m ≠ 0 := by
  intro h
  have := chk_ok h
  omega
set_option maxRecDepth 100000 in
set_option maxHeartbeats 8000000 in
theorem rrecCheck_v (r : Rcd) (a : RSh) (B : Nat) (w : World) (hr : RReads w B r a) (hB : B ≤ w.heap.size) :
    Calls Tryz.prog 30 #[.agg #[.string (st r.path), .slice a.A a.n a.c, .int .i64 r.dev, .bool r.gone, .int .i64 r.size, .int .i64 r.len, .slice a.D a.m a.k]] w fun e w' => e = .returned (.int .i64 (okR r : Int)) ∧ Below w.heap.size w w' := by
  obtain ⟨p, v, dv, g, s, l, ds⟩ := r
  obtain ⟨A, n, c, D, m, k⟩ := a
  dsimp only
  have HI := Lib.hid (show (Tryz.prog.info? 25).map (·.size) = some 3 by kernel_rfl)
  have HR := Lib.hid hr
  have hn := hr.hn
  have hm := hr.hm
  have hml : ds.length = m := hr.dg.len
  dsimp only at hn hm
  clear hr
  have BA := Lib.hid ((Below.refl w.heap.size w).alloc (Nat.le_refl _) (.cells #[.string (st p), .slice A n c, .int .i64 dv, .bool g, .int .i64 s, .int .i64 l, .slice D m k] 27))
  have X1 := Lib.hid (heap_alloc_new w (.cells #[.string (st p), .slice A n c, .int .i64 dv, .bool g, .int .i64 s, .int .i64 l, .slice D m k] 27))
  have hz : (w.alloc (.cells #[.string (st p), .slice A n c, .int .i64 dv, .bool g, .int .i64 s, .int .i64 l, .slice D m k] 27)).heap.size = w.heap.size + 1 := by simp
  have HOK := Lib.hid (show okR ⟨p, v, dv, g, s, l, ds⟩ = if checkL p ≠ 0 then checkL p else if okV 0 v = false then 2 else if chk s l m = 3 then 3 else if val v dv = 0 ∨ (g = true ∧ (decide (s = 0) && decide (l = 0) && decide (m = 0)) = false) ∨ (g = false ∧ chk s l m ≠ 0) then 2 else 0 by
    rw [← hml]; rfl)
  go_enter Tryz.func30, Tryz.ntmps30
  go_wp2_with fail
  generalize w.alloc (.cells #[.string (st p), .slice A n c, .int .i64 dv, .bool g, .int .i64 s, .int .i64 l, .slice D m k] 27) = w1 at *
  refine (prcheck_v p w1).mono ?_
  rintro e w2 ⟨rfl, b2⟩
  have X2 := Lib.hid ((b2.block w.heap.size (by omega)).trans X1.out)
  have B2 := Lib.hid (BA.out.trans (b2.mono (by omega)))
  have hz2 : w.heap.size + 1 ≤ w2.heap.size := by have := b2.size; omega
  clear X1 BA b2
  by_cases h1 : checkL p = 0
  case neg =>
    have d1 : ((checkL p : Int) == 0) = false := by rw [beq_eq_false_iff_ne]; omega
    have d2 : ((checkL p : Int) != 0) = true := by rw [bne_iff_ne]; omega
    have HQ := Lib.hid (show okR ⟨p, v, dv, g, s, l, ds⟩ = checkL p by rw [HOK.out, if_pos h1])
    clear h1
    generalize checkL p = q at *
    go_wp2
    go_ret
    exact ⟨by rw [HQ.out]; rfl, B2.out⟩
  have HQ1 := Lib.hid (HOK.out.trans (if_neg (by omega)))
  clear HOK
  rw [h1]
  clear h1
  have c1 : w2.cell? ⟨w.heap.size, 1, none⟩ = some (.slice A n c) := by rw [cell_of_row _ _ 1 _ _ _ X2.out]; rfl
  go_wp2_with fail
  refine (rcheck_v B A n c v w2 (Reads.below HR.out.cs (B2.out.mono hB)) (by omega) (by omega)).mono ?_
  rintro e w3 ⟨rfl, b3⟩
  have X3 := Lib.hid ((b3.block w.heap.size (by omega)).trans X2.out)
  have B3 := Lib.hid (B2.out.trans (b3.mono (by omega)))
  have hz3 : w.heap.size + 1 ≤ w3.heap.size := by have := b3.size; omega
  clear X2 B2 b3 c1
  cases h2 : okV 0 v
  · have HQ := Lib.hid (HQ1.out.trans (if_pos h2))
    clear h2
    go_wp2
    go_ret
    exact ⟨by rw [HQ.out]; rfl, B3.out⟩
  have HQ2 := Lib.hid (HQ1.out.trans (if_neg (by rw [h2]; decide)))
  clear HQ1 h2
  go_wp2_with (first
    | (refine wpList_load_slot rfl 25 (.tmp 16) rfl ⟨w.heap.size, 4, none⟩ rfl [.int .i64 s, .int .i64 l, .slice D m k] _ (rcells_at X3.out (three_at rfl rfl rfl)) Tryz.underlying25 rfl HI.out ?_)
    | fail)
  refine (brcheck_v s l D m k w3 (by omega)).mono ?_
  rintro e w4 ⟨rfl, b4⟩
  have X4 := Lib.hid ((b4.block w.heap.size (by omega)).trans X3.out)
  have B4 := Lib.hid (B3.out.trans (b4.mono (by omega)))
  have hz4 : w.heap.size + 1 ≤ w4.heap.size := by have := b4.size; omega
  clear X3 B3 b4
  by_cases h3 : chk s l m = 3
  · have HQ := Lib.hid (HQ2.out.trans (if_pos h3))
    rw [h3]
    clear h3
    go_wp2
    go_ret
    exact ⟨by rw [HQ.out]; rfl, B4.out⟩
  have HQ3 := Lib.hid (HQ2.out.trans (if_neg h3))
  have HZ := Lib.hid (show (decide (s = 0) && decide (l = 0) && decide (m = 0)) = true → chk s l m ≠ 0 by
    intro h
    simp only [Bool.and_eq_true, decide_eq_true_eq] at h
    rw [h.1.1]
    exact chk_zero l m)
  have d3 : ((chk s l m : Int) == 3) = false := by rw [beq_eq_false_iff_ne]; omega
  have HEM := Lib.hid (bare_v s l D m k)
  obtain ⟨em, hem⟩ : ∃ em, (decide (s = 0) && decide (l = 0) && decide (m = 0)) = em := ⟨_, rfl⟩
  have HS4 := Lib.hid (show ∀ V : World, V.heap[w.heap.size]? = some (.cells #[.string (st p), .slice A n c, .int .i64 dv, .bool g, .int .i64 s, .int .i64 l, .slice D m k] 27) → V.cell? ⟨w.heap.size, 1, none⟩ = some (.slice A n c) ∧ V.cell? ⟨w.heap.size, 2, none⟩ = some (.int .i64 dv) ∧ V.cell? ⟨w.heap.size, 3, none⟩ = some (.bool g) ∧ V.heap[w.heap.size]? = some (.cells #[.string (st p), .slice A n c, .int .i64 dv, .bool g, .int .i64 s, .int .i64 l, .slice D m k] 27) from fun V h => ⟨by rw [cell_of_row _ _ 1 _ _ _ h]; rfl, by rw [cell_of_row _ _ 2 _ _ _ h]; rfl, by rw [cell_of_row _ _ 3 _ _ _ h]; rfl, h⟩)
  rw [hem] at HEM HQ3 HZ
  clear HQ2 h3 hem
  generalize chk s l m = q at *
  by_cases h4 : val v dv = 0
  · have HQ := Lib.hid (HQ3.out.trans (if_pos (.inl h4)))
    have d4 : ((val v dv : Int) == 0) = true := by rw [beq_iff_eq]; omega
    clear h4 HQ3 HZ
    go_upto_region 9 with fail
    have hS : w4.drew.cell? ⟨w.heap.size, 1, none⟩ = some (.slice A n c) ∧ w4.drew.cell? ⟨w.heap.size, 2, none⟩ = some (.int .i64 dv) ∧ w4.drew.cell? ⟨w.heap.size, 3, none⟩ = some (.bool g) ∧ w4.drew.heap[w.heap.size]? = some (.cells #[.string (st p), .slice A n c, .int .i64 dv, .bool g, .int .i64 s, .int .i64 l, .slice D m k] 27) := HS4.out _ X4.out
    refine wp_region_text [(0, false), (1, false), (2, false), (3, false), (4, true), (5, false), (6, false), (7, false), (8, false), (9, false), (10, false), (11, true), (12, false), (13, false), (14, false), (15, false), (16, false), (17, false), (18, false), (19, false), (20, false), (21, false), (22, false)] (fun V => V.cell? ⟨w.heap.size, 1, none⟩ = some (.slice A n c) ∧ V.cell? ⟨w.heap.size, 2, none⟩ = some (.int .i64 dv) ∧ V.cell? ⟨w.heap.size, 3, none⟩ = some (.bool g) ∧ V.heap[w.heap.size]? = some (.cells #[.string (st p), .slice A n c, .int .i64 dv, .bool g, .int .i64 s, .int .i64 l, .slice D m k] 27)) (by kernel_rfl) (by kernel_rfl) (by kernel_rfl) (by kernel_rfl) (by kernel_rfl) (fun _ => ?_)
    simp only [outOf, List.getElem?_cons_zero, List.getElem?_cons_succ, Option.getD_some]
    have E4 := Lib.hid B4.out.drew
    have hz5 : w.heap.size + 1 ≤ w4.drew.heap.size := hz4
    generalize w4.drew = w5 at *
    iterate 4 ((first | (refine TW.val2 (v := ?_) ?_ ?_ ?_ ?_ ?_; rotate_left; (focus rfl); (focus (intro W hSW; (try dsimp only at hSW); (try (obtain ⟨hS1, hSW⟩ := hSW)); (try (obtain ⟨hS2, hSW⟩ := hSW)); (try (obtain ⟨hS3, hSW⟩ := hSW)); (try (obtain ⟨hS4, hSW⟩ := hSW)); (try (obtain ⟨hS5, hSW⟩ := hSW)); (try (obtain ⟨hS6, hSW⟩ := hSW)); (try (obtain ⟨hS7, hSW⟩ := hSW)); (try (obtain ⟨hS8, hSW⟩ := hSW)); go_simp; (try with_reducible rfl); done)); (focus exact fun _ _ _ h => h); (focus assumption)) | (refine TW.skip (e := false) ?_ ?_ ?_ ?_; (focus rfl); (focus exact fun _ _ _ h => h); (focus assumption))); simp only [Act.put, List.setIfInBounds_toArray, List.set_cons_zero, List.set_cons_succ])
    refine TW.eff (by rfl) (fun K hK => ?_); go_simp
    refine (rvalue_v B A n c v dv w5 (Reads.below HR.out.cs (E4.out.mono hB)) (by have := E4.out.size; omega) (by omega)).mono ?_
    rintro e w6 ⟨rfl, rfl⟩
    go_wp2_with fail; refine hK.out _ _ hS ?_; clear hK; (try simp only [Act.put, List.setIfInBounds_toArray, List.set_cons_zero, List.set_cons_succ])
    generalize val v dv = x at *
    iterate 18 ((first | (refine TW.val2 (v := ?_) ?_ ?_ ?_ ?_ ?_; rotate_left; (focus rfl); (focus (intro W hSW; (try dsimp only at hSW); (try (obtain ⟨hS1, hSW⟩ := hSW)); (try (obtain ⟨hS2, hSW⟩ := hSW)); (try (obtain ⟨hS3, hSW⟩ := hSW)); (try (obtain ⟨hS4, hSW⟩ := hSW)); (try (obtain ⟨hS5, hSW⟩ := hSW)); (try (obtain ⟨hS6, hSW⟩ := hSW)); (try (obtain ⟨hS7, hSW⟩ := hSW)); (try (obtain ⟨hS8, hSW⟩ := hSW)); go_simp; (try with_reducible rfl); done)); (focus exact fun _ _ _ h => h); (focus assumption)) | (refine TW.skip (e := false) ?_ ?_ ?_ ?_; (focus rfl); (focus exact fun _ _ _ h => h); (focus assumption)) | (refine TW.skip (e := true) ?_ ?_ ?_ ?_; (focus rfl); (focus exact fun _ _ _ h => h); (focus assumption))); simp only [Act.put, List.setIfInBounds_toArray, List.set_cons_zero, List.set_cons_succ])
    refine TW.done ?_
    clear hS HS4
    go_wp2
    go_ret
    exact ⟨by rw [HQ.out]; rfl, E4.out⟩
  have d4 : ((val v dv : Int) == 0) = false := by rw [beq_eq_false_iff_ne]; omega
  cases g
  · by_cases h5 : q = 0
    · have d5 : ((q : Int) != 0) = false := by rw [bne_eq_false_iff_eq]; omega
      cases em
      · have HQ := Lib.hid (HQ3.out.trans (if_neg (by simp [h4, h5])))
        clear h4 h5 HQ3 HZ
        go_upto_region 9 with fail
        have hS : w4.drew.cell? ⟨w.heap.size, 1, none⟩ = some (.slice A n c) ∧ w4.drew.cell? ⟨w.heap.size, 2, none⟩ = some (.int .i64 dv) ∧ w4.drew.cell? ⟨w.heap.size, 3, none⟩ = some (.bool false) ∧ w4.drew.heap[w.heap.size]? = some (.cells #[.string (st p), .slice A n c, .int .i64 dv, .bool false, .int .i64 s, .int .i64 l, .slice D m k] 27) := HS4.out _ X4.out
        refine wp_region_text [(0, false), (1, false), (2, false), (3, false), (4, true), (5, false), (6, false), (7, false), (8, false), (9, false), (10, false), (11, true), (12, false), (13, false), (14, false), (15, false), (16, false), (17, false), (18, false), (19, false), (20, false), (21, false), (22, false)] (fun V => V.cell? ⟨w.heap.size, 1, none⟩ = some (.slice A n c) ∧ V.cell? ⟨w.heap.size, 2, none⟩ = some (.int .i64 dv) ∧ V.cell? ⟨w.heap.size, 3, none⟩ = some (.bool false) ∧ V.heap[w.heap.size]? = some (.cells #[.string (st p), .slice A n c, .int .i64 dv, .bool false, .int .i64 s, .int .i64 l, .slice D m k] 27)) (by kernel_rfl) (by kernel_rfl) (by kernel_rfl) (by kernel_rfl) (by kernel_rfl) (fun _ => ?_)
        simp only [outOf, List.getElem?_cons_zero, List.getElem?_cons_succ, Option.getD_some]
        have E4 := Lib.hid B4.out.drew
        have hz5 : w.heap.size + 1 ≤ w4.drew.heap.size := hz4
        generalize w4.drew = w5 at *
        iterate 4 ((first | (refine TW.val2 (v := ?_) ?_ ?_ ?_ ?_ ?_; rotate_left; (focus rfl); (focus (intro W hSW; (try dsimp only at hSW); (try (obtain ⟨hS1, hSW⟩ := hSW)); (try (obtain ⟨hS2, hSW⟩ := hSW)); (try (obtain ⟨hS3, hSW⟩ := hSW)); (try (obtain ⟨hS4, hSW⟩ := hSW)); (try (obtain ⟨hS5, hSW⟩ := hSW)); (try (obtain ⟨hS6, hSW⟩ := hSW)); (try (obtain ⟨hS7, hSW⟩ := hSW)); (try (obtain ⟨hS8, hSW⟩ := hSW)); go_simp; (try with_reducible rfl); done)); (focus exact fun _ _ _ h => h); (focus assumption)) | (refine TW.skip (e := false) ?_ ?_ ?_ ?_; (focus rfl); (focus exact fun _ _ _ h => h); (focus assumption))); simp only [Act.put, List.setIfInBounds_toArray, List.set_cons_zero, List.set_cons_succ])
        refine TW.eff (by rfl) (fun K hK => ?_); go_simp
        refine (rvalue_v B A n c v dv w5 (Reads.below HR.out.cs (E4.out.mono hB)) (by have := E4.out.size; omega) (by omega)).mono ?_
        rintro e w6 ⟨rfl, rfl⟩
        go_wp2_with fail; refine hK.out _ _ hS ?_; clear hK; (try simp only [Act.put, List.setIfInBounds_toArray, List.set_cons_zero, List.set_cons_succ])
        generalize val v dv = x at *
        iterate 5 ((first | (refine TW.val2 (v := ?_) ?_ ?_ ?_ ?_ ?_; rotate_left; (focus rfl); (focus (intro W hSW; (try dsimp only at hSW); (try (obtain ⟨hS1, hSW⟩ := hSW)); (try (obtain ⟨hS2, hSW⟩ := hSW)); (try (obtain ⟨hS3, hSW⟩ := hSW)); (try (obtain ⟨hS4, hSW⟩ := hSW)); (try (obtain ⟨hS5, hSW⟩ := hSW)); (try (obtain ⟨hS6, hSW⟩ := hSW)); (try (obtain ⟨hS7, hSW⟩ := hSW)); (try (obtain ⟨hS8, hSW⟩ := hSW)); go_simp; (try with_reducible rfl); done)); (focus exact fun _ _ _ h => h); (focus assumption)) | (refine TW.skip (e := false) ?_ ?_ ?_ ?_; (focus rfl); (focus exact fun _ _ _ h => h); (focus assumption))); simp only [Act.put, List.setIfInBounds_toArray, List.set_cons_zero, List.set_cons_succ])
        refine TW.val2 (v := .agg [.int .i64 s, .int .i64 l, .slice D m k].toArray) ?_ ?_ ?_ ?_ ?_
        (focus rfl)
        (focus exact fun V hV => exec_load_slot 25 (.tmp 30) rfl ⟨w.heap.size, 4, none⟩ rfl [.int .i64 s, .int .i64 l, .slice D m k] _ (rcells_at hV.2.2.2 (three_at rfl rfl rfl)) Tryz.underlying25 rfl HI.out)
        (focus exact fun _ _ _ h => h)
        (focus exact hS)
        simp only [Act.put, List.setIfInBounds_toArray, List.set_cons_zero, List.set_cons_succ]
        refine TW.eff (by rfl) (fun K hK => ?_); go_simp
        refine (HEM.out w5 (by omega)).mono ?_
        rintro e w6 ⟨rfl, b6⟩
        have hS2 : w6.cell? ⟨w.heap.size, 1, none⟩ = some (.slice A n c) ∧ w6.cell? ⟨w.heap.size, 2, none⟩ = some (.int .i64 dv) ∧ w6.cell? ⟨w.heap.size, 3, none⟩ = some (.bool false) ∧ w6.heap[w.heap.size]? = some (.cells #[.string (st p), .slice A n c, .int .i64 dv, .bool false, .int .i64 s, .int .i64 l, .slice D m k] 27) := HS4.out _ ((b6.block w.heap.size (by omega)).trans hS.2.2.2)
        have E6 := Lib.hid (E4.out.trans (b6.mono E4.out.size))
        clear hS b6 E4
        go_wp2_with fail; refine hK.out _ _ hS2 ?_; clear hK; (try simp only [Act.put, List.setIfInBounds_toArray, List.set_cons_zero, List.set_cons_succ])
        iterate 11 ((first | (refine TW.val2 (v := ?_) ?_ ?_ ?_ ?_ ?_; rotate_left; (focus rfl); (focus (intro W hSW; (try dsimp only at hSW); (try (obtain ⟨hS1, hSW⟩ := hSW)); (try (obtain ⟨hS2, hSW⟩ := hSW)); (try (obtain ⟨hS3, hSW⟩ := hSW)); (try (obtain ⟨hS4, hSW⟩ := hSW)); (try (obtain ⟨hS5, hSW⟩ := hSW)); (try (obtain ⟨hS6, hSW⟩ := hSW)); (try (obtain ⟨hS7, hSW⟩ := hSW)); (try (obtain ⟨hS8, hSW⟩ := hSW)); go_simp; (try with_reducible rfl); done)); (focus exact fun _ _ _ h => h); (focus assumption)) | (refine TW.skip (e := false) ?_ ?_ ?_ ?_; (focus rfl); (focus exact fun _ _ _ h => h); (focus assumption)) | (refine TW.skip (e := true) ?_ ?_ ?_ ?_; (focus rfl); (focus exact fun _ _ _ h => h); (focus assumption))); simp only [Act.put, List.setIfInBounds_toArray, List.set_cons_zero, List.set_cons_succ])
        refine TW.done ?_
        clear hS2
        go_wp2
        go_ret
        exact ⟨by rw [HQ.out]; rfl, E6.out⟩
      · exact absurd h5 (HZ.out rfl)
    · have d5 : ((q : Int) != 0) = true := by rw [bne_iff_ne]; omega
      have HQ := Lib.hid (HQ3.out.trans (if_pos (.inr (.inr ⟨rfl, h5⟩))))
      clear h4 h5 HQ3 HZ
      cases em
      ·
        go_upto_region 9 with fail
        have hS : w4.drew.cell? ⟨w.heap.size, 1, none⟩ = some (.slice A n c) ∧ w4.drew.cell? ⟨w.heap.size, 2, none⟩ = some (.int .i64 dv) ∧ w4.drew.cell? ⟨w.heap.size, 3, none⟩ = some (.bool false) ∧ w4.drew.heap[w.heap.size]? = some (.cells #[.string (st p), .slice A n c, .int .i64 dv, .bool false, .int .i64 s, .int .i64 l, .slice D m k] 27) := HS4.out _ X4.out
        refine wp_region_text [(0, false), (1, false), (2, false), (3, false), (4, true), (5, false), (6, false), (7, false), (8, false), (9, false), (10, false), (11, true), (12, false), (13, false), (14, false), (15, false), (16, false), (17, false), (18, false), (19, false), (20, false), (21, false), (22, false)] (fun V => V.cell? ⟨w.heap.size, 1, none⟩ = some (.slice A n c) ∧ V.cell? ⟨w.heap.size, 2, none⟩ = some (.int .i64 dv) ∧ V.cell? ⟨w.heap.size, 3, none⟩ = some (.bool false) ∧ V.heap[w.heap.size]? = some (.cells #[.string (st p), .slice A n c, .int .i64 dv, .bool false, .int .i64 s, .int .i64 l, .slice D m k] 27)) (by kernel_rfl) (by kernel_rfl) (by kernel_rfl) (by kernel_rfl) (by kernel_rfl) (fun _ => ?_)
        simp only [outOf, List.getElem?_cons_zero, List.getElem?_cons_succ, Option.getD_some]
        have E4 := Lib.hid B4.out.drew
        have hz5 : w.heap.size + 1 ≤ w4.drew.heap.size := hz4
        generalize w4.drew = w5 at *
        iterate 4 ((first | (refine TW.val2 (v := ?_) ?_ ?_ ?_ ?_ ?_; rotate_left; (focus rfl); (focus (intro W hSW; (try dsimp only at hSW); (try (obtain ⟨hS1, hSW⟩ := hSW)); (try (obtain ⟨hS2, hSW⟩ := hSW)); (try (obtain ⟨hS3, hSW⟩ := hSW)); (try (obtain ⟨hS4, hSW⟩ := hSW)); (try (obtain ⟨hS5, hSW⟩ := hSW)); (try (obtain ⟨hS6, hSW⟩ := hSW)); (try (obtain ⟨hS7, hSW⟩ := hSW)); (try (obtain ⟨hS8, hSW⟩ := hSW)); go_simp; (try with_reducible rfl); done)); (focus exact fun _ _ _ h => h); (focus assumption)) | (refine TW.skip (e := false) ?_ ?_ ?_ ?_; (focus rfl); (focus exact fun _ _ _ h => h); (focus assumption))); simp only [Act.put, List.setIfInBounds_toArray, List.set_cons_zero, List.set_cons_succ])
        refine TW.eff (by rfl) (fun K hK => ?_); go_simp
        refine (rvalue_v B A n c v dv w5 (Reads.below HR.out.cs (E4.out.mono hB)) (by have := E4.out.size; omega) (by omega)).mono ?_
        rintro e w6 ⟨rfl, rfl⟩
        go_wp2_with fail; refine hK.out _ _ hS ?_; clear hK; (try simp only [Act.put, List.setIfInBounds_toArray, List.set_cons_zero, List.set_cons_succ])
        generalize val v dv = x at *
        iterate 5 ((first | (refine TW.val2 (v := ?_) ?_ ?_ ?_ ?_ ?_; rotate_left; (focus rfl); (focus (intro W hSW; (try dsimp only at hSW); (try (obtain ⟨hS1, hSW⟩ := hSW)); (try (obtain ⟨hS2, hSW⟩ := hSW)); (try (obtain ⟨hS3, hSW⟩ := hSW)); (try (obtain ⟨hS4, hSW⟩ := hSW)); (try (obtain ⟨hS5, hSW⟩ := hSW)); (try (obtain ⟨hS6, hSW⟩ := hSW)); (try (obtain ⟨hS7, hSW⟩ := hSW)); (try (obtain ⟨hS8, hSW⟩ := hSW)); go_simp; (try with_reducible rfl); done)); (focus exact fun _ _ _ h => h); (focus assumption)) | (refine TW.skip (e := false) ?_ ?_ ?_ ?_; (focus rfl); (focus exact fun _ _ _ h => h); (focus assumption))); simp only [Act.put, List.setIfInBounds_toArray, List.set_cons_zero, List.set_cons_succ])
        refine TW.val2 (v := .agg [.int .i64 s, .int .i64 l, .slice D m k].toArray) ?_ ?_ ?_ ?_ ?_
        (focus rfl)
        (focus exact fun V hV => exec_load_slot 25 (.tmp 30) rfl ⟨w.heap.size, 4, none⟩ rfl [.int .i64 s, .int .i64 l, .slice D m k] _ (rcells_at hV.2.2.2 (three_at rfl rfl rfl)) Tryz.underlying25 rfl HI.out)
        (focus exact fun _ _ _ h => h)
        (focus exact hS)
        simp only [Act.put, List.setIfInBounds_toArray, List.set_cons_zero, List.set_cons_succ]
        refine TW.eff (by rfl) (fun K hK => ?_); go_simp
        refine (HEM.out w5 (by omega)).mono ?_
        rintro e w6 ⟨rfl, b6⟩
        have hS2 : w6.cell? ⟨w.heap.size, 1, none⟩ = some (.slice A n c) ∧ w6.cell? ⟨w.heap.size, 2, none⟩ = some (.int .i64 dv) ∧ w6.cell? ⟨w.heap.size, 3, none⟩ = some (.bool false) ∧ w6.heap[w.heap.size]? = some (.cells #[.string (st p), .slice A n c, .int .i64 dv, .bool false, .int .i64 s, .int .i64 l, .slice D m k] 27) := HS4.out _ ((b6.block w.heap.size (by omega)).trans hS.2.2.2)
        have E6 := Lib.hid (E4.out.trans (b6.mono E4.out.size))
        clear hS b6 E4
        go_wp2_with fail; refine hK.out _ _ hS2 ?_; clear hK; (try simp only [Act.put, List.setIfInBounds_toArray, List.set_cons_zero, List.set_cons_succ])
        iterate 11 ((first | (refine TW.val2 (v := ?_) ?_ ?_ ?_ ?_ ?_; rotate_left; (focus rfl); (focus (intro W hSW; (try dsimp only at hSW); (try (obtain ⟨hS1, hSW⟩ := hSW)); (try (obtain ⟨hS2, hSW⟩ := hSW)); (try (obtain ⟨hS3, hSW⟩ := hSW)); (try (obtain ⟨hS4, hSW⟩ := hSW)); (try (obtain ⟨hS5, hSW⟩ := hSW)); (try (obtain ⟨hS6, hSW⟩ := hSW)); (try (obtain ⟨hS7, hSW⟩ := hSW)); (try (obtain ⟨hS8, hSW⟩ := hSW)); go_simp; (try with_reducible rfl); done)); (focus exact fun _ _ _ h => h); (focus assumption)) | (refine TW.skip (e := false) ?_ ?_ ?_ ?_; (focus rfl); (focus exact fun _ _ _ h => h); (focus assumption)) | (refine TW.skip (e := true) ?_ ?_ ?_ ?_; (focus rfl); (focus exact fun _ _ _ h => h); (focus assumption))); simp only [Act.put, List.setIfInBounds_toArray, List.set_cons_zero, List.set_cons_succ])
        refine TW.done ?_
        clear hS2
        go_wp2
        go_ret
        exact ⟨by rw [HQ.out]; rfl, E6.out⟩
      ·
        go_upto_region 9 with fail
        have hS : w4.drew.cell? ⟨w.heap.size, 1, none⟩ = some (.slice A n c) ∧ w4.drew.cell? ⟨w.heap.size, 2, none⟩ = some (.int .i64 dv) ∧ w4.drew.cell? ⟨w.heap.size, 3, none⟩ = some (.bool false) ∧ w4.drew.heap[w.heap.size]? = some (.cells #[.string (st p), .slice A n c, .int .i64 dv, .bool false, .int .i64 s, .int .i64 l, .slice D m k] 27) := HS4.out _ X4.out
        refine wp_region_text [(0, false), (1, false), (2, false), (3, false), (4, true), (5, false), (6, false), (7, false), (8, false), (9, false), (10, false), (11, true), (12, false), (13, false), (14, false), (15, false), (16, false), (17, false), (18, false), (19, false), (20, false), (21, false), (22, false)] (fun V => V.cell? ⟨w.heap.size, 1, none⟩ = some (.slice A n c) ∧ V.cell? ⟨w.heap.size, 2, none⟩ = some (.int .i64 dv) ∧ V.cell? ⟨w.heap.size, 3, none⟩ = some (.bool false) ∧ V.heap[w.heap.size]? = some (.cells #[.string (st p), .slice A n c, .int .i64 dv, .bool false, .int .i64 s, .int .i64 l, .slice D m k] 27)) (by kernel_rfl) (by kernel_rfl) (by kernel_rfl) (by kernel_rfl) (by kernel_rfl) (fun _ => ?_)
        simp only [outOf, List.getElem?_cons_zero, List.getElem?_cons_succ, Option.getD_some]
        have E4 := Lib.hid B4.out.drew
        have hz5 : w.heap.size + 1 ≤ w4.drew.heap.size := hz4
        generalize w4.drew = w5 at *
        iterate 4 ((first | (refine TW.val2 (v := ?_) ?_ ?_ ?_ ?_ ?_; rotate_left; (focus rfl); (focus (intro W hSW; (try dsimp only at hSW); (try (obtain ⟨hS1, hSW⟩ := hSW)); (try (obtain ⟨hS2, hSW⟩ := hSW)); (try (obtain ⟨hS3, hSW⟩ := hSW)); (try (obtain ⟨hS4, hSW⟩ := hSW)); (try (obtain ⟨hS5, hSW⟩ := hSW)); (try (obtain ⟨hS6, hSW⟩ := hSW)); (try (obtain ⟨hS7, hSW⟩ := hSW)); (try (obtain ⟨hS8, hSW⟩ := hSW)); go_simp; (try with_reducible rfl); done)); (focus exact fun _ _ _ h => h); (focus assumption)) | (refine TW.skip (e := false) ?_ ?_ ?_ ?_; (focus rfl); (focus exact fun _ _ _ h => h); (focus assumption))); simp only [Act.put, List.setIfInBounds_toArray, List.set_cons_zero, List.set_cons_succ])
        refine TW.eff (by rfl) (fun K hK => ?_); go_simp
        refine (rvalue_v B A n c v dv w5 (Reads.below HR.out.cs (E4.out.mono hB)) (by have := E4.out.size; omega) (by omega)).mono ?_
        rintro e w6 ⟨rfl, rfl⟩
        go_wp2_with fail; refine hK.out _ _ hS ?_; clear hK; (try simp only [Act.put, List.setIfInBounds_toArray, List.set_cons_zero, List.set_cons_succ])
        generalize val v dv = x at *
        iterate 5 ((first | (refine TW.val2 (v := ?_) ?_ ?_ ?_ ?_ ?_; rotate_left; (focus rfl); (focus (intro W hSW; (try dsimp only at hSW); (try (obtain ⟨hS1, hSW⟩ := hSW)); (try (obtain ⟨hS2, hSW⟩ := hSW)); (try (obtain ⟨hS3, hSW⟩ := hSW)); (try (obtain ⟨hS4, hSW⟩ := hSW)); (try (obtain ⟨hS5, hSW⟩ := hSW)); (try (obtain ⟨hS6, hSW⟩ := hSW)); (try (obtain ⟨hS7, hSW⟩ := hSW)); (try (obtain ⟨hS8, hSW⟩ := hSW)); go_simp; (try with_reducible rfl); done)); (focus exact fun _ _ _ h => h); (focus assumption)) | (refine TW.skip (e := false) ?_ ?_ ?_ ?_; (focus rfl); (focus exact fun _ _ _ h => h); (focus assumption))); simp only [Act.put, List.setIfInBounds_toArray, List.set_cons_zero, List.set_cons_succ])
        refine TW.val2 (v := .agg [.int .i64 s, .int .i64 l, .slice D m k].toArray) ?_ ?_ ?_ ?_ ?_
        (focus rfl)
        (focus exact fun V hV => exec_load_slot 25 (.tmp 30) rfl ⟨w.heap.size, 4, none⟩ rfl [.int .i64 s, .int .i64 l, .slice D m k] _ (rcells_at hV.2.2.2 (three_at rfl rfl rfl)) Tryz.underlying25 rfl HI.out)
        (focus exact fun _ _ _ h => h)
        (focus exact hS)
        simp only [Act.put, List.setIfInBounds_toArray, List.set_cons_zero, List.set_cons_succ]
        refine TW.eff (by rfl) (fun K hK => ?_); go_simp
        refine (HEM.out w5 (by omega)).mono ?_
        rintro e w6 ⟨rfl, b6⟩
        have hS2 : w6.cell? ⟨w.heap.size, 1, none⟩ = some (.slice A n c) ∧ w6.cell? ⟨w.heap.size, 2, none⟩ = some (.int .i64 dv) ∧ w6.cell? ⟨w.heap.size, 3, none⟩ = some (.bool false) ∧ w6.heap[w.heap.size]? = some (.cells #[.string (st p), .slice A n c, .int .i64 dv, .bool false, .int .i64 s, .int .i64 l, .slice D m k] 27) := HS4.out _ ((b6.block w.heap.size (by omega)).trans hS.2.2.2)
        have E6 := Lib.hid (E4.out.trans (b6.mono E4.out.size))
        clear hS b6 E4
        go_wp2_with fail; refine hK.out _ _ hS2 ?_; clear hK; (try simp only [Act.put, List.setIfInBounds_toArray, List.set_cons_zero, List.set_cons_succ])
        iterate 11 ((first | (refine TW.val2 (v := ?_) ?_ ?_ ?_ ?_ ?_; rotate_left; (focus rfl); (focus (intro W hSW; (try dsimp only at hSW); (try (obtain ⟨hS1, hSW⟩ := hSW)); (try (obtain ⟨hS2, hSW⟩ := hSW)); (try (obtain ⟨hS3, hSW⟩ := hSW)); (try (obtain ⟨hS4, hSW⟩ := hSW)); (try (obtain ⟨hS5, hSW⟩ := hSW)); (try (obtain ⟨hS6, hSW⟩ := hSW)); (try (obtain ⟨hS7, hSW⟩ := hSW)); (try (obtain ⟨hS8, hSW⟩ := hSW)); go_simp; (try with_reducible rfl); done)); (focus exact fun _ _ _ h => h); (focus assumption)) | (refine TW.skip (e := false) ?_ ?_ ?_ ?_; (focus rfl); (focus exact fun _ _ _ h => h); (focus assumption)) | (refine TW.skip (e := true) ?_ ?_ ?_ ?_; (focus rfl); (focus exact fun _ _ _ h => h); (focus assumption))); simp only [Act.put, List.setIfInBounds_toArray, List.set_cons_zero, List.set_cons_succ])
        refine TW.done ?_
        clear hS2
        go_wp2
        go_ret
        exact ⟨by rw [HQ.out]; rfl, E6.out⟩
  · cases em
    · have HQ := Lib.hid (HQ3.out.trans (if_pos (.inr (.inl ⟨rfl, rfl⟩))))
      clear h4 HQ3 HZ
      go_upto_region 9 with fail
      have hS : w4.drew.cell? ⟨w.heap.size, 1, none⟩ = some (.slice A n c) ∧ w4.drew.cell? ⟨w.heap.size, 2, none⟩ = some (.int .i64 dv) ∧ w4.drew.cell? ⟨w.heap.size, 3, none⟩ = some (.bool true) ∧ w4.drew.heap[w.heap.size]? = some (.cells #[.string (st p), .slice A n c, .int .i64 dv, .bool true, .int .i64 s, .int .i64 l, .slice D m k] 27) := HS4.out _ X4.out
      refine wp_region_text [(0, false), (1, false), (2, false), (3, false), (4, true), (5, false), (6, false), (7, false), (8, false), (9, false), (10, false), (11, true), (12, false), (13, false), (14, false), (15, false), (16, false), (17, false), (18, false), (19, false), (20, false), (21, false), (22, false)] (fun V => V.cell? ⟨w.heap.size, 1, none⟩ = some (.slice A n c) ∧ V.cell? ⟨w.heap.size, 2, none⟩ = some (.int .i64 dv) ∧ V.cell? ⟨w.heap.size, 3, none⟩ = some (.bool true) ∧ V.heap[w.heap.size]? = some (.cells #[.string (st p), .slice A n c, .int .i64 dv, .bool true, .int .i64 s, .int .i64 l, .slice D m k] 27)) (by kernel_rfl) (by kernel_rfl) (by kernel_rfl) (by kernel_rfl) (by kernel_rfl) (fun _ => ?_)
      simp only [outOf, List.getElem?_cons_zero, List.getElem?_cons_succ, Option.getD_some]
      have E4 := Lib.hid B4.out.drew
      have hz5 : w.heap.size + 1 ≤ w4.drew.heap.size := hz4
      generalize w4.drew = w5 at *
      iterate 4 ((first | (refine TW.val2 (v := ?_) ?_ ?_ ?_ ?_ ?_; rotate_left; (focus rfl); (focus (intro W hSW; (try dsimp only at hSW); (try (obtain ⟨hS1, hSW⟩ := hSW)); (try (obtain ⟨hS2, hSW⟩ := hSW)); (try (obtain ⟨hS3, hSW⟩ := hSW)); (try (obtain ⟨hS4, hSW⟩ := hSW)); (try (obtain ⟨hS5, hSW⟩ := hSW)); (try (obtain ⟨hS6, hSW⟩ := hSW)); (try (obtain ⟨hS7, hSW⟩ := hSW)); (try (obtain ⟨hS8, hSW⟩ := hSW)); go_simp; (try with_reducible rfl); done)); (focus exact fun _ _ _ h => h); (focus assumption)) | (refine TW.skip (e := false) ?_ ?_ ?_ ?_; (focus rfl); (focus exact fun _ _ _ h => h); (focus assumption))); simp only [Act.put, List.setIfInBounds_toArray, List.set_cons_zero, List.set_cons_succ])
      refine TW.eff (by rfl) (fun K hK => ?_); go_simp
      refine (rvalue_v B A n c v dv w5 (Reads.below HR.out.cs (E4.out.mono hB)) (by have := E4.out.size; omega) (by omega)).mono ?_
      rintro e w6 ⟨rfl, rfl⟩
      go_wp2_with fail; refine hK.out _ _ hS ?_; clear hK; (try simp only [Act.put, List.setIfInBounds_toArray, List.set_cons_zero, List.set_cons_succ])
      generalize val v dv = x at *
      iterate 5 ((first | (refine TW.val2 (v := ?_) ?_ ?_ ?_ ?_ ?_; rotate_left; (focus rfl); (focus (intro W hSW; (try dsimp only at hSW); (try (obtain ⟨hS1, hSW⟩ := hSW)); (try (obtain ⟨hS2, hSW⟩ := hSW)); (try (obtain ⟨hS3, hSW⟩ := hSW)); (try (obtain ⟨hS4, hSW⟩ := hSW)); (try (obtain ⟨hS5, hSW⟩ := hSW)); (try (obtain ⟨hS6, hSW⟩ := hSW)); (try (obtain ⟨hS7, hSW⟩ := hSW)); (try (obtain ⟨hS8, hSW⟩ := hSW)); go_simp; (try with_reducible rfl); done)); (focus exact fun _ _ _ h => h); (focus assumption)) | (refine TW.skip (e := false) ?_ ?_ ?_ ?_; (focus rfl); (focus exact fun _ _ _ h => h); (focus assumption))); simp only [Act.put, List.setIfInBounds_toArray, List.set_cons_zero, List.set_cons_succ])
      refine TW.val2 (v := .agg [.int .i64 s, .int .i64 l, .slice D m k].toArray) ?_ ?_ ?_ ?_ ?_
      (focus rfl)
      (focus exact fun V hV => exec_load_slot 25 (.tmp 30) rfl ⟨w.heap.size, 4, none⟩ rfl [.int .i64 s, .int .i64 l, .slice D m k] _ (rcells_at hV.2.2.2 (three_at rfl rfl rfl)) Tryz.underlying25 rfl HI.out)
      (focus exact fun _ _ _ h => h)
      (focus exact hS)
      simp only [Act.put, List.setIfInBounds_toArray, List.set_cons_zero, List.set_cons_succ]
      refine TW.eff (by rfl) (fun K hK => ?_); go_simp
      refine (HEM.out w5 (by omega)).mono ?_
      rintro e w6 ⟨rfl, b6⟩
      have hS2 : w6.cell? ⟨w.heap.size, 1, none⟩ = some (.slice A n c) ∧ w6.cell? ⟨w.heap.size, 2, none⟩ = some (.int .i64 dv) ∧ w6.cell? ⟨w.heap.size, 3, none⟩ = some (.bool true) ∧ w6.heap[w.heap.size]? = some (.cells #[.string (st p), .slice A n c, .int .i64 dv, .bool true, .int .i64 s, .int .i64 l, .slice D m k] 27) := HS4.out _ ((b6.block w.heap.size (by omega)).trans hS.2.2.2)
      have E6 := Lib.hid (E4.out.trans (b6.mono E4.out.size))
      clear hS b6 E4
      go_wp2_with fail; refine hK.out _ _ hS2 ?_; clear hK; (try simp only [Act.put, List.setIfInBounds_toArray, List.set_cons_zero, List.set_cons_succ])
      iterate 11 ((first | (refine TW.val2 (v := ?_) ?_ ?_ ?_ ?_ ?_; rotate_left; (focus rfl); (focus (intro W hSW; (try dsimp only at hSW); (try (obtain ⟨hS1, hSW⟩ := hSW)); (try (obtain ⟨hS2, hSW⟩ := hSW)); (try (obtain ⟨hS3, hSW⟩ := hSW)); (try (obtain ⟨hS4, hSW⟩ := hSW)); (try (obtain ⟨hS5, hSW⟩ := hSW)); (try (obtain ⟨hS6, hSW⟩ := hSW)); (try (obtain ⟨hS7, hSW⟩ := hSW)); (try (obtain ⟨hS8, hSW⟩ := hSW)); go_simp; (try with_reducible rfl); done)); (focus exact fun _ _ _ h => h); (focus assumption)) | (refine TW.skip (e := false) ?_ ?_ ?_ ?_; (focus rfl); (focus exact fun _ _ _ h => h); (focus assumption)) | (refine TW.skip (e := true) ?_ ?_ ?_ ?_; (focus rfl); (focus exact fun _ _ _ h => h); (focus assumption))); simp only [Act.put, List.setIfInBounds_toArray, List.set_cons_zero, List.set_cons_succ])
      refine TW.done ?_
      clear hS2
      go_wp2
      go_ret
      exact ⟨by rw [HQ.out]; rfl, E6.out⟩
    · have HQ := Lib.hid (HQ3.out.trans (if_neg (by simp [h4])))
      clear h4 HQ3 HZ
      go_upto_region 9 with fail
      have hS : w4.drew.cell? ⟨w.heap.size, 1, none⟩ = some (.slice A n c) ∧ w4.drew.cell? ⟨w.heap.size, 2, none⟩ = some (.int .i64 dv) ∧ w4.drew.cell? ⟨w.heap.size, 3, none⟩ = some (.bool true) ∧ w4.drew.heap[w.heap.size]? = some (.cells #[.string (st p), .slice A n c, .int .i64 dv, .bool true, .int .i64 s, .int .i64 l, .slice D m k] 27) := HS4.out _ X4.out
      refine wp_region_text [(0, false), (1, false), (2, false), (3, false), (4, true), (5, false), (6, false), (7, false), (8, false), (9, false), (10, false), (11, true), (12, false), (13, false), (14, false), (15, false), (16, false), (17, false), (18, false), (19, false), (20, false), (21, false), (22, false)] (fun V => V.cell? ⟨w.heap.size, 1, none⟩ = some (.slice A n c) ∧ V.cell? ⟨w.heap.size, 2, none⟩ = some (.int .i64 dv) ∧ V.cell? ⟨w.heap.size, 3, none⟩ = some (.bool true) ∧ V.heap[w.heap.size]? = some (.cells #[.string (st p), .slice A n c, .int .i64 dv, .bool true, .int .i64 s, .int .i64 l, .slice D m k] 27)) (by kernel_rfl) (by kernel_rfl) (by kernel_rfl) (by kernel_rfl) (by kernel_rfl) (fun _ => ?_)
      simp only [outOf, List.getElem?_cons_zero, List.getElem?_cons_succ, Option.getD_some]
      have E4 := Lib.hid B4.out.drew
      have hz5 : w.heap.size + 1 ≤ w4.drew.heap.size := hz4
      generalize w4.drew = w5 at *
      iterate 4 ((first | (refine TW.val2 (v := ?_) ?_ ?_ ?_ ?_ ?_; rotate_left; (focus rfl); (focus (intro W hSW; (try dsimp only at hSW); (try (obtain ⟨hS1, hSW⟩ := hSW)); (try (obtain ⟨hS2, hSW⟩ := hSW)); (try (obtain ⟨hS3, hSW⟩ := hSW)); (try (obtain ⟨hS4, hSW⟩ := hSW)); (try (obtain ⟨hS5, hSW⟩ := hSW)); (try (obtain ⟨hS6, hSW⟩ := hSW)); (try (obtain ⟨hS7, hSW⟩ := hSW)); (try (obtain ⟨hS8, hSW⟩ := hSW)); go_simp; (try with_reducible rfl); done)); (focus exact fun _ _ _ h => h); (focus assumption)) | (refine TW.skip (e := false) ?_ ?_ ?_ ?_; (focus rfl); (focus exact fun _ _ _ h => h); (focus assumption))); simp only [Act.put, List.setIfInBounds_toArray, List.set_cons_zero, List.set_cons_succ])
      refine TW.eff (by rfl) (fun K hK => ?_); go_simp
      refine (rvalue_v B A n c v dv w5 (Reads.below HR.out.cs (E4.out.mono hB)) (by have := E4.out.size; omega) (by omega)).mono ?_
      rintro e w6 ⟨rfl, rfl⟩
      go_wp2_with fail; refine hK.out _ _ hS ?_; clear hK; (try simp only [Act.put, List.setIfInBounds_toArray, List.set_cons_zero, List.set_cons_succ])
      generalize val v dv = x at *
      iterate 5 ((first | (refine TW.val2 (v := ?_) ?_ ?_ ?_ ?_ ?_; rotate_left; (focus rfl); (focus (intro W hSW; (try dsimp only at hSW); (try (obtain ⟨hS1, hSW⟩ := hSW)); (try (obtain ⟨hS2, hSW⟩ := hSW)); (try (obtain ⟨hS3, hSW⟩ := hSW)); (try (obtain ⟨hS4, hSW⟩ := hSW)); (try (obtain ⟨hS5, hSW⟩ := hSW)); (try (obtain ⟨hS6, hSW⟩ := hSW)); (try (obtain ⟨hS7, hSW⟩ := hSW)); (try (obtain ⟨hS8, hSW⟩ := hSW)); go_simp; (try with_reducible rfl); done)); (focus exact fun _ _ _ h => h); (focus assumption)) | (refine TW.skip (e := false) ?_ ?_ ?_ ?_; (focus rfl); (focus exact fun _ _ _ h => h); (focus assumption))); simp only [Act.put, List.setIfInBounds_toArray, List.set_cons_zero, List.set_cons_succ])
      refine TW.val2 (v := .agg [.int .i64 s, .int .i64 l, .slice D m k].toArray) ?_ ?_ ?_ ?_ ?_
      (focus rfl)
      (focus exact fun V hV => exec_load_slot 25 (.tmp 30) rfl ⟨w.heap.size, 4, none⟩ rfl [.int .i64 s, .int .i64 l, .slice D m k] _ (rcells_at hV.2.2.2 (three_at rfl rfl rfl)) Tryz.underlying25 rfl HI.out)
      (focus exact fun _ _ _ h => h)
      (focus exact hS)
      simp only [Act.put, List.setIfInBounds_toArray, List.set_cons_zero, List.set_cons_succ]
      refine TW.eff (by rfl) (fun K hK => ?_); go_simp
      refine (HEM.out w5 (by omega)).mono ?_
      rintro e w6 ⟨rfl, b6⟩
      have hS2 : w6.cell? ⟨w.heap.size, 1, none⟩ = some (.slice A n c) ∧ w6.cell? ⟨w.heap.size, 2, none⟩ = some (.int .i64 dv) ∧ w6.cell? ⟨w.heap.size, 3, none⟩ = some (.bool true) ∧ w6.heap[w.heap.size]? = some (.cells #[.string (st p), .slice A n c, .int .i64 dv, .bool true, .int .i64 s, .int .i64 l, .slice D m k] 27) := HS4.out _ ((b6.block w.heap.size (by omega)).trans hS.2.2.2)
      have E6 := Lib.hid (E4.out.trans (b6.mono E4.out.size))
      clear hS b6 E4
      go_wp2_with fail; refine hK.out _ _ hS2 ?_; clear hK; (try simp only [Act.put, List.setIfInBounds_toArray, List.set_cons_zero, List.set_cons_succ])
      iterate 11 ((first | (refine TW.val2 (v := ?_) ?_ ?_ ?_ ?_ ?_; rotate_left; (focus rfl); (focus (intro W hSW; (try dsimp only at hSW); (try (obtain ⟨hS1, hSW⟩ := hSW)); (try (obtain ⟨hS2, hSW⟩ := hSW)); (try (obtain ⟨hS3, hSW⟩ := hSW)); (try (obtain ⟨hS4, hSW⟩ := hSW)); (try (obtain ⟨hS5, hSW⟩ := hSW)); (try (obtain ⟨hS6, hSW⟩ := hSW)); (try (obtain ⟨hS7, hSW⟩ := hSW)); (try (obtain ⟨hS8, hSW⟩ := hSW)); go_simp; (try with_reducible rfl); done)); (focus exact fun _ _ _ h => h); (focus assumption)) | (refine TW.skip (e := false) ?_ ?_ ?_ ?_; (focus rfl); (focus exact fun _ _ _ h => h); (focus assumption)) | (refine TW.skip (e := true) ?_ ?_ ?_ ?_; (focus rfl); (focus exact fun _ _ _ h => h); (focus assumption))); simp only [Act.put, List.setIfInBounds_toArray, List.set_cons_zero, List.set_cons_succ])
      refine TW.done ?_
      clear hS2
      go_wp2
      go_ret
      exact ⟨by rw [HQ.out]; rfl, E6.out⟩
end Go.Proofs.YtndekohimfjdeaaGreatDoor

namespace Go.Proofs.YtndekohimfjdeaaGreatDoor
open Go.RowKit
def leastV (a b : List (Int × Nat)) : Bool := decide (cmpV a b = 2 ∨ cmpV a b = 1)
def turnedV (n : Int) : Int := if n = 2 then 3 else if n = 3 then 2 else n
theorem cmpF_turn (f g : Int → Nat) : cmpF g f = turnedV (cmpF f g) := by
  unfold cmpF
  cases ltN f g 16 <;> cases ltN g f 16 <;> rfl
theorem cmp_turn (a b : List (Int × Nat)) (ha : okV 0 a = true) (hb : okV 0 b = true) : cmpV b a = turnedV (cmpV a b) := by
  rw [cmpV, cmpV, ha, hb]
  exact cmpF_turn _ _
theorem ltN_none (f g : Int → Nat) : ∀ k : Nat, ltN f g k = false → ∀ e : Int, 1 ≤ e → e ≤ k → g e ≤ f e
  | 0, _, e, h1, h2 => by omega
  | k + 1, h, e, h1, h2 => by
    rw [ltN, Bool.or_eq_false_iff] at h
    by_cases hk : e ≤ k
    · exact ltN_none f g k h.1 e h1 hk
    · have : (k : Int) + 1 = e := by omega
      have h3 := of_decide_eq_false h.2
      rw [this] at h3
      omega
theorem ltN_some (f g : Int → Nat) : ∀ k : Nat, ltN f g k = true → ∃ e : Int, 1 ≤ e ∧ e ≤ k ∧ f e < g e
  | 0, h => by cases h
  | k + 1, h => by
    rw [ltN, Bool.or_eq_true] at h
    rcases h with h | h
    · obtain ⟨e, h1, h2, h3⟩ := ltN_some f g k h
      exact ⟨e, h1, by omega, h3⟩
    · exact ⟨(k : Int) + 1, by omega, by omega, of_decide_eq_true h⟩
/-- All values are at most the other's. -/
def leF (f g : Int → Nat) : Prop := ∀ e : Int, 1 ≤ e → e ≤ 16 → f e ≤ g e
theorem least_iff (a b : List (Int × Nat)) (ha : okV 0 a = true) (hb : okV 0 b = true) : leastV a b = true ↔ leF (val a) (val b) := by
  rw [leastV, decide_eq_true_iff, cmpV, ha, hb, if_pos (by rfl)]
  constructor
  · intro h e h1 h2
    refine ltN_none (val b) (val a) 16 ?_ e h1 (by omega)
    revert h
    unfold cmpF
    cases ltN (val a) (val b) 16 <;> cases ltN (val b) (val a) 16 <;> simp
  · intro h
    have h2 := ltN_false (val b) (val a) 16 fun e h1 h2 => h e h1 (by omega)
    unfold cmpF
    rw [h2]
    cases ltN (val a) (val b) 16 <;> simp
theorem same_iff (a b : List (Int × Nat)) (ha : okV 0 a = true) (hb : okV 0 b = true) : cmpV a b = 1 ↔ a = b := by
  rw [cmpV, ha, hb, if_pos (by rfl)]
  constructor
  · intro h
    have h1 : ltN (val a) (val b) 16 = false ∧ ltN (val b) (val a) 16 = false := by
      revert h
      unfold cmpF
      cases ltN (val a) (val b) 16 <;> cases ltN (val b) (val a) 16 <;> simp
    rw [canon_V ha, canon_V hb]
    refine ofV_congr fun e h2 h3 => ?_
    have h4 := ltN_none _ _ 16 h1.1 e h2 (by omega)
    have h5 := ltN_none _ _ 16 h1.2 e h2 (by omega)
    omega
  · rintro rfl
    unfold cmpF
    rw [ltN_false (val a) (val a) 16 fun e _ _ => Nat.le_refl _]
    rfl
theorem firstD_trans (f g h : Int → Nat) : ∀ (k : Nat) (d : Int), firstD f g k d ≤ 0 → firstD g h k d ≤ 0 → firstD f h k d ≤ 0 ∧ (firstD f g k d < 0 ∨ firstD g h k d < 0 → firstD f h k d < 0)
  | 0, _, _, _ => ⟨by simp [firstD], by simp [firstD]⟩
  | k + 1, d, h1, h2 => by
    rw [firstD] at h1 h2 ⊢
    rw [firstD, firstD]
    by_cases e1 : f d = g d
    · rw [if_pos e1] at h1 ⊢
      by_cases e2 : g d = h d
      · rw [if_pos e2] at h2 ⊢
        rw [if_pos (e1.trans e2)]
        exact firstD_trans f g h k (d + 1) h1 h2
      · rw [if_neg e2] at h2 ⊢
        rw [if_neg (by omega)]
        by_cases e3 : h d < g d
        · rw [if_pos e3] at h2; omega
        · rw [if_neg (by omega), if_neg e3]
          omega
    · rw [if_neg e1] at h1 ⊢
      by_cases e3 : g d < f d
      · rw [if_pos e3] at h1; omega
      · by_cases e2 : g d = h d
        · rw [if_pos e2] at h2 ⊢
          rw [if_neg (by omega), if_neg (by omega), if_neg e3]
          omega
        · rw [if_neg e2] at h2 ⊢
          by_cases e4 : h d < g d
          · rw [if_pos e4] at h2; omega
          · rw [if_neg (by omega), if_neg (by omega), if_neg e3, if_neg e4]
            omega
/-- All values of k devices from d on. -/
def sumN16 (f : Int → Nat) : Nat → Int → Nat
  | 0, _ => 0
  | k + 1, d => f d + sumN16 f k (d + 1)
theorem sumV_ofN : ∀ (k : Nat) (d : Int) (f : Int → Nat), sumV (ofN f k d) = sumN16 f k d
  | 0, _, _ => rfl
  | k + 1, d, f => by
    have ih := sumV_ofN k (d + 1) f
    rw [ofN, sumN16, ← ih]
    by_cases hp : 0 < f d
    · rw [if_pos hp]; simp [sumV]
    · rw [if_neg hp, List.nil_append]; omega
theorem sumN16_le : ∀ (k : Nat) (d : Int) (f g : Int → Nat), (∀ e, d ≤ e → e < d + k → f e ≤ g e) → sumN16 f k d ≤ sumN16 g k d ∧ ((∃ e, d ≤ e ∧ e < d + k ∧ f e < g e) → sumN16 f k d < sumN16 g k d)
  | 0, d, f, g, _ => ⟨Nat.le_refl _, fun ⟨e, h1, h2, _⟩ => by omega⟩
  | k + 1, d, f, g, h => by
    have ih := sumN16_le k (d + 1) f g fun e h1 h2 => h e (by omega) (by omega)
    have h0 := h d (by omega) (by omega)
    rw [sumN16, sumN16]
    refine ⟨by omega, fun ⟨e, h1, h2, h3⟩ => ?_⟩
    by_cases hd : e = d
    · subst hd; omega
    · have := ih.2 ⟨e, by omega, by omega, h3⟩
      omega
section
variable {a b c : List (Int × Nat)}
theorem sumV_val (ha : okV 0 a = true) : sumV a = sumN16 (val a) 16 1 := by
  have := sumV_ofN 16 1 (val a)
  rw [← this]
  exact congrArg sumV (canon_V ha)
theorem before_iff (ha : okV 0 a = true) (hb : okV 0 b = true) : cmpV a b = 2 ↔ leF (val a) (val b) ∧ a ≠ b := by
  have h1 := least_iff a b ha hb
  have h2 := same_iff a b ha hb
  rw [leastV, decide_eq_true_iff] at h1
  constructor
  · intro h
    refine ⟨h1.1 (.inl h), fun e => ?_⟩
    rw [h2.2 e] at h
    cases h
  · rintro ⟨h3, h4⟩
    rcases h1.2 h3 with h | h
    · exact h
    · exact absurd (h2.1 h) h4
theorem le_antisymm (ha : okV 0 a = true) (hb : okV 0 b = true) (h1 : leF (val a) (val b)) (h2 : leF (val b) (val a)) : a = b := by
  rw [canon_V ha, canon_V hb]
  refine ofV_congr fun e h3 h4 => ?_
  have := h1 e h3 h4
  have := h2 e h3 h4
  omega
theorem le_trans' (h1 : leF (val a) (val b)) (h2 : leF (val b) (val c)) : leF (val a) (val c) := fun e h3 h4 => Nat.le_trans (h1 e h3 h4) (h2 e h3 h4)
theorem before_trans (ha : okV 0 a = true) (hb : okV 0 b = true) (hc : okV 0 c = true) (h1 : cmpV a b = 2) (h2 : cmpV b c = 2 ∨ cmpV b c = 1) : cmpV a c = 2 := by
  obtain ⟨k1, k2⟩ := (before_iff ha hb).1 h1
  have k3 := (least_iff b c hb hc).1 (by rw [leastV, decide_eq_true_iff]; exact h2)
  refine (before_iff ha hc).2 ⟨le_trans' k1 k3, fun e => ?_⟩
  subst e
  exact k2 (le_antisymm ha hb k1 k3)
theorem ord_before (ha : okV 0 a = true) (hb : okV 0 b = true) (h : cmpV a b = 2) : ordV a b = -1 := by
  obtain ⟨h1, h2⟩ := (before_iff ha hb).1 h
  have hs : sumV a < sumV b := by
    rw [sumV_val ha, sumV_val hb]
    refine (sumN16_le 16 1 (val a) (val b) fun e h3 h4 => h1 e h3 (by omega)).2 ?_
    apply Classical.byContradiction
    intro hn
    apply h2
    refine le_antisymm ha hb h1 fun e h3 h4 => ?_
    apply Classical.byContradiction
    intro h5
    exact hn ⟨e, h3, by omega, by omega⟩
  rw [ordV, ha, hb, if_pos (by rfl), ordF, if_pos hs]
theorem firstD_refl (f : Int → Nat) : ∀ (k : Nat) (d : Int), firstD f f k d = 0
  | 0, _ => rfl
  | k + 1, d => by rw [firstD, if_pos rfl]; exact firstD_refl f k (d + 1)
theorem ord_zero (ha : okV 0 a = true) (hb : okV 0 b = true) : ordV a b = 0 ↔ cmpV a b = 1 := by
  rw [same_iff a b ha hb, ordV, ha, hb, if_pos (by rfl), ordF]
  constructor
  · intro h
    split at h
    · cases h
    · split at h
      · cases h
      · rw [canon_V ha, canon_V hb]
        exact ofV_congr fun e h1 h2 => firstD_zero _ _ 16 1 h e h1 (by omega)
  · rintro rfl
    rw [if_neg (Nat.lt_irrefl _), if_neg (Nat.lt_irrefl _), firstD_refl]
theorem ord_trans (ha : okV 0 a = true) (hb : okV 0 b = true) (hc : okV 0 c = true) (h1 : ordV a b ≤ 0) (h2 : ordV b c ≤ 0) : ordV a c ≤ 0 ∧ (ordV a b < 0 ∨ ordV b c < 0 → ordV a c < 0) := by
  simp only [ordV, ha, hb, hc, Bool.and_self, if_true] at h1 h2 ⊢
  unfold ordF at h1 h2 ⊢
  have ht := firstD_trans (val a) (val b) (val c) 16 1
  generalize sumV a = s at *
  generalize sumV b = t at *
  generalize sumV c = u at *
  by_cases e1 : s < t
  · rw [if_pos e1]
    by_cases e2 : t < u
    · rw [if_pos (by omega)]; omega
    · rw [if_neg e2] at h2
      by_cases e3 : u < t
      · rw [if_pos e3] at h2; omega
      · rw [if_pos (by omega)]; omega
  · rw [if_neg e1] at h1 ⊢
    by_cases e3 : t < s
    · rw [if_pos e3] at h1; omega
    · rw [if_neg e3] at h1 ⊢
      by_cases e2 : t < u
      · rw [if_pos (show s < u by omega)]; omega
      · rw [if_neg e2] at h2 ⊢
        by_cases e4 : u < t
        · rw [if_pos e4] at h2; omega
        · rw [if_neg e4] at h2 ⊢
          rw [if_neg (show ¬ s < u by omega), if_neg (show ¬ u < s by omega)]
          exact ht h1 h2
theorem merge_upper (ha : okV 0 a = true) (hb : okV 0 b = true) : leF (val a) (val (mergeV [a, b])) ∧ leF (val b) (val (mergeV [a, b])) := by
  have h2 := allOk_cons a [b] ha (allOk_cons b [] hb allOk_nil)
  constructor
  · intro e h3 h4
    rw [val_merge _ h2 e h3 h4]
    show val a e ≤ max (max 0 (val a e)) (val b e)
    omega
  · intro e h3 h4
    rw [val_merge _ h2 e h3 h4]
    show val b e ≤ max (max 0 (val a e)) (val b e)
    omega
theorem merge_least (ha : okV 0 a = true) (hb : okV 0 b = true) (h1 : leF (val a) (val c)) (h3 : leF (val b) (val c)) : leF (val (mergeV [a, b])) (val c) := by
  have h2 := allOk_cons a [b] ha (allOk_cons b [] hb allOk_nil)
  intro e h4 h5
  rw [val_merge _ h2 e h4 h5]
  have := h1 e h4 h5
  have := h3 e h4 h5
  show max (max 0 (val a e)) (val b e) ≤ val c e
  omega
theorem merge_swap (ha : okV 0 a = true) (hb : okV 0 b = true) : mergeV [b, a] = mergeV [a, b] := by
  have h2 := allOk_cons a [b] ha (allOk_cons b [] hb allOk_nil)
  have h3 := allOk_cons b [a] hb (allOk_cons a [] ha allOk_nil)
  rw [(merge_ok _ h2).2, (merge_ok _ h3).2]
  refine ofV_congr fun e _ _ => ?_
  show max (max 0 (val b e)) (val a e) = max (max 0 (val a e)) (val b e)
  omega
theorem bump_before {d : Int} (h : bumpE a d = 0) : cmpV a (bumpV a d) = 2 := by
  obtain ⟨h1, h2, h3, _, _⟩ := bump_ok h
  refine (before_iff h1 (ok_bump h)).2 ⟨fun e _ _ => ?_, fun e => ?_⟩
  · rw [val_bump h, bumpF]
    split <;> omega
  · have h5 := val_bump h d
    rw [← e, bumpF, if_pos rfl] at h5
    omega
end
end Go.Proofs.YtndekohimfjdeaaGreatDoor

namespace Go.Proofs.YtndekohimfjdeaaGreatDoor
open Go.RowKit Go.Shelf
set_option maxRecDepth 100000 in
set_option maxHeartbeats 8000000 in
theorem rtwo_v (r q : Rcd) (a b : RSh) (B : Nat) (w : World) (hr : RReads w B r a) (hq : RReads w B q b) (hB : B ≤ w.heap.size) :
    Calls Tryz.prog 25 #[.agg #[.string (st r.path), .slice a.A a.n a.c, .int .i64 r.dev, .bool r.gone, .int .i64 r.size, .int .i64 r.len, .slice a.D a.m a.k], .agg #[.string (st q.path), .slice b.A b.n b.c, .int .i64 q.dev, .bool q.gone, .int .i64 q.size, .int .i64 q.len, .slice b.D b.m b.k]] w fun e w' => e = .returned (.int .i64 (twoE r q : Int)) ∧ Below w.heap.size w w' := by
  have HI := Lib.hid (show (Tryz.prog.info? 27).map (·.size) = some 7 by kernel_rfl)
  have HL := Lib.hid (show (Tryz.prog.info? 25).map (·.size) = some 3 by kernel_rfl)
  have BA := Lib.hid (((Below.refl w.heap.size w).alloc (Nat.le_refl _) (.cells #[.string (st r.path), .slice a.A a.n a.c, .int .i64 r.dev, .bool r.gone, .int .i64 r.size, .int .i64 r.len, .slice a.D a.m a.k] 27)).alloc (by simp) (.cells #[.string (st q.path), .slice b.A b.n b.c, .int .i64 q.dev, .bool q.gone, .int .i64 q.size, .int .i64 q.len, .slice b.D b.m b.k] 27))
  have Y := Lib.hid (heap_alloc2_new w (.cells #[.string (st r.path), .slice a.A a.n a.c, .int .i64 r.dev, .bool r.gone, .int .i64 r.size, .int .i64 r.len, .slice a.D a.m a.k] 27) (.cells #[.string (st q.path), .slice b.A b.n b.c, .int .i64 q.dev, .bool q.gone, .int .i64 q.size, .int .i64 q.len, .slice b.D b.m b.k] 27))
  have X := Lib.hid (heap_alloc2_old w (.cells #[.string (st r.path), .slice a.A a.n a.c, .int .i64 r.dev, .bool r.gone, .int .i64 r.size, .int .i64 r.len, .slice a.D a.m a.k] 27) (.cells #[.string (st q.path), .slice b.A b.n b.c, .int .i64 q.dev, .bool q.gone, .int .i64 q.size, .int .i64 q.len, .slice b.D b.m b.k] 27))
  have HR := Lib.hid hr
  have HQ := Lib.hid hq
  have hn1 := hr.hn
  have hn2 := hq.hn
  have hm1 := hr.hm
  have hz : w.heap.size + 2 ≤ ((w.alloc (.cells #[.string (st r.path), .slice a.A a.n a.c, .int .i64 r.dev, .bool r.gone, .int .i64 r.size, .int .i64 r.len, .slice a.D a.m a.k] 27)).alloc (.cells #[.string (st q.path), .slice b.A b.n b.c, .int .i64 q.dev, .bool q.gone, .int .i64 q.size, .int .i64 q.len, .slice b.D b.m b.k] 27)).heap.size := by simp
  clear hr hq
  go_enter Tryz.func25, Tryz.ntmps25
  go_upto_region 1 with fail
  generalize (w.alloc (.cells #[.string (st r.path), .slice a.A a.n a.c, .int .i64 r.dev, .bool r.gone, .int .i64 r.size, .int .i64 r.len, .slice a.D a.m a.k] 27)).alloc (.cells #[.string (st q.path), .slice b.A b.n b.c, .int .i64 q.dev, .bool q.gone, .int .i64 q.size, .int .i64 q.len, .slice b.D b.m b.k] 27) = w2 at *
  go_wp2_with (first | (refine wpList_load_row rfl 27 (.tmp 2) rfl (w.heap.size) rfl 27 _ (0, 0) _ X.out Tryz.underlying27 rfl HI.out ?_) | (refine wpList_load_row rfl 27 (.tmp 3) rfl (w.heap.size + 1) rfl 27 _ (0, 0) _ Y.out Tryz.underlying27 rfl HI.out ?_) | fail)
  refine (rrecCheck_v r a B w2 (HR.out.below (BA.out.mono hB)) (by omega)).mono ?_
  rintro e w3 ⟨rfl, b3⟩
  replace X := Lib.hid ((b3.block w.heap.size (by omega)).trans X.out)
  replace Y := Lib.hid ((b3.block (w.heap.size + 1) (by omega)).trans Y.out)
  replace BA := Lib.hid (BA.out.trans (b3.mono (by omega)))
  replace hz : w.heap.size + 2 ≤ w3.heap.size := by have := b3.size; omega
  clear b3
  by_cases h1 : okR r = 0
  case neg =>
    have d1 : ((okR r : Int) == 0) = false := by rw [beq_eq_false_iff_ne]; omega
    have HW := Lib.hid (show twoE r q = okR r from if_pos h1)
    clear h1
    generalize okR r = x at *
    go_wp2
    go_ret
    exact ⟨by rw [HW.out]; rfl, BA.out⟩
  have HW := Lib.hid (show twoE r q = if okR q ≠ 0 then okR q else if r.path = q.path then 0 else 2 from if_neg (fun h => h h1))
  rw [h1]
  clear h1
  go_wp2_with (first | (refine wpList_load_row rfl 27 (.tmp 2) rfl (w.heap.size) rfl 27 _ (0, 0) _ X.out Tryz.underlying27 rfl HI.out ?_) | (refine wpList_load_row rfl 27 (.tmp 3) rfl (w.heap.size + 1) rfl 27 _ (0, 0) _ Y.out Tryz.underlying27 rfl HI.out ?_) | fail)
  refine (rrecCheck_v q b B w3 (HQ.out.below (BA.out.mono hB)) (by omega)).mono ?_
  rintro e w4 ⟨rfl, b3⟩
  replace X := Lib.hid ((b3.block w.heap.size (by omega)).trans X.out)
  replace Y := Lib.hid ((b3.block (w.heap.size + 1) (by omega)).trans Y.out)
  replace BA := Lib.hid (BA.out.trans (b3.mono (by omega)))
  replace hz : w.heap.size + 2 ≤ w4.heap.size := by have := b3.size; omega
  clear b3
  by_cases h2 : okR q = 0
  case neg =>
    have d1 : ((okR q : Int) == 0) = false := by rw [beq_eq_false_iff_ne]; omega
    replace HW := Lib.hid (HW.out.trans (if_pos h2))
    clear h2
    generalize okR q = x at *
    go_wp2
    go_ret
    exact ⟨by rw [HW.out]; rfl, BA.out⟩
  replace HW := Lib.hid (HW.out.trans (if_neg (fun h => h h2)))
  rw [h2]
  clear h2
  have c1 := cell_of_row _ _ 0 _ _ _ X.out
  have c2 := cell_of_row _ _ 0 _ _ _ Y.out
  have dp := st_beq r.path q.path
  by_cases hp : r.path = q.path
  · rw [decide_eq_true hp] at dp
    rw [if_pos hp] at HW
    clear hp
    go_wp2
    go_ret
    exact ⟨by rw [HW.out]; rfl, BA.out⟩
  · rw [decide_eq_false hp] at dp
    rw [if_neg hp] at HW
    clear hp
    go_wp2
    go_ret
    exact ⟨by rw [HW.out]; rfl, BA.out⟩
set_option maxRecDepth 100000 in
set_option maxHeartbeats 8000000 in
theorem rwinner_v (r q : Rcd) (a b : RSh) (B : Nat) (w : World) (hr : RReads w B r a) (hq : RReads w B q b) (hB : B ≤ w.heap.size) :
    Calls Tryz.prog 8 #[.agg #[.string (st r.path), .slice a.A a.n a.c, .int .i64 r.dev, .bool r.gone, .int .i64 r.size, .int .i64 r.len, .slice a.D a.m a.k], .agg #[.string (st q.path), .slice b.A b.n b.c, .int .i64 q.dev, .bool q.gone, .int .i64 q.size, .int .i64 q.len, .slice b.D b.m b.k]] w fun e w' => e = .returned (.tuple #[.int .i64 ((winR r q).1 : Int), .int .i64 ((winR r q).2 : Int)]) ∧ Below w.heap.size w w' := by
  obtain ⟨o, ho⟩ : ∃ o, winR r q = o := ⟨_, rfl⟩
  rw [ho]
  unfold winR at ho
  have HW := Lib.hid ho
  clear ho
  have HI := Lib.hid (show (Tryz.prog.info? 27).map (·.size) = some 7 by kernel_rfl)
  have HL := Lib.hid (show (Tryz.prog.info? 25).map (·.size) = some 3 by kernel_rfl)
  have BA := Lib.hid (((Below.refl w.heap.size w).alloc (Nat.le_refl _) (.cells #[.string (st r.path), .slice a.A a.n a.c, .int .i64 r.dev, .bool r.gone, .int .i64 r.size, .int .i64 r.len, .slice a.D a.m a.k] 27)).alloc (by simp) (.cells #[.string (st q.path), .slice b.A b.n b.c, .int .i64 q.dev, .bool q.gone, .int .i64 q.size, .int .i64 q.len, .slice b.D b.m b.k] 27))
  have Y := Lib.hid (heap_alloc2_new w (.cells #[.string (st r.path), .slice a.A a.n a.c, .int .i64 r.dev, .bool r.gone, .int .i64 r.size, .int .i64 r.len, .slice a.D a.m a.k] 27) (.cells #[.string (st q.path), .slice b.A b.n b.c, .int .i64 q.dev, .bool q.gone, .int .i64 q.size, .int .i64 q.len, .slice b.D b.m b.k] 27))
  have X := Lib.hid (heap_alloc2_old w (.cells #[.string (st r.path), .slice a.A a.n a.c, .int .i64 r.dev, .bool r.gone, .int .i64 r.size, .int .i64 r.len, .slice a.D a.m a.k] 27) (.cells #[.string (st q.path), .slice b.A b.n b.c, .int .i64 q.dev, .bool q.gone, .int .i64 q.size, .int .i64 q.len, .slice b.D b.m b.k] 27))
  have HR := Lib.hid hr
  have HQ := Lib.hid hq
  have hn1 := hr.hn
  have hn2 := hq.hn
  have hm1 := hr.hm
  have hz : w.heap.size + 2 ≤ ((w.alloc (.cells #[.string (st r.path), .slice a.A a.n a.c, .int .i64 r.dev, .bool r.gone, .int .i64 r.size, .int .i64 r.len, .slice a.D a.m a.k] 27)).alloc (.cells #[.string (st q.path), .slice b.A b.n b.c, .int .i64 q.dev, .bool q.gone, .int .i64 q.size, .int .i64 q.len, .slice b.D b.m b.k] 27)).heap.size := by simp
  clear hr hq
  go_enter Tryz.func8, Tryz.ntmps8
  go_upto_region 1 with fail
  generalize (w.alloc (.cells #[.string (st r.path), .slice a.A a.n a.c, .int .i64 r.dev, .bool r.gone, .int .i64 r.size, .int .i64 r.len, .slice a.D a.m a.k] 27)).alloc (.cells #[.string (st q.path), .slice b.A b.n b.c, .int .i64 q.dev, .bool q.gone, .int .i64 q.size, .int .i64 q.len, .slice b.D b.m b.k] 27) = w2 at *
  go_wp2_with (first | (refine wpList_load_row rfl 27 (.tmp 2) rfl (w.heap.size) rfl 27 _ (0, 0) _ X.out Tryz.underlying27 rfl HI.out ?_) | (refine wpList_load_row rfl 27 (.tmp 3) rfl (w.heap.size + 1) rfl 27 _ (0, 0) _ Y.out Tryz.underlying27 rfl HI.out ?_) | fail)
  refine (rtwo_v r q a b B w2 (HR.out.below (BA.out.mono hB)) (HQ.out.below (BA.out.mono hB)) (by omega)).mono ?_
  rintro e w3 ⟨rfl, b3⟩
  replace X := Lib.hid ((b3.block w.heap.size (by omega)).trans X.out)
  replace Y := Lib.hid ((b3.block (w.heap.size + 1) (by omega)).trans Y.out)
  replace BA := Lib.hid (BA.out.trans (b3.mono (by omega)))
  replace hz : w.heap.size + 2 ≤ w3.heap.size := by have := b3.size; omega
  clear b3
  by_cases h1 : twoE r q = 0
  case neg =>
    have d1 : ((twoE r q : Int) != 0) = true := by rw [bne_iff_ne]; omega
    obtain rfl := if_p HW.out h1
    clear h1
    go_wp2
    go_ret2
    exact ⟨rfl, BA.out⟩
  replace HW := Lib.hid (if_n HW.out (fun h => h h1))
  rw [h1]
  clear h1
  have c1 := cell_of_row _ _ 1 _ _ _ X.out
  have c2 := cell_of_row _ _ 1 _ _ _ Y.out
  go_wp2_with fail
  refine (rorder_v B a.A b.A a.n a.c b.n b.c r.v q.v w3 (Reads.below HR.out.cs (BA.out.mono hB)) (Reads.below HQ.out.cs (BA.out.mono hB)) (by omega) (by omega) (by omega) HR.out.ft HQ.out.ft).mono ?_
  rintro e w4 ⟨rfl, b3⟩
  clear c1 c2
  replace X := Lib.hid ((b3.block w.heap.size (by omega)).trans X.out)
  replace Y := Lib.hid ((b3.block (w.heap.size + 1) (by omega)).trans Y.out)
  replace BA := Lib.hid (BA.out.trans (b3.mono (by omega)))
  replace hz : w.heap.size + 2 ≤ w4.heap.size := by have := b3.size; omega
  clear b3
  have ht := ordV_turn r.v q.v
  by_cases h2 : 0 < ordV q.v r.v
  · have d2 : decide (ordV r.v q.v < 0) = true := decide_eq_true (by omega)
    obtain rfl := if_p HW.out h2
    clear h2 ht
    go_wp2
    go_ret2
    exact ⟨rfl, BA.out⟩
  · have d2 : decide (ordV r.v q.v < 0) = false := decide_eq_false (by omega)
    obtain rfl := if_n HW.out h2
    clear h2 ht
    go_wp2
    go_ret2
    exact ⟨rfl, BA.out⟩
theorem twoE_zero {r q : Rcd} (h : twoE r q = 0) : okR r = 0 ∧ okR q = 0 ∧ r.path = q.path := by
  unfold twoE at h
  split at h
  · omega
  · split at h
    · omega
    · split at h
      · exact ⟨by omega, by omega, by assumption⟩
      · cases h
theorem okR_vz {r : Rcd} (h : okR r = 0) : okV 0 r.v = true := by
  unfold okR at h
  split at h
  · rename_i h1; exact absurd h h1
  · split at h
    · cases h
    · rename_i h2; simpa using h2
theorem do_two {r q : Rcd} (hp : r.path ≠ []) (h : twoE r q ≠ 0) : doR r q = (0, twoE r q) := by
  unfold doR twoE
  unfold twoE at h
  by_cases h1 : okR r = 0
  · by_cases h2 : okR q = 0
    · by_cases h3 : r.path = q.path
      · simp [h1, h2, h3] at h
      · simp [h1, h2, h3, hp]
    · simp [h1, h2]
  · simp [h1, hp]
set_option maxRecDepth 100000 in
set_option maxHeartbeats 16000000 in
theorem rdo_v (r q : Rcd) (a b : RSh) (B : Nat) (w : World) (hr : RReads w B r a) (hq : RReads w B q b) (hB : B ≤ w.heap.size) :
    Calls Tryz.prog 10 #[.agg #[.string (st r.path), .slice a.A a.n a.c, .int .i64 r.dev, .bool r.gone, .int .i64 r.size, .int .i64 r.len, .slice a.D a.m a.k], .agg #[.string (st q.path), .slice b.A b.n b.c, .int .i64 q.dev, .bool q.gone, .int .i64 q.size, .int .i64 q.len, .slice b.D b.m b.k]] w fun e w' => e = .returned (.tuple #[.int .i64 ((doR r q).1 : Int), .int .i64 ((doR r q).2 : Int)]) ∧ Below w.heap.size w w' := by
  obtain ⟨o, ho⟩ : ∃ o, doR r q = o := ⟨_, rfl⟩
  have HO := Lib.hid ho
  rw [ho]
  clear ho
  have HI := Lib.hid (show (Tryz.prog.info? 27).map (·.size) = some 7 by kernel_rfl)
  have HL := Lib.hid (show (Tryz.prog.info? 25).map (·.size) = some 3 by kernel_rfl)
  have BA := Lib.hid (((Below.refl w.heap.size w).alloc (Nat.le_refl _) (.cells #[.string (st r.path), .slice a.A a.n a.c, .int .i64 r.dev, .bool r.gone, .int .i64 r.size, .int .i64 r.len, .slice a.D a.m a.k] 27)).alloc (by simp) (.cells #[.string (st q.path), .slice b.A b.n b.c, .int .i64 q.dev, .bool q.gone, .int .i64 q.size, .int .i64 q.len, .slice b.D b.m b.k] 27))
  have Y := Lib.hid (heap_alloc2_new w (.cells #[.string (st r.path), .slice a.A a.n a.c, .int .i64 r.dev, .bool r.gone, .int .i64 r.size, .int .i64 r.len, .slice a.D a.m a.k] 27) (.cells #[.string (st q.path), .slice b.A b.n b.c, .int .i64 q.dev, .bool q.gone, .int .i64 q.size, .int .i64 q.len, .slice b.D b.m b.k] 27))
  have X := Lib.hid (heap_alloc2_old w (.cells #[.string (st r.path), .slice a.A a.n a.c, .int .i64 r.dev, .bool r.gone, .int .i64 r.size, .int .i64 r.len, .slice a.D a.m a.k] 27) (.cells #[.string (st q.path), .slice b.A b.n b.c, .int .i64 q.dev, .bool q.gone, .int .i64 q.size, .int .i64 q.len, .slice b.D b.m b.k] 27))
  have HR := Lib.hid hr
  have HQ := Lib.hid hq
  have hn1 := hr.hn
  have hn2 := hq.hn
  have hm1 := hr.hm
  have hz : w.heap.size + 2 ≤ ((w.alloc (.cells #[.string (st r.path), .slice a.A a.n a.c, .int .i64 r.dev, .bool r.gone, .int .i64 r.size, .int .i64 r.len, .slice a.D a.m a.k] 27)).alloc (.cells #[.string (st q.path), .slice b.A b.n b.c, .int .i64 q.dev, .bool q.gone, .int .i64 q.size, .int .i64 q.len, .slice b.D b.m b.k] 27)).heap.size := by simp
  clear hr hq
  go_enter Tryz.func10, Tryz.ntmps10
  go_upto_region 1 with fail
  generalize (w.alloc (.cells #[.string (st r.path), .slice a.A a.n a.c, .int .i64 r.dev, .bool r.gone, .int .i64 r.size, .int .i64 r.len, .slice a.D a.m a.k] 27)).alloc (.cells #[.string (st q.path), .slice b.A b.n b.c, .int .i64 q.dev, .bool q.gone, .int .i64 q.size, .int .i64 q.len, .slice b.D b.m b.k] 27) = w2 at *
  have c1 := cell_of_row _ _ 0 _ _ _ X.out
  have dp := st_nil r.path
  by_cases hp : r.path = []
  · rw [decide_eq_true hp] at dp
    replace HO := Lib.hid ((show (if okR q ≠ 0 then (0, okR q) else (2, 0)) = doR r q by unfold doR; exact ((if_neg (fun x => x.1 hp)).trans (by rw [if_pos hp])).symm).trans HO.out)
    clear hp
    go_wp2_with (first | (refine wpList_load_row rfl 27 (.tmp 2) rfl (w.heap.size) rfl 27 _ (0, 0) _ X.out Tryz.underlying27 rfl HI.out ?_) | (refine wpList_load_row rfl 27 (.tmp 3) rfl (w.heap.size + 1) rfl 27 _ (0, 0) _ Y.out Tryz.underlying27 rfl HI.out ?_) | fail)
    refine (rrecCheck_v q b B w2 (HQ.out.below (BA.out.mono hB)) (by omega)).mono ?_
    rintro e w3 ⟨rfl, b3⟩
    replace X := Lib.hid ((b3.block w.heap.size (by omega)).trans X.out)
    replace Y := Lib.hid ((b3.block (w.heap.size + 1) (by omega)).trans Y.out)
    replace BA := Lib.hid (BA.out.trans (b3.mono (by omega)))
    replace hz : w.heap.size + 2 ≤ w3.heap.size := by have := b3.size; omega
    clear b3
    by_cases h1 : okR q = 0
    · have d1 : ((okR q : Int) != 0) = false := by rw [bne_eq_false_iff_eq]; omega
      obtain rfl := if_n HO.out (fun h => h h1)
      clear h1
      go_wp2
      go_ret2
      exact ⟨rfl, BA.out⟩
    · have d1 : ((okR q : Int) != 0) = true := by rw [bne_iff_ne]; omega
      obtain rfl := if_p HO.out h1
      clear h1
      go_wp2
      go_ret2
      exact ⟨rfl, BA.out⟩
  rw [decide_eq_false hp] at dp
  have HP := Lib.hid hp
  clear hp
  go_wp2_with (first | (refine wpList_load_row rfl 27 (.tmp 2) rfl (w.heap.size) rfl 27 _ (0, 0) _ X.out Tryz.underlying27 rfl HI.out ?_) | (refine wpList_load_row rfl 27 (.tmp 3) rfl (w.heap.size + 1) rfl 27 _ (0, 0) _ Y.out Tryz.underlying27 rfl HI.out ?_) | fail)
  refine (rtwo_v r q a b B w2 (HR.out.below (BA.out.mono hB)) (HQ.out.below (BA.out.mono hB)) (by omega)).mono ?_
  rintro e w3 ⟨rfl, b3⟩
  clear c1
  replace X := Lib.hid ((b3.block w.heap.size (by omega)).trans X.out)
  replace Y := Lib.hid ((b3.block (w.heap.size + 1) (by omega)).trans Y.out)
  replace BA := Lib.hid (BA.out.trans (b3.mono (by omega)))
  replace hz : w.heap.size + 2 ≤ w3.heap.size := by have := b3.size; omega
  clear b3
  by_cases h1 : twoE r q = 0
  case neg =>
    have d1 : ((twoE r q : Int) != 0) = true := by rw [bne_iff_ne]; omega
    obtain rfl := (do_two HP.out h1).symm.trans HO.out
    clear h1
    go_wp2
    go_ret2
    exact ⟨rfl, BA.out⟩
  obtain ⟨k1, k2, k3⟩ := twoE_zero h1
  have HW := HO.out
  unfold doR at HW
  replace HW := Lib.hid (if_n (if_n (if_n (if_n HW (fun x => x.2 k1)) (fun x => x k2)) HP.out) (fun x => x k3))
  have K := Lib.hid (And.intro k1 (And.intro k2 k3))
  have HWR := Lib.hid (show winR r q = if 0 < ordV q.v r.v then (1, 0) else (0, 0) from if_neg (fun x => x h1))
  rw [h1]
  clear h1 k1 k2 k3
  have c1 := cell_of_row _ _ 1 _ _ _ X.out
  have c2 := cell_of_row _ _ 1 _ _ _ Y.out
  go_wp2_with fail
  refine (rcompare_v B a.A b.A a.n a.c b.n b.c r.v q.v w3 (Reads.below HR.out.cs (BA.out.mono hB)) (Reads.below HQ.out.cs (BA.out.mono hB)) (by omega) (by omega) (by omega) HR.out.ft HQ.out.ft).mono ?_
  rintro e w4 ⟨rfl, b3⟩
  clear c1 c2
  replace X := Lib.hid ((b3.block w.heap.size (by omega)).trans X.out)
  replace Y := Lib.hid ((b3.block (w.heap.size + 1) (by omega)).trans Y.out)
  replace BA := Lib.hid (BA.out.trans (b3.mono (by omega)))
  replace hz : w.heap.size + 2 ≤ w4.heap.size := by have := b3.size; omega
  clear b3
  have hz0 := ord_zero (okR_vz K.out.1) (okR_vz K.out.2.1)
  generalize cmpV r.v q.v = cm at *
  by_cases h3 : cm = 1
  · subst h3
    obtain rfl := if_p HW.out (Or.inl rfl)
    clear hz0
    go_wp2
    go_ret2
    exact ⟨rfl, BA.out⟩
  have d3 : (cm == 1) = false := by rw [beq_eq_false_iff_ne]; exact h3
  by_cases h4 : cm = 3
  · subst h4
    obtain rfl := if_p HW.out (Or.inr rfl)
    clear hz0
    go_wp2
    go_ret2
    exact ⟨rfl, BA.out⟩
  have d4 : (cm == 3) = false := by rw [beq_eq_false_iff_ne]; exact h4
  by_cases h5 : cm = 2
  · subst h5
    obtain rfl := if_p (if_n HW.out (fun h => by omega)) rfl
    clear hz0
    go_wp2
    go_ret2
    exact ⟨rfl, BA.out⟩
  have d5 : (cm == 2) = false := by rw [beq_eq_false_iff_ne]; exact h5
  have ho0 : ordV r.v q.v ≠ 0 := fun x => h3 (hz0.1 x)
  have HO0 := Lib.hid ho0
  replace HW := Lib.hid (if_n (if_n HW.out (fun h => h.elim h3 h4)) h5)
  clear h3 h4 h5 hz0 ho0
  go_wp2_with (first | (refine wpList_load_row rfl 27 (.tmp 2) rfl (w.heap.size) rfl 27 _ (0, 0) _ X.out Tryz.underlying27 rfl HI.out ?_) | (refine wpList_load_row rfl 27 (.tmp 3) rfl (w.heap.size + 1) rfl 27 _ (0, 0) _ Y.out Tryz.underlying27 rfl HI.out ?_) | fail)
  refine (rwinner_v r q a b B w4 (HR.out.below (BA.out.mono hB)) (HQ.out.below (BA.out.mono hB)) (by omega)).mono ?_
  rintro e w5 ⟨rfl, b3⟩
  replace X := Lib.hid ((b3.block w.heap.size (by omega)).trans X.out)
  replace Y := Lib.hid ((b3.block (w.heap.size + 1) (by omega)).trans Y.out)
  replace BA := Lib.hid (BA.out.trans (b3.mono (by omega)))
  replace hz : w.heap.size + 2 ≤ w5.heap.size := by have := b3.size; omega
  clear b3
  have ht := ordV_turn r.v q.v
  by_cases h6 : 0 < ordV r.v q.v
  · rw [HWR.out, if_neg (by omega)]
    obtain rfl := if_p HW.out h6
    clear h6 ht
    dsimp only
    go_wp2
    go_ret2
    exact ⟨rfl, BA.out⟩
  rw [HWR.out, if_pos (by have := HO0.out; omega)]
  replace HW := Lib.hid (if_n HW.out h6)
  clear h6 ht
  dsimp only
  cases hg : r.gone
  case true =>
    obtain rfl := if_n HW.out (fun h => by simp [hg] at h)
    have c1 : w5.cell? ⟨w.heap.size, 3, none⟩ = some (.bool true) := by rw [cell_of_row _ _ 3 _ _ _ X.out, ← hg]; rfl
    clear hg
    go_wp2
    go_ret2
    exact ⟨rfl, BA.out⟩
  have c1 : w5.cell? ⟨w.heap.size, 3, none⟩ = some (.bool false) := by rw [cell_of_row _ _ 3 _ _ _ X.out, ← hg]; rfl
  cases hg2 : q.gone
  case true =>
    obtain rfl := if_p HW.out (And.intro hg (Or.inl hg2))
    have c2 : w5.cell? ⟨w.heap.size + 1, 3, none⟩ = some (.bool true) := by rw [cell_of_row _ _ 3 _ _ _ Y.out, ← hg2]; rfl
    clear hg hg2
    go_wp2
    go_ret2
    exact ⟨rfl, BA.out⟩
  have c2 : w5.cell? ⟨w.heap.size + 1, 3, none⟩ = some (.bool false) := by rw [cell_of_row _ _ 3 _ _ _ Y.out, ← hg2]; rfl
  have HG := Lib.hid hg
  have HG2 := Lib.hid hg2
  clear hg hg2
  go_wp2_with (first
    | (refine wpList_load_slot rfl 25 (.tmp 49) rfl ⟨w.heap.size, 4, none⟩ rfl [.int .i64 r.size, .int .i64 r.len, .slice a.D a.m a.k] _ (rcells_at X.out (three_at rfl rfl rfl)) Tryz.underlying25 rfl HL.out ?_)
    | (refine wpList_load_slot rfl 25 (.tmp 51) rfl ⟨w.heap.size + 1, 4, none⟩ rfl [.int .i64 q.size, .int .i64 q.len, .slice b.D b.m b.k] _ (rcells_at Y.out (three_at rfl rfl rfl)) Tryz.underlying25 rfl HL.out ?_)
    | fail)
  refine (rsame_v r.size r.len q.size q.len a.D b.D a.m a.k b.m b.k B r.ds q.ds w5 (HR.out.dg.below (BA.out.mono hB)) (HQ.out.dg.below (BA.out.mono hB)) (by omega) (by omega)).mono ?_
  rintro e w6 ⟨rfl, b3⟩
  replace X := Lib.hid ((b3.block w.heap.size (by omega)).trans X.out)
  replace Y := Lib.hid ((b3.block (w.heap.size + 1) (by omega)).trans Y.out)
  replace BA := Lib.hid (BA.out.trans (b3.mono (by omega)))
  replace hz : w.heap.size + 2 ≤ w6.heap.size := by have := b3.size; omega
  clear b3
  cases hs : sameP r.size r.len q.size q.len r.ds q.ds
  · obtain rfl := if_p HW.out (And.intro HG.out (Or.inr hs))
    clear hs
    go_wp2
    go_ret2
    exact ⟨rfl, BA.out⟩
  · obtain rfl := if_n HW.out (fun h => h.2.elim (fun e => by rw [HG2.out] at e; cases e) (fun e => by rw [hs] at e; cases e))
    clear hs
    go_wp2
    go_ret2
    exact ⟨rfl, BA.out⟩
end Go.Proofs.YtndekohimfjdeaaGreatDoor

namespace Go.Proofs.YtndekohimfjdeaaGreatDoor
section
variable {P : Program} {ops : Array Oper} {Q : Exit → Act → World → Prop} {F G : World → Prop} {e : Nat}
/-- S: what the read leans on: F alone, or F and G where e waits for the read. -/
theorem wpAnyF_first {K : List Nat} {S : World → Prop} {i : Nat} {oi : Oper} {v : Value} (hi : ops[i]? = some oi) (hsel : ∀ (j : Nat) (o : Oper) cs b, ops[j]? = some o → o.op ≠ .select cs b)
    (hQ : ∀ c a w, Q (.panic c) (a.put oi.dst v) w → Q (.panic c) a w) (hei : e ≠ i)
    (hS : (∀ w, F w → S w) ∨ ((∀ w, F w → G w → S w) ∧ e ∈ K ∧ ∀ k ∈ K, ∃ ok, ops[k]? = some ok ∧ ∃ x ∈ ok.after, Region.binds .any x = true ∧ (x.on = i ∨ x.on ∈ K))) :
    ∀ (fuel : Nat) (listed : Array Bool) (a : Act) (w : World),
      (∀ j oj, ops[j]? = some oj → j ≠ i → listed.getD j true = false → (∀ e ∈ oj.after, Region.binds .any e = true → e.on ≠ i) → oi.apart ops oj = true) →
      i ∈ Region.ready .any ops listed → YieldsIf P ops S oi v a → SS F G e listed w → ((∀ w, F w → S w) ∨ ∀ k ∈ K, listed.getD k true = false) →
      wpAnyE P ops Q F G e fuel (listed.setIfInBounds i true) (a.put oi.dst v) w → wpAnyE P ops Q F G e (fuel + 1) listed a w := by
  have hSw : ∀ (listed : Array Bool) (w : World), SS F G e listed w → ((∀ w, F w → S w) ∨ ∀ k ∈ K, listed.getD k true = false) → S w := by
    rintro listed w ⟨hF, hG⟩ hb
    rcases hb with hb | hb
    · exact hb w hF
    · rcases hS with hS | ⟨hS, heK, _⟩
      · exact hS w hF
      · rcases hG with hG | hG
        · rw [hb e heK] at hG; cases hG
        · exact hS w hF hG
  intro fuel
  induction fuel with
  | zero =>
    intro listed a w _ hr hy hss hb H
    refine ⟨fun h => (by rw [h] at hr; cases hr), fun j hj => ?_⟩
    by_cases hji : j = i
    · subst hji; exact hy.wpOp hi (hSw listed w hss hb) ⟨hss.set hei, H⟩
    · have := ready_mono hj hji
      rw [H.1] at this
      cases this
  | succ fuel ih =>
    intro listed a w hfree hr hy hss hb H
    refine ⟨fun h => (by rw [h] at hr; cases hr), fun j hj => ?_⟩
    by_cases hji : j = i
    · subst hji; exact hy.wpOp hi (hSw listed w hss hb) ⟨hss.set hei, H⟩
    · have h1 := H.2 j (ready_mono hj hji)
      obtain ⟨hjun, oj, hoj, hall⟩ := mem_ready.1 hj
      have hnot : ∀ e ∈ oj.after, Region.binds .any e = true → e.on ≠ i := fun e he hb heq => by
        have h1 := hall e he hb
        have h0 := (mem_ready.1 hr).1
        rw [heq] at h1
        rcases Nat.lt_or_ge i listed.size with h' | h'
        · simp [h'] at h0 h1; rw [h0] at h1; cases h1
        · simp [Array.getElem?_eq_none h'] at h1
      have hb' : (∀ w, F w → S w) ∨ ∀ k ∈ K, (listed.setIfInBounds j true).getD k true = false := by
        rcases hS with hS | ⟨_, _, hK⟩
        · exact .inl hS
        · rcases hb with hb | hb
          · exact .inl hb
          · refine .inr fun k hk => ?_
            have hjK : j ∉ K := by
              intro hjK
              obtain ⟨ok, hok, x, hx, hxb, hxi⟩ := hK j hjK
              have : oj = ok := Option.some.inj (hoj.symm.trans hok)
              subst this
              rcases hxi with hxi | hxi
              · exact hnot x hx hxb hxi
              · have h5 := hall x hx hxb
                have h6 := hb _ hxi
                rcases Nat.lt_or_ge x.on listed.size with h' | h'
                · simp [h'] at h5 h6; rw [h6] at h5; cases h5
                · simp [Array.getElem?_eq_none h'] at h6
            have hjk : j ≠ k := fun e => hjK (e ▸ hk)
            rw [getD_set_ne true hjk]
            exact hb k hk
      have h2 := wpOp_putIf hoj (hfree j oj hoj hji hjun hnot) (fun cs b => hsel i oi cs b hi) (fun cs b => hsel j oj cs b hoj) hQ hy h1
      have hfree' : ∀ k ok, ops[k]? = some ok → k ≠ i → (listed.setIfInBounds j true).getD k true = false →
          (∀ e ∈ ok.after, Region.binds .any e = true → e.on ≠ i) → oi.apart ops ok = true := fun k ok hk hki hun hno => by
        refine hfree k ok hk hki ?_ hno
        by_cases hjk : j = k
        · subst hjk; exact hjun
        · rw [getD_set_ne true hjk] at hun; exact hun
      refine wpOp_mono (fun a' w' h3 => ?_) h2
      obtain ⟨h4, h5, h6⟩ := h3
      rw [Array.setIfInBounds_comm _ _ (Ne.symm hji)] at h5
      have hss' : SS F G e (listed.setIfInBounds j true) w' := h5.unset hei
      refine ⟨hss', ih (listed.setIfInBounds j true) a' w' hfree' (ready_mono hr (Ne.symm hji)) h4 hss' hb' ?_⟩
      rw [Array.setIfInBounds_comm _ _ hji]
      exact h6
/-- k waits for one of these. -/
def edgeK (ops : Array Oper) (L : List Nat) (k : Nat) : Bool := match ops[k]? with | some ok => ok.after.any fun x => Region.binds .any x && L.contains x.on | none => false
/-- What waits for i, in the end, of what has not come up yet. -/
def blocked (ops : Array Oper) (listed : Array Bool) (i : Nat) : List Nat := (List.range ops.size).foldl (fun L k => if listed.getD k true == false && edgeK ops (i :: L) k then k :: L else L) []
def edgeF (ops : Array Oper) (listed : Array Bool) (e i : Nat) : Bool := (blocked ops listed i).contains e && (blocked ops listed i).all fun k => (listed.getD k true == false) && edgeK ops (i :: blocked ops listed i) k
/-- The kinds: 0 a call or a write ahead of e · 1 a read under F (ahead of e) · 2 a read under F and G · 3 a read under F (behind e) · 4 e itself, a call or a write behind it. -/
def schedF (ops : Array Oper) (e : Nat) : Array Bool → List (Nat × Nat) → Bool
  | listed, [] => (Region.ready .any ops listed).isEmpty
  | listed, (i, k) :: l =>
    (match k with
      | 0 => Region.ready .any ops listed == [i]
      | 1 => Region.free .any ops listed i && (Region.ready .any ops listed).contains i && decide (e ≠ i)
      | 2 => Region.free .any ops listed i && (Region.ready .any ops listed).contains i && decide (e ≠ i) && edgeF ops listed e i
      | 3 => Region.free .any ops listed i && (Region.ready .any ops listed).contains i && decide (e ≠ i) && (listed.getD e true == true)
      | _ => Region.ready .any ops listed == [i] && ((listed.setIfInBounds i true).getD e true == true)) && schedF ops e (listed.setIfInBounds i true) l
def TF (P : Program) (ops : Array Oper) (Q : Exit → Act → World → Prop) (F G : World → Prop) (e : Nat) (l : List (Nat × Nat × Oper)) (a : Act) (w : World) : Prop :=
  ∀ listed, Region.noSelect ops = true → schedF ops e listed (l.map fun x => (x.1, x.2.1)) = true → (∀ x ∈ l, ops[x.1]? = some x.2.2) → wpAnyE P ops Q F G e l.length listed a w
variable {l : List (Nat × Nat × Oper)} {i : Nat} {o : Oper} {a : Act} {w : World}
theorem TF.done (h : Q .normal a w) : TF P ops Q F G e [] a w := by
  intro listed _ hs _
  exact ⟨by simpa [schedF] using hs, h⟩
theorem TF.val1 {v : Value} (hw : Region.wanted o (yielded ops a.tmps) = true) (hy : ∀ w, F w → (execOp a.eval o).run P w = .ok (.value v) w)
    (hQ : ∀ c a w, Q (.panic c) (a.put o.dst v) w → Q (.panic c) a w) (hF : F w) (hG : G w) (h : TF P ops Q F G e l (a.put o.dst v) w) : TF P ops Q F G e ((i, 1, o) :: l) a w := by
  intro listed hn hs hi
  simp only [List.map_cons, schedF, Bool.and_eq_true, decide_eq_true_eq] at hs
  exact wpAnyF_first (K := []) (S := F) (hi _ List.mem_cons_self) (Region.noSelect_spec hn) hQ hs.1.2 (.inl fun _ h => h) _ _ _ _ (Region.free_spec (hi _ List.mem_cons_self) hs.1.1.1) (by simpa using hs.1.1.2) (.inl ⟨hw, hy⟩) ⟨hF, .inr hG⟩ (.inl fun _ h => h) (h _ hn hs.2 fun x hx => hi x (List.mem_cons_of_mem _ hx))
theorem TF.val2 {v : Value} (hw : Region.wanted o (yielded ops a.tmps) = true) (hy : ∀ w, (F w ∧ G w) → (execOp a.eval o).run P w = .ok (.value v) w)
    (hQ : ∀ c a w, Q (.panic c) (a.put o.dst v) w → Q (.panic c) a w) (hF : F w) (hG : G w) (h : TF P ops Q F G e l (a.put o.dst v) w) : TF P ops Q F G e ((i, 2, o) :: l) a w := by
  intro listed hn hs hi
  simp only [List.map_cons, schedF, Bool.and_eq_true, decide_eq_true_eq] at hs
  have h2 := hs.1.2
  unfold edgeF at h2
  rw [Bool.and_eq_true] at h2
  have hK : ∀ k ∈ blocked ops listed i, listed.getD k true = false ∧ ∃ ok, ops[k]? = some ok ∧ ∃ x ∈ ok.after, Region.binds .any x = true ∧ (x.on = i ∨ x.on ∈ blocked ops listed i) := by
    intro k hk
    have h3 := List.all_eq_true.1 h2.2 k hk
    simp only [Bool.and_eq_true, beq_iff_eq] at h3
    refine ⟨h3.1, ?_⟩
    have h4 := h3.2
    unfold edgeK at h4
    split at h4
    · rename_i ok hok
      obtain ⟨x, hx, hb⟩ := Array.any_eq_true'.1 h4
      simp only [Bool.and_eq_true, List.contains_iff_mem, List.mem_cons] at hb
      exact ⟨ok, hok, x, hx, hb.1, hb.2⟩
    · cases h4
  exact wpAnyF_first (K := blocked ops listed i) (S := fun w => F w ∧ G w) (hi _ List.mem_cons_self) (Region.noSelect_spec hn) hQ hs.1.1.2 (.inr ⟨fun _ h h' => ⟨h, h'⟩, by simpa using h2.1, fun k hk => (hK k hk).2⟩) _ _ _ _ (Region.free_spec (hi _ List.mem_cons_self) hs.1.1.1.1) (by simpa using hs.1.1.1.2) (.inl ⟨hw, hy⟩) ⟨hF, .inr hG⟩ (.inr fun k hk => (hK k hk).1) (h _ hn hs.2 fun x hx => hi x (List.mem_cons_of_mem _ hx))
theorem TF.val3 {v : Value} (hw : Region.wanted o (yielded ops a.tmps) = true) (hy : ∀ w, F w → (execOp a.eval o).run P w = .ok (.value v) w)
    (hQ : ∀ c a w, Q (.panic c) (a.put o.dst v) w → Q (.panic c) a w) (hF : F w) (h : TF P ops Q F G e l (a.put o.dst v) w) : TF P ops Q F G e ((i, 3, o) :: l) a w := by
  intro listed hn hs hi
  simp only [List.map_cons, schedF, Bool.and_eq_true, decide_eq_true_eq, beq_iff_eq] at hs
  exact wpAnyF_first (K := []) (S := F) (hi _ List.mem_cons_self) (Region.noSelect_spec hn) hQ hs.1.1.2 (.inl fun _ h => h) _ _ _ _ (Region.free_spec (hi _ List.mem_cons_self) hs.1.1.1.1) (by simpa using hs.1.1.1.2) (.inl ⟨hw, hy⟩) ⟨hF, .inl hs.1.2⟩ (.inl fun _ h => h) (h _ hn hs.2 fun x hx => hi x (List.mem_cons_of_mem _ hx))
theorem TF.eff0 (hw : Region.wanted o (yielded ops a.tmps) = true)
    (h : ∀ K : Act → World → Prop, RowKit.Hid (∀ a' w', F w' → G w' → TF P ops Q F G e l a' w' → K a' w') → Oper.wp P o a w K Q) : TF P ops Q F G e ((i, 0, o) :: l) a w := by
  intro listed hn hs hi
  simp only [List.map_cons, schedF, Bool.and_eq_true, beq_iff_eq] at hs
  refine ⟨fun h0 => (by rw [hs.1] at h0; cases h0), fun j hj => ?_⟩
  rw [hs.1] at hj
  obtain rfl : j = i := by simpa using hj
  have ho := hi _ List.mem_cons_self
  unfold wpOp
  simp only [ho, hw, if_true]
  exact .inl (h _ fun a' w' hF' hG' hT => ⟨⟨hF', .inr hG'⟩, hT _ hn hs.2 fun x hx => hi x (List.mem_cons_of_mem _ hx)⟩)
theorem TF.eff4 (hw : Region.wanted o (yielded ops a.tmps) = true)
    (h : ∀ K : Act → World → Prop, RowKit.Hid (∀ a' w', F w' → TF P ops Q F G e l a' w' → K a' w') → Oper.wp P o a w K Q) : TF P ops Q F G e ((i, 4, o) :: l) a w := by
  intro listed hn hs hi
  simp only [List.map_cons, schedF, Bool.and_eq_true, beq_iff_eq] at hs
  refine ⟨fun h0 => (by rw [hs.1.1] at h0; cases h0), fun j hj => ?_⟩
  rw [hs.1.1] at hj
  obtain rfl : j = i := by simpa using hj
  have ho := hi _ List.mem_cons_self
  unfold wpOp
  simp only [ho, hw, if_true]
  exact .inl (h _ fun a' w' hF' hT => ⟨⟨hF', .inl hs.1.2⟩, hT _ hn hs.2 fun x hx => hi x (List.mem_cons_of_mem _ hx)⟩)
theorem wp_region_F {id : Nat} {ol : List Oper} {a : Act} {w : World} (e : Nat) (l : List (Nat × Nat)) (F G : World → Prop) (hm : P.follows .mixedOrders = true) (hl : l.length = ol.length) (hn : Region.noSelect ol.toArray = true)
    (hs : schedF ol.toArray e (Array.replicate ol.length false) l = true) (hi : (l.all fun x => decide (x.1 < ol.length)) = true)
    (h : ∀ d : Oper, TF P ol.toArray Q F G e (outE d ol l) a w.drew) : (Code.region id ol.toArray true).wp P Q a w := by
  refine wp_region_any hm (wpAny_of_E (F := F) (G := G) (e := e) _ _ _ _ ?_)
  have h2 := h { dst := none, op := .move (.tmp 0), type := 0, pos := "", after := #[], guard := none } (Array.replicate ol.length false) hn (by rw [outE_map]; exact hs) (fun x hx => by
    have := outE_mem _ ol l hi x hx
    simpa using this)
  rw [outE_len, hl] at h2
  simpa using h2
end
end Go.Proofs.YtndekohimfjdeaaGreatDoor

namespace Go.Proofs.YtndekohimfjdeaaGreatDoor
open Go.RowKit Go.Shelf
theorem eql_nil {P : Program} (w : World) (t e : TypeId) (a : Option Addr) (l c : Nat) (h : P.underlying t = some (.slice e)) : (binOp .eql t (.slice a l c) (.slice none 0 0)).run P w = .ok (.bool a.isNone) w := by
  simp only [binOp]
  simp [run_equal_slice_nil w t e a l c h]
theorem own_empty' (w : World) (e : TypeId) (K : Nat) : (w.alloc (.cells #[] e)).ownsRow w.heap.size e K (.slice (some ⟨w.heap.size, 0, none⟩) 0 0) 0 [] :=
  ⟨by simp, .inr ⟨w.heap.size, 0, #[], rfl, Nat.le_refl _, heap_alloc_new w _, Nat.le_refl _, by decide, by simp, by simp⟩⟩
theorem own_dn {w : World} {base base' K n : Nat} {e : TypeId} {v : Value} {xs : List Value} (h : w.ownsRow base e K v n xs) (hb : base' ≤ base) : w.ownsRow base' e K v n xs := by
  refine ⟨h.1, ?_⟩
  rcases h.2 with hn | ⟨g, cap, cur, e1, hg, rest⟩
  · exact .inl hn
  · exact .inr ⟨g, cap, cur, e1, Nat.le_trans hb hg, rest⟩
theorem info_dg : (Tryz.prog.info? 70).map (fun i => (i.zero, i.size, i.bytes)) = some (some (.agg #[Value.int .u8 0, Value.int .u8 0, Value.int .u8 0, Value.int .u8 0, Value.int .u8 0, Value.int .u8 0, Value.int .u8 0, Value.int .u8 0, Value.int .u8 0, Value.int .u8 0, Value.int .u8 0, Value.int .u8 0, Value.int .u8 0, Value.int .u8 0, Value.int .u8 0, Value.int .u8 0, Value.int .u8 0, Value.int .u8 0, Value.int .u8 0, Value.int .u8 0, Value.int .u8 0, Value.int .u8 0, Value.int .u8 0, Value.int .u8 0, Value.int .u8 0, Value.int .u8 0, Value.int .u8 0, Value.int .u8 0, Value.int .u8 0, Value.int .u8 0, Value.int .u8 0, Value.int .u8 0]), 32, 32) := by kernel_rfl
theorem oneCell_dg (l : List Dg) : ∀ u ∈ l.flatMap Dg.cells, u.oneCell' = true := by
  intro u hu
  obtain ⟨d, _, hd⟩ := List.mem_flatMap.1 hu
  unfold Dg.cells at hd
  obtain ⟨x, _, rfl⟩ := List.mem_map.1 hd
  rfl
set_option maxRecDepth 100000 in
set_option maxHeartbeats 4000000 in
theorem cloneC_v (B : Nat) (A : Option Addr) (n c : Nat) (xs : List Value) (w : World) (hr : Reads w B 2 A n xs) (h1 : ∀ u ∈ xs, u.oneCell' = true) (hB : B ≤ w.heap.size) (hn : n ≤ 1000000) :
    Calls Tryz.prog 60 #[.slice A n c] w fun e w' => ∃ A' c', e = .returned (.slice A' n c') ∧ w'.ownsRow w.heap.size 50 2 (.slice A' n c') n xs ∧ Below w.heap.size w w' := by
  have HR := Lib.hid hr
  have H1 := Lib.hid h1
  have HXL := Lib.hid hr.1
  clear hr h1
  go_enter Tryz.func60, Tryz.ntmps60
  rcases A with _ | ad
  · obtain rfl : n = 0 := by
      rcases Nat.eq_zero_or_pos n with h0 | h0
      · exact h0
      · obtain ⟨ad, e, _⟩ := HR.out.2 h0
        cases e
    have HX0 := Lib.hid (show xs = [] from List.eq_nil_of_length_eq_zero (by have := HXL.out; simpa using this))
    have hnil : (binOp .eql 22 (.slice none 0 c) (.slice none 0 0)).run Tryz.prog w = .ok (.bool true) w := eql_nil w 22 50 none 0 c Tryz.underlying22
    go_wp2_with fail
    go_ret
    exact ⟨none, 0, rfl, by rw [HX0.out]; exact World.ownsRow_nil _ _ _ 2, Below.refl _ _⟩
  · have hnil : (binOp .eql 22 (.slice (some ad) n c) (.slice none 0 0)).run Tryz.prog w = .ok (.bool false) w := eql_nil w 22 50 (some ad) n c Tryz.underlying22
    have OE := Lib.hid (own_empty' w 50 2)
    have BE := Lib.hid ((Below.refl w.heap.size w).alloc (Nat.le_refl _) (.cells #[] 50))
    obtain ⟨i0, hi0, hz0, hz1, hz2⟩ := info_parts info_cnt
    have HRE := Lib.hid (Reads.alloc HR.out hB (.cells #[] 50))
    go_wp2_with (first
      | (refine wpList_append_any (w.alloc (.cells #[] 50)) rfl (.tmp 5) (.tmp 6) 22 rfl w.heap.size 50 i0 _ 2 16 Tryz.underlying22 hi0 hz0 hz1 hz2 rfl (by decide) (.slice (some ⟨w.heap.size, 0, none⟩) 0 0) 0 [] rfl OE.out B (some ad) n c xs rfl HRE.out H1.out (by simp only [maxLen]; omega) (by omega) (by simp) ?_
         intro v' w1 ho1 hg1 _
         rw [Nat.zero_add] at ho1
         obtain ⟨A1, c1, rfl, _⟩ := own_shape ho1)
      | fail)
    have HO1 := Lib.hid ho1
    have HB1 := Lib.hid (BE.out.grown hg1 (by simp) (fun j hj => (OE.out.lt j hj).1))
    clear ho1 hg1
    go_ret
    exact ⟨A1, c1, rfl, HO1.out, HB1.out⟩
set_option maxRecDepth 100000 in
set_option maxHeartbeats 4000000 in
theorem cloneD_v (B : Nat) (A : Option Addr) (n c : Nat) (xs : List Value) (w : World) (hr : Reads w B 32 A n xs) (h1 : ∀ u ∈ xs, u.oneCell' = true) (hB : B ≤ w.heap.size) (hn : n ≤ 1000000) :
    Calls Tryz.prog 61 #[.slice A n c] w fun e w' => ∃ A' c', e = .returned (.slice A' n c') ∧ w'.ownsRow w.heap.size 70 32 (.slice A' n c') n xs ∧ Below w.heap.size w w' := by
  have HR := Lib.hid hr
  have H1 := Lib.hid h1
  have HXL := Lib.hid hr.1
  clear hr h1
  go_enter Tryz.func61, Tryz.ntmps61
  rcases A with _ | ad
  · obtain rfl : n = 0 := by
      rcases Nat.eq_zero_or_pos n with h0 | h0
      · exact h0
      · obtain ⟨ad, e, _⟩ := HR.out.2 h0
        cases e
    have HX0 := Lib.hid (show xs = [] from List.eq_nil_of_length_eq_zero (by have := HXL.out; simpa using this))
    have hnil : (binOp .eql 23 (.slice none 0 c) (.slice none 0 0)).run Tryz.prog w = .ok (.bool true) w := eql_nil w 23 70 none 0 c Tryz.underlying23
    go_wp2_with fail
    go_ret
    exact ⟨none, 0, rfl, by rw [HX0.out]; exact World.ownsRow_nil _ _ _ 32, Below.refl _ _⟩
  · have hnil : (binOp .eql 23 (.slice (some ad) n c) (.slice none 0 0)).run Tryz.prog w = .ok (.bool false) w := eql_nil w 23 70 (some ad) n c Tryz.underlying23
    have OE := Lib.hid (own_empty' w 70 32)
    have BE := Lib.hid ((Below.refl w.heap.size w).alloc (Nat.le_refl _) (.cells #[] 70))
    obtain ⟨i0, hi0, hz0, hz1, hz2⟩ := info_parts info_dg
    have HRE := Lib.hid (Reads.alloc HR.out hB (.cells #[] 70))
    go_wp2_with (first
      | (refine wpList_append_any (w.alloc (.cells #[] 70)) rfl (.tmp 5) (.tmp 6) 23 rfl w.heap.size 70 i0 _ 32 32 Tryz.underlying23 hi0 hz0 hz1 hz2 rfl (by decide) (.slice (some ⟨w.heap.size, 0, none⟩) 0 0) 0 [] rfl OE.out B (some ad) n c xs rfl HRE.out H1.out (by simp only [maxLen]; omega) (by omega) (by simp) ?_
         intro v' w1 ho1 hg1 _
         rw [Nat.zero_add] at ho1
         obtain ⟨A1, c1, rfl, _⟩ := own_shape ho1)
      | fail)
    have HO1 := Lib.hid ho1
    have HB1 := Lib.hid (BE.out.grown hg1 (by simp) (fun j hj => (OE.out.lt j hj).1))
    clear ho1 hg1
    go_ret
    exact ⟨A1, c1, rfl, HO1.out, HB1.out⟩
set_option maxRecDepth 100000 in
set_option maxHeartbeats 8000000 in
theorem recCopy_v (r : Rcd) (a : RSh) (B : Nat) (w : World) (hr : RReads w B r a) (hB : B ≤ w.heap.size) :
    Calls Tryz.prog 34 #[.agg #[.string (st r.path), .slice a.A a.n a.c, .int .i64 r.dev, .bool r.gone, .int .i64 r.size, .int .i64 r.len, .slice a.D a.m a.k]] w fun e w' => ∃ A1 c1 D1 k1, e = .returned (.agg #[.string (st r.path), .slice A1 a.n c1, .int .i64 r.dev, .bool r.gone, .int .i64 r.size, .int .i64 r.len, .slice D1 a.m k1]) ∧ COwn w' w.heap.size A1 a.n c1 r.v ∧ w'.ownsRow w.heap.size 70 32 (.slice D1 a.m k1) a.m (r.ds.flatMap Dg.cells) ∧ Below w.heap.size w w' := by
  have HI := Lib.hid (show (Tryz.prog.info? 27).map (·.size) = some 7 by kernel_rfl)
  have BA := Lib.hid (((Below.refl w.heap.size w).alloc (Nat.le_refl _) (.cells #[.string (st r.path), .slice a.A a.n a.c, .int .i64 r.dev, .bool r.gone, .int .i64 r.size, .int .i64 r.len, .slice a.D a.m a.k] 27)).alloc (by simp) (.cells #[.string ⟨#[]⟩, .slice none 0 0, .int .i64 0, .bool false, .int .i64 0, .int .i64 0, .slice none 0 0] 27))
  have Y := Lib.hid (heap_alloc2_new w (.cells #[.string (st r.path), .slice a.A a.n a.c, .int .i64 r.dev, .bool r.gone, .int .i64 r.size, .int .i64 r.len, .slice a.D a.m a.k] 27) (.cells #[.string ⟨#[]⟩, .slice none 0 0, .int .i64 0, .bool false, .int .i64 0, .int .i64 0, .slice none 0 0] 27))
  have X := Lib.hid (heap_alloc2_old w (.cells #[.string (st r.path), .slice a.A a.n a.c, .int .i64 r.dev, .bool r.gone, .int .i64 r.size, .int .i64 r.len, .slice a.D a.m a.k] 27) (.cells #[.string ⟨#[]⟩, .slice none 0 0, .int .i64 0, .bool false, .int .i64 0, .int .i64 0, .slice none 0 0] 27))
  have HR := Lib.hid hr
  have hn := hr.hn
  have hm := hr.hm
  have hz : ((w.alloc (.cells #[.string (st r.path), .slice a.A a.n a.c, .int .i64 r.dev, .bool r.gone, .int .i64 r.size, .int .i64 r.len, .slice a.D a.m a.k] 27)).alloc (.cells #[.string ⟨#[]⟩, .slice none 0 0, .int .i64 0, .bool false, .int .i64 0, .int .i64 0, .slice none 0 0] 27)).heap.size = w.heap.size + 2 := by simp
  clear hr
  go_enter Tryz.func34, Tryz.ntmps34
  go_upto_region 1 with fail
  generalize (w.alloc (.cells #[.string (st r.path), .slice a.A a.n a.c, .int .i64 r.dev, .bool r.gone, .int .i64 r.size, .int .i64 r.len, .slice a.D a.m a.k] 27)).alloc (.cells #[.string ⟨#[]⟩, .slice none 0 0, .int .i64 0, .bool false, .int .i64 0, .int .i64 0, .slice none 0 0] 27) = w2 at *
  refine wp_region_F 8 [(0, 1), (1, 2), (3, 1), (4, 1), (5, 2), (2, 0), (7, 1), (6, 0), (8, 4), (9, 3), (10, 3), (11, 4)] (fun _ => True) (fun V => V.cell? ⟨w.heap.size, 1, none⟩ = some (.slice a.A a.n a.c) ∧ V.cell? ⟨w.heap.size, 6, none⟩ = some (.slice a.D a.m a.k)) (by kernel_rfl) (by kernel_rfl) (by kernel_rfl) (by kernel_rfl) (by kernel_rfl) (fun _ => ?_)
  simp only [outE, List.getElem?_cons_zero, List.getElem?_cons_succ, Option.getD_some]
  have hF : True := trivial
  replace X := Lib.hid (show w2.drew.heap[w.heap.size]? = some (.cells #[.string (st r.path), .slice a.A a.n a.c, .int .i64 r.dev, .bool r.gone, .int .i64 r.size, .int .i64 r.len, .slice a.D a.m a.k] 27 (0, 0)) from X.out)
  replace Y := Lib.hid (show w2.drew.heap[w.heap.size + 1]? = some (.cells #[.string ⟨#[]⟩, .slice none 0 0, .int .i64 0, .bool false, .int .i64 0, .int .i64 0, .slice none 0 0] 27 (0, 0)) from Y.out)
  replace BA := Lib.hid BA.out.drew
  replace hz : w2.drew.heap.size = w.heap.size + 2 := hz
  have hG : w2.drew.cell? ⟨w.heap.size, 1, none⟩ = some (.slice a.A a.n a.c) ∧ w2.drew.cell? ⟨w.heap.size, 6, none⟩ = some (.slice a.D a.m a.k) := ⟨by rw [cell_of_row _ _ 1 _ _ _ X.out]; rfl, by rw [cell_of_row _ _ 6 _ _ _ X.out]; rfl⟩
  generalize w2.drew = w3 at *
  iterate 1 (refine TF.val1 (v := ?_) ?_ ?_ ?_ ?_ ?_ ?_; rotate_left; (focus rfl); (focus (intro W hSW; (try dsimp only at hSW); (try (obtain ⟨hS1, hSW⟩ := hSW)); (try (obtain ⟨hS2, hSW⟩ := hSW)); (try (obtain ⟨hS3, hSW⟩ := hSW)); (try (obtain ⟨hS4, hSW⟩ := hSW)); (try (obtain ⟨hS5, hSW⟩ := hSW)); (try (obtain ⟨hS6, hSW⟩ := hSW)); (try (obtain ⟨hS7, hSW⟩ := hSW)); (try (obtain ⟨hS8, hSW⟩ := hSW)); go_simp; (try with_reducible rfl); done)); (focus exact fun _ _ _ h => h); (focus exact hF); (focus exact hG); simp only [Act.put, List.setIfInBounds_toArray, List.set_cons_zero, List.set_cons_succ])
  iterate 1 (refine TF.val2 (v := ?_) ?_ ?_ ?_ ?_ ?_ ?_; rotate_left; (focus rfl); (focus (intro W hSW; (try dsimp only at hSW); (try (obtain ⟨hS1, hSW⟩ := hSW)); (try (obtain ⟨hS2, hSW⟩ := hSW)); (try (obtain ⟨hS3, hSW⟩ := hSW)); (try (obtain ⟨hS4, hSW⟩ := hSW)); (try (obtain ⟨hS5, hSW⟩ := hSW)); (try (obtain ⟨hS6, hSW⟩ := hSW)); (try (obtain ⟨hS7, hSW⟩ := hSW)); (try (obtain ⟨hS8, hSW⟩ := hSW)); go_simp; (try with_reducible rfl); done)); (focus exact fun _ _ _ h => h); (focus exact hF); (focus exact hG); simp only [Act.put, List.setIfInBounds_toArray, List.set_cons_zero, List.set_cons_succ])
  iterate 2 (refine TF.val1 (v := ?_) ?_ ?_ ?_ ?_ ?_ ?_; rotate_left; (focus rfl); (focus (intro W hSW; (try dsimp only at hSW); (try (obtain ⟨hS1, hSW⟩ := hSW)); (try (obtain ⟨hS2, hSW⟩ := hSW)); (try (obtain ⟨hS3, hSW⟩ := hSW)); (try (obtain ⟨hS4, hSW⟩ := hSW)); (try (obtain ⟨hS5, hSW⟩ := hSW)); (try (obtain ⟨hS6, hSW⟩ := hSW)); (try (obtain ⟨hS7, hSW⟩ := hSW)); (try (obtain ⟨hS8, hSW⟩ := hSW)); go_simp; (try with_reducible rfl); done)); (focus exact fun _ _ _ h => h); (focus exact hF); (focus exact hG); simp only [Act.put, List.setIfInBounds_toArray, List.set_cons_zero, List.set_cons_succ])
  iterate 1 (refine TF.val2 (v := ?_) ?_ ?_ ?_ ?_ ?_ ?_; rotate_left; (focus rfl); (focus (intro W hSW; (try dsimp only at hSW); (try (obtain ⟨hS1, hSW⟩ := hSW)); (try (obtain ⟨hS2, hSW⟩ := hSW)); (try (obtain ⟨hS3, hSW⟩ := hSW)); (try (obtain ⟨hS4, hSW⟩ := hSW)); (try (obtain ⟨hS5, hSW⟩ := hSW)); (try (obtain ⟨hS6, hSW⟩ := hSW)); (try (obtain ⟨hS7, hSW⟩ := hSW)); (try (obtain ⟨hS8, hSW⟩ := hSW)); go_simp; (try with_reducible rfl); done)); (focus exact fun _ _ _ h => h); (focus exact hF); (focus exact hG); simp only [Act.put, List.setIfInBounds_toArray, List.set_cons_zero, List.set_cons_succ])
  refine TF.eff0 (by rfl) (fun K hK => ?_); go_simp
  refine (cloneC_v B a.A a.n a.c (cntsC r.v) w3 (Reads.below HR.out.cs (BA.out.mono hB)) (oneCell_cnt r.v) (by omega) hn).mono ?_
  rintro e w4 ⟨A1, c1, rfl, o1, b1⟩
  replace X := Lib.hid ((b1.block w.heap.size (by omega)).trans X.out)
  replace Y := Lib.hid ((b1.block (w.heap.size + 1) (by omega)).trans Y.out)
  replace BA := Lib.hid (BA.out.trans (b1.mono (by omega)))
  have hz4 : w.heap.size + 2 ≤ w4.heap.size := by have := b1.size; omega
  have hnc : a.n ≤ c1 := by obtain ⟨_, _, e1, e2⟩ := own_shape o1; injection e1 with _ _ e3; omega
  have O1 := Lib.hid (show COwn w4 w3.heap.size A1 a.n c1 r.v from ⟨o1, hnc⟩)
  clear b1 o1 hG
  have hG : w4.cell? ⟨w.heap.size, 1, none⟩ = some (.slice a.A a.n a.c) ∧ w4.cell? ⟨w.heap.size, 6, none⟩ = some (.slice a.D a.m a.k) := ⟨by rw [cell_of_row _ _ 1 _ _ _ X.out]; rfl, by rw [cell_of_row _ _ 6 _ _ _ X.out]; rfl⟩
  refine hK.out _ _ hF hG ?_
  clear hK
  (try simp only [Act.put, List.setIfInBounds_toArray, List.set_cons_zero, List.set_cons_succ])
  iterate 1 (refine TF.val1 (v := ?_) ?_ ?_ ?_ ?_ ?_ ?_; rotate_left; (focus rfl); (focus (intro W hSW; (try dsimp only at hSW); (try (obtain ⟨hS1, hSW⟩ := hSW)); (try (obtain ⟨hS2, hSW⟩ := hSW)); (try (obtain ⟨hS3, hSW⟩ := hSW)); (try (obtain ⟨hS4, hSW⟩ := hSW)); (try (obtain ⟨hS5, hSW⟩ := hSW)); (try (obtain ⟨hS6, hSW⟩ := hSW)); (try (obtain ⟨hS7, hSW⟩ := hSW)); (try (obtain ⟨hS8, hSW⟩ := hSW)); go_simp; (try with_reducible rfl); done)); (focus exact fun _ _ _ h => h); (focus exact hF); (focus exact hG); simp only [Act.put, List.setIfInBounds_toArray, List.set_cons_zero, List.set_cons_succ])
  refine TF.eff0 (by rfl) (fun K hK => ?_); go_simp
  refine (cloneD_v B a.D a.m a.k (r.ds.flatMap Dg.cells) w4 (HR.out.dg.below (BA.out.mono hB)) (oneCell_dg r.ds) (by omega) hm).mono ?_
  rintro e w5 ⟨D1, k1, rfl, o2, b2⟩
  replace X := Lib.hid ((b2.block w.heap.size (by omega)).trans X.out)
  replace Y := Lib.hid ((b2.block (w.heap.size + 1) (by omega)).trans Y.out)
  replace BA := Lib.hid (BA.out.trans (b2.mono (by omega)))
  have O1' := Lib.hid (O1.out.below b2)
  have hz5 : w.heap.size + 2 ≤ w5.heap.size := by have := b2.size; omega
  have O2 := Lib.hid (own_dn o2 (show w.heap.size + 2 ≤ w4.heap.size from hz4))
  clear b2 o2 hG O1
  have hG : w5.cell? ⟨w.heap.size, 1, none⟩ = some (.slice a.A a.n a.c) ∧ w5.cell? ⟨w.heap.size, 6, none⟩ = some (.slice a.D a.m a.k) := ⟨by rw [cell_of_row _ _ 1 _ _ _ X.out]; rfl, by rw [cell_of_row _ _ 6 _ _ _ X.out]; rfl⟩
  refine hK.out _ _ hF hG ?_
  clear hK
  (try simp only [Act.put, List.setIfInBounds_toArray, List.set_cons_zero, List.set_cons_succ])
  have k1' : w5.cell? ⟨w.heap.size, 1, none⟩ = some (.slice a.A a.n a.c) := hG.1
  have f1 := frozen_of_row _ w.heap.size 1 _ _ X.out
  replace X := Lib.hid (show (w5.setCell ⟨w.heap.size, 1, none⟩ (.slice A1 a.n c1)).heap[w.heap.size]? = some (.cells #[.string (st r.path), .slice A1 a.n c1, .int .i64 r.dev, .bool r.gone, .int .i64 r.size, .int .i64 r.len, .slice a.D a.m a.k] 27 (0, 0)) from heap_setCell_same _ w.heap.size 1 _ _ (.slice A1 a.n c1) X.out)
  replace Y := Lib.hid ((Below.heap_setCell w5 ⟨w.heap.size, 1, none⟩ (.slice A1 a.n c1) (w.heap.size + 1) (by simp)).trans Y.out)
  clear hG
  have B1 := Lib.hid (BA.out.setCell (p := ⟨w.heap.size, 1, none⟩) (Nat.le_refl _) (.slice A1 a.n c1))
  have P1 := Lib.hid (show (w5.setCell ⟨w.heap.size, 1, none⟩ (.slice A1 a.n c1)).ownsRow (w.heap.size + 2) 50 2 (.slice A1 a.n c1) a.n (cntsC r.v) from own_dn (own_keep O1'.out.1 (fun j hj => Below.heap_setCell w5 _ _ j (by have := (O1'.out.1.lt j hj).1; simp; omega))) (by omega))
  have P2 := Lib.hid (own_keep O2.out (w' := w5.setCell ⟨w.heap.size, 1, none⟩ (.slice A1 a.n c1)) (fun j hj => Below.heap_setCell w5 _ _ j (by have := (O2.out.lt j hj).1; simp; omega)))
  refine TF.eff4 (by rfl) (fun K hK => ?_); go_simp
  refine hK.out _ _ hF ?_
  clear hK O1' O2 k1' f1 BA
  (try simp only [Act.put, List.setIfInBounds_toArray, List.set_cons_zero, List.set_cons_succ])
  generalize w5.setCell ⟨w.heap.size, 1, none⟩ (.slice A1 a.n c1) = w6 at *
  iterate 2 (refine TF.val3 (v := ?_) ?_ ?_ ?_ ?_ ?_; rotate_left; (focus rfl); (focus (intro W hSW; (try dsimp only at hSW); (try (obtain ⟨hS1, hSW⟩ := hSW)); (try (obtain ⟨hS2, hSW⟩ := hSW)); (try (obtain ⟨hS3, hSW⟩ := hSW)); (try (obtain ⟨hS4, hSW⟩ := hSW)); (try (obtain ⟨hS5, hSW⟩ := hSW)); (try (obtain ⟨hS6, hSW⟩ := hSW)); (try (obtain ⟨hS7, hSW⟩ := hSW)); (try (obtain ⟨hS8, hSW⟩ := hSW)); go_simp; (try with_reducible rfl); done)); (focus exact fun _ _ _ h => h); (focus exact hF); simp only [Act.put, List.setIfInBounds_toArray, List.set_cons_zero, List.set_cons_succ])
  have k6 : w6.cell? ⟨w.heap.size, 6, none⟩ = some (.slice a.D a.m a.k) := by rw [cell_of_row _ _ 6 _ _ _ X.out]; rfl
  have f6 := frozen_of_row _ w.heap.size 6 _ _ X.out
  replace X := Lib.hid (show (w6.setCell ⟨w.heap.size, 6, none⟩ (.slice D1 a.m k1)).heap[w.heap.size]? = some (.cells #[.string (st r.path), .slice A1 a.n c1, .int .i64 r.dev, .bool r.gone, .int .i64 r.size, .int .i64 r.len, .slice D1 a.m k1] 27 (0, 0)) from heap_setCell_same _ w.heap.size 6 _ _ (.slice D1 a.m k1) X.out)
  replace Y := Lib.hid ((Below.heap_setCell w6 ⟨w.heap.size, 6, none⟩ (.slice D1 a.m k1) (w.heap.size + 1) (by simp)).trans Y.out)
  have B2 := Lib.hid (B1.out.setCell (p := ⟨w.heap.size, 6, none⟩) (Nat.le_refl _) (.slice D1 a.m k1))
  have Q1 := Lib.hid (own_keep P1.out (w' := w6.setCell ⟨w.heap.size, 6, none⟩ (.slice D1 a.m k1)) (fun j hj => Below.heap_setCell w6 _ _ j (by have := (P1.out.lt j hj).1; simp; omega)))
  have Q2 := Lib.hid (own_keep P2.out (w' := w6.setCell ⟨w.heap.size, 6, none⟩ (.slice D1 a.m k1)) (fun j hj => Below.heap_setCell w6 _ _ j (by have := (P2.out.lt j hj).1; simp; omega)))
  refine TF.eff4 (by rfl) (fun K hK => ?_); go_simp
  refine hK.out _ _ hF ?_
  clear hK P1 P2 k6 f6 B1
  (try simp only [Act.put, List.setIfInBounds_toArray, List.set_cons_zero, List.set_cons_succ])
  generalize w6.setCell ⟨w.heap.size, 6, none⟩ (.slice D1 a.m k1) = w7 at *
  refine TF.done ?_
  clear hF
  have XS := Lib.hid (setRow_heap w7 (w.heap.size + 1) _ #[.string (st r.path), .slice A1 a.n c1, .int .i64 r.dev, .bool r.gone, .int .i64 r.size, .int .i64 r.len, .slice D1 a.m k1] _ _ Y.out)
  have BS := Lib.hid (below_setRow B2.out (show w.heap.size ≤ w.heap.size + 1 by omega) #[.string (st r.path), .slice A1 a.n c1, .int .i64 r.dev, .bool r.gone, .int .i64 r.size, .int .i64 r.len, .slice D1 a.m k1])
  have S1 := Lib.hid (show COwn (w7.setRow (w.heap.size + 1) #[.string (st r.path), .slice A1 a.n c1, .int .i64 r.dev, .bool r.gone, .int .i64 r.size, .int .i64 r.len, .slice D1 a.m k1]) w.heap.size A1 a.n c1 r.v from ⟨own_dn (own_keep Q1.out (fun j hj => setRow_other _ _ _ _ (by have := (Q1.out.lt j hj).1; omega))) (by omega), hnc⟩)
  have S2 := Lib.hid (own_dn (own_keep Q2.out (w' := w7.setRow (w.heap.size + 1) #[.string (st r.path), .slice A1 a.n c1, .int .i64 r.dev, .bool r.gone, .int .i64 r.size, .int .i64 r.len, .slice D1 a.m k1]) (fun j hj => setRow_other _ _ _ _ (by have := (Q2.out.lt j hj).1; omega))) (show w.heap.size ≤ w.heap.size + 2 by omega))
  go_wp2_with (first
    | (refine wpList_load_row rfl 27 (.tmp 1) rfl w.heap.size rfl 27 _ (0, 0) _ X.out Tryz.underlying27 rfl HI.out ?_)
    | (refine wpList_store_row rfl 27 (.tmp 2) (.tmp 13) rfl (w.heap.size + 1) #[.string (st r.path), .slice A1 a.n c1, .int .i64 r.dev, .bool r.gone, .int .i64 r.size, .int .i64 r.len, .slice D1 a.m k1] rfl rfl 27 _ Y.out HI.out rfl (by simp [Value.oneCell']) ?_)
    | fail)
  exact bodyPost_ret (results_cell_row Tryz.results34 _ _ (w.heap.size + 1) _ #[.string (st r.path), .slice A1 a.n c1, .int .i64 r.dev, .bool r.gone, .int .i64 r.size, .int .i64 r.len, .slice D1 a.m k1] _ _ rfl XS.out Tryz.underlying27 rfl HI.out) rfl ⟨A1, c1, D1, k1, rfl, S1.out, S2.out, BS.out⟩
end Go.Proofs.YtndekohimfjdeaaGreatDoor

namespace Go.Proofs.YtndekohimfjdeaaGreatDoor
section
variable {P : Program} {ops : Array Oper} {Q : Exit → Act → World → Prop} {F G : World → Prop} {e n : Nat} {listed : Array Bool} {a : Act} {w : World}
def TS (P : Program) (ops : Array Oper) (Q : Exit → Act → World → Prop) (F G : World → Prop) (e n : Nat) (listed : Array Bool) (a : Act) (w : World) : Prop := wpAnyE P ops Q F G e n listed a w
/-- Number i comes up next: ahead of e. -/
def TSE (P : Program) (ops : Array Oper) (Q : Exit → Act → World → Prop) (F G : World → Prop) (e n : Nat) (listed : Array Bool) (a : Act) (w : World) (i : Nat) : Prop :=
  ∃ o, ops[i]? = some o ∧ Region.wanted o (yielded ops a.tmps) = true ∧ ∀ K : Act → World → Prop, RowKit.Hid (∀ a' w', SS F G e (listed.setIfInBounds i true) w' → TS P ops Q F G e n (listed.setIfInBounds i true) a' w' → K a' w') → Oper.wp P o a w K Q
theorem TS.all (rs : List Nat) (hr : Region.ready .any ops listed = rs) (hne : rs ≠ []) (h : ∀ i ∈ rs, TSE P ops Q F G e n listed a w i) : TS P ops Q F G e (n + 1) listed a w := by
  subst hr
  refine ⟨fun h0 => absurd h0 hne, fun i hi => ?_⟩
  obtain ⟨o, ho, hw, hk⟩ := h i hi
  unfold wpOp
  simp only [ho, hw, if_true]
  exact .inl (hk _ fun a' w' hS' hT => ⟨hS', hT⟩)
theorem TS.all1 (i : Nat) (hr : Region.ready .any ops listed = [i]) (h : TSE P ops Q F G e n listed a w i) : TS P ops Q F G e (n + 1) listed a w := TS.all [i] hr (by simp) fun j hj => by
  obtain rfl : j = i := by simpa using hj
  exact h
theorem TS.all2 (i j : Nat) (hr : Region.ready .any ops listed = [i, j]) (h : TSE P ops Q F G e n listed a w i) (h' : TSE P ops Q F G e n listed a w j) : TS P ops Q F G e (n + 1) listed a w := TS.all [i, j] hr (by simp) fun x hx => by
  rcases (show x = i ∨ x = j by simpa using hx) with rfl | rfl
  · exact h
  · exact h'
/-- A read under F alone. -/
theorem TS.val1 {v : Value} (i : Nat) (o : Oper) (ho : ops[i]? = some o) (hn : Region.noSelect ops = true) (hf : (Region.free .any ops listed i && (Region.ready .any ops listed).contains i && decide (e ≠ i)) = true) (hw : Region.wanted o (yielded ops a.tmps) = true)
    (hy : ∀ w, F w → (execOp a.eval o).run P w = .ok (.value v) w) (hQ : ∀ c a w, Q (.panic c) (a.put o.dst v) w → Q (.panic c) a w) (hS : SS F G e listed w) (h : TS P ops Q F G e n (listed.setIfInBounds i true) (a.put o.dst v) w) : TS P ops Q F G e (n + 1) listed a w := by
  simp only [Bool.and_eq_true, decide_eq_true_eq] at hf
  exact wpAnyF_first (K := []) (S := F) ho (Region.noSelect_spec hn) hQ hf.2 (.inl fun _ h => h) _ _ _ _ (Region.free_spec ho hf.1.1) (by simpa using hf.1.2) (.inl ⟨hw, hy⟩) hS (.inl fun _ h => h) h
/-- A read under F and G, ahead of e. -/
theorem TS.val2 {v : Value} (i : Nat) (o : Oper) (ho : ops[i]? = some o) (hn : Region.noSelect ops = true) (hf : (Region.free .any ops listed i && (Region.ready .any ops listed).contains i && decide (e ≠ i) && edgeF ops listed e i) = true) (hw : Region.wanted o (yielded ops a.tmps) = true)
    (hy : ∀ w, (F w ∧ G w) → (execOp a.eval o).run P w = .ok (.value v) w) (hQ : ∀ c a w, Q (.panic c) (a.put o.dst v) w → Q (.panic c) a w) (hS : SS F G e listed w) (h : TS P ops Q F G e n (listed.setIfInBounds i true) (a.put o.dst v) w) : TS P ops Q F G e (n + 1) listed a w := by
  simp only [Bool.and_eq_true, decide_eq_true_eq] at hf
  have h2 := hf.2
  unfold edgeF at h2
  rw [Bool.and_eq_true] at h2
  have hK : ∀ k ∈ blocked ops listed i, listed.getD k true = false ∧ ∃ ok, ops[k]? = some ok ∧ ∃ x ∈ ok.after, Region.binds .any x = true ∧ (x.on = i ∨ x.on ∈ blocked ops listed i) := by
    intro k hk
    have h3 := List.all_eq_true.1 h2.2 k hk
    simp only [Bool.and_eq_true, beq_iff_eq] at h3
    refine ⟨h3.1, ?_⟩
    have h4 := h3.2
    unfold edgeK at h4
    split at h4
    · rename_i ok hok
      obtain ⟨x, hx, hb⟩ := Array.any_eq_true'.1 h4
      simp only [Bool.and_eq_true, List.contains_iff_mem, List.mem_cons] at hb
      exact ⟨ok, hok, x, hx, hb.1, hb.2⟩
    · cases h4
  exact wpAnyF_first (K := blocked ops listed i) (S := fun w => F w ∧ G w) ho (Region.noSelect_spec hn) hQ hf.1.2 (.inr ⟨fun _ h h' => ⟨h, h'⟩, by simpa using h2.1, fun k hk => (hK k hk).2⟩) _ _ _ _ (Region.free_spec ho hf.1.1.1) (by simpa using hf.1.1.2) (.inl ⟨hw, hy⟩) hS (.inr fun k hk => (hK k hk).1) h
theorem TS.done (hr : Region.ready .any ops listed = []) (h : Q .normal a w) : TS P ops Q F G e 0 listed a w := ⟨hr, h⟩
theorem wp_region_ts {id : Nat} {ol : List Oper} {a : Act} {w : World} (F G : World → Prop) (e m : Nat) (listed : Array Bool) (hm : P.follows .mixedOrders = true) (hl : ol.length = m) (hi : Array.replicate ol.length false = listed) (h : TS P ol.toArray Q F G e m listed a w.drew) : (Code.region id ol.toArray true).wp P Q a w := by
  refine wp_region_any hm ?_
  subst hl
  subst hi
  exact wpAny_of_E (F := F) (G := G) (e := e) _ _ _ _ h
end
end Go.Proofs.YtndekohimfjdeaaGreatDoor
