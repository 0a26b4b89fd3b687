/-
  Winner: the order of versions; rows of records; which two may be held against each other; which of two wins.
-/
import Derived.Test.YtndekohimfjdeaaDoorRecD
namespace Go.Proofs.YtndekohimfjdeaaDoor
open Go.RowKit Go.Shelf
theorem add_hd (g j : Nat) : (⟨g, 0, none⟩ : Addr).add j = ⟨g, j, none⟩ := by unfold Addr.add; by_cases hj : j = 0 <;> simp [hj]
/-- A record's cells. -/
def rcC (x : Rcd × RSh) : List Value := [.string (st x.1.path), .slice x.2.A x.2.n x.2.c, .int .i64 x.1.dev, .bool x.1.gone, .int .i64 x.1.size, .int .i64 x.1.len, .slice x.2.D x.2.m x.2.k]
theorem rcC_len (x : Rcd × RSh) : (rcC x).length = 7 := rfl
theorem rcC_arr (x : Rcd × RSh) : (rcC x).toArray = #[.string (st x.1.path), .slice x.2.A x.2.n x.2.c, .int .i64 x.1.dev, .bool x.1.gone, .int .i64 x.1.size, .int .i64 x.1.len, .slice x.2.D x.2.m x.2.k] := rfl
/-- A slice of records reads as these. -/
structure RRows (w : World) (B : Nat) (A : Option Addr) (n : Nat) (l : List (Rcd × RSh)) : Prop where
  rd : Reads w B 7 A n (l.flatMap rcC)
  al : ∀ x ∈ l, RReads w B x.1 x.2
section
variable {w w' : World} {B n : Nat} {A : Option Addr} {l : List (Rcd × RSh)}
theorem RRows.len (h : RRows w B A n l) : l.length = n := by
  have h1 := h.rd.1
  rw [flat_len rcC_len] at h1
  omega
theorem RRows.below (h : RRows w B A n l) (hb : Below B w w') : RRows w' B A n l := ⟨Reads.below h.rd hb, fun x hx => (h.al x hx).below hb⟩
theorem RRows.more {B' : Nat} (h : RRows w B A n l) (hb : B ≤ B') : RRows w B' A n l := ⟨Reads.more h.rd hb, fun x hx => (h.al x hx).more hb⟩
theorem RRows.at_ {k : Nat} (h : RRows w B A n l) (hk : k < n) :
    ∃ ad x, A = some ad ∧ l[k]? = some x ∧ RReads w B x.1 x.2 ∧ ∀ W, Below B w W → ∀ j u, (rcC x)[j]? = some u → W.cell? ((ad.add (k * 7)).add j) = some u := by
  have hl : k < l.length := by rw [h.len]; exact hk
  obtain ⟨ad, e, hb, hc⟩ := h.rd.2 (by omega)
  refine ⟨ad, l[k], e, List.getElem?_eq_getElem hl, h.al _ (List.getElem_mem hl), fun W hW j u hu => ?_⟩
  have hj : j < 7 := by
    have := (List.getElem?_eq_some_iff.1 hu).1
    rwa [rcC_len] at this
  rw [add_of_add]
  refine (hW.cell (p := ad.add (k * 7 + j)) (by rw [block_of_add]; exact hb)).trans (hc _ u ?_)
  rw [flat_at rcC_len l (List.getElem?_eq_getElem hl) hj]
  exact hu
end
set_option maxRecDepth 100000 in
set_option maxHeartbeats 8000000 in
theorem total_v (r q : Rcd) (a b : RSh) (B : Nat) (w : World) (hr : RReads w B r a) (hq : RReads w B q b) (hB : B ≤ w.heap.size) :
    Calls Tryd.prog 54 #[.agg #[.string (st r.path), .slice a.A a.n a.c, .int .i64 r.dev, .bool r.gone, .int .i64 r.size, .int .i64 r.len, .slice a.D a.m a.k], .agg #[.string (st q.path), .slice b.A b.n b.c, .int .i64 q.dev, .bool q.gone, .int .i64 q.size, .int .i64 q.len, .slice b.D b.m b.k]] w fun e w' => e = .returned (.int .i64 (ordV r.v q.v)) ∧ Below w.heap.size w w' := by
  have BA := Lib.hid (((Below.refl w.heap.size w).alloc (Nat.le_refl _) (.cells #[.string (st r.path), .slice a.A a.n a.c, .int .i64 r.dev, .bool r.gone, .int .i64 r.size, .int .i64 r.len, .slice a.D a.m a.k] 61)).alloc (by simp) (.cells #[.string (st q.path), .slice b.A b.n b.c, .int .i64 q.dev, .bool q.gone, .int .i64 q.size, .int .i64 q.len, .slice b.D b.m b.k] 61))
  have Y := Lib.hid (heap_alloc2_new w (.cells #[.string (st r.path), .slice a.A a.n a.c, .int .i64 r.dev, .bool r.gone, .int .i64 r.size, .int .i64 r.len, .slice a.D a.m a.k] 61) (.cells #[.string (st q.path), .slice b.A b.n b.c, .int .i64 q.dev, .bool q.gone, .int .i64 q.size, .int .i64 q.len, .slice b.D b.m b.k] 61))
  have X := Lib.hid (heap_alloc2_old w (.cells #[.string (st r.path), .slice a.A a.n a.c, .int .i64 r.dev, .bool r.gone, .int .i64 r.size, .int .i64 r.len, .slice a.D a.m a.k] 61) (.cells #[.string (st q.path), .slice b.A b.n b.c, .int .i64 q.dev, .bool q.gone, .int .i64 q.size, .int .i64 q.len, .slice b.D b.m b.k] 61))
  have hn := hr.hn
  have hm := hq.hn
  have HR := Lib.hid hr
  have HQ := Lib.hid hq
  clear hr hq
  have c1 := cell_of_row _ _ 1 _ _ _ X.out
  have c2 := cell_of_row _ _ 1 _ _ _ Y.out
  go_enter Tryd.func54, Tryd.ntmps54
  go_wp2_with fail
  have hz := BA.out.size
  refine (order_v B a.A b.A a.n a.c b.n b.c r.v q.v _ (Reads.below HR.out.cs (BA.out.mono hB)) (Reads.below HQ.out.cs (BA.out.mono hB)) (by omega) (by omega) (by omega) HR.out.ft HQ.out.ft).mono ?_
  rintro e w1 ⟨rfl, b1⟩
  have B1 := Lib.hid (BA.out.trans (b1.mono hz))
  clear b1
  go_wp2
  go_ret
  exact ⟨rfl, B1.out⟩
set_option maxRecDepth 100000 in
set_option maxHeartbeats 8000000 in
theorem beats_v (r q : Rcd) (a b : RSh) (B : Nat) (w : World) (hr : RReads w B r a) (hq : RReads w B q b) (hB : B ≤ w.heap.size) :
    Calls Tryd.prog 35 #[.agg #[.string (st r.path), .slice a.A a.n a.c, .int .i64 r.dev, .bool r.gone, .int .i64 r.size, .int .i64 r.len, .slice a.D a.m a.k], .agg #[.string (st q.path), .slice b.A b.n b.c, .int .i64 q.dev, .bool q.gone, .int .i64 q.size, .int .i64 q.len, .slice b.D b.m b.k]] w fun e w' => e = .returned (.bool (decide (0 < ordV r.v q.v))) ∧ Below w.heap.size w w' := by
  have HI := Lib.hid (show (Tryd.prog.info? 61).map (·.size) = some 7 by kernel_rfl)
  have BA := Lib.hid (((Below.refl w.heap.size w).alloc (Nat.le_refl _) (.cells #[.string (st r.path), .slice a.A a.n a.c, .int .i64 r.dev, .bool r.gone, .int .i64 r.size, .int .i64 r.len, .slice a.D a.m a.k] 61)).alloc (by simp) (.cells #[.string (st q.path), .slice b.A b.n b.c, .int .i64 q.dev, .bool q.gone, .int .i64 q.size, .int .i64 q.len, .slice b.D b.m b.k] 61))
  have Y := Lib.hid (heap_alloc2_new w (.cells #[.string (st r.path), .slice a.A a.n a.c, .int .i64 r.dev, .bool r.gone, .int .i64 r.size, .int .i64 r.len, .slice a.D a.m a.k] 61) (.cells #[.string (st q.path), .slice b.A b.n b.c, .int .i64 q.dev, .bool q.gone, .int .i64 q.size, .int .i64 q.len, .slice b.D b.m b.k] 61))
  have X := Lib.hid (heap_alloc2_old w (.cells #[.string (st r.path), .slice a.A a.n a.c, .int .i64 r.dev, .bool r.gone, .int .i64 r.size, .int .i64 r.len, .slice a.D a.m a.k] 61) (.cells #[.string (st q.path), .slice b.A b.n b.c, .int .i64 q.dev, .bool q.gone, .int .i64 q.size, .int .i64 q.len, .slice b.D b.m b.k] 61))
  have HR := Lib.hid hr
  have HQ := Lib.hid hq
  have hz : ((w.alloc (.cells #[.string (st r.path), .slice a.A a.n a.c, .int .i64 r.dev, .bool r.gone, .int .i64 r.size, .int .i64 r.len, .slice a.D a.m a.k] 61)).alloc (.cells #[.string (st q.path), .slice b.A b.n b.c, .int .i64 q.dev, .bool q.gone, .int .i64 q.size, .int .i64 q.len, .slice b.D b.m b.k] 61)).heap.size = w.heap.size + 2 := by simp
  clear hr hq
  go_enter Tryd.func35, Tryd.ntmps35
  go_upto_region 1 with fail
  generalize (w.alloc (.cells #[.string (st r.path), .slice a.A a.n a.c, .int .i64 r.dev, .bool r.gone, .int .i64 r.size, .int .i64 r.len, .slice a.D a.m a.k] 61)).alloc (.cells #[.string (st q.path), .slice b.A b.n b.c, .int .i64 q.dev, .bool q.gone, .int .i64 q.size, .int .i64 q.len, .slice b.D b.m b.k] 61) = w2 at *
  go_wp2
  have B3 := Lib.hid (BA.out.trans ((Below.refl w2.heap.size w2).alloc (Nat.le_refl _) (.cells #[.func (.func 54) #[] #[]] 78) |>.mono (by omega)))
  have Z3 := Lib.hid (heap_alloc_new w2 (.cells #[.func (.func 54) #[] #[]] 78))
  have X3 := Lib.hid ((Below.heap_alloc w2 (.cells #[.func (.func 54) #[] #[]] 78) w.heap.size (by omega)).trans X.out)
  have Y3 := Lib.hid ((Below.heap_alloc w2 (.cells #[.func (.func 54) #[] #[]] 78) (w.heap.size + 1) (by omega)).trans Y.out)
  have hz3 : (w2.alloc (.cells #[.func (.func 54) #[] #[]] 78)).heap.size = w.heap.size + 3 := by simp [hz]
  rw [hz] at Z3
  generalize w2.alloc (.cells #[.func (.func 54) #[] #[]] 78) = w3 at *
  clear BA X Y hz
  go_loopw [10] (fun i wr => ∃ k : Nat, k ≤ 1 ∧ i = .int .i64 (k : Int) ∧ (k = 1 → ordV r.v q.v = 0) ∧ Below w3.heap.size w3 wr) (fun i _ => 1 - (intOf i).toNat)
  case atStart => exact ⟨0, by omega, rfl, fun h => by omega, Below.refl _ _⟩
  case round =>
    obtain ⟨k, hk, rfl, ho, hb⟩ := hrel
    by_cases hlt : k < 1
    · obtain rfl : k = 0 := by omega
      clear ho hk hlt
      have XW := Lib.hid ((hb.block w.heap.size (by omega)).trans X3.out)
      have YW := Lib.hid ((hb.block (w.heap.size + 1) (by omega)).trans Y3.out)
      have c0 : wr.cell? ⟨w.heap.size + 2, 0, none⟩ = some (.func (.func 54) #[] #[]) := by rw [cell_of_row _ _ 0 _ _ _ ((hb.block (w.heap.size + 2) (by omega)).trans Z3.out)]; rfl
      go_wp2_with (first
        | (refine wpList_load_row rfl 61 (.tmp 2) rfl w.heap.size rfl 61 _ (0, 0) _ XW.out Tryd.underlying61 rfl HI.out ?_)
        | (refine wpList_load_row rfl 61 (.tmp 3) rfl (w.heap.size + 1) rfl 61 _ (0, 0) _ YW.out Tryd.underlying61 rfl HI.out ?_)
        | fail)
      have E1 := Lib.hid (B3.out.trans (hb.mono (by omega)))
      have hzr : w.heap.size + 3 ≤ wr.heap.size := by have := hb.size; omega
      refine (total_v r q a b B wr (HR.out.below (E1.out.mono hB)) (HQ.out.below (E1.out.mono hB)) (by omega)).mono ?_
      rintro e w4 ⟨rfl, b4⟩
      have E2 := Lib.hid (hb.trans (b4.mono (by omega)))
      have E3 := Lib.hid (E1.out.trans (b4.mono (by omega)))
      clear b4 hb
      by_cases h1 : ordV r.v q.v = 0
      · have d1 : (ordV r.v q.v != 0) = false := by rw [bne_eq_false_iff_eq]; exact h1
        have HO := Lib.hid h1
        clear h1
        go_wp2
        go_roundw
        case rel => exact ⟨1, by omega, by go_num, fun _ => HO.out, E2.out⟩
        case measure => simp [intOf]
      · have d1 : (ordV r.v q.v != 0) = true := by rw [bne_iff_ne]; exact h1
        clear h1
        cases d2 : decide (0 < ordV r.v q.v)
        all_goals
          have HD := Lib.hid d2
          go_wp2
          go_ret
          first
          | exact ⟨rfl, E3.out⟩
          | exact ⟨by rw [HD.out]; rfl, E3.out⟩
    · obtain rfl : k = 1 := by omega
      have h1 := ho rfl
      have HF := Lib.hid (show decide (0 < ordV r.v q.v) = false by rw [h1]; rfl)
      have E1 := Lib.hid (B3.out.trans (hb.mono (by omega)))
      clear ho hk hlt h1 hb
      go_wp2
      go_ret
      exact ⟨by rw [HF.out]; rfl, E1.out⟩
theorem flat2 (x y : Rcd × RSh) : [x, y].flatMap rcC = rcC x ++ rcC y := by simp
theorem rows2 {w : World} {B g : Nat} {x y : Rcd × RSh} {t : TypeId} {fr : Nat × Nat} (h : w.heap[g]? = some (.cells (rcC x ++ rcC y).toArray t fr)) (hg : g < B) (hx : RReads w B x.1 x.2) (hy : RReads w B y.1 y.2) :
    RRows w B (some ⟨g, 0, none⟩) 2 [x, y] := by
  refine ⟨⟨rfl, fun _ => ⟨_, rfl, hg, fun j u hu => ?_⟩⟩, fun z hz => ?_⟩
  · rw [flat2] at hu
    exact rcells_at (o := 0) h (fun j v hv => by simpa using hv) j u hu
  · rcases List.mem_cons.1 hz with rfl | hz
    · exact hx
    · rw [List.mem_singleton.1 hz]; exact hy
theorem st_ne {p q : Bl} (h : p ≠ q) : ((st p).toList == (st q).toList) = false := by
  rw [beq_eq_false_iff_ne, ByteArray.toList_eq, ByteArray.toList_eq]
  exact h
/-- Why two may not be held against each other. -/
def twoE (r q : Rcd) : Nat := if okR r ≠ 0 then okR r else if okR q ≠ 0 then okR q else if r.path = q.path then 0 else 2
set_option maxRecDepth 100000 in
set_option maxHeartbeats 8000000 in
theorem wcheck_v (r q : Rcd) (a b : RSh) (B : Nat) (w : World) (he : EnvM w) (hr : RReads w B r a) (hq : RReads w B q b) (hB : B ≤ w.heap.size) :
    Calls Tryd.prog 37 #[.agg #[.string (st r.path), .slice a.A a.n a.c, .int .i64 r.dev, .bool r.gone, .int .i64 r.size, .int .i64 r.len, .slice a.D a.m a.k], .agg #[.string (st q.path), .slice b.A b.n b.c, .int .i64 q.dev, .bool q.gone, .int .i64 q.size, .int .i64 q.len, .slice b.D b.m b.k]] w fun e w' => e = .returned (.int .i64 (twoE r q : Int)) ∧ Below w.heap.size w w' := by
  have HI := Lib.hid (show (Tryd.prog.info? 27).map (·.size) = some 7 by kernel_rfl)
  have BA := Lib.hid (((Below.refl w.heap.size w).alloc (Nat.le_refl _) (.cells #[.string (st r.path), .slice a.A a.n a.c, .int .i64 r.dev, .bool r.gone, .int .i64 r.size, .int .i64 r.len, .slice a.D a.m a.k] 27)).alloc (by simp) (.cells #[.string (st q.path), .slice b.A b.n b.c, .int .i64 q.dev, .bool q.gone, .int .i64 q.size, .int .i64 q.len, .slice b.D b.m b.k] 27))
  have Y := Lib.hid (heap_alloc2_new w (.cells #[.string (st r.path), .slice a.A a.n a.c, .int .i64 r.dev, .bool r.gone, .int .i64 r.size, .int .i64 r.len, .slice a.D a.m a.k] 27) (.cells #[.string (st q.path), .slice b.A b.n b.c, .int .i64 q.dev, .bool q.gone, .int .i64 q.size, .int .i64 q.len, .slice b.D b.m b.k] 27))
  have X := Lib.hid (heap_alloc2_old w (.cells #[.string (st r.path), .slice a.A a.n a.c, .int .i64 r.dev, .bool r.gone, .int .i64 r.size, .int .i64 r.len, .slice a.D a.m a.k] 27) (.cells #[.string (st q.path), .slice b.A b.n b.c, .int .i64 q.dev, .bool q.gone, .int .i64 q.size, .int .i64 q.len, .slice b.D b.m b.k] 27))
  have HR := Lib.hid hr
  have HQ := Lib.hid hq
  have hz : ((w.alloc (.cells #[.string (st r.path), .slice a.A a.n a.c, .int .i64 r.dev, .bool r.gone, .int .i64 r.size, .int .i64 r.len, .slice a.D a.m a.k] 27)).alloc (.cells #[.string (st q.path), .slice b.A b.n b.c, .int .i64 q.dev, .bool q.gone, .int .i64 q.size, .int .i64 q.len, .slice b.D b.m b.k] 27)).heap.size = w.heap.size + 2 := by simp
  clear hr hq
  go_enter Tryd.func37, Tryd.ntmps37
  go_upto_region 1 with fail
  generalize (w.alloc (.cells #[.string (st r.path), .slice a.A a.n a.c, .int .i64 r.dev, .bool r.gone, .int .i64 r.size, .int .i64 r.len, .slice a.D a.m a.k] 27)).alloc (.cells #[.string (st q.path), .slice b.A b.n b.c, .int .i64 q.dev, .bool q.gone, .int .i64 q.size, .int .i64 q.len, .slice b.D b.m b.k] 27) = w2 at *
  go_wp2_with (first
    | (refine wpList_load_row rfl 27 (.tmp 2) rfl w.heap.size rfl 27 _ (0, 0) _ X.out Tryd.underlying27 rfl HI.out ?_)
    | (refine wpList_load_row rfl 27 (.tmp 3) rfl (w.heap.size + 1) rfl 27 _ (0, 0) _ Y.out Tryd.underlying27 rfl HI.out ?_)
    | fail)
  have RW := Lib.hid (rows2 (x := (r, a)) (y := (q, b)) (heap_alloc_new w2 (.cells (rcC (r, a) ++ rcC (q, b)).toArray 27)) (Nat.lt_succ_self _) ((HR.out.below (BA.out.mono hB)).below ((Below.refl w2.heap.size w2).alloc (Nat.le_refl _) (.cells (rcC (r, a) ++ rcC (q, b)).toArray 27) |>.mono (by omega)) |>.more (by omega)) ((HQ.out.below (BA.out.mono hB)).below ((Below.refl w2.heap.size w2).alloc (Nat.le_refl _) (.cells (rcC (r, a) ++ rcC (q, b)).toArray 27) |>.mono (by omega)) |>.more (by omega)))
  have B3 := Lib.hid (BA.out.trans ((Below.refl w2.heap.size w2).alloc (Nat.le_refl _) (.cells (rcC (r, a) ++ rcC (q, b)).toArray 27) |>.mono (by omega)))
  have X3 := Lib.hid ((Below.heap_alloc w2 (.cells (rcC (r, a) ++ rcC (q, b)).toArray 27) w.heap.size (by omega)).trans X.out)
  have Y3 := Lib.hid ((Below.heap_alloc w2 (.cells (rcC (r, a) ++ rcC (q, b)).toArray 27) (w.heap.size + 1) (by omega)).trans Y.out)
  have hz3 : (w2.alloc (.cells (rcC (r, a) ++ rcC (q, b)).toArray 27)).heap.size = w.heap.size + 3 := by simp [hz]
  have hrw : (#[.string (st r.path), .slice a.A a.n a.c, .int .i64 r.dev, .bool r.gone, .int .i64 r.size, .int .i64 r.len, .slice a.D a.m a.k, .string (st q.path), .slice b.A b.n b.c, .int .i64 q.dev, .bool q.gone, .int .i64 q.size, .int .i64 q.len, .slice b.D b.m b.k] : Array Value) = (rcC (r, a) ++ rcC (q, b)).toArray := rfl
  rw [hrw]
  rw [hz] at RW
  generalize w2.alloc (.cells (rcC (r, a) ++ rcC (q, b)).toArray 27) = w3 at *
  clear BA X Y hz hrw
  go_loopw [12] (fun i wr => ∃ k : Nat, k ≤ 2 ∧ i = .int .i64 (k : Int) ∧ (1 ≤ k → okR r = 0) ∧ (2 ≤ k → okR q = 0) ∧ Below w3.heap.size w3 wr) (fun i _ => 2 - (intOf i).toNat)
  case atStart => exact ⟨0, by omega, rfl, fun h => by omega, fun h => by omega, Below.refl _ _⟩
  case round =>
    obtain ⟨k, hk, rfl, h1, h2, hb⟩ := hrel
    have H1 := Lib.hid h1
    have H2 := Lib.hid h2
    clear h1 h2
    have E1 := Lib.hid (B3.out.trans (hb.mono (by omega)))
    have hzr : w.heap.size + 3 ≤ wr.heap.size := by have := hb.size; omega
    by_cases hlt : k < 2
    · obtain ⟨ad, x, hA, hx, hx2, hc⟩ := RW.out.at_ hlt
      obtain rfl := Option.some.inj hA
      have HX := Lib.hid hx
      have HX2 := Lib.hid (((hx2.below (hb.mono (by omega))).below ((Below.refl wr.heap.size wr).alloc (Nat.le_refl _) (.cells #[.string (st x.1.path), .slice x.2.A x.2.n x.2.c, .int .i64 x.1.dev, .bool x.1.gone, .int .i64 x.1.size, .int .i64 x.1.len, .slice x.2.D x.2.m x.2.k] 27) |>.mono (by omega))))
      have HC := Lib.hid (show ∀ j u, (rcC x)[j]? = some u → wr.cell? ((⟨w.heap.size + 2, k * 7, none⟩ : Addr).add j) = some u by have := hc wr (hb.mono (by omega)); rwa [add_hd] at this)
      have b1 := Lib.hid (hb.alloc hb.size (.cells #[.string (st x.1.path), .slice x.2.A x.2.n x.2.c, .int .i64 x.1.dev, .bool x.1.gone, .int .i64 x.1.size, .int .i64 x.1.len, .slice x.2.D x.2.m x.2.k] 27))
      have b0 := Lib.hid (E1.out.alloc E1.out.size (.cells #[.string (st x.1.path), .slice x.2.A x.2.n x.2.c, .int .i64 x.1.dev, .bool x.1.gone, .int .i64 x.1.size, .int .i64 x.1.len, .slice x.2.D x.2.m x.2.k] 27))
      have k0 : (0 : Int) ≤ (k : Int) := by omega
      clear hx hc hA hx2 hb
      go_wp2_with (first
        | (refine wpList_load_slot rfl 27 (.tmp 14) rfl ⟨w.heap.size + 2, k * 7, none⟩ rfl [.string (st x.1.path), .slice x.2.A x.2.n x.2.c, .int .i64 x.1.dev, .bool x.1.gone, .int .i64 x.1.size, .int .i64 x.1.len, .slice x.2.D x.2.m x.2.k] _ HC.out Tryd.underlying27 rfl HI.out ?_)
        | fail)
      refine (recCheck_v x.1 x.2 _ _ (he.below b0.out) HX2.out (by simp; omega)).mono ?_
      rintro e w4 ⟨rfl, b4⟩
      have E2 := Lib.hid (b1.out.trans (b4.mono b1.out.size))
      have E3 := Lib.hid (b0.out.trans (b4.mono b0.out.size))
      clear b4 b0 b1
      by_cases h3 : okR x.1 = 0
      · have d3 : ((okR x.1 : Int) != 0) = false := by rw [bne_eq_false_iff_eq]; omega
        have H3 := Lib.hid (show (1 ≤ k + 1 → okR r = 0) ∧ (2 ≤ k + 1 → okR q = 0) by
          have hx := HX.out
          refine ⟨fun _ => ?_, fun h => ?_⟩
          · rcases Nat.eq_zero_or_pos k with h0 | h0
            · subst h0; simp at hx; rw [← hx] at h3; exact h3
            · exact H1.out h0
          · obtain rfl : k = 1 := by omega
            simp at hx; rw [← hx] at h3; exact h3)
        clear h3
        go_wp2
        go_roundw
        case rel => exact ⟨k + 1, hlt, by go_num, H3.out.1, H3.out.2, E2.out⟩
        case measure => simp [intOf]; omega
      · have d3 : ((okR x.1 : Int) != 0) = true := by rw [bne_iff_ne]; omega
        have H3 := Lib.hid (show twoE r q = okR x.1 by
          have hx := HX.out
          unfold twoE
          rcases Nat.eq_zero_or_pos k with h0 | h0
          · subst h0; simp at hx; rw [← hx] at h3 ⊢; exact if_pos h3
          · obtain rfl : k = 1 := by omega
            simp at hx; rw [← hx] at h3 ⊢; rw [if_neg (by rw [H1.out (by omega)]; exact fun h => h rfl)]; exact if_pos h3)
        clear h3
        go_wp2
        go_ret
        exact ⟨by rw [H3.out]; rfl, E3.out⟩
    · obtain rfl : k = 2 := by omega
      have X4 := (hb.block w.heap.size (by omega)).trans X3.out
      have Y4 := (hb.block (w.heap.size + 1) (by omega)).trans Y3.out
      have c1 := cell_of_row _ _ 0 _ _ _ X4
      have c2 := cell_of_row _ _ 0 _ _ _ Y4
      have HT := Lib.hid (show twoE r q = if r.path = q.path then 0 else 2 by unfold twoE; rw [if_neg (by rw [H1.out (by omega)]; exact fun h => h rfl), if_neg (by rw [H2.out (by omega)]; exact fun h => h rfl)])
      clear X4 Y4 hb
      by_cases hp : r.path = q.path
      · rw [if_pos hp] at HT
        rw [hp] at c1
        clear hp
        go_wp2
        go_ret
        exact ⟨by rw [HT.out]; rfl, E1.out⟩
      · rw [if_neg hp] at HT
        have hs := st_ne hp
        clear hp
        go_wp2
        go_ret
        exact ⟨by rw [HT.out]; rfl, E1.out⟩
/-- Which of two wins. -/
def winR (r q : Rcd) : Nat × Nat := if twoE r q ≠ 0 then (0, twoE r q) else if 0 < ordV q.v r.v then (1, 0) else (0, 0)
set_option maxRecDepth 100000 in
set_option maxHeartbeats 8000000 in
theorem winner_v (r q : Rcd) (a b : RSh) (B : Nat) (w : World) (he : EnvM w) (hr : RReads w B r a) (hq : RReads w B q b) (hB : B ≤ w.heap.size) :
    Calls Tryd.prog 11 #[.agg #[.string (st r.path), .slice a.A a.n a.c, .int .i64 r.dev, .bool r.gone, .int .i64 r.size, .int .i64 r.len, .slice a.D a.m a.k], .agg #[.string (st q.path), .slice b.A b.n b.c, .int .i64 q.dev, .bool q.gone, .int .i64 q.size, .int .i64 q.len, .slice b.D b.m b.k]] w fun e w' => e = .returned (.tuple #[.int .i64 ((winR r q).1 : Int), .int .i64 ((winR r q).2 : Int)]) ∧ Below w.heap.size w w' := by
  have HI := Lib.hid (show (Tryd.prog.info? 27).map (·.size) = some 7 by kernel_rfl)
  have BA := Lib.hid (((Below.refl w.heap.size w).alloc (Nat.le_refl _) (.cells #[.string (st r.path), .slice a.A a.n a.c, .int .i64 r.dev, .bool r.gone, .int .i64 r.size, .int .i64 r.len, .slice a.D a.m a.k] 27)).alloc (by simp) (.cells #[.string (st q.path), .slice b.A b.n b.c, .int .i64 q.dev, .bool q.gone, .int .i64 q.size, .int .i64 q.len, .slice b.D b.m b.k] 27))
  have Y := Lib.hid (heap_alloc2_new w (.cells #[.string (st r.path), .slice a.A a.n a.c, .int .i64 r.dev, .bool r.gone, .int .i64 r.size, .int .i64 r.len, .slice a.D a.m a.k] 27) (.cells #[.string (st q.path), .slice b.A b.n b.c, .int .i64 q.dev, .bool q.gone, .int .i64 q.size, .int .i64 q.len, .slice b.D b.m b.k] 27))
  have X := Lib.hid (heap_alloc2_old w (.cells #[.string (st r.path), .slice a.A a.n a.c, .int .i64 r.dev, .bool r.gone, .int .i64 r.size, .int .i64 r.len, .slice a.D a.m a.k] 27) (.cells #[.string (st q.path), .slice b.A b.n b.c, .int .i64 q.dev, .bool q.gone, .int .i64 q.size, .int .i64 q.len, .slice b.D b.m b.k] 27))
  have HR := Lib.hid hr
  have HQ := Lib.hid hq
  have HE := Lib.hid (he.below BA.out)
  have hz : ((w.alloc (.cells #[.string (st r.path), .slice a.A a.n a.c, .int .i64 r.dev, .bool r.gone, .int .i64 r.size, .int .i64 r.len, .slice a.D a.m a.k] 27)).alloc (.cells #[.string (st q.path), .slice b.A b.n b.c, .int .i64 q.dev, .bool q.gone, .int .i64 q.size, .int .i64 q.len, .slice b.D b.m b.k] 27)).heap.size = w.heap.size + 2 := by simp
  clear hr hq
  go_enter Tryd.func11, Tryd.ntmps11
  go_upto_region 1 with fail
  generalize (w.alloc (.cells #[.string (st r.path), .slice a.A a.n a.c, .int .i64 r.dev, .bool r.gone, .int .i64 r.size, .int .i64 r.len, .slice a.D a.m a.k] 27)).alloc (.cells #[.string (st q.path), .slice b.A b.n b.c, .int .i64 q.dev, .bool q.gone, .int .i64 q.size, .int .i64 q.len, .slice b.D b.m b.k] 27) = w2 at *
  go_wp2_with (first
    | (refine wpList_load_row rfl 27 (.tmp 2) rfl w.heap.size rfl 27 _ (0, 0) _ X.out Tryd.underlying27 rfl HI.out ?_)
    | (refine wpList_load_row rfl 27 (.tmp 3) rfl (w.heap.size + 1) rfl 27 _ (0, 0) _ Y.out Tryd.underlying27 rfl HI.out ?_)
    | fail)
  refine (wcheck_v r q a b B w2 HE.out (HR.out.below (BA.out.mono hB)) (HQ.out.below (BA.out.mono hB)) (by omega)).mono ?_
  rintro e w3 ⟨rfl, b3⟩
  have B3 := Lib.hid (BA.out.trans (b3.mono (by omega)))
  have X3 := Lib.hid ((b3.block w.heap.size (by omega)).trans X.out)
  have Y3 := Lib.hid ((b3.block (w.heap.size + 1) (by omega)).trans Y.out)
  have hz3 : w.heap.size + 2 ≤ w3.heap.size := by have := b3.size; omega
  clear b3 BA X Y
  by_cases h1 : twoE r q = 0
  case neg =>
    have d1 : ((twoE r q : Int) != 0) = true := by rw [bne_iff_ne]; omega
    have HW := Lib.hid (show winR r q = (0, twoE r q) from if_pos h1)
    clear h1
    go_wp2
    go_ret2
    exact ⟨by rw [HW.out]; rfl, B3.out⟩
  have HW := Lib.hid (show winR r q = if 0 < ordV q.v r.v then (1, 0) else (0, 0) from if_neg (fun h => h h1))
  rw [h1]
  clear h1
  go_wp2_with (first
    | (refine wpList_load_row rfl 27 (.tmp 2) rfl w.heap.size rfl 27 _ (0, 0) _ X3.out Tryd.underlying27 rfl HI.out ?_)
    | (refine wpList_load_row rfl 27 (.tmp 3) rfl (w.heap.size + 1) rfl 27 _ (0, 0) _ Y3.out Tryd.underlying27 rfl HI.out ?_)
    | fail)
  refine (beats_v q r b a B w3 (HQ.out.below (B3.out.mono hB)) (HR.out.below (B3.out.mono hB)) (by omega)).mono ?_
  rintro e w4 ⟨rfl, b4⟩
  have B4 := Lib.hid (B3.out.trans (b4.mono (by omega)))
  clear b4 B3 X3 Y3
  by_cases h2 : 0 < ordV q.v r.v
  · have HV := Lib.hid (HW.out.trans (if_pos h2))
    rw [decide_eq_true h2]
    clear h2 HW
    go_wp2
    go_ret2
    exact ⟨by rw [HV.out]; rfl, B4.out⟩
  · have HV := Lib.hid (HW.out.trans (if_neg h2))
    rw [decide_eq_false h2]
    clear h2 HW
    go_wp2
    go_ret2
    exact ⟨by rw [HV.out]; rfl, B4.out⟩
end Go.Proofs.YtndekohimfjdeaaDoor
