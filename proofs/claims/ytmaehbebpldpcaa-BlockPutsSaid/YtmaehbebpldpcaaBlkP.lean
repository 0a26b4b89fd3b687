/-
  Blocks: Plan.
-/
import Derived.Test.YtmaehbebpldpcaaBlkO
import Derived.Test.YtmaehbebpldpcaaBlkJ
namespace Go.Proofs.Ytmaehbebpldpcaa
open Go.RowKit Go.Shelf
attribute [local go_sem] Oper.semAt_some
def LX.chk (x : LX) : Nat := Proofs.Ytmaehbebpldpcaa.chk x.v.sz x.v.ln x.v.n
/-- The first error of lists. -/
def errP : List LX → Nat
  | [] => 0
  | x :: xs => if x.chk = 0 then errP xs else x.chk
theorem errP_zero : ∀ {xs : List LX}, (∀ x ∈ xs, x.chk = 0) → errP xs = 0
  | [], _ => rfl
  | x :: xs, h => by
    unfold errP
    rw [if_pos (h x List.mem_cons_self)]
    exact errP_zero fun y hy => h y (List.mem_cons_of_mem _ hy)
theorem errP_at : ∀ {xs : List LX} {k : Nat} {x : LX}, (∀ y ∈ xs.take k, y.chk = 0) → xs[k]? = some x → x.chk ≠ 0 → errP xs = x.chk
  | [], _, _, _, h, _ => by simp at h
  | y :: xs, 0, x, _, h, hx => by
    obtain rfl : y = x := by simpa using h
    unfold errP
    rw [if_neg hx]
  | y :: xs, k + 1, x, hy, h, hx => by
    unfold errP
    rw [if_pos (hy y (by simp))]
    exact errP_at (k := k) (fun z hz => hy z (by rw [List.take_succ_cons]; exact List.mem_cons_of_mem _ hz)) (by simpa using h) hx
/-- How long block k of a list is. -/
def lenP (x : LX) (k : Nat) : Int := toP x.v.sz x.v.ln (k : Int) - (k : Int) * x.v.sz
def entsOf (f : Nat) (x : LX) : List (Kd × (Int × Int)) := (List.range x.v.n).map fun k => ((gD x.ds k, lenP x k), ((f : Int), (k : Int)))
/-- What the map holds when the lists of these numbers were gone through. -/
def entsP (hv : List LX) (pre : List Nat) : List (Kd × (Int × Int)) := pre.reverse.flatMap fun f => entsOf f (gD hv f)
def entsI (f : Nat) (x : LX) (pre : List Nat) : List (Kd × (Int × Int)) := pre.reverse.map fun k => ((gD x.ds k, lenP x k), ((f : Int), (k : Int)))
theorem entsP_snoc (hv : List LX) (pre : List Nat) (f : Nat) : entsP hv (pre ++ [f]) = entsOf f (gD hv f) ++ entsP hv pre := by simp [entsP]
theorem entsI_snoc (f : Nat) (x : LX) (pre : List Nat) (k : Nat) : entsI f x (pre ++ [k]) = ((gD x.ds k, lenP x k), ((f : Int), (k : Int))) :: entsI f x pre := by simp [entsI]
theorem entsI_all (f : Nat) (x : LX) {pre : List Nat} (h : pre = (List.range x.v.n).reverse) : entsI f x pre = entsOf f x := by subst h; simp [entsI, entsOf]
/-- Where each block is. -/
def srcP (l : LX) (hv : List LX) : List (Int × Int) := (List.range l.v.n).map fun k => (lk (gD l.ds k, lenP l k) ((List.range hv.length).flatMap fun f => entsOf f (gD hv f))).getD (-1, 0)
/-- Plan's list. -/
def planP (l : LX) (hv : List LX) : List (Int × Int) := if errP (l :: hv) = 0 then srcP l hv else []
def srcC (p : Int × Int) : List Value := [.int .i64 p.1, .int .i64 p.2]
theorem info_lst : (Try.prog.info? 24).map (fun i => (i.zero, i.size, i.bytes)) = some (some (.agg #[.int .i64 0, .int .i64 0, .slice none 0 0]), 3, 40) := by kernel_rfl
theorem info_src : (Try.prog.info? 47).map (fun i => (i.zero, i.size, i.bytes)) = some (some (.agg #[.int .i64 0, .int .i64 0]), 2, 16) := by kernel_rfl
theorem LX.one (xs : List LX) : ∀ u ∈ xs.flatMap LX.cells, u.oneCell' = true := by
  intro u hu
  obtain ⟨x, _, hx⟩ := List.mem_flatMap.1 hu
  simp only [LX.cells, LV.cells, List.mem_cons, List.not_mem_nil, or_false] at hx
  rcases hx with rfl | rfl | rfl <;> rfl
theorem LX.all1 (x : LX) : x.cells.toArray.all (·.oneCell') = true := by
  rw [Array.all_eq_true_iff_forall_mem]
  intro u hu
  exact LX.one [x] u (by simpa using hu)
theorem results_two {P : Program} {fn : Func} {p q : Tmp} (h : fn.results = #[.tmp p, .tmp q]) (tmps : Array Value) (w : World) : (results fn tmps).run P w = .ok (.tuple #[tmps.getD p undef, tmps.getD q undef]) w := by
  simp [results, h, Sem.run_bind, Sem.run_pure, Result.andThen]
theorem all1_dg (d : Dg) : d.cells.toArray.all (·.oneCell') = true := by
  rw [Array.all_eq_true_iff_forall_mem]
  intro u hu
  exact Dg.one d u (by simpa using hu)
theorem wf_i64 {z : Int} (h1 : -9223372036854775808 ≤ z) (h2 : z ≤ 9223372036854775807) : I64 z := by
  have e1 : IntKind.i64.min = -9223372036854775808 := by decide
  have e2 : IntKind.i64.max = 9223372036854775807 := by decide
  simp only [I64, Lit.wf, e1, e2, Bool.and_eq_true, decide_eq_true_eq]
  omega
theorem own_one {w : World} {base : Nat} {t : TypeId} {K : Nat} {vs : List Value} (hK : vs.length = K) (hb : base ≤ w.heap.size) : (w.alloc (.cells vs.toArray t)).ownsRow base t K (.slice (some ⟨w.heap.size, 0, none⟩) 1 1) 1 vs :=
  ⟨by rw [hK, Nat.one_mul], .inr ⟨w.heap.size, 1, vs.toArray, rfl, hb, heap_alloc_new w _, Nat.le_refl _, by decide, by simp [hK], by simp [← hK]⟩⟩
/-- What is kept while Plan goes over the lists. -/
structure PlI (w : World) (n0 gm : Nat) (lc : Array Value) (bv : Value) (E : List (Kd × (Int × Int))) (W : World) : Prop where
  km : KMap W gm E
  g9 : W.heap[gm + 1]? = some (.cells #[.map (some gm)] 63 (0, 0))
  x : W.heap[n0]? = some (.cells lc 24 (0, 0))
  bl : Below n0 w W
  hb : W.heap[gm + 2]? = some (.cells #[bv] 45 (0, 0))
  sz : gm + 3 ≤ W.heap.size
theorem below_grown {w w' : World} (h : Below w.heap.size w w') : w.grownBy w' none := ⟨h.os, h.tape, h.output, h.size, fun j hj _ => h.block j hj⟩
section
variable {w : World} {n0 gm : Nat} {lc : Array Value} {bv : Value} {E E' : List (Kd × (Int × Int))} {W W' : World} {row : Option Nat}
theorem PlI.grow (h : PlI w n0 gm lc bv E W) (hg : W.grownBy W' row) (hn : n0 ≤ gm) (h0 : n0 ≤ w.heap.size) (hr : ∀ r, row = some r → gm + 3 ≤ r) : PlI w n0 gm lc bv E W' := by
  have hk : ∀ k, k < gm + 3 → W'.heap[k]? = W.heap[k]? := fun k hk => hg.block k (Nat.lt_of_lt_of_le hk h.sz) (fun e => by have := hr k e.symm; omega)
  exact ⟨h.km.keep (hk gm (by omega)), (hk _ (by omega)).trans h.g9, (hk n0 (by omega)).trans h.x, h.bl.grown hg (Nat.le_trans h0 h.bl.size) (fun k e => by have := hr k e; omega), (hk _ (by omega)).trans h.hb, Nat.le_trans h.sz hg.size⟩
theorem PlI.store (h : PlI w n0 gm lc bv E W) (hg : W.grownBy W' (some gm)) (hn : n0 < gm) (h0 : n0 ≤ w.heap.size) (hk' : KMap W' gm E') : PlI w n0 gm lc bv E' W' := by
  have hk : ∀ k, k < gm + 3 → k ≠ gm → W'.heap[k]? = W.heap[k]? := fun k hk hne => hg.block k (Nat.lt_of_lt_of_le hk h.sz) (fun e => hne (Option.some.inj e))
  exact ⟨hk', (hk _ (by omega) (by omega)).trans h.g9, (hk n0 (by omega) (by omega)).trans h.x, h.bl.grown hg (Nat.le_trans h0 h.bl.size) (fun k e => by cases e; omega), (hk _ (by omega) (by omega)).trans h.hb, Nat.le_trans h.sz hg.size⟩
end
/-- What is kept while Plan goes over one list. -/
structure PlJ (w : World) (n0 gm : Nat) (lc : Array Value) (bv : Value) (E : List (Kd × (Int × Int))) (W : World) (zi j1 j2 : Nat) (f : Int) (xc : Array Value) (V : World) : Prop where
  p : PlI w n0 gm lc bv E V
  f1 : V.heap[j1]? = some (.cells #[.int .i64 f] 3 (0, 0))
  f2 : V.heap[j2]? = some (.cells xc 24 (0, 0))
  bl : Below n0 W V
  hb : V.heap[gm + 2]? = W.heap[gm + 2]?
  kf : KeepsFrom (gm + 3) W V
  sz : zi ≤ V.heap.size
section
variable {w : World} {n0 gm : Nat} {lc : Array Value} {bv : Value} {E E' : List (Kd × (Int × Int))} {W V V' : World} {row : Option Nat} {zi j1 j2 : Nat} {f : Int} {xc : Array Value}
theorem PlJ.grow (h : PlJ w n0 gm lc bv E W zi j1 j2 f xc V) (hg : V.grownBy V' row) (hn : n0 ≤ gm) (h0 : n0 ≤ w.heap.size) (h1 : j1 < zi) (h2 : j2 < zi) (hW : W.heap.size ≤ zi) (hW0 : gm + 3 ≤ W.heap.size) (hr : ∀ r, row = some r → zi ≤ r) : PlJ w n0 gm lc bv E W zi j1 j2 f xc V' := by
  have hk : ∀ k, k < zi → V'.heap[k]? = V.heap[k]? := fun k hk => hg.block k (Nat.lt_of_lt_of_le hk h.sz) (fun e => by have := hr k e.symm; omega)
  exact ⟨h.p.grow hg hn h0 (fun r e => by have := hr r e; omega), (hk _ h1).trans h.f1, (hk _ h2).trans h.f2, h.bl.grown hg (by have := h.sz; omega) (fun k e => by have := hr k e; omega), (hk _ (by omega)).trans h.hb,
    ⟨Nat.le_trans h.kf.size hg.size, fun k o hB hko ho => (hk k (Nat.lt_of_lt_of_le (Array.getElem?_eq_some_iff.1 hko).1 hW)).trans (h.kf.same k o hB hko ho)⟩, Nat.le_trans h.sz hg.size⟩
theorem PlJ.store (h : PlJ w n0 gm lc bv E W zi j1 j2 f xc V) (hg : V.grownBy V' (some gm)) (hn : n0 < gm) (h0 : n0 ≤ w.heap.size) (h1 : gm < j1) (h2 : gm < j2) (hW0 : gm + 3 ≤ W.heap.size) (hk' : KMap V' gm E') : PlJ w n0 gm lc bv E' W zi j1 j2 f xc V' := by
  have hk : ∀ k o, V.heap[k]? = some o → k ≠ gm → V'.heap[k]? = V.heap[k]? := fun k o hk hne => hg.block k (Array.getElem?_eq_some_iff.1 hk).1 (fun e => hne (Option.some.inj e))
  exact ⟨h.p.store hg hn h0 hk', (hk _ _ h.f1 (by omega)).trans h.f1, (hk _ _ h.f2 (by omega)).trans h.f2, h.bl.grown hg (by have := h.p.sz; omega) (fun k e => by cases e; omega), (hk _ _ h.p.hb (by omega)).trans h.hb,
    h.kf.trans (KeepsFrom.of_grownBy hg (fun j e => by cases e; omega)), Nat.le_trans h.sz hg.size⟩
end
set_option maxRecDepth 100000 in
set_option maxHeartbeats 16000000 in
theorem plan_v (sl ll : Int) (al : Option Addr) (nl cl : Nat) (dl : List Dg) (hv : List LX) (A : Option Addr) (m c : Nat) (w : World)
    (hl : DReads w w.heap.size al nl dl) (hlw : ∀ d ∈ dl, DgW d) (hnl : nl ≤ 1100) (hr : Reads w w.heap.size 3 A m (hv.flatMap LX.cells)) (hm : m ≤ 1000) (hmc : m ≤ c)
    (hh : ∀ x ∈ hv, DReads w w.heap.size x.v.a x.v.n x.ds ∧ x.v.n ≤ 1100 ∧ ∀ d ∈ x.ds, DgW d) :
    Calls Try.prog 26 #[.agg #[.int .i64 sl, .int .i64 ll, .slice al nl cl], .slice A m c] w fun e w' => ∃ A' n' c', e = .returned (.tuple #[.slice A' n' c', .int .i64 (errP (⟨⟨sl, ll, al, nl, cl⟩, dl⟩ :: hv) : Int)]) ∧
      w'.ownsRow w.heap.size 47 2 (.slice A' n' c') n' ((planP ⟨⟨sl, ll, al, nl, cl⟩, dl⟩ hv).flatMap srcC) ∧ Below w.heap.size w w' := by
  have HI := Lib.hid (show (Try.prog.info? 24).map (·.size) = some 3 by kernel_rfl)
  have HID := Lib.hid (show (Try.prog.info? 59).map (·.size) = some 32 by kernel_rfl)
  obtain ⟨l, hll⟩ : ∃ l : LX, (⟨⟨sl, ll, al, nl, cl⟩, dl⟩ : LX) = l := ⟨_, rfl⟩
  have HLL := Lib.hid hll
  rw [hll]
  clear hll
  have HL := Lib.hid hl
  have HLW := Lib.hid hlw
  have HR := Lib.hid hr
  have HH := Lib.hid hh
  have HLN := Lib.hid (show hv.length = m by have h1 := hr.1; rw [flat_len LX.cells_len] at h1; omega)
  clear hl hlw hr hh
  have B0 := Lib.hid ((Below.refl w.heap.size w).alloc (Nat.le_refl _) (.cells #[.int .i64 sl, .int .i64 ll, .slice al nl cl] 24))
  have X0 := Lib.hid (heap_alloc_new w (.cells #[.int .i64 sl, .int .i64 ll, .slice al nl cl] 24))
  have hz0 : (w.alloc (.cells #[.int .i64 sl, .int .i64 ll, .slice al nl cl] 24)).heap.size = w.heap.size + 1 := by simp
  refine (callsIn_wide (n := 12)).1 ?_
  refine callsIn_of_wp_marks Try.func26 rfl trivial ?_ rfl
  simp only [Try.ntmps26, List.size_toArray, List.length_cons, List.length_nil, Nat.reduceAdd, Nat.reduceSub, Array.replicate_succ, Array.replicate_zero, List.push_toArray, List.append_toArray, List.nil_append, List.cons_append]
  obtain ⟨i0, hi, hy0, hy1, hy2⟩ := info_parts info_lst
  obtain ⟨W1, hW1⟩ : ∃ W1, (w.alloc (.cells #[.int .i64 sl, .int .i64 ll, .slice al nl cl] 24)).alloc (.cells #[.int .i64 sl, .int .i64 ll, .slice al nl cl] 24) = W1 := ⟨_, rfl⟩
  have O1 := Lib.hid (show W1.ownsRow w.heap.size 24 3 (.slice (some ⟨w.heap.size + 1, 0, none⟩) 1 1) 1 [.int .i64 sl, .int .i64 ll, .slice al nl cl] by
    have h1 := own_one (w := w.alloc (.cells #[.int .i64 sl, .int .i64 ll, .slice al nl cl] 24)) (base := w.heap.size) (t := 24) (K := 3) (vs := [.int .i64 sl, .int .i64 ll, .slice al nl cl]) rfl (by omega)
    rw [hz0] at h1
    rw [← hW1]
    exact h1)
  have B1 := Lib.hid (show Below w.heap.size w W1 by rw [← hW1]; exact B0.out.alloc (by omega) _)
  have X1 := Lib.hid (show W1.heap[w.heap.size]? = some (.cells #[.int .i64 sl, .int .i64 ll, .slice al nl cl] 24 (0, 0)) by rw [← hW1]; exact (Below.heap_alloc _ _ _ (by omega)).trans X0.out)
  have R1 := Lib.hid (Reads.below HR.out B1.out)
  have hz1 := B1.out.size
  have HW1 := Lib.hid hW1
  clear hW1
  gi_wp2_with (first
    | (refine wpListIn_load_row rfl 24 (.tmp 2) rfl w.heap.size rfl 24 _ (0, 0) _ X0.out Try.underlying24 rfl HI.out ?_)
    | (rw [HW1.out]; refine wpListIn_append_any rfl (.tmp 24) (.tmp 25) 45 rfl w.heap.size 24 i0 _ 3 40 Try.underlying45 hi hy0 hy1 hy2 rfl (by decide) (.slice (some ⟨w.heap.size + 1, 0, none⟩) 1 1) 1 [.int .i64 sl, .int .i64 ll, .slice al nl cl] rfl O1.out w.heap.size A m c (hv.flatMap LX.cells) rfl R1.out (LX.one hv) (by simp only [maxLen]; omega) (by omega) hz1 ?_
       intro v' w3 ho3 hg3 _
       obtain ⟨A3, c3, rfl, hc3⟩ := own_shape ho3)
    | fail)
  have B3 := Lib.hid (show Below w.heap.size w w3 from B1.out.grown hg3 hz1 (fun k hk => (O1.out.lt k hk).1))
  have X3 := Lib.hid (show w3.heap[w.heap.size]? = some (.cells #[.int .i64 sl, .int .i64 ll, .slice al nl cl] 24 (0, 0)) from (hg3.block w.heap.size (Array.getElem?_eq_some_iff.1 X1.out).1 (fun e => by have h := Option.some.inj (show some w.heap.size = some (w.heap.size + 1) from e); omega)).trans X1.out)
  have R3 := Lib.hid (show Reads w3 w3.heap.size 3 A3 (1 + m) ((l :: hv).flatMap LX.cells) by have h := Reads.of_own ho3; rw [← HLL.out]; exact h)
  have HN := Lib.hid (show ∀ x ∈ l :: hv, x.v.n ≤ 1100 by
    intro x hx
    rcases List.mem_cons.1 hx with rfl | hx
    · rw [← HLL.out]; exact hnl
    · exact (HH.out x hx).2.1)
  have HLV := Lib.hid (show (l :: hv).length = 1 + m by rw [List.length_cons, HLN.out]; omega)
  have hz3 : w.heap.size + 1 ≤ w3.heap.size := (Array.getElem?_eq_some_iff.1 X3.out).1
  clear ho3 hg3 O1 X1 R1 HW1 X0 B0 B1 hz0 hz1
  obtain ⟨M, hM⟩ : ∃ M, 1 + m = M := ⟨_, rfl⟩
  rw [hM] at R3 HLV hc3 ⊢
  gi_wp2_with fail
  gi_loopw [28] (fun i wr => ∃ k : Nat, k ≤ M ∧ i = .int .i64 (k : Int) ∧ (∀ x ∈ (l :: hv).take k, x.chk = 0) ∧ Below w3.heap.size w3 wr) (fun i _ => M - (intOf i).toNat)
  case atStart => exact ⟨0, Nat.zero_le _, rfl, by simp, Below.refl _ _⟩
  case round =>
    obtain ⟨k, hk, rfl, hz, hb⟩ := hrel
    have HZ := Lib.hid hz
    have HB := Lib.hid hb
    clear hz hb
    by_cases hlt : k < M
    · obtain ⟨ad, rfl, hbl, hcell⟩ := R3.out.2 (by omega)
      obtain ⟨x, hx⟩ : ∃ x, (l :: hv)[k]? = some x := ⟨_, List.getElem?_eq_getElem (by rw [HLV.out]; exact hlt)⟩
      have HX := Lib.hid hx
      have HC := Lib.hid (show ∀ j v, x.cells[j]? = some v → wr.cell? ((ad.add (k * 3)).add j) = some v from fun j v hv' => by
        have hj : j < 3 := by have := (List.getElem?_eq_some_iff.1 hv').1; rwa [LX.cells_len] at this
        have h1 := hcell (k * 3 + j) v (by rw [flat_at LX.cells_len (l :: hv) hx hj]; exact hv')
        rw [add_of_add]
        refine (HB.out.cell ?_).trans h1
        rw [block_of_add]
        exact hbl)
      have hxn := HN.out x (List.mem_of_getElem? hx)
      have k0 : (0 : Int) ≤ (k : Int) := by omega
      have d0 : decide ((k : Int) < (M : Int)) = true := by simp; omega
      have d1 : decide (k < M) = true := by simp; omega
      have Z0 := Lib.hid (heap_alloc_new wr (.cells #[.int .i64 0, .int .i64 0, .slice none 0 0] 24))
      have Z1 := Lib.hid (setRow_heap _ wr.heap.size _ x.cells.toArray _ _ Z0.out)
      have BZ := Lib.hid (below_setRow ((Below.refl wr.heap.size wr).alloc (Nat.le_refl _) (.cells #[.int .i64 0, .int .i64 0, .slice none 0 0] 24)) (Nat.le_refl _) x.cells.toArray)
      clear hcell hx
      gi_wp2_with (first
        | (refine wpListIn_load_slot rfl 24 (.tmp 30) rfl (ad.add (k * 3)) rfl x.cells _ HC.out Try.underlying24 rfl HI.out ?_)
        | (refine wpListIn_store_row rfl 24 (.tmp 7) (.tmp 31) rfl wr.heap.size x.cells.toArray rfl rfl 24 _ Z0.out HI.out rfl (LX.all1 x) ?_)
        | (refine wpListIn_load_row rfl 24 (.tmp 7) rfl wr.heap.size rfl 24 _ (0, 0) _ Z1.out Try.underlying24 rfl HI.out ?_)
        | fail)
      clear HC Z0
      have Z2 := Lib.hid (BZ.out.size)
      generalize (wr.alloc (.cells #[.int .i64 0, .int .i64 0, .slice none 0 0] 24)).setRow wr.heap.size x.cells.toArray = w4 at *
      refine ⟨trivial, (callsIn_wide.2 (check_v x.v.sz x.v.ln x.v.a x.v.n x.v.c w4 (by omega))).mono ?_⟩
      rintro e w5 ⟨rfl, b5⟩
      have HB5 := Lib.hid (HB.out.trans ((BZ.out.trans (b5.mono Z2.out)).mono HB.out.size))
      have e9 : (Proofs.Ytmaehbebpldpcaa.chk x.v.sz x.v.ln x.v.n : Int) = (x.chk : Int) := rfl
      rw [e9]
      clear b5 Z1 BZ Z2 e9
      by_cases hx0 : x.chk = 0
      · have HZ2 := Lib.hid (show ∀ y ∈ (l :: hv).take (k + 1), y.chk = 0 by
          intro y hy
          rw [List.take_add_one, HX.out] at hy
          rcases List.mem_append.1 hy with hy | hy
          · exact HZ.out y hy
          · obtain rfl : y = x := by simpa using hy
            exact hx0)
        rw [hx0]
        clear hx0
        gi_wp2
        go_roundw
        case rel => exact ⟨k + 1, hlt, by go_num, HZ2.out, HB5.out⟩
        case measure => simp [intOf]; omega
      · have HE := Lib.hid (errP_at HZ.out HX.out hx0)
        have hne : ((x.chk : Int) != 0) = true := by simp; omega
        have hne2 : ((x.chk : Int) == 0) = false := by simp; omega
        have HX0 := Lib.hid hx0
        clear hx0
        gi_wp2_with fail
        exact ⟨_, results_two rfl _ _, none, 0, 0, by rw [HE.out]; rfl, by rw [show planP l hv = [] by unfold planP; rw [if_neg (by rw [HE.out]; exact HX0.out)]]; exact World.ownsRow_nil _ _ _ 2, B3.out.trans (HB5.out.mono (by omega))⟩
    · obtain rfl : k = M := by omega
      have HE := Lib.hid (show errP (l :: hv) = 0 from errP_zero (by have h := HZ.out; rwa [List.take_of_length_le (by rw [HLV.out]; exact Nat.le_refl _)] at h))
      have HCK := Lib.hid (show ∀ x ∈ l :: hv, x.chk = 0 by have h := HZ.out; rwa [List.take_of_length_le (by rw [HLV.out]; exact Nat.le_refl _)] at h)
      have B5 := Lib.hid (B3.out.trans (HB.out.mono (by omega)))
      have X5 := Lib.hid ((HB.out.block w.heap.size (by omega)).trans X3.out)
      have hz5 : w.heap.size + 1 ≤ wr.heap.size := by have := HB.out.size; omega
      clear HZ HB R3 HLV X3 B3
      have hmk := run_makeMap (P := Try.prog) 63 wr
      have KM0 := KMap.made wr
      have KM1 := Lib.hid (KM0.keep (Below.heap_alloc (wr.alloc (.map #[] 0)) (.cells #[.map (some wr.heap.size)] 63) wr.heap.size (by simp)))
      have G9 := Lib.hid (show ((wr.alloc (.map #[] 0)).alloc (.cells #[.map (some wr.heap.size)] 63)).heap[wr.heap.size + 1]? = some (.cells #[.map (some wr.heap.size)] 63 (0, 0)) by have h := heap_alloc_new (wr.alloc (.map #[] 0)) (.cells #[.map (some wr.heap.size)] 63); rwa [World.size_alloc] at h)
      have BM := Lib.hid ((B5.out.alloc B5.out.size (.map #[] 0)).alloc (by simp; have := B5.out.size; omega) (.cells #[.map (some wr.heap.size)] 63))
      have X6 := Lib.hid ((Below.heap_alloc (wr.alloc (.map #[] 0)) (.cells #[.map (some wr.heap.size)] 63) w.heap.size (by simp; omega)).trans ((Below.heap_alloc wr (.map #[] 0) w.heap.size (by omega)).trans X5.out))
      have hz6 : ((wr.alloc (.map #[] 0)).alloc (.cells #[.map (some wr.heap.size)] 63)).heap.size = wr.heap.size + 2 := by simp
      gi_wp2_with fail
      clear hmk KM0 B5 X5
      generalize (wr.alloc (.map #[] 0)).alloc (.cells #[.map (some wr.heap.size)] 63) = w6 at *
      refine ⟨trivial, (callsIn_wide.2 (callsIn_wide.1 (backL_v A m c w6))).mono ?_⟩
      rintro e w7 ⟨rfl, rfl⟩
      have hz7 : (w6.alloc (.cells #[.slice A m c] 45)).heap.size = wr.heap.size + 3 := by simp [hz6]
      have P7 := Lib.hid (show PlI w w.heap.size wr.heap.size #[.int .i64 sl, .int .i64 ll, .slice al nl cl] (.slice A m c) [] (w6.alloc (.cells #[.slice A m c] 45)) from
        ⟨KM1.out.keep (Below.heap_alloc _ _ _ (by omega)), (Below.heap_alloc _ _ _ (by omega)).trans G9.out, (Below.heap_alloc _ _ _ (by omega)).trans X6.out, BM.out.alloc BM.out.size _, by rw [← hz6]; exact heap_alloc_new w6 _, by omega⟩)
      gi_wp2_with fail

      generalize w6.alloc (.cells #[.slice A m c] 45) = w7 at *
      have hgn : w.heap.size < wr.heap.size := by omega
      generalize hgm : wr.heap.size = gm at *
      obtain ⟨n0, hn0⟩ : ∃ n0, w.heap.size = n0 := ⟨_, rfl⟩
      have HN0 := Lib.hid hn0
      have hnw : n0 ≤ w.heap.size := by omega
      rw [hn0] at P7 HH HL HR hgn ⊢
      have SEQ := Lib.hid (backL_stops (gm + 2) n0 A m c hv w7 11 (by omega) (by rw [cell_of_row _ _ 0 _ _ _ P7.out.hb]; rfl) (Reads.below HR.out (hn0 ▸ P7.out.bl)) (by have := P7.out.bl.size; omega) (by omega))
      clear KM1 G9 BM X6 hz6 hz3 hz5
      refine wpIn_rangeFunc_ownH rfl (by omega) (gf := 54) (lb := #[.pointer (some ⟨gm + 2, 0, none⟩)]) rfl trivial (enters_of Try.func54 (by kernel_rfl) rfl)
        SEQ.out (fun h k => ⟨h.1.trans k.1, k.2.trans h.2⟩)
        (fun W l o o' hl h h1 h2 => ⟨(belowK_b (w := w7) (Nat.le_refl _) W l o o' hl h h1 h2).mono (by omega), World.putObj_heap_other (by omega)⟩) (Below.refl _ _) (fun _ => rfl)
        (fun (pre : List (Ix m)) W => PlI w n0 gm #[.int .i64 sl, .int .i64 ll, .slice al nl cl] (.slice A m c) (entsP hv (pre.map fun x : Ix m => x.1)) W) (fun _ _ _ => False)
        (fun pre W W' row h hg hr => h.grow hg (by omega) hnw (fun r e => by have := (hr r e).1; omega)) (fun _ _ _ _ _ hs _ _ => hs) P7.out
        (fun (x : Ix m) a' W => ∃ j1 j2, gm + 3 ≤ j1 ∧ j1 < j2 ∧ a' = ({ tmps := #[.agg #[.int .i64 sl, .int .i64 ll, .slice al nl cl], .slice A m c, .pointer (some ⟨n0, 0, none⟩), undef, u4, u5, undef, u7, u8, .pointer (some ⟨gm + 1, 0, none⟩), .pointer (some ⟨j1, 0, none⟩), .pointer (some ⟨j2, 0, none⟩), undef, undef, undef, undef, undef, undef, undef, undef, undef, undef, undef, .agg #[.int .i64 sl, .int .i64 ll, .slice al nl cl], .slice (some ⟨n0 + 1, 0, none⟩) 1 1, .slice A m c, .slice A3 k c3, .int .i64 (1 + (m : Int)), .int .i64 (k : Int), .bool (decide ((k : Int) < 1 + (m : Int))), u30, u31, u32, u33, u34, u35, u36, u37, .map (some gm), .slice A m c, .func (.func 54) #[] #[.pointer (some ⟨gm + 2, 0, none⟩)], .int .i64 (x.1 : Int), .agg (gD hv x.1).cells.toArray, undef, undef, undef, undef, undef, undef, undef, undef, undef, undef, undef, undef, undef, undef, undef, undef, undef, undef, undef, undef, undef, undef, undef, undef, undef, undef, undef, undef, undef, undef, undef, undef, undef, undef, undef, undef, undef, undef, undef, undef, undef, undef, undef, undef, undef, undef, undef, undef, undef, undef, undef, undef, undef], defers := [] } : Act) ∧ W.heap[j1]? = some (.cells #[.int .i64 (x.1 : Int)] 3 (0, 0)) ∧ W.heap[j2]? = some (.cells (gD hv x.1).cells.toArray 24 (0, 0)))
        (fun x a' _ W W' row h hg hr => ?ax) ?assign ?body ?done ?stop
      case ax =>
        obtain ⟨j1, j2, h1, h2, e, hc1, hc2⟩ := h
        refine ⟨j1, j2, h1, h2, e, (hg.block j1 (Array.getElem?_eq_some_iff.1 hc1).1 (fun e2 => ?_)).trans hc1, (hg.block j2 (Array.getElem?_eq_some_iff.1 hc2).1 (fun e2 => ?_)).trans hc2⟩
        · obtain ⟨_, o, ho, hco⟩ := hr j1 e2.symm
          rw [hc1] at ho
          cases ho
          cases hco
        · obtain ⟨_, o, ho, hco⟩ := hr j2 e2.symm
          rw [hc2] at ho
          cases ho
          cases hco
      case assign =>
        rintro l2 pre x W K hp hK
        have Z0 := Lib.hid (heap_alloc_new (W.alloc (.cells #[.int .i64 (x.1 : Int)] 3)) (.cells #[.int .i64 0, .int .i64 0, .slice none 0 0] 24))
        rw [World.size_alloc] at Z0
        have Z1 := Lib.hid (setRow_heap _ (W.heap.size + 1) _ (gD hv x.1).cells.toArray _ _ Z0.out)
        have BA := (Below.refl W.heap.size W).alloc (Nat.le_refl _) (.cells #[.int .i64 (x.1 : Int)] 3)
        have BZ := Lib.hid (BA.trans ((below_setRow ((Below.refl (W.heap.size + 1) (W.alloc (.cells #[.int .i64 (x.1 : Int)] 3))).alloc (by simp) (.cells #[.int .i64 0, .int .i64 0, .slice none 0 0] 24)) (Nat.le_refl _) (gD hv x.1).cells.toArray).mono (Nat.le_succ _)))
        have Y1 := Lib.hid ((((below_setRow ((Below.refl (W.heap.size + 1) (W.alloc (.cells #[.int .i64 (x.1 : Int)] 3))).alloc (by simp) (.cells #[.int .i64 0, .int .i64 0, .slice none 0 0] 24)) (Nat.le_refl _) (gD hv x.1).cells.toArray)).block W.heap.size (Nat.lt_succ_self _)).trans (heap_alloc_new W _))
        gi_wp2_with (first
          | (refine wpListIn_store_row rfl 24 (.tmp 11) (.tmp 42) rfl (W.heap.size + 1) (gD hv x.1).cells.toArray rfl rfl 24 _ Z0.out HI.out rfl (LX.all1 _) ?_)
          | fail)
        have hg := below_grown BZ.out
        have hps := hp.sz
        exact hK _ _ (KeepsFrom.of_grownBy hg (fun j e => by cases e)) ⟨BZ.out.mono (by omega), BZ.out.block _ (by omega)⟩ (hp.grow hg (by omega) hnw (fun r e => by cases e))
          ⟨W.heap.size, W.heap.size + 1, hp.sz, Nat.lt_succ_self _, rfl, Y1.out, Z1.out⟩
      case stop =>
        rintro D c pre W _ _ hx _
        exact hx.elim
      case done =>
        rintro D xs W hD hS hp hK
        have hS2 : xs.map (fun x : Ix m => x.1) = (List.range m).reverse := hS
        have hp2 : PlI w n0 gm #[.int .i64 sl, .int .i64 ll, .slice al nl cl] (.slice A m c) (entsP hv (xs.map (fun x : Ix m => x.1))) W := hp
        obtain ⟨E, hE⟩ : ∃ E, (List.range m).flatMap (fun f => entsOf f (gD hv f)) = E := ⟨_, rfl⟩
        rw [hS2, entsP, List.reverse_reverse, hE] at hp2
        have HS := Lib.hid (show srcP l hv = (List.range nl).map fun k => (lk (gD dl k, lenP l k) E).getD (-1, 0) by
          unfold srcP
          rw [HLN.out, hE, ← HLL.out])
        have HP := Lib.hid hp2
        have HK := Lib.hid hK
        have HLL2 := Lib.hid (show dl.length = nl from HL.out.len)
        have HCL := Lib.hid (show Proofs.Ytmaehbebpldpcaa.chk sl ll nl = 0 by have h := HCK.out l List.mem_cons_self; rw [← HLL.out] at h; exact h)
        obtain ⟨q1, q2, q3, q4, q5, q6⟩ := chk_ok HCL.out
        have s2 : W.cell? ⟨n0, 2, none⟩ = some (.slice al nl cl) := by rw [cell_of_row _ _ 2 _ _ _ HP.out.x]; rfl
        have hDW := (Array.getElem?_eq_some_iff.1 hK).1
        have hpz := hp2.sz
        have hD2 : gm + 3 ≤ D := by omega
        clear hp hp2 hS hS2 hE hK q3 q6 SEQ P7 hD
        gi_wp2_with fail
        gi_loopw [16, 66] (fun o i wr => ∃ (k : Nat) (A' : Option Addr) (c' : Nat), k ≤ nl ∧ i = .int .i64 (k : Int) ∧ o = .slice A' k c' ∧ wr.ownsRow W.heap.size 47 2 (.slice A' k c') k (((srcP l hv).take k).flatMap srcC) ∧ Below W.heap.size W wr) (fun _ i _ => nl - (intOf i).toNat)
        case atStart => exact ⟨0, none, 0, Nat.zero_le _, rfl, rfl, World.ownsRow_nil _ _ _ 2, Below.refl _ _⟩
        case round =>
          obtain ⟨k, A', c', hk, rfl, rfl, ho, hb⟩ := hrel
          have HO := Lib.hid ho
          have HB := Lib.hid hb
          clear ho hb
          by_cases hlt : k < nl
          · have hbz := HB.out.size
            have X1 := Lib.hid ((HB.out.block n0 (by omega)).trans HP.out.x)
            have G1 := Lib.hid ((HB.out.block (gm + 1) (by omega)).trans HP.out.g9)
            obtain ⟨ad, rfl, hbl, hcell⟩ := HL.out.2 (by omega)
            have HC := Lib.hid (show ∀ j v, (gD dl k).cells[j]? = some v → wr.cell? ((ad.add (k * 32)).add j) = some v from fun j v hv' => by
              have hj : j < 32 := by have := (List.getElem?_eq_some_iff.1 hv').1; rwa [Dg.cells_len] at this
              have h1 := hcell (k * 32 + j) v (by rw [flat_at Dg.cells_len dl (gD_some (by rw [HLL2.out]; exact hlt)) hj]; exact hv')
              rw [add_of_add]
              refine ((HP.out.bl.trans (HB.out.mono (by omega))).cell ?_).trans h1
              rw [block_of_add]
              exact hbl)
            have hcl : (gD dl k).cells.toArray.size = 32 := by simp [Dg.cells_len]
            have HIS := Lib.hid (show (Try.prog.info? 59).map (·.size) = some (gD dl k).cells.length by rw [Dg.cells_len]; exact HID.out)
            have HCS := Lib.hid hcl
            have k0 : (0 : Int) ≤ (k : Int) := by omega
            have d0 : decide ((k : Int) < (nl : Int)) = true := by simp; omega
            have d1 : decide (k < nl) = true := by simp; omega
            have Z0 := Lib.hid (heap_alloc_new wr (.cells #[Value.int .u8 0, Value.int .u8 0, Value.int .u8 0, Value.int .u8 0, Value.int .u8 0, Value.int .u8 0, Value.int .u8 0, Value.int .u8 0, Value.int .u8 0, Value.int .u8 0, Value.int .u8 0, Value.int .u8 0, Value.int .u8 0, Value.int .u8 0, Value.int .u8 0, Value.int .u8 0, Value.int .u8 0, Value.int .u8 0, Value.int .u8 0, Value.int .u8 0, Value.int .u8 0, Value.int .u8 0, Value.int .u8 0, Value.int .u8 0, Value.int .u8 0, Value.int .u8 0, Value.int .u8 0, Value.int .u8 0, Value.int .u8 0, Value.int .u8 0, Value.int .u8 0, Value.int .u8 0] 59))
            have Z1 := Lib.hid (setRow_heap _ wr.heap.size _ (gD dl k).cells.toArray _ _ Z0.out)
            have BZ := Lib.hid (below_setRow ((Below.refl wr.heap.size wr).alloc (Nat.le_refl _) (.cells #[Value.int .u8 0, Value.int .u8 0, Value.int .u8 0, Value.int .u8 0, Value.int .u8 0, Value.int .u8 0, Value.int .u8 0, Value.int .u8 0, Value.int .u8 0, Value.int .u8 0, Value.int .u8 0, Value.int .u8 0, Value.int .u8 0, Value.int .u8 0, Value.int .u8 0, Value.int .u8 0, Value.int .u8 0, Value.int .u8 0, Value.int .u8 0, Value.int .u8 0, Value.int .u8 0, Value.int .u8 0, Value.int .u8 0, Value.int .u8 0, Value.int .u8 0, Value.int .u8 0, Value.int .u8 0, Value.int .u8 0, Value.int .u8 0, Value.int .u8 0, Value.int .u8 0, Value.int .u8 0] 59)) (Nat.le_refl _) (gD dl k).cells.toArray)
            have X2 := Lib.hid ((BZ.out.block n0 (by omega)).trans X1.out)
            clear hcell hcl
            gi_wp2_with (first
              | (refine wpListIn_load_slot rfl 59 (.tmp 69) rfl (ad.add (k * 32)) rfl (gD dl k).cells _ HC.out Try.underlying59 rfl HIS.out ?_)
              | (refine wpListIn_store_row rfl 59 (.tmp 18) (.tmp 70) rfl wr.heap.size (gD dl k).cells.toArray rfl rfl 59 _ Z0.out (by rw [HCS.out]; exact HID.out) (by rw [HCS.out]; rfl) (all1_dg _) ?_)
              | (refine wpListIn_load_row rfl 24 (.tmp 2) rfl n0 rfl 24 _ (0, 0) _ X2.out Try.underlying24 rfl HI.out ?_)
              | fail)
            clear Z0 HC
            have hzv := BZ.out.size
            have hz1 : wr.heap.size < ((wr.alloc (.cells #[Value.int .u8 0, Value.int .u8 0, Value.int .u8 0, Value.int .u8 0, Value.int .u8 0, Value.int .u8 0, Value.int .u8 0, Value.int .u8 0, Value.int .u8 0, Value.int .u8 0, Value.int .u8 0, Value.int .u8 0, Value.int .u8 0, Value.int .u8 0, Value.int .u8 0, Value.int .u8 0, Value.int .u8 0, Value.int .u8 0, Value.int .u8 0, Value.int .u8 0, Value.int .u8 0, Value.int .u8 0, Value.int .u8 0, Value.int .u8 0, Value.int .u8 0, Value.int .u8 0, Value.int .u8 0, Value.int .u8 0, Value.int .u8 0, Value.int .u8 0, Value.int .u8 0, Value.int .u8 0] 59)).setRow wr.heap.size (gD dl k).cells.toArray).heap.size := (Array.getElem?_eq_some_iff.1 Z1.out).1
            generalize (wr.alloc (.cells #[Value.int .u8 0, Value.int .u8 0, Value.int .u8 0, Value.int .u8 0, Value.int .u8 0, Value.int .u8 0, Value.int .u8 0, Value.int .u8 0, Value.int .u8 0, Value.int .u8 0, Value.int .u8 0, Value.int .u8 0, Value.int .u8 0, Value.int .u8 0, Value.int .u8 0, Value.int .u8 0, Value.int .u8 0, Value.int .u8 0, Value.int .u8 0, Value.int .u8 0, Value.int .u8 0, Value.int .u8 0, Value.int .u8 0, Value.int .u8 0, Value.int .u8 0, Value.int .u8 0, Value.int .u8 0, Value.int .u8 0, Value.int .u8 0, Value.int .u8 0, Value.int .u8 0, Value.int .u8 0] 59)).setRow wr.heap.size (gD dl k).cells.toArray = V1 at *
            refine ⟨trivial, (callsIn_wide.2 (at0_v sl ll (k : Int) (some ad) nl cl V1 (by omega) q2 (by omega) (by omega))).mono ?_⟩
            rintro e V2 ⟨rfl, b2⟩
            have hz2 := b2.size
            have D2 := Lib.hid ((b2.block wr.heap.size hz1).trans Z1.out)
            have G2 := Lib.hid ((b2.block (gm + 1) (by omega)).trans ((BZ.out.block (gm + 1) (by omega)).trans G1.out))
            have M2 := Lib.hid (HP.out.km.keep ((b2.block gm (by omega)).trans ((BZ.out.block gm (by omega)).trans (HB.out.block gm (by omega)))))
            have B2 := Lib.hid (BZ.out.trans (b2.mono hzv))
            have KL := chk_last HCL.out (k := (k : Int)) (by omega) (by omega)
            have TL := toP_lo (k := (k : Int)) q1 (by omega) KL.1
            have TH : toP sl ll (k : Int) ≤ ll := by unfold toP; omega
            have HLP := Lib.hid (show lenP l k = toP sl ll (k : Int) - (k : Int) * sl by rw [← HLL.out]; rfl)
            obtain ⟨fr, hfr⟩ : ∃ fr, (k : Int) * sl = fr := ⟨_, rfl⟩
            obtain ⟨tt, htt⟩ : ∃ tt, toP sl ll (k : Int) = tt := ⟨_, rfl⟩
            rw [hfr, htt] at HLP TL
            rw [hfr] at KL
            rw [htt] at TH
            rw [hfr, htt]
            have hw : IntKind.i64.wrap (tt - fr) = tt - fr := IntWalk.i64_in _ ⟨by omega, by omega⟩
            have hI : I64 (tt - fr) := wf_i64 (by omega) (by omega)
            have HSK := Lib.hid (show (srcP l hv).take (k + 1) = (srcP l hv).take k ++ [(lk (gD dl k, tt - fr) E).getD (-1, 0)] by
              rw [HS.out, List.take_add_one, List.getElem?_map, List.getElem?_range hlt]
              simp only [Option.map_some, Option.toList_some]
              rw [HLP.out])
            have hlk := M2.out.look (gD dl k) (tt - fr) (HLW.out _ (List.mem_of_getElem? (gD_some (by rw [HLL2.out]; exact hlt)))) hI
            have cg : V2.cell? ⟨gm + 1, 0, none⟩ = some (.map (some gm)) := by rw [cell_of_row _ _ 0 _ _ _ G2.out]; rfl
            have HDS := Lib.hid (show (Try.prog.info? 59).map (·.size) = some (gD dl k).cells.toArray.size by rw [HCS.out]; exact HID.out)
            clear b2 Z1 BZ X1 X2 G1 G2 KL TL TH hfr htt HLP M2
            cases hq : lk (gD dl k, tt - fr) E with
            | some p =>
              rw [hq] at hlk HSK
              obtain ⟨i1, hi1, hx0, hx1, hx2⟩ := info_parts info_src
              obtain ⟨Wq, hWq⟩ : ∃ Wq, (V2.alloc (.cells #[.int .i64 p.1, .int .i64 p.2] 47)).alloc (.cells #[.int .i64 p.1, .int .i64 p.2] 47) = Wq := ⟨_, rfl⟩
              have O4 := Lib.hid (show Wq.ownsRow W.heap.size 47 2 (.slice A' k c') k (((srcP l hv).take k).flatMap srcC) by rw [← hWq]; exact own_keep' HO.out (fun j hj => ((B2.out.alloc B2.out.size (.cells #[.int .i64 p.1, .int .i64 p.2] 47)).alloc (by simp; have := B2.out.size; omega) (.cells #[.int .i64 p.1, .int .i64 p.2] 47)).block j (HO.out.lt j hj).2))
              have R4 := Lib.hid (show Reads Wq (V2.heap.size + 2) 2 (some ⟨V2.heap.size + 1, 0, none⟩) 1 [.int .i64 (p.1), .int .i64 (p.2)] by
                rw [← hWq]
                refine ⟨rfl, fun _ => ⟨_, rfl, Nat.lt_succ_self _, fun j u hu => ?_⟩⟩
                rw [add_head]
                have h := cell_new (V2.alloc (.cells #[.int .i64 p.1, .int .i64 p.2] 47)) #[.int .i64 (p.1), .int .i64 (p.2)] 47 j
                rw [show (V2.alloc (.cells #[.int .i64 p.1, .int .i64 p.2] 47)).heap.size = V2.heap.size + 1 by simp] at h
                rw [h]
                simpa using hu)
              have B4 := Lib.hid (show Below W.heap.size W Wq by rw [← hWq]; exact HB.out.trans ((((B2.out.alloc B2.out.size (.cells #[.int .i64 p.1, .int .i64 p.2] 47)).alloc (by simp; have := B2.out.size; omega) (.cells #[.int .i64 p.1, .int .i64 p.2] 47))).mono (by omega)))
              have hzq := B4.out.size
              have HWQ := Lib.hid hWq
              clear hWq
              gi_wp2_with (first
                | (refine wpListIn_load_row rfl 59 (.tmp 18) rfl wr.heap.size rfl 59 _ (0, 0) _ D2.out Try.underlying59 rfl HDS.out ?_)
                | (refine wpListIn_build_kd rfl (.tmp 79) (.tmp 82) rfl (gD dl k) (tt - fr) rfl rfl ?_)
                | (rw [HWQ.out]; refine wpListIn_append_any rfl (.tmp 90) (.tmp 92) 42 rfl W.heap.size 47 i1 _ 2 16 Try.underlying42 hi1 hx0 hx1 hx2 rfl (by decide) (.slice A' k c') k (((srcP l hv).take k).flatMap srcC) rfl O4.out (V2.heap.size + 2) (some ⟨V2.heap.size + 1, 0, none⟩) 1 1 [.int .i64 (p.1), .int .i64 (p.2)] rfl R4.out (by intro u hu; simp only [List.mem_cons, List.not_mem_nil, or_false] at hu; rcases hu with rfl | rfl <;> rfl) (by simp only [maxLen]; omega) (by omega) hzq ?_
                   intro v' w5 ho5 hg5 _
                   obtain ⟨A5, c5, rfl, _⟩ := own_shape ho5)
                | fail)
              have HO5 := Lib.hid (show w5.ownsRow W.heap.size 47 2 (.slice A5 (k + 1) c5) (k + 1) (((srcP l hv).take (k + 1)).flatMap srcC) by
                rw [HSK.out, List.flatMap_append]
                exact ho5)
              have HB5 := Lib.hid (show Below W.heap.size W w5 from B4.out.grown hg5 hzq (fun j hj => (O4.out.lt j hj).1))
              clear ho5 hg5
              go_roundw
              case rel => exact ⟨k + 1, A5, c5, hlt, by go_num, rfl, HO5.out, HB5.out⟩
              case measure => simp [intOf]; omega
            | none =>
              rw [hq] at hlk HSK
              obtain ⟨i1, hi1, hx0, hx1, hx2⟩ := info_parts info_src
              obtain ⟨Wq, hWq⟩ : ∃ Wq, (V2.alloc (.cells #[.int .i64 (-1), .int .i64 0] 47)).alloc (.cells #[.int .i64 (-1), .int .i64 0] 47) = Wq := ⟨_, rfl⟩
              have O4 := Lib.hid (show Wq.ownsRow W.heap.size 47 2 (.slice A' k c') k (((srcP l hv).take k).flatMap srcC) by rw [← hWq]; exact own_keep' HO.out (fun j hj => ((B2.out.alloc B2.out.size (.cells #[.int .i64 (-1), .int .i64 0] 47)).alloc (by simp; have := B2.out.size; omega) (.cells #[.int .i64 (-1), .int .i64 0] 47)).block j (HO.out.lt j hj).2))
              have R4 := Lib.hid (show Reads Wq (V2.heap.size + 2) 2 (some ⟨V2.heap.size + 1, 0, none⟩) 1 [.int .i64 (-1), .int .i64 (0)] by
                rw [← hWq]
                refine ⟨rfl, fun _ => ⟨_, rfl, Nat.lt_succ_self _, fun j u hu => ?_⟩⟩
                rw [add_head]
                have h := cell_new (V2.alloc (.cells #[.int .i64 (-1), .int .i64 0] 47)) #[.int .i64 (-1), .int .i64 (0)] 47 j
                rw [show (V2.alloc (.cells #[.int .i64 (-1), .int .i64 0] 47)).heap.size = V2.heap.size + 1 by simp] at h
                rw [h]
                simpa using hu)
              have B4 := Lib.hid (show Below W.heap.size W Wq by rw [← hWq]; exact HB.out.trans ((((B2.out.alloc B2.out.size (.cells #[.int .i64 (-1), .int .i64 0] 47)).alloc (by simp; have := B2.out.size; omega) (.cells #[.int .i64 (-1), .int .i64 0] 47))).mono (by omega)))
              have hzq := B4.out.size
              have HWQ := Lib.hid hWq
              clear hWq
              gi_wp2_with (first
                | (refine wpListIn_load_row rfl 59 (.tmp 18) rfl wr.heap.size rfl 59 _ (0, 0) _ D2.out Try.underlying59 rfl HDS.out ?_)
                | (refine wpListIn_build_kd rfl (.tmp 79) (.tmp 82) rfl (gD dl k) (tt - fr) rfl rfl ?_)
                | (rw [HWQ.out]; refine wpListIn_append_any rfl (.tmp 90) (.tmp 92) 42 rfl W.heap.size 47 i1 _ 2 16 Try.underlying42 hi1 hx0 hx1 hx2 rfl (by decide) (.slice A' k c') k (((srcP l hv).take k).flatMap srcC) rfl O4.out (V2.heap.size + 2) (some ⟨V2.heap.size + 1, 0, none⟩) 1 1 [.int .i64 (-1), .int .i64 (0)] rfl R4.out (by intro u hu; simp only [List.mem_cons, List.not_mem_nil, or_false] at hu; rcases hu with rfl | rfl <;> rfl) (by simp only [maxLen]; omega) (by omega) hzq ?_
                   intro v' w5 ho5 hg5 _
                   obtain ⟨A5, c5, rfl, _⟩ := own_shape ho5)
                | fail)
              have HO5 := Lib.hid (show w5.ownsRow W.heap.size 47 2 (.slice A5 (k + 1) c5) (k + 1) (((srcP l hv).take (k + 1)).flatMap srcC) by
                rw [HSK.out, List.flatMap_append]
                exact ho5)
              have HB5 := Lib.hid (show Below W.heap.size W w5 from B4.out.grown hg5 hzq (fun j hj => (O4.out.lt j hj).1))
              clear ho5 hg5
              go_roundw
              case rel => exact ⟨k + 1, A5, c5, hlt, by go_num, rfl, HO5.out, HB5.out⟩
              case measure => simp [intOf]; omega
          · obtain rfl : k = nl := by omega
            have hK2 : wr.heap[D]? = some (.deferred (some [])) := (HB.out.block D hDW).trans HK.out
            have HT := Lib.hid (show (srcP l hv).take k = srcP l hv from List.take_of_length_le (by rw [HS.out, List.length_map, List.length_range]; exact Nat.le_refl _))
            have HPL := Lib.hid (show planP l hv = srcP l hv by unfold planP; rw [if_pos HE.out])
            have hbz := HB.out.size
            clear s2
            gi_wp2_with fail
            refine ⟨by simp, .inl ⟨_, _, rfl, run_takeDeferred hK2, ?_⟩⟩
            refine ⟨_, results_two rfl _ _, A', k, c', by rw [HE.out]; rfl, ?_, ?_⟩
            · rw [HPL.out]
              have h := HO.out
              rw [HT.out] at h
              exact own_down' (ownsRow_putObj h _ hK2 rfl) (by omega)
            · exact (hn0 ▸ HP.out.bl).trans (((HB.out.mono (by omega)).trans ((belowK_b (w := w7) (Nat.le_refl _) wr D _ _ (by omega) hK2 rfl rfl).mono (by omega))))
      case body =>
        rintro l2 pre x a' W hl2 ⟨rr, hrr⟩ hp ⟨j1, j2, h1, h2, rfl, hc1, hc2⟩ hlen
        obtain ⟨y, hy⟩ : ∃ y : LX, gD hv x.1 = y := ⟨_, rfl⟩
        have hmem : y ∈ hv := hy ▸ List.mem_of_getElem? (gD_some (by rw [HLN.out]; exact x.2))
        have HY := Lib.hid (HH.out y hmem)
        have HYC := Lib.hid (HCK.out y (List.mem_cons_of_mem _ hmem))
        have HYE := Lib.hid hy
        rw [hy] at hc2 ⊢
        clear hy hmem
        have HP := Lib.hid hp
        have C1 := Lib.hid hc1
        have C2 := Lib.hid hc2
        have HRR := Lib.hid hrr
        have hps := hp.sz
        have hj2 := (Array.getElem?_eq_some_iff.1 hc2).1
        have hl2W := (Array.getElem?_eq_some_iff.1 hrr).1
        have s2 : W.cell? ⟨j2, 2, none⟩ = some (.slice y.v.a y.v.n y.v.c) := by rw [cell_of_row _ _ 2 _ _ _ hc2]; rfl
        clear hc1 hc2 hrr hp
        gi_wp2_with fail
        refine ⟨trivial, (CallsIn.inRound l2 (callsIn_wide.2 (callsIn_wide.1 (backD_v y.v.a y.v.n y.v.c W)))).mono ?_⟩
        rintro e w8 ⟨rfl, rfl⟩
        have BA := (Below.refl W.heap.size W).alloc (Nat.le_refl _) (.cells #[.slice y.v.a y.v.n y.v.c] 22)
        have hg8 := below_grown BA
        have J0 := Lib.hid (show PlJ w n0 gm #[.int .i64 sl, .int .i64 ll, .slice al nl cl] (.slice A m c) (entsP hv (pre.map fun x : Ix m => x.1)) W (W.heap.size + 1) j1 j2 (x.1 : Int) y.cells.toArray (W.alloc (.cells #[.slice y.v.a y.v.n y.v.c] 22)) from
          ⟨HP.out.grow hg8 (by omega) hnw (fun r e => by cases e), (BA.block j1 (by omega)).trans C1.out, (BA.block j2 hj2).trans C2.out, BA.mono (by omega), BA.block _ (by omega), KeepsFrom.of_grownBy hg8 (fun j e => by cases e), by simp⟩)
        have HR8 := Lib.hid ((BA.block l2 hl2W).trans HRR.out)
        have hz8 : (W.alloc (.cells #[.slice y.v.a y.v.n y.v.c] 22)).heap.size = W.heap.size + 1 := by simp
        have CB := Lib.hid (heap_alloc_new W (.cells #[.slice y.v.a y.v.n y.v.c] 22))
        clear s2 BA hg8
        gi_wp2_with fail
        generalize W.alloc (.cells #[.slice y.v.a y.v.n y.v.c] 22) = w8 at *
        have SEQ2 := Lib.hid (backD_stops W.heap.size n0 y.v.a y.v.n y.v.c y.ds w8 9 (by omega) (by rw [cell_of_row _ _ 0 _ _ _ CB.out]; rfl) (Reads.below HY.out.1 J0.out.p.bl) (by omega) (by have := HY.out.2.1; omega))
        refine wpIn_rangeFunc_ownN (l₀ := l2) (r₀ := rr) rfl HR8.out (by omega) (gf := 55) (lb := #[.pointer (some ⟨W.heap.size, 0, none⟩)]) rfl trivial (enters_of Try.func55 (by kernel_rfl) rfl)
          (SEQ2.out.inRound l2) (fun h k => ⟨h.1.trans k.1, k.2.trans h.2⟩)
          (fun V l o o' hl h h1 h2 => ⟨(belowK_b (w := w8) (Nat.le_refl _) V l o o' hl h h1 h2).mono (by omega), World.putObj_heap_other (by omega)⟩) (Below.refl _ _) (fun _ => rfl)
          (fun (pre' : List (Ix y.v.n)) V => PlJ w n0 gm #[.int .i64 sl, .int .i64 ll, .slice al nl cl] (.slice A m c) (entsI x.1 y (pre'.map fun z : Ix y.v.n => z.1) ++ entsP hv (pre.map fun x : Ix m => x.1)) W (W.heap.size + 1) j1 j2 (x.1 : Int) y.cells.toArray V) (fun _ _ _ => False)
          (fun pre' V V' row h hg hr => h.grow hg (by omega) hnw (by omega) (by omega) (Nat.le_succ _) hps (fun r e => by have := (hr r e).1; omega)) (fun _ _ _ _ _ hs _ _ => hs) J0.out
          (fun (z : Ix y.v.n) a'' V => ∃ j3, W.heap.size + 1 ≤ j3 ∧ a'' = ({ tmps := #[.agg #[.int .i64 sl, .int .i64 ll, .slice al nl cl], .slice A m c, .pointer (some ⟨n0, 0, none⟩), undef, u4, u5, undef, u7, u8, .pointer (some ⟨gm + 1, 0, none⟩), .pointer (some ⟨j1, 0, none⟩), .pointer (some ⟨j2, 0, none⟩), .int .i64 (z.1 : Int), .pointer (some ⟨j3, 0, none⟩), undef, undef, undef, undef, undef, undef, undef, undef, undef, .agg #[.int .i64 sl, .int .i64 ll, .slice al nl cl], .slice (some ⟨n0 + 1, 0, none⟩) 1 1, .slice A m c, .slice A3 k c3, .int .i64 (1 + (m : Int)), .int .i64 (k : Int), .bool (decide ((k : Int) < 1 + (m : Int))), u30, u31, u32, u33, u34, u35, u36, u37, .map (some gm), .slice A m c, .func (.func 54) #[] #[.pointer (some ⟨gm + 2, 0, none⟩)], .int .i64 (x.1 : Int), .agg y.cells.toArray, .pointer (some ⟨j2, 2, none⟩), .slice y.v.a y.v.n y.v.c, .func (.func 55) #[] #[.pointer (some ⟨W.heap.size, 0, none⟩)], .int .i64 (z.1 : Int), .agg (gD y.ds z.1).cells.toArray, undef, undef, undef, undef, undef, undef, undef, undef, undef, undef, undef, undef, undef, undef, undef, undef, undef, undef, undef, undef, undef, undef, undef, undef, undef, undef, undef, undef, undef, undef, undef, undef, undef, undef, undef, undef, undef, undef, undef, undef, undef, undef, undef, undef, undef, undef, undef, undef], defers := [] } : Act) ∧ V.heap[j3]? = some (.cells (gD y.ds z.1).cells.toArray 59 (0, 0)))
          (fun z a'' _ V V' row h hg hr => ?ax2) ?assign2 ?body2 ?done2 ?stop2
        case ax2 =>
          obtain ⟨j3, h3, e, hc3⟩ := h
          refine ⟨j3, h3, e, (hg.block j3 (Array.getElem?_eq_some_iff.1 hc3).1 (fun e2 => ?_)).trans hc3⟩
          obtain ⟨_, o, ho, hco⟩ := hr j3 e2.symm
          rw [hc3] at ho
          cases ho
          cases hco
        case stop2 =>
          rintro c' pre' V _ h
          exact h.elim
        case assign2 =>
          rintro l3 pre' z V K hp hK
          have hcl : (gD y.ds z.1).cells.toArray.size = 32 := by simp [Dg.cells_len]
          have HIS := Lib.hid (show (Try.prog.info? 59).map (·.size) = some (gD y.ds z.1).cells.toArray.size by rw [hcl]; exact HID.out)
          have Z0 := Lib.hid (heap_alloc_new V (.cells #[Value.int .u8 0, Value.int .u8 0, Value.int .u8 0, Value.int .u8 0, Value.int .u8 0, Value.int .u8 0, Value.int .u8 0, Value.int .u8 0, Value.int .u8 0, Value.int .u8 0, Value.int .u8 0, Value.int .u8 0, Value.int .u8 0, Value.int .u8 0, Value.int .u8 0, Value.int .u8 0, Value.int .u8 0, Value.int .u8 0, Value.int .u8 0, Value.int .u8 0, Value.int .u8 0, Value.int .u8 0, Value.int .u8 0, Value.int .u8 0, Value.int .u8 0, Value.int .u8 0, Value.int .u8 0, Value.int .u8 0, Value.int .u8 0, Value.int .u8 0, Value.int .u8 0, Value.int .u8 0] 59))
          have Z1 := Lib.hid (setRow_heap _ V.heap.size _ (gD y.ds z.1).cells.toArray _ _ Z0.out)
          have BZ := Lib.hid (below_setRow ((Below.refl V.heap.size V).alloc (Nat.le_refl _) (.cells #[Value.int .u8 0, Value.int .u8 0, Value.int .u8 0, Value.int .u8 0, Value.int .u8 0, Value.int .u8 0, Value.int .u8 0, Value.int .u8 0, Value.int .u8 0, Value.int .u8 0, Value.int .u8 0, Value.int .u8 0, Value.int .u8 0, Value.int .u8 0, Value.int .u8 0, Value.int .u8 0, Value.int .u8 0, Value.int .u8 0, Value.int .u8 0, Value.int .u8 0, Value.int .u8 0, Value.int .u8 0, Value.int .u8 0, Value.int .u8 0, Value.int .u8 0, Value.int .u8 0, Value.int .u8 0, Value.int .u8 0, Value.int .u8 0, Value.int .u8 0, Value.int .u8 0, Value.int .u8 0] 59)) (Nat.le_refl _) (gD y.ds z.1).cells.toArray)
          have HCL := Lib.hid hcl
          clear hcl
          gi_wp2_with (first
            | (refine wpListIn_store_row rfl 59 (.tmp 13) (.tmp 47) rfl V.heap.size (gD y.ds z.1).cells.toArray rfl rfl 59 _ Z0.out HIS.out (by rw [HCL.out]; rfl) (all1_dg _) ?_)
            | fail)
          have hg := below_grown BZ.out
          have hpz := hp.sz
          have hpz2 := hp.p.sz
          exact hK _ _ (KeepsFrom.of_grownBy hg (fun j e => by cases e)) ⟨BZ.out.mono (by omega), BZ.out.block _ (by omega)⟩ (hp.grow hg (by omega) hnw (by omega) (by omega) (Nat.le_succ _) hps (fun r e => by cases e)) ⟨V.heap.size, hp.sz, rfl, Z1.out⟩
        case done2 =>
          rintro ys V hS hp
          gi_wp2_with fail
          have hS2 : ys.map (fun z : Ix y.v.n => z.1) = (List.range y.v.n).reverse := hS
          refine ⟨by rw [hz7]; exact hp.kf, ⟨hp.bl, hp.hb⟩, ?_⟩
          have h := hp.p
          rw [entsI_all _ _ hS2, ← HYE.out] at h
          show PlI _ _ _ _ _ (entsP hv ((pre ++ [x]).map fun x : Ix m => x.1)) _
          rw [List.map_append]
          show PlI _ _ _ _ _ (entsP hv (pre.map (fun x : Ix m => x.1) ++ [x.1])) _
          rw [entsP_snoc]
          exact h
        case body2 =>
          rintro l3 pre' z a'' V hl3 _ hp ⟨j3, h3, rfl, hc3⟩ hlen'
          have HP2 := Lib.hid hp
          have C3 := Lib.hid hc3
          have hzn := z.2
          obtain ⟨q1, q2, q3, q4, q5, q6⟩ := chk_ok (show chk y.v.sz y.v.ln y.v.n = 0 from HYC.out)
          have HZW := Lib.hid (show DgW (gD y.ds z.1) from HY.out.2.2 _ (List.mem_of_getElem? (gD_some (by rw [HY.out.1.len]; exact z.2))))
          have hj3 := (Array.getElem?_eq_some_iff.1 hc3).1
          have hpz := hp.sz
          clear hp hc3 q3 q6
          gi_wp2_with (first
            | (refine wpListIn_load_row rfl 24 (.tmp 11) rfl j2 rfl 24 _ (0, 0) _ HP2.out.f2 Try.underlying24 rfl HI.out ?_)
            | fail)
          refine ⟨trivial, (CallsIn.inRound l3 (callsIn_wide.2 (at0_v y.v.sz y.v.ln (z.1 : Int) y.v.a y.v.n y.v.c V (by omega) q2 (by omega) (by omega)))).mono ?_⟩
          rintro e V2 ⟨rfl, b2⟩
          have hg2 := below_grown b2
          have HP3 := Lib.hid (HP2.out.grow hg2 (by omega) hnw (by omega) (by omega) (Nat.le_succ _) hps (fun r e => by cases e))
          have C33 := Lib.hid ((b2.block j3 hj3).trans C3.out)
          have HKF := Lib.hid (show KeepsFrom w8.heap.size V V2 from KeepsFrom.of_grownBy hg2 (fun j e => by cases e))
          have KL := chk_last (show chk y.v.sz y.v.ln y.v.n = 0 from HYC.out) (k := (z.1 : Int)) (by omega) (by omega)
          have TL := toP_lo (k := (z.1 : Int)) q1 (by omega) KL.1
          have TH : toP y.v.sz y.v.ln (z.1 : Int) ≤ y.v.ln := by unfold toP; omega
          have HLP := Lib.hid (show lenP y z.1 = toP y.v.sz y.v.ln (z.1 : Int) - (z.1 : Int) * y.v.sz from rfl)
          have HB2 := Lib.hid (show Below n0 V V2 from b2.mono (by have := HP2.out.p.bl.size; omega))
          have HBB := Lib.hid (show V2.heap[W.heap.size]? = V.heap[W.heap.size]? from b2.block _ (by omega))
          obtain ⟨fr, hfr⟩ : ∃ fr, (z.1 : Int) * y.v.sz = fr := ⟨_, rfl⟩
          obtain ⟨tt, htt⟩ : ∃ tt, toP y.v.sz y.v.ln (z.1 : Int) = tt := ⟨_, rfl⟩
          rw [hfr, htt] at HLP TL
          rw [hfr] at KL
          rw [htt] at TH
          rw [hfr, htt]
          have hw : IntKind.i64.wrap (tt - fr) = tt - fr := IntWalk.i64_in _ ⟨by omega, by omega⟩
          have hI : I64 (tt - fr) := wf_i64 (by omega) (by omega)
          have hz2 := b2.size
          obtain ⟨V3, hrun, hk3, hg3, hz3⟩ := HP3.out.p.km.store (gD y.ds z.1) (tt - fr) HZW.out hI (x.1 : Int) (z.1 : Int)
          have HP4 := Lib.hid (HP3.out.store hg3 hgn hnw (by omega) (by omega) hps hk3)
          have HKF2 := Lib.hid (HKF.out.trans (KeepsFrom.of_grownBy hg3 (fun j e => by cases e; omega)))
          have HB3 := Lib.hid (show Below n0 V V3 from HB2.out.grown hg3 (by have := HP3.out.p.bl.size; omega) (fun k e => by cases e; omega))
          have HBB3 := Lib.hid (show V3.heap[W.heap.size]? = V.heap[W.heap.size]? from (hg3.block _ (by omega) (fun e => by have := Option.some.inj e; omega)).trans HBB.out)
          have cg : V2.cell? ⟨gm + 1, 0, none⟩ = some (.map (some gm)) := by rw [cell_of_row _ _ 0 _ _ _ HP3.out.p.g9]; rfl
          have cf : V2.cell? ⟨j1, 0, none⟩ = some (.int .i64 (x.1 : Int)) := by rw [cell_of_row _ _ 0 _ _ _ HP3.out.f1]; rfl
          have HCL := Lib.hid (show (Try.prog.info? 59).map (·.size) = some (gD y.ds z.1).cells.toArray.size by simp only [List.size_toArray, Dg.cells_len]; exact HID.out)
          clear b2 hg2 hk3 hg3 HP2 C3 HKF HB2 HBB KL TL TH hfr htt
          gi_wp2_with (first
            | (refine wpListIn_load_row rfl 59 (.tmp 13) rfl j3 rfl 59 _ (0, 0) _ C33.out Try.underlying59 rfl HCL.out ?_)
            | (refine wpListIn_build_kd rfl (.tmp 55) (.tmp 58) rfl (gD y.ds z.1) (tt - fr) rfl rfl ?_)
            | fail)
          refine ⟨HKF2.out, ⟨HB3.out, HBB3.out⟩, ?_⟩
          show PlJ _ _ _ _ _ (entsI x.1 y ((pre' ++ [z]).map fun z : Ix y.v.n => z.1) ++ _) _ _ _ _ _ _ _
          rw [List.map_append]
          show PlJ _ _ _ _ _ (entsI x.1 y (pre'.map (fun z : Ix y.v.n => z.1) ++ [z.1]) ++ _) _ _ _ _ _ _ _
          rw [entsI_snoc, HLP.out]
          exact HP4.out
end Go.Proofs.Ytmaehbebpldpcaa
