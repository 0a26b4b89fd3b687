/-
  Digests: Of, walked.
-/
import Derived.Test.YtmaehbebpldpcaaShaI
namespace Go.Proofs.Ytmaehbebpldpcaa
open Go.RowKit Go.Shelf
attribute [local go_sem] Oper.semAt_some
theorem begin_v' (w : World) : Calls Try.prog 47 #[] w fun e w' => e = .returned (.agg (st8.list.map fun x : Nat => Value.int .u32 (x : Int)).toArray) ∧ Below w.heap.size w w' := by
  rw [list_st8]; exact begin_v w
theorem add_head (g j : Nat) : (⟨g, 0, none⟩ : Addr).add j = ⟨g, j, none⟩ := by unfold Addr.add; split <;> simp_all
/-- Where the loop begins. -/
structure OfW (w : World) (gk : Nat) (W : World) : Prop where
  hk : Arr .u32 78 W gk K64
  hs : Arr .u32 80 W (gk + 1) st8.list
  h0 : Arr .u8 59 W w.heap.size (List.replicate 32 0)
  hb : Below w.heap.size w W
theorem OfW.below {w : World} {gk : Nat} {W W' : World} (h : OfW w gk W) (hb : Below W.heap.size W W') : OfW w gk W' :=
  ⟨h.hk.below hb, h.hs.below hb, h.h0.below hb, h.hb.trans (hb.mono (Nat.le_of_lt h.h0.lt))⟩
theorem OfW.start {w w2 : World} (h0 : Arr .u8 59 w2 w.heap.size (List.replicate 32 0)) (hb : Below w.heap.size w w2) :
    OfW w w2.heap.size ((((w2.alloc (.cells #[Value.int .u32 0, Value.int .u32 0, Value.int .u32 0, Value.int .u32 0, Value.int .u32 0, Value.int .u32 0, Value.int .u32 0, Value.int .u32 0, Value.int .u32 0, Value.int .u32 0, Value.int .u32 0, Value.int .u32 0, Value.int .u32 0, Value.int .u32 0, Value.int .u32 0, Value.int .u32 0, Value.int .u32 0, Value.int .u32 0, Value.int .u32 0, Value.int .u32 0, Value.int .u32 0, Value.int .u32 0, Value.int .u32 0, Value.int .u32 0, Value.int .u32 0, Value.int .u32 0, Value.int .u32 0, Value.int .u32 0, Value.int .u32 0, Value.int .u32 0, Value.int .u32 0, Value.int .u32 0, Value.int .u32 0, Value.int .u32 0, Value.int .u32 0, Value.int .u32 0, Value.int .u32 0, Value.int .u32 0, Value.int .u32 0, Value.int .u32 0, Value.int .u32 0, Value.int .u32 0, Value.int .u32 0, Value.int .u32 0, Value.int .u32 0, Value.int .u32 0, Value.int .u32 0, Value.int .u32 0, Value.int .u32 0, Value.int .u32 0, Value.int .u32 0, Value.int .u32 0, Value.int .u32 0, Value.int .u32 0, Value.int .u32 0, Value.int .u32 0, Value.int .u32 0, Value.int .u32 0, Value.int .u32 0, Value.int .u32 0, Value.int .u32 0, Value.int .u32 0, Value.int .u32 0, Value.int .u32 0] 78)).alloc (.cells #[Value.int .u32 0, Value.int .u32 0, Value.int .u32 0, Value.int .u32 0, Value.int .u32 0, Value.int .u32 0, Value.int .u32 0, Value.int .u32 0] 80)).setRow w2.heap.size (K64.map fun x : Nat => Value.int .u32 (x : Int)).toArray).setRow (w2.heap.size + 1) (st8.list.map fun x : Nat => Value.int .u32 (x : Int)).toArray) := by
  have hl := h0.lt
  have e64 : ((w2.alloc (.cells #[Value.int .u32 0, Value.int .u32 0, Value.int .u32 0, Value.int .u32 0, Value.int .u32 0, Value.int .u32 0, Value.int .u32 0, Value.int .u32 0, Value.int .u32 0, Value.int .u32 0, Value.int .u32 0, Value.int .u32 0, Value.int .u32 0, Value.int .u32 0, Value.int .u32 0, Value.int .u32 0, Value.int .u32 0, Value.int .u32 0, Value.int .u32 0, Value.int .u32 0, Value.int .u32 0, Value.int .u32 0, Value.int .u32 0, Value.int .u32 0, Value.int .u32 0, Value.int .u32 0, Value.int .u32 0, Value.int .u32 0, Value.int .u32 0, Value.int .u32 0, Value.int .u32 0, Value.int .u32 0, Value.int .u32 0, Value.int .u32 0, Value.int .u32 0, Value.int .u32 0, Value.int .u32 0, Value.int .u32 0, Value.int .u32 0, Value.int .u32 0, Value.int .u32 0, Value.int .u32 0, Value.int .u32 0, Value.int .u32 0, Value.int .u32 0, Value.int .u32 0, Value.int .u32 0, Value.int .u32 0, Value.int .u32 0, Value.int .u32 0, Value.int .u32 0, Value.int .u32 0, Value.int .u32 0, Value.int .u32 0, Value.int .u32 0, Value.int .u32 0, Value.int .u32 0, Value.int .u32 0, Value.int .u32 0, Value.int .u32 0, Value.int .u32 0, Value.int .u32 0, Value.int .u32 0, Value.int .u32 0] 78)).alloc (.cells #[Value.int .u32 0, Value.int .u32 0, Value.int .u32 0, Value.int .u32 0, Value.int .u32 0, Value.int .u32 0, Value.int .u32 0, Value.int .u32 0] 80)).heap[w2.heap.size]? = some (.cells #[Value.int .u32 0, Value.int .u32 0, Value.int .u32 0, Value.int .u32 0, Value.int .u32 0, Value.int .u32 0, Value.int .u32 0, Value.int .u32 0, Value.int .u32 0, Value.int .u32 0, Value.int .u32 0, Value.int .u32 0, Value.int .u32 0, Value.int .u32 0, Value.int .u32 0, Value.int .u32 0, Value.int .u32 0, Value.int .u32 0, Value.int .u32 0, Value.int .u32 0, Value.int .u32 0, Value.int .u32 0, Value.int .u32 0, Value.int .u32 0, Value.int .u32 0, Value.int .u32 0, Value.int .u32 0, Value.int .u32 0, Value.int .u32 0, Value.int .u32 0, Value.int .u32 0, Value.int .u32 0, Value.int .u32 0, Value.int .u32 0, Value.int .u32 0, Value.int .u32 0, Value.int .u32 0, Value.int .u32 0, Value.int .u32 0, Value.int .u32 0, Value.int .u32 0, Value.int .u32 0, Value.int .u32 0, Value.int .u32 0, Value.int .u32 0, Value.int .u32 0, Value.int .u32 0, Value.int .u32 0, Value.int .u32 0, Value.int .u32 0, Value.int .u32 0, Value.int .u32 0, Value.int .u32 0, Value.int .u32 0, Value.int .u32 0, Value.int .u32 0, Value.int .u32 0, Value.int .u32 0, Value.int .u32 0, Value.int .u32 0, Value.int .u32 0, Value.int .u32 0, Value.int .u32 0, Value.int .u32 0] 78) := heap_alloc2_old w2 _ _
  have e8 : ((w2.alloc (.cells #[Value.int .u32 0, Value.int .u32 0, Value.int .u32 0, Value.int .u32 0, Value.int .u32 0, Value.int .u32 0, Value.int .u32 0, Value.int .u32 0, Value.int .u32 0, Value.int .u32 0, Value.int .u32 0, Value.int .u32 0, Value.int .u32 0, Value.int .u32 0, Value.int .u32 0, Value.int .u32 0, Value.int .u32 0, Value.int .u32 0, Value.int .u32 0, Value.int .u32 0, Value.int .u32 0, Value.int .u32 0, Value.int .u32 0, Value.int .u32 0, Value.int .u32 0, Value.int .u32 0, Value.int .u32 0, Value.int .u32 0, Value.int .u32 0, Value.int .u32 0, Value.int .u32 0, Value.int .u32 0, Value.int .u32 0, Value.int .u32 0, Value.int .u32 0, Value.int .u32 0, Value.int .u32 0, Value.int .u32 0, Value.int .u32 0, Value.int .u32 0, Value.int .u32 0, Value.int .u32 0, Value.int .u32 0, Value.int .u32 0, Value.int .u32 0, Value.int .u32 0, Value.int .u32 0, Value.int .u32 0, Value.int .u32 0, Value.int .u32 0, Value.int .u32 0, Value.int .u32 0, Value.int .u32 0, Value.int .u32 0, Value.int .u32 0, Value.int .u32 0, Value.int .u32 0, Value.int .u32 0, Value.int .u32 0, Value.int .u32 0, Value.int .u32 0, Value.int .u32 0, Value.int .u32 0, Value.int .u32 0] 78)).alloc (.cells #[Value.int .u32 0, Value.int .u32 0, Value.int .u32 0, Value.int .u32 0, Value.int .u32 0, Value.int .u32 0, Value.int .u32 0, Value.int .u32 0] 80)).heap[w2.heap.size + 1]? = some (.cells #[Value.int .u32 0, Value.int .u32 0, Value.int .u32 0, Value.int .u32 0, Value.int .u32 0, Value.int .u32 0, Value.int .u32 0, Value.int .u32 0] 80) := heap_alloc2_new w2 _ _
  have a0 : Arr .u8 59 ((w2.alloc (.cells #[Value.int .u32 0, Value.int .u32 0, Value.int .u32 0, Value.int .u32 0, Value.int .u32 0, Value.int .u32 0, Value.int .u32 0, Value.int .u32 0, Value.int .u32 0, Value.int .u32 0, Value.int .u32 0, Value.int .u32 0, Value.int .u32 0, Value.int .u32 0, Value.int .u32 0, Value.int .u32 0, Value.int .u32 0, Value.int .u32 0, Value.int .u32 0, Value.int .u32 0, Value.int .u32 0, Value.int .u32 0, Value.int .u32 0, Value.int .u32 0, Value.int .u32 0, Value.int .u32 0, Value.int .u32 0, Value.int .u32 0, Value.int .u32 0, Value.int .u32 0, Value.int .u32 0, Value.int .u32 0, Value.int .u32 0, Value.int .u32 0, Value.int .u32 0, Value.int .u32 0, Value.int .u32 0, Value.int .u32 0, Value.int .u32 0, Value.int .u32 0, Value.int .u32 0, Value.int .u32 0, Value.int .u32 0, Value.int .u32 0, Value.int .u32 0, Value.int .u32 0, Value.int .u32 0, Value.int .u32 0, Value.int .u32 0, Value.int .u32 0, Value.int .u32 0, Value.int .u32 0, Value.int .u32 0, Value.int .u32 0, Value.int .u32 0, Value.int .u32 0, Value.int .u32 0, Value.int .u32 0, Value.int .u32 0, Value.int .u32 0, Value.int .u32 0, Value.int .u32 0, Value.int .u32 0, Value.int .u32 0] 78)).alloc (.cells #[Value.int .u32 0, Value.int .u32 0, Value.int .u32 0, Value.int .u32 0, Value.int .u32 0, Value.int .u32 0, Value.int .u32 0, Value.int .u32 0] 80)) w.heap.size (List.replicate 32 0) := (h0.alloc _).alloc _
  have hb2 : Below w.heap.size w ((w2.alloc (.cells #[Value.int .u32 0, Value.int .u32 0, Value.int .u32 0, Value.int .u32 0, Value.int .u32 0, Value.int .u32 0, Value.int .u32 0, Value.int .u32 0, Value.int .u32 0, Value.int .u32 0, Value.int .u32 0, Value.int .u32 0, Value.int .u32 0, Value.int .u32 0, Value.int .u32 0, Value.int .u32 0, Value.int .u32 0, Value.int .u32 0, Value.int .u32 0, Value.int .u32 0, Value.int .u32 0, Value.int .u32 0, Value.int .u32 0, Value.int .u32 0, Value.int .u32 0, Value.int .u32 0, Value.int .u32 0, Value.int .u32 0, Value.int .u32 0, Value.int .u32 0, Value.int .u32 0, Value.int .u32 0, Value.int .u32 0, Value.int .u32 0, Value.int .u32 0, Value.int .u32 0, Value.int .u32 0, Value.int .u32 0, Value.int .u32 0, Value.int .u32 0, Value.int .u32 0, Value.int .u32 0, Value.int .u32 0, Value.int .u32 0, Value.int .u32 0, Value.int .u32 0, Value.int .u32 0, Value.int .u32 0, Value.int .u32 0, Value.int .u32 0, Value.int .u32 0, Value.int .u32 0, Value.int .u32 0, Value.int .u32 0, Value.int .u32 0, Value.int .u32 0, Value.int .u32 0, Value.int .u32 0, Value.int .u32 0, Value.int .u32 0, Value.int .u32 0, Value.int .u32 0, Value.int .u32 0, Value.int .u32 0] 78)).alloc (.cells #[Value.int .u32 0, Value.int .u32 0, Value.int .u32 0, Value.int .u32 0, Value.int .u32 0, Value.int .u32 0, Value.int .u32 0, Value.int .u32 0] 80)) := (hb.alloc (Nat.le_of_lt hl) _).alloc (by simp; omega) _
  generalize (w2.alloc (.cells #[Value.int .u32 0, Value.int .u32 0, Value.int .u32 0, Value.int .u32 0, Value.int .u32 0, Value.int .u32 0, Value.int .u32 0, Value.int .u32 0, Value.int .u32 0, Value.int .u32 0, Value.int .u32 0, Value.int .u32 0, Value.int .u32 0, Value.int .u32 0, Value.int .u32 0, Value.int .u32 0, Value.int .u32 0, Value.int .u32 0, Value.int .u32 0, Value.int .u32 0, Value.int .u32 0, Value.int .u32 0, Value.int .u32 0, Value.int .u32 0, Value.int .u32 0, Value.int .u32 0, Value.int .u32 0, Value.int .u32 0, Value.int .u32 0, Value.int .u32 0, Value.int .u32 0, Value.int .u32 0, Value.int .u32 0, Value.int .u32 0, Value.int .u32 0, Value.int .u32 0, Value.int .u32 0, Value.int .u32 0, Value.int .u32 0, Value.int .u32 0, Value.int .u32 0, Value.int .u32 0, Value.int .u32 0, Value.int .u32 0, Value.int .u32 0, Value.int .u32 0, Value.int .u32 0, Value.int .u32 0, Value.int .u32 0, Value.int .u32 0, Value.int .u32 0, Value.int .u32 0, Value.int .u32 0, Value.int .u32 0, Value.int .u32 0, Value.int .u32 0, Value.int .u32 0, Value.int .u32 0, Value.int .u32 0, Value.int .u32 0, Value.int .u32 0, Value.int .u32 0, Value.int .u32 0, Value.int .u32 0] 78)).alloc (.cells #[Value.int .u32 0, Value.int .u32 0, Value.int .u32 0, Value.int .u32 0, Value.int .u32 0, Value.int .u32 0, Value.int .u32 0, Value.int .u32 0] 80) = W at *
  exact ⟨Arr.keep (setRow_heap W _ _ _ _ _ e64) (setRow_other _ _ _ _ (by omega)), setRow_heap _ _ _ _ _ _ ((setRow_other W _ _ _ (by omega)).trans e8), (a0.keep (setRow_other W _ _ _ (by omega))).keep (setRow_other _ _ _ _ (by omega)), below_setRow (below_setRow hb2 (by omega) _) (by omega) _⟩
theorem BOwn.aside {W : World} {base n c : Nat} {A : Option Addr} {l : List UInt8} (h : BOwn W base A n c l) (hn : 0 < n) : ∃ g, A = some ⟨g, 0, none⟩ ∧ base ≤ g ∧ g < W.heap.size := BOwn.addr h hn
/-- While the digest's bytes are laid. -/
structure DigI (w : World) (D gd : Nat) (ds : List Nat) (W : World) : Prop where
  hd : Arr .u8 59 W gd ds
  h0 : Arr .u8 59 W w.heap.size (List.replicate 32 0)
  hD : W.heap[D]? = some (.deferred (some []))
  hb : Below w.heap.size w W
  h1 : w.heap.size < D
  h2 : D < gd
theorem DigI.set_ {w : World} {D gd : Nat} {ds : List Nat} {W : World} (h : DigI w D gd ds W) (i : Nat) (z : Int) (x : Nat) (hz : z = (x : Int)) : DigI w D gd (ds.set i x) (W.setCell ⟨gd, i, none⟩ (.int .u8 z)) := by
  have h1 := h.h1
  have h2 := h.h2
  exact ⟨h.hd.set_ i z x hz, h.h0.setOther (by simp; omega) _, (Below.heap_setCell W _ _ D (by simp; omega)).trans h.hD, h.hb.setCell (by simp; omega) _, h1, h2⟩
theorem DigI.start {w : World} {D : Nat} {W : World} (h0 : Arr .u8 59 W w.heap.size (List.replicate 32 0)) (hD : W.heap[D]? = some (.deferred (some []))) (hb : Below w.heap.size w W) (h1 : w.heap.size < D) :
    DigI w D W.heap.size (List.replicate 32 0) (W.alloc (.cells #[Value.int .u8 0, Value.int .u8 0, Value.int .u8 0, Value.int .u8 0, Value.int .u8 0, Value.int .u8 0, Value.int .u8 0, Value.int .u8 0, Value.int .u8 0, Value.int .u8 0, Value.int .u8 0, Value.int .u8 0, Value.int .u8 0, Value.int .u8 0, Value.int .u8 0, Value.int .u8 0, Value.int .u8 0, Value.int .u8 0, Value.int .u8 0, Value.int .u8 0, Value.int .u8 0, Value.int .u8 0, Value.int .u8 0, Value.int .u8 0, Value.int .u8 0, Value.int .u8 0, Value.int .u8 0, Value.int .u8 0, Value.int .u8 0, Value.int .u8 0, Value.int .u8 0, Value.int .u8 0] 59)) := by
  have hl := (Array.getElem?_eq_some_iff.1 hD).1
  exact ⟨Arr.new W _ _ rfl, h0.alloc _, (Below.heap_alloc W _ D hl).trans hD, hb.alloc (by omega) _, h1, hl⟩
theorem dig_cell {q : St} {k j : Nat} (hk : k ≤ 8) (hj : j < 32) : ∃ x, (digAt q k)[j]? = some x := ⟨_, List.getElem?_eq_getElem (by rw [digAt_len q k hk]; exact hj)⟩
set_option maxRecDepth 100000 in
theorem dig_index (q : St) (k x : Nat) (hk : k < 8) (hx : q.list[k]? = some x) : ∀ V : World, (Instr.index 80 (.agg (q.list.map fun x : Nat => Value.int .u32 (x : Int)).toArray) (.int .i64 (k : Int))).run Try.prog V = .ok (.int .u32 (x : Int)) V := by
  obtain ⟨a, b, c, d, e, f, g, h⟩ := q
  rcases (show k = 0 ∨ k = 1 ∨ k = 2 ∨ k = 3 ∨ k = 4 ∨ k = 5 ∨ k = 6 ∨ k = 7 by omega) with rfl | rfl | rfl | rfl | rfl | rfl | rfl | rfl <;> (injection hx with hx; subst hx; intro V; rfl)
set_option maxRecDepth 100000 in
set_option maxHeartbeats 8000000 in
theorem of_v (A : Option Addr) (n c : Nat) (l : List UInt8) (w : World) (hr : BReads w w.heap.size A n l) (hn : n ≤ 1099511627776) :
    Calls Try.prog 35 #[.slice A n c] w fun e w' => e = .returned (.agg ((sha (l.map UInt8.toNat)).map fun x : Nat => Value.int .u8 (x : Int)).toArray) ∧ Below w.heap.size w w' := by
  refine (callsIn_wide (n := 9)).1 ?_
  have HR := Lib.hid hr
  clear hr
  have HI := Lib.hid (show (Try.prog.info? 78).map (·.size) = some 64 by kernel_rfl)
  have HI8 := Lib.hid (show (Try.prog.info? 80).map (·.size) = some 8 by kernel_rfl)
  have HK := Lib.hid (show (K64.map fun x : Nat => Value.int .u32 (x : Int)).toArray.size = 64 by simp [len_K64])
  refine callsIn_of_wp_marks Try.func35 rfl trivial ?_ rfl
  simp only [Try.ntmps35, List.size_toArray, List.length_cons, List.length_nil, Nat.reduceAdd, Nat.reduceSub, Array.replicate_succ, Array.replicate_zero, List.push_toArray, List.append_toArray, List.nil_append, List.cons_append]
  gi_wp2_with fail
  refine ⟨trivial, (callsIn_wide.2 (const_v _)).mono ?_⟩
  rintro e w1 ⟨rfl, hb1⟩
  have A1 := Lib.hid ((Arr.new (k := .u8) (t := 59) w #[Value.int .u8 0, Value.int .u8 0, Value.int .u8 0, Value.int .u8 0, Value.int .u8 0, Value.int .u8 0, Value.int .u8 0, Value.int .u8 0, Value.int .u8 0, Value.int .u8 0, Value.int .u8 0, Value.int .u8 0, Value.int .u8 0, Value.int .u8 0, Value.int .u8 0, Value.int .u8 0, Value.int .u8 0, Value.int .u8 0, Value.int .u8 0, Value.int .u8 0, Value.int .u8 0, Value.int .u8 0, Value.int .u8 0, Value.int .u8 0, Value.int .u8 0, Value.int .u8 0, Value.int .u8 0, Value.int .u8 0, Value.int .u8 0, Value.int .u8 0, Value.int .u8 0, Value.int .u8 0] (List.replicate 32 0) rfl).below hb1)
  have B1 := Lib.hid (((Below.refl w.heap.size w).alloc (Nat.le_refl _) _).trans (hb1.mono (by simp)))
  have z1 : w.heap.size < w1.heap.size := A1.out.lt
  clear hb1
  gi_wp2_with fail
  refine ⟨trivial, (callsIn_wide.2 (begin_v' _)).mono ?_⟩
  rintro e w2 ⟨rfl, hb2⟩
  have A2 := Lib.hid (A1.out.below hb2)
  have B2 := Lib.hid (B1.out.trans (hb2.mono (Nat.le_of_lt z1)))
  have z2 : w.heap.size < w2.heap.size := A2.out.lt
  clear hb2 z1 A1 B1
  have e64 := Lib.hid ((Below.heap_alloc (w2.alloc (.cells #[Value.int .u32 0, Value.int .u32 0, Value.int .u32 0, Value.int .u32 0, Value.int .u32 0, Value.int .u32 0, Value.int .u32 0, Value.int .u32 0, Value.int .u32 0, Value.int .u32 0, Value.int .u32 0, Value.int .u32 0, Value.int .u32 0, Value.int .u32 0, Value.int .u32 0, Value.int .u32 0, Value.int .u32 0, Value.int .u32 0, Value.int .u32 0, Value.int .u32 0, Value.int .u32 0, Value.int .u32 0, Value.int .u32 0, Value.int .u32 0, Value.int .u32 0, Value.int .u32 0, Value.int .u32 0, Value.int .u32 0, Value.int .u32 0, Value.int .u32 0, Value.int .u32 0, Value.int .u32 0, Value.int .u32 0, Value.int .u32 0, Value.int .u32 0, Value.int .u32 0, Value.int .u32 0, Value.int .u32 0, Value.int .u32 0, Value.int .u32 0, Value.int .u32 0, Value.int .u32 0, Value.int .u32 0, Value.int .u32 0, Value.int .u32 0, Value.int .u32 0, Value.int .u32 0, Value.int .u32 0, Value.int .u32 0, Value.int .u32 0, Value.int .u32 0, Value.int .u32 0, Value.int .u32 0, Value.int .u32 0, Value.int .u32 0, Value.int .u32 0, Value.int .u32 0, Value.int .u32 0, Value.int .u32 0, Value.int .u32 0, Value.int .u32 0, Value.int .u32 0, Value.int .u32 0, Value.int .u32 0] 78)) (.cells #[Value.int .u32 0, Value.int .u32 0, Value.int .u32 0, Value.int .u32 0, Value.int .u32 0, Value.int .u32 0, Value.int .u32 0, Value.int .u32 0] 80) w2.heap.size (by simp)).trans (heap_alloc_new w2 (.cells #[Value.int .u32 0, Value.int .u32 0, Value.int .u32 0, Value.int .u32 0, Value.int .u32 0, Value.int .u32 0, Value.int .u32 0, Value.int .u32 0, Value.int .u32 0, Value.int .u32 0, Value.int .u32 0, Value.int .u32 0, Value.int .u32 0, Value.int .u32 0, Value.int .u32 0, Value.int .u32 0, Value.int .u32 0, Value.int .u32 0, Value.int .u32 0, Value.int .u32 0, Value.int .u32 0, Value.int .u32 0, Value.int .u32 0, Value.int .u32 0, Value.int .u32 0, Value.int .u32 0, Value.int .u32 0, Value.int .u32 0, Value.int .u32 0, Value.int .u32 0, Value.int .u32 0, Value.int .u32 0, Value.int .u32 0, Value.int .u32 0, Value.int .u32 0, Value.int .u32 0, Value.int .u32 0, Value.int .u32 0, Value.int .u32 0, Value.int .u32 0, Value.int .u32 0, Value.int .u32 0, Value.int .u32 0, Value.int .u32 0, Value.int .u32 0, Value.int .u32 0, Value.int .u32 0, Value.int .u32 0, Value.int .u32 0, Value.int .u32 0, Value.int .u32 0, Value.int .u32 0, Value.int .u32 0, Value.int .u32 0, Value.int .u32 0, Value.int .u32 0, Value.int .u32 0, Value.int .u32 0, Value.int .u32 0, Value.int .u32 0, Value.int .u32 0, Value.int .u32 0, Value.int .u32 0, Value.int .u32 0] 78)))
  have e8 := Lib.hid ((setRow_other ((w2.alloc (.cells #[Value.int .u32 0, Value.int .u32 0, Value.int .u32 0, Value.int .u32 0, Value.int .u32 0, Value.int .u32 0, Value.int .u32 0, Value.int .u32 0, Value.int .u32 0, Value.int .u32 0, Value.int .u32 0, Value.int .u32 0, Value.int .u32 0, Value.int .u32 0, Value.int .u32 0, Value.int .u32 0, Value.int .u32 0, Value.int .u32 0, Value.int .u32 0, Value.int .u32 0, Value.int .u32 0, Value.int .u32 0, Value.int .u32 0, Value.int .u32 0, Value.int .u32 0, Value.int .u32 0, Value.int .u32 0, Value.int .u32 0, Value.int .u32 0, Value.int .u32 0, Value.int .u32 0, Value.int .u32 0, Value.int .u32 0, Value.int .u32 0, Value.int .u32 0, Value.int .u32 0, Value.int .u32 0, Value.int .u32 0, Value.int .u32 0, Value.int .u32 0, Value.int .u32 0, Value.int .u32 0, Value.int .u32 0, Value.int .u32 0, Value.int .u32 0, Value.int .u32 0, Value.int .u32 0, Value.int .u32 0, Value.int .u32 0, Value.int .u32 0, Value.int .u32 0, Value.int .u32 0, Value.int .u32 0, Value.int .u32 0, Value.int .u32 0, Value.int .u32 0, Value.int .u32 0, Value.int .u32 0, Value.int .u32 0, Value.int .u32 0, Value.int .u32 0, Value.int .u32 0, Value.int .u32 0, Value.int .u32 0] 78)).alloc (.cells #[Value.int .u32 0, Value.int .u32 0, Value.int .u32 0, Value.int .u32 0, Value.int .u32 0, Value.int .u32 0, Value.int .u32 0, Value.int .u32 0] 80)) w2.heap.size (w2.heap.size + 1) (K64.map fun x : Nat => Value.int .u32 (x : Int)).toArray (by omega)).trans (heap_alloc2_new w2 (.cells #[Value.int .u32 0, Value.int .u32 0, Value.int .u32 0, Value.int .u32 0, Value.int .u32 0, Value.int .u32 0, Value.int .u32 0, Value.int .u32 0, Value.int .u32 0, Value.int .u32 0, Value.int .u32 0, Value.int .u32 0, Value.int .u32 0, Value.int .u32 0, Value.int .u32 0, Value.int .u32 0, Value.int .u32 0, Value.int .u32 0, Value.int .u32 0, Value.int .u32 0, Value.int .u32 0, Value.int .u32 0, Value.int .u32 0, Value.int .u32 0, Value.int .u32 0, Value.int .u32 0, Value.int .u32 0, Value.int .u32 0, Value.int .u32 0, Value.int .u32 0, Value.int .u32 0, Value.int .u32 0, Value.int .u32 0, Value.int .u32 0, Value.int .u32 0, Value.int .u32 0, Value.int .u32 0, Value.int .u32 0, Value.int .u32 0, Value.int .u32 0, Value.int .u32 0, Value.int .u32 0, Value.int .u32 0, Value.int .u32 0, Value.int .u32 0, Value.int .u32 0, Value.int .u32 0, Value.int .u32 0, Value.int .u32 0, Value.int .u32 0, Value.int .u32 0, Value.int .u32 0, Value.int .u32 0, Value.int .u32 0, Value.int .u32 0, Value.int .u32 0, Value.int .u32 0, Value.int .u32 0, Value.int .u32 0, Value.int .u32 0, Value.int .u32 0, Value.int .u32 0, Value.int .u32 0, Value.int .u32 0] 78) (.cells #[Value.int .u32 0, Value.int .u32 0, Value.int .u32 0, Value.int .u32 0, Value.int .u32 0, Value.int .u32 0, Value.int .u32 0, Value.int .u32 0] 80)))
  gi_wp2_with (first
    | (refine wpListIn_store_row rfl 78 (.tmp 3) (.tmp 10) rfl w2.heap.size (K64.map fun x : Nat => Value.int .u32 (x : Int)).toArray rfl rfl 78 #[Value.int .u32 0, Value.int .u32 0, Value.int .u32 0, Value.int .u32 0, Value.int .u32 0, Value.int .u32 0, Value.int .u32 0, Value.int .u32 0, Value.int .u32 0, Value.int .u32 0, Value.int .u32 0, Value.int .u32 0, Value.int .u32 0, Value.int .u32 0, Value.int .u32 0, Value.int .u32 0, Value.int .u32 0, Value.int .u32 0, Value.int .u32 0, Value.int .u32 0, Value.int .u32 0, Value.int .u32 0, Value.int .u32 0, Value.int .u32 0, Value.int .u32 0, Value.int .u32 0, Value.int .u32 0, Value.int .u32 0, Value.int .u32 0, Value.int .u32 0, Value.int .u32 0, Value.int .u32 0, Value.int .u32 0, Value.int .u32 0, Value.int .u32 0, Value.int .u32 0, Value.int .u32 0, Value.int .u32 0, Value.int .u32 0, Value.int .u32 0, Value.int .u32 0, Value.int .u32 0, Value.int .u32 0, Value.int .u32 0, Value.int .u32 0, Value.int .u32 0, Value.int .u32 0, Value.int .u32 0, Value.int .u32 0, Value.int .u32 0, Value.int .u32 0, Value.int .u32 0, Value.int .u32 0, Value.int .u32 0, Value.int .u32 0, Value.int .u32 0, Value.int .u32 0, Value.int .u32 0, Value.int .u32 0, Value.int .u32 0, Value.int .u32 0, Value.int .u32 0, Value.int .u32 0, Value.int .u32 0] e64.out (HI.out.trans (by rw [HK.out])) (by rw [HK.out]; rfl) (by simp [Value.oneCell']) ?_)
    | (refine wpListIn_store_row rfl 80 (.tmp 4) (.tmp 11) rfl (w2.heap.size + 1) (st8.list.map fun x : Nat => Value.int .u32 (x : Int)).toArray rfl rfl 80 #[Value.int .u32 0, Value.int .u32 0, Value.int .u32 0, Value.int .u32 0, Value.int .u32 0, Value.int .u32 0, Value.int .u32 0, Value.int .u32 0] e8.out HI8.out rfl (by simp [Value.oneCell']) ?_)
    | fail)
  have W3 := Lib.hid (OfW.start A2.out B2.out)
  clear e64 e8 A2 B2 HK
  generalize ((((w2.alloc (.cells #[Value.int .u32 0, Value.int .u32 0, Value.int .u32 0, Value.int .u32 0, Value.int .u32 0, Value.int .u32 0, Value.int .u32 0, Value.int .u32 0, Value.int .u32 0, Value.int .u32 0, Value.int .u32 0, Value.int .u32 0, Value.int .u32 0, Value.int .u32 0, Value.int .u32 0, Value.int .u32 0, Value.int .u32 0, Value.int .u32 0, Value.int .u32 0, Value.int .u32 0, Value.int .u32 0, Value.int .u32 0, Value.int .u32 0, Value.int .u32 0, Value.int .u32 0, Value.int .u32 0, Value.int .u32 0, Value.int .u32 0, Value.int .u32 0, Value.int .u32 0, Value.int .u32 0, Value.int .u32 0, Value.int .u32 0, Value.int .u32 0, Value.int .u32 0, Value.int .u32 0, Value.int .u32 0, Value.int .u32 0, Value.int .u32 0, Value.int .u32 0, Value.int .u32 0, Value.int .u32 0, Value.int .u32 0, Value.int .u32 0, Value.int .u32 0, Value.int .u32 0, Value.int .u32 0, Value.int .u32 0, Value.int .u32 0, Value.int .u32 0, Value.int .u32 0, Value.int .u32 0, Value.int .u32 0, Value.int .u32 0, Value.int .u32 0, Value.int .u32 0, Value.int .u32 0, Value.int .u32 0, Value.int .u32 0, Value.int .u32 0, Value.int .u32 0, Value.int .u32 0, Value.int .u32 0, Value.int .u32 0] 78)).alloc (.cells #[Value.int .u32 0, Value.int .u32 0, Value.int .u32 0, Value.int .u32 0, Value.int .u32 0, Value.int .u32 0, Value.int .u32 0, Value.int .u32 0] 80)).setRow w2.heap.size (K64.map fun x : Nat => Value.int .u32 (x : Int)).toArray).setRow (w2.heap.size + 1) (st8.list.map fun x : Nat => Value.int .u32 (x : Int)).toArray) = w3 at *
  generalize w2.heap.size = gk at *
  have R3 := Lib.hid (Reads.below HR.out W3.out.hb)
  have zw3 : w.heap.size < w3.heap.size := W3.out.h0.lt
  have PV := pad_v (n : Int) w3 (by omega) (by omega)
  simp only [Int.toNat_natCast] at PV
  refine ⟨trivial, (callsIn_wide.2 PV).mono ?_⟩
  clear PV
  obtain ⟨p, hp⟩ : ∃ p, (padL n).length = p := ⟨_, rfl⟩
  rw [hp]
  have HP := Lib.hid hp
  have hpb : p ≤ 72 := by rw [← hp, pad_len]; unfold zerosN; omega
  have hp9 : 9 ≤ p := by rw [← hp, pad_len]; omega
  clear hp
  rintro e w4 ⟨A4, c4, rfl, ho4, hb4⟩
  have W4 := Lib.hid (W3.out.below hb4)
  have R4 := Lib.hid (Reads.below R3.out (hb4.mono (Nat.le_of_lt zw3)))
  have O4 := Lib.hid (ho4.reads)
  have zw4 : w.heap.size < w4.heap.size := W4.out.h0.lt
  clear ho4 hb4 W3 R3
  gi_wp2_with fail
  have W5 := Lib.hid (W4.out.below ((Below.refl _ _).alloc (Nat.le_refl _) (.cells #[.slice A n c, .slice A4 p c4] 25)))
  have R5 := Lib.hid (Reads.more (Reads.alloc R4.out (Nat.le_of_lt zw4) (.cells #[.slice A n c, .slice A4 p c4] 25)) (Nat.le_of_lt zw4))
  have O5 := Lib.hid (Reads.alloc O4.out (Nat.le_refl _) (.cells #[.slice A n c, .slice A4 p c4] 25))
  refine ⟨trivial, (callsIn_wide.2 (concat_two w4.heap.size ⟨w4.heap.size, 0, none⟩ 2 A A4 n c p c4 l (toB (padL n)) _ (by simp) (cell_new _ _ _ 0) (cell_new _ _ _ 1) (by simp) R5.out O5.out (by omega))).mono ?_⟩
  obtain ⟨N, hN⟩ : ∃ N, n + p = N := ⟨_, rfl⟩
  rw [hN]
  have HN := Lib.hid hN
  have hNb : N ≤ 1099511627900 := by omega
  have hN0 : 0 < N := by omega
  clear hN
  rintro e w6 ⟨A6, c6, rfl, ho6, hb6⟩
  have W6 := Lib.hid (W5.out.below hb6)
  obtain ⟨g6, hA6, hg6, hg6l⟩ := ho6.addr hN0
  have hc6 := ho6.2
  subst hA6
  have O6 := Lib.hid ho6.reads
  have HG6 := Lib.hid (show gk + 1 < g6 from Nat.lt_of_lt_of_le W5.out.hs.lt hg6)
  clear ho6 hb6 W5 R5 O5 W4 R4 O4 hg6
  gi_wp2_with fail
  refine ⟨trivial, (callsIn_wide.2 (callsIn_wide.1 (chunk_v (some ⟨g6, 0, none⟩) N c6 64 w6 (by omega) (by omega)))).mono ?_⟩
  rintro e w7 ⟨rfl, rfl⟩
  have W7 := Lib.hid ((W6.out.below ((Below.refl _ _).alloc (Nat.le_refl _) (.cells #[.slice (some ⟨g6, 0, none⟩) N c6] 25))).below ((Below.refl _ _).alloc (Nat.le_refl _) (.cells #[.int .i64 64] 3)))
  have O7 := Lib.hid (Reads.more (Reads.alloc (Reads.alloc O6.out (Nat.le_refl _) (.cells #[.slice (some ⟨g6, 0, none⟩) N c6] 25)) (by simp) (.cells #[.int .i64 64] 3)) (show w6.heap.size ≤ w6.heap.size + 2 by omega))
  have ca := Lib.hid ((cell_old (w6.alloc (.cells #[.slice (some ⟨g6, 0, none⟩) N c6] 25)) (.cells #[.int .i64 64] 3) w6.heap.size 0 (by simp)).trans (cell_new w6 #[.slice (some ⟨g6, 0, none⟩) N c6] 25 0))
  have cb := Lib.hid (show ((w6.alloc (.cells #[.slice (some ⟨g6, 0, none⟩) N c6] 25)).alloc (.cells #[.int .i64 64] 3)).cell? ⟨w6.heap.size + 1, 0, none⟩ = some (.int .i64 64) by have := cell_new (w6.alloc (.cells #[.slice (some ⟨g6, 0, none⟩) N c6] 25)) #[.int .i64 64] 3 0; rwa [World.size_alloc] at this)
  have z7 : ((w6.alloc (.cells #[.slice (some ⟨g6, 0, none⟩) N c6] 25)).alloc (.cells #[.int .i64 64] 3)).heap.size = w6.heap.size + 2 := by simp
  clear W6 O6
  gi_wp2_with fail
  have hak := Nat.lt_trans HG6.out hg6l
  generalize (w6.alloc (.cells #[.slice (some ⟨g6, 0, none⟩) N c6] 25)).alloc (.cells #[.int .i64 64] 3) = w7 at *
  generalize w6.heap.size = a at *
  have hN64 : N % 64 = 0 := by rw [← HN.out, ← HP.out]; exact whole_len n
  obtain ⟨L, hL⟩ : ∃ L, l ++ toB (padL n) = L := ⟨_, rfl⟩
  rw [hL] at O7
  have HL := Lib.hid hL
  clear hL
  have hgk := HG6.out
  have I0 : OfI w w7.heap.size gk (gk + 1) st8 ⟨g6, 0, none⟩ N L w7 := ⟨W7.out.hk, W7.out.hs, W7.out.h0, Reads.more O7.out (by omega), W7.out.hb, Nat.le_refl _⟩
  refine wpIn_rangeFunc_ownF rfl (by omega) (gf := 45) (lb := #[.pointer (some ⟨a, 0, none⟩), .pointer (some ⟨a + 1, 0, none⟩)]) rfl trivial (enters_of Try.func45 (by kernel_rfl) rfl)
    (chunk_stops a (a + 1) ⟨g6, 0, none⟩ N c6 64 w7 _ (by omega) (by omega) ca.out cb.out (by omega) (by omega) hc6 (by omega)) (fun h k => ⟨k.1.trans h.1, k.2.trans h.2⟩)
    (fun W l o o' hl _ _ _ => ⟨World.putObj_heap_other (by omega), World.putObj_heap_other (by omega)⟩) (Below.refl _ _) (fun _ => rfl)
    (fun pre W => OfI w w7.heap.size gk (gk + 1) (stAt (L.map UInt8.toNat) (pre.map (·.1))) ⟨g6, 0, none⟩ N L W) (fun _ _ _ => False)
    (OfI.own (by omega) (by omega) (by omega) _) (fun _ _ _ _ _ hs _ _ => hs) I0
    (fun x => { tmps := #[.slice A n c, undef, .pointer (some ⟨w.heap.size, 0, none⟩), .pointer (some ⟨gk, 0, none⟩), .pointer (some ⟨gk + 1, 0, none⟩), .slice (some ⟨g6, 0, none⟩) N c6, chunkV ⟨g6, 0, none⟩ N 64 x.1, undef, undef, undef, .agg (K64.map fun x : Nat => Value.int .u32 (x : Int)).toArray, .agg (st8.list.map fun x : Nat => Value.int .u32 (x : Int)).toArray, .slice A n c, .slice A n c, .int .i64 (n : Int), .slice A4 p c4, .slice (some ⟨w4.heap.size, 0, none⟩) 2 2, .slice (some ⟨g6, 0, none⟩) N c6, .slice (some ⟨g6, 0, none⟩) N c6, .func (.func 45) #[] #[.pointer (some ⟨a, 0, none⟩), .pointer (some ⟨a + 1, 0, none⟩)], chunkV ⟨g6, 0, none⟩ N 64 x.1, undef, undef, undef, undef, undef, undef, undef, undef, undef, undef, undef, undef, undef, undef, undef, undef, undef, undef, undef, undef, undef, undef, undef, undef, undef, undef, undef, undef, undef, undef, undef, undef, undef, undef, undef, undef], defers := [] }) ?assign ?body ?done ?stop
  case assign =>
    intro l x W K hK
    gi_wp2
    exact hK
  case body =>
    rintro r pre x W hI _
    have I := Lib.hid hI
    clear hI
    dsimp only
    have hxk := (chunk_lt (show 0 < 64 by omega)).1 x.2
    have hx64 : x.1 * 64 + 64 ≤ N := by omega
    have HX := Lib.hid (show chunkV ⟨g6, 0, none⟩ N 64 x.1 = .slice (some ((⟨g6, 0, none⟩ : Addr).add (x.1 * 64))) 64 64 by unfold chunkV chunkL; rw [Nat.min_eq_left (by omega)])
    rw [HX.out]
    obtain ⟨s, hs⟩ : ∃ s, stAt (L.map UInt8.toNat) (pre.map (·.1)) = s := ⟨_, rfl⟩
    have FS := Lib.hid (stAt_fit (L.map UInt8.toNat) (pre.map (·.1)))
    rw [hs] at I FS
    have HS2 := Lib.hid (show stAt (L.map UInt8.toNat) ((pre ++ [x]).map (·.1)) = blockP K64 s (chunkOf (L.map UInt8.toNat) x.1) by rw [List.map_append, List.map_cons, List.map_nil, stAt_snoc, hs])
    clear hs hxk
    gi_wp2_with (first
      | (refine wpListIn_load_row rfl 80 (.tmp 4) rfl (gk + 1) rfl 80 #[.int .u32 (s.a : Int), .int .u32 (s.b : Int), .int .u32 (s.c : Int), .int .u32 (s.d : Int), .int .u32 (s.e : Int), .int .u32 (s.f : Int), .int .u32 (s.g : Int), .int .u32 (s.h : Int)] (0, 0) _ I.out.hs Try.underlying80 rfl HI8.out ?_)
      | fail)
    have CR := chunk_reads I.out.hr I.out.hz hx64
    rw [add_head] at CR
    have BV := Lib.hid (block_v gk K64 s _ 64 (chunkOf (L.map UInt8.toNat) x.1) W I.out.hk len_K64 K64_fit FS.out CR (chunkOf_lt L x.1))
    clear CR
    obtain ⟨q, hq⟩ : ∃ q, blockP K64 s (chunkOf (L.map UInt8.toNat) x.1) = q := ⟨_, rfl⟩
    rw [hq] at BV HS2
    clear hq
    refine ⟨trivial, (CallsIn.inRound r (callsIn_wide.2 BV.out)).mono ?_⟩
    rintro e W1 ⟨rfl, hb⟩
    have HS1 := Lib.hid (I.out.hs.below hb)
    have I2 := Lib.hid (I.out.step z2 (Nat.lt_succ_self _) (by omega) (show g6 ≠ gk + 1 by omega) hb q)
    have K2 := Lib.hid (keeps_step ⟨_, _, _, I.out.hs⟩ hb (q.list.map fun x : Nat => Value.int .u32 (x : Int)).toArray)
    have hzW := I.out.hz
    have P2 : Hid (KpB a (a + 1) W (W1.setRow (gk + 1) (q.list.map fun x : Nat => Value.int .u32 (x : Int)).toArray)) := Lib.hid ⟨(setRow_other _ _ _ _ (by omega)).trans (hb.block a (by omega)), (setRow_other _ _ _ _ (by omega)).trans (hb.block (a + 1) (by omega))⟩
    gi_wp2_with (first
      | (refine wpListIn_store_row rfl 80 (.tmp 4) (.tmp 23) rfl (gk + 1) (q.list.map fun x : Nat => Value.int .u32 (x : Int)).toArray rfl rfl 80 _ HS1.out HI8.out rfl (by simp [Value.oneCell']) ?_)
      | fail)
    exact ⟨K2.out, P2.out, by dsimp only; rw [HS2.out]; exact I2.out⟩
  case done =>
    intro D xs W hD hS hI hK
    have HST := Lib.hid (show stAt (L.map UInt8.toNat) (xs.map (·.1)) = shaS (l.map UInt8.toNat) by
      have hLm : L.map UInt8.toNat = l.map UInt8.toNat ++ padL (l.map UInt8.toNat).length := by
        rw [← HL.out, List.map_append, toB_back (pad_lt n), List.length_map, BReads.len HR.out]
      have hLl : (L.map UInt8.toNat).length = N := by rw [List.length_map]; exact BReads.len O7.out
      rw [hS, shaS, ← hLm, hLl, show chunkN N 64 = N / 64 by unfold chunkN; omega]
      exact chunks_fold (N / 64) st8 _)
    rw [HST.out] at hI
    obtain ⟨q, hq⟩ : ∃ q, shaS (l.map UInt8.toNat) = q := ⟨_, rfl⟩
    have HSH := Lib.hid (show sha (l.map UInt8.toNat) = q.list.flatMap be8 by rw [sha, hq])
    rw [hq] at hI
    have I := Lib.hid hI
    have HKD := Lib.hid hK
    clear hI hS HST hq hK
    have hwD : w.heap.size < D := by omega
    have J0 := Lib.hid (DigI.start I.out.h0 HKD.out I.out.hb hwD)
    have HS0 := Lib.hid ((I.out.hs.alloc (.cells #[Value.int .u8 0, Value.int .u8 0, Value.int .u8 0, Value.int .u8 0, Value.int .u8 0, Value.int .u8 0, Value.int .u8 0, Value.int .u8 0, Value.int .u8 0, Value.int .u8 0, Value.int .u8 0, Value.int .u8 0, Value.int .u8 0, Value.int .u8 0, Value.int .u8 0, Value.int .u8 0, Value.int .u8 0, Value.int .u8 0, Value.int .u8 0, Value.int .u8 0, Value.int .u8 0, Value.int .u8 0, Value.int .u8 0, Value.int .u8 0, Value.int .u8 0, Value.int .u8 0, Value.int .u8 0, Value.int .u8 0, Value.int .u8 0, Value.int .u8 0, Value.int .u8 0, Value.int .u8 0] 59)))
    gi_wp2_with (first
      | (refine wpListIn_load_row rfl 80 (.tmp 4) rfl (gk + 1) rfl 80 (q.list.map fun x : Nat => Value.int .u32 (x : Int)).toArray (0, 0) _ HS0.out Try.underlying80 rfl HI8.out ?_)
      | fail)
    clear HS0
    generalize W.alloc (.cells #[Value.int .u8 0, Value.int .u8 0, Value.int .u8 0, Value.int .u8 0, Value.int .u8 0, Value.int .u8 0, Value.int .u8 0, Value.int .u8 0, Value.int .u8 0, Value.int .u8 0, Value.int .u8 0, Value.int .u8 0, Value.int .u8 0, Value.int .u8 0, Value.int .u8 0, Value.int .u8 0, Value.int .u8 0, Value.int .u8 0, Value.int .u8 0, Value.int .u8 0, Value.int .u8 0, Value.int .u8 0, Value.int .u8 0, Value.int .u8 0, Value.int .u8 0, Value.int .u8 0, Value.int .u8 0, Value.int .u8 0, Value.int .u8 0, Value.int .u8 0, Value.int .u8 0, Value.int .u8 0] 59) = Wd at *
    generalize W.heap.size = gd at *
    gi_loopw [25] (fun i wq => ∃ k : Nat, k ≤ 8 ∧ i = .int .i64 (k : Int) ∧ DigI w D gd (digAt q k) wq) (fun i _ => 8 - (intOf i).toNat)
    case atStart => exact ⟨0, Nat.zero_le _, rfl, J0.out⟩
    case round =>
      clear J0
      obtain ⟨k, hk, rfl, hJ⟩ := hrel
      have J := Lib.hid hJ
      clear hJ
      by_cases hlt : k < 8
      · obtain ⟨x, hx, hxs⟩ := digAt_step q k hlt
        have HXS := Lib.hid hxs
        have d1 := dec_lt hlt
        have hix : ∀ V : World, (Instr.index 80 (.agg (q.list.map fun x : Nat => Value.int .u32 (x : Int)).toArray) (.int .i64 (k : Int))).run Try.prog V = .ok (.int .u32 (x : Int)) V := dig_index q k x hlt hx
        obtain ⟨x0, h0⟩ := dig_cell (q := q) hk (show 4 * k < 32 by omega)
        obtain ⟨x1, h1⟩ := dig_cell (q := q) hk (show 4 * k + 1 < 32 by omega)
        obtain ⟨x2, h2⟩ := dig_cell (q := q) hk (show 4 * k + 2 < 32 by omega)
        obtain ⟨x3, h3⟩ := dig_cell (q := q) hk (show 4 * k + 3 < 32 by omega)
        have c0 := Arr.cell J.out.hd h0
        have c1 := Arr.cell J.out.hd h1
        have c2 := Arr.cell J.out.hd h2
        have c3 := Arr.cell J.out.hd h3
        have f0 := Arr.frozen J.out.hd (4 * k)
        have f1 := Arr.frozen J.out.hd (4 * k + 1)
        have f2 := Arr.frozen J.out.hd (4 * k + 2)
        have f3 := Arr.frozen J.out.hd (4 * k + 3)
        have t0 : (4 * (k : Int)).toNat = 4 * k := by omega
        have t1 : (4 * (k : Int) + 1).toNat = 4 * k + 1 := by omega
        have t2 : (4 * (k : Int) + 2).toNat = 4 * k + 2 := by omega
        have t3 : (4 * (k : Int) + 3).toNat = 4 * k + 3 := by omega
        have p0 : (0 : Int) ≤ 4 * (k : Int) := by omega
        have p1 : (0 : Int) ≤ 4 * (k : Int) + 1 := by omega
        have p2 : (0 : Int) ≤ 4 * (k : Int) + 2 := by omega
        have p3 : (0 : Int) ≤ 4 * (k : Int) + 3 := by omega
        have q0 : 4 * (k : Int) < 32 := by omega
        have q1 : 4 * (k : Int) + 1 < 32 := by omega
        have q2 : 4 * (k : Int) + 2 < 32 := by omega
        have q3 : 4 * (k : Int) + 3 < 32 := by omega
        clear hx hxs h0 h1 h2 h3 hk
        gi_wp2
        exact ⟨⟨k + 1, hlt, by go_num, by rw [← HXS.out]; exact (((J.out.set_ _ _ _ (by omega)).set_ _ _ _ (by omega)).set_ _ _ _ (by omega)).set_ _ _ _ (by omega)⟩, by simp [intOf]; omega⟩
      · obtain rfl : k = 8 := by omega
        have J1 := Lib.hid (show DigI w D gd (q.list.flatMap be8) wr from J.out)
        have HI9 := Lib.hid (show (Try.prog.info? 59).map (·.size) = some 32 by kernel_rfl)
        have HV := Lib.hid J1.out.hd
        have H0 := Lib.hid J1.out.h0
        have HSZ := Lib.hid (show ((q.list.flatMap be8).map fun x : Nat => Value.int .u8 (x : Int)).toArray.size = 32 from rfl)
        clear J hk hlt
        gi_wp2_with (first
          | (refine wpListIn_load_row rfl 59 (.tmp 7) rfl gd rfl 59 ((q.list.flatMap be8).map fun x : Nat => Value.int .u8 (x : Int)).toArray (0, 0) _ HV.out Try.underlying59 rfl (HI9.out.trans (by rw [HSZ.out])) ?_)
          | (refine wpListIn_store_row rfl 59 (.tmp 2) (.tmp 56) rfl w.heap.size ((q.list.flatMap be8).map fun x : Nat => Value.int .u8 (x : Int)).toArray rfl rfl 59 _ H0.out (HI9.out.trans (by rw [HSZ.out])) (by rw [HSZ.out]; rfl) (by simp [Value.oneCell']) ?_)
          | fail)
        have hD2 := J1.out.h1
        have HK2 : (wr.setRow w.heap.size ((q.list.flatMap be8).map fun x : Nat => Value.int .u8 (x : Int)).toArray).heap[D]? = some (.deferred (some [])) := (setRow_other _ _ _ _ (by omega)).trans J1.out.hD
        refine ⟨by simp, .inl ⟨_, _, rfl, run_takeDeferred HK2, ?_⟩⟩
        refine ⟨_, results_cell_row Try.results35 _ _ w.heap.size _ ((q.list.flatMap be8).map fun x : Nat => Value.int .u8 (x : Int)).toArray _ _ rfl ((World.putObj_heap_other (by omega)).trans (setRow_heap _ _ _ _ _ _ H0.out)) Try.underlying59 rfl (HI9.out.trans (by rw [HSZ.out])), by rw [HSH.out], ?_⟩
        exact (below_setRow J1.out.hb (Nat.le_refl _) _).trans (belowK_b (w := w) (Nat.le_refl _) _ D _ _ (by omega) HK2 rfl rfl)
  case stop =>
    rintro D c pre W _ _ h _
    exact h.elim
end Go.Proofs.Ytmaehbebpldpcaa
