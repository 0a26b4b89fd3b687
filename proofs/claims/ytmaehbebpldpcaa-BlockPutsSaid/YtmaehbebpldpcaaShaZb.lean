/-
  Digests: the reference's Of.
-/
import Derived.Test.YtmaehbebpldpcaaShaW
import Derived.Test.YtmaehbebpldpcaaShaXb
namespace Go.Proofs.Ytmaehbebpldpcaa
open Go.RowKit
theorem splice_all {α : Type} (a b : List α) (h : a.length = b.length) : splice a 0 b = b := by
  simp [splice, ← h]
def wAt (s : St) (i : Nat) : List Nat := (s.list.flatMap be8).take i ++ List.replicate (32 - i) 0
def byteAt (x r : Nat) : Nat := if r = 0 then x/16777216%256 else if r = 1 then x/65536%256 else if r = 2 then x/256%256 else x%256
set_option maxRecDepth 10000 in
theorem wAt_step (s : St) (i : Nat) (hi : i < 32) : ∃ x, s.list[i / 4]? = some x ∧ (wAt s i).set i (byteAt x (i % 4)) = wAt s (i + 1) := by
  obtain ⟨a, b, c, d, e, f, g, h⟩ := s
  rcases (show i = 0 ∨ i = 1 ∨ i = 2 ∨ i = 3 ∨ i = 4 ∨ i = 5 ∨ i = 6 ∨ i = 7 ∨ i = 8 ∨ i = 9 ∨ i = 10 ∨ i = 11 ∨ i = 12 ∨ i = 13 ∨ i = 14 ∨ i = 15 ∨ i = 16 ∨ i = 17 ∨ i = 18 ∨ i = 19 ∨ i = 20 ∨ i = 21 ∨ i = 22 ∨ i = 23 ∨ i = 24 ∨ i = 25 ∨ i = 26 ∨ i = 27 ∨ i = 28 ∨ i = 29 ∨ i = 30 ∨ i = 31 by omega) with rfl | rfl | rfl | rfl | rfl | rfl | rfl | rfl | rfl | rfl | rfl | rfl | rfl | rfl | rfl | rfl | rfl | rfl | rfl | rfl | rfl | rfl | rfl | rfl | rfl | rfl | rfl | rfl | rfl | rfl | rfl | rfl <;> exact ⟨_, rfl, rfl⟩
theorem wAt_at (s : St) (i : Nat) (hi : i < 32) : ∃ x, (wAt s i)[i]? = some x := by
  have h : (wAt s i).length = 32 := by
    have : (s.list.flatMap be8).length = 32 := rfl
    simp [wAt, this]; omega
  exact ⟨_, List.getElem?_eq_getElem (by omega)⟩
theorem exec_load_row {P : Program} {ρ : Operand → Value} {o : Oper} {w : World} (ty : TypeId) (x : Operand) (ho : o.op = .load ty x)
    (g : Nat) (hx : ρ x = .pointer (some ⟨g, 0, none⟩)) (t : TypeId) (cs : Array Value) (fr : Nat × Nat) (d : TypeDesc) (hg : w.heap[g]? = some (.cells cs t fr))
    (hu : P.underlying ty = some d) (hd : (match d with | .struct _ | .array _ _ => true | _ => false) = true) (hi : (P.info? ty).map (·.size) = some cs.size) :
    (execOp ρ o).run P w = .ok (.value (.agg cs)) w := by
  unfold execOp
  simp only [ho, hx, Instr.loadAt, Instr.sureAddr, Sem.run_bind, Sem.run_pure, Result.andThen_ok, run_loadVar_row w g t ty cs fr d hg hu hd hi]
/-- What Block holds. -/
theorem rbegi_v' (w : World) : Calls Try.prog 51 #[] w fun e w' => e = .returned (.agg (st8.list.map fun x : Nat => Value.int .u32 (x : Int)).toArray) ∧ Below w.heap.size w w' := by
  rw [list_st8]; exact rbegin_v w
/-- What the loop over the blocks keeps. -/
structure ROf (w : World) (gk : Nat) (s : St) (g N : Nat) (L : List UInt8) (W : World) : Prop where
  hk : Arr .u32 78 W gk K64
  hs : Arr .u32 80 W (gk + 1) s.list
  h0 : Arr .u8 59 W w.heap.size (List.replicate 32 0)
  hr : BReads W (g + 1) (some ⟨g, 0, none⟩) N L
  hb : Below w.heap.size w W
  z1 : w.heap.size < gk
  z2 : gk + 1 < g
  z3 : g < W.heap.size
theorem ROf.step {w : World} {gk : Nat} {s : St} {g N : Nat} {L : List UInt8} {W W' : World} (h : ROf w gk s g N L W) (hb : Below W.heap.size W W') (s' : St) :
    ROf w gk s' g N L (W'.setRow (gk + 1) (s'.list.map fun x : Nat => Value.int .u32 (x : Int)).toArray) := by
  have z1 := h.z1
  have z2 := h.z2
  have z3 := h.z3
  have hne : ∀ b, b ≠ gk + 1 → b < W.heap.size → (W'.setRow (gk + 1) (s'.list.map fun x : Nat => Value.int .u32 (x : Int)).toArray).heap[b]? = W.heap[b]? := fun b h1 h2 => (setRow_other W' _ b _ h1).trans (hb.block b h2)
  refine ⟨h.hk.keep (hne _ (by omega) (by omega)), setRow_heap W' _ _ _ _ _ (h.hs.below hb), h.h0.keep (hne _ (by omega) (by omega)), ⟨h.hr.1, fun hn => ?_⟩, below_setRow (h.hb.trans (hb.mono (by omega))) (by omega) _, z1, z2, by have := hb.size; simp; omega⟩
  obtain ⟨ad', e, hb1, hc⟩ := h.hr.2 hn
  injection e with e; subst e
  exact ⟨_, rfl, hb1, fun j u hu => (World.cell?_of_block (hne _ (by rw [block_of_add]; show g ≠ gk + 1; omega) (by rw [block_of_add]; omega))).trans (hc j u hu)⟩
theorem ROf.drew {w : World} {gk : Nat} {s : St} {g N : Nat} {L : List UInt8} {W : World} (h : ROf w gk s g N L W) : ROf w gk s g N L W.drew :=
  ⟨h.hk, h.hs, h.h0, h.hr, h.hb.drew, h.z1, h.z2, h.z3⟩
/-- What the last loop keeps. -/
structure ROz (w : World) (gs gw : Nat) (s : St) (ds : List Nat) (W : World) : Prop where
  hb : Below w.heap.size w W
  hs : Arr .u32 80 W gs s.list
  h0 : Arr .u8 59 W w.heap.size (List.replicate 32 0)
  hw : Arr .u8 59 W gw ds
  hz : w.heap.size < gs
  hg : gs < gw
theorem ROz.set_ {w : World} {gs gw : Nat} {s : St} {ds ds' : List Nat} {W : World} (h : ROz w gs gw s ds W) (i : Nat) (z : Int) (x : Nat) (hz : z = (x : Int)) (hd : ds.set i x = ds') : ROz w gs gw s ds' (W.setCell ⟨gw, i, none⟩ (.int .u8 z)) := by
  have h1 := h.hz
  have h2 := h.hg
  exact ⟨h.hb.setCell (by simp; omega) _, h.hs.setOther (by simp; omega) _, h.h0.setOther (by simp; omega) _, hd ▸ h.hw.set_ i z x hz, h1, h2⟩
theorem wpStill_load_row {P : Program} {ops : Array Oper} {rest : List Oper} {o : Oper} {a : Act} {w : World} {Q : Act → Prop} (hgd : Region.wanted o (yielded ops a.tmps) = true) (ty : TypeId) (x : Operand) (ho : o.op = .load ty x)
    (g : Nat) (hx : a.eval x = .pointer (some ⟨g, 0, none⟩)) (t : TypeId) (cs : Array Value) (fr : Nat × Nat) (d : TypeDesc) (hg : w.heap[g]? = some (.cells cs t fr))
    (hu : P.underlying ty = some d) (hd : (match d with | .struct _ | .array _ _ => true | _ => false) = true) (hi : (P.info? ty).map (·.size) = some cs.size)
    (h : wpStill P ops w Q rest (a.put o.dst (.agg cs))) : wpStill P ops w Q (o :: rest) a := by
  unfold wpStill
  rw [if_pos hgd, Oper.still, exec_load_row ty x ho g hx t cs fr d hg hu hd hi, Oper.stillUpon_value]
  exact h
/-- The words behind the constants, the beginning. -/
theorem rof_start {w w2 : World} (h0 : Arr .u8 59 w2 w.heap.size (List.replicate 32 0)) (hb : Below w.heap.size w w2) :
    OfW w w2.heap.size ((((w2.alloc (.cells #[Value.int .u32 0, Value.int .u32 0, Value.int .u32 0, Value.int .u32 0, Value.int .u32 0, Value.int .u32 0, Value.int .u32 0, Value.int .u32 0, Value.int .u32 0, Value.int .u32 0, Value.int .u32 0, Value.int .u32 0, Value.int .u32 0, Value.int .u32 0, Value.int .u32 0, Value.int .u32 0, Value.int .u32 0, Value.int .u32 0, Value.int .u32 0, Value.int .u32 0, Value.int .u32 0, Value.int .u32 0, Value.int .u32 0, Value.int .u32 0, Value.int .u32 0, Value.int .u32 0, Value.int .u32 0, Value.int .u32 0, Value.int .u32 0, Value.int .u32 0, Value.int .u32 0, Value.int .u32 0, Value.int .u32 0, Value.int .u32 0, Value.int .u32 0, Value.int .u32 0, Value.int .u32 0, Value.int .u32 0, Value.int .u32 0, Value.int .u32 0, Value.int .u32 0, Value.int .u32 0, Value.int .u32 0, Value.int .u32 0, Value.int .u32 0, Value.int .u32 0, Value.int .u32 0, Value.int .u32 0, Value.int .u32 0, Value.int .u32 0, Value.int .u32 0, Value.int .u32 0, Value.int .u32 0, Value.int .u32 0, Value.int .u32 0, Value.int .u32 0, Value.int .u32 0, Value.int .u32 0, Value.int .u32 0, Value.int .u32 0, Value.int .u32 0, Value.int .u32 0, Value.int .u32 0, Value.int .u32 0] 78)).alloc (.cells #[Value.int .u32 0, Value.int .u32 0, Value.int .u32 0, Value.int .u32 0, Value.int .u32 0, Value.int .u32 0, Value.int .u32 0, Value.int .u32 0] 80)).setRow w2.heap.size (K64.map fun x : Nat => Value.int .u32 (x : Int)).toArray).setRow (w2.heap.size + 1) (st8.list.map fun x : Nat => Value.int .u32 (x : Int)).toArray) := OfW.start h0 hb
set_option maxRecDepth 100000 in
set_option maxHeartbeats 8000000 in
theorem rof_v (A : Option Addr) (n c : Nat) (l : List UInt8) (w : World) (hr : BReads w w.heap.size A n l) (hn : n ≤ 1000000) :
    Calls Try.prog 37 #[.slice A n c] w fun e w' => e = .returned (.agg ((sha (l.map UInt8.toNat)).map fun x : Nat => Value.int .u8 (x : Int)).toArray) ∧ Below w.heap.size w w' := by
  have HR := Lib.hid hr
  clear hr
  have HI := Lib.hid (show (Try.prog.info? 78).map (·.size) = some 64 by kernel_rfl)
  have HI8 := Lib.hid (show (Try.prog.info? 80).map (·.size) = some 8 by kernel_rfl)
  have HK := Lib.hid (show (K64.map fun x : Nat => Value.int .u32 (x : Int)).toArray.size = 64 by simp [len_K64])
  go_enter Try.func37, Try.ntmps37
  go_wp2_with fail
  refine (rconst_v _).mono ?_
  rintro e w1 ⟨rfl, hb1⟩
  have A1 := Lib.hid ((Arr.new (k := .u8) (t := 59) w #[Value.int .u8 0, Value.int .u8 0, Value.int .u8 0, Value.int .u8 0, Value.int .u8 0, Value.int .u8 0, Value.int .u8 0, Value.int .u8 0, Value.int .u8 0, Value.int .u8 0, Value.int .u8 0, Value.int .u8 0, Value.int .u8 0, Value.int .u8 0, Value.int .u8 0, Value.int .u8 0, Value.int .u8 0, Value.int .u8 0, Value.int .u8 0, Value.int .u8 0, Value.int .u8 0, Value.int .u8 0, Value.int .u8 0, Value.int .u8 0, Value.int .u8 0, Value.int .u8 0, Value.int .u8 0, Value.int .u8 0, Value.int .u8 0, Value.int .u8 0, Value.int .u8 0, Value.int .u8 0] (List.replicate 32 0) rfl).below hb1)
  have B1 := Lib.hid (((Below.refl w.heap.size w).alloc (Nat.le_refl _) _).trans (hb1.mono (by simp)))
  have z1 : w.heap.size < w1.heap.size := A1.out.lt
  clear hb1
  go_wp2_with fail
  refine (rbegi_v' _).mono ?_
  rintro e w2 ⟨rfl, hb2⟩
  have A2 := Lib.hid (A1.out.below hb2)
  have B2 := Lib.hid (B1.out.trans (hb2.mono (Nat.le_of_lt z1)))
  have z2 : w.heap.size < w2.heap.size := A2.out.lt
  clear hb2 z1 A1 B1
  have e64 := Lib.hid (heap_alloc2_old w2 (.cells #[Value.int .u32 0, Value.int .u32 0, Value.int .u32 0, Value.int .u32 0, Value.int .u32 0, Value.int .u32 0, Value.int .u32 0, Value.int .u32 0, Value.int .u32 0, Value.int .u32 0, Value.int .u32 0, Value.int .u32 0, Value.int .u32 0, Value.int .u32 0, Value.int .u32 0, Value.int .u32 0, Value.int .u32 0, Value.int .u32 0, Value.int .u32 0, Value.int .u32 0, Value.int .u32 0, Value.int .u32 0, Value.int .u32 0, Value.int .u32 0, Value.int .u32 0, Value.int .u32 0, Value.int .u32 0, Value.int .u32 0, Value.int .u32 0, Value.int .u32 0, Value.int .u32 0, Value.int .u32 0, Value.int .u32 0, Value.int .u32 0, Value.int .u32 0, Value.int .u32 0, Value.int .u32 0, Value.int .u32 0, Value.int .u32 0, Value.int .u32 0, Value.int .u32 0, Value.int .u32 0, Value.int .u32 0, Value.int .u32 0, Value.int .u32 0, Value.int .u32 0, Value.int .u32 0, Value.int .u32 0, Value.int .u32 0, Value.int .u32 0, Value.int .u32 0, Value.int .u32 0, Value.int .u32 0, Value.int .u32 0, Value.int .u32 0, Value.int .u32 0, Value.int .u32 0, Value.int .u32 0, Value.int .u32 0, Value.int .u32 0, Value.int .u32 0, Value.int .u32 0, Value.int .u32 0, Value.int .u32 0] 78) (.cells #[Value.int .u32 0, Value.int .u32 0, Value.int .u32 0, Value.int .u32 0, Value.int .u32 0, Value.int .u32 0, Value.int .u32 0, Value.int .u32 0] 80))
  have e8 := Lib.hid ((setRow_other ((w2.alloc (.cells #[Value.int .u32 0, Value.int .u32 0, Value.int .u32 0, Value.int .u32 0, Value.int .u32 0, Value.int .u32 0, Value.int .u32 0, Value.int .u32 0, Value.int .u32 0, Value.int .u32 0, Value.int .u32 0, Value.int .u32 0, Value.int .u32 0, Value.int .u32 0, Value.int .u32 0, Value.int .u32 0, Value.int .u32 0, Value.int .u32 0, Value.int .u32 0, Value.int .u32 0, Value.int .u32 0, Value.int .u32 0, Value.int .u32 0, Value.int .u32 0, Value.int .u32 0, Value.int .u32 0, Value.int .u32 0, Value.int .u32 0, Value.int .u32 0, Value.int .u32 0, Value.int .u32 0, Value.int .u32 0, Value.int .u32 0, Value.int .u32 0, Value.int .u32 0, Value.int .u32 0, Value.int .u32 0, Value.int .u32 0, Value.int .u32 0, Value.int .u32 0, Value.int .u32 0, Value.int .u32 0, Value.int .u32 0, Value.int .u32 0, Value.int .u32 0, Value.int .u32 0, Value.int .u32 0, Value.int .u32 0, Value.int .u32 0, Value.int .u32 0, Value.int .u32 0, Value.int .u32 0, Value.int .u32 0, Value.int .u32 0, Value.int .u32 0, Value.int .u32 0, Value.int .u32 0, Value.int .u32 0, Value.int .u32 0, Value.int .u32 0, Value.int .u32 0, Value.int .u32 0, Value.int .u32 0, Value.int .u32 0] 78)).alloc (.cells #[Value.int .u32 0, Value.int .u32 0, Value.int .u32 0, Value.int .u32 0, Value.int .u32 0, Value.int .u32 0, Value.int .u32 0, Value.int .u32 0] 80)) w2.heap.size (w2.heap.size + 1) (K64.map fun x : Nat => Value.int .u32 (x : Int)).toArray (by omega)).trans (heap_alloc2_new w2 (.cells #[Value.int .u32 0, Value.int .u32 0, Value.int .u32 0, Value.int .u32 0, Value.int .u32 0, Value.int .u32 0, Value.int .u32 0, Value.int .u32 0, Value.int .u32 0, Value.int .u32 0, Value.int .u32 0, Value.int .u32 0, Value.int .u32 0, Value.int .u32 0, Value.int .u32 0, Value.int .u32 0, Value.int .u32 0, Value.int .u32 0, Value.int .u32 0, Value.int .u32 0, Value.int .u32 0, Value.int .u32 0, Value.int .u32 0, Value.int .u32 0, Value.int .u32 0, Value.int .u32 0, Value.int .u32 0, Value.int .u32 0, Value.int .u32 0, Value.int .u32 0, Value.int .u32 0, Value.int .u32 0, Value.int .u32 0, Value.int .u32 0, Value.int .u32 0, Value.int .u32 0, Value.int .u32 0, Value.int .u32 0, Value.int .u32 0, Value.int .u32 0, Value.int .u32 0, Value.int .u32 0, Value.int .u32 0, Value.int .u32 0, Value.int .u32 0, Value.int .u32 0, Value.int .u32 0, Value.int .u32 0, Value.int .u32 0, Value.int .u32 0, Value.int .u32 0, Value.int .u32 0, Value.int .u32 0, Value.int .u32 0, Value.int .u32 0, Value.int .u32 0, Value.int .u32 0, Value.int .u32 0, Value.int .u32 0, Value.int .u32 0, Value.int .u32 0, Value.int .u32 0, Value.int .u32 0, Value.int .u32 0] 78) (.cells #[Value.int .u32 0, Value.int .u32 0, Value.int .u32 0, Value.int .u32 0, Value.int .u32 0, Value.int .u32 0, Value.int .u32 0, Value.int .u32 0] 80)))
  have W3 := Lib.hid (OfW.start A2.out B2.out)
  go_wp2_with (first
    | (refine wpList_store_row rfl 78 (.tmp 3) (.tmp 9) rfl w2.heap.size (K64.map fun x : Nat => Value.int .u32 (x : Int)).toArray rfl rfl 78 #[Value.int .u32 0, Value.int .u32 0, Value.int .u32 0, Value.int .u32 0, Value.int .u32 0, Value.int .u32 0, Value.int .u32 0, Value.int .u32 0, Value.int .u32 0, Value.int .u32 0, Value.int .u32 0, Value.int .u32 0, Value.int .u32 0, Value.int .u32 0, Value.int .u32 0, Value.int .u32 0, Value.int .u32 0, Value.int .u32 0, Value.int .u32 0, Value.int .u32 0, Value.int .u32 0, Value.int .u32 0, Value.int .u32 0, Value.int .u32 0, Value.int .u32 0, Value.int .u32 0, Value.int .u32 0, Value.int .u32 0, Value.int .u32 0, Value.int .u32 0, Value.int .u32 0, Value.int .u32 0, Value.int .u32 0, Value.int .u32 0, Value.int .u32 0, Value.int .u32 0, Value.int .u32 0, Value.int .u32 0, Value.int .u32 0, Value.int .u32 0, Value.int .u32 0, Value.int .u32 0, Value.int .u32 0, Value.int .u32 0, Value.int .u32 0, Value.int .u32 0, Value.int .u32 0, Value.int .u32 0, Value.int .u32 0, Value.int .u32 0, Value.int .u32 0, Value.int .u32 0, Value.int .u32 0, Value.int .u32 0, Value.int .u32 0, Value.int .u32 0, Value.int .u32 0, Value.int .u32 0, Value.int .u32 0, Value.int .u32 0, Value.int .u32 0, Value.int .u32 0, Value.int .u32 0, Value.int .u32 0] e64.out (HI.out.trans (by rw [HK.out])) (by rw [HK.out]; rfl) (by simp [Value.oneCell']) ?_)
    | (refine wpList_store_row rfl 80 (.tmp 4) (.tmp 10) rfl (w2.heap.size + 1) (st8.list.map fun x : Nat => Value.int .u32 (x : Int)).toArray rfl rfl 80 #[Value.int .u32 0, Value.int .u32 0, Value.int .u32 0, Value.int .u32 0, Value.int .u32 0, Value.int .u32 0, Value.int .u32 0, Value.int .u32 0] e8.out HI8.out rfl (by simp [Value.oneCell']) ?_
       clear e64 e8 A2 B2
       generalize (((w2.alloc (.cells #[Value.int .u32 0, Value.int .u32 0, Value.int .u32 0, Value.int .u32 0, Value.int .u32 0, Value.int .u32 0, Value.int .u32 0, Value.int .u32 0, Value.int .u32 0, Value.int .u32 0, Value.int .u32 0, Value.int .u32 0, Value.int .u32 0, Value.int .u32 0, Value.int .u32 0, Value.int .u32 0, Value.int .u32 0, Value.int .u32 0, Value.int .u32 0, Value.int .u32 0, Value.int .u32 0, Value.int .u32 0, Value.int .u32 0, Value.int .u32 0, Value.int .u32 0, Value.int .u32 0, Value.int .u32 0, Value.int .u32 0, Value.int .u32 0, Value.int .u32 0, Value.int .u32 0, Value.int .u32 0, Value.int .u32 0, Value.int .u32 0, Value.int .u32 0, Value.int .u32 0, Value.int .u32 0, Value.int .u32 0, Value.int .u32 0, Value.int .u32 0, Value.int .u32 0, Value.int .u32 0, Value.int .u32 0, Value.int .u32 0, Value.int .u32 0, Value.int .u32 0, Value.int .u32 0, Value.int .u32 0, Value.int .u32 0, Value.int .u32 0, Value.int .u32 0, Value.int .u32 0, Value.int .u32 0, Value.int .u32 0, Value.int .u32 0, Value.int .u32 0, Value.int .u32 0, Value.int .u32 0, Value.int .u32 0, Value.int .u32 0, Value.int .u32 0, Value.int .u32 0, Value.int .u32 0, Value.int .u32 0] 78)).alloc (.cells #[Value.int .u32 0, Value.int .u32 0, Value.int .u32 0, Value.int .u32 0, Value.int .u32 0, Value.int .u32 0, Value.int .u32 0, Value.int .u32 0] 80)).setRow w2.heap.size (K64.map fun x : Nat => Value.int .u32 (x : Int)).toArray).setRow (w2.heap.size + 1) (st8.list.map fun x : Nat => Value.int .u32 (x : Int)).toArray = w3 at *)
    | (at_builtin; go_loud (
        refine wpList_app rfl (.tmp 11) (.tmp 12) rfl w3.heap.size (some ⟨w3.heap.size, 0, none⟩) 0 0 [] rfl (BOwn.empty w3) w.heap.size A n c l rfl (Reads.alloc (Reads.below HR.out W3.out.hb) (Nat.le_of_lt W3.out.h0.lt) _) n l (by omega) rfl (by omega) (by simp) ?_
        intro Aa ca wa ho1 hg1 _))
    | fail)
  generalize w2.heap.size = gk at *
  have B4 := Lib.hid (show Below w3.heap.size w3 wa from below_app ((Below.refl _ _).alloc (Nat.le_refl _) _) hg1 (BOwn.empty w3) (Nat.le_refl _) (by simp))
  have W4 := Lib.hid (W3.out.below B4.out)
  have O1 := Lib.hid ho1
  have z3 := W3.out.hs.lt
  have HZ := Lib.hid B4.out.size
  clear ho1 hg1 W3 B4
  have PV := rpad_v (n : Int) wa (by omega) (by omega)
  simp only [Int.toNat_natCast] at PV
  refine PV.mono ?_
  clear PV
  obtain ⟨p, hp⟩ : ∃ p, (padL n).length = p := ⟨_, rfl⟩
  rw [hp]
  have HP := Lib.hid hp
  have hpb : p ≤ 72 := by rw [← hp, pad_len]; unfold zerosN; omega
  have hp9 : 9 ≤ p := by rw [← hp, pad_len]; omega
  have hw64 : (n + p) % 64 = 0 := by rw [← hp]; exact whole_len n
  clear hp
  rintro e wb ⟨Ap, cp, rfl, ho2, hb2⟩
  obtain ⟨N, hN⟩ : ∃ N, n + p = N := ⟨_, rfl⟩
  obtain ⟨L, hL⟩ : ∃ L, l ++ toB (padL n) = L := ⟨_, rfl⟩
  have W5 := Lib.hid (W4.out.below hb2)
  have O2 := Lib.hid (O1.out.below hb2)
  have P2 := Lib.hid ho2.reads
  have z5 := hb2.size
  clear W4 O1 ho2 hb2
  go_wp2_with (first
    | (at_builtin; go_loud (
        refine wpList_app rfl (.tmp 13) (.tmp 16) rfl w3.heap.size Aa n ca l rfl O2.out wb.heap.size Ap p cp (toB (padL n)) rfl P2.out N L hN hL (by omega) (by have := HZ.out; omega) ?_
        intro A3 c3 wc ho3 hg3 _))
    | fail)
  have B6 := Lib.hid (below_app (B := w3.heap.size) (Below.refl _ wb) hg3 O2.out (Nat.le_refl _) (by have := HZ.out; omega))
  obtain ⟨g, rfl, hg1, hg2⟩ := ho3.addr (by omega)
  have R0 := Lib.hid (show ROf w gk (stAt (L.map UInt8.toNat) (List.range 0)) g N L wc from
    ⟨W5.out.hk.keep (B6.out.block gk (by omega)), W5.out.hs.keep (B6.out.block (gk + 1) (by omega)), W5.out.h0.keep (B6.out.block w.heap.size (by omega)), ⟨ho3.reads.1, fun hn => by
      obtain ⟨ad, e, _, h⟩ := ho3.reads.2 hn
      exact ⟨ad, e, by injection e with e; subst e; exact Nat.lt_succ_self _, h⟩⟩, W5.out.hb.trans (B6.out.mono (by omega)), z2, by omega, hg2⟩)
  have hN64 : N % 64 = 0 := by omega
  have hNb : N ≤ 1000072 := by omega
  have hNc := ho3.2
  have HL := Lib.hid hL
  have HN := Lib.hid hN
  clear ho3 hg3 B6 W5 O2 P2 hL hN hw64
  go_loopw [6] (fun i wr => ∃ k : Nat, k * 64 ≤ N ∧ i = .int .i64 ((k * 64 : Nat) : Int) ∧ ROf w gk (stAt (L.map UInt8.toNat) (List.range k)) g N L wr) (fun i _ => N - (intOf i).toNat)
  case atStart => exact ⟨0, Nat.zero_le _, rfl, R0.out⟩
  case round =>
    clear R0
    obtain ⟨k, hk, rfl, hI⟩ := hrel
    have I := Lib.hid hI
    clear hI
    by_cases hlt : k * 64 < N
    · obtain ⟨q, hq⟩ : ∃ q, k * 64 = q := ⟨_, rfl⟩
      have hq64 : q + 64 ≤ N := by omega
      have HQ := Lib.hid hq
      obtain ⟨s, hs⟩ : ∃ s, stAt (L.map UInt8.toNat) (List.range k) = s := ⟨_, rfl⟩
      have FS := Lib.hid (stAt_fit (L.map UInt8.toNat) (List.range k))
      rw [hs] at I FS
      have HS2 := Lib.hid (show stAt (L.map UInt8.toNat) (List.range (k + 1)) = blockP K64 s (chunkOf (L.map UInt8.toNat) k) by rw [List.range_succ, stAt_snoc, hs])
      rw [hq] at hlt hk ⊢
      have d1 := dec_lt hlt
      have u0 : (0 : Int) ≤ (q : Int) := by omega
      have u1 : q ≤ N := by omega
      have u2 : IntKind.i64.wrap ((q : Int) + 64) = (q : Int) + 64 := IntWalk.i64_in _ (by omega)
      have u3 : ((q : Int) + 64).toNat = q + 64 := by omega
      have u4 : (q : Int) + 64 ≤ (c3 : Int) := by omega
      have u5 : (q : Int) ≤ (q : Int) + 64 := by omega
      have u6 : q + 64 ≤ c3 := by omega
      have u7 : q ≤ q + 64 := by omega
      have u8 : ¬ (c3 = q) := by omega
      have u9 : q + 64 - q = 64 := by omega
      clear hs hq
      go_wp2
      refine wp_region_still_tail 7 (by kernel_rfl) (by kernel_rfl) ?_
      simp only [List.take_succ_cons, List.take_zero, List.drop_succ_cons, List.drop_zero]
      have I2 := Lib.hid I.out.drew
      have HK64 := Lib.hid (show (K64.map fun x : Nat => Value.int .u32 (x : Int)).toArray.size = 64 by simp [len_K64])
      refine wpStill_load_row rfl 78 (.tmp 3) rfl gk rfl 78 (K64.map fun x : Nat => Value.int .u32 (x : Int)).toArray (0, 0) _ I2.out.hk Try.underlying78 rfl (HI.out.trans (by rw [HK64.out])) ?_
      simp only [Act.put, List.setIfInBounds_toArray, List.set_cons_zero, List.set_cons_succ]
      refine wpStill_load_row rfl 80 (.tmp 4) rfl (gk + 1) rfl 80 #[.int .u32 (s.a : Int), .int .u32 (s.b : Int), .int .u32 (s.c : Int), .int .u32 (s.d : Int), .int .u32 (s.e : Int), .int .u32 (s.f : Int), .int .u32 (s.g : Int), .int .u32 (s.h : Int)] (0, 0) _ I2.out.hs Try.underlying80 rfl HI8.out ?_
      simp only [Act.put, List.setIfInBounds_toArray, List.set_cons_zero, List.set_cons_succ]
      repeat still_step
      refine wpStill_nil ?_
      go_wp2_with fail
      have CR := chunk_reads I2.out.hr I2.out.z3 (show k * 64 + 64 ≤ N by rw [HQ.out]; exact hq64)
      rw [add_head, HQ.out] at CR
      refine (rblock_v K64 s _ (c3 - q) (chunkOf (L.map UInt8.toNat) k) wr.drew len_K64 FS.out CR (chunkOf_lt L k)).mono ?_
      rintro e wd ⟨rfl, hbd⟩
      obtain ⟨s', hs'⟩ : ∃ s', blockP K64 s (chunkOf (L.map UInt8.toNat) k) = s' := ⟨_, rfl⟩
      rw [hs'] at HS2
      rw [hs']
      have HSD := Lib.hid (I2.out.hs.below hbd)
      have I5 := Lib.hid (I2.out.step hbd s')
      clear hbd hs' CR u0 u1 u2 u3 u4 u5 u6 u7 u8 u9 I I2
      go_wp2_with (first
        | (refine wpList_store_row rfl 80 (.tmp 4) (.tmp 31) rfl (gk + 1) (s'.list.map fun x : Nat => Value.int .u32 (x : Int)).toArray rfl rfl 80 _ HSD.out HI8.out rfl (by simp [Value.oneCell']) ?_)
        | fail)
      go_roundw
      case rel => exact ⟨k + 1, by rw [Nat.succ_mul, HQ.out]; exact hq64, by rw [Nat.succ_mul, HQ.out]; go_num, by rw [HS2.out]; exact I5.out⟩
      case measure => simp [intOf]; omega
    · obtain ⟨q, hq⟩ : ∃ q, k * 64 = q := ⟨_, rfl⟩
      have hqN : q = N := by omega
      have HST := Lib.hid (show stAt (L.map UInt8.toNat) (List.range k) = shaS (l.map UInt8.toNat) by
        have hLm : L.map UInt8.toNat = l.map UInt8.toNat ++ padL (l.map UInt8.toNat).length := by
          rw [← HL.out, List.map_append, toB_back (pad_lt n), List.length_map, BReads.len HR.out]
        have hLl : (L.map UInt8.toNat).length = N := by rw [List.length_map]; exact BReads.len I.out.hr
        rw [shaS, ← hLm, hLl, show k = N / 64 by omega]
        exact chunks_fold (N / 64) st8 _)
      rw [HST.out] at I
      rw [hq, hqN]
      have d1 := dec_nlt (Nat.lt_irrefl N)
      obtain ⟨s, hs⟩ : ∃ s, shaS (l.map UInt8.toNat) = s := ⟨_, rfl⟩
      have HSH := Lib.hid (show sha (l.map UInt8.toNat) = s.list.flatMap be8 by rw [sha, hs])
      rw [hs] at I
      clear hs HST hq hqN hlt hk
      go_wp2
      have J0 := Lib.hid (show ROz w (gk + 1) wr.heap.size s (wAt s 0) (wr.alloc (.cells #[Value.int .u8 0, Value.int .u8 0, Value.int .u8 0, Value.int .u8 0, Value.int .u8 0, Value.int .u8 0, Value.int .u8 0, Value.int .u8 0, Value.int .u8 0, Value.int .u8 0, Value.int .u8 0, Value.int .u8 0, Value.int .u8 0, Value.int .u8 0, Value.int .u8 0, Value.int .u8 0, Value.int .u8 0, Value.int .u8 0, Value.int .u8 0, Value.int .u8 0, Value.int .u8 0, Value.int .u8 0, Value.int .u8 0, Value.int .u8 0, Value.int .u8 0, Value.int .u8 0, Value.int .u8 0, Value.int .u8 0, Value.int .u8 0, Value.int .u8 0, Value.int .u8 0, Value.int .u8 0] 59)) from
        ⟨I.out.hb.alloc (Nat.le_of_lt I.out.h0.lt) _, I.out.hs.alloc _, I.out.h0.alloc _, Arr.new wr _ _ rfl, Nat.lt_succ_of_lt I.out.z1, I.out.hs.lt⟩)
      clear I
      generalize wr.alloc (.cells #[Value.int .u8 0, Value.int .u8 0, Value.int .u8 0, Value.int .u8 0, Value.int .u8 0, Value.int .u8 0, Value.int .u8 0, Value.int .u8 0, Value.int .u8 0, Value.int .u8 0, Value.int .u8 0, Value.int .u8 0, Value.int .u8 0, Value.int .u8 0, Value.int .u8 0, Value.int .u8 0, Value.int .u8 0, Value.int .u8 0, Value.int .u8 0, Value.int .u8 0, Value.int .u8 0, Value.int .u8 0, Value.int .u8 0, Value.int .u8 0, Value.int .u8 0, Value.int .u8 0, Value.int .u8 0, Value.int .u8 0, Value.int .u8 0, Value.int .u8 0, Value.int .u8 0, Value.int .u8 0] 59) = wv at *
      generalize wr.heap.size = gw at *
      clear wr
      go_loopw [8] (fun i wr => ∃ k : Nat, k ≤ 32 ∧ i = .int .i64 (k : Int) ∧ ROz w (gk + 1) gw s (wAt s k) wr) (fun i _ => 32 - (intOf i).toNat)
      case atStart => exact ⟨0, Nat.zero_le _, rfl, J0.out⟩
      case round =>
        clear J0
        obtain ⟨i, hi, rfl, hJ⟩ := hrel
        have J := Lib.hid hJ
        clear hJ
        by_cases hlt : i < 32
        · have d1 := dec_lt hlt
          obtain ⟨x, hx, hxs⟩ := wAt_step s i hlt
          obtain ⟨y, hy⟩ := wAt_at s i hlt
          have c0 := Arr.cell J.out.hs hx
          have c1 := Arr.cell J.out.hw hy
          have f1 := Arr.frozen J.out.hw i
          have HXS := Lib.hid hxs
          clear hx hxs hy
          obtain ⟨j, hj⟩ : ∃ j, i / 4 = j := ⟨_, rfl⟩
          rw [hj] at c0
          have e1 : (i : Int) / 4 = (j : Int) := by omega
          have j0 : (0 : Int) ≤ (j : Int) := by omega
          have j1 : (j : Int) < 8 := by omega
          have i0 : (0 : Int) ≤ (i : Int) := by omega
          have i1 : (i : Int) < 32 := by omega
          rcases (show i % 4 = 0 ∨ i % 4 = 1 ∨ i % 4 = 2 ∨ i % 4 = 3 by omega) with hr | hr | hr | hr
          · have e2 : (i : Int) % 4 = 0 := by omega
            have HS := Lib.hid (show (wAt s i).set i (x/16777216%256) = wAt s (i + 1) by have := HXS.out; rw [hr] at this; exact this)
            clear hj hr hi
            go_wp2
            go_roundw
            case rel => exact ⟨i + 1, hlt, by go_num, J.out.set_ i _ _ (by omega) HS.out⟩
            case measure => simp [intOf]; omega
          · have e2 : (i : Int) % 4 = 1 := by omega
            have HS := Lib.hid (show (wAt s i).set i (x/65536%256) = wAt s (i + 1) by have := HXS.out; rw [hr] at this; exact this)
            clear hj hr hi
            go_wp2
            go_roundw
            case rel => exact ⟨i + 1, hlt, by go_num, J.out.set_ i _ _ (by omega) HS.out⟩
            case measure => simp [intOf]; omega
          · have e2 : (i : Int) % 4 = 2 := by omega
            have HS := Lib.hid (show (wAt s i).set i (x/256%256) = wAt s (i + 1) by have := HXS.out; rw [hr] at this; exact this)
            clear hj hr hi
            go_wp2
            go_roundw
            case rel => exact ⟨i + 1, hlt, by go_num, J.out.set_ i _ _ (by omega) HS.out⟩
            case measure => simp [intOf]; omega
          · have e2 : (i : Int) % 4 = 3 := by omega
            have HS := Lib.hid (show (wAt s i).set i (x%256) = wAt s (i + 1) by have := HXS.out; rw [hr] at this; exact this)
            clear hj hr hi
            go_wp2
            go_roundw
            case rel => exact ⟨i + 1, hlt, by go_num, J.out.set_ i _ _ (by omega) HS.out⟩
            case measure => simp [intOf]; omega
        · obtain rfl : i = 32 := by omega
          have HW := Lib.hid (show Arr .u8 59 wr gw (s.list.flatMap be8) from J.out.hw)
          have H0 := Lib.hid J.out.h0
          have HI9 := Lib.hid (show (Try.prog.info? 59).map (·.size) = some 32 by kernel_rfl)
          have HSZ := Lib.hid (show ((s.list.flatMap be8).map fun x : Nat => Value.int .u8 (x : Int)).toArray.size = 32 from rfl)
          go_wp2_with (first
            | (refine wpList_load_row rfl 59 (.tmp 7) rfl gw rfl 59 ((s.list.flatMap be8).map fun x : Nat => Value.int .u8 (x : Int)).toArray (0, 0) _ HW.out Try.underlying59 rfl (HI9.out.trans (by rw [HSZ.out])) ?_)
            | (refine wpList_store_row rfl 59 (.tmp 2) (.tmp 49) rfl w.heap.size ((s.list.flatMap be8).map fun x : Nat => Value.int .u8 (x : Int)).toArray rfl rfl 59 _ H0.out (HI9.out.trans (by rw [HSZ.out])) (by rw [HSZ.out]; rfl) (by simp [Value.oneCell']) ?_)
            | fail)
          have HWW := Lib.hid (setRow_heap wr w.heap.size _ ((s.list.flatMap be8).map fun x : Nat => Value.int .u8 (x : Int)).toArray _ _ H0.out)
          exact bodyPost_ret (results_cell_row Try.results37 _ _ w.heap.size _ _ _ _ rfl HWW.out Try.underlying59 rfl (HI9.out.trans (by rw [HSZ.out]))) rfl ⟨by rw [HSH.out], below_setRow J.out.hb (Nat.le_refl _) _⟩
end Go.Proofs.Ytmaehbebpldpcaa
