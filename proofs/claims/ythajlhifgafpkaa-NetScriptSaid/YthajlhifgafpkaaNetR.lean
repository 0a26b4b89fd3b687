/-
  Nets: how a net lies in memory.
-/
import Derived.Test.YthajlhifgafpkaaNetM
import Derived.Test.YthajlhifgafpkaaBytes
import Derived.Test.YthajlhifgafpkaaMapIs
namespace Go.Proofs.Ythajlhifgafpkaa
open Go.RowKit
open Go.Maps (Keyed)
/-- A packet and where its bytes lie. -/
structure PkV where
  pk : Pk
  a : Option Addr
  len : Nat
  cap : Nat
def PkV.cells (v : PkV) : List Value := [.int .u64 (v.pk.num : Int), .int .i64 v.pk.frm, .int .i64 v.pk.too, .int .u64 (v.pk.run : Int), .slice v.a v.len v.cap]
theorem PkV.cells_len (v : PkV) : v.cells.length = 5 := rfl
/-- A row of packets of the call's own, each with bytes of the call's own. -/
structure PkRow (W : World) (base : Nat) (A : Option Addr) (n c : Nat) (vs : List PkV) : Prop where
  row : W.ownsRow base 34 5 (.slice A n c) n (vs.flatMap PkV.cells)
  hc : n ≤ c
  bytes : ∀ v ∈ vs, BOwn W base v.a v.len v.cap v.pk.bytes ∧ v.len ≤ 262144
def ekL (k : Int × Int) : Value := .agg #[.int .i64 k.1, .int .i64 k.2]
def evL (v : Bool × Nat) : Value := .agg #[.bool v.1, .int .u64 (v.2 : Int)]
theorem ekL_inj (x y : Int × Int) (h : ekL x = ekL y) : x = y := by
  obtain ⟨x1, x2⟩ := x
  obtain ⟨y1, y2⟩ := y
  simpa [ekL] using h
theorem keyedL : Keyed Try.prog 67 := Keyed.of_law (Go.WideMaps.ArrKey.law (n := 2) (e := 3) ⟨Try.underlying67, by kernel_rfl, by kernel_rfl, by kernel_rfl⟩)
theorem keyLits_int (m : Nat) (x : Int) (hx : (Lit.int .i64 x).wf = true) : Try.prog.keyLits (m + 1) 3 [.int .i64 x] = some [.int .i64 x] := by
  unfold Program.keyLits
  rw [Try.underlying3]
  simp [hx]
theorem keyL_some (x y : Int) (hx : (Lit.int .i64 x).wf = true) (hy : (Lit.int .i64 y).wf = true) : ∃ q, keyOf Try.prog 67 (ekL (x, y)) = some q := by
  have h1 : Try.prog.keyType 67 = true := by kernel_rfl
  have c1 : Try.prog.cellsOf 67 = 2 := by kernel_rfl
  have c2 : Try.prog.cellsOf 3 = 1 := by kernel_rfl
  have h4 : Try.prog.types.size ≠ 0 := by simp
  obtain ⟨m, hm⟩ : ∃ m, Try.prog.types.size = m + 1 := ⟨Try.prog.types.size - 1, by omega⟩
  have h2 : Value.formed Try.prog 67 (ekL (x, y)) = true := by
    unfold Value.formed ekL
    rw [Try.underlying67]
    simp [c1]
  have h3 : Try.prog.keyLits (m + 1 + 1) 67 (ekL (x, y)).cells.toList = some [.int .i64 x, .int .i64 y] := by
    unfold Program.keyLits
    rw [Try.underlying67]
    have e1 := keyLits_int m x hx
    have e2 := keyLits_int m y hy
    simp [ekL, Value.cells, c1, c2, List.range_succ, e1, e2]
  unfold keyOf
  rw [Try.underlying67]
  simp only [h1, h2, Bool.and_self, if_true, hm, h3]
  exact ⟨_, rfl⟩
/-- A net at g. -/
structure NetIs (W : World) (base g mb : Nat) (A : Option Addr) (n c : Nat) (vs : List PkV) (s : NS) : Prop where
  hg : W.heap[g]? = some (.cells #[.map (some mb), .slice A n c, .int .u64 (s.last : Int)] 66 (0, 0))
  hm : ∃ l : List ((Int × Int) × (Bool × Nat)), MapIs Try.prog 67 ekL evL W mb l ∧ ∀ k, (aget k l).getD (false, 0) = s.link k
  hf : PkRow W base A n c vs
  hv : vs.map (·.pk) = s.fl
  b1 : base ≤ g
  b2 : base ≤ mb
/-- What a net's call leaves as it was: all but the net's own blocks. -/
structure NetCh (g mb : Nat) (A : Option Addr) (n c : Nat) (A' : Option Addr) (n' c' : Nat) (W W' : World) : Prop where
  size : W.heap.size ≤ W'.heap.size
  blk : ∀ j, j < W.heap.size → j ≠ g → j ≠ mb → (Value.slice A n c).ownBlock ≠ some j → W'.heap[j]? = W.heap[j]?
  own : ∀ j, (Value.slice A' n' c').ownBlock = some j → (Value.slice A n c).ownBlock = some j ∨ W.heap.size ≤ j
section
variable {W W' W'' : World} {base g mb n c n' c' n'' c'' : Nat} {A A' A'' : Option Addr} {vs vs' : List PkV} {s s' : NS}
theorem NetCh.refl (g mb : Nat) (A : Option Addr) (n c : Nat) (W : World) : NetCh g mb A n c A n c W W := ⟨Nat.le_refl _, fun _ _ _ _ _ => rfl, fun _ h => .inl h⟩
theorem NetCh.trans (h : NetCh g mb A n c A' n' c' W W') (k : NetCh g mb A' n' c' A'' n'' c'' W' W'') : NetCh g mb A n c A'' n'' c'' W W'' := by
  refine ⟨Nat.le_trans h.size k.size, fun j hj h1 h2 h3 => ?_, fun j hj => ?_⟩
  · refine (k.blk j (Nat.lt_of_lt_of_le hj h.size) h1 h2 fun e => ?_).trans (h.blk j hj h1 h2 h3)
    rcases h.own j e with e2 | e2
    · exact h3 e2
    · omega
  · rcases k.own j hj with e | e
    · exact h.own j e
    · exact .inr (Nat.le_trans h.size e)
theorem NetCh.below (hb : Below W.heap.size W W') (g mb : Nat) (A : Option Addr) (n c : Nat) : NetCh g mb A n c A n c W W' := ⟨hb.size, fun j hj _ _ _ => hb.block j hj, fun _ h => .inl h⟩
theorem PkRow.base_le (h : PkRow W base A n c vs) : ∀ j, (Value.slice A n c).ownBlock = some j → base ≤ j ∧ j < W.heap.size := h.row.lt
theorem PkRow.len (h : PkRow W base A n c vs) : vs.length = n := by
  have h1 := h.row.1
  rw [flat_len PkV.cells_len] at h1
  omega
theorem PkRow.keep (h : PkRow W base A n c vs) (hk : ∀ j, (Value.slice A n c).ownBlock = some j → W'.heap[j]? = W.heap[j]?) (hk2 : ∀ v ∈ vs, ∀ j, (Value.slice v.a v.len v.cap).ownBlock = some j → W'.heap[j]? = W.heap[j]?) : PkRow W' base A n c vs := by
  refine ⟨⟨h.row.1, ?_⟩, h.hc, fun v hv => ⟨⟨⟨(h.bytes v hv).1.1.1, ?_⟩, (h.bytes v hv).1.2⟩, (h.bytes v hv).2⟩⟩
  · rcases h.row.2 with hn | ⟨g, cap, cur, ev, hg, hh, rest⟩
    · exact .inl hn
    · exact .inr ⟨g, cap, cur, ev, hg, (hk g (by rw [ev]; rfl)).trans hh, rest⟩
  · rcases (h.bytes v hv).1.1.2 with hn | ⟨g, cap, cur, ev, hg, hh, rest⟩
    · exact .inl hn
    · exact .inr ⟨g, cap, cur, ev, hg, (hk2 v hv g (by rw [ev]; rfl)).trans hh, rest⟩
theorem PkRow.blt (h : PkRow W base A n c vs) : ∀ v ∈ vs, ∀ j, (Value.slice v.a v.len v.cap).ownBlock = some j → base ≤ j ∧ j < W.heap.size := fun v hv => (h.bytes v hv).1.base_le
theorem PkRow.below (h : PkRow W base A n c vs) (hb : Below W.heap.size W W') : PkRow W' base A n c vs :=
  h.keep (fun j hj => hb.block j (h.base_le j hj).2) (fun v hv j hj => hb.block j (h.blt v hv j hj).2)
theorem PkRow.drew (h : PkRow W base A n c vs) : PkRow W.drew base A n c vs := h.keep (fun _ _ => rfl) (fun _ _ _ _ => rfl)
theorem PkRow.nil_ (W : World) (base : Nat) : PkRow W base none 0 0 [] := ⟨World.ownsRow_nil W base _ 5, Nat.le_refl _, fun v hv => by cases hv⟩
theorem NetIs.lt (h : NetIs W base g mb A n c vs s) : g < W.heap.size := (Array.getElem?_eq_some_iff.1 h.hg).1
theorem NetIs.mlt (h : NetIs W base g mb A n c vs s) : mb < W.heap.size := by obtain ⟨l, hm, _⟩ := h.hm; exact hm.lt
theorem NetIs.keep (h : NetIs W base g mb A n c vs s) (hk : ∀ j, j < W.heap.size → W'.heap[j]? = W.heap[j]?) : NetIs W' base g mb A n c vs s := by
  obtain ⟨l, hm, hl⟩ := h.hm
  exact ⟨(hk g h.lt).trans h.hg, ⟨l, hm.keep (hk mb hm.lt), hl⟩, h.hf.keep (fun j hj => hk j (h.hf.base_le j hj).2) (fun v hv j hj => hk j (h.hf.blt v hv j hj).2), h.hv, h.b1, h.b2⟩
theorem NetIs.below (h : NetIs W base g mb A n c vs s) (hb : Below W.heap.size W W') : NetIs W' base g mb A n c vs s := h.keep fun j hj => hb.block j hj
theorem NetIs.drew (h : NetIs W base g mb A n c vs s) : NetIs W.drew base g mb A n c vs s := h.keep fun _ _ => rfl
theorem NetIs.drewN (h : NetIs W base g mb A n c vs s) (q : Nat) : NetIs (W.drewN q) base g mb A n c vs s := h.keep fun _ _ => rfl
theorem NetIs.c0 (h : NetIs W base g mb A n c vs s) : W.cell? ⟨g, 0, none⟩ = some (.map (some mb)) := by rw [cell_of_row W g 0 _ _ _ h.hg]; rfl
theorem NetIs.c1 (h : NetIs W base g mb A n c vs s) : W.cell? ⟨g, 1, none⟩ = some (.slice A n c) := by rw [cell_of_row W g 1 _ _ _ h.hg]; rfl
theorem NetIs.c2 (h : NetIs W base g mb A n c vs s) : W.cell? ⟨g, 2, none⟩ = some (.int .u64 (s.last : Int)) := by rw [cell_of_row W g 2 _ _ _ h.hg]; rfl
theorem NetIs.fr (h : NetIs W base g mb A n c vs s) (j : Nat) : W.frozen? ⟨g, j, none⟩ = false := frozen_of_row W g j _ _ h.hg
theorem NetIs.len (h : NetIs W base g mb A n c vs s) : s.fl.length = n := by rw [← h.hv, List.length_map, h.hf.len]
theorem zero_link (w : World) : (zeroValue 71).run Try.prog w = .ok (evL (false, 0)) w := Try.zeroValue71 w
theorem NetIs.look (h : NetIs W base g mb A n c vs s) (x y : Int) (hx : (Lit.int .i64 x).wf = true) (hy : (Lit.int .i64 y).wf = true) :
    (Instr.lookup 64 (.map (some mb)) (.agg #[.int .i64 x, .int .i64 y]) false).run Try.prog W = .ok (.agg #[.bool (s.link (x, y)).1, .int .u64 ((s.link (x, y)).2 : Int)]) W := by
  obtain ⟨l, hm, hl⟩ := h.hm
  obtain ⟨q, hq⟩ := keyL_some x y hx hy
  have := hm.look keyedL ekL_inj Try.underlying64 (zero_link W) false hq
  refine this.trans ?_
  rw [← hl (x, y)]
  simp only [Bool.false_eq_true, if_false]
  cases aget (x, y) l <;> rfl
theorem PkRow.isCells (h : PkRow W base A n c vs) {j : Nat} (hj : (Value.slice A n c).ownBlock = some j) : ∃ cur, W.heap[j]? = some (.cells cur 34 (0, 0)) := by
  rcases h.row.2 with ⟨hn, _⟩ | ⟨g, cap, cur, ev, hg, hh, rest⟩
  · rw [hn] at hj; simp [Value.ownBlock] at hj
  · rw [ev] at hj
    simp [Value.ownBlock] at hj
    subst hj
    exact ⟨cur, hh⟩
theorem BOwn.isCells {l : List UInt8} (h : BOwn W base A n c l) {j : Nat} (hj : (Value.slice A n c).ownBlock = some j) : ∃ cur, W.heap[j]? = some (.cells cur 5 (0, 0)) := by
  rcases h.1.2 with ⟨hn, _⟩ | ⟨g, cap, cur, ev, hg, hh, rest⟩
  · rw [hn] at hj; simp [Value.ownBlock] at hj
  · rw [ev] at hj
    simp [Value.ownBlock] at hj
    subst hj
    exact ⟨cur, hh⟩
theorem NetIs.isMap (h : NetIs W base g mb A n c vs s) : ∃ es ck, W.heap[mb]? = some (.map es ck) := by
  obtain ⟨l, ⟨es, ck, hb, _⟩, _⟩ := h.hm
  exact ⟨es, ck, hb⟩
theorem NetIs.gm (h : NetIs W base g mb A n c vs s) : g ≠ mb := by
  obtain ⟨es, ck, hb⟩ := h.isMap
  intro e
  subst e
  rw [h.hg] at hb
  cases hb
theorem NetIs.rowm (h : NetIs W base g mb A n c vs s) {j : Nat} (hj : (Value.slice A n c).ownBlock = some j) : j ≠ mb ∧ j ≠ g := by
  obtain ⟨cur, hc⟩ := h.hf.isCells hj
  refine ⟨fun e => ?_, fun e => ?_⟩
  · obtain ⟨es, ck, hb⟩ := h.isMap
    subst e
    rw [hc] at hb
    cases hb
  · subst e
    rw [h.hg] at hc
    injection hc with hc
    injection hc with _ hc
    exact absurd hc (by decide)
/-- A block of bytes is none of the net's own. -/
theorem NetIs.bytes_ne {A2 : Option Addr} {n2 c2 b2 : Nat} {l : List UInt8} (h : NetIs W base g mb A n c vs s) (hb : BOwn W b2 A2 n2 c2 l) {j : Nat} (hj : (Value.slice A2 n2 c2).ownBlock = some j) : j ≠ g ∧ j ≠ mb ∧ (Value.slice A n c).ownBlock ≠ some j := by
  obtain ⟨cur, hc⟩ := hb.isCells hj
  refine ⟨fun e => ?_, fun e => ?_, fun e => ?_⟩
  · subst e
    rw [h.hg] at hc
    injection hc with hc
    injection hc with _ hc
    exact absurd hc (by decide)
  · obtain ⟨es, ck, hb⟩ := h.isMap
    subst e
    rw [hc] at hb
    cases hb
  · obtain ⟨cur2, hc2⟩ := h.hf.isCells e
    rw [hc] at hc2
    injection hc2 with hc2
    injection hc2 with _ hc2
    exact absurd hc2 (by decide)
/-- A link is set. -/
theorem NetIs.store (h : NetIs W base g mb A n c vs s) (x y : Int) (hx : (Lit.int .i64 x).wf = true) (hy : (Lit.int .i64 y).wf = true) (v : Bool × Nat) :
    ∃ W', (Instr.mapUpdate 64 (.map (some mb)) (.agg #[.int .i64 x, .int .i64 y]) (.agg #[.bool v.1, .int .u64 (v.2 : Int)])).run Try.prog W = .ok () W' ∧ NetIs W' base g mb A n c vs (s.set (x, y) v) ∧ Below base W W' ∧ NetCh g mb A n c A n c W W' ∧ W'.heap.size = W.heap.size := by
  obtain ⟨l, hm, hl⟩ := h.hm
  obtain ⟨q, hq⟩ := keyL_some x y hx hy
  obtain ⟨W', hr, hm', hg, hz⟩ := hm.store (ek := ekL) (ev := evL) keyedL ekL_inj Try.underlying64 hq v
  have hk : ∀ j, j < W.heap.size → j ≠ mb → W'.heap[j]? = W.heap[j]? := fun j hj hne => hg.block j hj (fun e => hne (Option.some.inj e))
  refine ⟨W', hr, ⟨(hk g h.lt h.gm).trans h.hg, ⟨_, hm', fun k => ?_⟩, h.hf.keep (fun j hj => hk j (h.hf.base_le j hj).2 (h.rowm hj).1) (fun v hv j hj => hk j (h.hf.blt v hv j hj).2 (h.bytes_ne (h.hf.bytes v hv).1 hj).2.1), h.hv, h.b1, h.b2⟩, ?_, ⟨by omega, fun j hj _ h2 _ => hk j hj h2, fun _ h => .inl h⟩, hz⟩
  · rw [aget_aput]
    simp only [NS.set]
    by_cases e : k = (x, y)
    · subst e; simp
    · rw [if_neg (fun e2 => e e2.symm), if_neg e]; exact hl k
  · have h1 := h.mlt
    have h2 := h.b2
    exact ⟨hg.os, hg.tape, hg.output, by omega, fun j hj => hk j (by omega) (by omega)⟩
end
end Go.Proofs.Ythajlhifgafpkaa
