/-
  Blocks: what BlockPuts' third loop keeps.
-/
import Derived.Test.YtmaehbebpldpcaaPutA
import Derived.Test.YtmaehbebpldpcaaBlkZ
namespace Go.Proofs.Ytmaehbebpldpcaa
open Go.RowKit Go.Shelf
theorem OwnRows.len {V : World} {base n c : Nat} {A : Option Addr} {rs : List BRow} (h : OwnRows V base A n c rs) : rs.length = n := by have := h.row.1; simpa using this
theorem OwnRows.below {V V' : World} {base n c : Nat} {A : Option Addr} {rs : List BRow} (h : OwnRows V base A n c rs) (hb : Below V.heap.size V V') : OwnRows V' base A n c rs :=
  ⟨own_keep' h.row (fun j hj => hb.block j (h.row.lt j hj).2), fun r hr => (h.rows r hr).below hb⟩
theorem OwnRows.alloc {V : World} {base n c : Nat} {A : Option Addr} {rs : List BRow} (h : OwnRows V base A n c rs) (o : Obj) : OwnRows (V.alloc o) base A n c rs := ⟨h.row.alloc o, fun r hr => (h.rows r hr).alloc o⟩
theorem brow_keep {V V' : World} {base base2 n c m d : Nat} {A A2 : Option Addr} {xs : List Value} {l : List UInt8} (h : V.ownsRow base 25 1 (.slice A n c) n xs) (hg : V.grownBy V' (Value.slice A n c).ownBlock) (hr : BOwn V base2 A2 m d l) : BOwn V' base2 A2 m d l := by
  refine ⟨own_keep' hr.1 (fun j hj => hg.block j (hr.1.lt j hj).2 (fun e => ?_)), hr.2⟩
  obtain ⟨c1, f1, e1⟩ := own_isCells hr.1 hj
  obtain ⟨c2, f2, e2⟩ := own_isCells h e.symm
  have e3 := Option.some.inj (e1.symm.trans e2)
  injection e3 with _ e4 _
  exact absurd e4 (by decide)
theorem OwnRows.snoc {V V' : World} {base n c c' : Nat} {A A' : Option Addr} {rs : List BRow} {r : BRow} (h : OwnRows V base A n c rs) (hr : BOwn V base r.1 r.2.1 r.2.2.1 r.2.2.2)
    (ho : V'.ownsRow base 25 1 (.slice A' (n + 1) c') (n + 1) ((rs.map fun r : BRow => Value.slice r.1 r.2.1 r.2.2.1) ++ [Value.slice r.1 r.2.1 r.2.2.1])) (hg : V.grownBy V' (Value.slice A n c).ownBlock) : OwnRows V' base A' (n + 1) c' (rs ++ [r]) :=
  ⟨by rw [List.map_append]; exact ho, fun y hy => by
    rcases List.mem_append.1 hy with hy | hy
    · exact brow_keep h.row hg (h.rows y hy)
    · obtain rfl := List.mem_singleton.1 hy
      exact brow_keep h.row hg hr⟩
theorem OwnRows.other {V V' : World} {base n c n2 c2 : Nat} {A A2 : Option Addr} {rs rs2 : List BRow} (h2 : OwnRows V base A2 n2 c2 rs2) (h : OwnRows V base A n c rs) (hd : ∀ j, (Value.slice A2 n2 c2).ownBlock = some j → (Value.slice A n c).ownBlock ≠ some j)
    (hg : V.grownBy V' (Value.slice A n c).ownBlock) : OwnRows V' base A2 n2 c2 rs2 :=
  ⟨own_keep' h2.row (fun j hj => hg.block j (h2.row.lt j hj).2 (fun e => hd j hj e.symm)), fun r hr => brow_keep h.row hg (h2.rows r hr)⟩
/-- The first k1 blocks in a row of the call's own; the sources' blocks in another one, while none is lacking. -/
structure PutI (V : World) (base : Nat) (Z : Nat) (L : List UInt8) (ps : List (Int × Int)) (k k1 q n2 : Nat) (A1 : Option Addr) (c1 : Nat) (rs1 : List BRow) (A2 : Option Addr) (c2 : Nat) (rs2 : List BRow) : Prop where
  own : OwnRows V base A1 k1 c1 rs1
  out : OwnRows V base A2 n2 c2 rs2
  apart : ∀ j, (Value.slice A1 k1 c1).ownBlock = some j → (Value.slice A2 n2 c2).ownBlock ≠ some j
  n2k : n2 ≤ k
  qk : q ≤ k
  b1 : ∀ i, i < k1 → ∃ r, rs1[i]? = some r ∧ r.2.2.2 = chunkB L Z i
  b2 : q = 0 → n2 = k ∧ ∀ i, i < k → ∃ r, rs2[i]? = some r ∧ r.2.2.2 = chunkB L Z i
  qz : q = 0 ↔ ∀ p ∈ ps.take k, p.1 ≠ -1
section
variable {V V' : World} {base Z k k1 q n2 c1 c2 c' : Nat} {L : List UInt8} {ps : List (Int × Int)} {A1 A2 A' : Option Addr} {rs1 rs2 : List BRow} {r : BRow}
theorem PutI.start (V : World) (base Z : Nat) (L : List UInt8) (ps : List (Int × Int)) : PutI V base Z L ps 0 0 0 0 none 0 [] none 0 [] :=
  ⟨⟨World.ownsRow_nil _ _ _ 1, by simp⟩, ⟨World.ownsRow_nil _ _ _ 1, by simp⟩, fun j h => by simp [Value.ownBlock] at h, Nat.le_refl _, Nat.le_refl _, fun i h => by omega, fun _ => ⟨rfl, fun i h => by omega⟩, by simp⟩
theorem PutI.below (h : PutI V base Z L ps k k1 q n2 A1 c1 rs1 A2 c2 rs2) (hb : Below V.heap.size V V') : PutI V' base Z L ps k k1 q n2 A1 c1 rs1 A2 c2 rs2 :=
  ⟨h.own.below hb, h.out.below hb, h.apart, h.n2k, h.qk, h.b1, h.b2, h.qz⟩
theorem PutI.alloc (h : PutI V base Z L ps k k1 q n2 A1 c1 rs1 A2 c2 rs2) (o : Obj) : PutI (V.alloc o) base Z L ps k k1 q n2 A1 c1 rs1 A2 c2 rs2 :=
  ⟨h.own.alloc o, h.out.alloc o, h.apart, h.n2k, h.qk, h.b1, h.b2, h.qz⟩
theorem snoc_at {rs : List BRow} {n : Nat} (hl : rs.length = n) (hb : ∀ i, i < n → ∃ r, rs[i]? = some r ∧ r.2.2.2 = chunkB L Z i) (hr : r.2.2.2 = chunkB L Z n) : ∀ i, i < n + 1 → ∃ y, (rs ++ [r])[i]? = some y ∧ y.2.2.2 = chunkB L Z i := by
  intro i hi
  rcases Nat.lt_or_ge i n with h | h
  · obtain ⟨y, h1, h2⟩ := hb i h
    exact ⟨y, by rw [List.getElem?_append_left (by omega)]; exact h1, h2⟩
  · obtain rfl : i = n := by omega
    exact ⟨r, by rw [List.getElem?_append_right (by omega), hl, Nat.sub_self]; rfl, hr⟩
theorem PutI.snoc1 (h : PutI V base Z L ps k k1 q n2 A1 c1 rs1 A2 c2 rs2) (hr : BOwn V base r.1 r.2.1 r.2.2.1 r.2.2.2) (hc : r.2.2.2 = chunkB L Z k1)
    (ho : V'.ownsRow base 25 1 (.slice A' (k1 + 1) c') (k1 + 1) ((rs1.map fun r : BRow => Value.slice r.1 r.2.1 r.2.2.1) ++ [Value.slice r.1 r.2.1 r.2.2.1])) (hg : V.grownBy V' (Value.slice A1 k1 c1).ownBlock)
    (hw : (Value.slice A' (k1 + 1) c').ownBlock = (Value.slice A1 k1 c1).ownBlock ∨ (Value.slice A' (k1 + 1) c').ownBlock = some V.heap.size) : PutI V' base Z L ps k (k1 + 1) q n2 A' c' (rs1 ++ [r]) A2 c2 rs2 :=
  ⟨h.own.snoc hr ho hg, h.out.other h.own (fun j h1 h2 => h.apart j h2 h1) hg, fun j h1 h2 => by
    rcases hw with hw | hw
    · exact h.apart j (hw.symm.trans h1) h2
    · have := (h.out.row.lt j h2).2
      rw [hw] at h1
      injection h1 with h1
      omega, h.n2k, h.qk, snoc_at h.own.len h.b1 hc, h.b2, h.qz⟩
theorem take_snoc {α : Type} {ps : List α} {p : α} (hp : ps[k]? = some p) : ps.take (k + 1) = ps.take k ++ [p] := by rw [List.take_add_one, hp]; rfl
theorem PutI.skip {p : Int × Int} (h : PutI V base Z L ps k k1 q n2 A1 c1 rs1 A2 c2 rs2) (hp : ps[k]? = some p) (hm : p.1 = -1) : PutI V base Z L ps (k + 1) k1 (q + 1) n2 A1 c1 rs1 A2 c2 rs2 :=
  ⟨h.own, h.out, h.apart, Nat.le_succ_of_le h.n2k, Nat.succ_le_succ h.qk, h.b1, fun e => by omega, ⟨fun e => by omega, fun hh => absurd hm (hh p (by rw [take_snoc hp]; simp))⟩⟩
theorem PutI.snoc2 {p : Int × Int} (h : PutI V base Z L ps k k1 q n2 A1 c1 rs1 A2 c2 rs2) (hp : ps[k]? = some p) (hm : p.1 ≠ -1) (hr : BOwn V base r.1 r.2.1 r.2.2.1 r.2.2.2) (hc : r.2.2.2 = chunkB L Z k)
    (ho : V'.ownsRow base 25 1 (.slice A' (n2 + 1) c') (n2 + 1) ((rs2.map fun r : BRow => Value.slice r.1 r.2.1 r.2.2.1) ++ [Value.slice r.1 r.2.1 r.2.2.1])) (hg : V.grownBy V' (Value.slice A2 n2 c2).ownBlock)
    (hw : (Value.slice A' (n2 + 1) c').ownBlock = (Value.slice A2 n2 c2).ownBlock ∨ (Value.slice A' (n2 + 1) c').ownBlock = some V.heap.size) : PutI V' base Z L ps (k + 1) k1 q (n2 + 1) A1 c1 rs1 A' c' (rs2 ++ [r]) :=
  ⟨h.own.other h.out h.apart hg, h.out.snoc hr ho hg, fun j h1 h2 => by
    rcases hw with hw | hw
    · exact h.apart j h1 (hw.symm.trans h2)
    · have := (h.own.row.lt j h1).2
      rw [hw] at h2
      injection h2 with h2
      omega, Nat.succ_le_succ h.n2k, Nat.le_succ_of_le h.qk, h.b1, fun e => by
    obtain ⟨e1, e2⟩ := h.b2 e
    subst e1
    exact ⟨rfl, snoc_at h.out.len e2 hc⟩, by
    rw [take_snoc hp]
    constructor
    · intro e y hy
      rcases List.mem_append.1 hy with hy | hy
      · exact h.qz.1 e y hy
      · obtain rfl := List.mem_singleton.1 hy
        exact hm
    · intro hh
      exact h.qz.2 fun y hy => hh y (List.mem_append.2 (.inl hy))⟩
theorem RowsIn.of_ownRows (h : OwnRows V base A1 k c1 rs1) : RowsIn V V.heap.size A1 k rs1 := ⟨Reads.of_own h.row, fun r hr => ⟨(h.rows r hr).reads, (h.rows r hr).2, (h.rows r hr).cm⟩⟩
theorem PutI.small {rs : List BRow} {n c : Nat} {A : Option Addr} (h : OwnRows V base A n c rs) (hb : ∀ i, i < n → ∃ r, rs[i]? = some r ∧ r.2.2.2 = chunkB L Z i) : ∀ r ∈ rs, r.2.1 ≤ Z := by
  intro r hr
  have h1 := (h.rows r hr).len
  obtain ⟨i, hi, rfl⟩ := List.getElem_of_mem hr
  obtain ⟨y, h2, h3⟩ := hb i (by rw [← h.len]; exact hi)
  rw [List.getElem?_eq_getElem hi] at h2
  rw [Option.some.inj h2, h3] at h1
  rw [Option.some.inj h2, ← h1]
  unfold chunkB
  exact List.length_take_le _ _
end
end Go.Proofs.Ytmaehbebpldpcaa
