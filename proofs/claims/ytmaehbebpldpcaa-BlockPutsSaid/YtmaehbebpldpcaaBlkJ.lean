/-
  Blocks, in plain Lean: the blocks of a file, and of its parts; digests appended.
-/
import Derived.Test.YtmaehbebpldpcaaBlkI
namespace Go.Proofs.Ytmaehbebpldpcaa
open Go.RowKit Go.Shelf
theorem chunkN_many {m Z : Nat} (hZ : 0 < Z) : 1024 < chunkN m Z ↔ 1024 * Z < m := chunk_lt hZ
theorem chunkN_end {m Z : Nat} (hZ : 0 < Z) : m ≤ chunkN m Z * Z := by
  have h := chunk_lt (n := m) (k := chunkN m Z) hZ
  omega
theorem cutP_of {L : List UInt8} {m Z : Nat} (hl : L.length = m) (hZ : 0 < Z) (hZ2 : Z ≤ 65536) (hm : m ≤ 4194304) : cutP L (Z : Int) = if 1024 < chunkN m Z then (3, 0, 0, []) else (0, (Z : Int), (m : Int), cutL L Z) := by
  unfold cutP
  rw [if_neg (by omega), if_neg (by omega), hl, if_neg (by omega), chunkN_int m Z hZ]
  by_cases h : 1024 < chunkN m Z
  · rw [if_pos (by omega), if_pos h]
  · rw [if_neg (by omega), if_neg h, Int.toNat_natCast]
theorem cutL_len {L : List UInt8} {m Z : Nat} (hl : L.length = m) : (cutL L Z).length = chunkN m Z := by simp [cutL, hl]
theorem cutL_at {L : List UInt8} {m Z k : Nat} (hl : L.length = m) (hk : k < chunkN m Z) : (cutL L Z)[k]? = some (dgOf (chunkB L Z k)) := by
  unfold cutL
  rw [hl, List.getElem?_map, List.getElem?_range hk]
  rfl
theorem chk_of {m Z : Nat} (hZ : 0 < Z) (hZ2 : Z ≤ 65536) (hm : m ≤ 4194304) (hN : chunkN m Z ≤ 1024) : chk (Z : Int) (m : Int) (chunkN m Z) = 0 := by
  unfold chk
  rw [if_neg (by omega), if_neg (by omega), if_neg (by omega), if_neg (by omega), if_neg (by omega), chunkN_int m Z hZ, if_pos rfl]
theorem toP_nat (m Z k : Nat) : toP (Z : Int) (m : Int) (k : Int) = ((min m ((k + 1) * Z) : Nat) : Int) := by
  unfold toP
  rw [show ((k : Int) + 1) * (Z : Int) = (((k + 1) * Z : Nat) : Int) by rw [Int.natCast_mul, Int.natCast_add]; rfl]
  omega
theorem atP_of {m Z k : Nat} (hZ : 0 < Z) (hZ2 : Z ≤ 65536) (hm : m ≤ 4194304) (hN : chunkN m Z ≤ 1024) (hk : k < chunkN m Z) : atP (Z : Int) (m : Int) (chunkN m Z) (k : Int) = (((k * Z : Nat) : Int), ((min m ((k + 1) * Z) : Nat) : Int), true) := by
  unfold atP
  rw [if_pos ⟨chk_of hZ hZ2 hm hN, by omega, by omega⟩, toP_nat, Int.natCast_mul]
theorem atP_end {m Z : Nat} : atP (Z : Int) (m : Int) (chunkN m Z) (chunkN m Z : Int) = (0, 0, false) := by
  unfold atP
  rw [if_neg (fun h => by omega)]
theorem chunkB_len {L : List UInt8} {m Z k : Nat} (hl : L.length = m) (hk : k * Z < m) : (chunkB L Z k).length = min m ((k + 1) * Z) - k * Z := by
  unfold chunkB
  rw [List.length_take, List.length_drop, hl, Nat.succ_mul]
  omega
theorem fits_cut {L : List UInt8} {m Z k : Nat} (hl : L.length = m) (hZ : 0 < Z) (hZ2 : Z ≤ 65536) (hm : m ≤ 4194304) (hN : chunkN m Z ≤ 1024) (hk : k < chunkN m Z) : fitsP (Z : Int) (m : Int) (cutL L Z) (k : Int) (chunkB L Z k) = 0 := by
  have hkz := (chunk_lt hZ).1 hk
  unfold fitsP
  rw [cutL_len hl, if_neg (by simp [chk_of hZ hZ2 hm hN]), atP_of hZ hZ2 hm hN hk, if_neg (by simp), Int.toNat_natCast, cutL_at hl hk, chunkB_len hl hkz, if_pos]
  refine ⟨?_, rfl⟩
  simp only []
  rw [Nat.succ_mul]
  omega
theorem whole_cut {L : List UInt8} {m Z : Nat} (hl : L.length = m) (hZ : 0 < Z) (hZ2 : Z ≤ 65536) (hm : m ≤ 4194304) (hN : chunkN m Z ≤ 1024) : wholeP (Z : Int) (m : Int) (cutL L Z) L = true := by
  unfold wholeP
  rw [cutL_len hl]
  exact decide_eq_true ⟨chk_of hZ hZ2 hm hN, by rw [hl], by rw [Int.toNat_natCast]⟩
theorem chunkN_split {m Z q : Nat} (hZ : 0 < Z) (hq : q * Z ≤ m) : chunkN m Z = q + chunkN (m - q * Z) Z := by
  unfold chunkN
  have : m + Z - 1 = (m - q * Z + Z - 1) + q * Z := by omega
  rw [this, Nat.add_mul_div_right _ _ hZ, Nat.add_comm]
theorem chunkN_full {Z q : Nat} (hZ : 0 < Z) : chunkN (q * Z) Z = q := by
  rw [chunkN_split hZ (Nat.le_refl _), Nat.sub_self]
  unfold chunkN
  rw [Nat.zero_add, Nat.div_eq_of_lt (by omega)]
  rfl
theorem cutL_append {L : List UInt8} {m Z q : Nat} (hl : L.length = m) (hZ : 0 < Z) (hq : q * Z ≤ m) : cutL (L.take (q * Z)) Z ++ cutL (L.drop (q * Z)) Z = cutL L Z := by
  unfold cutL
  rw [List.length_take, List.length_drop, hl, Nat.min_eq_left hq, chunkN_full hZ, chunkN_split hZ hq, List.range_add, List.map_append, List.map_map]
  congr 1
  · apply List.map_congr_left
    intro k hk
    have hk := List.mem_range.1 hk
    have h2 : k * Z + Z ≤ q * Z := by rw [← Nat.succ_mul]; exact Nat.mul_le_mul_right Z hk
    simp only [chunkB]
    rw [List.drop_take, List.take_take, Nat.min_eq_left (by omega)]
  · apply List.map_congr_left
    intro k _
    simp only [chunkB, Function.comp]
    rw [List.drop_drop, Nat.add_mul]
/-- A row of digests of the call's own. -/
def DOwn (w : World) (base : Nat) (A : Option Addr) (n c : Nat) (ds : List Dg) : Prop := w.ownsRow base 59 32 (.slice A n c) n (ds.flatMap Dg.cells)
theorem DOwn.reads {w : World} {base n c : Nat} {A : Option Addr} {ds : List Dg} (h : DOwn w base A n c ds) : DReads w w.heap.size A n ds := Reads.of_own h
theorem DOwn.empty (w : World) : DOwn (w.alloc (.cells #[] 59)) w.heap.size (some ⟨w.heap.size, 0, none⟩) 0 0 [] :=
  ⟨by simp, .inr ⟨w.heap.size, 0, #[], rfl, Nat.le_refl _, heap_alloc_new w _, Nat.le_refl _, by decide, rfl, rfl⟩⟩
theorem one_dgs (ds : List Dg) : ∀ u ∈ ds.flatMap Dg.cells, u.oneCell' = true := by
  intro u hu
  obtain ⟨d, _, hd⟩ := List.mem_flatMap.1 hu
  exact d.one u hd
theorem wp_dapp {o : Oper} {a : Act} {w : World} {K : Act → World → Prop} {Q : Exit → Act → World → Prop} (s x : Operand)
    (ho : o.op = .call { callee := .builtin .append, args := #[s, x], argTypes := #[22, 22] })
    (base : Nat) (A : Option Addr) (n c : Nat) (ds : List Dg) (hs : a.eval s = .slice A n c) (hown : DOwn w base A n c ds)
    (B : Nat) (D : Option Addr) (m d : Nat) (es : List Dg) (hx : a.eval x = .slice D m d) (hr : DReads w B D m es)
    (hlen : n + m ≤ 1000000) (hbase : base ≤ w.heap.size)
    (h : ∀ A' c' w', DOwn w' base A' (n + m) c' (ds ++ es) → w.grownBy w' (Value.slice A n c).ownBlock → K (a.put o.dst (.slice A' (n + m) c')) w') : o.wp Try.prog a w K Q := by
  obtain ⟨i0, hi, hz0, hz1, hz2⟩ := info_parts info_dg
  refine wp_append_any w s x 22 ho base 59 i0 _ 32 32 Try.underlying22 hi hz0 hz1 hz2 rfl (by decide) (.slice A n c) n (ds.flatMap Dg.cells) hs hown B D m d (es.flatMap Dg.cells) hx hr (one_dgs es)
    (by simp only [maxLen]; omega) (by omega) hbase ?_
  intro v' w' hown' hg _
  obtain ⟨A', c', rfl, _⟩ := own_shape hown'
  exact h A' c' w' (by unfold DOwn; rw [List.flatMap_append]; exact hown') hg
theorem below_dapp {B base n c : Nat} {A : Option Addr} {ds : List Dg} {a w w' : World} (h : Below B a w) (hg : w.grownBy w' (Value.slice A n c).ownBlock) (ho : DOwn w base A n c ds) (hB : B ≤ base) (hs : B ≤ w.heap.size) : Below B a w' :=
  h.grown hg hs (fun k hk => Nat.le_trans hB (ho.lt k hk).1)
end Go.Proofs.Ytmaehbebpldpcaa
