/-
  Digests: what DigestParts needs: sums, parts, Parse of a text, Write with what it leaves.
-/
import Derived.Test.YtlbiinkidecfbaaShaR
import Derived.Test.YtlbiinkidecfbaaShaQ
import Derived.Test.YtlbiinkidecfbaaRowsOpen
namespace Go.Proofs.Ytlbiinkidecfbaa
open Go.RowKit
def RIn (w : World) (a : Option Addr) (len cap : Nat) (rs : List BRow) : Prop := RowsIn w w.heap.size a len rs ∧ len ≤ cap ∧ cap ≤ maxLen
theorem open_rin {H : Type} {enc : TypeId × Value → H} {w : World} {held : Bool} {a : Option Addr} {len cap : Nat} {d : DataW H} {p : List MemPlace}
    (h : DataW.Trod enc Try.prog w 0 (fun _ => true) held 51 (.slice a len cap) d p) : ∃ rs, RIn w a len cap rs :=
  open_rows Try.underlying51 Try.underlying22 Try.underlying5 (by kernel_rfl) (by kernel_rfl) rfl h
/-! sums of lengths, and all bytes -/
def sumM (rs : List BRow) (k : Nat) : Nat := ((rs.take k).map fun r : BRow => min r.2.1 3001).sum
def allB (rs : List BRow) (k : Nat) : List UInt8 := (rs.take k).flatMap fun r : BRow => r.2.2.2
theorem take_succ_of {α : Type} {l : List α} {k : Nat} {x : α} (h : l[k]? = some x) : l.take (k + 1) = l.take k ++ [x] := by
  obtain ⟨hk, rfl⟩ := List.getElem?_eq_some_iff.1 h
  exact List.take_succ_eq_append_getElem hk
theorem sumM_succ {rs : List BRow} {k : Nat} {r : BRow} (h : rs[k]? = some r) : sumM rs (k + 1) = sumM rs k + min r.2.1 3001 := by simp [sumM, take_succ_of h]
theorem allB_succ {rs : List BRow} {k : Nat} {r : BRow} (h : rs[k]? = some r) : allB rs (k + 1) = allB rs k ++ r.2.2.2 := by simp [allB, take_succ_of h]
theorem sumM_le {rs : List BRow} : ∀ (d k : Nat), k + d ≤ rs.length → sumM rs k ≤ sumM rs (k + d)
  | 0, _, _ => Nat.le_refl _
  | d + 1, k, h => by
    have h1 := sumM_le (rs := rs) d k (by omega)
    have h2 := sumM_succ (List.getElem?_eq_getElem (l := rs) (show k + d < rs.length by omega))
    rw [← Nat.add_assoc, h2]
    omega
theorem allB_len {rs : List BRow} (hl : ∀ r ∈ rs, r.2.2.2.length = r.2.1) (hm : sumM rs rs.length ≤ 3000) : ∀ k, k ≤ rs.length → (allB rs k).length = sumM rs k
  | 0, _ => rfl
  | k + 1, h => by
    have hk : rs[k]? = some rs[k] := List.getElem?_eq_getElem (by omega)
    have h1 := sumM_succ hk
    have h2 := sumM_le (rs := rs) (rs.length - (k + 1)) (k + 1) (by omega)
    rw [show k + 1 + (rs.length - (k + 1)) = rs.length by omega] at h2
    have h3 := hl _ (List.getElem_mem (l := rs) (show k < rs.length by omega))
    rw [allB_succ hk, List.length_append, allB_len hl hm k (by omega), h1, h3]
    omega
/-! the number at the end of a pad -/
def mAt (n t : Nat) : Nat := n * 8 / 256 ^ (8 - t)
theorem mAt_step (n t : Nat) (ht : t < 8) : ∃ x, x < 256 ∧ (padL n)[(padL n).length - 8 + t]? = some x ∧ mAt n (t + 1) = mAt n t * 256 + x := by
  have hi : (padL n)[(padL n).length - 8 + t]? = (tailL n)[t]? := by
    rw [pad_len, padL_eq, show zerosN n + 9 - 8 + t = (zerosN n + t) + 1 by omega, List.getElem?_cons_succ, List.getElem?_append_right (by simp)]
    simp
  rw [hi]
  rcases (show t = 0 ∨ t = 1 ∨ t = 2 ∨ t = 3 ∨ t = 4 ∨ t = 5 ∨ t = 6 ∨ t = 7 by omega) with rfl | rfl | rfl | rfl | rfl | rfl | rfl | rfl <;>
    exact ⟨_, Nat.mod_lt _ (by decide), rfl, by simp only [mAt]; omega⟩
theorem mAt_0 (n : Nat) (h : n ≤ 3000) : mAt n 0 = 0 := by simp only [mAt]; omega
theorem mAt_8 (n : Nat) : mAt n 8 = n * 8 := by simp only [mAt]; omega
theorem mAt_le (n t : Nat) : mAt n t ≤ n * 8 := Nat.div_le_self _ _
theorem pad_first (n : Nat) : (padL n)[0]? = some 128 := rfl
/-! what is printed is parsed back -/
theorem half_sign : ∀ y, y < 16 → halfN (sign8 y).toNat = some y := by decide
theorem hexL_at {ds : List Nat} {k x : Nat} (h : ds[k]? = some x) : (hexL ds)[2 * k]? = some (sign8 (x / 16)) ∧ (hexL ds)[2 * k + 1]? = some (sign8 (x % 16)) := by
  obtain ⟨hk, rfl⟩ := List.getElem?_eq_some_iff.1 h
  have e : hexL ds = hexL (ds.take k) ++ (sign8 (ds[k] / 16) :: sign8 (ds[k] % 16) :: hexL (ds.drop (k + 1))) := by
    have e2 : ds = ds.take k ++ ds[k] :: ds.drop (k + 1) := by rw [← List.drop_eq_getElem_cons hk, List.take_append_drop]
    generalize ds[k] = y at e2
    generalize ds.take k = p at e2
    generalize ds.drop (k + 1) = q at e2
    subst e2
    simp [hexL]
  have hl : (hexL (ds.take k)).length = 2 * k := by rw [hexL_len, List.length_take]; omega
  rw [e]
  constructor
  · rw [List.getElem?_append_right (by omega), hl, Nat.sub_self]; rfl
  · rw [List.getElem?_append_right (by omega), hl, show 2 * k + 1 - 2 * k = 1 by omega]; rfl
theorem parse_hex {ds : List Nat} (hl : ds.length = 32) (hb : ∀ x ∈ ds, x < 256) : parsed (hexL ds) = (ds, 0) := by
  have key : ∀ k, k ≤ 32 → parseK (hexL ds) k = some (ds.take k) := by
    intro k
    induction k with
    | zero => intro _; rfl
    | succ k ih =>
      intro hk
      have hx : ds[k]? = some ds[k] := List.getElem?_eq_getElem (by omega)
      have hxb := hb _ (List.getElem_mem (l := ds) (show k < ds.length by omega))
      obtain ⟨h1, h2⟩ := hexL_at hx
      rw [take_succ_of hx]
      refine parseK_yes (ih (by omega)) ?_
      rw [digitN, List.getD_eq_getElem?_getD, List.getD_eq_getElem?_getD, h1, h2]
      simp only [Option.getD_some]
      rw [half_sign _ (by omega), half_sign _ (by omega)]
      simp only [Option.some.injEq]
      omega
  have h := key 32 (Nat.le_refl _)
  rw [List.take_of_length_le (by omega)] at h
  exact parsed_some h
/-! Write, and what it leaves -/
/-- The hash at block g holds this slice of these bytes. -/
structure Hx (base g : Nat) (A : Option Addr) (n c : Nat) (l : List UInt8) (W : World) : Prop where
  cell : W.cell? ⟨g, 0, none⟩ = some (.slice A n c)
  fr : W.frozen? ⟨g, 0, none⟩ = false
  own : BOwn W base A n c l
  ne : ∀ j, (Value.slice A n c).ownBlock = some j → j ≠ g
  lt : g < W.heap.size
  hb : base ≤ g
theorem Hx.hsh {base g : Nat} {A : Option Addr} {n c : Nat} {l : List UInt8} {W : World} (h : Hx base g A n c l W) : Hsh base g l W := ⟨⟨A, n, c, h.cell, h.own, h.ne⟩, h.fr, h.lt, h.hb⟩
theorem Hx.keep {base g : Nat} {A : Option Addr} {n c : Nat} {l : List UInt8} {W W' : World} (h : Hx base g A n c l W) (hz : W.heap.size ≤ W'.heap.size) (hg : W'.heap[g]? = W.heap[g]?) (hk : ∀ j, (Value.slice A n c).ownBlock = some j → W'.heap[j]? = W.heap[j]?) : Hx base g A n c l W' :=
  ⟨(World.cell?_of_block (a := ⟨g, 0, none⟩) hg).trans h.cell, by have := h.fr; simp only [World.frozen?, hg] at this ⊢; exact this, h.own.keep hk, h.ne, Nat.lt_of_lt_of_le h.lt hz, h.hb⟩
set_option maxHeartbeats 1000000 in
theorem hwrite_x (base g : Nat) (A1 : Option Addr) (n1 c1 : Nat) (l : List UInt8) (B : Nat) (A : Option Addr) (n c : Nat) (b : List UInt8) (w : World) (hh : Hx base g A1 n1 c1 l w) (hr : BReads w B A n b) (hn : l.length + n ≤ 1000000) :
    Calls Try.prog 9 #[.pointer (some ⟨g, 0, none⟩), .slice A n c] w fun e w' => ∃ A2 c2, e = .returned (.int .i64 0) ∧ Hx base g A2 (n1 + n) c2 (l ++ b) w' ∧ Below base w w' ∧
      ((Value.slice A2 (n1 + n) c2).ownBlock = (Value.slice A1 n1 c1).ownBlock ∨ (Value.slice A2 (n1 + n) c2).ownBlock = some w.heap.size) ∧
      ∀ j, j < w.heap.size → j ≠ g → (Value.slice A1 n1 c1).ownBlock ≠ some j → w'.heap[j]? = w.heap[j]? := by
  have h1 := hh.cell
  have HF := hh.fr
  have HLT := hh.lt
  have HBG := hh.hb
  have HL := Lib.hid hh.own.len
  have HO := Lib.hid hh.own
  have HNE := Lib.hid hh.ne
  clear hh
  go_enter Try.func9, Try.ntmps9
  go_wp2_with (at_builtin
               refine wpList_app rfl (.tmp 11) (.tmp 12) rfl base A1 n1 c1 l rfl HO.out B A n c b rfl hr (n1 + n) (l ++ b) rfl rfl (by have := HL.out; omega) (by omega) ?_
               intro A2 c2 w2 ho2 hg2 hat2
               have hgb : w2.heap[g]? = w.heap[g]? := hg2.block g HLT (fun e => HNE.out g e.symm rfl)
               have hc2 : w2.cell? ⟨g, 0, none⟩ = some (.slice A1 n1 c1) := (World.cell?_of_block hgb).trans h1
               have hf2 : w2.frozen? ⟨g, 0, none⟩ = false := by simp only [World.frozen?, hgb] at HF ⊢; exact HF
               have hz2 := hg2.size
               have HO2 := Lib.hid ho2
               have HAT := Lib.hid hat2
               have HG2 := Lib.hid hg2
               clear hgb ho2 hat2 hg2)
  go_ret
  have hbl : ∀ j, (Value.slice A2 (n1 + n) c2).ownBlock = some j → j ≠ g := fun j hj => by
    rcases HAT.out with e | e
    · exact HNE.out j (e ▸ hj)
    · rw [e] at hj; injection hj with hj; omega
  refine ⟨A2, c2, rfl, ⟨World.cell?_setCell_same' _ _ _ (by rw [hc2]; rfl), by rw [World.frozen?_setCell]; exact hf2, HO2.out.keep fun j hj => Below.heap_setCell w2 _ _ j (hbl j hj), hbl, by simp [World.setCell]; omega, HBG⟩, ?_, HAT.out, fun j hj hjg hjo => ?_⟩
  · exact ((Below.refl base w).grown HG2.out (by omega) (fun j hj => (HO.out.base_le j hj).1)).setCell HBG _
  · exact (Below.heap_setCell w2 _ _ j hjg).trans (HG2.out.block j hj fun e => hjo e.symm)
end Go.Proofs.Ytlbiinkidecfbaa
