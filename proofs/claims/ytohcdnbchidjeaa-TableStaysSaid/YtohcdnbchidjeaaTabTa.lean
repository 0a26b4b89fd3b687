/-
  TableStays: Pick; pairs swapped in a row of the call's own.
-/
import Derived.Test.YtohcdnbchidjeaaTabOr
import Derived.Test.YtohcdnbchidjeaaTextE
namespace Go.Proofs.Ytohcdnbchidjeaa
open Go.RowKit
def PickPost (m : Int) (w : World) (e : Ending) (w' : World) : Prop := ∃ p : Nat, (p : Int) < m ∧ e = .returned (.int .i64 (p : Int)) ∧ w = w'
set_option maxHeartbeats 1000000 in
theorem pick_v (z m : Int) (w : World) (h1 : 1 ≤ m) (hm : m ≤ 1000000) :
    Calls Try.prog 23 #[.int .i64 z, .int .i64 m] w (PickPost m w) := by
  have a1 := Int.tmod_lt_of_pos z (show 0 < m by omega)
  have a2 : -m < z.tmod m := by
    have := Int.tmod_lt_of_pos (-z) (show 0 < m by omega)
    rw [Int.neg_tmod] at this
    omega
  have hm0 : m ≠ 0 := by omega
  have hmb : (m == 0) = false := by rw [beq_eq_false_iff_ne]; exact hm0
  have hmd : ¬ m = 0 := hm0
  by_cases hs : z.tmod m < 0
  · obtain ⟨p, hp⟩ : ∃ p : Nat, z.tmod m + m = (p : Int) := ⟨(z.tmod m + m).toNat, by omega⟩
    have HP := Lib.hid hp
    have HL := Lib.hid (show (p : Int) < m by omega)
    clear hp
    go_enter Try.func23, Try.ntmps23
    go_wp2
    go_ret
    exact ⟨p, HL.out, ret_int HP.out, rfl⟩
  · have hs' : 0 ≤ z.tmod m := by omega
    obtain ⟨p, hp⟩ : ∃ p : Nat, z.tmod m = (p : Int) := ⟨(z.tmod m).toNat, by omega⟩
    have HP := Lib.hid hp
    have HL := Lib.hid (show (p : Int) < m by omega)
    clear hp
    go_enter Try.func23, Try.ntmps23
    go_wp2
    go_ret
    exact ⟨p, HL.out, ret_int HP.out, rfl⟩
def kvCells (W : World) (ad : Addr) (i : Nat) (x : P3) : World :=
  ((W.setCell (ad.add (i * 3)) (.string x.1)).setCell ⟨(ad.add (i * 3)).block, (ad.add (i * 3)).off + 1, none⟩ (.string x.2.1)).setCell ⟨(ad.add (i * 3)).block, (ad.add (i * 3)).off + 2, none⟩ (.bool x.2.2)
theorem addr_ne {a : Addr} {k : Nat} (hk : 0 < k) : (⟨a.block, a.off + k, none⟩ : Addr) ≠ a := fun e => by
  have := congrArg Addr.off e
  simp only [] at this
  omega
theorem kv1 (W : World) (a : Addr) (u : Value) : (W.setCell a u).cell? ⟨a.block, a.off + 1, none⟩ = W.cell? ⟨a.block, a.off + 1, none⟩ := World.cell?_setCell_other W _ _ _ (addr_ne (k := 1) (by omega)).symm
theorem kv2 (W : World) (a : Addr) (u u' : Value) : ((W.setCell a u).setCell ⟨a.block, a.off + 1, none⟩ u').cell? ⟨a.block, a.off + 2, none⟩ = W.cell? ⟨a.block, a.off + 2, none⟩ :=
  (World.cell?_setCell_other _ _ _ _ (fun e => by injection e with _ e _; omega)).trans (World.cell?_setCell_other W _ _ _ (addr_ne (k := 2) (by omega)).symm)
theorem p3sC_set : ∀ (l : List P3) (i : Nat) (x : P3), i < l.length → (((p3sC l).set (i * 3) (.string x.1)).set (i * 3 + 1) (.string x.2.1)).set (i * 3 + 2) (.bool x.2.2) = p3sC (l.set i x)
  | [], i, x, h => by simp at h
  | y :: l, 0, x, _ => by simp [p3sC_cons]
  | y :: l, i + 1, x, h => by
    have ih := p3sC_set l i x (by simpa using h)
    rw [show (i + 1) * 3 = i * 3 + 1 + 1 + 1 by omega]
    simp only [p3sC_cons, List.set_cons_succ]
    rw [show i * 3 + 1 + 1 = i * 3 + 2 from rfl, ih]
theorem POwn.store3 {W : World} {base n c : Nat} {ad : Addr} {l : List P3} (h : POwn W base (some ad) n c l) {i : Nat} (hi : i < n) (x : P3) :
    POwn (kvCells W ad i x) base (some ad) n c (l.set i x) ∧ Below base W (kvCells W ad i x) ∧ (kvCells W ad i x).heap.size = W.heap.size := by
  obtain ⟨g, cap, hv, hb, hlt⟩ := h.1.form (by omega)
  obtain rfl : ad = ⟨g, 0, none⟩ := by injection hv with e; injection e
  have hadd : (⟨g, 0, none⟩ : Addr).add (i * 3) = ⟨g, i * 3, none⟩ := by unfold Addr.add; split <;> simp_all
  unfold kvCells
  rw [hadd]
  obtain ⟨h1, _⟩ := h.1.stored (i * 3) (.string x.1)
  obtain ⟨h2, _⟩ := h1.stored (i * 3 + 1) (.string x.2.1)
  obtain ⟨h3, _⟩ := h2.stored (i * 3 + 2) (.bool x.2.2)
  rw [p3sC_set l i x (by rw [h.len]; exact hi)] at h3
  exact ⟨⟨h3, h.2⟩, (((Below.refl _ _).setCell hb _).setCell hb _).setCell hb _, by simp⟩
theorem POwn.frozen3 {W : World} {base n c : Nat} {ad : Addr} {l : List P3} (h : POwn W base (some ad) n c l) {i : Nat} (hi : i < n) :
    W.frozen? (ad.add (i * 3)) = false ∧ W.frozen? ⟨(ad.add (i * 3)).block, (ad.add (i * 3)).off + 1, none⟩ = false ∧ W.frozen? ⟨(ad.add (i * 3)).block, (ad.add (i * 3)).off + 2, none⟩ = false := by
  obtain ⟨g, cap, hv, hb, hlt⟩ := h.1.form (by omega)
  obtain rfl : ad = ⟨g, 0, none⟩ := by injection hv with e; injection e
  have hadd : (⟨g, 0, none⟩ : Addr).add (i * 3) = ⟨g, i * 3, none⟩ := by unfold Addr.add; split <;> simp_all
  rw [hadd]
  exact ⟨h.1.frozenAt _, h.1.frozenAt _, h.1.frozenAt _⟩
/-- Two places of a list change. -/
def swapL (l : List KV) (i k : Nat) (x y : KV) : List KV := (l.set i y).set k x
/-- A shuffle of the pairs of a table. -/
def Shuf (l L : List KV) : Prop := l.length = L.length ∧ (∀ (a b : Nat) (x y : KV), l[a]? = some x → l[b]? = some y → a ≠ b → x.1 ≠ y.1) ∧ ∀ x, x ∈ l ↔ x ∈ L
theorem swap_at {l : List KV} {i k : Nat} {x y : KV} (hi : l[i]? = some x) (hk : l[k]? = some y) (a : Nat) : (swapL l i k x y)[a]? = l[if a = i then k else if a = k then i else a]? := by
  have hil := (List.getElem?_eq_some_iff.1 hi).1
  have hkl := (List.getElem?_eq_some_iff.1 hk).1
  unfold swapL
  rw [List.getElem?_set, List.length_set, List.getElem?_set]
  by_cases h1 : k = a
  · subst h1
    rw [if_pos rfl, if_pos hkl]
    by_cases h2 : k = i
    · subst h2
      rw [if_pos rfl]
      exact hi.symm
    · rw [if_neg h2, if_pos rfl, hi]
  · rw [if_neg h1]
    by_cases h2 : i = a
    · subst h2
      rw [if_pos rfl, if_pos hil, if_pos rfl, hk]
    · rw [if_neg h2, if_neg (Ne.symm h2), if_neg (Ne.symm h1)]
theorem Shuf.swap {l L : List KV} {i k : Nat} {x y : KV} (h : Shuf l L) (hi : l[i]? = some x) (hk : l[k]? = some y) : Shuf (swapL l i k x y) L := by
  refine ⟨by unfold swapL; rw [List.length_set, List.length_set]; exact h.1, fun a b u v hu hv hab => ?_, fun u => ?_⟩
  · rw [swap_at hi hk] at hu hv
    refine h.2.1 _ _ u v hu hv ?_
    intro e
    apply hab
    split at e <;> split at e <;> (try split at e) <;> (try split at e) <;> omega
  · rw [← h.2.2 u]
    constructor
    · intro hm
      obtain ⟨a, ha⟩ := List.mem_iff_getElem?.1 hm
      rw [swap_at hi hk] at ha
      exact List.mem_of_getElem? ha
    · intro hm
      obtain ⟨a, ha⟩ := List.mem_iff_getElem?.1 hm
      refine List.mem_of_getElem? (i := if a = i then k else if a = k then i else a) ?_
      rw [swap_at hi hk]
      rw [← ha]
      congr 1
      by_cases h1 : a = i
      · subst h1
        rw [if_pos rfl]
        by_cases h2 : k = a
        · rw [if_pos h2, h2]
        · rw [if_neg h2, if_pos rfl]
      · rw [if_neg h1]
        by_cases h2 : a = k
        · rw [if_pos h2, if_pos rfl, h2]
        · rw [if_neg h2, if_neg h1, if_neg h2]
theorem once_of : ∀ {l : List KV}, (∀ (a b : Nat) (x y : KV), l[a]? = some x → l[b]? = some y → a ≠ b → x.1 ≠ y.1) → once l
  | [], _ => trivial
  | z :: l, h => ⟨fun y hy => by
      obtain ⟨b, hb⟩ := List.mem_iff_getElem?.1 hy
      exact h (b + 1) 0 y z (by simpa using hb) rfl (by omega), once_of fun a b x y hx hy hab => h (a + 1) (b + 1) x y (by simpa using hx) (by simpa using hy) (by omega)⟩
theorem Shuf.refl {L : List KV} (h : asc L) : Shuf L L := by
  refine ⟨rfl, fun a b x y hx hy hab => ?_, fun _ => Iff.rfl⟩
  rcases Nat.lt_or_gt_of_ne hab with h1 | h1
  · exact klt_ne (asc_at h h1 hx hy)
  · exact (klt_ne (asc_at h h1 hy hx)).symm
theorem Shuf.of {l : List KV} {T : Tr} (h : Shuf l T.flat) (hg : good T) : ofT (pvs l) = T :=
  good_unique (ofT_good (pvs l)).1 hg (by rw [(ofT_good (pvs l)).2]; exact ofL_same (once_of h.2.1) hg.1 h.2.2)
theorem pvs_set (l : List KV) (i : Nat) (x : KV) : (pvs l).set i (pv x) = pvs (l.set i x) := by unfold pvs; rw [List.map_set]
end Go.Proofs.Ytohcdnbchidjeaa
