/-
  Nets, the reference: how a net lies in memory; New, fine, link.
-/
import Derived.Test.YthajlhifgafpkaaNetZm
namespace Go.Proofs.Ythajlhifgafpkaa
open Go.RowKit Go.Shelf
structure Lk where
  a : Int
  b : Int
  up : Bool
  run : Nat
def Lk.cells (l : Lk) : List Value := [.int .i64 l.a, .int .i64 l.b, .bool l.up, .int .u64 (l.run : Int)]
theorem Lk.cells_len (l : Lk) : l.cells.length = 4 := rfl
def Lk.is (k : Int × Int) (l : Lk) : Bool := l.a == k.1 && l.b == k.2
/-- What is noted of a link: the first one of this name. -/
def rlook (k : Int × Int) : List Lk → Option (Bool × Nat)
  | [] => none
  | l :: r => if l.is k = true then some (l.up, l.run) else rlook k r
theorem rlook_at {k : Int × Int} : ∀ {LL : List Lk} {i : Nat} {l : Lk}, LL[i]? = some l → l.is k = true → (∀ j x, j < i → LL[j]? = some x → x.is k = false) → rlook k LL = some (l.up, l.run)
  | [], i, l, h, _, _ => by simp at h
  | y :: r, 0, l, h, h2, _ => by
    simp only [List.getElem?_cons_zero, Option.some.injEq] at h
    subst h
    rw [rlook, if_pos h2]
  | y :: r, i + 1, l, h, h2, h3 => by
    rw [rlook, if_neg (by rw [h3 0 y (by omega) rfl]; decide)]
    exact rlook_at (by simpa using h) h2 fun j x hj hx => h3 (j + 1) x (by omega) (by simpa using hx)
theorem rlook_none {k : Int × Int} : ∀ {LL : List Lk}, (∀ x ∈ LL, x.is k = false) → rlook k LL = none
  | [], _ => rfl
  | y :: r, h => by rw [rlook, if_neg (by rw [h y List.mem_cons_self]; decide), rlook_none fun x hx => h x (List.mem_cons_of_mem _ hx)]
theorem rlook_app (k : Int × Int) : ∀ (LL : List Lk) (l : Lk), rlook k (LL ++ [l]) = (rlook k LL).or (if l.is k = true then some (l.up, l.run) else none)
  | [], l => by simp [rlook]
  | y :: r, l => by
    rw [List.cons_append, rlook, rlook]
    split
    · rfl
    · exact rlook_app k r l
/-- The first one of a name is set. -/
theorem rlook_set {k q : Int × Int} {v : Lk} : ∀ {LL : List Lk} {i : Nat} {l : Lk}, LL[i]? = some l → l.is k = true → (∀ j x, j < i → LL[j]? = some x → x.is k = false) → v.a = l.a → v.b = l.b → rlook q (LL.set i v) = if q = k then some (v.up, v.run) else rlook q LL
  | [], i, l, h, _, _, _, _ => by simp at h
  | y :: r, 0, l, h, h2, _, ha, hb => by
    simp only [List.getElem?_cons_zero, Option.some.injEq] at h
    subst h
    have e : ∀ q, v.is q = y.is q := fun q => by unfold Lk.is; rw [ha, hb]
    rw [List.set_cons_zero, rlook, rlook, e]
    simp only [Lk.is, Bool.and_eq_true, beq_iff_eq] at h2 ⊢
    by_cases hq : q = k
    · subst hq
      rw [if_pos h2, if_pos rfl]
    · have hn : ¬ (y.a = q.1 ∧ y.b = q.2) := fun h => hq (Prod.ext (h.1.symm.trans h2.1) (h.2.symm.trans h2.2))
      rw [if_neg hn, if_neg hq, if_neg hn]
  | y :: r, i + 1, l, h, h2, h3, ha, hb => by
    have h0 := h3 0 y (by omega) rfl
    rw [List.set_cons_succ, rlook, rlook, rlook_set (LL := r) (i := i) (l := l) (by simpa using h) h2 (fun j x hj hx => h3 (j + 1) x (by omega) (by simpa using hx)) ha hb]
    by_cases hy : y.is q = true
    · rw [if_pos hy, if_pos hy, if_neg (fun e => by subst e; rw [h0] at hy; cases hy)]
    · rw [if_neg hy, if_neg hy]
/-- A net of the reference at g. -/
structure RN (W : World) (base g : Nat) (AL : Option Addr) (nl cl : Nat) (LL : List Lk) (A : Option Addr) (n c : Nat) (vs : List PkV) (s : NS) : Prop where
  hg : W.heap[g]? = some (.cells #[.slice AL nl cl, .slice A n c, .int .u64 (s.last : Int)] 84 (0, 0))
  hl : W.ownsRow base 87 4 (.slice AL nl cl) nl (LL.flatMap Lk.cells)
  hlc : nl ≤ cl
  hk : ∀ k, (rlook k LL).getD (false, 0) = s.link k
  hf : PkRow W base A n c vs
  hv : vs.map (·.pk) = s.fl
  b1 : base ≤ g
/-- What a call leaves as it was. -/
structure RCh (g : Nat) (AL : Option Addr) (nl cl : Nat) (A : Option Addr) (n c : Nat) (AL' : Option Addr) (nl' cl' : Nat) (A' : Option Addr) (n' c' : Nat) (W W' : World) : Prop where
  size : W.heap.size ≤ W'.heap.size
  blk : ∀ j, j < W.heap.size → j ≠ g → (Value.slice AL nl cl).ownBlock ≠ some j → (Value.slice A n c).ownBlock ≠ some j → W'.heap[j]? = W.heap[j]?
  ownl : ∀ j, (Value.slice AL' nl' cl').ownBlock = some j → (Value.slice AL nl cl).ownBlock = some j ∨ W.heap.size ≤ j
  own : ∀ j, (Value.slice A' n' c').ownBlock = some j → (Value.slice A n c).ownBlock = some j ∨ W.heap.size ≤ j
section
variable {W W' W'' : World} {base g nl cl n c nl' cl' n' c' nl'' cl'' n'' c'' : Nat} {AL A AL' A' AL'' A'' : Option Addr} {LL : List Lk} {vs : List PkV} {s : NS}
theorem RCh.refl (g : Nat) (AL : Option Addr) (nl cl : Nat) (A : Option Addr) (n c : Nat) (W : World) : RCh g AL nl cl A n c AL nl cl A n c W W := ⟨Nat.le_refl _, fun _ _ _ _ _ => rfl, fun _ h => .inl h, fun _ h => .inl h⟩
theorem RCh.below (hb : Below W.heap.size W W') (g : Nat) (AL : Option Addr) (nl cl : Nat) (A : Option Addr) (n c : Nat) : RCh g AL nl cl A n c AL nl cl A n c W W' := ⟨hb.size, fun j hj _ _ _ => hb.block j hj, fun _ h => .inl h, fun _ h => .inl h⟩
theorem RCh.trans (h : RCh g AL nl cl A n c AL' nl' cl' A' n' c' W W') (k : RCh g AL' nl' cl' A' n' c' AL'' nl'' cl'' A'' n'' c'' W' W'') : RCh g AL nl cl A n c AL'' nl'' cl'' A'' n'' c'' W W'' := by
  refine ⟨Nat.le_trans h.size k.size, fun j hj h1 h2 h3 => ?_, fun j hj => ?_, fun j hj => ?_⟩
  · refine (k.blk j (Nat.lt_of_lt_of_le hj h.size) h1 (fun e => ?_) (fun e => ?_)).trans (h.blk j hj h1 h2 h3)
    · rcases h.ownl j e with e2 | e2
      · exact h2 e2
      · omega
    · rcases h.own j e with e2 | e2
      · exact h3 e2
      · omega
  · rcases k.ownl j hj with e | e
    · exact h.ownl j e
    · exact .inr (Nat.le_trans h.size e)
  · rcases k.own j hj with e | e
    · exact h.own j e
    · exact .inr (Nat.le_trans h.size e)
theorem RN.lt (h : RN W base g AL nl cl LL A n c vs s) : g < W.heap.size := (Array.getElem?_eq_some_iff.1 h.hg).1
theorem RN.keep (h : RN W base g AL nl cl LL A n c vs s) (hk : ∀ j, j < W.heap.size → W'.heap[j]? = W.heap[j]?) : RN W' base g AL nl cl LL A n c vs s :=
  ⟨(hk g h.lt).trans h.hg, own_keep h.hl fun j hj => hk j (h.hl.lt j hj).2, h.hlc, h.hk, h.hf.keep (fun j hj => hk j (h.hf.base_le j hj).2) (fun v hv j hj => hk j (h.hf.blt v hv j hj).2), h.hv, h.b1⟩
theorem RN.below (h : RN W base g AL nl cl LL A n c vs s) (hb : Below W.heap.size W W') : RN W' base g AL nl cl LL A n c vs s := h.keep fun j hj => hb.block j hj
theorem RN.drewN (h : RN W base g AL nl cl LL A n c vs s) (q : Nat) : RN (W.drewN q) base g AL nl cl LL A n c vs s := h.keep fun _ _ => rfl
theorem RN.c0 (h : RN W base g AL nl cl LL A n c vs s) : W.cell? ⟨g, 0, none⟩ = some (.slice AL nl cl) := by rw [cell_of_row W g 0 _ _ _ h.hg]; rfl
theorem RN.c1 (h : RN W base g AL nl cl LL A n c vs s) : W.cell? ⟨g, 1, none⟩ = some (.slice A n c) := by rw [cell_of_row W g 1 _ _ _ h.hg]; rfl
theorem RN.c2 (h : RN W base g AL nl cl LL A n c vs s) : W.cell? ⟨g, 2, none⟩ = some (.int .u64 (s.last : Int)) := by rw [cell_of_row W g 2 _ _ _ h.hg]; rfl
theorem RN.fr (h : RN W base g AL nl cl LL A n c vs s) (j : Nat) : W.frozen? ⟨g, j, none⟩ = false := frozen_of_row W g j _ _ h.hg
theorem RN.llen (h : RN W base g AL nl cl LL A n c vs s) : LL.length = nl := by
  have h1 := h.hl.1
  rw [flat_len Lk.cells_len] at h1
  omega
theorem RN.len (h : RN W base g AL nl cl LL A n c vs s) : s.fl.length = n := by rw [← h.hv, List.length_map, h.hf.len]
theorem own_cells' {W : World} {base K n : Nat} {e : TypeId} {v : Value} {xs : List Value} (h : W.ownsRow base e K v n xs) {j : Nat} (hj : v.ownBlock = some j) : ∃ cur, W.heap[j]? = some (.cells cur e (0, 0)) := by
  rcases h.2 with ⟨hn, _⟩ | ⟨g, cap, cur, ev, hg, hh, rest⟩
  · rw [hn] at hj; simp [Value.ownBlock] at hj
  · rw [ev] at hj
    simp [Value.ownBlock] at hj
    subst hj
    exact ⟨cur, hh⟩
/-- The blocks of a net of the reference are apart, by their kinds. -/
theorem RN.apart (h : RN W base g AL nl cl LL A n c vs s) : (Value.slice AL nl cl).ownBlock ≠ some g ∧ (Value.slice A n c).ownBlock ≠ some g ∧ (∀ j, (Value.slice AL nl cl).ownBlock = some j → (Value.slice A n c).ownBlock ≠ some j) ∧
    ∀ v ∈ vs, ∀ j, (Value.slice v.a v.len v.cap).ownBlock = some j → j ≠ g ∧ (Value.slice AL nl cl).ownBlock ≠ some j ∧ (Value.slice A n c).ownBlock ≠ some j := by
  refine ⟨fun e => ?_, fun e => ?_, fun j e e2 => ?_, fun v hv j hj => ⟨fun e => ?_, fun e => ?_, fun e => ?_⟩⟩
  · obtain ⟨cur, hc⟩ := own_cells' h.hl e
    rw [h.hg] at hc
    simp at hc
  · obtain ⟨cur, hc⟩ := h.hf.isCells e
    rw [h.hg] at hc
    simp at hc
  · obtain ⟨cur, hc⟩ := own_cells' h.hl e
    obtain ⟨cur2, hc2⟩ := h.hf.isCells e2
    rw [hc] at hc2
    simp at hc2
  · obtain ⟨cur, hc⟩ := (h.hf.bytes v hv).1.isCells hj
    rw [e, h.hg] at hc
    simp at hc
  · obtain ⟨cur, hc⟩ := (h.hf.bytes v hv).1.isCells hj
    obtain ⟨cur2, hc2⟩ := own_cells' h.hl e
    rw [hc] at hc2
    simp at hc2
  · obtain ⟨cur, hc⟩ := (h.hf.bytes v hv).1.isCells hj
    obtain ⟨cur2, hc2⟩ := h.hf.isCells e
    rw [hc] at hc2
    simp at hc2
theorem RN.lat (h : RN W base g AL nl cl LL A n c vs s) {k : Nat} (hk : k < nl) : ∃ gl l, AL = some ⟨gl, 0, none⟩ ∧ base ≤ gl ∧ gl < W.heap.size ∧ LL[k]? = some l ∧
    W.cell? ⟨gl, k * 4, none⟩ = some (.int .i64 l.a) ∧ W.cell? ⟨gl, k * 4 + 1, none⟩ = some (.int .i64 l.b) ∧ W.cell? ⟨gl, k * 4 + 2, none⟩ = some (.bool l.up) ∧ W.cell? ⟨gl, k * 4 + 3, none⟩ = some (.int .u64 (l.run : Int)) := by
  have hkl : k < LL.length := by rw [h.llen]; exact hk
  obtain ⟨gl, cap, hv, hb, hlt⟩ := h.hl.form (by omega)
  injection hv with hv
  subst hv
  have hcell : ∀ j u, j < 4 → (LL[k]).cells[j]? = some u → W.cell? ⟨gl, k * 4 + j, none⟩ = some u := fun j u hj hu => by
    have e := h.hl.cells (g := gl) rfl (k * 4 + j) u (by rw [flat_at Lk.cells_len LL (List.getElem?_eq_getElem hkl) hj]; exact hu)
    rw [add_lit2, Nat.zero_add] at e
    exact e
  exact ⟨gl, LL[k], rfl, hb, hlt, List.getElem?_eq_getElem hkl, hcell 0 _ (by omega) rfl, hcell 1 _ (by omega) rfl, hcell 2 _ (by omega) rfl, hcell 3 _ (by omega) rfl⟩
end
set_option maxHeartbeats 1000000 in
theorem rnew_v (w : World) : Calls Try.prog 27 #[] w fun e w' => e = .returned (.pointer (some ⟨w.heap.size, 0, none⟩)) ∧ RN w' w.heap.size w.heap.size none 0 0 [] none 0 0 [] NS.new ∧ Below w.heap.size w w' := by
  go_enter Try.func27, Try.ntmps27
  go_wp2_with fail
  go_ret
  exact ⟨rfl, ⟨heap_alloc_new w _, World.ownsRow_nil _ _ _ 4, Nat.le_refl _, fun _ => rfl, PkRow.nil_ _ _, rfl, Nat.le_refl _⟩, (Below.refl _ _).alloc (Nat.le_refl _) _⟩
set_option maxHeartbeats 2000000 in
theorem fine_v (a b : Int) (w : World) : Calls Try.prog 52 #[.int .i64 a, .int .i64 b] w fun e w' => e = .returned (.bool (okDev a b)) ∧ w = w' := by
  obtain ⟨r, hr⟩ : ∃ r, okDev a b = r := ⟨_, rfl⟩
  have HR := Lib.hid hr
  rw [hr]
  clear hr
  by_cases h1 : 1 ≤ a
  · have d1 : decide (1 ≤ a) = true := by simpa using h1
    by_cases h2 : a ≤ 16
    · have d2 : decide (a ≤ 16) = true := by simpa using h2
      by_cases h3 : 1 ≤ b
      · have d3 : decide (1 ≤ b) = true := by simpa using h3
        by_cases h4 : b ≤ 16
        · have d4 : decide (b ≤ 16) = true := by simpa using h4
          by_cases h5 : a = b
          · have d5 : (a != b) = false := by simpa using h5
            have HF := Lib.hid (show r = false by rw [← HR.out]; simp [okDev, h5])
            clear h5
            go_enter Try.func52, Try.ntmps52
            go_wp2_with fail
            go_ret
            exact ⟨by rw [HF.out]; rfl, rfl⟩
          · have d5 : (a != b) = true := by simpa using h5
            have HF := Lib.hid (show r = true by rw [← HR.out]; simp [okDev, h1, h2, h3, h4, h5])
            clear h5
            go_enter Try.func52, Try.ntmps52
            go_wp2_with fail
            go_ret
            exact ⟨by rw [HF.out]; rfl, rfl⟩
        · have d4 : decide (b ≤ 16) = false := by simpa using h4
          have HF := Lib.hid (show r = false by rw [← HR.out]; simp [okDev]; omega)
          clear h4
          go_enter Try.func52, Try.ntmps52
          go_wp2_with fail
          go_ret
          exact ⟨by rw [HF.out]; rfl, rfl⟩
      · have d3 : decide (1 ≤ b) = false := by simpa using h3
        have HF := Lib.hid (show r = false by rw [← HR.out]; simp [okDev]; omega)
        clear h3
        go_enter Try.func52, Try.ntmps52
        go_wp2_with fail
        go_ret
        exact ⟨by rw [HF.out]; rfl, rfl⟩
    · have d2 : decide (a ≤ 16) = false := by simpa using h2
      have HF := Lib.hid (show r = false by rw [← HR.out]; simp [okDev]; omega)
      clear h2
      go_enter Try.func52, Try.ntmps52
      go_wp2_with fail
      go_ret
      exact ⟨by rw [HF.out]; rfl, rfl⟩
  · have d1 : decide (1 ≤ a) = false := by simpa using h1
    have HF := Lib.hid (show r = false by rw [← HR.out]; simp [okDev]; omega)
    clear h1
    go_enter Try.func52, Try.ntmps52
    go_wp2_with fail
    go_ret
    exact ⟨by rw [HF.out]; rfl, rfl⟩
end Go.Proofs.Ythajlhifgafpkaa
