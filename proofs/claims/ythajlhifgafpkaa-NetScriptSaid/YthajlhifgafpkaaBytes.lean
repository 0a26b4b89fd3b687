/-
  Bytes: appends onto a row of the call's own, strings made of bytes; the leaves Own and Clone.
-/
import Derived.Test.YthajlhifgafpkaaBase
import Derived.Lib.AppendStr
import Derived.Lib.ConvBytes
import Derived.Laws.BytesArg
import Derived.OpenShut
import Derived.Test.YthajlhifgafpkaaChecked
namespace Go.Proofs.Ythajlhifgafpkaa
open Go.RowKit
open Go.Lib

theorem info_u8 : (Try.prog.info? 5).map (fun i => (i.zero, i.size, i.bytes)) = some (some (.int .u8 0), 1, 1) := by kernel_rfl

/-- An owned row of bytes. -/
def BOwn (w : World) (base : Nat) (A : Option Addr) (n c : Nat) (l : List UInt8) : Prop := w.ownsRow base 5 1 (.slice A n c) n (l.map u8v) ∧ n ≤ c
theorem BOwn.len {w : World} {base n c : Nat} {A : Option Addr} {l : List UInt8} (h : BOwn w base A n c l) : l.length = n := by
  have := h.1.1; simpa using this
theorem BOwn.reads {w : World} {base n c : Nat} {A : Option Addr} {l : List UInt8} (h : BOwn w base A n c l) : BReads w w.heap.size A n l := Reads.of_own h.1
theorem BOwn.nil_ (w : World) (base : Nat) : BOwn w base none 0 0 [] := ⟨World.ownsRow_nil w base _ 1, Nat.le_refl _⟩
theorem BOwn.alloc {w : World} {base n c : Nat} {A : Option Addr} {l : List UInt8} (h : BOwn w base A n c l) (o : Obj) : BOwn (w.alloc o) base A n c l := ⟨h.1.alloc o, h.2⟩
theorem BOwn.drew {w : World} {base n c : Nat} {A : Option Addr} {l : List UInt8} (h : BOwn w base A n c l) : BOwn w.drew base A n c l := ⟨h.1.drew, h.2⟩
/-- The row's block, where it has one, lies from base on. -/
theorem BOwn.base_le {w : World} {base n c : Nat} {A : Option Addr} {l : List UInt8} (h : BOwn w base A n c l) : ∀ k, (Value.slice A n c).ownBlock = some k → base ≤ k ∧ k < w.heap.size := h.1.lt
theorem BOwn.down {w : World} {base base' n c : Nat} {A : Option Addr} {l : List UInt8} (h : BOwn w base A n c l) (hb : base' ≤ base) : BOwn w base' A n c l := by
  refine ⟨⟨h.1.1, ?_⟩, h.2⟩
  rcases h.1.2 with hn | ⟨g, cap, cur, e, hg, rest⟩
  · exact .inl hn
  · exact .inr ⟨g, cap, cur, e, Nat.le_trans hb hg, rest⟩

/-- What was made from base on stands while nothing below the heap of then is written. -/
theorem BOwn.below {w w' : World} {base n c : Nat} {A : Option Addr} {l : List UInt8} (h : BOwn w base A n c l) (hb : Below w.heap.size w w') : BOwn w' base A n c l := by
  refine ⟨⟨h.1.1, ?_⟩, h.2⟩
  rcases h.1.2 with hn | ⟨g, cap, cur, e, hg, hh, rest⟩
  · exact .inl hn
  · exact .inr ⟨g, cap, cur, e, hg, (hb.block g (Array.getElem?_eq_some_iff.1 hh).1).trans hh, rest⟩

/-- A row that is not empty has a block. -/
theorem BOwn.addr {w : World} {base n c : Nat} {A : Option Addr} {l : List UInt8} (h : BOwn w base A n c l) (hn : 0 < n) : ∃ g, A = some ⟨g, 0, none⟩ ∧ base ≤ g ∧ g < w.heap.size := by
  obtain ⟨g, cap, hv, hb, hlt⟩ := h.1.form hn
  have hA : A = some ⟨g, 0, none⟩ := by injection hv
  exact ⟨g, hA, hb, hlt⟩
theorem BOwn.cell {w : World} {base n c g j : Nat} {l : List UInt8} {b : UInt8} (h : BOwn w base (some ⟨g, 0, none⟩) n c l) (hb : l[j]? = some b) : w.cell? ⟨g, j, none⟩ = some (.int .u8 (b.toNat : Int)) := by
  have hj : j < n := by
    rw [← h.len]
    exact (List.getElem?_eq_some_iff.1 hb).1
  rw [h.1.cellAt j (by omega), List.getElem?_map, hb]
  rfl
theorem BOwn.free {w : World} {base n c g : Nat} {l : List UInt8} (h : BOwn w base (some ⟨g, 0, none⟩) n c l) (j : Nat) : w.frozen? ⟨g, j, none⟩ = false := h.1.frozenAt j
theorem BOwn.set_ {w : World} {base n c g : Nat} {l : List UInt8} (h : BOwn w base (some ⟨g, 0, none⟩) n c l) (j : Nat) (b : UInt8) : BOwn (w.setCell ⟨g, j, none⟩ (.int .u8 (b.toNat : Int))) base (some ⟨g, 0, none⟩) n c (l.set j b) := by
  refine ⟨?_, h.2⟩
  have := (h.1.stored j (u8v b)).1
  rwa [← List.map_set] at this
/-- A slice over one new cell. -/
theorem BReads.one (w : World) (z : Int) (b : UInt8) (hz : z = (b.toNat : Int)) : BReads (w.alloc (.cells #[.int .u8 z] 5)) (w.heap.size + 1) (some ⟨w.heap.size, 0, none⟩) 1 [b] := by
  subst hz
  refine ⟨rfl, fun _ => ⟨_, rfl, Nat.lt_succ_self _, fun j u hu => ?_⟩⟩
  have hj : j = 0 := by
    rcases j with _ | j
    · rfl
    · simp at hu
  subst hj
  simp [u8v] at hu
  subst hu
  rw [add_zero, World.cell?_alloc_at _ _ _ _ rfl]
  rfl

section
variable {ops : Array Oper} {rest : List Oper} {o : Oper} {a : Act} {Q : Exit → Act → World → Prop} {w : World}
theorem wpList_app (hgd : o.guard = none) (s x : Operand)
    (ho : o.op = .call { callee := .builtin .append, args := #[s, x], argTypes := #[22, 22] })
    (base : Nat) (A : Option Addr) (n c : Nat) (xs : List UInt8) (hs : a.eval s = .slice A n c) (hown : BOwn w base A n c xs)
    (B : Nat) (D : Option Addr) (m d : Nat) (l : List UInt8) (hx : a.eval x = .slice D m d) (hr : BReads w B D m l)
    (N : Nat) (L : List UInt8) (hN : n + m = N) (hL : xs ++ l = L) (hlen : N ≤ 140737488355328) (hbase : base ≤ w.heap.size)
    (h : ∀ A' c' w', BOwn w' base A' N c' L → w.grownBy w' (Value.slice A n c).ownBlock → ((Value.slice A' N c').ownBlock = (Value.slice A n c).ownBlock ∨ (Value.slice A' N c').ownBlock = some w.heap.size) →
      wpList Try.prog ops Q rest (a.put o.dst (.slice A' N c')) w') : wpList Try.prog ops Q (o :: rest) a w := by
  subst hN hL
  obtain ⟨i0, hi, hz0, hz1, hz2⟩ := info_parts info_u8
  refine wpList_append_any w hgd s x 22 ho base 5 i0 (.int .u8 0) 1 1 Try.underlying22 hi hz0 hz1 hz2 rfl (by decide) (.slice A n c) n (xs.map u8v) hs hown.1 B D m d (l.map u8v) hx hr (oneCell_u8 l)
    (by simp only [maxLen]; omega) (by omega) hbase ?_
  intro v' w' hown' hg hat
  obtain ⟨A', c', rfl, hc⟩ := own_shape hown'
  exact h A' c' w' ⟨by rw [List.map_append]; exact hown', hc⟩ hg hat
theorem strCells_map (s : ByteArray) : strCells s = s.data.toList.map u8v := rfl
theorem wpList_app_str (hgd : o.guard = none) (s x : Operand)
    (ho : o.op = .call { callee := .builtin .append, args := #[s, x], argTypes := #[22, 9] })
    (base : Nat) (A : Option Addr) (n c : Nat) (xs : List UInt8) (hs : a.eval s = .slice A n c) (hown : BOwn w base A n c xs)
    (p : ByteArray) (hx : a.eval x = .string p)
    (N : Nat) (L : List UInt8) (hN : n + p.size = N) (hL : xs ++ p.data.toList = L) (hlen : N ≤ 140737488355328) (hbase : base ≤ w.heap.size)
    (h : ∀ A' c' w', BOwn w' base A' N c' L → w.grownBy w' (Value.slice A n c).ownBlock →
      wpList Try.prog ops Q rest (a.put o.dst (.slice A' N c')) w') : wpList Try.prog ops Q (o :: rest) a w := by
  subst hN hL
  obtain ⟨i0, hi, hz0, hz1, hz2⟩ := info_parts info_u8
  refine wpList_append_own_string w hgd s x 22 9 ho base 5 i0 Try.underlying22 Try.underlying9 hi hz0 hz1 hz2 (.slice A n c) n (xs.map u8v) hs hown.1 p hx
    (by simp only [maxLen]; omega) (by omega) hbase ?_
  intro v' w' hown' hg _
  obtain ⟨A', c', rfl, hc⟩ := own_shape hown'
  exact h A' c' w' ⟨by rw [List.map_append, ← strCells_map]; exact hown', hc⟩ hg
end

/-- string(b). -/
theorem run_str {w : World} {B n c : Nat} {A : Option Addr} {l : List UInt8} (hr : BReads w B A n l) :
    (convert 22 9 (.slice A n c)).run Try.prog w = .ok (.string ⟨l.toArray⟩) w := by
  have hl := hr.len
  rcases Nat.eq_zero_or_pos n with h0 | h0
  · subst h0
    obtain rfl : l = [] := List.eq_nil_of_length_eq_zero hl
    rcases A with _ | ⟨b, o, s⟩
    · exact run_convert_bytes_nil w _ _ Try.underlying22 Try.underlying5 0 c _ Try.underlying9
    · rw [run_convert_bytes_string w _ _ _ _ 0 c Try.underlying22 Try.underlying5 Try.underlying9, run_bytesToString w _ 0 c [] (by simp [loadCells, loadCellsFrom])]
      rfl
  · obtain ⟨ad, rfl, _, hc⟩ := hr.2 h0
    have hl2 : (loadCells ad n).run Try.prog w = .ok ((l.map fun c => (c.toNat : Int)).map (Value.int .u8)).toArray w := by
      have := run_loadCells_list (P := Try.prog) w ad (l.map u8v) (fun j v hj => hc j v hj)
      rw [List.length_map, hl] at this
      rw [this]
      congr 2
      rw [List.map_map]
      rfl
    rw [run_convert_bytes_string w _ _ _ _ n c Try.underlying22 Try.underlying5 Try.underlying9, run_bytesToString w _ n c _ hl2, foldl_push_bytes]
    have e : (l.map fun c => (c.toNat : Int)).map (fun n => UInt8.ofNat n.toNat) = l := by
      rw [List.map_map]
      conv => rhs; rw [← List.map_id l]
      exact List.map_congr_left fun c _ => by simp
    rw [e]
    simp [ByteArray.empty, ByteArray.emptyWithCapacity]
    rfl

theorem BOwn.empty (w : World) : BOwn (w.alloc (.cells #[] 5)) w.heap.size (some ⟨w.heap.size, 0, none⟩) 0 0 [] :=
  ⟨⟨by simp, .inr ⟨w.heap.size, 0, #[], rfl, Nat.le_refl _, heap_alloc_new w _, Nat.le_refl _, by decide, rfl, rfl⟩⟩, Nat.le_refl _⟩
theorem below_app {B base n c : Nat} {A : Option Addr} {xs : List UInt8} {a w w' : World} (h : Below B a w) (hg : w.grownBy w' (Value.slice A n c).ownBlock) (ho : BOwn w base A n c xs) (hB : B ≤ base) (hs : B ≤ w.heap.size) : Below B a w' :=
  h.grown hg hs fun k hk => Nat.le_trans hB (ho.base_le k hk).1

/-- A slice of bytes that came in. -/
theorem reads_of_row {w : World} {a : Option Addr} {len cap : Nat} {zs : List Int}
    (h : (a = none ∧ len = 0 ∧ cap = 0 ∧ zs = []) ∨ ∃ x, a = some x ∧ len ≤ cap ∧ cap ≤ maxLen ∧ zs.length = cap ∧ (∀ i, i < zs.length → w.cell? (x.add i) = some (.int .u8 (zs.getD i 0))) ∧ ∀ n ∈ zs, (Lit.int .u8 n).wf = true) :
    ∃ l, BReads w w.heap.size a len l ∧ len ≤ cap ∧ cap ≤ maxLen := by
  rcases h with ⟨rfl, rfl, rfl, rfl⟩ | ⟨x, rfl, hlc, hcm, hz, hc, hw⟩
  · exact ⟨[], Reads.none_, Nat.le_refl _, by decide⟩
  · refine ⟨(zs.take len).map fun n => UInt8.ofNat n.toNat, ⟨by simp; omega, fun hn => ⟨x, rfl, ?_, fun j u hu => ?_⟩⟩, hlc, hcm⟩
    · have := World.block_lt_of_cell? w _ (hc 0 (by omega))
      rwa [add_zero] at this
    · rw [List.map_map, List.getElem?_map, List.getElem?_take] at hu
      split at hu
      · rename_i hj
        have hjz : j < zs.length := by omega
        rw [List.getElem?_eq_getElem hjz] at hu
        simp only [Option.map_some, Option.some.injEq, Function.comp] at hu
        subst hu
        rw [hc j hjz, List.getD_eq_getElem?_getD, List.getElem?_eq_getElem hjz]
        have hb := bounds_u8 (hw _ (List.getElem_mem hjz))
        simp only [Option.getD_some, u8v, UInt8.toNat_ofNat']
        congr 2
        omega
      · cases hu

set_option maxHeartbeats 400000 in
theorem own_any (B : Nat) (A : Option Addr) (n c : Nat) (l : List UInt8) (w : World) (hr : BReads w B A n l) (hB : B ≤ w.heap.size) (hn : n ≤ 140737488355328) :
    Calls Try.prog 13 #[.slice A n c] w fun e w' => ∃ A' c', e = .returned (.slice A' n c') ∧ BOwn w' w.heap.size A' n c' l ∧ Below w.heap.size w w' := by
  go_enter Try.func13, Try.ntmps13
  go_wp2_with (at_builtin; refine wpList_app rfl (.tmp 3) (.tmp 4) rfl w.heap.size (some ⟨w.heap.size, 0, none⟩) 0 0 [] rfl (BOwn.empty w) B A n c l rfl (Reads.alloc hr hB _) n l (by omega) rfl hn (by simp) ?_; intro A1 c1 w1 hown1 hg1 _)
  go_ret
  exact ⟨A1, c1, rfl, hown1, below_app ((Below.refl _ _).alloc (Nat.le_refl _) _) hg1 (BOwn.empty w) (Nat.le_refl _) (by simp)⟩

set_option maxHeartbeats 400000 in
theorem clone_any (B : Nat) (A : Option Addr) (n c : Nat) (l : List UInt8) (w : World) (hr : BReads w B A n l) (hB : B ≤ w.heap.size) (hn : n ≤ 140737488355328) :
    Calls Try.prog 38 #[.slice A n c] w fun e w' => ∃ A' c', e = .returned (.slice A' n c') ∧ BOwn w' w.heap.size A' n c' l ∧ Below w.heap.size w w' := by
  have heq := fun w => Lib.run_eql_slice_nil (P := Try.prog) w 22 5 A n c 0 0 Try.underlying22
  rcases A with _ | ad
  · have h0 : n = 0 := by
      rcases Nat.eq_zero_or_pos n with h | h
      · exact h
      · obtain ⟨_, h, _⟩ := hr.2 h
        cases h
    subst h0
    obtain rfl : l = [] := List.eq_nil_of_length_eq_zero hr.len
    go_enter Try.func38, Try.ntmps38
    go_wp2
    go_ret
    exact ⟨none, 0, rfl, BOwn.nil_ _ _, Below.refl _ _⟩
  · go_enter Try.func38, Try.ntmps38
    go_wp2_with (at_builtin; refine wpList_app rfl (.tmp 5) (.tmp 6) rfl w.heap.size (some ⟨w.heap.size, 0, none⟩) 0 0 [] rfl (BOwn.empty w) B (some ad) n c l rfl (Reads.alloc hr hB _) n l (by omega) rfl hn (by simp) ?_; intro A1 c1 w1 hown1 hg1 _)
    go_ret
    exact ⟨A1, c1, rfl, hown1, below_app ((Below.refl _ _).alloc (Nat.le_refl _) _) hg1 (BOwn.empty w) (Nat.le_refl _) (by simp)⟩
end Go.Proofs.Ythajlhifgafpkaa
