/-
  Bytes: appends onto a row of the call's own, strings made of bytes; the leaves Own and Clone.
  Paths, the reference: Temped, digits.
  Paths, the reference: Temped, number, Copy.
  Winner: are texts few?
  Winner, the reference: Place.
  Winner: a map of texts, and what is asked of it.
  Winner: WinnerCalls.
  Arrays of integers that came in, by value.
  Records that came in.
  Slices of records and of texts that came in.
  Cards: the wrap that keeps the world's shape beside a further premise.
  Cards: what the rows list gives the walk of WinnerCalls.
-/
import Derived.Test.YtndekohimfjdeaaGreatDoorJ1
import Derived.Test.YtndekohimfjdeaaGreatDoorJ2
import Derived.Test.YtndekohimfjdeaaGreatDoorJ3
import Derived.Test.YtndekohimfjdeaaGreatDoorJ4
import Derived.Test.YtndekohimfjdeaaGreatDoorJ5
import Derived.Test.YtndekohimfjdeaaGreatDoorJ6
import Derived.Lib.AppendStr
import Derived.Lib.ConvBytes
import Derived.Laws.BytesArg
import Derived.OpenShut
import Derived.Test.YtndekohimfjdeaaGreatDoorChecked
import Derived.Deep.RegionWith
import Derived.WideLaws
import Derived.StringKeys
import Derived.ChangeArms
import Derived.WideShapes
import Derived.Deep.Slices
import Derived.SizedLaws
import Derived.Test.YtndekohimfjdeaaGreatDoorRows
import Derived.Handed
import Derived.LaidMore
import Derived.Stop.Joined
import Derived.Stop.LaidErr
namespace Go.Proofs.YtndekohimfjdeaaGreatDoor
open Go.RowKit
open Go.Lib

theorem info_u8 : (Tryz.prog.info? 5).map (fun i => (i.zero, i.size, i.bytes)) = some (some (.int .u8 0), 1, 1) := by kernel_rfl

/-- An owned row of bytes. -/
def BOwn (w : World) (base : Nat) (A : Option Addr) (n c : Nat) (l : List UInt8) : Prop := w.ownsRow base 5 1 (.slice A n c) n (l.map u8v) ∧ n ≤ c
theorem BOwn.len {w : World} {base n c : Nat} {A : Option Addr} {l : List UInt8} (h : BOwn w base A n c l) : l.length = n := by
  have := h.1.1; simpa using this
theorem BOwn.reads {w : World} {base n c : Nat} {A : Option Addr} {l : List UInt8} (h : BOwn w base A n c l) : BReads w w.heap.size A n l := Reads.of_own h.1
theorem BOwn.nil_ (w : World) (base : Nat) : BOwn w base none 0 0 [] := ⟨World.ownsRow_nil w base _ 1, Nat.le_refl _⟩
theorem BOwn.alloc {w : World} {base n c : Nat} {A : Option Addr} {l : List UInt8} (h : BOwn w base A n c l) (o : Obj) : BOwn (w.alloc o) base A n c l := ⟨h.1.alloc o, h.2⟩
theorem BOwn.drew {w : World} {base n c : Nat} {A : Option Addr} {l : List UInt8} (h : BOwn w base A n c l) : BOwn w.drew base A n c l := ⟨h.1.drew, h.2⟩
/-- The row's block, where it has one, lies from base on. -/
theorem BOwn.base_le {w : World} {base n c : Nat} {A : Option Addr} {l : List UInt8} (h : BOwn w base A n c l) : ∀ k, (Value.slice A n c).ownBlock = some k → base ≤ k ∧ k < w.heap.size := h.1.lt
theorem BOwn.down {w : World} {base base' n c : Nat} {A : Option Addr} {l : List UInt8} (h : BOwn w base A n c l) (hb : base' ≤ base) : BOwn w base' A n c l := by
  refine ⟨⟨h.1.1, ?_⟩, h.2⟩
  rcases h.1.2 with hn | ⟨g, cap, cur, e, hg, rest⟩
  · exact .inl hn
  · exact .inr ⟨g, cap, cur, e, Nat.le_trans hb hg, rest⟩

/-- What was made from base on stands while nothing below the heap of then is written. -/
theorem BOwn.below {w w' : World} {base n c : Nat} {A : Option Addr} {l : List UInt8} (h : BOwn w base A n c l) (hb : Below w.heap.size w w') : BOwn w' base A n c l := by
  refine ⟨⟨h.1.1, ?_⟩, h.2⟩
  rcases h.1.2 with hn | ⟨g, cap, cur, e, hg, hh, rest⟩
  · exact .inl hn
  · exact .inr ⟨g, cap, cur, e, hg, (hb.block g (Array.getElem?_eq_some_iff.1 hh).1).trans hh, rest⟩

/-- A row that is not empty has a block. -/
theorem BOwn.addr {w : World} {base n c : Nat} {A : Option Addr} {l : List UInt8} (h : BOwn w base A n c l) (hn : 0 < n) : ∃ g, A = some ⟨g, 0, none⟩ ∧ base ≤ g ∧ g < w.heap.size := by
  obtain ⟨g, cap, hv, hb, hlt⟩ := h.1.form hn
  have hA : A = some ⟨g, 0, none⟩ := by injection hv
  exact ⟨g, hA, hb, hlt⟩
theorem BOwn.cell {w : World} {base n c g j : Nat} {l : List UInt8} {b : UInt8} (h : BOwn w base (some ⟨g, 0, none⟩) n c l) (hb : l[j]? = some b) : w.cell? ⟨g, j, none⟩ = some (.int .u8 (b.toNat : Int)) := by
  have hj : j < n := by
    rw [← h.len]
    exact (List.getElem?_eq_some_iff.1 hb).1
  rw [h.1.cellAt j (by omega), List.getElem?_map, hb]
  rfl
theorem BOwn.free {w : World} {base n c g : Nat} {l : List UInt8} (h : BOwn w base (some ⟨g, 0, none⟩) n c l) (j : Nat) : w.frozen? ⟨g, j, none⟩ = false := h.1.frozenAt j
theorem BOwn.set_ {w : World} {base n c g : Nat} {l : List UInt8} (h : BOwn w base (some ⟨g, 0, none⟩) n c l) (j : Nat) (b : UInt8) : BOwn (w.setCell ⟨g, j, none⟩ (.int .u8 (b.toNat : Int))) base (some ⟨g, 0, none⟩) n c (l.set j b) := by
  refine ⟨?_, h.2⟩
  have := (h.1.stored j (u8v b)).1
  rwa [← List.map_set] at this
/-- A slice over one new cell. -/
theorem BReads.one (w : World) (z : Int) (b : UInt8) (hz : z = (b.toNat : Int)) : BReads (w.alloc (.cells #[.int .u8 z] 5)) (w.heap.size + 1) (some ⟨w.heap.size, 0, none⟩) 1 [b] := by
  subst hz
  refine ⟨rfl, fun _ => ⟨_, rfl, Nat.lt_succ_self _, fun j u hu => ?_⟩⟩
  have hj : j = 0 := by
    rcases j with _ | j
    · rfl
    · simp at hu
  subst hj
  simp [u8v] at hu
  subst hu
  rw [add_zero, World.cell?_alloc_at _ _ _ _ rfl]
  rfl

section
variable {ops : Array Oper} {rest : List Oper} {o : Oper} {a : Act} {Q : Exit → Act → World → Prop} {w : World}
theorem wpList_app (hgd : o.guard = none) (s x : Operand)
    (ho : o.op = .call { callee := .builtin .append, args := #[s, x], argTypes := #[103, 103] })
    (base : Nat) (A : Option Addr) (n c : Nat) (xs : List UInt8) (hs : a.eval s = .slice A n c) (hown : BOwn w base A n c xs)
    (B : Nat) (D : Option Addr) (m d : Nat) (l : List UInt8) (hx : a.eval x = .slice D m d) (hr : BReads w B D m l)
    (N : Nat) (L : List UInt8) (hN : n + m = N) (hL : xs ++ l = L) (hlen : N ≤ 140737488355328) (hbase : base ≤ w.heap.size)
    (h : ∀ A' c' w', BOwn w' base A' N c' L → w.grownBy w' (Value.slice A n c).ownBlock → ((Value.slice A' N c').ownBlock = (Value.slice A n c).ownBlock ∨ (Value.slice A' N c').ownBlock = some w.heap.size) →
      wpList Tryz.prog ops Q rest (a.put o.dst (.slice A' N c')) w') : wpList Tryz.prog ops Q (o :: rest) a w := by
  subst hN hL
  obtain ⟨i0, hi, hz0, hz1, hz2⟩ := info_parts info_u8
  refine wpList_append_any w hgd s x 103 ho base 5 i0 (.int .u8 0) 1 1 Tryz.underlying103 hi hz0 hz1 hz2 rfl (by decide) (.slice A n c) n (xs.map u8v) hs hown.1 B D m d (l.map u8v) hx hr (oneCell_u8 l)
    (by simp only [maxLen]; omega) (by omega) hbase ?_
  intro v' w' hown' hg hat
  obtain ⟨A', c', rfl, hc⟩ := own_shape hown'
  exact h A' c' w' ⟨by rw [List.map_append]; exact hown', hc⟩ hg hat
theorem strCells_map (s : ByteArray) : strCells s = s.data.toList.map u8v := rfl
theorem wpList_app_str (hgd : o.guard = none) (s x : Operand)
    (ho : o.op = .call { callee := .builtin .append, args := #[s, x], argTypes := #[103, 9] })
    (base : Nat) (A : Option Addr) (n c : Nat) (xs : List UInt8) (hs : a.eval s = .slice A n c) (hown : BOwn w base A n c xs)
    (p : ByteArray) (hx : a.eval x = .string p)
    (N : Nat) (L : List UInt8) (hN : n + p.size = N) (hL : xs ++ p.data.toList = L) (hlen : N ≤ 140737488355328) (hbase : base ≤ w.heap.size)
    (h : ∀ A' c' w', BOwn w' base A' N c' L → w.grownBy w' (Value.slice A n c).ownBlock →
      wpList Tryz.prog ops Q rest (a.put o.dst (.slice A' N c')) w') : wpList Tryz.prog ops Q (o :: rest) a w := by
  subst hN hL
  obtain ⟨i0, hi, hz0, hz1, hz2⟩ := info_parts info_u8
  refine wpList_append_own_string w hgd s x 103 9 ho base 5 i0 Tryz.underlying103 Tryz.underlying9 hi hz0 hz1 hz2 (.slice A n c) n (xs.map u8v) hs hown.1 p hx
    (by simp only [maxLen]; omega) (by omega) hbase ?_
  intro v' w' hown' hg _
  obtain ⟨A', c', rfl, hc⟩ := own_shape hown'
  exact h A' c' w' ⟨by rw [List.map_append, ← strCells_map]; exact hown', hc⟩ hg
end

/-- string(b). -/
theorem run_str {w : World} {B n c : Nat} {A : Option Addr} {l : List UInt8} (hr : BReads w B A n l) :
    (convert 103 9 (.slice A n c)).run Tryz.prog w = .ok (.string ⟨l.toArray⟩) w := by
  have hl := hr.len
  rcases Nat.eq_zero_or_pos n with h0 | h0
  · subst h0
    obtain rfl : l = [] := List.eq_nil_of_length_eq_zero hl
    rcases A with _ | ⟨b, o, s⟩
    · exact run_convert_bytes_nil w _ _ Tryz.underlying103 Tryz.underlying5 0 c _ Tryz.underlying9
    · rw [run_convert_bytes_string w _ _ _ _ 0 c Tryz.underlying103 Tryz.underlying5 Tryz.underlying9, run_bytesToString w _ 0 c [] (by simp [loadCells, loadCellsFrom])]
      rfl
  · obtain ⟨ad, rfl, _, hc⟩ := hr.2 h0
    have hl2 : (loadCells ad n).run Tryz.prog w = .ok ((l.map fun c => (c.toNat : Int)).map (Value.int .u8)).toArray w := by
      have := run_loadCells_list (P := Tryz.prog) w ad (l.map u8v) (fun j v hj => hc j v hj)
      rw [List.length_map, hl] at this
      rw [this]
      congr 2
      rw [List.map_map]
      rfl
    rw [run_convert_bytes_string w _ _ _ _ n c Tryz.underlying103 Tryz.underlying5 Tryz.underlying9, run_bytesToString w _ n c _ hl2, foldl_push_bytes]
    have e : (l.map fun c => (c.toNat : Int)).map (fun n => UInt8.ofNat n.toNat) = l := by
      rw [List.map_map]
      conv => rhs; rw [← List.map_id l]
      exact List.map_congr_left fun c _ => by simp
    rw [e]
    simp [ByteArray.empty, ByteArray.emptyWithCapacity]
    rfl

theorem BOwn.empty (w : World) : BOwn (w.alloc (.cells #[] 5)) w.heap.size (some ⟨w.heap.size, 0, none⟩) 0 0 [] :=
  ⟨⟨by simp, .inr ⟨w.heap.size, 0, #[], rfl, Nat.le_refl _, heap_alloc_new w _, Nat.le_refl _, by decide, rfl, rfl⟩⟩, Nat.le_refl _⟩
theorem below_app {B base n c : Nat} {A : Option Addr} {xs : List UInt8} {a w w' : World} (h : Below B a w) (hg : w.grownBy w' (Value.slice A n c).ownBlock) (ho : BOwn w base A n c xs) (hB : B ≤ base) (hs : B ≤ w.heap.size) : Below B a w' :=
  h.grown hg hs fun k hk => Nat.le_trans hB (ho.base_le k hk).1

/-- A slice of bytes that came in. -/
theorem reads_of_row {w : World} {a : Option Addr} {len cap : Nat} {zs : List Int}
    (h : (a = none ∧ len = 0 ∧ cap = 0 ∧ zs = []) ∨ ∃ x, a = some x ∧ len ≤ cap ∧ cap ≤ maxLen ∧ zs.length = cap ∧ (∀ i, i < zs.length → w.cell? (x.add i) = some (.int .u8 (zs.getD i 0))) ∧ ∀ n ∈ zs, (Lit.int .u8 n).wf = true) :
    ∃ l, BReads w w.heap.size a len l ∧ len ≤ cap ∧ cap ≤ maxLen := by
  rcases h with ⟨rfl, rfl, rfl, rfl⟩ | ⟨x, rfl, hlc, hcm, hz, hc, hw⟩
  · exact ⟨[], Reads.none_, Nat.le_refl _, by decide⟩
  · refine ⟨(zs.take len).map fun n => UInt8.ofNat n.toNat, ⟨by simp; omega, fun hn => ⟨x, rfl, ?_, fun j u hu => ?_⟩⟩, hlc, hcm⟩
    · have := World.block_lt_of_cell? w _ (hc 0 (by omega))
      rwa [add_zero] at this
    · rw [List.map_map, List.getElem?_map, List.getElem?_take] at hu
      split at hu
      · rename_i hj
        have hjz : j < zs.length := by omega
        rw [List.getElem?_eq_getElem hjz] at hu
        simp only [Option.map_some, Option.some.injEq, Function.comp] at hu
        subst hu
        rw [hc j hjz, List.getD_eq_getElem?_getD, List.getElem?_eq_getElem hjz]
        have hb := bounds_u8 (hw _ (List.getElem_mem hjz))
        simp only [Option.getD_some, u8v, UInt8.toNat_ofNat']
        congr 2
        omega
      · cases hu


end Go.Proofs.YtndekohimfjdeaaGreatDoor

namespace Go.Proofs.YtndekohimfjdeaaGreatDoor
open Go.RowKit
theorem dec_small {n : Nat} (h : n < 10) : dec n = [UInt8.ofNat (48 + n)] := by
  unfold dec
  rw [Lib.decDigits, dif_pos h]
theorem dec_big {n : Nat} (h : ¬ n < 10) : dec n = dec (n / 10) ++ [UInt8.ofNat (48 + n % 10)] := by
  unfold dec
  conv => lhs; rw [Lib.decDigits, dif_neg h]
theorem BReads.litsm (w : World) (l : List UInt8) (cs : Array Value) (fr : Nat × Nat) (h : cs = (l.map u8v).toArray) : BReads (w.alloc (.cells cs 5 fr)) (w.heap.size + 1) (some ⟨w.heap.size, 0, none⟩) l.length l := by
  subst h
  refine ⟨by simp, fun _ => ⟨_, rfl, Nat.lt_succ_self _, fun j u hu => ?_⟩⟩
  have hp : ∀ j, (⟨w.heap.size, 0, none⟩ : Addr).add j = ⟨w.heap.size, j, none⟩ := fun j => by unfold Addr.add; split <;> simp_all
  rw [hp, World.cell?_alloc_mark]
  simpa using hu
theorem conv_new (w : World) (c : UInt8) : (convert 103 9 (.slice (some ⟨w.heap.size, 0, none⟩) 1 1)).run Tryz.prog (w.alloc (.cells #[.int .u8 (c.toNat : Int)] 5)) = .ok (.string (st [c])) (w.alloc (.cells #[.int .u8 (c.toNat : Int)] 5)) :=
  run_str (BReads.litsm w [c] _ _ rfl)
theorem conv_kept {w V : World} {c : UInt8} (h : Below (w.heap.size + 1) (w.alloc (.cells #[.int .u8 (c.toNat : Int)] 5)) V) : (convert 103 9 (.slice (some ⟨w.heap.size, 0, none⟩) 1 1)).run Tryz.prog V = .ok (.string (st [c])) V :=
  run_str (Reads.below (BReads.litsm w [c] _ _ rfl) h)
theorem conv_kept2 {w V : World} {c : UInt8} (h : Below (w.alloc (.cells #[.int .u8 (c.toNat : Int)] 5)).drew.heap.size (w.alloc (.cells #[.int .u8 (c.toNat : Int)] 5)).drew V) : (convert 103 9 (.slice (some ⟨w.heap.size, 0, none⟩) 1 1)).run Tryz.prog V = .ok (.string (st [c])) V :=
  conv_kept (((Below.refl (w.heap.size + 1) _).drew).trans (h.mono (by show w.heap.size + 1 ≤ (w.alloc (.cells #[.int .u8 (c.toNat : Int)] 5)).heap.size; simp)))
theorem below_fa {w V : World} (o : Obj) (b : Below w.drew.heap.size w.drew V) : Below w.heap.size w (V.alloc o) :=
  ((((Below.refl w.heap.size w).drew).trans b)).alloc b.size o
theorem below_fb {w V : World} {o : Obj} (b : Below (w.alloc o).drew.heap.size (w.alloc o).drew V) : Below w.heap.size w V :=
  ((((Below.refl w.heap.size w).alloc (Nat.le_refl _) o).drew)).trans (b.mono (by show w.heap.size ≤ (w.alloc o).heap.size; simp))
theorem conv_kept3 {w V : World} {c : UInt8} (h : Below (w.drew.alloc (.cells #[.int .u8 (c.toNat : Int)] 5)).heap.size (w.drew.alloc (.cells #[.int .u8 (c.toNat : Int)] 5)) V) : (convert 103 9 (.slice (some ⟨w.heap.size, 0, none⟩) 1 1)).run Tryz.prog V = .ok (.string (st [c])) V :=
  conv_kept (w := w.drew) (h.mono (by simp))
set_option maxRecDepth 100000 in
set_option maxHeartbeats 2000000 in
theorem rdigits_v (n : Nat) : ∀ (w : World), n ≤ 1000000 → Calls Tryz.prog 71 #[.int .i64 (n : Int)] w fun e w' => e = .returned (.string (st (dec n))) ∧ Below w.heap.size w w' := by
  induction n using Nat.strongRecOn with
  | _ n ih =>
  intro w hn
  by_cases h : n < 10
  · have HD := Lib.hid (dec_small h)
    obtain ⟨c, hc⟩ : ∃ c : UInt8, UInt8.ofNat (48 + n) = c := ⟨_, rfl⟩
    have hcn : ((48 + n : Nat) : Int) = (c.toNat : Int) := by rw [← hc, UInt8.toNat_ofNat']; omega
    rw [hc] at HD
    have e0 : (48 : Int) + (n : Int) = (c.toNat : Int) := by omega
    have e1 : IntKind.u8.wrap (c.toNat : Int) = (c.toNat : Int) := by have := c.toNat_lt; exact IntWalk.u8_in _ ⟨by omega, by omega⟩
    have cv := conv_new w c
    have d1 : decide ((n : Int) < 10) = true := decide_eq_true (by omega)
    clear h hc hcn ih
    go_enter Tryz.func71, Tryz.ntmps71
    go_wp2_with fail
    go_ret
    exact ⟨by rw [HD.out]; rfl, (Below.refl _ _).alloc (Nat.le_refl _) _⟩
  · have IH := Lib.hid (fun w => ih (n / 10) (by omega) w (by omega))
    have HD := Lib.hid (dec_big h)
    obtain ⟨c, hc⟩ : ∃ c : UInt8, UInt8.ofNat (48 + n % 10) = c := ⟨_, rfl⟩
    have hcn : ((48 + n % 10 : Nat) : Int) = (c.toNat : Int) := by rw [← hc, UInt8.toNat_ofNat']; omega
    rw [hc] at HD
    have hlen := dec_len (n := n / 10) (k := 7) (by decide) (by omega)
    obtain ⟨m, hm⟩ : ∃ m, n / 10 = m := ⟨_, rfl⟩
    rw [hm] at IH HD hlen
    obtain ⟨y, hy⟩ : ∃ y, dec m = y := ⟨_, rfl⟩
    rw [hy] at IH HD hlen
    have q1 : (n : Int).tdiv 10 = (m : Int) := by rw [Int.tdiv_eq_ediv_of_nonneg (by omega)]; omega
    have q2 : (n : Int).tmod 10 = ((n % 10 : Nat) : Int) := by rw [Int.tmod_eq_emod_of_nonneg (by omega)]; omega
    have e0 : (48 : Int) + ((n % 10 : Nat) : Int) = (c.toNat : Int) := by omega
    have e1 : IntKind.u8.wrap (c.toNat : Int) = (c.toNat : Int) := by have := c.toNat_lt; exact IntWalk.u8_in _ ⟨by omega, by omega⟩
    have e2 : st y ++ st [c] = st (y ++ [c]) := st_app y [c]
    have z1 : (st y).size ≤ 1000 := by rw [st_size]; omega
    have z2 : (st [c]).size ≤ 1000 := by rw [st_size]; simp
    have cv := conv_new w c
    have cw := conv_kept2 (w := w) (c := c) (Below.refl _ _)
    have d1 : decide ((n : Int) < 10) = false := decide_eq_false (by omega)
    have w1 : IntKind.i64.wrap (m : Int) = (m : Int) := IntWalk.i64_in _ ⟨by omega, by omega⟩
    have w2 : IntKind.i64.wrap (48 + (n : Int) % 10) = (c.toNat : Int) := by rw [IntWalk.i64_in _ ⟨by omega, by omega⟩]; omega
    clear h hc hcn hm hy ih
    go_enter Tryz.func71, Tryz.ntmps71
    go_upto_region 3 with fail
    go_region_with (first
      | (go_at_call 71; refine (IH.out _).mono ?_; rintro e V ⟨rfl, b⟩; have cv3 := conv_new V c; (try have cv2 := conv_kept2 (w := w) (c := c) b); (try have cv4 := conv_kept3 (w := w) (c := c) b)))
    all_goals (go_wp2_with fail)
    all_goals (go_ret)
    all_goals (refine ⟨by rw [HD.out]; rfl, ?_⟩)
    all_goals (first | exact below_fb b | exact below_fa _ b)
end Go.Proofs.YtndekohimfjdeaaGreatDoor

namespace Go.Proofs.YtndekohimfjdeaaGreatDoor
open Go.RowKit
theorem pre_take {p l : Bl} : p <+: l ↔ l.take p.length = p := by
  constructor
  · rintro ⟨t, rfl⟩
    exact List.take_left
  · intro h
    exact ⟨l.drop p.length, by conv => lhs; lhs; rw [← h]
                               rw [List.take_append_drop]⟩
theorem fold_lt : ∀ (l : Bl) (a : Nat), (∀ x ∈ l, dig x = true) → l.foldl (fun a c => a * 10 + (c.toNat - 48)) a < (a + 1) * 10 ^ l.length
  | [], a, _ => by simp
  | c :: l, a, h => by
    have h2 := dig_iff.1 (h c List.mem_cons_self)
    have h1 := fold_lt l (a * 10 + (c.toNat - 48)) fun x hx => h x (List.mem_cons_of_mem _ hx)
    rw [List.foldl_cons, List.length_cons, Nat.pow_succ]
    refine Nat.lt_of_lt_of_le h1 ?_
    rw [Nat.mul_comm (10 ^ l.length) 10, ← Nat.mul_assoc]
    exact Nat.mul_le_mul_right _ (by omega)
theorem numB_lt {l : Bl} (h : ∀ x ∈ l, dig x = true) : numB l < 10 ^ l.length := by
  have := fold_lt l 0 h
  rwa [Nat.zero_add, Nat.one_mul] at this
def numR (s : Bl) : Nat × Bool := if ∀ x ∈ s, dig x = true then (numB s, decide (s.length = 1) || decide (s.head? ≠ some 48)) else (0, false)
set_option maxRecDepth 100000 in
set_option maxHeartbeats 8000000 in
theorem rcopy_v (l : Bl) (d n : Int) (w : World) : Calls Tryz.prog 39 #[.string (st l), .int .i64 d, .int .i64 n] w fun e w' => e = .returned (.tuple #[.string (st (copyL l d n).1), .int .i64 ((copyL l d n).2 : Int)]) ∧ Below w.heap.size w w' := by
  have CV := prcheck_v l w
  obtain ⟨k, hk⟩ : ∃ k, checkL l = k := ⟨_, rfl⟩
  have HK := Lib.hid hk
  rw [hk] at CV
  clear hk
  have HC := Lib.hid (show copyL l d n = _ from rfl)
  go_enter Tryz.func39, Tryz.ntmps39
  go_wp2_with fail
  refine CV.mono ?_
  rintro e w1 ⟨rfl, b1⟩
  have B1 := Lib.hid b1
  clear b1 CV HC
  by_cases h : k = 0
  case neg =>
    have HS := Lib.hid (show copyL l d n = ([], k) by unfold copyL; rw [if_pos (by rw [HK.out]; exact h), HK.out])
    have d1 : ((k : Int) != 0) = true := by simp; omega
    clear h
    go_wp2_with fail
    go_returns
    exact ⟨by rw [HS.out]; rfl, B1.out⟩
  subst h
  have d1 : (((0 : Nat) : Int) != 0) = false := rfl
  have HBD : Hid ((d < 1 ∨ 99 < d ∨ n < 0 ∨ 999 < n) → copyL l d n = ([], 2)) := Lib.hid fun h => by unfold copyL; rw [if_neg (by rw [HK.out]; simp), if_pos h]
  by_cases a1 : d < 1
  · have HS := Lib.hid (HBD.out (.inl a1))
    have f1 : decide (d < 1) = true := decide_eq_true a1
    clear a1
    go_wp2_with fail
    go_returns
    exact ⟨by rw [HS.out]; rfl, B1.out⟩
  by_cases a2 : 99 < d
  · have HS := Lib.hid (HBD.out (.inr (.inl a2)))
    have f1 : decide (d < 1) = false := decide_eq_false a1
    have f2 : decide (99 < d) = true := decide_eq_true a2
    clear a1 a2
    go_wp2_with fail
    go_returns
    exact ⟨by rw [HS.out]; rfl, B1.out⟩
  by_cases a3 : n < 0
  · have HS := Lib.hid (HBD.out (.inr (.inr (.inl a3))))
    have f1 : decide (d < 1) = false := decide_eq_false a1
    have f2 : decide (99 < d) = false := decide_eq_false a2
    have f3 : decide (n < 0) = true := decide_eq_true a3
    clear a1 a2 a3
    go_wp2_with fail
    go_returns
    exact ⟨by rw [HS.out]; rfl, B1.out⟩
  by_cases a4 : 999 < n
  · have HS := Lib.hid (HBD.out (.inr (.inr (.inr a4))))
    have f1 : decide (d < 1) = false := decide_eq_false a1
    have f2 : decide (99 < d) = false := decide_eq_false a2
    have f3 : decide (n < 0) = false := decide_eq_false a3
    have f4 : decide (999 < n) = true := decide_eq_true a4
    clear a1 a2 a3 a4
    go_wp2_with fail
    go_returns
    exact ⟨by rw [HS.out]; rfl, B1.out⟩
  obtain ⟨d', rfl⟩ : ∃ d' : Nat, d = (d' : Int) := ⟨d.toNat, by omega⟩
  obtain ⟨n', rfl⟩ : ∃ n' : Nat, n = (n' : Int) := ⟨n.toNat, by omega⟩
  have HS := Lib.hid (show copyL l (d' : Int) (n' : Int) = if prightL (copyOut l d' n') then (copyOut l d' n', 0) else ([], 3) by
    unfold copyL
    rw [if_neg (by rw [HK.out]; simp), if_neg (by omega), Int.toNat_natCast, Int.toNat_natCast])
  have hd : d' ≤ 99 := by omega
  have hn : n' ≤ 999 := by omega
  have f1 : decide ((d' : Int) < 1) = false := decide_eq_false a1
  have f2 : decide ((99 : Int) < (d' : Int)) = false := decide_eq_false a2
  have f3 : decide ((n' : Int) < 0) = false := decide_eq_false a3
  have f4 : decide ((999 : Int) < (n' : Int)) = false := decide_eq_false a4
  clear a1 a2 a3 a4 HBD
  have hl := check_len HK.out
  have SV := Lib.hid (fun w => rsplit_v l w)
  rw [show splitP l = (folderL l, baseL l) by unfold splitP; rw [if_pos HK.out]] at SV
  have EV := Lib.hid (fun w => rend_v l w)
  rw [show endP l = (stemB (baseL l), endB (baseL l)) by unfold endP; rw [if_pos HK.out]] at EV
  have HL := Lib.hid (show (folderL l).length ≤ 64 ∧ (stemB (baseL l)).length ≤ 64 ∧ (endB (baseL l)).length ≤ 64 by
    have e := congrArg List.length (stem_end (baseL l))
    rw [List.length_append] at e
    by_cases hm : (47 : UInt8) ∈ l
    · have := congrArg List.length ((folder_base l).1 hm)
      simp only [List.length_append, List.length_singleton] at this
      omega
    · obtain ⟨e1, e2⟩ := (folder_base l).2 hm
      rw [e1]
      rw [e2] at e ⊢
      simp only [List.length_nil]
      omega)
  have HO := Lib.hid (show copyOut l d' n' = joinF (folderL l) (stemB (baseL l) ++ markL d' n' ++ endB (baseL l)) from rfl)
  obtain ⟨f, hf⟩ : ∃ x, folderL l = x := ⟨_, rfl⟩
  obtain ⟨s, hs⟩ : ∃ x, stemB (baseL l) = x := ⟨_, rfl⟩
  obtain ⟨y, hy⟩ : ∃ x, endB (baseL l) = x := ⟨_, rfl⟩
  rw [hf, hs, hy] at HL HO
  rw [hf] at SV
  rw [hs, hy] at EV
  clear hf hs hy
  have l1 := dec_len (n := d') (k := 2) (by decide) (by omega)
  have l2 := dec_len (n := n') (k := 3) (by decide) (by omega)
  have HT := Lib.hid (show s ++ markL d' n' ++ y = s ++ [46, 99] ++ dec d' ++ [45] ++ dec n' ++ y by simp [markL])
  rw [HT.out] at HO
  obtain ⟨z, hz⟩ : ∃ x, s ++ [46, 99] ++ dec d' ++ [45] ++ dec n' ++ y = x := ⟨_, rfl⟩
  have hzl : (st z).size ≤ 1000 := by rw [st_size, ← hz]; simp only [List.length_append, List.length_cons, List.length_nil]; have := HL.out; omega
  have z0 : (st s).size ≤ 1000 := by rw [st_size]; have := HL.out; omega
  have z1 : (st (s ++ [46, 99])).size ≤ 1000 := by rw [st_size]; simp only [List.length_append, List.length_cons, List.length_nil]; have := HL.out; omega
  have z2 : (st (s ++ [46, 99] ++ dec d')).size ≤ 1000 := by rw [st_size]; simp only [List.length_append, List.length_cons, List.length_nil]; have := HL.out; omega
  have z3 : (st (s ++ [46, 99] ++ dec d' ++ [45])).size ≤ 1000 := by rw [st_size]; simp only [List.length_append, List.length_cons, List.length_nil]; have := HL.out; omega
  have z4 : (st (s ++ [46, 99] ++ dec d' ++ [45] ++ dec n')).size ≤ 1000 := by rw [st_size]; simp only [List.length_append, List.length_cons, List.length_nil]; have := HL.out; omega
  have y0 : (st y).size ≤ 1000 := by rw [st_size]; have := HL.out; omega
  have y1 : (st (dec d')).size ≤ 1000 := by rw [st_size]; omega
  have y2 : (st (dec n')).size ≤ 1000 := by rw [st_size]; omega
  have e1 : st s ++ (⟨#[46, 99]⟩ : ByteArray) = st (s ++ [46, 99]) := st_app s [46, 99]
  have e2 : st (s ++ [46, 99]) ++ st (dec d') = st (s ++ [46, 99] ++ dec d') := st_app _ _
  have e3 : st (s ++ [46, 99] ++ dec d') ++ (⟨#[45]⟩ : ByteArray) = st (s ++ [46, 99] ++ dec d' ++ [45]) := st_app _ [45]
  have e4 : st (s ++ [46, 99] ++ dec d' ++ [45]) ++ st (dec n') = st (s ++ [46, 99] ++ dec d' ++ [45] ++ dec n') := st_app _ _
  have e5 : st (s ++ [46, 99] ++ dec d' ++ [45] ++ dec n') ++ st y = st z := by rw [st_app, hz]
  rw [hz] at HO
  have HLE := Lib.hid (And.intro l1 l2)
  clear hz HT l1 l2
  generalize s ++ [46, 99] ++ dec d' ++ [45] ++ dec n' = s4 at *
  generalize s ++ [46, 99] ++ dec d' ++ [45] = s3 at *
  generalize s ++ [46, 99] ++ dec d' = s2 at *
  generalize s ++ [46, 99] = s1 at *
  have I1 := Lib.hid (fun w => rdigits_v d' w (by omega))
  have I2 := Lib.hid (fun w => rdigits_v n' w (by omega))
  generalize dec d' = dd at *
  generalize dec n' = dn at *
  go_wp2_with fail
  refine (SV.out w1).mono ?_
  rintro e w2 ⟨rfl, b2⟩
  have B2 := Lib.hid (B1.out.trans (b2.mono B1.out.size))
  clear b2 B1
  go_wp2_with fail
  refine (EV.out w2).mono ?_
  rintro e w3 ⟨rfl, b3⟩
  have B3 := Lib.hid (B2.out.trans (b3.mono B2.out.size))
  clear b3 B2
  go_wp2_with fail
  refine (I1.out w3).mono ?_
  rintro e w4 ⟨rfl, b4⟩
  have B4 := Lib.hid (B3.out.trans (b4.mono B3.out.size))
  clear b4 B3
  go_wp2_with fail
  refine (I2.out w4).mono ?_
  rintro e w5 ⟨rfl, b5⟩
  have B5 := Lib.hid (B4.out.trans (b5.mono B4.out.size))
  clear b5 B4
  have JV := Lib.hid (fun w => rjoined_v f z w (by have := HL.out; omega) (by rw [← st_size]; exact hzl))
  have RC := Lib.hid (fun w => prcheck_v (joinF f z) w)
  rw [HO.out] at HS
  have HQ := Lib.hid (show copyL l (d' : Int) (n' : Int) = if checkL (joinF f z) = 0 then (joinF f z, 0) else ([], 3) by
    rw [HS.out]
    by_cases hr : prightL (joinF f z) = true
    · rw [if_pos hr, if_pos (check_zero.2 hr)]
    · rw [if_neg hr, if_neg fun h => hr (check_zero.1 h)])
  obtain ⟨k, hk⟩ : ∃ k, checkL (joinF f z) = k := ⟨_, rfl⟩
  rw [hk] at RC HQ
  clear hk
  generalize joinF f z = o at *
  go_wp2_with fail
  refine (JV.out w5).mono ?_
  rintro e _ ⟨rfl, rfl⟩
  go_wp2_with fail
  refine (RC.out w5).mono ?_
  rintro e w6 ⟨rfl, b6⟩
  have B6 := Lib.hid (B5.out.trans (b6.mono B5.out.size))
  clear b6 RC JV
  by_cases hk0 : k = 0
  · subst hk0
    have d9 : (((0 : Nat) : Int) != 0) = false := rfl
    go_wp2_with fail
    go_returns
    exact ⟨by rw [HQ.out]; rfl, B6.out⟩
  · have d9 : ((k : Int) != 0) = true := by simp; omega
    have HQ2 := Lib.hid (show copyL l (d' : Int) (n' : Int) = ([], 3) by rw [HQ.out, if_neg hk0])
    clear hk0
    go_wp2_with fail
    go_returns
    exact ⟨by rw [HQ2.out]; rfl, B6.out⟩
end Go.Proofs.YtndekohimfjdeaaGreatDoor

namespace Go.Proofs.YtndekohimfjdeaaGreatDoor
open Go.RowKit Go.Shelf
theorem texts_at {w : World} {B n k : Nat} {A : Option Addr} {ts : List Bl} (h : SReads w B A n (ts.map st)) (hk : k < n) :
    ∃ ad t, A = some ad ∧ ts[k]? = some t ∧ ∀ W, Below B w W → W.cell? (ad.add k) = some (.string (st t)) := by
  obtain ⟨ad, x, e, hx, hc⟩ := SReads.at_ h hk
  rw [List.getElem?_map] at hx
  cases ht : ts[k]? with
  | none => rw [ht] at hx; cases hx
  | some t =>
    rw [ht] at hx
    have hx2 : st t = x := Option.some.inj hx
    subst hx2
    exact ⟨ad, t, e, rfl, hc⟩
set_option maxRecDepth 100000 in
set_option maxHeartbeats 8000000 in
theorem ltexts_v (ts : List Bl) (A : Option Addr) (len c B : Nat) (w : World) (hr : SReads w B A len (ts.map st)) (hB : B ≤ w.heap.size) (hlen : len ≤ maxLen) :
    Calls Tryz.prog 6 #[.slice A len c, .int .i64 1100, .int .i64 60000] w fun e w' => ∃ b, e = .returned (.bool b) ∧ (b = true → len ≤ 1100) ∧ Below w.heap.size w w' := by
  have HR := Lib.hid hr
  have hlm : len ≤ 9223372036854775807 := hlen
  clear hr hlen
  go_enter Tryz.func6, Tryz.ntmps6
  go_upto_region 3 with fail
  go_loopw [7, 8] (fun s i wr => ∃ (k : Nat) (t : Int), k ≤ len ∧ k ≤ 1101 ∧ 0 ≤ t ∧ t ≤ 200000 ∧ i = .int .i64 (k : Int) ∧ s = .int .i64 t ∧ Below w.heap.size w wr) (fun _ i _ => len - (intOf i).toNat)
  case atStart => exact ⟨0, 0, Nat.zero_le _, Nat.zero_le _, by omega, by omega, rfl, rfl, Below.refl _ _⟩
  case round =>
    obtain ⟨k, t, hk, hk2, ht0, ht1, rfl, rfl, hb⟩ := hrel
    have HB := Lib.hid hb
    clear hb
    have k0 : (0 : Int) ≤ (k : Int) := by omega
    by_cases hlt : k < len
    · have d1 : decide ((k : Int) < (len : Int)) = true := decide_eq_true (by omega)
      by_cases hle : k ≤ 1100
      · have d2 : decide ((k : Int) ≤ 1100) = true := decide_eq_true (by omega)
        by_cases hle2 : t ≤ 60000
        · have d3 : decide (t ≤ 60000) = true := decide_eq_true hle2
          obtain ⟨ad, x, rfl, hx, hc⟩ := texts_at HR.out hlt
          have c1 := hc wr (HB.out.mono hB)
          have j3 : (k : Int) < (len : Int) := by omega
          clear hx hc
          have hmn : (0 : Int) ≤ min ((st x).size : Int) 60001 := Int.le_min.2 ⟨by omega, by omega⟩
          have hmx : min ((st x).size : Int) 60001 ≤ 60001 := Int.min_le_right _ _
          generalize hy : min ((st x).size : Int) 60001 = y at hmn hmx
          have HY := Lib.hid hy
          clear hy
          go_wp2_with fail
          go_roundw
          case rel => exact ⟨k + 1, t + y, by omega, by omega, by omega, by omega, by go_num, by rw [HY.out], HB.out⟩
          case measure => simp [intOf]; omega
        · have d3 : decide (t ≤ 60000) = false := decide_eq_false hle2
          clear hle2
          by_cases h4 : len ≤ 1100
          · have d4 : decide ((len : Int) ≤ 1100) = true := decide_eq_true (by omega)
            go_wp2_with fail
            go_ret
            exact ⟨_, rfl, fun _ => h4, HB.out⟩
          · have d4 : decide ((len : Int) ≤ 1100) = false := decide_eq_false (by omega)
            go_wp2_with fail
            go_ret
            exact ⟨false, rfl, (fun h => by cases h), HB.out⟩
      · have d2 : decide ((k : Int) ≤ 1100) = false := decide_eq_false (by omega)
        have d4 : decide ((len : Int) ≤ 1100) = false := decide_eq_false (by omega)
        clear hle
        go_wp2_with fail
        go_ret
        exact ⟨false, rfl, (fun h => by cases h), HB.out⟩
    · obtain rfl : k = len := by omega
      have d1 : decide ((k : Int) < (k : Int)) = false := decide_eq_false (by omega)
      have d1n : decide (k < k) = false := decide_eq_false (by omega)
      by_cases h4 : k ≤ 1100
      · have d4 : decide ((k : Int) ≤ 1100) = true := decide_eq_true (by omega)
        have d4n : decide (k ≤ 1100) = true := decide_eq_true (by omega)
        have H4 := Lib.hid h4
        clear hlt
        go_wp2
        go_ret
        exact ⟨_, rfl, fun _ => H4.out, HB.out⟩
      · have d4 : decide ((k : Int) ≤ 1100) = false := decide_eq_false (by omega)
        have d4n : decide (k ≤ 1100) = false := decide_eq_false (by omega)
        clear hlt
        go_wp2
        go_ret
        exact ⟨_, rfl, (fun h => by simp at h), HB.out⟩
end Go.Proofs.YtndekohimfjdeaaGreatDoor

namespace Go.Proofs.YtndekohimfjdeaaGreatDoor
open Go.RowKit Go.Shelf
/-- Is it one of these? -/
def tkS (ts : List Bl) (s : Bl) : Bool := ts.any fun t => decide (t = s)
theorem any_step {α : Type} {p : α → Bool} {l : List α} {k : Nat} {x : α} (hx : l[k]? = some x) : ((l.take (k + 1)).any p) = (((l.take k).any p) || p x) := by
  rw [List.take_add_one, hx, List.any_append]
  simp
theorem place_step {tk : Bl → Bool} {p : Bl} {dv : Int} {k : Nat} (h : k < 1000) : placeF tk p dv ((List.range 1000).drop k) = if (copyL p dv k).2 ≠ 0 then ([], (copyL p dv k).2) else if tk (copyL p dv k).1 = false then ((copyL p dv k).1, 0) else placeF tk p dv ((List.range 1000).drop (k + 1)) := by
  rw [List.drop_eq_getElem_cons (by simpa using h), List.getElem_range]
  rfl
set_option maxRecDepth 100000 in
set_option maxHeartbeats 16000000 in
theorem rplace_v (r : Rcd) (a : RSh) (ts : List Bl) (A : Option Addr) (n c B : Nat) (w : World) (hr : RReads w B r a) (ht : SReads w B A n (ts.map st)) (hB : B ≤ w.heap.size) (hn : n ≤ 1100) :
    Calls Tryz.prog 17 #[.agg #[.string (st r.path), .slice a.A a.n a.c, .int .i64 r.dev, .bool r.gone, .int .i64 r.size, .int .i64 r.len, .slice a.D a.m a.k], .slice A n c] w fun e w' => e = .returned (.tuple #[.string (st (placeR (tkS ts) r).1), .int .i64 ((placeR (tkS ts) r).2 : Int)]) ∧ Below w.heap.size w w' := by
  have HI := Lib.hid (show (Tryz.prog.info? 27).map (·.size) = some 7 by kernel_rfl)
  have X := Lib.hid (heap_alloc_new w (.cells #[.string (st r.path), .slice a.A a.n a.c, .int .i64 r.dev, .bool r.gone, .int .i64 r.size, .int .i64 r.len, .slice a.D a.m a.k] 27))
  have BA := Lib.hid ((Below.refl w.heap.size w).alloc (Nat.le_refl _) (.cells #[.string (st r.path), .slice a.A a.n a.c, .int .i64 r.dev, .bool r.gone, .int .i64 r.size, .int .i64 r.len, .slice a.D a.m a.k] 27))
  have hz : w.heap.size + 1 ≤ (w.alloc (.cells #[.string (st r.path), .slice a.A a.n a.c, .int .i64 r.dev, .bool r.gone, .int .i64 r.size, .int .i64 r.len, .slice a.D a.m a.k] 27)).heap.size := by simp
  have HR := Lib.hid hr
  have HT := Lib.hid ht
  have HTL := Lib.hid (show ts.length = n by have := ht.len; simpa using this)
  obtain ⟨o, ho⟩ : ∃ o, placeR (tkS ts) r = o := ⟨_, rfl⟩
  rw [ho]
  unfold placeR at ho
  have HO := Lib.hid ho
  clear hr ht ho
  go_enter Tryz.func17, Tryz.ntmps17
  go_upto_region 1 with fail
  generalize w.alloc (.cells #[.string (st r.path), .slice a.A a.n a.c, .int .i64 r.dev, .bool r.gone, .int .i64 r.size, .int .i64 r.len, .slice a.D a.m a.k] 27) = w1 at *
  go_wp2_with (first | (refine wpList_load_row rfl 27 (.tmp 2) rfl w.heap.size rfl 27 _ (0, 0) _ X.out Tryz.underlying27 rfl HI.out ?_) | fail)
  refine (rrecCheck_v r a B w1 (HR.out.below (BA.out.mono hB)) (by omega)).mono ?_
  rintro e w2 ⟨rfl, b3⟩
  replace X := Lib.hid ((b3.block w.heap.size (by omega)).trans X.out)
  replace BA := Lib.hid (BA.out.trans (b3.mono (by omega)))
  replace hz : w.heap.size + 1 ≤ w2.heap.size := by have := b3.size; omega
  clear b3
  by_cases h1 : okR r = 0
  case neg =>
    have d1 : ((okR r : Int) != 0) = true := by rw [bne_iff_ne]; omega
    obtain rfl := if_p HO.out h1
    clear h1
    go_wp2
    go_ret2
    exact ⟨rfl, BA.out⟩
  replace HO := Lib.hid (if_n HO.out (fun h => h h1))
  rw [h1]
  clear h1
  go_upto_region 5 with fail
  go_loopw [7] (fun i wr => ∃ k : Nat, k ≤ 1000 ∧ i = .int .i64 (k : Int) ∧ placeF (tkS ts) r.path r.dev (List.range 1000) = placeF (tkS ts) r.path r.dev ((List.range 1000).drop k) ∧ Below (w.heap.size + 1) w2 wr) (fun i _ => 1000 - (intOf i).toNat)
  case atStart => exact ⟨0, by omega, rfl, by rw [List.drop_zero], Below.refl _ _⟩
  case round =>
    obtain ⟨k, hk, rfl, hpl, hb⟩ := hrel
    have HP := Lib.hid hpl
    have HB := Lib.hid hb
    clear hpl hb
    by_cases hlt : k < 1000
    · have d1 : decide ((k : Int) ≤ 999) = true := decide_eq_true (by omega)
      have PS := Lib.hid (place_step (tk := tkS ts) (p := r.path) (dv := r.dev) hlt)
      have XR := Lib.hid ((HB.out.block w.heap.size (by omega)).trans X.out)
      have c0 := cell_of_row _ _ 0 _ _ _ XR.out
      have c2 := cell_of_row _ _ 2 _ _ _ XR.out
      go_wp2_with fail
      refine (rcopy_v r.path r.dev (k : Int) wr).mono ?_
      rintro e w3 ⟨rfl, b3⟩
      clear c0 c2 XR
      have hzr := HB.out.size
      replace HB := Lib.hid (HB.out.trans (b3.mono (by omega)))
      clear b3 hzr
      generalize copyL r.path r.dev (k : Int) = cp at *
      by_cases h2 : cp.2 = 0
      case neg =>
        have d2 : ((cp.2 : Int) != 0) = true := by rw [bne_iff_ne]; omega
        have HF := Lib.hid (HO.out.symm.trans (HP.out.trans (PS.out.trans (if_pos h2))))
        obtain rfl := HF.out
        clear h2
        go_wp2
        go_ret2
        exact ⟨rfl, BA.out.trans (HB.out.mono (by omega))⟩
      replace PS := Lib.hid (PS.out.trans (if_neg (fun h => h h2)))
      rw [h2]
      clear h2
      go_upto_region 12 with fail
      go_loopw [10, 11] (fun f i wr => ∃ j : Nat, j ≤ n ∧ i = .int .i64 (j : Int) ∧ f = .bool ((ts.take j).any fun t => decide (t = cp.1)) ∧ Below (w.heap.size + 1) w2 wr) (fun _ i _ => n - (intOf i).toNat)
      case atStart => exact ⟨0, Nat.zero_le _, rfl, rfl, HB.out⟩
      case round =>
        clear HB
        obtain ⟨j, hj, rfl, rfl, hb⟩ := hrel
        have HB := Lib.hid hb
        clear hb
        by_cases hlt2 : j < n
        · obtain ⟨ad, t, rfl, ht, hc⟩ := texts_at HT.out hlt2
          have AS := Lib.hid (any_step (p := fun t => decide (t = cp.1)) ht)
          have c1 := hc _ ((BA.out.mono hB).trans (HB.out.mono (by omega)))
          have j0 : (0 : Int) ≤ (j : Int) := by omega
          have j3 : (j : Int) < (n : Int) := by omega
          have dp := st_beq t cp.1
          clear ht hc
          generalize hf : (List.take j ts).any (fun t => decide (t = cp.1)) = f at *
          clear hf
          cases f
          · by_cases hp : t = cp.1
            · rw [decide_eq_true hp] at dp
              replace AS := Lib.hid (AS.out.trans (show (false || decide (t = cp.1)) = true by rw [decide_eq_true hp]; rfl))
              clear hp
              go_wp2
              go_roundw
              case rel => exact ⟨j + 1, hlt2, by go_num, by rw [AS.out], HB.out⟩
              case measure => simp [intOf]; omega
            · rw [decide_eq_false hp] at dp
              replace AS := Lib.hid (AS.out.trans (show (false || decide (t = cp.1)) = false by rw [decide_eq_false hp]; rfl))
              clear hp
              go_wp2
              go_roundw
              case rel => exact ⟨j + 1, hlt2, by go_num, by rw [AS.out], HB.out⟩
              case measure => simp [intOf]; omega
          · replace AS := Lib.hid (AS.out.trans (show (true || decide (t = cp.1)) = true from rfl))
            go_wp2
            go_roundw
            case rel => exact ⟨j + 1, hlt2, by go_num, by rw [AS.out], HB.out⟩
            case measure => simp [intOf]; omega
        · obtain rfl : j = n := by omega
          rw [show (List.take j ts).any (fun t => decide (t = cp.1)) = tkS ts cp.1 by rw [List.take_of_length_le (by rw [HTL.out]; exact Nat.le_refl _)]; rfl]
          generalize tkS ts cp.1 = f at *
          cases f
          · have HF := Lib.hid (HO.out.symm.trans (HP.out.trans (PS.out.trans (if_pos rfl))))
            obtain rfl := HF.out
            go_wp2
            go_ret2
            exact ⟨rfl, BA.out.trans (HB.out.mono (by omega))⟩
          · have HF := Lib.hid (HP.out.trans (PS.out.trans (if_neg (by decide))))
            go_wp2
            go_roundw
            case rel => exact ⟨k + 1, hlt, by go_num, HF.out, HB.out⟩
            case measure => simp [intOf]; omega
    · obtain rfl : k = 1000 := by omega
      have HF := Lib.hid (HO.out.symm.trans (HP.out.trans (show placeF (tkS ts) r.path r.dev ((List.range 1000).drop 1000) = ([], 3) by rw [List.drop_of_length_le (by simp)]; rfl)))
      obtain rfl := HF.out
      clear hlt
      go_wp2
      go_ret2
      exact ⟨rfl, BA.out.trans (HB.out.mono (by omega))⟩
end Go.Proofs.YtndekohimfjdeaaGreatDoor

namespace Go.Proofs.YtndekohimfjdeaaGreatDoor
open Go.RowKit Go.Shelf
def ekT (x : Bl) : Value := .string (st x)
def evT (x : Bool) : Value := .bool x
theorem ekT_inj (x y : Bl) (h : ekT x = ekT y) : x = y := by
  unfold ekT at h
  injection h with h
  exact st_inj h
abbrev TMap (W : World) (b : Nat) (E : List (Bl × Bool)) : Prop := MapIs Tryz.prog 9 ekT evT W b E
theorem key_of {x : Bl} (hx : x.length ≤ maxLen) : keyOf Tryz.prog 9 (ekT x) = some (.string (st x).data.toList) :=
  Go.WideMaps.keyOf_string_mk Tryz.underlying9 (by rw [st_size]; exact hx)
section
variable {w : World} {b : Nat} {E : List (Bl × Bool)}
theorem TMap.look_ (h : TMap w b E) (x : Bl) (hx : x.length ≤ maxLen) :
    (Instr.lookup 39 (.map (some b)) (.string (st x)) false).run Tryz.prog w = .ok (.bool ((aget x E).getD false)) w := by
  have := MapIs.look h (Go.Maps.string_keyed Tryz.underlying9) ekT_inj Tryz.underlying39 (Tryz.zeroValue4 w) false (x := x) (key_of hx)
  refine this.trans ?_
  cases aget x E <;> rfl
theorem TMap.store_ (h : TMap w b E) (x : Bl) (v : Bool) (hx : x.length ≤ maxLen) :
    ∃ w', (Instr.mapUpdate 39 (.map (some b)) (.string (st x)) (.bool v)).run Tryz.prog w = .ok () w' ∧ TMap w' b (aput x v E) ∧ w.grownBy w' (some b) ∧ w'.heap.size = w.heap.size :=
  MapIs.store (ev := evT) h (Go.Maps.string_keyed Tryz.underlying9) ekT_inj Tryz.underlying39 (x := x) (key_of hx) v
/-- The map holds these texts. -/
def Holds (E : List (Bl × Bool)) (ts : List Bl) : Prop := ∀ x, (aget x E).getD false = tkS ts x
theorem Holds.nil : Holds [] [] := fun _ => rfl
theorem Holds.step {ts : List Bl} {k : Nat} {x : Bl} (h : Holds E (ts.take k)) (hx : ts[k]? = some x) : Holds (aput x true E) (ts.take (k + 1)) := fun y => by
  unfold tkS
  rw [any_step hx, aget_aput]
  by_cases hxy : x = y
  · rw [if_pos hxy, decide_eq_true hxy, Bool.or_true]
    rfl
  · rw [if_neg hxy, decide_eq_false hxy, Bool.or_false]
    exact h y
end
set_option maxRecDepth 100000 in
theorem asked_v (s : Bl) (gs b : Nat) (E : List (Bl × Bool)) (w : World) (hs : s.length ≤ 64) (hc : w.cell? ⟨gs, 0, none⟩ = some (.map (some b))) (hm : TMap w b E) :
    Calls Tryz.prog 16 #[.string (st s), .pointer (some ⟨gs, 0, none⟩)] w fun e w' => e = .returned (.bool ((aget s E).getD false)) ∧ Below w.heap.size w w' := by
  have hl := TMap.look_ hm s (Nat.le_trans hs (by decide))
  clear hm
  go_enter Tryz.func16, Tryz.ntmps16
  go_wp2
  go_ret
  exact ⟨rfl, Below.refl _ _⟩
end Go.Proofs.YtndekohimfjdeaaGreatDoor

namespace Go.Proofs.YtndekohimfjdeaaGreatDoor
open Go.RowKit Go.Shelf
theorem info_rc : (Tryz.prog.info? 27).map (fun i => (i.zero, i.size, i.bytes)) = some (some (.agg #[.string ⟨#[]⟩, .slice none 0 0, .int .i64 0, .bool false, .int .i64 0, .int .i64 0, .slice none 0 0]), 7, 96) := by kernel_rfl
theorem oneCell_rc (l : List (Rcd × RSh)) : ∀ u ∈ l.flatMap rcC, u.oneCell' = true := by
  intro u hu
  obtain ⟨d, _, hd⟩ := List.mem_flatMap.1 hu
  simp only [rcC, List.mem_cons, List.not_mem_nil, or_false] at hd
  rcases hd with rfl | rfl | rfl | rfl | rfl | rfl | rfl <;> rfl
theorem own_rc2 (w : World) (x y : Rcd × RSh) : (w.alloc (.cells (rcC x ++ rcC y).toArray 27)).ownsRow w.heap.size 27 7 (.slice (some ⟨w.heap.size, 0, none⟩) 2 2) 2 (rcC x ++ rcC y) :=
  ⟨rfl, .inr ⟨w.heap.size, 2, _, rfl, Nat.le_refl _, heap_alloc_new w _, Nat.le_refl _, by decide, rfl, rfl⟩⟩
theorem lights_all {most n : Nat} {l : List (Rcd × RSh)} (h : lightsX most n l = true) : ∀ x ∈ l, lightX most x = true := by
  unfold lightsX at h
  rw [Bool.and_eq_true] at h
  exact List.all_eq_true.1 h.2
theorem lights_len {most n : Nat} {l : List (Rcd × RSh)} (h : lightsX most n l = true) : l.length ≤ n := by
  unfold lightsX at h
  rw [Bool.and_eq_true] at h
  exact of_decide_eq_true h.1
theorem place_any (r : Rcd) (a : RSh) (B tf : Nat) (caps : Array Value) (tk : Bl → Bool) (w : World) (he : Env w) (hr : RReads w B r a) (hB : B ≤ w.heap.size)
    (hcf : ∀ args W, (callFunc tf args).run Tryz.prog W = .ok (.enter tf args) W)
    (ht : ∀ (s : Bl) (W : World), s.length ≤ 64 → Below w.heap.size w W → Calls Tryz.prog tf (#[.string (st s)] ++ caps) W fun e W' => e = .returned (.bool (tk s)) ∧ Below W.heap.size W W') :
    Calls Tryz.prog 15 #[.agg #[.string (st r.path), .slice a.A a.n a.c, .int .i64 r.dev, .bool r.gone, .int .i64 r.size, .int .i64 r.len, .slice a.D a.m a.k], .func (.func tf) #[] caps] w fun e w' => e = .returned (.tuple #[.string (st (placeR tk r).1), .int .i64 ((placeR tk r).2 : Int)]) ∧ Below w.heap.size w w' := by
  by_cases h : okR r = 0
  · have := place_v r a B tf caps tk w he hr hB h hcf ht
    unfold placeR
    rw [if_neg (fun k => k h)]
    exact this
  · have := place_bad r a B tf caps w he.m hr hB h
    unfold placeR
    rw [if_pos h]
    exact this
set_option maxRecDepth 100000 in
set_option maxHeartbeats 16000000 in
theorem calls_v (r q : Rcd) (a b : RSh) (l : List (Rcd × RSh)) (ts : List Bl) (A T : Option Addr) (n c m k B : Nat) (w : World) (he : Env w) (hr : RIn w B r a) (hq : RIn w B q b) (hl : Reads w B 7 A n (l.flatMap rcC)) (hla : ∀ x ∈ l, RIn w B x.1 x.2)
    (ht : SReads w B T m (ts.map st)) (hn : n * 96 ≤ 140737488351232) (hm : m ≤ maxLen) (hts : ∀ t ∈ ts, t.length ≤ maxLen) (hB : B ≤ w.heap.size) :
    Calls Tryz.prog 3 #[.agg #[.string (st r.path), .slice a.A a.n a.c, .int .i64 r.dev, .bool r.gone, .int .i64 r.size, .int .i64 r.len, .slice a.D a.m a.k], .agg #[.string (st q.path), .slice b.A b.n b.c, .int .i64 q.dev, .bool q.gone, .int .i64 q.size, .int .i64 q.len, .slice b.D b.m b.k], .slice A n c, .slice T m k] w fun e w' => e = .returned (.bool true) ∧ Below w.heap.size w w' := by
  have HI := Lib.hid (show (Tryz.prog.info? 27).map (·.size) = some 7 by kernel_rfl)
  have BA := Lib.hid (((Below.refl w.heap.size w).alloc (Nat.le_refl _) (.cells #[.string (st r.path), .slice a.A a.n a.c, .int .i64 r.dev, .bool r.gone, .int .i64 r.size, .int .i64 r.len, .slice a.D a.m a.k] 27)).alloc (by simp) (.cells #[.string (st q.path), .slice b.A b.n b.c, .int .i64 q.dev, .bool q.gone, .int .i64 q.size, .int .i64 q.len, .slice b.D b.m b.k] 27))
  have Y := Lib.hid (heap_alloc2_new w (.cells #[.string (st r.path), .slice a.A a.n a.c, .int .i64 r.dev, .bool r.gone, .int .i64 r.size, .int .i64 r.len, .slice a.D a.m a.k] 27) (.cells #[.string (st q.path), .slice b.A b.n b.c, .int .i64 q.dev, .bool q.gone, .int .i64 q.size, .int .i64 q.len, .slice b.D b.m b.k] 27))
  have X := Lib.hid (heap_alloc2_old w (.cells #[.string (st r.path), .slice a.A a.n a.c, .int .i64 r.dev, .bool r.gone, .int .i64 r.size, .int .i64 r.len, .slice a.D a.m a.k] 27) (.cells #[.string (st q.path), .slice b.A b.n b.c, .int .i64 q.dev, .bool q.gone, .int .i64 q.size, .int .i64 q.len, .slice b.D b.m b.k] 27))
  have HR0 := Lib.hid hr
  have HQ0 := Lib.hid hq
  have HL0 := Lib.hid hl
  have HLA := Lib.hid hla
  have HT := Lib.hid ht
  have HE := Lib.hid (he.below BA.out)
  have HLN := Lib.hid (show l.length = n by
    have h1 := hl.1
    rw [flat_len rcC_len] at h1
    omega)
  have HTS := Lib.hid hts
  clear hr hq he hl hla ht hts
  obtain ⟨i0, hi0, hz0, hz1, hz2⟩ := info_parts info_rc
  go_enter Tryz.func3, Tryz.ntmps3
  go_upto_region 1 with fail
  generalize (w.alloc (.cells #[.string (st r.path), .slice a.A a.n a.c, .int .i64 r.dev, .bool r.gone, .int .i64 r.size, .int .i64 r.len, .slice a.D a.m a.k] 27)).alloc (.cells #[.string (st q.path), .slice b.A b.n b.c, .int .i64 q.dev, .bool q.gone, .int .i64 q.size, .int .i64 q.len, .slice b.D b.m b.k] 27) = w2 at *
  go_wp2_with fail
  refine (lives_v w2 HE.out.m).mono ?_
  rintro e w3 ⟨rfl, b3⟩
  replace X := Lib.hid (hstep X.out b3)
  replace Y := Lib.hid (hstep Y.out b3)
  replace HE := Lib.hid (HE.out.below b3)
  replace BA := Lib.hid (BA.out.trans (b3.mono BA.out.size))
  clear b3
  have OW := Lib.hid (own_rc2 w3 (r, a) (q, b))
  have b0 := Lib.hid ((Below.refl w3.heap.size w3).alloc (Nat.le_refl _) (.cells (rcC (r, a) ++ rcC (q, b)).toArray 27))
  have hs4 : w3.heap.size + 1 = (w3.alloc (.cells (rcC (r, a) ++ rcC (q, b)).toArray 27)).heap.size := by simp
  have HRD := Lib.hid (Reads.below (Reads.below HL0.out (BA.out.mono hB)) (b0.out.mono (Nat.le_trans hB BA.out.size)))
  go_upto_region 4 with (first
    | (refine wpList_load_slot rfl 27 (.tmp 4) rfl ⟨w.heap.size, 0, none⟩ rfl [.string (st r.path), .slice a.A a.n a.c, .int .i64 r.dev, .bool r.gone, .int .i64 r.size, .int .i64 r.len, .slice a.D a.m a.k] _ (rcells_at X.out arr_at) Tryz.underlying27 rfl HI.out ?_)
    | (refine wpList_load_slot rfl 27 (.tmp 5) rfl ⟨w.heap.size + 1, 0, none⟩ rfl [.string (st q.path), .slice b.A b.n b.c, .int .i64 q.dev, .bool q.gone, .int .i64 q.size, .int .i64 q.len, .slice b.D b.m b.k] _ (rcells_at Y.out arr_at) Tryz.underlying27 rfl HI.out ?_)
    | (refine wpList_append_any _ rfl (.tmp 35) (.tmp 36) 28 rfl w3.heap.size 27 i0 _ 7 96 Tryz.underlying28 hi0 hz0 hz1 hz2 rfl (by decide) (.slice (some ⟨w3.heap.size, 0, none⟩) 2 2) 2 (rcC (r, a) ++ rcC (q, b)) rfl OW.out B A n c (l.flatMap rcC) rfl HRD.out (oneCell_rc l) (by simp only [maxLen]; omega) (by omega) (by simp) ?_
       intro v' w4 ho1 hg1 _
       obtain ⟨A1, c1, rfl, _⟩ := own_shape ho1)
    | fail)
  have b3 := ((Below.refl w3.heap.size w3).alloc (Nat.le_refl _) (.cells (rcC (r, a) ++ rcC (q, b)).toArray 27)).grown hg1 (by simp) (fun j hj => (OW.out.lt j hj).1)
  have RD := Lib.hid (show Reads w4 w4.heap.size 7 A1 (2 + n) (((r, a) :: (q, b) :: l).flatMap rcC) from by
    have := Reads.of_own ho1
    rwa [List.append_assoc] at this)
  replace X := Lib.hid (hstep X.out b3)
  replace Y := Lib.hid (hstep Y.out b3)
  replace HE := Lib.hid (HE.out.below b3)
  replace BA := Lib.hid (BA.out.trans (b3.mono BA.out.size))
  clear b3 ho1 hg1 OW b0 hs4 HRD
  refine (lights_v ((r, a) :: (q, b) :: l) A1 (2 + n) c1 w4.heap.size 22 100 w4 RD.out (by simp only [List.length_cons, HLN.out]; omega) (Nat.le_refl _) (by omega) (by omega)).mono ?_
  rintro e w5 ⟨rfl, b3⟩
  replace X := Lib.hid (hstep X.out b3)
  replace Y := Lib.hid (hstep Y.out b3)
  replace HE := Lib.hid (HE.out.below b3)
  replace BA := Lib.hid (BA.out.trans (b3.mono BA.out.size))
  clear b3 RD
  cases hLL : lightsX 100 22 ((r, a) :: (q, b) :: l)
  · clear hLL
    go_wp2
    go_ret
    exact ⟨by first | rfl | simp, BA.out⟩
  have LA := lights_all hLL
  have hn22 : n ≤ 22 := by
    have := lights_len hLL
    simp only [List.length_cons, HLN.out] at this
    omega
  have HR := Lib.hid (((HR0.out.light (LA _ List.mem_cons_self) (by omega)).below (BA.out.mono hB)).more (Nat.le_trans hB BA.out.size))
  have HR1 := Lib.hid (show RReads w w.heap.size r a from (HR0.out.light (LA _ List.mem_cons_self) (by omega)).more hB)
  have HQ := Lib.hid (((HQ0.out.light (LA _ (List.mem_cons_of_mem _ List.mem_cons_self)) (by omega)).below (BA.out.mono hB)).more (Nat.le_trans hB BA.out.size))
  have HLR := Lib.hid (show RRows w B A n l from ⟨HL0.out, fun x hx => (HLA.out x hx).light (LA _ (List.mem_cons_of_mem _ (List.mem_cons_of_mem _ hx))) (by omega)⟩)
  clear hLL LA HR0 HQ0 HLA HL0
  go_wp2_with fail
  refine (ltexts_v ts T m k B w5 (Reads.below HT.out (BA.out.mono hB)) (Nat.le_trans hB BA.out.size) hm).mono ?_
  rintro e w6 ⟨b2, rfl, hb2, b3⟩
  replace X := Lib.hid (hstep X.out b3)
  replace Y := Lib.hid (hstep Y.out b3)
  replace HE := Lib.hid (HE.out.below b3)
  replace BA := Lib.hid (BA.out.trans (b3.mono BA.out.size))
  replace HR := Lib.hid (HR.out.step b3)
  replace HQ := Lib.hid (HQ.out.step b3)
  clear b3
  cases b2
  · clear hb2
    go_wp2
    go_ret
    exact ⟨by first | rfl | simp, BA.out⟩
  have hm11 : m ≤ 1100 := hb2 rfl
  clear hb2
  obtain ⟨WN, hWN⟩ : ∃ W, winR r q = W := ⟨_, rfl⟩
  obtain ⟨DN, hDN⟩ : ∃ W, doR r q = W := ⟨_, rfl⟩
  obtain ⟨S, hS⟩ : ∃ W, setR r q = W := ⟨_, rfl⟩
  obtain ⟨ON, hON⟩ : ∃ W, ofR (l.map Prod.fst) = W := ⟨_, rfl⟩
  obtain ⟨PN, hPN⟩ : ∃ W, placeR (tkS ts) r = W := ⟨_, rfl⟩
  have HWN := Lib.hid hWN
  have HDN := Lib.hid hDN
  have HS := Lib.hid hS
  have HON := Lib.hid hON
  have HPN := Lib.hid hPN
  clear hWN hDN hS hON hPN
  have SV := winner_v r q a b w6.heap.size w6 HE.out.m HR.out HQ.out (Nat.le_refl _)
  rw [HWN.out] at SV
  replace SV := Lib.hid SV
  go_wp2_with (first | (refine wpList_load_slot rfl 27 (.tmp 4) rfl ⟨w.heap.size, 0, none⟩ rfl [.string (st r.path), .slice a.A a.n a.c, .int .i64 r.dev, .bool r.gone, .int .i64 r.size, .int .i64 r.len, .slice a.D a.m a.k] _ (rcells_at X.out arr_at) Tryz.underlying27 rfl HI.out ?_) | (refine wpList_load_slot rfl 27 (.tmp 5) rfl ⟨w.heap.size + 1, 0, none⟩ rfl [.string (st q.path), .slice b.A b.n b.c, .int .i64 q.dev, .bool q.gone, .int .i64 q.size, .int .i64 q.len, .slice b.D b.m b.k] _ (rcells_at Y.out arr_at) Tryz.underlying27 rfl HI.out ?_) | fail)
  refine SV.out.mono ?_
  rintro e w7 ⟨rfl, b3⟩
  replace X := Lib.hid (hstep X.out b3)
  replace Y := Lib.hid (hstep Y.out b3)
  replace HE := Lib.hid (HE.out.below b3)
  replace BA := Lib.hid (BA.out.trans (b3.mono BA.out.size))
  replace HR := Lib.hid (HR.out.step b3)
  replace HQ := Lib.hid (HQ.out.step b3)
  clear b3 SV
  have SV := rwinner_v r q a b w7.heap.size w7 HR.out HQ.out (Nat.le_refl _)
  rw [HWN.out] at SV
  replace SV := Lib.hid SV
  go_wp2_with (first | (refine wpList_load_slot rfl 27 (.tmp 4) rfl ⟨w.heap.size, 0, none⟩ rfl [.string (st r.path), .slice a.A a.n a.c, .int .i64 r.dev, .bool r.gone, .int .i64 r.size, .int .i64 r.len, .slice a.D a.m a.k] _ (rcells_at X.out arr_at) Tryz.underlying27 rfl HI.out ?_) | (refine wpList_load_slot rfl 27 (.tmp 5) rfl ⟨w.heap.size + 1, 0, none⟩ rfl [.string (st q.path), .slice b.A b.n b.c, .int .i64 q.dev, .bool q.gone, .int .i64 q.size, .int .i64 q.len, .slice b.D b.m b.k] _ (rcells_at Y.out arr_at) Tryz.underlying27 rfl HI.out ?_) | fail)
  refine SV.out.mono ?_
  rintro e w8 ⟨rfl, b3⟩
  replace X := Lib.hid (hstep X.out b3)
  replace Y := Lib.hid (hstep Y.out b3)
  replace HE := Lib.hid (HE.out.below b3)
  replace BA := Lib.hid (BA.out.trans (b3.mono BA.out.size))
  replace HR := Lib.hid (HR.out.step b3)
  replace HQ := Lib.hid (HQ.out.step b3)
  clear b3 SV
  have SV := do_v r q a b w8.heap.size w8 HE.out.m HR.out HQ.out (Nat.le_refl _)
  rw [HDN.out] at SV
  replace SV := Lib.hid SV
  go_wp2_with (first | (refine wpList_load_slot rfl 27 (.tmp 4) rfl ⟨w.heap.size, 0, none⟩ rfl [.string (st r.path), .slice a.A a.n a.c, .int .i64 r.dev, .bool r.gone, .int .i64 r.size, .int .i64 r.len, .slice a.D a.m a.k] _ (rcells_at X.out arr_at) Tryz.underlying27 rfl HI.out ?_) | (refine wpList_load_slot rfl 27 (.tmp 5) rfl ⟨w.heap.size + 1, 0, none⟩ rfl [.string (st q.path), .slice b.A b.n b.c, .int .i64 q.dev, .bool q.gone, .int .i64 q.size, .int .i64 q.len, .slice b.D b.m b.k] _ (rcells_at Y.out arr_at) Tryz.underlying27 rfl HI.out ?_) | fail)
  refine SV.out.mono ?_
  rintro e w9 ⟨rfl, b3⟩
  replace X := Lib.hid (hstep X.out b3)
  replace Y := Lib.hid (hstep Y.out b3)
  replace HE := Lib.hid (HE.out.below b3)
  replace BA := Lib.hid (BA.out.trans (b3.mono BA.out.size))
  replace HR := Lib.hid (HR.out.step b3)
  replace HQ := Lib.hid (HQ.out.step b3)
  clear b3 SV
  have SV := rdo_v r q a b w9.heap.size w9 HR.out HQ.out (Nat.le_refl _)
  rw [HDN.out] at SV
  replace SV := Lib.hid SV
  go_wp2_with (first | (refine wpList_load_slot rfl 27 (.tmp 4) rfl ⟨w.heap.size, 0, none⟩ rfl [.string (st r.path), .slice a.A a.n a.c, .int .i64 r.dev, .bool r.gone, .int .i64 r.size, .int .i64 r.len, .slice a.D a.m a.k] _ (rcells_at X.out arr_at) Tryz.underlying27 rfl HI.out ?_) | (refine wpList_load_slot rfl 27 (.tmp 5) rfl ⟨w.heap.size + 1, 0, none⟩ rfl [.string (st q.path), .slice b.A b.n b.c, .int .i64 q.dev, .bool q.gone, .int .i64 q.size, .int .i64 q.len, .slice b.D b.m b.k] _ (rcells_at Y.out arr_at) Tryz.underlying27 rfl HI.out ?_) | fail)
  refine SV.out.mono ?_
  rintro e w10 ⟨rfl, b3⟩
  replace X := Lib.hid (hstep X.out b3)
  replace Y := Lib.hid (hstep Y.out b3)
  replace HE := Lib.hid (HE.out.below b3)
  replace BA := Lib.hid (BA.out.trans (b3.mono BA.out.size))
  replace HR := Lib.hid (HR.out.step b3)
  replace HQ := Lib.hid (HQ.out.step b3)
  clear b3 SV
  have SV := settle_v r q a b w10.heap.size w10 HE.out.m HR.out HQ.out (Nat.le_refl _)
  rw [HS.out] at SV
  replace SV := Lib.hid SV
  go_wp2_with (first | (refine wpList_load_slot rfl 27 (.tmp 4) rfl ⟨w.heap.size, 0, none⟩ rfl [.string (st r.path), .slice a.A a.n a.c, .int .i64 r.dev, .bool r.gone, .int .i64 r.size, .int .i64 r.len, .slice a.D a.m a.k] _ (rcells_at X.out arr_at) Tryz.underlying27 rfl HI.out ?_) | (refine wpList_load_slot rfl 27 (.tmp 5) rfl ⟨w.heap.size + 1, 0, none⟩ rfl [.string (st q.path), .slice b.A b.n b.c, .int .i64 q.dev, .bool q.gone, .int .i64 q.size, .int .i64 q.len, .slice b.D b.m b.k] _ (rcells_at Y.out arr_at) Tryz.underlying27 rfl HI.out ?_) | fail)
  refine SV.out.mono ?_
  rintro e w11 ⟨x, rfl, hx, b3⟩
  have HX := Lib.hid hx
  replace X := Lib.hid (hstep X.out b3)
  replace Y := Lib.hid (hstep Y.out b3)
  replace HE := Lib.hid (HE.out.below b3)
  replace BA := Lib.hid (BA.out.trans (b3.mono BA.out.size))
  replace HR := Lib.hid (HR.out.step b3)
  replace HQ := Lib.hid (HQ.out.step b3)
  clear b3 hx SV
  have b4 := (Below.refl w11.heap.size w11).alloc (Nat.le_refl _) (.cells #[.string (st S.1.path), .slice x.A x.n x.c, .int .i64 S.1.dev, .bool S.1.gone, .int .i64 S.1.size, .int .i64 S.1.len, .slice x.D x.m x.k] 27)
  replace HX := Lib.hid (HX.out.step b4)
  clear b4
  have b3 := (Below.refl w11.heap.size w11).alloc (Nat.le_refl _) (.cells #[.string (st S.1.path), .slice x.A x.n x.c, .int .i64 S.1.dev, .bool S.1.gone, .int .i64 S.1.size, .int .i64 S.1.len, .slice x.D x.m x.k] 27)
  replace X := Lib.hid (hstep X.out b3)
  replace Y := Lib.hid (hstep Y.out b3)
  replace HE := Lib.hid (HE.out.below b3)
  replace BA := Lib.hid (BA.out.trans (b3.mono BA.out.size))
  replace HR := Lib.hid (HR.out.step b3)
  replace HQ := Lib.hid (HQ.out.step b3)
  have PX := Lib.hid (heap_alloc_new w11 (.cells #[.string (st S.1.path), .slice x.A x.n x.c, .int .i64 S.1.dev, .bool S.1.gone, .int .i64 S.1.size, .int .i64 S.1.len, .slice x.D x.m x.k] 27))
  clear b3
  (try dsimp only)
  go_upto_region 10 with fail
  generalize w11.alloc (.cells #[.string (st S.1.path), .slice x.A x.n x.c, .int .i64 S.1.dev, .bool S.1.gone, .int .i64 S.1.size, .int .i64 S.1.len, .slice x.D x.m x.k] 27) = w12 at *
  generalize w11.heap.size = gx at *
  have SV := rsettle_v r q a b w12.heap.size w12 HR.out HQ.out (Nat.le_refl _)
  rw [HS.out] at SV
  replace SV := Lib.hid SV
  go_wp2_with (first | (refine wpList_load_slot rfl 27 (.tmp 4) rfl ⟨w.heap.size, 0, none⟩ rfl [.string (st r.path), .slice a.A a.n a.c, .int .i64 r.dev, .bool r.gone, .int .i64 r.size, .int .i64 r.len, .slice a.D a.m a.k] _ (rcells_at X.out arr_at) Tryz.underlying27 rfl HI.out ?_) | (refine wpList_load_slot rfl 27 (.tmp 5) rfl ⟨w.heap.size + 1, 0, none⟩ rfl [.string (st q.path), .slice b.A b.n b.c, .int .i64 q.dev, .bool q.gone, .int .i64 q.size, .int .i64 q.len, .slice b.D b.m b.k] _ (rcells_at Y.out arr_at) Tryz.underlying27 rfl HI.out ?_) | fail)
  refine SV.out.mono ?_
  rintro e w13 ⟨y, rfl, hy, b3⟩
  have HY := Lib.hid hy
  replace X := Lib.hid (hstep X.out b3)
  replace Y := Lib.hid (hstep Y.out b3)
  replace HE := Lib.hid (HE.out.below b3)
  replace BA := Lib.hid (BA.out.trans (b3.mono BA.out.size))
  replace HR := Lib.hid (HR.out.step b3)
  replace HQ := Lib.hid (HQ.out.step b3)
  replace PX := Lib.hid (hstep PX.out b3)
  replace HX := Lib.hid (HX.out.step b3)
  clear b3 hy SV
  have b4 := (Below.refl w13.heap.size w13).alloc (Nat.le_refl _) (.cells #[.string (st S.1.path), .slice y.A y.n y.c, .int .i64 S.1.dev, .bool S.1.gone, .int .i64 S.1.size, .int .i64 S.1.len, .slice y.D y.m y.k] 27)
  replace HY := Lib.hid (HY.out.step b4)
  clear b4
  have b3 := (Below.refl w13.heap.size w13).alloc (Nat.le_refl _) (.cells #[.string (st S.1.path), .slice y.A y.n y.c, .int .i64 S.1.dev, .bool S.1.gone, .int .i64 S.1.size, .int .i64 S.1.len, .slice y.D y.m y.k] 27)
  replace X := Lib.hid (hstep X.out b3)
  replace Y := Lib.hid (hstep Y.out b3)
  replace HE := Lib.hid (HE.out.below b3)
  replace BA := Lib.hid (BA.out.trans (b3.mono BA.out.size))
  replace HR := Lib.hid (HR.out.step b3)
  replace HQ := Lib.hid (HQ.out.step b3)
  replace PX := Lib.hid (hstep PX.out b3)
  replace HX := Lib.hid (HX.out.step b3)
  have PY := Lib.hid (heap_alloc_new w13 (.cells #[.string (st S.1.path), .slice y.A y.n y.c, .int .i64 S.1.dev, .bool S.1.gone, .int .i64 S.1.size, .int .i64 S.1.len, .slice y.D y.m y.k] 27))
  clear b3
  (try dsimp only)
  go_upto_region 11 with fail
  generalize w13.alloc (.cells #[.string (st S.1.path), .slice y.A y.n y.c, .int .i64 S.1.dev, .bool S.1.gone, .int .i64 S.1.size, .int .i64 S.1.len, .slice y.D y.m y.k] 27) = w14 at *
  generalize w13.heap.size = gy at *
  have OE := Lib.hid (own_empty' w14 27 7)
  have b0 := Lib.hid ((Below.refl w14.heap.size w14).alloc (Nat.le_refl _) (.cells #[] 27))
  have HRD := Lib.hid (Reads.below (Reads.below HLR.out.rd (BA.out.mono hB)) (b0.out.mono (Nat.le_trans hB BA.out.size)))
  go_wp2_with (first
    | (refine wpList_append_any _ rfl (.tmp 82) (.tmp 83) 28 rfl w14.heap.size 27 i0 _ 7 96 Tryz.underlying28 hi0 hz0 hz1 hz2 rfl (by decide) (.slice (some ⟨w14.heap.size, 0, none⟩) 0 0) 0 [] rfl OE.out B A n c (l.flatMap rcC) rfl HRD.out (oneCell_rc l) (by simp only [maxLen]; omega) (by omega) (by simp) ?_
       intro v' w15 ho1 hg1 _
       rw [Nat.zero_add] at ho1
       obtain ⟨A2, c2, rfl, _⟩ := own_shape ho1)
    | fail)
  have b3 := ((Below.refl w14.heap.size w14).alloc (Nat.le_refl _) (.cells #[] 27)).grown hg1 (by simp) (fun j hj => (OE.out.lt j hj).1)
  have RD := Lib.hid (show Reads w15 w15.heap.size 7 A2 n (l.flatMap rcC) from Reads.of_own ho1)
  replace X := Lib.hid (hstep X.out b3)
  replace Y := Lib.hid (hstep Y.out b3)
  replace HE := Lib.hid (HE.out.below b3)
  replace BA := Lib.hid (BA.out.trans (b3.mono BA.out.size))
  replace HR := Lib.hid (HR.out.step b3)
  replace HQ := Lib.hid (HQ.out.step b3)
  replace PX := Lib.hid (hstep PX.out b3)
  replace HX := Lib.hid (HX.out.step b3)
  replace PY := Lib.hid (hstep PY.out b3)
  replace HY := Lib.hid (HY.out.step b3)
  clear b3 ho1 hg1 OE b0 HRD
  have ROWS := Lib.hid (show RRows w15 w15.heap.size A2 n l from ⟨RD.out, fun x hx => ((HLR.out.al x hx).below (BA.out.mono hB)).more (Nat.le_trans hB BA.out.size)⟩)
  have SV := of_v' l A2 n c2 w15.heap.size w15 HE.out.m ROWS.out (Nat.le_refl _) (by omega)
  rw [HON.out] at SV
  replace SV := Lib.hid SV
  refine SV.out.mono ?_
  rintro e w16 ⟨rfl, b3⟩
  replace X := Lib.hid (hstep X.out b3)
  replace Y := Lib.hid (hstep Y.out b3)
  replace HE := Lib.hid (HE.out.below b3)
  replace BA := Lib.hid (BA.out.trans (b3.mono BA.out.size))
  replace HR := Lib.hid (HR.out.step b3)
  replace HQ := Lib.hid (HQ.out.step b3)
  replace PX := Lib.hid (hstep PX.out b3)
  replace HX := Lib.hid (HX.out.step b3)
  replace PY := Lib.hid (hstep PY.out b3)
  replace HY := Lib.hid (HY.out.step b3)
  clear b3 SV RD ROWS
  have SV := rof_v l A n c B w16 (HLR.out.below (BA.out.mono hB)) (Nat.le_trans hB BA.out.size) (by omega)
  rw [HON.out] at SV
  replace SV := Lib.hid SV
  go_wp2_with fail
  refine SV.out.mono ?_
  rintro e w17 ⟨rfl, b3⟩
  replace X := Lib.hid (hstep X.out b3)
  replace Y := Lib.hid (hstep Y.out b3)
  replace HE := Lib.hid (HE.out.below b3)
  replace BA := Lib.hid (BA.out.trans (b3.mono BA.out.size))
  replace HR := Lib.hid (HR.out.step b3)
  replace HQ := Lib.hid (HQ.out.step b3)
  replace PX := Lib.hid (hstep PX.out b3)
  replace HX := Lib.hid (HX.out.step b3)
  replace PY := Lib.hid (hstep PY.out b3)
  replace HY := Lib.hid (HY.out.step b3)
  clear b3 SV HLR
  have hmk := run_makeMap (P := Tryz.prog) 39 w17
  have TM := Lib.hid (show TMap ((w17.alloc (.map #[] 0)).alloc (.cells #[.map (some w17.heap.size)] 39)) w17.heap.size [] from (MapIs.made w17).keep (Below.heap_alloc _ _ _ (by simp)))
  have CM := Lib.hid (show ((w17.alloc (.map #[] 0)).alloc (.cells #[.map (some w17.heap.size)] 39)).heap[w17.heap.size + 1]? = some (.cells #[.map (some w17.heap.size)] 39 (0, 0)) from by
    have := heap_alloc_new (w17.alloc (.map #[] 0)) (.cells #[.map (some w17.heap.size)] 39)
    rwa [show (w17.alloc (.map #[] 0)).heap.size = w17.heap.size + 1 by simp] at this)
  have b4 := Lib.hid (((Below.refl w17.heap.size w17).alloc (Nat.le_refl _) (.map #[] 0)).alloc (by simp) (.cells #[.map (some w17.heap.size)] 39))
  have hz18 : w17.heap.size + 2 ≤ ((w17.alloc (.map #[] 0)).alloc (.cells #[.map (some w17.heap.size)] 39)).heap.size := by simp
  go_upto_region 15 with fail
  clear hmk
  generalize (w17.alloc (.map #[] 0)).alloc (.cells #[.map (some w17.heap.size)] 39) = w18 at *
  generalize hgm : w17.heap.size = gm at *
  have HGM := Lib.hid hgm
  clear hgm
  have HB4 := Lib.hid (show Below gm w17 w18 from b4.out)
  clear b4
  go_loopw [26] (fun i wr => ∃ k : Nat, k ≤ m ∧ i = .int .i64 (k : Int) ∧ (∃ E, TMap wr gm E ∧ Holds E (ts.take k)) ∧ wr.heap[gm + 1]? = some (.cells #[.map (some gm)] 39 (0, 0)) ∧ Below gm w17 wr ∧ gm + 2 ≤ wr.heap.size) (fun i _ => m - (intOf i).toNat)
  case atStart => exact ⟨0, Nat.zero_le _, rfl, ⟨[], TM.out, by rw [List.take_zero]; exact Holds.nil⟩, CM.out, HB4.out, hz18⟩
  case round =>
    obtain ⟨k, hk, rfl, ⟨E, hm, hh⟩, hcm, hb, hz⟩ := hrel
    clear HB4 TM CM hz18
    have HCM := Lib.hid hcm
    have HB := Lib.hid hb
    have HM := Lib.hid hm
    have HH := Lib.hid hh
    clear hcm hb hm hh
    have BB := Lib.hid (BA.out.trans (HB.out.mono (show w.heap.size ≤ gm by have := BA.out.size; have := HGM.out; omega)))
    by_cases hlt : k < m
    · obtain ⟨ad, t, rfl, hx, hc⟩ := texts_at HT.out hlt
      have HXT := Lib.hid hx
      have htl : t.length ≤ maxLen := HTS.out t (List.mem_of_getElem? hx)
      have ct : wr.cell? (ad.add k) = some (.string (st t)) := hc wr (BB.out.mono hB)
      have cm : wr.cell? ⟨gm + 1, 0, none⟩ = some (.map (some gm)) := by rw [cell_of_row _ _ 0 _ _ _ HCM.out]; rfl
      obtain ⟨W', hr, hm2, hg2, hs2⟩ := TMap.store_ (show TMap wr.drew gm E from HM.out.keep rfl) t true htl
      have HM2 := Lib.hid hm2
      have HG2 := Lib.hid hg2
      have HS2 := Lib.hid (show W'.heap.size = wr.heap.size from hs2)
      clear hx hc hm2 hg2 hs2 htl
      go_wp2
      go_still_tail 5, (by kernel_rfl)
      have hr : (Instr.mapUpdate 39 (.map (some gm)) (.string (st t)) (.bool true)).run Tryz.prog { heap := wr.heap, tape := wr.tape, drawn := wr.drawn + 1, os := wr.os, output := wr.output } = .ok () W' := hr
      go_wp2
      clear hr ct cm
      have HB3 := Lib.hid ((HB.out.drew).grown HG2.out (show gm ≤ wr.heap.size by omega) (fun j e => by have := Option.some.inj e; omega))
      have HC3 := Lib.hid (show W'.heap[gm + 1]? = some (.cells #[.map (some gm)] 39 (0, 0)) from (HG2.out.block (gm + 1) (show gm + 1 < wr.heap.size by omega) (fun e => by have := Option.some.inj e; omega)).trans HCM.out)
      have hz3 : gm + 2 ≤ W'.heap.size := by have := HS2.out; omega
      go_roundw
      case rel => exact ⟨k + 1, hlt, by go_num, ⟨_, HM2.out, HH.out.step HXT.out⟩, HC3.out, HB3.out, hz3⟩
      case measure => simp [intOf]; omega
    obtain rfl : m = k := by omega
    clear hlt hk
    have HHS := Lib.hid (show (fun s => (aget s E).getD false) = tkS ts from funext fun s => by
      have := HH.out s
      rwa [List.take_of_length_le (by have := HT.out.1; simp at this; omega)] at this)
    obtain rfl := HGM.out
    have b3 : Below w17.heap.size w17 wr := HB.out
    replace X := Lib.hid (hstep X.out b3)
    replace Y := Lib.hid (hstep Y.out b3)
    replace HE := Lib.hid (HE.out.below b3)
    replace BA := Lib.hid (BA.out.trans (b3.mono BA.out.size))
    replace HR := Lib.hid (HR.out.step b3)
    replace HQ := Lib.hid (HQ.out.step b3)
    replace PX := Lib.hid (hstep PX.out b3)
    replace HX := Lib.hid (HX.out.step b3)
    replace PY := Lib.hid (hstep PY.out b3)
    replace HY := Lib.hid (HY.out.step b3)
    clear b3 HB HH BB
    have SV := place_any r a wr.heap.size 16 #[.pointer (some ⟨w17.heap.size + 1, 0, none⟩)] (fun s => (aget s E).getD false) wr HE.out HR.out (Nat.le_refl _)
      (run_f Tryz.func16 (by kernel_rfl) rfl)
      (fun s W hs hb => asked_v s (w17.heap.size + 1) w17.heap.size E W hs (by rw [cell_of_row _ _ 0 _ _ _ ((hb.block (w17.heap.size + 1) (by omega)).trans HCM.out)]; rfl) (HM.out.keep (hb.block w17.heap.size (by omega))))
    rw [HHS.out, HPN.out] at SV
    replace SV := Lib.hid SV
    have c4 : wr.cell? ⟨w17.heap.size + 1, 0, none⟩ = some (.map (some w17.heap.size)) := by rw [cell_of_row _ _ 0 _ _ _ HCM.out]; rfl
    go_wp2_with (first | (refine wpList_load_slot rfl 27 (.tmp 4) rfl ⟨w.heap.size, 0, none⟩ rfl [.string (st r.path), .slice a.A a.n a.c, .int .i64 r.dev, .bool r.gone, .int .i64 r.size, .int .i64 r.len, .slice a.D a.m a.k] _ (rcells_at X.out arr_at) Tryz.underlying27 rfl HI.out ?_) | (refine wpList_load_slot rfl 27 (.tmp 5) rfl ⟨w.heap.size + 1, 0, none⟩ rfl [.string (st q.path), .slice b.A b.n b.c, .int .i64 q.dev, .bool q.gone, .int .i64 q.size, .int .i64 q.len, .slice b.D b.m b.k] _ (rcells_at Y.out arr_at) Tryz.underlying27 rfl HI.out ?_) | fail)
    refine SV.out.mono ?_
    rintro e w19 ⟨rfl, b3⟩
    replace X := Lib.hid (hstep X.out b3)
    replace Y := Lib.hid (hstep Y.out b3)
    replace HE := Lib.hid (HE.out.below b3)
    replace BA := Lib.hid (BA.out.trans (b3.mono BA.out.size))
    replace HR := Lib.hid (HR.out.step b3)
    replace HQ := Lib.hid (HQ.out.step b3)
    replace PX := Lib.hid (hstep PX.out b3)
    replace HX := Lib.hid (HX.out.step b3)
    replace PY := Lib.hid (hstep PY.out b3)
    replace HY := Lib.hid (HY.out.step b3)
    clear b3 SV c4 HM HCM HHS
    have SV := rplace_v r a ts T m k w.heap.size w19 ((HR1.out.below BA.out)) (Reads.more (Reads.below HT.out (BA.out.mono hB)) hB) BA.out.size hm11
    rw [HPN.out] at SV
    replace SV := Lib.hid SV
    go_wp2_with (first | (refine wpList_load_slot rfl 27 (.tmp 4) rfl ⟨w.heap.size, 0, none⟩ rfl [.string (st r.path), .slice a.A a.n a.c, .int .i64 r.dev, .bool r.gone, .int .i64 r.size, .int .i64 r.len, .slice a.D a.m a.k] _ (rcells_at X.out arr_at) Tryz.underlying27 rfl HI.out ?_) | (refine wpList_load_slot rfl 27 (.tmp 5) rfl ⟨w.heap.size + 1, 0, none⟩ rfl [.string (st q.path), .slice b.A b.n b.c, .int .i64 q.dev, .bool q.gone, .int .i64 q.size, .int .i64 q.len, .slice b.D b.m b.k] _ (rcells_at Y.out arr_at) Tryz.underlying27 rfl HI.out ?_) | fail)
    refine SV.out.mono ?_
    rintro e w20 ⟨rfl, b3⟩
    replace X := Lib.hid (hstep X.out b3)
    replace Y := Lib.hid (hstep Y.out b3)
    replace HE := Lib.hid (HE.out.below b3)
    replace BA := Lib.hid (BA.out.trans (b3.mono BA.out.size))
    replace HR := Lib.hid (HR.out.step b3)
    replace HQ := Lib.hid (HQ.out.step b3)
    replace PX := Lib.hid (hstep PX.out b3)
    replace HX := Lib.hid (HX.out.step b3)
    replace PY := Lib.hid (hstep PY.out b3)
    replace HY := Lib.hid (HY.out.step b3)
    clear b3 SV
    have SV := krec_v S.1 S.1 x y w20.heap.size w20 HX.out HY.out (Nat.le_refl _)
    rw [sameR_self] at SV
    replace SV := Lib.hid SV
    go_wp2_with (first
      | (refine wpList_load_slot rfl 27 (.tmp 17) rfl ⟨gx, 0, none⟩ rfl [.string (st S.1.path), .slice x.A x.n x.c, .int .i64 S.1.dev, .bool S.1.gone, .int .i64 S.1.size, .int .i64 S.1.len, .slice x.D x.m x.k] _ (rcells_at PX.out arr_at) Tryz.underlying27 rfl HI.out ?_)
      | (refine wpList_load_slot rfl 27 (.tmp 19) rfl ⟨gy, 0, none⟩ rfl [.string (st S.1.path), .slice y.A y.n y.c, .int .i64 S.1.dev, .bool S.1.gone, .int .i64 S.1.size, .int .i64 S.1.len, .slice y.D y.m y.k] _ (rcells_at PY.out arr_at) Tryz.underlying27 rfl HI.out ?_)
      | fail)
    refine SV.out.mono ?_
    rintro e w21 ⟨rfl, b3⟩
    replace BA := Lib.hid (BA.out.trans (b3.mono BA.out.size))
    clear b3 SV
    go_wp2
    go_ret
    exact ⟨by first | rfl | simp, BA.out⟩
end Go.Proofs.YtndekohimfjdeaaGreatDoor

namespace Go.Proofs.YtndekohimfjdeaaGreatDoor
open Go.RowKit Go.WideShapes Go.ChangeShapes
section
variable {H : Type} {enc : TypeId × Value → H} {P : Program} {w : World} {base : Nat} {spare : Nat → Bool} {held : Bool}
theorem okWide_array {r : Reach} {b0 : Nat} {t e : TypeId} {n : Nat} {v : Value} (ht : P.underlying t = some (.array n e)) (h : Value.okWide P w r b0 t v) : ∃ cs, v = .agg cs ∧ cs.size = P.cellsOf t := by
  unfold Value.okWide at h
  rw [ht] at h
  obtain ⟨cs, rfl, h1, _⟩ := h
  exact ⟨cs, rfl, h1⟩
theorem mapM_range_some {α : Type} {f : Nat → Option α} : ∀ {n : Nat} {xs : List α}, (List.range n).mapM f = some xs → ∀ i, i < n → ∃ y, f i = some y := by
  intro n xs h i hi
  have key : ∀ (l : List Nat) (ys : List α), l.mapM f = some ys → ∀ j ∈ l, ∃ y, f j = some y := by
    intro l
    induction l with
    | nil => intro ys _ j hj; cases hj
    | cons a l ih =>
      intro ys hy j hj
      simp only [List.mapM_cons, Option.bind_eq_bind, Option.bind_eq_some_iff] at hy
      obtain ⟨y, hy1, zs, hy2, _⟩ := hy
      rcases List.mem_cons.1 hj with rfl | hj
      · exact ⟨y, hy1⟩
      · exact ih zs hy2 j hj
  exact key _ _ h i (List.mem_range.2 hi)
theorem wf_nonneg_u8 (z : Int) (h : (Lit.int .u8 z).wf = true) : 0 ≤ z := (bounds_u8 h).1
theorem wf_nonneg_u32 (z : Int) (h : (Lit.int .u32 z).wf = true) : 0 ≤ z := (bounds_u32 h).1
/-- An array of unsigned integers, opened. -/
theorem open_array {r : Reach} {b0 : Nat} {t e : TypeId} {n : Nat} {k : IntKind} {v : Value} {d : DataW H} {p : List MemPlace} (ht : P.underlying t = some (.array n e)) (he : P.underlying e = some (.int k)) (ct : P.cellsOf t = n) (ce : P.cellsOf e = 1)
    (hk : ∀ z : Int, (Lit.int k z).wf = true → 0 ≤ z) (hv : Value.okWide P w r b0 t v) (h : DataW.Trod enc P w base spare held t v d p) :
    ∃ zs : List Nat, v = .agg (zs.map fun x : Nat => Value.int k (x : Int)).toArray ∧ zs.length = n ∧ ∀ x ∈ zs, (Lit.int k (x : Int)).wf = true := by
  obtain ⟨cs, rfl, hsz⟩ := okWide_array ht hv
  obtain ⟨fuel, hf⟩ := h
  have hcell : ∀ i, i < n → ∃ z : Int, cs[i]? = some (.int k z) ∧ (Lit.int k z).wf = true := by
    intro i hi
    cases fuel with
    | zero => simp [DataW.trod] at hf
    | succ m =>
      unfold DataW.trod at hf
      rw [ht] at hf
      dsimp only at hf
      rw [if_pos (show (Value.agg cs).cells.toList.length = P.cellsOf t by show cs.toList.length = _; rw [Array.length_toList, hsz])] at hf
      simp only [Value.cells] at hf
      · cases hm : (List.range n).mapM (fun i => DataW.trod enc P w base spare held m e ((cs.toList.drop (i * P.cellsOf e)).take (P.cellsOf e))) with
        | none => rw [hm] at hf; cases hf
        | some xs =>
          obtain ⟨y, hy⟩ := mapM_range_some hm i hi
          obtain ⟨z, h1, _, h2⟩ := DataW.trod_int he hy
          refine ⟨z, ?_, h2⟩
          rw [ce, Nat.mul_one] at h1
          have h3 : ((cs.toList.drop i).take 1)[0]? = some (.int k z) := by rw [h1]; rfl
          rw [List.getElem?_take, if_pos (by omega), List.getElem?_drop, Nat.add_zero] at h3
          rw [← h3, Array.getElem?_toList]
  have hlen : cs.toList.length = n := by rw [Array.length_toList, hsz, ct]
  refine ⟨cs.toList.map fun v => match v with | .int _ z => z.toNat | _ => 0, ?_, by rw [List.length_map, hlen], ?_⟩
  · congr 1
    apply Array.ext'
    rw [List.map_map]
    show cs.toList = cs.toList.map _
    conv => lhs; rw [← List.map_id cs.toList]
    refine List.map_congr_left fun v hv => ?_
    obtain ⟨i, hi, rfl⟩ := List.getElem_of_mem hv
    obtain ⟨z, hz, hw⟩ := hcell i (by omega)
    have hz2 : cs.toList[i] = .int k z := by
      have : cs.toList[i]? = some (.int k z) := by rw [Array.getElem?_toList]; exact hz
      rw [List.getElem?_eq_getElem hi] at this
      injection this
    rw [hz2]
    simp only [id, Function.comp]
    rw [Int.toNat_of_nonneg (hk z hw)]
  · intro x hx
    obtain ⟨v, hv, rfl⟩ := List.mem_map.1 hx
    obtain ⟨i, hi, rfl⟩ := List.getElem_of_mem hv
    obtain ⟨z, hz, hw⟩ := hcell i (by omega)
    have hz2 : cs.toList[i] = .int k z := by
      have : cs.toList[i]? = some (.int k z) := by rw [Array.getElem?_toList]; exact hz
      rw [List.getElem?_eq_getElem hi] at this
      injection this
    rw [hz2]
    simp only []
    rw [Int.toNat_of_nonneg (hk z hw)]
    exact hw
end
end Go.Proofs.YtndekohimfjdeaaGreatDoor

namespace Go.Proofs.YtndekohimfjdeaaGreatDoor
open Go.RowKit Go.Shelf Go.WideShapes Go.ChangeShapes
theorem flat_inv {α : Type} {enc : α → List Value} {K : Nat} (hK : 0 < K) (hk : ∀ x, (enc x).length = K) (l : List α) (j : Nat) (u : Value) (h : (l.flatMap enc)[j]? = some u) : ∃ x, l[j / K]? = some x ∧ (enc x)[j % K]? = some u := by
  have hj : j < l.length * K := by
    have := (List.getElem?_eq_some_iff.1 h).1
    rwa [flat_len hk] at this
  have hd : j / K < l.length := Nat.div_lt_of_lt_mul (by rw [Nat.mul_comm]; exact hj)
  refine ⟨l[j / K], List.getElem?_eq_getElem hd, ?_⟩
  have h2 := flat_at hk l (List.getElem?_eq_getElem hd) (Nat.mod_lt j hK)
  rw [← h2, Nat.mul_comm, Nat.div_add_mod, h]
instance : Inhabited Dg := ⟨⟨List.replicate 32 0, by simp⟩⟩
section
variable {H : Type} {enc : TypeId × Value → H} {w : World} {held : Bool}
set_option maxRecDepth 100000 in
/-- A slice of structs (or plain values) that came in. -/
theorem open_of {α : Type} [Inhabited α] {ec : α → List Value} {K : Nat} (hK : 0 < K) (hk : ∀ x, (ec x).length = K) {Pz : α → Prop} {t e : TypeId} (hu : Tryz.prog.underlying t = some (.slice e)) (hce : Tryz.prog.cellsOf e = K)
    (hone : ∀ {fuel : Nat} {cs : List Value} {y : DataW H × List MemPlace}, DataW.trod enc Tryz.prog w 0 (fun _ => true) held fuel e cs = some y → ∃ z : α, cs = ec z ∧ Pz z)
    {fuel : Nat} {cs : List Value} {y : DataW H × List MemPlace} (hf : DataW.trod enc Tryz.prog w 0 (fun _ => true) held fuel t cs = some y) :
    ∃ (a : Option Addr) (n c : Nat) (l : List α), cs = [.slice a n c] ∧ Reads w w.heap.size K a n (l.flatMap ec) ∧ (∀ x ∈ l, Pz x) ∧ n ≤ c ∧ c ≤ maxLen := by
  rcases Go.Deep.open_slice hu hf with ⟨hcs, _⟩ | ⟨ad, len, cap, m, n, D, Pl, hcv, _, hl, hm, hmm, _, hx⟩
  · exact ⟨none, 0, 0, [], hcs, Reads.none_, by simp, Nat.le_refl _, by decide⟩
  · have hv : ∀ i, i < len → ∃ z : α, (∀ j u, (ec z)[j]? = some u → w.cell? (ad.add (i * K + j)) = some u) ∧ Pz z := by
      intro i hi
      obtain ⟨cs', h1, h2⟩ := hx i (by rw [hmm]; split <;> omega)
      rw [hce] at h1
      obtain ⟨_, hlen, hcell⟩ := World.cells?_some h1
      obtain ⟨z, rfl, hz⟩ := hone h2
      refine ⟨z, fun j u hu => ?_, hz⟩
      have hj := (List.getElem?_eq_some_iff.1 hu).1
      have e := hcell j (by rw [← hlen]; exact hj)
      rw [add_of_add] at e
      rw [e]
      first | exact hu | (rw [← hu]; simp [List.getD_eq_getElem?_getD])
    obtain ⟨q, hq⟩ := Go.Deep.choose_lt hv
    refine ⟨some ad, len, cap, (List.range len).map q, hcv, ⟨by rw [flat_len hk]; simp, fun hn => ⟨ad, rfl, ?_, fun j u hu => ?_⟩⟩, fun x hx => ?_, hl, hm⟩
    · obtain ⟨v, hv0⟩ : ∃ v, (ec (q 0))[0]? = some v := ⟨_, List.getElem?_eq_getElem (by rw [hk]; exact hK)⟩
      have hn0 : 0 < len := by
        rcases Nat.eq_zero_or_pos len with h | h
        · subst h; simp at hn
        · exact h
      have h := World.block_lt_of_cell? w _ ((hq 0 hn0).1 0 v hv0)
      rwa [block_of_add] at h
    · obtain ⟨x, h1, h2⟩ := flat_inv hK hk _ j u hu
      rw [List.getElem?_map] at h1
      have hi : j / K < len := by
        rcases Nat.lt_or_ge (j / K) len with h | h
        · exact h
        · rw [List.getElem?_eq_none (by simpa using h)] at h1
          cases h1
      rw [List.getElem?_range hi] at h1
      injection h1 with h1
      subst h1
      have := (hq (j / K) hi).1 (j % K) u h2
      rwa [show j / K * K + j % K = j by rw [Nat.mul_comm]; exact Nat.div_add_mod j K] at this
    · obtain ⟨i, hi, rfl⟩ := List.mem_map.1 hx
      exact (hq i (List.mem_range.1 hi)).2
set_option maxRecDepth 100000 in
theorem dg_of {fuel : Nat} {cs : List Value} {y : DataW H × List MemPlace} (hf : DataW.trod enc Tryz.prog w 0 (fun _ => true) held fuel 70 cs = some y) : ∃ d : Dg, cs = d.cells := by
  have ct : Tryz.prog.cellsOf 70 = 32 := by kernel_rfl
  have ce : Tryz.prog.cellsOf 5 = 1 := by kernel_rfl
  have h0 : cs.length = 32 ∧ ∀ i, i < 32 → ∃ z : Int, cs[i]? = some (.int .u8 z) ∧ (Lit.int .u8 z).wf = true := by
    cases fuel with
    | zero => simp [DataW.trod] at hf
    | succ m =>
      unfold DataW.trod at hf
      rw [Tryz.underlying70] at hf
      dsimp only at hf
      split at hf
      · rename_i hsz
        rw [ct] at hsz
        refine ⟨hsz, fun i hi => ?_⟩
        cases hm : (List.range 32).mapM (fun i => DataW.trod enc Tryz.prog w 0 (fun _ => true) held m 5 ((cs.drop (i * Tryz.prog.cellsOf 5)).take (Tryz.prog.cellsOf 5))) with
        | none => rw [hm] at hf; cases hf
        | some xs =>
          obtain ⟨y, hy⟩ := mapM_range_some hm i hi
          obtain ⟨z, h1, _, h2⟩ := DataW.trod_int Tryz.underlying5 hy
          refine ⟨z, ?_, h2⟩
          rw [ce, Nat.mul_one] at h1
          have h3 : ((cs.drop i).take 1)[0]? = some (.int .u8 z) := by rw [h1]; rfl
          rw [List.getElem?_take, if_pos (by omega), List.getElem?_drop, Nat.add_zero] at h3
          exact h3
      · cases hf
  obtain ⟨hl, hc⟩ := h0
  refine ⟨⟨cs.map fun v => match v with | .int _ z => z.toNat | _ => 0, by rw [List.length_map, hl]⟩, ?_⟩
  show cs = (cs.map _).map _
  rw [List.map_map]
  conv => lhs; rw [← List.map_id cs]
  refine List.map_congr_left fun v hv => ?_
  obtain ⟨i, hi, rfl⟩ := List.getElem_of_mem hv
  obtain ⟨z, hz, hw⟩ := hc i (by omega)
  rw [List.getElem?_eq_getElem hi] at hz
  injection hz with hz
  rw [hz]
  simp only [id, Function.comp]
  rw [Int.toNat_of_nonneg (wf_nonneg_u8 z hw)]
set_option maxRecDepth 100000 in
theorem cnt_of {fuel : Nat} {cs : List Value} {y : DataW H × List MemPlace} (h : DataW.trod enc Tryz.prog w 0 (fun _ => true) held fuel 50 cs = some y) : ∃ x : Int × Nat, cs = cntC x ∧ x.2 < 18446744073709551616 := by
  have c0 : Tryz.prog.cellsOf 50 = 2 := by kernel_rfl
  have c1 : Tryz.prog.cellsOf 3 = 1 := by kernel_rfl
  have c2 : Tryz.prog.cellsOf 48 = 1 := by kernel_rfl
  obtain ⟨xs, k, _, _, hl, hxl, hfd⟩ := DataW.trod_struct Tryz.underlying50 h
  rw [c0] at hl
  match xs, hxl, cs, hl with
  | [y0, y1], _, [v0, v1], _ =>
    have g0 := hfd 0 _ rfl
    have g1 := hfd 1 _ rfl
    simp [c1, c2] at g0 g1
    obtain ⟨z0, r0, _, _⟩ := DataW.trod_int Tryz.underlying3 g0
    obtain ⟨z1, r1, _, w1⟩ := DataW.trod_int Tryz.underlying48 g1
    injection r0 with r0
    injection r1 with r1
    subst r0 r1
    have hb := bounds_u64 w1
    obtain ⟨x, rfl⟩ := Int.eq_ofNat_of_zero_le hb.1
    exact ⟨(z0, x), rfl, by dsimp only; omega⟩
/-- A record that came in. -/
structure Rx where
  r : Rcd
  a : RSh
def Rx.cells (x : Rx) : List Value := rcC (x.r, x.a)
structure RxIn (w : World) (B : Nat) (x : Rx) : Prop where
  i : RIn w B x.r x.a
  n : x.a.n ≤ maxLen
  m : x.a.m ≤ maxLen
set_option maxRecDepth 100000 in
theorem rec_of {cs : List Value} {n : Nat} {y : DataW H × List MemPlace} (h : DataW.trod enc Tryz.prog w 0 (fun _ => true) held n 27 cs = some y) : ∃ x : Rx, cs = x.cells ∧ RxIn w w.heap.size x := by
  have c0 : Tryz.prog.cellsOf 27 = 7 := by kernel_rfl
  have c1 : Tryz.prog.cellsOf 3 = 1 := by kernel_rfl
  have c2 : Tryz.prog.cellsOf 23 = 1 := by kernel_rfl
  have c3 : Tryz.prog.cellsOf 9 = 1 := by kernel_rfl
  have c4 : Tryz.prog.cellsOf 4 = 1 := by kernel_rfl
  have c5 : Tryz.prog.cellsOf 22 = 1 := by kernel_rfl
  have c6 : Tryz.prog.cellsOf 25 = 3 := by kernel_rfl
  obtain ⟨xs, k, _, _, hl, hxl, hfd⟩ := DataW.trod_struct Tryz.underlying27 h
  rw [c0] at hl
  match xs, hxl, cs, hl with
  | [y0, y1, y2, y3, y4], _, [v0, v1, v2, v3, v4, v5, v6], _ =>
    have g0 := hfd 0 _ rfl
    have g1 := hfd 1 _ rfl
    have g2 := hfd 2 _ rfl
    have g3 := hfd 3 _ rfl
    have g4 := hfd 4 _ rfl
    simp [c1, c3, c4, c5, c6] at g0 g1 g2 g3 g4
    obtain ⟨s, r0, _, _⟩ := DataW.trod_string Tryz.underlying9 g0
    injection r0 with r0
    subst r0
    obtain ⟨a, n1, cc, lv, h1, hr1, hp1, hlc1, hcm1⟩ := open_of (ec := cntC) (K := 2) (by decide) (fun _ => rfl) Tryz.underlying22 (by kernel_rfl) cnt_of g1
    injection h1 with h1
    subst h1
    obtain ⟨z2, r2, _, _⟩ := DataW.trod_int Tryz.underlying3 g2
    injection r2 with r2
    subst r2
    obtain ⟨z3, r3, _⟩ := DataW.trod_bool Tryz.underlying4 g3
    injection r3 with r3
    subst r3
    have k0 : Tryz.prog.cellsOf 25 = 3 := by kernel_rfl
    obtain ⟨xs', k', _, _, hl', hxl', hfd'⟩ := DataW.trod_struct Tryz.underlying25 g4
    match xs', hxl' with
    | [q0, q1, q2], _ =>
      have f0 := hfd' 0 _ rfl
      have f1 := hfd' 1 _ rfl
      have f2 := hfd' 2 _ rfl
      simp [c1, c2] at f0 f1 f2
      obtain ⟨z4, r4, _, _⟩ := DataW.trod_int Tryz.underlying3 f0
      obtain ⟨z5, r5, _, _⟩ := DataW.trod_int Tryz.underlying3 f1
      injection r4 with r4
      injection r5 with r5
      subst r4 r5
      obtain ⟨D, m1, kk, ds, h6, hr6, _, hlc6, hcm6⟩ := open_of (ec := Dg.cells) (K := 32) (by decide) Dg.cells_len Tryz.underlying23 (by kernel_rfl) (Pz := fun _ => True) (fun h => by obtain ⟨d, hd⟩ := dg_of h; exact ⟨d, hd, trivial⟩) f2
      injection h6 with h6
      subst h6
      refine ⟨⟨⟨s.data.toList, lv, z2, z3, z4, z5, ds⟩, ⟨a, n1, cc, D, m1, kk⟩⟩, ?_, ⟨⟨?_, hr6, fun x hx => hp1 x hx⟩, Nat.le_trans hlc1 hcm1, Nat.le_trans hlc6 hcm6⟩⟩
      · simp only [Rx.cells, rcC, ← st_of]
      · show Reads _ _ 2 _ _ (cntsC lv)
        rw [show cntsC lv = lv.flatMap cntC from (List.flatMap_def).symm]
        exact hr1
instance : Inhabited Rx := ⟨⟨⟨[], [], 0, false, 0, 0, []⟩, ⟨none, 0, 0, none, 0, 0⟩⟩⟩
set_option maxRecDepth 100000 in
theorem open_rec {r : Reach} {b0 : Nat} {v : Value} {d : DataW H} {p : List MemPlace} (hv : Value.okWide Tryz.prog w r b0 27 v) (h : DataW.Trod enc Tryz.prog w 0 (fun _ => true) held 27 v d p) :
    ∃ x : Rx, v = .agg x.cells.toArray ∧ RxIn w w.heap.size x := by
  unfold Value.okWide at hv
  rw [Tryz.underlying27] at hv
  obtain ⟨cs, rfl, h1, _⟩ := hv
  obtain ⟨fuel, hf⟩ := h
  obtain ⟨x, hx, hi⟩ := rec_of hf
  refine ⟨x, ?_, hi⟩
  have : cs.toList = x.cells := hx
  rw [← this]
end
theorem envM_of {W : World} (hS : W.ShapedOpen Tryz.prog) : EnvM W :=
  ⟨Go.Proofs.cell_of_shapedOpen_int (zero := #[.int .i64 0]) (t := 3) hS (of_decide_eq_true (by kernel_rfl)) (by kernel_rfl) rfl (by kernel_rfl) (by kernel_rfl) Tryz.underlying3⟩
end Go.Proofs.YtndekohimfjdeaaGreatDoor

namespace Go.Proofs.YtndekohimfjdeaaGreatDoor
open Go.RowKit Go.Shelf Go.WideShapes Go.ChangeShapes
/-- What the walk is told of a slice of records that came in. -/
structure RsIn (w : World) (a : Option Addr) (len cap : Nat) (l : List Rx) : Prop where
  rd : Reads w w.heap.size 7 a len (l.flatMap Rx.cells)
  al : ∀ x ∈ l, RxIn w w.heap.size x
  hc : len ≤ cap
  hm : cap ≤ maxLen
/-- What the walk is told of a slice of texts that came in. -/
structure TsIn (w : World) (a : Option Addr) (len cap : Nat) (l : List Bl) : Prop where
  rd : SReads w w.heap.size a len (l.map st)
  sz : ∀ t ∈ l, t.length ≤ maxLen
  hc : len ≤ cap
  hm : cap ≤ maxLen
section
variable {H : Type} {enc : TypeId × Value → H} {w : World} {held : Bool} {a : Option Addr} {len cap : Nat} {d : DataW H} {ps : List MemPlace}
theorem open_recs (hd : DataW.Trod enc Tryz.prog w 0 (fun _ => true) held 28 (.slice a len cap) d ps) : ∃ l, RsIn w a len cap l := by
  obtain ⟨fuel, hf⟩ := hd
  obtain ⟨a', n', c', l, h1, hr, hp, hlc, hcm⟩ := open_of (ec := Rx.cells) (K := 7) (by decide) (fun _ => rfl) Tryz.underlying28 (by kernel_rfl) rec_of hf
  simp [Value.cells] at h1
  obtain ⟨rfl, rfl, rfl⟩ := h1
  exact ⟨l, hr, hp, hlc, hcm⟩
theorem open_texts (hd : DataW.Trod enc Tryz.prog w 0 (fun _ => true) held 29 (.slice a len cap) d ps) : ∃ l, TsIn w a len cap l := by
  obtain ⟨fuel, hf⟩ := hd
  obtain ⟨a', n', c', l, h1, hr, hp, hlc, hcm⟩ := open_of (α := Bl) (ec := fun t => [.string (st t)]) (K := 1) (by decide) (fun _ => rfl) (Pz := fun t => t.length ≤ maxLen) Tryz.underlying29 (by kernel_rfl) (fun h => by
    obtain ⟨s, r0, _, hs⟩ := DataW.trod_string Tryz.underlying9 h
    exact ⟨s.data.toList, by rw [r0, ← st_of], by rw [st_of s, st_size] at hs; exact hs⟩) hf
  simp [Value.cells] at h1
  obtain ⟨rfl, rfl, rfl⟩ := h1
  refine ⟨l, ?_, hp, hlc, hcm⟩
  have : (l.map st).map Value.string = l.flatMap fun t => [.string (st t)] := by
    rw [List.map_map, List.map_eq_flatMap]
    rfl
  unfold SReads
  rw [this]
  exact hr
set_option maxRecDepth 100000 in
/-- The form's reach: how many a slice that came in can hold. -/
theorem len_of {t e : TypeId} {ts : List TypeId} {ds : List (DataW H)} {j : Nat} (hu : Tryz.prog.underlying t = some (.slice e)) (hd : DataW.Trod enc Tryz.prog w 0 (fun _ => true) held t (.slice a len cap) d ps)
    (h : (DataW.weightsEach Tryz.prog ts ds).all (· ≤ reachBytes) = true) (ht : ts[j]? = some t) (hj : ds[j]? = some d) : len * Tryz.prog.bytesOf e ≤ reachBytes := by
  obtain ⟨fuel, hf⟩ := hd
  rcases Go.Deep.open_slice hu hf with ⟨hcs, _⟩ | ⟨ad, n', c', m, n, D, Pl, hcs, _, _, _, _, hx, _⟩
  · simp [Value.cells] at hcs
    obtain ⟨rfl, rfl, rfl⟩ := hcs
    simp
  · simp [Value.cells] at hcs
    obtain ⟨rfl, rfl, rfl⟩ := hcs
    have hx1 : d = _ := congrArg Prod.fst hx
    rw [hx1] at hj
    have := sized_slice h ht hj hu
    rw [List.length_map, List.length_range] at this
    exact Nat.le_trans (Nat.mul_le_mul_right _ (Nat.le_add_right _ _)) this
end
theorem bytes_rec : Tryz.prog.bytesOf 27 = 96 := by kernel_rfl
end Go.Proofs.YtndekohimfjdeaaGreatDoor

namespace Go.Proofs.YtndekohimfjdeaaGreatDoor
open Go Go.RowKit Go.ChangeShapes Go.WideShapes Go.ChangeAt
variable {H : Type} {enc : TypeId × Value → H}
theorem returns_and_shaped {a : Assume} {C : Checked} {os : Os} {f : FuncId} {fn : Func} {s : ChangeSpec} {conds : List PathCond} {apart fresh handsOn again : Bool} {X : World → Array Value → Prop}
    (hX : ∀ (w w' : World) (args : Array Value), w.heap = w'.heap → X w args → X w' args)
    (own : ownKnob C.prog.godebug = none) (started : os.Started) (noInit : C.prog.inits.idxOf? f = none) (hfn : C.prog.funcs[f]? = some fn)
    (witness : ∃ (w : World) (tape : Tape) (i : Input), w.os = os ∧ (w.forCall tape i).Shaped C.prog ∧ i.vars = [] ∧ Input.okWide C.prog (w.forCall tape i) .any w.heap.size f i ∧
      ((s.pre enc C.prog fn conds apart (w.forCall tape i).memory i.args ∧ X (w.forCall tape i).memory i.args) ∧ sizedMet enc C.prog fn (OpenSpec.ofChange s) apart (w.forCall tape i).memory i.args) ∧ a.holds C.prog (lone (Frame.enter C.prog f i.args .normal) [] (w.forCall tape i)))
    (contract : ∀ (W : World) (base : Nat) (args : Array Value) (ds gs : List (DataW H)) (before : List MemPlace),
      (∀ (j : Nat) t v, fn.params[j]? = some t → args[j]? = some v → Value.okWide C.prog W .any base t v) →
      DataW.Whole enc C.prog fn.params.toList s.vars apart W args.toList ds gs before →
      conds.all (PathCond.test C.prog ⟨fn.params.toList, ds, s.plain.varTypes C.prog, gs⟩) = true →
      (DataW.weightsEach C.prog (fn.params.toList ++ s.plain.varTypes C.prog) (ds ++ gs)).all (· ≤ reachBytes) = true → X W args →
      W.ShapedOpen C.prog →
      Calls C.prog f args W fun e W' => ∃ v, e = .returned v ∧ s.post enc C.prog fn apart fresh handsOn again W args v W') :
    ReturnsInHanded a C os f .any (fun w args => (s.pre enc C.prog fn conds apart w args ∧ X w args) ∧ sizedMet enc C.prog fn (OpenSpec.ofChange s) apart w args) (s.post enc C.prog fn apart fresh handsOn again) := by
  refine returnsInHanded_of_calls own started noInit witness ?_
  intro w tape i _ hsh _ hok hpre hholds
  obtain ⟨_, _, _, fn', hfn', _, _, _, _, hval⟩ := hok
  have e : fn' = fn := Option.some.inj (hfn'.symm.trans hfn)
  subst e
  obtain ⟨⟨⟨ds, gs, before, hw, hc⟩, hx⟩, hz⟩ := hpre
  have hw' := DataW.Whole.of_heap (w' := w.forCall tape i) (by rfl) hw
  refine (contract (w.forCall tape i) w.heap.size i.args ds gs before hval hw' hc (hz.weights hw) (hX _ _ _ (by rfl) hx) hsh).mono fun e W' ⟨v, he, hp⟩ => ?_
  subst he
  exact ChangeSpec.post_blind hp
end Go.Proofs.YtndekohimfjdeaaGreatDoor

namespace Go.Proofs.YtndekohimfjdeaaGreatDoor
open Go Go.RowKit
theorem tPow : (Tryz.prog.globals[1]?).map (·.type) = some 116 := by kernel_rfl
theorem cPow : Tryz.prog.cellsOf 116 = 20 := by kernel_rfl
theorem cU64 : Tryz.prog.cellsOf 48 = 1 := by kernel_rfl
theorem env_ofN {W : World} (hL : laidMetH Tryz.prog Rows.winnerCallsRow.laid W) (hS : W.ShapedOpen Tryz.prog) : Env W := by
  refine ⟨(envM_of hS).mx, ?_⟩
  rw [MakeChecks.laidMetH_plain _ _ _ (by kernel_rfl)] at hL
  have h2 := laidMet.tail (laidMet.tail hL)
  exact Lib.tabIs_of_head gPow tPow Tryz.underlying116 Tryz.underlying48 cU64 cPow h2
end Go.Proofs.YtndekohimfjdeaaGreatDoor
