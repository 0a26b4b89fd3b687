/-
  Base words of this claim: a slice that reads as a list of cells (nil included), appends onto a row of the call's own, bytes.
  Vectors: slices of counts, as lists of pairs.
  Vectors made: rows of counts of the call's own; 'of'.
  Vectors: Bump and Merge.
  Vectors: Merge.
  Vectors: both, Compare, the kit's comparison.
  Vectors: the kit's comparison, Order.
  Vectors: Order.
  What VectorBumps and VectorOrders say, in plain Lean.
  What VectorBumps says, in plain Lean: merges, bumps.
  Vectors, the reference: Check, Value.
  Arrays of numbers that lie in a block, and arrays by value.
  Vectors, the reference: values, made.
  Vectors, the reference: Bump.
  Vectors, the reference: Merge.
  Vectors, the reference: Compare.
  A region that draws its order, walked in one order of our own: what only reads is taken as soon as it may come up, under a condition S that is kept; calls and writes come up one at a time.
-/
import Derived.Below
import Derived.Laws.OwnMore
import Derived.Deep.AppendLies
import Derived.Deep.Draws
import Derived.Laws.Rows
import Derived.Maps.AppendAt
import Derived.RegionTactic
import Derived.OwnWalk
import Derived.WalkKit
import Derived.Lib.Hide
import Derived.Laws.BitsAllLaws
import Derived.WalkSpells
import Derived.WalkLawsBesides
import Derived.Deep.QuietTactic
import Derived.BigQuiet
import Derived.Outline
import Derived.StillTailTactics
import Derived.Deep.RegionHeld3
import Derived.Deep.RegionWith
import Derived.Lib.AppendStr
import Derived.Lib.ConvBytes
import Derived.Laws.BytesArg
import Derived.OpenShut
import Derived.Test.YtndekohimfjdeaaGreatDoorChecked
import Derived.Laws.Externs
import Derived.Deep.Cut
import Derived.Handy
import Derived.Laws.Tables
import Derived.Great.BuildSlice
import Derived.Laws.CopyOwn
import Derived.OrdersHeld
namespace Go.Proofs.YtndekohimfjdeaaGreatDoor
open Go.RowKit

theorem block_of_add (a : Addr) (n : Nat) : (a.add n).block = a.block := by unfold Addr.add; split <;> rfl
theorem add_of_add (a : Addr) (i j : Nat) : (a.add i).add j = a.add (i + j) := by
  unfold Addr.add
  by_cases hi : i = 0 <;> by_cases hj : j = 0 <;> simp [hi, hj, Nat.add_assoc]
theorem add_pos (a : Addr) (k : Nat) (h : 0 < k) : a.add k = ⟨a.block, a.off + k, none⟩ := by unfold Addr.add; rw [if_neg (by omega)]
theorem add_zero (a : Addr) : a.add 0 = a := by unfold Addr.add; simp

/-- The slice value '.slice A n c' holds the cells xs (size cells an element) and lies below block B. -/
def Reads (w : World) (B size : Nat) (A : Option Addr) (n : Nat) (xs : List Value) : Prop :=
  xs.length = n * size ∧ (0 < n → ∃ ad, A = some ad ∧ ad.block < B ∧ ∀ j u, xs[j]? = some u → w.cell? (ad.add j) = some u)

section
variable {w w' : World} {B B' size n : Nat} {A : Option Addr} {xs : List Value}
theorem Reads.none_ : Reads w B size A 0 [] := ⟨by simp, fun h => absurd h (by omega)⟩
theorem Reads.at_ {k : Nat} (h : Reads w B 1 A n xs) (hk : k < n) : ∃ ad u, A = some ad ∧ ad.block < B ∧ xs[k]? = some u ∧ w.cell? (ad.add k) = some u := by
  obtain ⟨ad, e, hb, hc⟩ := h.2 (by omega)
  have hl : k < xs.length := by have := h.1; omega
  exact ⟨ad, xs[k], e, hb, List.getElem?_eq_getElem hl, hc k _ (List.getElem?_eq_getElem hl)⟩
theorem Reads.keep (h : Reads w B size A n xs) (hk : ∀ p : Addr, p.block < B → w'.cell? p = w.cell? p) : Reads w' B size A n xs :=
  ⟨h.1, fun hn => by
    obtain ⟨ad, e, hb, hc⟩ := h.2 hn
    exact ⟨ad, e, hb, fun j u hu => (hk _ (by rw [block_of_add]; exact hb)).trans (hc j u hu)⟩⟩
theorem Reads.more (h : Reads w B size A n xs) (hB : B ≤ B') : Reads w B' size A n xs :=
  ⟨h.1, fun hn => by
    obtain ⟨ad, e, hb, hc⟩ := h.2 hn
    exact ⟨ad, e, by omega, hc⟩⟩
theorem Reads.below (h : Reads w B size A n xs) (hb : Below B w w') : Reads w' B size A n xs := h.keep fun _ hp => hb.cell hp
theorem Reads.drew (h : Reads w B size A n xs) : Reads w.drew B size A n xs := h
theorem Reads.drewN (h : Reads w B size A n xs) (k : Nat) : Reads (w.drewN k) B size A n xs := h
theorem Reads.alloc (h : Reads w B size A n xs) (hB : B ≤ w.heap.size) (o : Obj) : Reads (w.alloc o) B size A n xs := h.keep fun p hp => World.cell?_alloc_lt w o p (by omega)
theorem Reads.setCell (h : Reads w B size A n xs) {p : Addr} (hB : B ≤ p.block) (u : Value) : Reads (w.setCell p u) B size A n xs :=
  h.keep fun q hq => World.cell?_setCell_other w p q u (fun e => by subst e; omega)
theorem Reads.grown (h : Reads w B size A n xs) {row : Option Nat} (hg : w.grownBy w' row) (hB : B ≤ w.heap.size) (hr : ∀ g, row = some g → B ≤ g) : Reads w' B size A n xs :=
  h.keep fun p hp => World.cell?_of_block (hg.block p.block (by omega) (fun e => by have := hr _ e.symm; omega))
theorem Reads.cut (h : Reads w B size A n xs) {k cap : Nat} (hk : k ≤ n) (hc : n ≤ cap) :
    Reads w B size (if cap = k then A else A.map (·.add (k * size))) (n - k) (xs.drop (k * size)) := by
  refine ⟨by rw [List.length_drop, h.1, Nat.sub_mul], fun hn => ?_⟩
  obtain ⟨ad, rfl, hb, hcell⟩ := h.2 (by omega)
  rw [if_neg (by omega)]
  refine ⟨ad.add (k * size), rfl, by rw [block_of_add]; exact hb, fun j u hu => ?_⟩
  rw [add_of_add]
  exact hcell _ u (by rw [← hu, List.getElem?_drop])
theorem Reads.take (h : Reads w B 1 A n xs) {k : Nat} (hk : k ≤ n) : Reads w B 1 A k (xs.take k) := by
  refine ⟨by rw [List.length_take, h.1]; omega, fun hn => ?_⟩
  obtain ⟨ad, rfl, hb, hcell⟩ := h.2 (by omega)
  refine ⟨ad, rfl, hb, fun j u hu => hcell j u ?_⟩
  rw [List.getElem?_take] at hu
  split at hu
  · exact hu
  · cases hu
theorem Reads.of_own {base : Nat} {e : TypeId} {c : Nat} (h : w.ownsRow base e size (.slice A n c) n xs) : Reads w w.heap.size size A n xs := by
  refine ⟨h.1, fun hn => ?_⟩
  obtain ⟨g, cap, hv, _, hlt⟩ := h.form hn
  have hA : A = some ⟨g, 0, none⟩ := by injection hv
  subst hA
  exact ⟨_, rfl, hlt, h.cells (g := g) rfl⟩
end

/-- An owned row's value has the shape of a slice. -/
theorem own_shape {w : World} {base size n : Nat} {e : TypeId} {v : Value} {xs : List Value} (h : w.ownsRow base e size v n xs) :
    ∃ A c, v = .slice A n c ∧ n ≤ c := by
  rcases h.2 with ⟨rfl, rfl⟩ | ⟨g, cap, cur, rfl, _, _, hn, _⟩
  · exact ⟨none, 0, rfl, Nat.le_refl _⟩
  · exact ⟨_, cap, rfl, hn⟩

section
variable {P : Program} (w : World)
theorem run_append_of_nil (base : Nat) (t ty e : TypeId) (i : TypeInfo) (size : Nat) (ht : P.underlying t = some (.slice e)) (hi : P.info? e = some i)
    (v : Value) (n : Nat) (xs : List Value) (hown : w.ownsRow base e size v n xs) (c : Nat) : (Builtin.append_ #[t, t] ty #[v, .slice none 0 c]).run P w = .ok v w := by
  rcases hown.2 with ⟨rfl, rfl⟩ | ⟨g, cap, cur, rfl, _, _, hnc, _⟩
  · simp [Builtin.append_, run_underlying ht, sizeOf, typeInfo, hi, Builtin.lenOf, Builtin.firstCells]
  · simp [Builtin.append_, run_underlying ht, sizeOf, typeInfo, hi, Builtin.lenOf, Builtin.firstCells, hnc, storeCells]

theorem run_append_any (base : Nat) (t ty e : TypeId) (i : TypeInfo) (z : Value) (size bytes : Nat) (ht : P.underlying t = some (.slice e)) (hi : P.info? e = some i) (hz : i.zero = some z)
    (hsize : i.size = size) (hby : i.bytes = bytes) (hzs : z.cells.size = size) (hsz : 0 < size)
    (v : Value) (n : Nat) (xs : List Value) (hown : w.ownsRow base e size v n xs)
    (B : Nat) (A : Option Addr) (m c : Nat) (news : List Value) (hr : Reads w B size A m news) (h1 : ∀ u ∈ news, u.oneCell' = true)
    (h63 : n + m ≤ maxLen) (hbytes : (n + m) * bytes ≤ 140737488355328) (hbase : base ≤ w.heap.size) :
    ∃ v' w', (Builtin.append_ #[t, t] ty #[v, .slice A m c]).run P w = .ok v' w' ∧ w'.ownsRow base e size v' (n + m) (xs ++ news) ∧ w.grownBy w' v.ownBlock ∧
      (v'.ownBlock = v.ownBlock ∨ v'.ownBlock = some w.heap.size) := by
  rcases A with _ | ad
  · have hm : m = 0 := by
      rcases Nat.eq_zero_or_pos m with h0 | h0
      · exact h0
      · obtain ⟨ad, h, _⟩ := hr.2 h0
        cases h
    subst hm
    have hn : news = [] := List.eq_nil_of_length_eq_zero (by simpa using hr.1)
    subst hn
    exact ⟨v, w, run_append_of_nil w base t ty e i size ht hi v n xs hown c, by simpa using hown, World.grownBy.refl w _, .inl rfl⟩
  · have hcells : ∀ j u, news[j]? = some u → w.cell? (ad.add j) = some u := by
      intro j u hu
      rcases Nat.eq_zero_or_pos m with h0 | h0
      · subst h0
        have hn : news = [] := List.eq_nil_of_length_eq_zero (by simpa using hr.1)
        subst hn
        simp at hu
      · obtain ⟨ad', h, _, hc⟩ := hr.2 h0
        injection h with h
        subst h
        exact hc j u hu
    obtain ⟨v', w', hrun, h2, h3, _, h5⟩ := run_append_own_at (P := P) w base t ty e i z size bytes ht hi hz hsize hby hzs hsz v n xs hown ad m c news hr.1 hcells h1 h63 hbytes hbase
    exact ⟨v', w', hrun, h2, h3, h5⟩

theorem wp_append_any {o : Oper} {a : Act} {K : Act → World → Prop} {Q : Exit → Act → World → Prop} (s x : Operand) (t : TypeId)
    (ho : o.op = .call { callee := .builtin .append, args := #[s, x], argTypes := #[t, t] })
    (base : Nat) (e : TypeId) (i : TypeInfo) (z : Value) (size bytes : Nat) (ht : P.underlying t = some (.slice e)) (hi : P.info? e = some i) (hz : i.zero = some z)
    (hsize : i.size = size) (hby : i.bytes = bytes) (hzs : z.cells.size = size) (hsz : 0 < size)
    (v : Value) (n : Nat) (xs : List Value) (hs : a.eval s = v) (hown : w.ownsRow base e size v n xs)
    (B : Nat) (A : Option Addr) (m c : Nat) (news : List Value) (hx : a.eval x = .slice A m c) (hr : Reads w B size A m news) (h1 : ∀ u ∈ news, u.oneCell' = true)
    (h63 : n + m ≤ maxLen) (hbytes : (n + m) * bytes ≤ 140737488355328) (hbase : base ≤ w.heap.size)
    (h : ∀ v' w', w'.ownsRow base e size v' (n + m) (xs ++ news) → w.grownBy w' v.ownBlock → (v'.ownBlock = v.ownBlock ∨ v'.ownBlock = some w.heap.size) → K (a.put o.dst v') w') : o.wp P a w K Q := by
  obtain ⟨v', w', hrun, h2, h3, h4⟩ := run_append_any (P := P) w base t o.type e i z size bytes ht hi hz hsize hby hzs hsz v n xs hown B A m c news hr h1 h63 hbytes hbase
  unfold Oper.wp execOp
  simp only [ho, resolve, invoke, builtin, Sem.run_bind, Sem.run_pure, Result.andThen_ok, List.map_toArray, List.map_cons, List.map_nil, hs, hx, hrun]
  exact h v' w' h2 h3 h4

theorem wpList_append_any {ops : Array Oper} {rest : List Oper} {o : Oper} {a : Act} {Q : Exit → Act → World → Prop} (hgd : o.guard = none) (s x : Operand) (t : TypeId)
    (ho : o.op = .call { callee := .builtin .append, args := #[s, x], argTypes := #[t, t] })
    (base : Nat) (e : TypeId) (i : TypeInfo) (z : Value) (size bytes : Nat) (ht : P.underlying t = some (.slice e)) (hi : P.info? e = some i) (hz : i.zero = some z)
    (hsize : i.size = size) (hby : i.bytes = bytes) (hzs : z.cells.size = size) (hsz : 0 < size)
    (v : Value) (n : Nat) (xs : List Value) (hs : a.eval s = v) (hown : w.ownsRow base e size v n xs)
    (B : Nat) (A : Option Addr) (m c : Nat) (news : List Value) (hx : a.eval x = .slice A m c) (hr : Reads w B size A m news) (h1 : ∀ u ∈ news, u.oneCell' = true)
    (h63 : n + m ≤ maxLen) (hbytes : (n + m) * bytes ≤ 140737488355328) (hbase : base ≤ w.heap.size)
    (h : ∀ v' w', w'.ownsRow base e size v' (n + m) (xs ++ news) → w.grownBy w' v.ownBlock → (v'.ownBlock = v.ownBlock ∨ v'.ownBlock = some w.heap.size) → wpList P ops Q rest (a.put o.dst v') w') : wpList P ops Q (o :: rest) a w :=
  wpList_plain hgd fun _ hK => wp_append_any w s x t ho base e i z size bytes ht hi hz hsize hby hzs hsz v n xs hs hown B A m c news hx hr h1 h63 hbytes hbase fun v' w' h2 h3 h4 => hK _ _ (h v' w' h2 h3 h4)
end

/-- A byte as a cell. -/
def u8v (c : UInt8) : Value := .int .u8 (c.toNat : Int)
/-- The slice reads as these bytes. -/
def BReads (w : World) (B : Nat) (A : Option Addr) (n : Nat) (l : List UInt8) : Prop := Reads w B 1 A n (l.map u8v)
theorem BReads.len {w : World} {B n : Nat} {A : Option Addr} {l : List UInt8} (h : BReads w B A n l) : l.length = n := by
  have := h.1; simpa using this
theorem BReads.at_ {w : World} {B n k : Nat} {A : Option Addr} {l : List UInt8} (h : BReads w B A n l) (hk : k < n) :
    ∃ ad cb, A = some ad ∧ ad.block < B ∧ w.cell? (ad.add k) = some (.int .u8 (cb.toNat : Int)) ∧ Hid (l[k]? = some cb) ∧ Hid (l.take (k + 1) = l.take k ++ [cb]) ∧ (cb.toNat : Int) < 256 := by
  obtain ⟨ad, u, hA, hb, hx, hc⟩ := Reads.at_ h hk
  have hl : k < l.length := by rw [h.len]; exact hk
  refine ⟨ad, l[k], hA, hb, ?_, List.getElem?_eq_getElem hl, List.take_succ_eq_append_getElem hl, by have := l[k].toNat_lt; omega⟩
  rw [hc]
  rw [List.getElem?_map, List.getElem?_eq_getElem hl] at hx
  simpa [u8v] using hx.symm
theorem oneCell_u8 (l : List UInt8) : ∀ u ∈ l.map u8v, u.oneCell' = true := by
  intro u hu
  obtain ⟨c, _, rfl⟩ := List.mem_map.1 hu
  rfl

/-- What is below the heap's first B blocks reads on. -/
theorem bcell {W w1 : World} {B : Nat} (hb : Below B W w1) : (∀ b o, b < B → w1.cell? ⟨b, o, none⟩ = W.cell? ⟨b, o, none⟩) ∧ (∀ b o, b < B → w1.frozen? ⟨b, o, none⟩ = W.frozen? ⟨b, o, none⟩) :=
  ⟨fun b o h => hb.cell (p := ⟨b, o, none⟩) h, fun b o h => hb.frozen (p := ⟨b, o, none⟩) h⟩
theorem gb_drew {a w : World} {row : Option Nat} (h : a.grownBy w row) : a.grownBy w.drew row := ⟨h.os, h.tape, h.output, h.size, h.block⟩
theorem gb_drewN {a w : World} {row : Option Nat} (h : a.grownBy w row) (n : Nat) : a.grownBy (w.drewN n) row := ⟨h.os, h.tape, h.output, h.size, h.block⟩
theorem gb_alloc {a w : World} {row : Option Nat} (h : a.grownBy w row) (o : Obj) : a.grownBy (w.alloc o) row :=
  ⟨h.os, h.tape, h.output, Nat.le_trans h.size (by simp), fun i hi hne => (Below.heap_alloc w o i (Nat.lt_of_lt_of_le hi h.size)).trans (h.block i hi hne)⟩
theorem gb_set {a w : World} {g : Nat} (h : a.grownBy w (some g)) {p : Addr} (hp : p.block = g ∨ a.heap.size ≤ p.block) (u : Value) : a.grownBy (w.setCell p u) (some g) :=
  ⟨h.os, h.tape, h.output, by simpa [World.setCell] using h.size, fun i hi hne => (Below.heap_setCell w p u i (by
    rintro rfl
    rcases hp with hp | hp
    · exact hne (by rw [hp])
    · omega)).trans (h.block i hi hne)⟩
theorem gb_below {a w w' : World} {row : Option Nat} (h : a.grownBy w row) (hb : Below w.heap.size w w') : a.grownBy w' row :=
  ⟨hb.os.trans h.os, hb.tape.trans h.tape, hb.output.trans h.output, Nat.le_trans h.size hb.size, fun i hi hn => (hb.block i (Nat.lt_of_lt_of_le hi h.size)).trans (h.block i hi hn)⟩
theorem below_drewN {B : Nat} {a w : World} (h : Below B a w) (n : Nat) : Below B a (w.drewN n) := ⟨h.os, h.tape, h.output, h.size, h.block⟩
/-- One own row has turned since. -/
theorem below_gb {B g : Nat} {a w w' : World} (h : Below B a w) (hg : w.grownBy w' (some g)) (hB : B ≤ w.heap.size) (hb : B ≤ g) : Below B a w' := h.grown hg hB fun k hk => by injection hk with hk; omega
theorem ret_int {k : IntKind} {a b : Int} (h : a = b) : Ending.returned (.int k a) = .returned (.int k b) := by rw [h]
theorem ret2i {k1 k2 : IntKind} {a a' b b' : Int} (h1 : a = a') (h2 : b = b') : Ending.returned (.tuple #[.int k1 a, .int k2 b]) = .returned (.tuple #[.int k1 a', .int k2 b']) := by rw [h1, h2]
theorem quiet_left {P : Program} {f : FuncId} {args : Array Value} {w : World} {n : Nat} {v : Value}
    (h : Calls P f args (w.drewN n) fun e w' => e = .returned v ∧ w.drewN n = w') : Calls P f args (w.drewN n) fun e w'' => e = .returned v ∧ ∃ m, w'' = w.drewN m :=
  h.mono fun _ _ ⟨he, hm⟩ => ⟨he, n, hm.symm⟩
end Go.Proofs.YtndekohimfjdeaaGreatDoor

namespace Go.Proofs.YtndekohimfjdeaaGreatDoor
open Go.RowKit
theorem add_next (a : Addr) (j : Nat) : a.add (j + 1) = ⟨(a.add j).block, (a.add j).off + 1, none⟩ := by
  unfold Addr.add
  by_cases hj : j = 0 <;> simp [hj, Nat.add_assoc]
/-- A count's cells. -/
def cntC (x : Int × Nat) : List Value := [.int .i64 x.1, .int .u64 (x.2 : Int)]
def cntsC (l : List (Int × Nat)) : List Value := (l.map cntC).flatten
theorem cntsC_cons (x : Int × Nat) (l : List (Int × Nat)) : cntsC (x :: l) = .int .i64 x.1 :: .int .u64 (x.2 : Int) :: cntsC l := rfl
theorem cntsC_len : ∀ l : List (Int × Nat), (cntsC l).length = l.length * 2
  | [] => rfl
  | x :: l => by rw [cntsC_cons]; simp only [List.length_cons, cntsC_len l]; omega
theorem cntsC_app (l m : List (Int × Nat)) : cntsC (l ++ m) = cntsC l ++ cntsC m := by simp [cntsC]
theorem cntsC_at : ∀ (l : List (Int × Nat)) (k : Nat) (x : Int × Nat), l[k]? = some x → (cntsC l)[k * 2]? = some (.int .i64 x.1) ∧ (cntsC l)[k * 2 + 1]? = some (.int .u64 (x.2 : Int))
  | [], k, x, h => by simp at h
  | y :: l, 0, x, h => by simp at h; subst h; exact ⟨rfl, rfl⟩
  | y :: l, k + 1, x, h => by
    have := cntsC_at l k x (by simpa using h)
    rw [cntsC_cons, show (k + 1) * 2 = k * 2 + 1 + 1 by omega, show k * 2 + 1 + 1 + 1 = (k * 2 + 1) + 1 + 1 by omega]
    simpa using this
/-- A slice of counts reads as these. -/
abbrev CReads (w : World) (B : Nat) (A : Option Addr) (n : Nat) (l : List (Int × Nat)) : Prop := Reads w B 2 A n (cntsC l)
theorem CReads.len {w : World} {B n : Nat} {A : Option Addr} {l : List (Int × Nat)} (h : CReads w B A n l) : l.length = n := by have := h.1; rw [cntsC_len] at this; omega
theorem CReads.at_ {w : World} {B n k : Nat} {A : Option Addr} {l : List (Int × Nat)} (h : CReads w B A n l) (hk : k < n) :
    ∃ ad x, A = some ad ∧ ad.block < B ∧ l[k]? = some x ∧ w.cell? (ad.add (k * 2)) = some (.int .i64 x.1) ∧ w.cell? ⟨(ad.add (k * 2)).block, (ad.add (k * 2)).off + 1, none⟩ = some (.int .u64 (x.2 : Int)) := by
  obtain ⟨ad, e, hb, hc⟩ := h.2 (by omega)
  have hkl : k < l.length := by rw [h.len]; exact hk
  have := cntsC_at l k l[k] (List.getElem?_eq_getElem hkl)
  exact ⟨ad, l[k], e, hb, List.getElem?_eq_getElem hkl, hc _ _ this.1, by rw [← add_next]; exact hc _ _ this.2⟩
/-- May a vector be? -/
def okV : Int → List (Int × Nat) → Bool
  | _, [] => true
  | last, x :: l => if x.1 ≤ last ∨ 16 < x.1 ∨ x.2 = 0 then false else okV x.1 l
theorem okV_cons (last : Int) (x : Int × Nat) (l : List (Int × Nat)) : okV last (x :: l) = if x.1 ≤ last ∨ 16 < x.1 ∨ x.2 = 0 then false else okV x.1 l := rfl
set_option maxHeartbeats 1000000 in
theorem right_v (B : Nat) (A : Option Addr) (n c : Nat) (l : List (Int × Nat)) (w : World) (hr : CReads w B A n l) (hB : B ≤ w.heap.size) (hn : n ≤ 9223372036854775807) :
    Calls Tryz.prog 74 #[.slice A n c] w fun e w' => e = .returned (.bool (okV 0 l)) ∧ Below w.heap.size w w' := by
  have HLEN := Lib.hid hr.len
  go_enter Tryz.func74, Tryz.ntmps74
  go_wp2
  go_loopw [3, 8] (fun last i wr => ∃ (k : Nat) (la : Int), k ≤ n ∧ i = .int .i64 (k : Int) ∧ last = .int .i64 la ∧ okV 0 l = okV la (l.drop k) ∧ Below w.heap.size w wr) (fun _ i _ => n - (intOf i).toNat)
  case atStart => exact ⟨0, 0, Nat.zero_le _, rfl, rfl, by simp, Below.refl _ _⟩
  case round =>
    obtain ⟨k, la, hk, rfl, rfl, ho, hb⟩ := hrel
    have HO := Lib.hid ho
    clear ho
    have HR := Lib.hid (Reads.below (show Reads w B 2 A n _ from hr) (hb.mono hB))
    by_cases hlt : k < n
    · obtain ⟨ad, x, he, had, hx, hc1, hc2⟩ := CReads.at_ HR.out hlt
      subst he
      have HX := Lib.hid hx
      clear hx
      have HD := Lib.hid (show l.drop k = x :: l.drop (k + 1) by obtain ⟨hk2, he⟩ := List.getElem?_eq_some_iff.1 HX.out; rw [List.drop_eq_getElem_cons hk2, he])
      have hbn : Below w.heap.size w (wr.alloc (.cells #[.int .i64 x.1, .int .u64 (x.2 : Int)] 50)) := hb.alloc hb.size _
      by_cases b1 : x.1 ≤ la
      · have d1 : decide (x.1 ≤ la) = true := by simpa using b1
        have HF := Lib.hid (show okV 0 l = false by rw [HO.out, HD.out, okV_cons, if_pos (.inl b1)])
        clear b1
        go_wp2
        go_ret
        exact ⟨by rw [HF.out]; rfl, hbn⟩
      · have d1 : decide (x.1 ≤ la) = false := by simpa using b1
        by_cases b2 : 16 < x.1
        · have d2 : decide (16 < x.1) = true := by simpa using b2
          have HF := Lib.hid (show okV 0 l = false by rw [HO.out, HD.out, okV_cons, if_pos (.inr (.inl b2))])
          clear b1 b2
          go_wp2
          go_ret
          exact ⟨by rw [HF.out]; rfl, hbn⟩
        · have d2 : decide (16 < x.1) = false := by simpa using b2
          by_cases b3 : x.2 = 0
          · have d3 : ((x.2 : Int) == 0) = true := by rw [beq_iff_eq]; omega
            have HF := Lib.hid (show okV 0 l = false by rw [HO.out, HD.out, okV_cons, if_pos (.inr (.inr b3))])
            clear b1 b2 b3
            go_wp2
            go_ret
            exact ⟨by rw [HF.out]; rfl, hbn⟩
          · have d3 : ((x.2 : Int) == 0) = false := by rw [beq_eq_false_iff_ne]; omega
            have HF := Lib.hid (show okV 0 l = okV x.1 (l.drop (k + 1)) by rw [HO.out, HD.out, okV_cons, if_neg (by omega)])
            clear b1 b2 b3
            go_wp2
            go_roundw
            case rel => exact ⟨k + 1, _, hlt, by go_num, rfl, HF.out, hbn⟩
            case measure => simp [intOf]; omega
    · obtain rfl : k = n := by omega
      have HF := Lib.hid (show okV 0 l = true by rw [HO.out, List.drop_of_length_le (by rw [HLEN.out]; exact Nat.le_refl _)]; rfl)
      go_wp2
      go_ret
      exact ⟨by rw [HF.out]; rfl, hb⟩
theorem check_v (B : Nat) (A : Option Addr) (n c : Nat) (l : List (Int × Nat)) (w : World) (hr : CReads w B A n l) (hB : B ≤ w.heap.size) (hn : n ≤ 9223372036854775807) :
    Calls Tryz.prog 48 #[.slice A n c] w fun e w' => e = .returned (.int .i64 (if okV 0 l then 0 else 2)) ∧ Below w.heap.size w w' := by
  cases ho : okV 0 l
  · have HO := Lib.hid ho
    clear ho
    go_enter Tryz.func48, Tryz.ntmps48
    go_wp2_with fail
    refine (right_v B A n c l w hr hB hn).mono ?_
    rw [HO.out]
    rintro e w1 ⟨rfl, hb⟩
    go_wp2
    go_ret
    exact ⟨rfl, hb⟩
  · have HO := Lib.hid ho
    clear ho
    go_enter Tryz.func48, Tryz.ntmps48
    go_wp2_with fail
    refine (right_v B A n c l w hr hB hn).mono ?_
    rw [HO.out]
    rintro e w1 ⟨rfl, hb⟩
    go_wp2
    go_ret
    exact ⟨rfl, hb⟩
/-- A device's value. -/
def val : List (Int × Nat) → Int → Nat
  | [], _ => 0
  | x :: l, d => if x.1 = d then x.2 else val l d
theorem val_cons (x : Int × Nat) (l : List (Int × Nat)) (d : Int) : val (x :: l) d = if x.1 = d then x.2 else val l d := rfl
set_option maxHeartbeats 1000000 in
theorem value_v (B : Nat) (A : Option Addr) (n c : Nat) (l : List (Int × Nat)) (d : Int) (w : World) (hr : CReads w B A n l) (hB : B ≤ w.heap.size) (hn : n ≤ 9223372036854775807) :
    Calls Tryz.prog 76 #[.slice A n c, .int .i64 d] w fun e w' => e = .returned (.int .u64 (val l d : Int)) ∧ Below w.heap.size w w' := by
  have HLEN := Lib.hid hr.len
  go_enter Tryz.func76, Tryz.ntmps76
  go_wp2
  go_loopw [9] (fun i wr => ∃ (k : Nat), k ≤ n ∧ i = .int .i64 (k : Int) ∧ val l d = val (l.drop k) d ∧ Below w.heap.size w wr) (fun i _ => n - (intOf i).toNat)
  case atStart => exact ⟨0, Nat.zero_le _, rfl, by simp, Below.refl _ _⟩
  case round =>
    obtain ⟨k, hk, rfl, ho, hb⟩ := hrel
    have HO := Lib.hid ho
    clear ho
    have HR := Lib.hid (Reads.below (show Reads w B 2 A n _ from hr) (hb.mono hB))
    by_cases hlt : k < n
    · obtain ⟨ad, x, he, had, hx, hc1, hc2⟩ := CReads.at_ HR.out hlt
      subst he
      have HX := Lib.hid hx
      clear hx
      have HD := Lib.hid (show l.drop k = x :: l.drop (k + 1) by obtain ⟨hk2, he⟩ := List.getElem?_eq_some_iff.1 HX.out; rw [List.drop_eq_getElem_cons hk2, he])
      have hbn : Below w.heap.size w (wr.alloc (.cells #[.int .i64 x.1, .int .u64 (x.2 : Int)] 50)) := hb.alloc hb.size _
      by_cases b1 : x.1 = d
      · have d1 : (x.1 == d) = true := by simpa using b1
        have HF := Lib.hid (show val l d = x.2 by rw [HO.out, HD.out, val_cons, if_pos b1])
        clear b1
        go_wp2
        go_ret
        exact ⟨by rw [HF.out]; rfl, hbn⟩
      · have d1 : (x.1 == d) = false := by simpa using b1
        have HF := Lib.hid (show val l d = val (l.drop (k + 1)) d by rw [HO.out, HD.out, val_cons, if_neg b1])
        clear b1
        go_wp2
        go_roundw
        case rel => exact ⟨k + 1, hlt, by go_num, HF.out, hbn⟩
        case measure => simp [intOf]; omega
    · obtain rfl : k = n := by omega
      have HF := Lib.hid (show val l d = 0 by rw [HO.out, List.drop_of_length_le (by rw [HLEN.out]; exact Nat.le_refl _)]; rfl)
      go_wp2
      go_ret
      exact ⟨by rw [HF.out]; rfl, hb⟩
theorem val_v (B : Nat) (A : Option Addr) (n c : Nat) (l : List (Int × Nat)) (d : Int) (w : World) (hr : CReads w B A n l) (hB : B ≤ w.heap.size) (hn : n ≤ 9223372036854775807) :
    Calls Tryz.prog 50 #[.slice A n c, .int .i64 d] w fun e w' => e = .returned (.int .u64 (val l d : Int)) ∧ Below w.heap.size w w' := by
  go_enter Tryz.func50, Tryz.ntmps50
  go_wp2_with fail
  refine (value_v B A n c l d w hr hB hn).mono ?_
  rintro e w1 ⟨rfl, hb⟩
  go_wp2
  go_ret
  exact ⟨rfl, hb⟩
end Go.Proofs.YtndekohimfjdeaaGreatDoor

namespace Go.Proofs.YtndekohimfjdeaaGreatDoor
open Go.RowKit
theorem info_cnt : (Tryz.prog.info? 50).map (fun i => (i.zero, i.size, i.bytes)) = some (some (.agg #[.int .i64 0, .int .u64 0]), 2, 16) := by kernel_rfl
theorem oneCell_cnt : ∀ l : List (Int × Nat), ∀ u ∈ cntsC l, u.oneCell' = true
  | [], u, h => by simp [cntsC] at h
  | x :: l, u, h => by
    rw [cntsC_cons] at h
    rcases List.mem_cons.1 h with rfl | h
    · rfl
    · rcases List.mem_cons.1 h with rfl | h
      · rfl
      · exact oneCell_cnt l u h
/-- A slice of counts of the call's own. -/
def COwn (w : World) (base : Nat) (A : Option Addr) (n c : Nat) (l : List (Int × Nat)) : Prop := w.ownsRow base 50 2 (.slice A n c) n (cntsC l) ∧ n ≤ c
section
variable {w w' : World} {base n c : Nat} {A : Option Addr} {l : List (Int × Nat)}
theorem COwn.nil_ (w : World) (base : Nat) : COwn w base none 0 0 [] := ⟨World.ownsRow_nil w base _ 2, Nat.le_refl _⟩
theorem COwn.reads (h : COwn w base A n c l) : CReads w w.heap.size A n l := Reads.of_own h.1
theorem COwn.alloc (h : COwn w base A n c l) (o : Obj) : COwn (w.alloc o) base A n c l := ⟨h.1.alloc o, h.2⟩
theorem COwn.base_le (h : COwn w base A n c l) : ∀ k, (Value.slice A n c).ownBlock = some k → base ≤ k ∧ k < w.heap.size := h.1.lt
theorem COwn.below (h : COwn w base A n c l) (hb : Below w.heap.size w w') : COwn w' base A n c l := by
  refine ⟨⟨h.1.1, ?_⟩, h.2⟩
  rcases h.1.2 with hn | ⟨g, cap, cur, e, hg, hh, rest⟩
  · exact .inl hn
  · exact .inr ⟨g, cap, cur, e, hg, (hb.block g (Array.getElem?_eq_some_iff.1 hh).1).trans hh, rest⟩
theorem COwn.down {base' : Nat} (h : COwn w base A n c l) (hb : base' ≤ base) : COwn w base' A n c l := by
  refine ⟨⟨h.1.1, ?_⟩, h.2⟩
  rcases h.1.2 with hn | ⟨g, cap, cur, e, hg, rest⟩
  · exact .inl hn
  · exact .inr ⟨g, cap, cur, e, Nat.le_trans hb hg, rest⟩
end
section
variable {o : Oper} {rest : List Oper} {ops : Array Oper} {a : Act} {Q : Exit → Act → World → Prop} {w : World}
theorem wpList_capp (hgd : o.guard = none) (s x : Operand) (T : TypeId) (hT : Tryz.prog.underlying T = some (.slice 50))
    (ho : o.op = .call { callee := .builtin .append, args := #[s, x], argTypes := #[T, T] })
    (base : Nat) (A : Option Addr) (n c : Nat) (xs : List (Int × Nat)) (hs : a.eval s = .slice A n c) (hown : COwn w base A n c xs)
    (B : Nat) (D : Option Addr) (m d : Nat) (l : List (Int × Nat)) (hx : a.eval x = .slice D m d) (hr : CReads w B D m l)
    (hlen : n + m ≤ 8000000000000) (hbase : base ≤ w.heap.size)
    (h : ∀ A' c' w', COwn w' base A' (n + m) c' (xs ++ l) → w.grownBy w' (Value.slice A n c).ownBlock →
      wpList Tryz.prog ops Q rest (a.put o.dst (.slice A' (n + m) c')) w') : wpList Tryz.prog ops Q (o :: rest) a w := by
  obtain ⟨i0, hi, hz0, hz1, hz2⟩ := info_parts info_cnt
  refine wpList_append_any w hgd s x T ho base 50 i0 (.agg #[.int .i64 0, .int .u64 0]) 2 16 hT hi hz0 hz1 hz2 rfl (by decide) (.slice A n c) n (cntsC xs) hs hown.1 B D m d (cntsC l) hx hr (oneCell_cnt l)
    (by simp only [maxLen]; omega) (by omega) hbase ?_
  intro v' w' hown' hg _
  obtain ⟨A', c', rfl, hc⟩ := own_shape hown'
  exact h A' c' w' ⟨by rw [cntsC_app]; exact hown', hc⟩ hg
end
theorem below_capp {B base n c : Nat} {A : Option Addr} {xs : List (Int × Nat)} {a w w' : World} (h : Below B a w) (hg : w.grownBy w' (Value.slice A n c).ownBlock) (ho : COwn w base A n c xs) (hB : B ≤ base) (hs : B ≤ w.heap.size) : Below B a w' :=
  h.grown hg hs fun k hk => Nat.le_trans hB (ho.base_le k hk).1
theorem CReads.one (w : World) (d : Int) (x : Nat) (T : TypeId) : CReads (w.alloc (.cells #[.int .i64 d, .int .u64 (x : Int)] T)) (w.heap.size + 1) (some ⟨w.heap.size, 0, none⟩) 1 [(d, x)] := by
  refine ⟨rfl, fun _ => ⟨_, rfl, Nat.lt_succ_self _, fun j u hu => ?_⟩⟩
  rcases j with _ | _ | j
  · rw [add_zero, World.cell?_alloc_at _ _ _ _ rfl]
    exact hu
  · rw [add_pos _ _ (by omega), World.cell?_alloc_at _ _ _ _ rfl]
    exact hu
  · simp [cntsC, cntC] at hu
/-- The vector of values by device, from a device on: so many more. -/
def ofN (f : Int → Nat) : Nat → Int → List (Int × Nat)
  | 0, _ => []
  | k + 1, d => (if 0 < f d then [(d, f d)] else []) ++ ofN f k (d + 1)
def ofV (f : Int → Nat) : List (Int × Nat) := ofN f 16 1
set_option maxHeartbeats 1000000 in
theorem of_v (F : FuncId) (caps : Array Value) (f : Int → Nat) (w : World) (hcf : ∀ args W, (callFunc F args).run Tryz.prog W = .ok (.enter F args) W) (hf64 : ∀ d, f d < 18446744073709551616)
    (hf : ∀ (d : Int) (W : World), 1 ≤ d → d ≤ 16 → Below w.heap.size w W → Calls Tryz.prog F (#[.int .i64 d] ++ caps) W fun e W' => e = .returned (.int .u64 (f d : Int)) ∧ Below W.heap.size W W') :
    Calls Tryz.prog 58 #[.func (.func F) #[] caps] w fun e w' => ∃ A n c, e = .returned (.slice A n c) ∧ COwn w' w.heap.size A n c (ofV f) ∧ Below w.heap.size w w' := by
  go_enter Tryz.func58, Tryz.ntmps58
  go_wp2
  go_loopw [3, 4] (fun o i wr => ∃ (k : Nat) (A : Option Addr) (n c : Nat) (l : List (Int × Nat)), k ≤ 16 ∧ i = .int .i64 ((k : Int) + 1) ∧ o = .slice A n c ∧ n ≤ k ∧ COwn wr w.heap.size A n c l ∧ l ++ ofN f (16 - k) ((k : Int) + 1) = ofV f ∧ Below w.heap.size w wr) (fun _ i _ => 17 - (intOf i).toNat)
  case atStart => exact ⟨0, none, 0, 0, [], Nat.zero_le _, rfl, rfl, Nat.le_refl _, COwn.nil_ _ _, rfl, Below.refl _ _⟩
  case round =>
    obtain ⟨k, A, n, c, l, hk, rfl, rfl, hn, ho, hl, hb⟩ := hrel
    have HL := Lib.hid hl
    clear hl
    have HO := Lib.hid ho
    clear ho
    by_cases hlt : k < 16
    · have hw := fun args => hcf args wr
      have g0 : decide ((k : Int) + 1 ≤ 16) = true := by simp; omega
      go_wp2_with fail
      clear hw
      refine (hf ((k : Int) + 1) wr (by omega) (by omega) hb).mono ?_
      rintro e w1 ⟨rfl, hb1⟩
      have hb1' : Below w.heap.size w w1 := hb.trans (hb1.mono hb.size)
      have HO1 := Lib.hid (HO.out.below hb1)
      have hst : ofN f (16 - k) ((k : Int) + 1) = (if 0 < f ((k : Int) + 1) then [((k : Int) + 1, f ((k : Int) + 1))] else []) ++ ofN f (16 - (k + 1)) (((k + 1 : Nat) : Int) + 1) := by
        rw [show 16 - k = (16 - (k + 1)) + 1 by omega, ofN]
        congr 3
      have HS := Lib.hid hst
      have h64 := hf64 ((k : Int) + 1)
      clear hst
      by_cases hp : 0 < f ((k : Int) + 1)
      · have HF := Lib.hid (show (l ++ [((k : Int) + 1, f ((k : Int) + 1))]) ++ ofN f (16 - (k + 1)) (((k + 1 : Nat) : Int) + 1) = ofV f by rw [← HL.out, HS.out, if_pos hp, List.append_assoc])
        obtain ⟨x, hx⟩ : ∃ x, f ((k : Int) + 1) = x := ⟨_, rfl⟩
        rw [hx] at hp h64 HF ⊢
        clear HS hx
        go_wp2_with (at_builtin; refine wpList_capp rfl (.tmp 15) (.tmp 19) 86 Tryz.underlying86 rfl w.heap.size A n c l rfl (HO1.out.alloc _) (w1.heap.size + 1) (some ⟨w1.heap.size, 0, none⟩) 1 1 [((k : Int) + 1, x)] rfl (CReads.one w1 _ _ _) (by omega) (by have := hb1'.size; simp; omega) ?_; intro A2 c2 w2 ho2 hg2)
        have hb2 : Below w.heap.size w w2 := below_capp (hb1'.alloc hb1'.size _) hg2 (HO1.out.alloc _) (Nat.le_refl _) (by have := hb1'.size; simp; omega)
        have HO2 := Lib.hid ho2
        clear hg2 ho2
        go_roundw
        case rel => exact ⟨k + 1, A2, n + 1, c2, _, by omega, by go_num, rfl, by omega, HO2.out, HF.out, hb2⟩
        case measure => simp [intOf]; omega
      · have HF := Lib.hid (show l ++ ofN f (16 - (k + 1)) (((k + 1 : Nat) : Int) + 1) = ofV f by rw [← HL.out, HS.out, if_neg hp]; rfl)
        have hx : f ((k : Int) + 1) = 0 := by omega
        rw [hx]
        clear HS hx hp h64
        go_wp2
        go_roundw
        case rel => exact ⟨k + 1, A, n, c, _, by omega, by go_num, rfl, by omega, HO1.out, HF.out, hb1'⟩
        case measure => simp [intOf]; omega
    · obtain rfl : k = 16 := by omega
      have HF := Lib.hid (show l = ofV f by rw [← HL.out]; simp [ofN])
      go_wp2
      go_ret
      exact ⟨A, n, c, rfl, by rw [← HF.out]; exact HO.out, hb⟩
end Go.Proofs.YtndekohimfjdeaaGreatDoor

namespace Go.Proofs.YtndekohimfjdeaaGreatDoor
open Go.RowKit
/-- The values fit. -/
def fitV (l : List (Int × Nat)) : Prop := ∀ x ∈ l, x.2 < 18446744073709551616
theorem fit_val : ∀ (l : List (Int × Nat)) (d : Int), fitV l → val l d < 18446744073709551616
  | [], _, _ => by simp [val]
  | x :: l, d, h => by
    rw [val_cons]
    split
    · exact h x List.mem_cons_self
    · exact fit_val l d fun y hy => h y (List.mem_cons_of_mem _ hy)
def bumpF (l : List (Int × Nat)) (dev d : Int) : Nat := if d = dev then val l d + 1 else val l d
theorem run_f {f : FuncId} {fn : Func} {c : Code} (hf : Tryz.prog.funcs[f]? = some fn) (hname : (fn.name == "runtime.NumGoroutine") = false) (hb : fn.body = some c) : ∀ (args : Array Value) (w : World), (callFunc f args).run Tryz.prog w = .ok (.enter f args) w :=
  fun args w => by
    have h1 : fn.name ≠ "runtime.NumGoroutine" := by simpa using hname
    simp [callFunc, hf, h1, hb]
def bumpE (l : List (Int × Nat)) (dev : Int) : Int := if okV 0 l = false then 2 else if dev < 1 ∨ 16 < dev then 2 else if val l dev = 18446744073709551615 then 3 else 0
def bumpV (l : List (Int × Nat)) (dev : Int) : List (Int × Nat) := if bumpE l dev = 0 then ofV (bumpF l dev) else []
end Go.Proofs.YtndekohimfjdeaaGreatDoor

namespace Go.Proofs.YtndekohimfjdeaaGreatDoor
open Go.RowKit
/-- A vector that is handed on: its slice, and what it reads as. -/
structure Vec where
  A : Option Addr
  n : Nat
  c : Nat
  l : List (Int × Nat)
def Vec.v (x : Vec) : Value := .slice x.A x.n x.c
/-- A slice of vectors reads as these. -/
def MReads (w : World) (B : Nat) (A : Option Addr) (n : Nat) (vs : List Vec) : Prop := Reads w B 1 A n (vs.map Vec.v) ∧ ∀ v ∈ vs, CReads w B v.A v.n v.l ∧ v.n ≤ 9223372036854775807
theorem MReads.len {w : World} {B n : Nat} {A : Option Addr} {vs : List Vec} (h : MReads w B A n vs) : vs.length = n := by have := h.1.1; simpa using this
theorem MReads.below {w w' : World} {B n : Nat} {A : Option Addr} {vs : List Vec} (h : MReads w B A n vs) (hb : Below B w w') : MReads w' B A n vs :=
  ⟨h.1.below hb, fun v hv => ⟨Reads.below (show Reads w B 2 v.A v.n _ from (h.2 v hv).1) hb, (h.2 v hv).2⟩⟩
theorem MReads.at_ {w : World} {B n k : Nat} {A : Option Addr} {vs : List Vec} (h : MReads w B A n vs) (hk : k < n) :
    ∃ ad v, A = some ad ∧ ad.block < B ∧ vs[k]? = some v ∧ w.cell? (ad.add k) = some (.slice v.A v.n v.c) ∧ CReads w B v.A v.n v.l ∧ v.n ≤ 9223372036854775807 := by
  obtain ⟨ad, u, e, hb, hu, hc⟩ := h.1.at_ hk
  rw [List.getElem?_map] at hu
  cases hv : vs[k]? with
  | none => rw [hv] at hu; cases hu
  | some v =>
    rw [hv] at hu
    injection hu with hu
    subst hu
    exact ⟨ad, v, e, hb, rfl, hc, h.2 v (List.mem_of_getElem? hv)⟩
def mergeF (vs : List (List (Int × Nat))) (d : Int) : Nat := vs.foldl (fun x v => max x (val v d)) 0
theorem fit_merge (vs : List (List (Int × Nat))) (d : Int) (h : ∀ v ∈ vs, fitV v) : mergeF vs d < 18446744073709551616 := by
  have key : ∀ (vs : List (List (Int × Nat))) (x : Nat), x < 18446744073709551616 → (∀ v ∈ vs, fitV v) → vs.foldl (fun x v => max x (val v d)) x < 18446744073709551616 := by
    intro vs
    induction vs with
    | nil => intro x hx _; exact hx
    | cons v vs ih =>
      intro x hx h
      have h1 := fit_val v d (h v List.mem_cons_self)
      exact ih _ (by show max x (val v d) < _; omega) fun u hu => h u (List.mem_cons_of_mem _ hu)
  exact key vs 0 (by omega) h
theorem fold_take (vs : List (List (Int × Nat))) (d : Int) (k : Nat) (v : List (Int × Nat)) (h : vs[k]? = some v) : mergeF (vs.take (k + 1)) d = max (mergeF (vs.take k) d) (val v d) := by
  obtain ⟨hk, he⟩ := List.getElem?_eq_some_iff.1 h
  rw [mergeF, List.take_succ_eq_append_getElem hk, he, List.foldl_append]
  rfl
theorem max_if (x y : Nat) : (if x < y then (y : Int) else (x : Int)) = ((max x y : Nat) : Int) := by split <;> omega
set_option maxHeartbeats 1000000 in
theorem merge1_v (B : Nat) (A : Option Addr) (n c : Nat) (vs : List Vec) (d : Int) (w : World) (p1 : Addr) (_hp : p1.block < w.heap.size) (h1 : w.cell? p1 = some (.slice A n c)) (hr : MReads w B A n vs) (hB : B ≤ w.heap.size) (hn : n ≤ 9223372036854775807)
    (hl : ∀ v ∈ vs, fitV v.l) :
    Calls Tryz.prog 59 #[.int .i64 d, .pointer (some p1)] w fun e w' => e = .returned (.int .u64 (mergeF (vs.map Vec.l) d : Int)) ∧ Below w.heap.size w w' := by
  have HLEN := Lib.hid hr.len
  go_enter Tryz.func59, Tryz.ntmps59
  go_wp2
  go_loopw [4, 9] (fun x i wr => ∃ (k : Nat), k ≤ n ∧ i = .int .i64 (k : Int) ∧ x = .int .u64 (mergeF ((vs.map Vec.l).take k) d : Int) ∧ Below w.heap.size w wr) (fun _ i _ => n - (intOf i).toNat)
  case atStart => exact ⟨0, Nat.zero_le _, rfl, rfl, Below.refl _ _⟩
  case round =>
    obtain ⟨k, hk, rfl, rfl, hb⟩ := hrel
    have HR := Lib.hid (hr.below (hb.mono hB))
    have hx64 : mergeF ((vs.map Vec.l).take k) d < 18446744073709551616 := fit_merge _ _ fun v hv => by
      obtain ⟨u, hu, rfl⟩ := List.mem_map.1 (List.mem_of_mem_take hv)
      exact hl u hu
    by_cases hlt : k < n
    · obtain ⟨ad, v, he, had, hv, hc, hcr, hvn⟩ := HR.out.at_ hlt
      subst he
      have HF := Lib.hid (fold_take (vs.map Vec.l) d k v.l (by rw [List.getElem?_map, hv]; rfl))
      have hv64 := fit_val v.l d (hl v (List.mem_of_getElem? hv))
      have HCR := Lib.hid hcr
      clear hv hcr
      obtain ⟨x, hx⟩ : ∃ x, mergeF ((vs.map Vec.l).take k) d = x := ⟨_, rfl⟩
      rw [hx] at HF hx64 ⊢
      clear hx
      go_wp2_with fail
      refine (val_v B v.A v.n v.c v.l d wr HCR.out (Nat.le_trans hB hb.size) hvn).mono ?_
      obtain ⟨y, hy⟩ : ∃ y, val v.l d = y := ⟨_, rfl⟩
      rw [hy] at HF hv64 ⊢
      clear hy
      rintro e w1 ⟨rfl, hb1⟩
      have hb2 := hb.trans (hb1.mono hb.size)
      clear hb1
      go_wp2
      go_roundw
      case rel => exact ⟨k + 1, hlt, by go_num, by rw [HF.out, ← max_if], hb2⟩
      case measure => simp [intOf]; omega
    · obtain rfl : k = n := by omega
      have HF := Lib.hid (show (vs.map Vec.l).take k = vs.map Vec.l by rw [List.take_of_length_le (by rw [List.length_map, HLEN.out]; exact Nat.le_refl _)])
      go_wp2
      go_ret
      exact ⟨by rw [HF.out]; rfl, hb⟩
def allOk (vs : List (List (Int × Nat))) : Bool := vs.all (okV 0)
def mergeE (vs : List (List (Int × Nat))) : Int := if allOk vs then 0 else 2
def mergeV (vs : List (List (Int × Nat))) : List (Int × Nat) := if allOk vs then ofV (mergeF vs) else []
set_option maxHeartbeats 2000000 in
theorem merge_v (B : Nat) (A : Option Addr) (n c : Nat) (vs : List Vec) (w : World) (hr : MReads w B A n vs) (hB : B ≤ w.heap.size) (hn : n ≤ 9223372036854775807) (hl : ∀ v ∈ vs, fitV v.l) :
    Calls Tryz.prog 33 #[.slice A n c] w fun e w' => ∃ A' n' c', e = .returned (.tuple #[.slice A' n' c', .int .i64 (mergeE (vs.map Vec.l))]) ∧ COwn w' w.heap.size A' n' c' (mergeV (vs.map Vec.l)) ∧ Below w.heap.size w w' := by
  have hb0 : Below w.heap.size w (w.alloc (.cells #[.slice A n c] 85)) := (Below.refl _ _).alloc (Nat.le_refl _) _
  have HLEN := Lib.hid hr.len
  have HR := Lib.hid hr
  clear hr
  generalize hW : w.alloc (.cells #[.slice A n c] 85) = W at hb0
  have c1 : W.cell? ⟨w.heap.size, 0, none⟩ = some (.slice A n c) := by rw [← hW, World.cell?_alloc_at _ _ _ _ rfl]; rfl
  have hsz : w.heap.size + 1 = W.heap.size := by rw [← hW]; simp
  have HSZ := Lib.hid hsz
  clear hsz
  go_enter Tryz.func33, Tryz.ntmps33
  go_wp2
  go_loopw [9] (fun i wr => ∃ (k : Nat), k ≤ n ∧ i = .int .i64 (k : Int) ∧ allOk ((vs.map Vec.l).take k) = true ∧ Below W.heap.size W wr) (fun i _ => n - (intOf i).toNat)
  case atStart => exact ⟨0, Nat.zero_le _, rfl, rfl, Below.refl _ _⟩
  case round =>
    obtain ⟨k, hk, rfl, ho, hb⟩ := hrel
    have hbw : Below w.heap.size w wr := hb0.trans (hb.mono (by rw [← HSZ.out]; omega))
    have HRw := Lib.hid (HR.out.below (hbw.mono hB))
    have HO := Lib.hid ho
    clear ho
    by_cases hlt : k < n
    · obtain ⟨ad, v, he, had, hv, hc, hcr, hvn⟩ := HRw.out.at_ hlt
      subst he
      have HV := Lib.hid (show (vs.map Vec.l)[k]? = some v.l by rw [List.getElem?_map, hv]; rfl)
      have HCR := Lib.hid hcr
      clear hv hcr
      have hst : allOk ((vs.map Vec.l).take (k + 1)) = okV 0 v.l := by
        obtain ⟨hk2, he2⟩ := List.getElem?_eq_some_iff.1 HV.out
        have := HO.out
        unfold allOk at this ⊢
        rw [List.take_succ_eq_append_getElem hk2, he2, List.all_append, this]
        simp
      have HST := Lib.hid hst
      clear hst
      cases hov : okV 0 v.l
      · have HA := Lib.hid (show allOk (vs.map Vec.l) = false by
          rw [← Bool.not_eq_true]
          intro h
          unfold allOk at h
          rw [List.all_eq_true] at h
          have := h v.l (List.mem_of_getElem? HV.out)
          rw [hov] at this
          cases this)
        have HOV := Lib.hid hov
        clear hov
        go_wp2_with fail
        refine (check_v B v.A v.n v.c v.l wr HCR.out (Nat.le_trans hB hbw.size) hvn).mono ?_
        rw [HOV.out]
        rintro e w1 ⟨rfl, hb1⟩
        go_wp2
        go_ret2
        exact ⟨none, 0, 0, by rw [mergeE, if_neg (by rw [HA.out]; decide)]; rfl, by rw [mergeV, if_neg (by rw [HA.out]; decide)]; exact COwn.nil_ _ _, hbw.trans (hb1.mono hbw.size)⟩
      · have HOV := Lib.hid hov
        clear hov
        go_wp2_with fail
        refine (check_v B v.A v.n v.c v.l wr HCR.out (Nat.le_trans hB hbw.size) hvn).mono ?_
        rw [HOV.out]
        rintro e w1 ⟨rfl, hb1⟩
        have hb2 := hb.trans (hb1.mono hb.size)
        clear hb1
        go_wp2
        go_roundw
        case rel => exact ⟨k + 1, hlt, by go_num, by rw [HST.out, HOV.out], hb2⟩
        case measure => simp [intOf]; omega
    · obtain rfl : k = n := by omega
      have HA := Lib.hid (show allOk (vs.map Vec.l) = true by have := HO.out; rwa [List.take_of_length_le (by rw [List.length_map, HLEN.out]; exact Nat.le_refl _)] at this)
      have hwr : w.heap.size < wr.heap.size := by have := hb.size; have := HSZ.out; omega
      have HF : Hid (∀ (d : Int) (V : World), 1 ≤ d → d ≤ 16 → Below wr.heap.size wr V → Calls Tryz.prog 59 (#[.int .i64 d] ++ #[.pointer (some ⟨w.heap.size, 0, none⟩)]) V fun e V' => e = .returned (.int .u64 (mergeF (vs.map Vec.l) d : Int)) ∧ Below V.heap.size V V') :=
        Lib.hid fun d V _ _ hV => merge1_v B A k c vs d V ⟨w.heap.size, 0, none⟩ (Nat.lt_of_lt_of_le hwr hV.size)
          ((hV.cell (p := ⟨w.heap.size, 0, none⟩) hwr).trans ((hb.cell (p := ⟨w.heap.size, 0, none⟩) (by rw [← HSZ.out]; exact Nat.lt_succ_self _)).trans c1))
          (HRw.out.below (hV.mono (Nat.le_trans hB hbw.size))) (Nat.le_trans (Nat.le_trans hB hbw.size) hV.size) hn hl
      have HL : Hid (∀ d, mergeF (vs.map Vec.l) d < 18446744073709551616) := Lib.hid fun d => fit_merge _ _ fun v hv => by
        obtain ⟨u, hu, rfl⟩ := List.mem_map.1 hv
        exact hl u hu
      go_wp2_with fail
      refine (of_v 59 _ (mergeF (vs.map Vec.l)) wr (run_f Tryz.func59 (by kernel_rfl) rfl) HL.out HF.out).mono ?_
      rintro e w3 ⟨A3, n3, c3, rfl, ho3, hb3⟩
      go_wp2
      go_ret2
      exact ⟨A3, n3, c3, by rw [mergeE, if_pos HA.out]; rfl, by rw [mergeV, if_pos HA.out]; exact ho3.down hbw.size, hbw.trans (hb3.mono hbw.size)⟩
end Go.Proofs.YtndekohimfjdeaaGreatDoor

namespace Go.Proofs.YtndekohimfjdeaaGreatDoor
open Go.RowKit
theorem btwo {w w1 w2 : World} (h : Below w.heap.size w w1) (k : Below w1.heap.size w1 w2) : Below w.heap.size w w2 := h.trans (k.mono h.size)
set_option maxHeartbeats 1000000 in
theorem both_v (B : Nat) (A1 A2 : Option Addr) (n1 c1 n2 c2 : Nat) (l1 l2 : List (Int × Nat)) (w : World) (hr1 : CReads w B A1 n1 l1) (hr2 : CReads w B A2 n2 l2) (hB : B ≤ w.heap.size) (hn1 : n1 ≤ 9223372036854775807) (hn2 : n2 ≤ 9223372036854775807) :
    Calls Tryz.prog 52 #[.slice A1 n1 c1, .slice A2 n2 c2] w fun e w' => e = .returned (.bool (okV 0 l1 && okV 0 l2)) ∧ Below w.heap.size w w' := by
  cases h1 : okV 0 l1
  · have H1 := Lib.hid h1
    clear h1
    go_enter Tryz.func52, Tryz.ntmps52
    go_wp2_with fail
    refine (check_v B A1 n1 c1 l1 w hr1 hB hn1).mono ?_
    rw [H1.out]
    rintro e w1 ⟨rfl, hb⟩
    go_wp2
    go_ret
    exact ⟨rfl, hb⟩
  · cases h2 : okV 0 l2
    all_goals
      have H1 := Lib.hid h1
      have H2 := Lib.hid h2
      clear h1 h2
      go_enter Tryz.func52, Tryz.ntmps52
      go_wp2_with fail
      refine (check_v B A1 n1 c1 l1 w hr1 hB hn1).mono ?_
      rw [H1.out]
      rintro e w1 ⟨rfl, hb⟩
      go_wp2_with fail
      refine (check_v B A2 n2 c2 l2 w1 (Reads.below (show Reads w B 2 A2 n2 _ from hr2) (hb.mono hB)) (Nat.le_trans hB hb.size) hn2).mono ?_
      rw [H2.out]
      rintro e w2 ⟨rfl, hb2⟩
      go_wp2
      go_ret
      exact ⟨rfl, btwo hb hb2⟩
/-- Is the first one's value less, for one of the devices up to k? -/
def ltN (f g : Int → Nat) : Nat → Bool
  | 0 => false
  | k + 1 => ltN f g k || decide (f ((k : Int) + 1) < g ((k : Int) + 1))
def cmpF (f g : Int → Nat) : Int := if ltN f g 16 && ltN g f 16 then 4 else if ltN f g 16 then 2 else if ltN g f 16 then 3 else 1
def cmpV (l1 l2 : List (Int × Nat)) : Int := if okV 0 l1 && okV 0 l2 then cmpF (val l1) (val l2) else 0
set_option maxHeartbeats 2000000 in
theorem compare_v (B : Nat) (A1 A2 : Option Addr) (n1 c1 n2 c2 : Nat) (l1 l2 : List (Int × Nat)) (w : World) (hr1 : CReads w B A1 n1 l1) (hr2 : CReads w B A2 n2 l2) (hB : B ≤ w.heap.size) (hn1 : n1 ≤ 9223372036854775807) (hn2 : n2 ≤ 9223372036854775807)
    (hf1 : fitV l1) (hf2 : fitV l2) :
    Calls Tryz.prog 28 #[.slice A1 n1 c1, .slice A2 n2 c2] w fun e w' => e = .returned (.int .i64 (cmpV l1 l2)) ∧ Below w.heap.size w w' := by
  cases ho : okV 0 l1 && okV 0 l2
  · have HO := Lib.hid ho
    clear ho
    have HC := Lib.hid (show cmpV l1 l2 = 0 by rw [cmpV, HO.out]; rfl)
    go_enter Tryz.func28, Tryz.ntmps28
    go_wp2
    go_step3
    go_wp2_with fail
    refine (both_v B A1 A2 n1 c1 n2 c2 l1 l2 w hr1 hr2 hB hn1 hn2).mono ?_
    rw [HO.out]
    rintro e w1 ⟨rfl, hb⟩
    go_wp2
    try rw [Exit.noGoto_ret]
    go_ret
    exact ⟨by rw [HC.out]; rfl, hb⟩
  · have HO := Lib.hid ho
    clear ho
    have HC := Lib.hid (show cmpV l1 l2 = cmpF (val l1) (val l2) by rw [cmpV, HO.out]; rfl)
    go_enter Tryz.func28, Tryz.ntmps28
    go_wp2
    go_step3
    go_wp2_with fail
    refine (both_v B A1 A2 n1 c1 n2 c2 l1 l2 w hr1 hr2 hB hn1 hn2).mono ?_
    rw [HO.out]
    rintro e w1 ⟨rfl, hb⟩
    go_wp2_with fail
    go_step3
    go_wp2_with fail
    go_loopw [5, 6, 7] (fun x y i wr => ∃ (k : Nat), k ≤ 16 ∧ i = .int .i64 ((k : Int) + 1) ∧ x = .bool (ltN (val l1) (val l2) k) ∧ y = .bool (ltN (val l2) (val l1) k) ∧ Below w.heap.size w wr) (fun _ _ i _ => 17 - (intOf i).toNat)
    case atStart => exact ⟨0, Nat.zero_le _, rfl, rfl, rfl, hb⟩
    case round =>
      obtain ⟨k, hk, rfl, rfl, rfl, hbw⟩ := hrel
      have R1 := Lib.hid (Reads.below (show Reads w B 2 A1 n1 _ from hr1) (hbw.mono hB))
      have HBr : Hid (B ≤ wr.heap.size) := Lib.hid (Nat.le_trans hB hbw.size)
      by_cases hlt : k < 16
      · go_wp2_with fail
        refine (val_v B A1 n1 c1 l1 ((k : Int) + 1) wr R1.out HBr.out hn1).mono ?_
        rintro e w2 ⟨rfl, hb2⟩
        have R2 := Lib.hid (Reads.below (show Reads w B 2 A2 n2 _ from hr2) ((hbw.trans (hb2.mono hbw.size)).mono hB))
        go_wp2_with fail
        refine (val_v B A2 n2 c2 l2 ((k : Int) + 1) w2 R2.out (Nat.le_trans HBr.out hb2.size) hn2).mono ?_
        rintro e w3 ⟨rfl, hb3⟩
        have hb4 : Below w.heap.size w w3 := hbw.trans ((btwo hb2 hb3).mono hbw.size)
        have v1 := fit_val l1 ((k : Int) + 1) hf1
        have v2 := fit_val l2 ((k : Int) + 1) hf2
        have s1 := Lib.hid (show ltN (val l1) (val l2) (k + 1) = (ltN (val l1) (val l2) k || decide (val l1 ((k : Int) + 1) < val l2 ((k : Int) + 1))) from rfl)
        have s2 := Lib.hid (show ltN (val l2) (val l1) (k + 1) = (ltN (val l2) (val l1) k || decide (val l2 ((k : Int) + 1) < val l1 ((k : Int) + 1))) from rfl)
        clear hb2 hb3
        generalize val l1 ((k : Int) + 1) = x at *
        generalize val l2 ((k : Int) + 1) = y at *
        by_cases he : x = y
        · subst he
          have e1 := Lib.hid (show ltN (val l1) (val l2) (k + 1) = ltN (val l1) (val l2) k by rw [s1.out]; simp)
          have e2 := Lib.hid (show ltN (val l2) (val l1) (k + 1) = ltN (val l2) (val l1) k by rw [s2.out]; simp)
          go_wp2
          go_roundw
          case rel => exact ⟨k + 1, hlt, by go_num, by rw [e1.out], by rw [e2.out], hb4⟩
          case measure => simp [intOf]; omega
        · have d0 : ((x : Int) == (y : Int)) = false := by rw [beq_eq_false_iff_ne]; omega
          by_cases hl : x < y
          · have d1 : decide (x < y) = true := by simpa using hl
            have e1 := Lib.hid (show ltN (val l1) (val l2) (k + 1) = true by rw [s1.out]; simp [hl])
            have e2 := Lib.hid (show ltN (val l2) (val l1) (k + 1) = ltN (val l2) (val l1) k by rw [s2.out, decide_eq_false (by omega)]; simp)
            clear he
            go_wp2
            go_roundw
            case rel => exact ⟨k + 1, hlt, by go_num, by rw [e1.out], by rw [e2.out], hb4⟩
            case measure => simp [intOf]; omega
          · have d1 : decide (x < y) = false := by simpa using hl
            have e1 := Lib.hid (show ltN (val l1) (val l2) (k + 1) = ltN (val l1) (val l2) k by rw [s1.out]; simp [hl])
            have e2 := Lib.hid (show ltN (val l2) (val l1) (k + 1) = true by rw [s2.out, decide_eq_true (by omega)]; simp)
            clear he
            go_wp2
            go_roundw
            case rel => exact ⟨k + 1, hlt, by go_num, by rw [e1.out], by rw [e2.out], hb4⟩
            case measure => simp [intOf]; omega
      · obtain rfl : k = 16 := by omega
        have hcm : cmpF (val l1) (val l2) = if ltN (val l1) (val l2) 16 && ltN (val l2) (val l1) 16 then 4 else if ltN (val l1) (val l2) 16 then 2 else if ltN (val l2) (val l1) 16 then 3 else 1 := rfl
        have HCM := Lib.hid hcm
        clear hcm
        generalize ltN (val l1) (val l2) 16 = p at *
        generalize ltN (val l2) (val l1) 16 = q at *
        rcases p <;> rcases q
        all_goals go_wp2
        all_goals (try rw [Exit.noGoto_ret])
        all_goals go_ret
        all_goals exact ⟨by rw [HC.out, HCM.out]; rfl, hbw⟩
end Go.Proofs.YtndekohimfjdeaaGreatDoor

namespace Go.Proofs.YtndekohimfjdeaaGreatDoor
open Go.RowKit
set_option maxHeartbeats 2000000 in
/-- The kit's comparison. -/
theorem same_v (B : Nat) (A1 A2 : Option Addr) (n1 c1 n2 c2 : Nat) (l1 l2 : List (Int × Nat)) (w : World) (hr1 : CReads w B A1 n1 l1) (hr2 : CReads w B A2 n2 l2) (hB : B ≤ w.heap.size) (hn1 : n1 ≤ 9223372036854775807) :
    Calls Tryz.prog 40 #[.slice A1 n1 c1, .slice A2 n2 c2] w fun e w' => e = .returned (.bool (decide (l1 = l2))) ∧ Below w.heap.size w w' := by
  have L1 := Lib.hid hr1.len
  have L2 := Lib.hid hr2.len
  by_cases hl : n1 = n2
  · subst hl
    have H1 := Lib.hid hr1
    have H2 := Lib.hid hr2
    clear hr1 hr2
    go_enter Tryz.func40, Tryz.ntmps40
    go_wp2
    go_loopw [5] (fun i wr => ∃ (k : Nat), k ≤ n1 ∧ i = .int .i64 (k : Int) ∧ l1.take k = l2.take k ∧ Below w.heap.size w wr) (fun i _ => n1 - (intOf i).toNat)
    case atStart => exact ⟨0, Nat.zero_le _, rfl, rfl, Below.refl _ _⟩
    case round =>
      obtain ⟨k, hk, rfl, ht, hb⟩ := hrel
      have R1 := Lib.hid (Reads.below (show Reads w B 2 A1 n1 _ from H1.out) (hb.mono hB))
      have R2 := Lib.hid (Reads.below (show Reads w B 2 A2 n1 _ from H2.out) (hb.mono hB))
      have HT := Lib.hid ht
      clear ht
      by_cases hlt : k < n1
      · obtain ⟨ad1, x, he1, _, hx, hc1, hc2⟩ := CReads.at_ R1.out hlt
        obtain ⟨ad2, y, he2, _, hy, hd1, hd2⟩ := CReads.at_ R2.out hlt
        subst he1 he2
        have HX := Lib.hid hx
        have HY := Lib.hid hy
        clear hx hy
        by_cases hxy : x = y
        · subst hxy
          have HF := Lib.hid (show l1.take (k + 1) = l2.take (k + 1) by
            obtain ⟨a1, b1⟩ := List.getElem?_eq_some_iff.1 HX.out
            obtain ⟨a2, b2⟩ := List.getElem?_eq_some_iff.1 HY.out
            rw [List.take_succ_eq_append_getElem a1, List.take_succ_eq_append_getElem a2, b1, b2, HT.out])
          go_wp2
          go_region
          all_goals go_wp2
          go_roundw
          case rel => exact ⟨k + 1, hlt, by go_num, HF.out, hb.drew⟩
          case measure => simp [intOf]; omega
        · have HF := Lib.hid (show decide (l1 = l2) = false by
            apply decide_eq_false
            intro h
            apply hxy
            have h1 := HX.out
            rw [h, HY.out] at h1
            injection h1 with h1
            exact h1.symm)
          by_cases h1 : x.1 = y.1
          · have h2 : ¬ ((x.2 : Int) = (y.2 : Int)) := fun h => hxy (Prod.ext h1 (by omega))
            clear hxy
            go_wp2
            go_region
            all_goals go_wp2
            all_goals go_ret
            all_goals exact ⟨by rw [HF.out]; rfl, hb.drew⟩
          · clear hxy
            go_wp2
            go_region
            all_goals go_wp2
            all_goals go_ret
            all_goals exact ⟨by rw [HF.out]; rfl, hb.drew⟩
      · obtain rfl : k = n1 := by omega
        have HF := Lib.hid (show decide (l1 = l2) = true by
          apply decide_eq_true
          have := HT.out
          rwa [List.take_of_length_le (by rw [L1.out]; exact Nat.le_refl _), List.take_of_length_le (by rw [L2.out]; exact Nat.le_refl _)] at this)
        go_wp2
        go_ret
        exact ⟨by rw [HF.out]; rfl, hb⟩
  · have hb : ((n1 : Int) == (n2 : Int)) = false := by rw [beq_eq_false_iff_ne]; omega
    have HF := Lib.hid (show decide (l1 = l2) = false by
      apply decide_eq_false
      intro h
      apply hl
      rw [← L1.out, ← L2.out, h])
    go_enter Tryz.func40, Tryz.ntmps40
    go_wp2
    go_ret
    exact ⟨by rw [HF.out]; rfl, Below.refl _ _⟩
end Go.Proofs.YtndekohimfjdeaaGreatDoor

namespace Go.Proofs.YtndekohimfjdeaaGreatDoor
open Go.RowKit
/-- All values together. -/
def sumV (l : List (Int × Nat)) : Nat := (l.map (·.2)).sum
theorem run_add (x y : Nat) (w : World) : (callFunc 46 #[.int .u64 (x : Int), .int .u64 (y : Int), .int .u64 0]).run Tryz.prog w = .ok (.value (.tuple #[.int .u64 (((x + y) % 18446744073709551616 : Nat) : Int), .int .u64 (((x + y) / 18446744073709551616 : Nat) : Int)])) w := by
  rw [run_callFunc_extern (e := add64Entry) Tryz.func46 (by kernel_rfl) (by rfl) (by kernel_rfl) (by rfl)]
  rw [run_add64 x y 0 (by omega) (by omega) (by omega) (by omega)]
  simp [Result.andThen]
theorem sum_le : ∀ l : List (Int × Nat), fitV l → sumV l ≤ l.length * 18446744073709551615
  | [], _ => by simp [sumV]
  | x :: l, h => by
    have h1 := sum_le l fun y hy => h y (List.mem_cons_of_mem _ hy)
    have h2 := h x List.mem_cons_self
    simp only [sumV, List.map_cons, List.sum_cons, List.length_cons] at h1 ⊢
    omega
theorem sum_take (l : List (Int × Nat)) (k : Nat) (x : Int × Nat) (h : l[k]? = some x) : sumV (l.take (k + 1)) = sumV (l.take k) + x.2 := by
  obtain ⟨hk, he⟩ := List.getElem?_eq_some_iff.1 h
  rw [List.take_succ_eq_append_getElem hk, he, sumV, sumV]
  simp
set_option maxHeartbeats 2000000 in
theorem sum_v (B : Nat) (A : Option Addr) (n c : Nat) (l : List (Int × Nat)) (w : World) (hr : CReads w B A n l) (hB : B ≤ w.heap.size) (hn : n ≤ 9223372036854775807) (hl : fitV l) :
    Calls Tryz.prog 85 #[.slice A n c] w fun e w' => e = .returned (.tuple #[.int .u64 ((sumV l / 18446744073709551616 : Nat) : Int), .int .u64 ((sumV l % 18446744073709551616 : Nat) : Int)]) ∧ Below w.heap.size w w' := by
  have HLEN := Lib.hid hr.len
  go_enter Tryz.func85, Tryz.ntmps85
  go_wp2
  go_loopw [2, 3, 10] (fun h lo i wr => ∃ (k : Nat), k ≤ n ∧ i = .int .i64 (k : Int) ∧ h = .int .u64 ((sumV (l.take k) / 18446744073709551616 : Nat) : Int) ∧ lo = .int .u64 ((sumV (l.take k) % 18446744073709551616 : Nat) : Int) ∧ Below w.heap.size w wr) (fun _ _ i _ => n - (intOf i).toNat)
  case atStart => exact ⟨0, Nat.zero_le _, rfl, by simp [sumV], by simp [sumV], Below.refl _ _⟩
  case round =>
    obtain ⟨k, hk, rfl, rfl, rfl, hb⟩ := hrel
    have HR := Lib.hid (Reads.below (show Reads w B 2 A n _ from hr) (hb.mono hB))
    by_cases hlt : k < n
    · obtain ⟨ad, x, he, had, hx, hc1, hc2⟩ := CReads.at_ HR.out hlt
      subst he
      have HF := Lib.hid (sum_take l k x hx)
      have hx64 : x.2 < 18446744073709551616 := hl x (List.mem_of_getElem? hx)
      have hsm : sumV (l.take k) ≤ k * 18446744073709551615 := by
        have := sum_le (l.take k) fun y hy => hl y (List.mem_of_mem_take hy)
        rwa [List.length_take, HLEN.out, Nat.min_eq_left hk] at this
      obtain ⟨s, hs⟩ : ∃ s, sumV (l.take k) = s := ⟨_, rfl⟩
      rw [hs] at HF hsm ⊢
      clear hs hx
      obtain ⟨h, hh⟩ : ∃ h, s / 18446744073709551616 = h := ⟨_, rfl⟩
      obtain ⟨lo, hlo⟩ : ∃ lo, s % 18446744073709551616 = lo := ⟨_, rfl⟩
      rw [hh, hlo]
      have hlo64 : lo < 18446744073709551616 := by omega
      have hh63 : h ≤ 9223372036854775807 := by omega
      have HH := Lib.hid hh
      have HLO := Lib.hid hlo
      clear hh hlo hsm
      have hadd := run_add lo x.2 (wr.alloc (.cells #[.int .i64 x.1, .int .u64 (x.2 : Int)] 50))
      have h1 : (lo + x.2) / 18446744073709551616 ≤ 1 := by omega
      have h2 : (lo + x.2) % 18446744073709551616 < 18446744073709551616 := by omega
      have HQ : Hid ((s + x.2) / 18446744073709551616 = h + (lo + x.2) / 18446744073709551616) := Lib.hid (by have := HH.out; have := HLO.out; omega)
      have HP : Hid ((s + x.2) % 18446744073709551616 = (lo + x.2) % 18446744073709551616) := Lib.hid (by have := HH.out; have := HLO.out; omega)
      generalize (lo + x.2) / 18446744073709551616 = q at *
      generalize (lo + x.2) % 18446744073709551616 = p at *
      have hbn : Below w.heap.size w (wr.alloc (.cells #[.int .i64 x.1, .int .u64 (x.2 : Int)] 50)) := hb.alloc hb.size _
      go_wp2
      go_roundw
      case rel => exact ⟨k + 1, hlt, by go_num, by rw [HF.out, HQ.out]; go_num, by rw [HF.out, HP.out], hbn⟩
      case measure => simp [intOf]; omega
    · obtain rfl : k = n := by omega
      have HF := Lib.hid (show l.take k = l by rw [List.take_of_length_le (by rw [HLEN.out]; exact Nat.le_refl _)])
      rw [HF.out]
      obtain ⟨q, hq⟩ : ∃ q, sumV l / 18446744073709551616 = q := ⟨_, rfl⟩
      obtain ⟨p, hp⟩ : ∃ p, sumV l % 18446744073709551616 = p := ⟨_, rfl⟩
      rw [hq, hp]
      have HQ := Lib.hid hq
      have HP := Lib.hid hp
      clear hq hp
      go_wp2
      go_ret2
      exact ⟨by rw [HQ.out, HP.out]; rfl, hb⟩
/-- By the first device at which two differ. -/
def firstD (f g : Int → Nat) : Nat → Int → Int
  | 0, _ => 0
  | k + 1, d => if f d = g d then firstD f g k (d + 1) else if g d < f d then 1 else -1
def ordF (s t : Nat) (f g : Int → Nat) : Int := if s < t then -1 else if t < s then 1 else firstD f g 16 1
def ordV (l1 l2 : List (Int × Nat)) : Int := if okV 0 l1 && okV 0 l2 then ordF (sumV l1) (sumV l2) (val l1) (val l2) else 0
set_option maxHeartbeats 4000000 in
theorem order_v (B : Nat) (A1 A2 : Option Addr) (n1 c1 n2 c2 : Nat) (l1 l2 : List (Int × Nat)) (w : World) (hr1 : CReads w B A1 n1 l1) (hr2 : CReads w B A2 n2 l2) (hB : B ≤ w.heap.size) (hn1 : n1 ≤ 9223372036854775807) (hn2 : n2 ≤ 9223372036854775807)
    (hf1 : fitV l1) (hf2 : fitV l2) :
    Calls Tryz.prog 73 #[.slice A1 n1 c1, .slice A2 n2 c2] w fun e w' => e = .returned (.int .i64 (ordV l1 l2)) ∧ Below w.heap.size w w' := by
  cases ho : okV 0 l1 && okV 0 l2
  · have HO := Lib.hid ho
    clear ho
    have HC := Lib.hid (show ordV l1 l2 = 0 by rw [ordV, HO.out]; rfl)
    go_enter Tryz.func73, Tryz.ntmps73
    go_wp2_with fail
    refine (both_v B A1 A2 n1 c1 n2 c2 l1 l2 w hr1 hr2 hB hn1 hn2).mono ?_
    rw [HO.out]
    rintro e w1 ⟨rfl, hb⟩
    go_wp2
    go_ret
    exact ⟨by rw [HC.out]; rfl, hb⟩
  · have HO := Lib.hid ho
    clear ho
    have HC := Lib.hid (show ordV l1 l2 = ordF (sumV l1) (sumV l2) (val l1) (val l2) by rw [ordV, HO.out]; rfl)
    go_enter Tryz.func73, Tryz.ntmps73
    go_wp2_with fail
    refine (both_v B A1 A2 n1 c1 n2 c2 l1 l2 w hr1 hr2 hB hn1 hn2).mono ?_
    rw [HO.out]
    rintro e w1 ⟨rfl, hb⟩
    have R1 := Lib.hid (Reads.below (show Reads w B 2 A1 n1 _ from hr1) (hb.mono hB))
    go_wp2_with fail
    refine (sum_v B A1 n1 c1 l1 w1 R1.out (Nat.le_trans hB hb.size) hn1 hf1).mono ?_
    obtain ⟨s, hs⟩ : ∃ s, sumV l1 = s := ⟨_, rfl⟩
    obtain ⟨t, ht⟩ : ∃ t, sumV l2 = t := ⟨_, rfl⟩
    rw [hs, ht] at HC
    rw [hs]
    obtain ⟨h, hh⟩ : ∃ h, s / 18446744073709551616 = h := ⟨_, rfl⟩
    obtain ⟨lo, hlo⟩ : ∃ lo, s % 18446744073709551616 = lo := ⟨_, rfl⟩
    obtain ⟨i, hi⟩ : ∃ i, t / 18446744073709551616 = i := ⟨_, rfl⟩
    obtain ⟨m, hm⟩ : ∃ m, t % 18446744073709551616 = m := ⟨_, rfl⟩
    rw [hh, hlo]
    rintro e w2 ⟨rfl, hb2⟩
    have hb3 := hb.trans (hb2.mono hb.size)
    have R2 := Lib.hid (Reads.below (show Reads w B 2 A2 n2 _ from hr2) (hb3.mono hB))
    have HT := Lib.hid ht
    have HI := Lib.hid hi
    have HM := Lib.hid hm
    have HH := Lib.hid hh
    have HLO := Lib.hid hlo
    have HCMP : Hid ((h < i → s < t) ∧ (i < h → t < s) ∧ (h = i → lo < m → s < t) ∧ (h = i → m < lo → t < s) ∧ (h = i → lo = m → s = t)) := Lib.hid (by omega)
    clear hs ht hh hlo hi hm hb hb2
    go_wp2_with fail
    refine (sum_v B A2 n2 c2 l2 w2 R2.out (Nat.le_trans hB hb3.size) hn2 hf2).mono ?_
    rw [HT.out, HI.out, HM.out]
    rintro e w4 ⟨rfl, hb4⟩
    have hb5 := hb3.trans (hb4.mono hb3.size)
    clear hb4 hb3
    by_cases b1 : h < i
    · have d1 : decide (h < i) = true := by simpa using b1
      have HF := Lib.hid (show ordV l1 l2 = -1 by rw [HC.out, ordF, if_pos (HCMP.out.1 b1)])
      go_wp2
      go_ret
      exact ⟨by rw [HF.out]; rfl, hb5⟩
    · have d1 : decide (h < i) = false := by simpa using b1
      by_cases b2 : i < h
      · have d2 : decide (i < h) = true := by simpa using b2
        have HF := Lib.hid (show ordV l1 l2 = 1 by have := HCMP.out.2.1 b2; rw [HC.out, ordF, if_neg (by omega), if_pos this])
        have hne : ((h : Int) == (i : Int)) = false := by rw [beq_eq_false_iff_ne]; omega
        go_wp2
        go_ret
        exact ⟨by rw [HF.out]; rfl, hb5⟩
      · obtain rfl : h = i := by omega
        clear b2
        by_cases b3 : lo < m
        · have d3 : decide (lo < m) = true := by simpa using b3
          have HF := Lib.hid (show ordV l1 l2 = -1 by rw [HC.out, ordF, if_pos (HCMP.out.2.2.1 rfl b3)])
          go_wp2
          go_ret
          exact ⟨by rw [HF.out]; rfl, hb5⟩
        · have d3 : decide (lo < m) = false := by simpa using b3
          by_cases b4 : m < lo
          · have d4 : decide (m < lo) = true := by simpa using b4
            have HF := Lib.hid (show ordV l1 l2 = 1 by have := HCMP.out.2.2.2.1 rfl b4; rw [HC.out, ordF, if_neg (by omega), if_pos this])
            go_wp2
            go_ret
            exact ⟨by rw [HF.out]; rfl, hb5⟩
          · obtain rfl : lo = m := by omega
            have HF := Lib.hid (show ordV l1 l2 = firstD (val l1) (val l2) 16 1 by have := HCMP.out.2.2.2.2 rfl rfl; rw [HC.out, ordF, if_neg (by omega), if_neg (by omega)])
            clear b4 b3 d3
            go_wp2_with fail
            go_loopw [9] (fun i wr => ∃ (k : Nat), k ≤ 16 ∧ i = .int .i64 ((k : Int) + 1) ∧ ordV l1 l2 = firstD (val l1) (val l2) (16 - k) ((k : Int) + 1) ∧ Below w.heap.size w wr) (fun i _ => 17 - (intOf i).toNat)
            case atStart => exact ⟨0, Nat.zero_le _, rfl, HF.out, hb5⟩
            case round =>
              obtain ⟨k, hk, rfl, ho, hbw⟩ := hrel
              have HO2 := Lib.hid ho
              clear ho
              have R3 := Lib.hid (Reads.below (show Reads w B 2 A1 n1 _ from hr1) (hbw.mono hB))
              have HBr : Hid (B ≤ wr.heap.size) := Lib.hid (Nat.le_trans hB hbw.size)
              by_cases hlt : k < 16
              · have HS := Lib.hid (show ordV l1 l2 = if val l1 ((k : Int) + 1) = val l2 ((k : Int) + 1) then firstD (val l1) (val l2) (16 - (k + 1)) ((k : Int) + 1 + 1) else if val l2 ((k : Int) + 1) < val l1 ((k : Int) + 1) then 1 else -1 by
                  rw [HO2.out, show 16 - k = (16 - (k + 1)) + 1 by omega]; rfl)
                go_wp2_with fail
                refine (val_v B A1 n1 c1 l1 ((k : Int) + 1) wr R3.out HBr.out hn1).mono ?_
                rintro e w6 ⟨rfl, hb6⟩
                have R4 := Lib.hid (Reads.below (show Reads w B 2 A2 n2 _ from hr2) ((hbw.trans (hb6.mono hbw.size)).mono hB))
                go_wp2_with fail
                refine (val_v B A2 n2 c2 l2 ((k : Int) + 1) w6 R4.out (Nat.le_trans HBr.out hb6.size) hn2).mono ?_
                rintro e w7 ⟨rfl, hb7⟩
                have hb8 : Below w.heap.size w w7 := hbw.trans ((btwo hb6 hb7).mono hbw.size)
                have v1 := fit_val l1 ((k : Int) + 1) hf1
                have v2 := fit_val l2 ((k : Int) + 1) hf2
                clear hb6 hb7
                generalize val l1 ((k : Int) + 1) = x at *
                generalize val l2 ((k : Int) + 1) = y at *
                by_cases he : x = y
                · have HG := Lib.hid (show ordV l1 l2 = firstD (val l1) (val l2) (16 - (k + 1)) (((k + 1 : Nat) : Int) + 1) by rw [HS.out, if_pos he]; rfl)
                  subst he
                  go_wp2
                  go_roundw
                  case rel => exact ⟨k + 1, hlt, by go_num, HG.out, hb8⟩
                  case measure => simp [intOf]; omega
                · have d0 : ((x : Int) == (y : Int)) = false := by rw [beq_eq_false_iff_ne]; omega
                  by_cases hl : y < x
                  · have d5 : decide (y < x) = true := by simpa using hl
                    have HG := Lib.hid (show ordV l1 l2 = 1 by rw [HS.out, if_neg he, if_pos hl])
                    clear he
                    go_wp2
                    go_ret
                    exact ⟨by rw [HG.out]; rfl, hb8⟩
                  · have d5 : decide (y < x) = false := by simpa using hl
                    have HG := Lib.hid (show ordV l1 l2 = -1 by rw [HS.out, if_neg he, if_neg hl])
                    clear he
                    go_wp2
                    go_ret
                    exact ⟨by rw [HG.out]; rfl, hb8⟩
              · obtain rfl : k = 16 := by omega
                have HG := Lib.hid (show ordV l1 l2 = 0 by rw [HO2.out]; rfl)
                go_wp2
                go_ret
                exact ⟨by rw [HG.out]; rfl, hbw⟩
end Go.Proofs.YtndekohimfjdeaaGreatDoor

namespace Go.Proofs.YtndekohimfjdeaaGreatDoor
open Go.RowKit
theorem ofN_congr : ∀ (k : Nat) (d : Int) (f g : Int → Nat), (∀ e, d ≤ e → e < d + k → f e = g e) → ofN f k d = ofN g k d
  | 0, _, _, _, _ => rfl
  | k + 1, d, f, g, h => by
    rw [ofN, ofN, h d (by omega) (by omega), ofN_congr k (d + 1) f g fun e h1 h2 => h e (by omega) (by omega)]
theorem ofV_congr {f g : Int → Nat} (h : ∀ e, 1 ≤ e → e ≤ 16 → f e = g e) : ofV f = ofV g := ofN_congr 16 1 f g fun e h1 h2 => h e h1 (by omega)
theorem val_app : ∀ (l m : List (Int × Nat)) (d : Int), (∀ x ∈ l, x.1 ≠ d) → val (l ++ m) d = val m d
  | [], _, _, _ => rfl
  | x :: l, m, d, h => by
    rw [List.cons_append, val_cons, if_neg (h x List.mem_cons_self)]
    exact val_app l m d fun y hy => h y (List.mem_cons_of_mem _ hy)
theorem val_ofN : ∀ (k : Nat) (d : Int) (f : Int → Nat) (e : Int), val (ofN f k d) e = if d ≤ e ∧ e < d + k then f e else 0
  | 0, d, f, e => by rw [if_neg (by omega)]; rfl
  | k + 1, d, f, e => by
    rw [ofN]
    by_cases hp : 0 < f d
    · rw [if_pos hp, List.singleton_append, val_cons]
      by_cases hd : d = e
      · subst hd
        rw [if_pos rfl, if_pos (by omega)]
      · rw [if_neg hd, val_ofN k (d + 1) f e]
        by_cases h : d + 1 ≤ e ∧ e < d + 1 + k
        · rw [if_pos h, if_pos (by omega)]
        · rw [if_neg h, if_neg (by omega)]
    · rw [if_neg hp, List.nil_append, val_ofN k (d + 1) f e]
      by_cases hd : d = e
      · subst hd
        rw [if_neg (by omega), if_pos (by omega)]
        omega
      · by_cases h : d + 1 ≤ e ∧ e < d + 1 + k
        · rw [if_pos h, if_pos (by omega)]
        · rw [if_neg h, if_neg (by omega)]
theorem val_ofV (f : Int → Nat) (e : Int) : val (ofV f) e = if 1 ≤ e ∧ e ≤ 16 then f e else 0 := by
  rw [ofV, val_ofN]
  by_cases h : 1 ≤ e ∧ e ≤ 16
  · rw [if_pos h, if_pos (by omega)]
  · rw [if_neg h, if_neg (by omega)]
theorem ok_ofN : ∀ (k : Nat) (d last : Int) (f : Int → Nat), last < d → d + k ≤ 17 → okV last (ofN f k d) = true
  | 0, _, _, _, _, _ => rfl
  | k + 1, d, last, f, h, h2 => by
    rw [ofN]
    by_cases hp : 0 < f d
    · rw [if_pos hp, List.singleton_append, okV_cons, if_neg (by simp only []; omega)]
      exact ok_ofN k (d + 1) d f (by omega) (by omega)
    · rw [if_neg hp, List.nil_append]
      exact ok_ofN k (d + 1) last f (by omega) (by omega)
theorem ok_ofV (f : Int → Nat) : okV 0 (ofV f) = true := ok_ofN 16 1 0 f (by omega) (by omega)
theorem fit_ofN : ∀ (k : Nat) (d : Int) (f : Int → Nat), (∀ e, f e < 18446744073709551616) → fitV (ofN f k d)
  | 0, _, _, _ => fun x hx => by simp [ofN] at hx
  | k + 1, d, f, h => fun x hx => by
    rw [ofN] at hx
    rcases List.mem_append.1 hx with hx | hx
    · split at hx
      · obtain rfl : x = (d, f d) := by simpa using hx
        exact h d
      · simp at hx
    · exact fit_ofN k (d + 1) f h x hx
theorem fit_ofV (f : Int → Nat) (h : ∀ e, f e < 18446744073709551616) : fitV (ofV f) := fit_ofN 16 1 f h
theorem val_low : ∀ (l : List (Int × Nat)) (last d : Int), okV last l = true → d ≤ last → val l d = 0
  | [], _, _, _, _ => rfl
  | x :: l, last, d, h, hd => by
    rw [okV_cons] at h
    split at h
    · cases h
    · rw [val_cons, if_neg (by omega)]
      exact val_low l x.1 d h (by omega)
theorem val_hi : ∀ (l : List (Int × Nat)) (last d : Int), okV last l = true → 16 < d → val l d = 0
  | [], _, _, _, _ => rfl
  | x :: l, last, d, h, hd => by
    rw [okV_cons] at h
    split at h
    · cases h
    · rw [val_cons, if_neg (by omega)]
      exact val_hi l x.1 d h hd
theorem canon_N : ∀ (k : Nat) (l : List (Int × Nat)) (last d : Int), okV last l = true → d = last + 1 → d + k = 17 → l = ofN (val l) k d
  | 0, [], _, _, _, _, _ => rfl
  | 0, x :: l, last, d, h, h1, h2 => by
    rw [okV_cons] at h
    split at h
    · cases h
    · omega
  | k + 1, [], last, d, h, h1, h2 => by
    rw [ofN, if_neg (by simp [val]), List.nil_append]
    exact canon_N k [] (last + 1) (d + 1) rfl (by omega) (by omega)
  | k + 1, x :: l, last, d, h, h1, h2 => by
    have h0 := h
    rw [okV_cons] at h
    split at h
    · cases h
    · rename_i hx
      by_cases hd : x.1 = d
      · have hv : val (x :: l) d = x.2 := by rw [val_cons, if_pos hd]
        rw [ofN, hv, if_pos (by omega), List.singleton_append]
        have hc := canon_N k l x.1 (d + 1) h (by omega) (by omega)
        have : (d, x.2) = x := Prod.ext hd.symm rfl
        rw [this]
        congr 1
        refine hc.trans (ofN_congr k (d + 1) _ _ fun e h3 h4 => ?_)
        rw [val_cons, if_neg (by omega)]
      · have hv : val (x :: l) d = 0 := by
          rw [val_cons, if_neg hd]
          exact val_low l x.1 d h (by omega)
        rw [ofN, hv, if_neg (by omega), List.nil_append]
        refine canon_N k (x :: l) (last + 1) (d + 1) ?_ (by omega) (by omega)
        rw [okV_cons, if_neg (by omega)]
        exact h
/-- A vector that may be is made by its values. -/
theorem canon_V {l : List (Int × Nat)} (h : okV 0 l = true) : l = ofV (val l) := canon_N 16 l 0 1 h (by omega) (by omega)
theorem val_out {l : List (Int × Nat)} (h : okV 0 l = true) {d : Int} (hd : d < 1 ∨ 16 < d) : val l d = 0 := by
  rcases hd with hd | hd
  · exact val_low l 0 d h (by omega)
  · exact val_hi l 0 d h hd
end Go.Proofs.YtndekohimfjdeaaGreatDoor

namespace Go.Proofs.YtndekohimfjdeaaGreatDoor
open Go.RowKit
section
variable {a b c : List (Int × Nat)}
theorem merge_ok (vs : List (List (Int × Nat))) (h : allOk vs = true) : mergeE vs = 0 ∧ mergeV vs = ofV (mergeF vs) := ⟨by rw [mergeE, if_pos h], by rw [mergeV, if_pos h]⟩
theorem allOk_cons (l : List (Int × Nat)) (vs : List (List (Int × Nat))) (h1 : okV 0 l = true) (h2 : allOk vs = true) : allOk (l :: vs) = true := by
  unfold allOk at h2 ⊢
  rw [List.all_cons, h1, h2]
  rfl
theorem allOk_nil : allOk [] = true := rfl
theorem val_merge (vs : List (List (Int × Nat))) (h : allOk vs = true) (e : Int) (h1 : 1 ≤ e) (h2 : e ≤ 16) : val (mergeV vs) e = mergeF vs e := by
  rw [(merge_ok vs h).2, val_ofV, if_pos ⟨h1, h2⟩]
theorem ok_merge (vs : List (List (Int × Nat))) (h : allOk vs = true) : okV 0 (mergeV vs) = true := by rw [(merge_ok vs h).2]; exact ok_ofV _
theorem merge_group (ha : okV 0 a = true) (hb : okV 0 b = true) (hc : okV 0 c = true) : mergeV [a, mergeV [b, c]] = mergeV [a, b, c] := by
  have h2 := allOk_cons b [c] hb (allOk_cons c [] hc allOk_nil)
  have h3 := allOk_cons a _ ha h2
  have h4 := allOk_cons a [mergeV [b, c]] ha (allOk_cons _ [] (ok_merge _ h2) allOk_nil)
  rw [(merge_ok _ h4).2, (merge_ok _ h3).2]
  refine ofV_congr fun e h5 h6 => ?_
  show max (max 0 (val a e)) (val (mergeV [b, c]) e) = max (max (max 0 (val a e)) (val b e)) (val c e)
  rw [val_merge _ h2 e h5 h6]
  show max (max 0 (val a e)) (max (max 0 (val b e)) (val c e)) = _
  omega
theorem merge_turn (ha : okV 0 a = true) (hb : okV 0 b = true) (hc : okV 0 c = true) : mergeV [c, b, a, b] = mergeV [a, b, c] := by
  have h3 := allOk_cons a _ ha (allOk_cons b [c] hb (allOk_cons c [] hc allOk_nil))
  have h4 := allOk_cons c _ hc (allOk_cons b _ hb (allOk_cons a [b] ha (allOk_cons b [] hb allOk_nil)))
  rw [(merge_ok _ h4).2, (merge_ok _ h3).2]
  refine ofV_congr fun e _ _ => ?_
  show max (max (max (max 0 (val c e)) (val b e)) (val a e)) (val b e) = max (max (max 0 (val a e)) (val b e)) (val c e)
  omega
theorem ltN_false (f g : Int → Nat) : ∀ k : Nat, (∀ e : Int, 1 ≤ e → e ≤ k → g e ≤ f e) → ltN f g k = false
  | 0, _ => rfl
  | k + 1, h => by
    rw [ltN, ltN_false f g k fun e h1 h2 => h e h1 (by omega), decide_eq_false]
    · rfl
    · have := h ((k : Int) + 1) (by omega) (by omega)
      omega
theorem ltN_true (f g : Int → Nat) (d : Int) (h1 : 1 ≤ d) (hlt : f d < g d) : ∀ k : Nat, d ≤ k → ltN f g k = true
  | 0, h => by omega
  | k + 1, h => by
    rw [ltN]
    by_cases hk : d ≤ k
    · rw [ltN_true f g d h1 hlt k hk]
      rfl
    · have : (k : Int) + 1 = d := by omega
      rw [this, decide_eq_true hlt]
      simp
theorem cmp_merge (ha : okV 0 a = true) (hb : okV 0 b = true) (hc : okV 0 c = true) : cmpV (mergeV [a, b, c]) a = 1 ∨ cmpV (mergeV [a, b, c]) a = 3 := by
  have h3 := allOk_cons a _ ha (allOk_cons b [c] hb (allOk_cons c [] hc allOk_nil))
  rw [cmpV, ok_merge _ h3, ha]
  have hf : ltN (val (mergeV [a, b, c])) (val a) 16 = false := ltN_false _ _ 16 fun e h1 h2 => by
    rw [val_merge _ h3 e h1 h2]
    show val a e ≤ max (max (max 0 (val a e)) (val b e)) (val c e)
    omega
  rw [if_pos (by rfl), cmpF, hf]
  cases ltN (val a) (val (mergeV [a, b, c])) 16 <;> simp
variable {d f : Int}
theorem bump_ok (h : bumpE a d = 0) : okV 0 a = true ∧ 1 ≤ d ∧ d ≤ 16 ∧ val a d ≠ 18446744073709551615 ∧ bumpV a d = ofV (bumpF a d) := by
  have hv : bumpV a d = ofV (bumpF a d) := by rw [bumpV, if_pos h]
  unfold bumpE at h
  split at h
  · cases h
  · split at h
    · cases h
    · split at h
      · cases h
      · rename_i h1 h2 h3
        exact ⟨by simpa using h1, by omega, by omega, h3, hv⟩
theorem val_bump (h : bumpE a d = 0) (e : Int) : val (bumpV a d) e = bumpF a d e := by
  obtain ⟨h1, h2, h3, _, h5⟩ := bump_ok h
  rw [h5, val_ofV]
  by_cases he : 1 ≤ e ∧ e ≤ 16
  · rw [if_pos he]
  · rw [if_neg he, bumpF, if_neg (by omega), val_out h1 (by omega)]
theorem ok_bump (h : bumpE a d = 0) : okV 0 (bumpV a d) = true := by rw [(bump_ok h).2.2.2.2]; exact ok_ofV _
theorem bump_nil (h : bumpE a d ≠ 0) : bumpV a d = [] := by rw [bumpV, if_neg h]
theorem bump_bump (h : bumpE a d = 0) (k : bumpE a f = 0) (hdf : d ≠ f) : bumpE (bumpV a d) f = 0 := by
  obtain ⟨_, h2, h3, h4, _⟩ := bump_ok k
  have hv : val (bumpV a d) f = val a f := by rw [val_bump h, bumpF, if_neg (Ne.symm hdf)]
  rw [bumpE, ok_bump h, if_neg (by simp), if_neg (by omega), hv, if_neg h4]
theorem bump_turn (h : bumpE a d = 0) (k : bumpE a f = 0) (hdf : d ≠ f) : bumpV (bumpV a d) f = bumpV (bumpV a f) d := by
  rw [(bump_ok (bump_bump h k hdf)).2.2.2.2, (bump_ok (bump_bump k h (Ne.symm hdf))).2.2.2.2]
  refine ofV_congr fun e _ _ => ?_
  unfold bumpF
  rw [val_bump h, val_bump k]
  unfold bumpF
  by_cases h1 : e = f
  · have h2 : ¬ e = d := fun h => hdf (h.symm.trans h1)
    rw [if_pos h1, if_neg h2, if_neg h2, if_pos h1]
  · by_cases h2 : e = d
    · rw [if_neg h1, if_pos h2, if_pos h2, if_neg h1]
    · rw [if_neg h1, if_neg h2, if_neg h2, if_neg h1]
theorem bump_merge (h : bumpE a d = 0) (k : bumpE a f = 0) (hdf : d ≠ f) : mergeV [bumpV a d, bumpV a f] = bumpV (bumpV a d) f := by
  have h2 := allOk_cons _ _ (ok_bump h) (allOk_cons _ [] (ok_bump k) allOk_nil)
  rw [(merge_ok _ h2).2, (bump_ok (bump_bump h k hdf)).2.2.2.2]
  refine ofV_congr fun e _ _ => ?_
  show max (max 0 (val (bumpV a d) e)) (val (bumpV a f) e) = _
  rw [val_bump h, val_bump k, bumpF, bumpF, bumpF, val_bump h, bumpF]
  by_cases h1 : e = f
  · have : ¬ e = d := by omega
    rw [if_neg this, if_pos h1]
    omega
  · rw [if_neg h1, if_neg h1]
    split <;> omega
theorem bump_cmp (h : bumpE a d = 0) (k : bumpE a f = 0) (hdf : d ≠ f) : cmpV (bumpV a d) (bumpV a f) = 4 := by
  obtain ⟨_, h2, h3, _, _⟩ := bump_ok h
  obtain ⟨_, k2, k3, _, _⟩ := bump_ok k
  rw [cmpV, ok_bump h, ok_bump k, if_pos (by rfl), cmpF]
  rw [ltN_true _ _ f k2 (by rw [val_bump h, val_bump k, bumpF, bumpF, if_neg (Ne.symm hdf), if_pos rfl]; omega) 16 (by omega),
    ltN_true _ _ d h2 (by rw [val_bump h, val_bump k, bumpF, bumpF, if_neg hdf, if_pos rfl]; omega) 16 (by omega)]
  rfl
theorem firstD_turn (f g : Int → Nat) : ∀ (k : Nat) (d : Int), firstD g f k d = - firstD f g k d
  | 0, _ => rfl
  | k + 1, d => by
    rw [firstD, firstD]
    by_cases h : f d = g d
    · rw [if_pos h, if_pos h.symm, firstD_turn f g k (d + 1)]
    · rw [if_neg h, if_neg (Ne.symm h)]
      by_cases h2 : f d < g d
      · rw [if_pos h2, if_neg (by omega)]
        rfl
      · rw [if_neg h2, if_pos (by omega)]
theorem firstD_zero (f g : Int → Nat) : ∀ (k : Nat) (d : Int), firstD f g k d = 0 → ∀ e, d ≤ e → e < d + k → f e = g e
  | 0, _, _, e, h1, h2 => by omega
  | k + 1, d, h, e, h1, h2 => by
    rw [firstD] at h
    split at h
    · rename_i he
      by_cases h3 : e = d
      · rw [h3, he]
      · exact firstD_zero f g k (d + 1) h e (by omega) (by omega)
    · split at h <;> omega
theorem ordV_turn (l1 l2 : List (Int × Nat)) : ordV l2 l1 = - ordV l1 l2 := by
  unfold ordV
  rw [Bool.and_comm]
  split
  · unfold ordF
    rw [firstD_turn]
    split
    · by_cases h2 : sumV l1 < sumV l2
      · omega
      · rw [if_neg h2]
    · split <;> first | rfl | omega
  · rfl
theorem firstD_pm (f g : Int → Nat) : ∀ (k : Nat) (d : Int), firstD f g k d = 0 ∨ firstD f g k d = 1 ∨ firstD f g k d = -1
  | 0, _ => .inl rfl
  | k + 1, d => by
    rw [firstD]
    split
    · exact firstD_pm f g k (d + 1)
    · split
      · exact .inr (.inl rfl)
      · exact .inr (.inr rfl)
theorem ordV_pm (l1 l2 : List (Int × Nat)) : ordV l1 l2 = 0 ∨ ordV l1 l2 = 1 ∨ ordV l1 l2 = -1 := by
  unfold ordV
  split
  · unfold ordF
    split
    · exact .inr (.inr rfl)
    · split
      · exact .inr (.inl rfl)
      · exact firstD_pm _ _ _ _
  · exact .inl rfl
theorem ord_pm {l1 l2 : List (Int × Nat)} (h : ordV l1 l2 ≠ 0) : ordV l1 l2 = 1 ∨ ordV l1 l2 = -1 := (ordV_pm l1 l2).resolve_left h
theorem bump_ord (h : bumpE a d = 0) (k : bumpE a f = 0) (hdf : d ≠ f) : ordV (bumpV a d) (bumpV a f) ≠ 0 := by
  obtain ⟨_, h2, h3, _, _⟩ := bump_ok h
  intro ho
  unfold ordV at ho
  rw [ok_bump h, ok_bump k, if_pos (by rfl)] at ho
  unfold ordF at ho
  split at ho
  · cases ho
  · split at ho
    · cases ho
    · have := firstD_zero _ _ 16 1 ho d h2 (by omega)
      rw [val_bump h, val_bump k, bumpF, bumpF, if_neg hdf, if_pos rfl] at this
      omega
end
end Go.Proofs.YtndekohimfjdeaaGreatDoor

namespace Go.Proofs.YtndekohimfjdeaaGreatDoor
open Go.RowKit
theorem okV_drop {l : List (Int × Nat)} {k : Nat} {la : Int} {x : Int × Nat} (h : okV 0 l = okV la (l.drop k)) (hx : l[k]? = some x) : okV 0 l = if x.1 ≤ la ∨ 16 < x.1 ∨ x.2 = 0 then false else okV x.1 (l.drop (k + 1)) := by
  obtain ⟨hk2, he⟩ := List.getElem?_eq_some_iff.1 hx
  rw [h, List.drop_eq_getElem_cons hk2, he, okV_cons]
set_option maxRecDepth 100000 in
set_option maxHeartbeats 4000000 in
theorem rcheck_v (B : Nat) (A : Option Addr) (n c : Nat) (l : List (Int × Nat)) (w : World) (hr : CReads w B A n l) (hB : B ≤ w.heap.size) (hn : n ≤ 9223372036854775807) :
    Calls Tryz.prog 44 #[.slice A n c] w fun e w' => e = .returned (.int .i64 (if okV 0 l then 0 else 2)) ∧ Below w.heap.size w w' := by
  have HLEN := Lib.hid hr.len
  have HRR := Lib.hid hr
  clear hr
  generalize hres : (if okV 0 l = true then (0 : Int) else 2) = res
  have HRES := Lib.hid hres
  clear hres
  go_enter Tryz.func44, Tryz.ntmps44
  go_wp2_with fail
  go_loopw [3] (fun i wr => ∃ (k : Nat) (la : Int), k ≤ n ∧ i = .int .i64 (k : Int) ∧ okV 0 l = okV la (l.drop k) ∧ (k = 0 → la = 0) ∧ (∀ k', k = k' + 1 → ∃ y : Int × Nat, l[k']? = some y ∧ y.1 = la ∧ 1 ≤ la) ∧ Below w.heap.size w wr) (fun i _ => n - (intOf i).toNat)
  case atStart => exact ⟨0, 0, Nat.zero_le _, rfl, by simp, fun _ => rfl, fun k' h => by omega, Below.refl _ _⟩
  case round =>
    obtain ⟨k, la, hk, rfl, ho, hl0, hl1, hb⟩ := hrel
    have HO := Lib.hid ho
    have HL0 := Lib.hid hl0
    have HL1 := Lib.hid hl1
    have HB := Lib.hid hb
    clear ho hl0 hl1 hb
    have HR := Lib.hid (Reads.below (show Reads w B 2 A n _ from HRR.out) (HB.out.mono hB))
    by_cases hlt : k < n
    · obtain ⟨ad, x, he, had, hx, hc1, hc2⟩ := CReads.at_ HR.out hlt
      subst he
      have HX := Lib.hid hx
      have HC := Lib.hid (okV_drop HO.out hx)
      have k0 : (0 : Int) ≤ (k : Int) := by omega
      have d0 : decide (k < n) = true := by simpa using hlt
      clear hx
      by_cases b1 : x.1 < 1
      · have d1 : decide (x.1 < 1) = true := by simpa using b1
        have HF := Lib.hid (show okV 0 l = false by
          have h0 : x.1 ≤ la := by
            rcases Nat.eq_zero_or_pos k with h | h
            · rw [HL0.out h]; omega
            · obtain ⟨y, _, _, h3⟩ := HL1.out (k - 1) (by omega); omega
          rw [HC.out, if_pos (.inl h0)])
        clear b1
        go_upto_region 4 with fail
        go_quiet (fail)
        go_wp2_with fail
        go_ret
        exact ⟨by rw [← HRES.out, HF.out]; rfl, below_drewN HB.out _⟩
      · have d1 : decide (x.1 < 1) = false := by simpa using b1
        by_cases b2 : 16 < x.1
        · have d2 : decide (16 < x.1) = true := by simpa using b2
          have HF := Lib.hid (show okV 0 l = false by rw [HC.out, if_pos (.inr (.inl b2))])
          clear b1 b2
          go_upto_region 4 with fail
          go_quiet (fail)
          go_wp2_with fail
          go_ret
          exact ⟨by rw [← HRES.out, HF.out]; rfl, below_drewN HB.out _⟩
        · have d2 : decide (16 < x.1) = false := by simpa using b2
          by_cases b3 : x.2 = 0
          · have d3 : ((x.2 : Int) == 0) = true := by rw [beq_iff_eq]; omega
            have HF := Lib.hid (show okV 0 l = false by rw [HC.out, if_pos (.inr (.inr b3))])
            clear b1 b2 b3
            go_upto_region 4 with fail
            go_quiet (fail)
            go_wp2_with fail
            go_ret
            exact ⟨by rw [← HRES.out, HF.out]; rfl, below_drewN HB.out _⟩
          · have d3 : ((x.2 : Int) == 0) = false := by rw [beq_eq_false_iff_ne]; omega
            by_cases hk0 : 0 < k
            · obtain ⟨y, hy1, hy2, hy3⟩ := HL1.out (k - 1) (by omega)
              obtain ⟨k', hk'⟩ : ∃ k', k - 1 = k' := ⟨_, rfl⟩
              rw [hk'] at hy1
              have d4 : decide (0 < k) = true := by simpa using hk0
              have d4' : decide ((0 : Int) < (k : Int)) = true := by simpa using hk0
              have d7 : IntKind.i64.wrap ((k : Int) - 1) = (k' : Int) := by rw [IntWalk.i64_in _ ⟨by omega, by omega⟩]; omega
              have d7' : (k : Int) - 1 = (k' : Int) := by omega
              have d9 : (0 : Int) ≤ (k' : Int) := by omega
              have d10 : k' < n := by omega
              obtain ⟨ad', y', he', _, hy', hc3, _⟩ := CReads.at_ HR.out d10
              obtain rfl := Option.some.inj he'
              rw [hy1] at hy'
              obtain rfl := Option.some.inj hy'
              have HY2 := Lib.hid hy2
              clear hy1 hy2 hy3 hk' he'
              by_cases b4 : x.1 ≤ y.1
              · have d5 : decide (x.1 ≤ y.1) = true := by simpa using b4
                have HF := Lib.hid (show okV 0 l = false by rw [HC.out, if_pos (.inl (by rw [← HY2.out]; exact b4))])
                clear b1 b2 b3 b4 hk0
                go_upto_region 4 with fail
                go_quiet (fail)
                go_wp2_with fail
                go_ret
                exact ⟨by rw [← HRES.out, HF.out]; rfl, below_drewN HB.out _⟩
              · have d5 : decide (x.1 ≤ y.1) = false := by simpa using b4
                have HF := Lib.hid (show okV 0 l = okV x.1 (l.drop (k + 1)) by rw [HC.out, if_neg (by have := HY2.out; omega)])
                have HX1 := Lib.hid (show 1 ≤ x.1 by omega)
                clear b1 b2 b3 b4 hk0
                go_upto_region 4 with fail
                go_quiet (fail)
                go_wp2_with fail
                go_roundw
                case rel => exact ⟨k + 1, x.1, hlt, by go_num, HF.out, fun h => by omega, fun k2 h => ⟨x, by rw [show k2 = k by omega]; exact HX.out, rfl, HX1.out⟩, below_drewN HB.out _⟩
                case measure => simp [intOf]; omega
            · have d4 : decide (0 < k) = false := by simpa using hk0
              have d4' : decide ((0 : Int) < (k : Int)) = false := by simpa using hk0
              have HF := Lib.hid (show okV 0 l = okV x.1 (l.drop (k + 1)) by rw [HC.out, if_neg (by have := HL0.out (by omega); omega)])
              have HX1 := Lib.hid (show 1 ≤ x.1 by omega)
              clear b1 b2 b3 hk0
              go_upto_region 4 with fail
              go_quiet (fail)
              go_wp2_with fail
              go_roundw
              case rel => exact ⟨k + 1, x.1, hlt, by go_num, HF.out, fun h => by omega, fun k2 h => ⟨x, by rw [show k2 = k by omega]; exact HX.out, rfl, HX1.out⟩, below_drewN HB.out _⟩
              case measure => simp [intOf]; omega
    · obtain rfl : k = n := by omega
      have HF := Lib.hid (show okV 0 l = true by rw [HO.out, List.drop_of_length_le (by rw [HLEN.out]; exact Nat.le_refl _)]; rfl)
      go_wp2
      go_ret
      exact ⟨by rw [← HRES.out, HF.out]; rfl, HB.out⟩
set_option maxHeartbeats 1000000 in
theorem rvalue_v (B : Nat) (A : Option Addr) (n c : Nat) (l : List (Int × Nat)) (d : Int) (w : World) (hr : CReads w B A n l) (hB : B ≤ w.heap.size) (hn : n ≤ 9223372036854775807) :
    Calls Tryz.prog 56 #[.slice A n c, .int .i64 d] w fun e w' => e = .returned (.int .u64 (val l d : Int)) ∧ w = w' := by
  have HLEN := Lib.hid hr.len
  go_enter Tryz.func56, Tryz.ntmps56
  go_wp2
  go_loop [5] (fun i => ∃ (k : Nat), k ≤ n ∧ i = .int .i64 (k : Int) ∧ val l d = val (l.drop k) d) (fun i => n - (intOf i).toNat)
  case atStart => exact ⟨0, Nat.zero_le _, rfl, by simp⟩
  case round =>
    obtain ⟨k, hk, rfl, ho⟩ := hrel
    have HO := Lib.hid ho
    clear ho
    by_cases hlt : k < n
    · obtain ⟨ad, x, he, had, hx, hc1, hc2⟩ := CReads.at_ hr hlt
      subst he
      have HX := Lib.hid hx
      clear hx
      have HD := Lib.hid (show l.drop k = x :: l.drop (k + 1) by obtain ⟨hk2, he⟩ := List.getElem?_eq_some_iff.1 HX.out; rw [List.drop_eq_getElem_cons hk2, he])
      by_cases b1 : x.1 = d
      · have d1 : (x.1 == d) = true := by simpa using b1
        have HF := Lib.hid (show val l d = x.2 by rw [HO.out, HD.out, val_cons, if_pos b1])
        clear b1
        go_wp2
        go_ret
        exact ⟨by rw [HF.out]; rfl, rfl⟩
      · have d1 : (x.1 == d) = false := by simpa using b1
        have HF := Lib.hid (show val l d = val (l.drop (k + 1)) d by rw [HO.out, HD.out, val_cons, if_neg b1])
        clear b1
        go_wp2
        go_round
        case rel => exact ⟨k + 1, hlt, by go_num, HF.out⟩
        case measure => simp [intOf]; omega
    · obtain rfl : k = n := by omega
      have HF := Lib.hid (show val l d = 0 by rw [HO.out, List.drop_of_length_le (by rw [HLEN.out]; exact Nat.le_refl _)]; rfl)
      go_wp2
      go_ret
      exact ⟨by rw [HF.out]; rfl, rfl⟩
end Go.Proofs.YtndekohimfjdeaaGreatDoor

namespace Go.Proofs.YtndekohimfjdeaaGreatDoor
open Go.RowKit
def u64v (x : Nat) : Value := .int .u64 (x : Int)
/-- A block that is an array of these numbers. -/
def NArr (t : TypeId) (w : World) (g : Nat) (l : List Nat) : Prop := w.heap[g]? = some (.cells (l.map u64v).toArray t (0, 0))
section
variable {t : TypeId} {w w' : World} {g : Nat} {l : List Nat}
theorem NArr.cell (h : NArr t w g l) {j x : Nat} (hx : l[j]? = some x) : w.cell? ⟨g, j, none⟩ = some (.int .u64 (x : Int)) := by
  rw [cell_of_row w g j _ t (0, 0) h]
  simp [hx, u64v]
theorem NArr.frozen (h : NArr t w g l) (j : Nat) : w.frozen? ⟨g, j, none⟩ = false := frozen_of_row w g j _ t h
theorem NArr.keep (h : NArr t w g l) (hk : w'.heap[g]? = w.heap[g]?) : NArr t w' g l := hk.trans h
theorem NArr.lt (h : NArr t w g l) : g < w.heap.size := (Array.getElem?_eq_some_iff.1 h).1
theorem NArr.alloc (h : NArr t w g l) (o : Obj) : NArr t (w.alloc o) g l := h.keep (Below.heap_alloc w o g h.lt)
theorem NArr.drew (h : NArr t w g l) : NArr t w.drew g l := h
theorem NArr.drewN (h : NArr t w g l) (k : Nat) : NArr t (w.drewN k) g l := h
theorem NArr.below (h : NArr t w g l) (hb : Below w.heap.size w w') : NArr t w' g l := h.keep (hb.block g h.lt)
theorem NArr.set_ (h : NArr t w g l) (i : Nat) (z : Int) (x : Nat) (hz : z = (x : Int)) : NArr t (w.setCell ⟨g, i, none⟩ (.int .u64 z)) g (l.set i x) := by
  subst hz
  refine (heap_setCell_same w g i _ t _ h).trans ?_
  congr 2
  simp [List.map_set, u64v]
theorem NArr.setOther (h : NArr t w g l) {p : Addr} (hp : g ≠ p.block) (u : Value) : NArr t (w.setCell p u) g l := h.keep (Below.heap_setCell w p u g hp)
theorem NArr.new (w : World) (cs : Array Value) (l : List Nat) (h : cs = (l.map u64v).toArray) : NArr t (w.alloc (.cells cs t)) w.heap.size l := by
  subst h; exact heap_alloc_new w _
end
/-- What an array of numbers tells of a device. -/
def uF (us : List Nat) (d : Int) : Nat := us.getD d.toNat 0
theorem setRow_oth (w : World) (g : Nat) (cs : Array Value) (j : Nat) (h : j ≠ g) : (w.setRow g cs).heap[j]? = w.heap[j]? := by
  simp [World.setRow, Array.getElem?_modify, Ne.symm h]
theorem setRow_size (w : World) (g : Nat) (cs : Array Value) : (w.setRow g cs).heap.size = w.heap.size := by simp [World.setRow]
theorem u64_one (l : List Nat) : (l.map u64v).toArray.all (·.oneCell') = true := by
  simp [u64v, Value.oneCell']
section
variable {ops : Array Oper} {rest : List Oper} {o : Oper} {a : Act} {w : World} {Q : Exit → Act → World → Prop} {P : Program}
/-- An array is stored whole. -/
theorem wpList_storeN {T t : TypeId} (hgd : o.guard = none) (x y : Operand) (ho : o.op = .store T x y) (g : Nat) (us : List Nat) (hx : a.eval x = .pointer (some ⟨g, 0, none⟩)) (hy : a.eval y = .agg (us.map u64v).toArray)
    (old : Array Value) (hg : w.heap[g]? = some (.cells old t (0, 0))) (hold : old.size = us.length) (hi : (P.info? T).map (·.size) = some us.length)
    (h : ∀ w', NArr t w' g us → Below g w w' → w'.heap.size = w.heap.size → (∀ j, j ≠ g → w'.heap[j]? = w.heap[j]?) → wpList P ops Q rest (a.put o.dst undef) w') : wpList P ops Q (o :: rest) a w := by
  refine wpList_store_row hgd T x y ho g _ hx hy t old hg (by rw [hi]; simp) (by rw [hold]; simp) (u64_one us) ?_
  exact h _ (setRow_heap w g old _ t _ hg) (below_setRow (Below.refl g w) (Nat.le_refl _) _) (setRow_size _ _ _) (fun j hj => setRow_oth w g _ j hj)
/-- An array is loaded whole. -/
theorem wpList_loadN {T t : TypeId} (hgd : o.guard = none) (x : Operand) (ho : o.op = .load T x) (g : Nat) (us : List Nat) (hx : a.eval x = .pointer (some ⟨g, 0, none⟩)) (hg : NArr t w g us)
    {d : TypeDesc} (hu : P.underlying T = some d) (hd : (match d with | .struct _ | .array _ _ => true | _ => false) = true) (hi : (P.info? T).map (·.size) = some us.length)
    (h : wpList P ops Q rest (a.put o.dst (.agg (us.map u64v).toArray)) w) : wpList P ops Q (o :: rest) a w :=
  wpList_load_row hgd T x ho g hx t _ (0, 0) d hg hu hd (by rw [hi]; simp) h
end
end Go.Proofs.YtndekohimfjdeaaGreatDoor

namespace Go.Proofs.YtndekohimfjdeaaGreatDoor
open Go.RowKit
/-- The values by device. -/
def valsL (l : List (Int × Nat)) : List Nat := (List.range 17).map fun d : Nat => val l (d : Int)
theorem valsL_len (l : List (Int × Nat)) : (valsL l).length = 17 := by simp [valsL]
theorem valsL_at (l : List (Int × Nat)) {d : Nat} (h : d < 17) : (valsL l)[d]? = some (val l (d : Int)) := by simp [valsL, h]
theorem val_snoc_ne : ∀ (l : List (Int × Nat)) (x : Int × Nat) (d : Int), x.1 ≠ d → val (l ++ [x]) d = val l d
  | [], x, d, h => by simp [val, h]
  | y :: l, x, d, h => by
    rw [List.cons_append, val_cons, val_cons, val_snoc_ne l x d h]
theorem ok_before : ∀ (a : List (Int × Nat)) (x : Int × Nat) (b : List (Int × Nat)) (last : Int), okV last (a ++ x :: b) = true → last < x.1 ∧ ∀ y ∈ a, y.1 < x.1
  | [], x, b, last, h => by
    rw [List.nil_append, okV_cons] at h
    split at h
    · cases h
    · exact ⟨by omega, fun y hy => by cases hy⟩
  | z :: a, x, b, last, h => by
    rw [List.cons_append, okV_cons] at h
    split at h
    · cases h
    · obtain ⟨h1, h2⟩ := ok_before a x b z.1 h
      refine ⟨by omega, fun y hy => ?_⟩
      rcases List.mem_cons.1 hy with rfl | hy
      · exact h1
      · exact h2 y hy
theorem split_k {α : Type} {l : List α} {k : Nat} {x : α} (h : l[k]? = some x) : l = l.take k ++ x :: l.drop (k + 1) := by
  obtain ⟨hk, he⟩ := List.getElem?_eq_some_iff.1 h
  conv => lhs; rw [← List.take_append_drop k l, List.drop_eq_getElem_cons hk, he]
theorem valsL_step {l : List (Int × Nat)} {k : Nat} {x : Int × Nat} (ho : okV 0 l = true) (hx : l[k]? = some x) (d : Nat) (hd : x.1 = (d : Int)) : (valsL (l.take k)).set d x.2 = valsL (l.take (k + 1)) := by
  have hsp := ho
  rw [split_k hx] at hsp
  obtain ⟨_, h2⟩ := ok_before _ _ _ _ hsp
  obtain ⟨hk, he⟩ := List.getElem?_eq_some_iff.1 hx
  apply List.ext_getElem?
  intro j
  rw [List.getElem?_set, valsL_len]
  by_cases hj : j < 17
  · rw [valsL_at _ hj, valsL_at _ hj, List.take_succ_eq_append_getElem hk, he]
    by_cases hdj : d = j
    · subst hdj
      rw [if_pos rfl, if_pos hj, val_app _ _ _ (fun y hy => by have := h2 y hy; omega)]
      simp [val, hd]
    · rw [if_neg hdj, val_snoc_ne _ _ _ (by omega)]
  · rw [List.getElem?_eq_none (by rw [valsL_len]; omega), List.getElem?_eq_none (by rw [valsL_len]; omega)]
    split
    · rw [if_neg (by omega)]
    · rfl
theorem ok_dev {l : List (Int × Nat)} (ho : okV 0 l = true) {k : Nat} {x : Int × Nat} (hx : l[k]? = some x) : ∃ d : Nat, x.1 = (d : Int) ∧ 1 ≤ d ∧ d ≤ 16 := by
  have hall : ∀ (l : List (Int × Nat)) (last : Int), okV last l = true → ∀ y ∈ l, last < y.1 ∧ y.1 ≤ 16 := fun l => by
    induction l with
    | nil => intro _ _ y hy; cases hy
    | cons z l ih =>
      intro last h y hy
      rw [okV_cons] at h
      split at h
      · cases h
      · rcases List.mem_cons.1 hy with rfl | hy
        · omega
        · have := ih z.1 h y hy; omega
  have := hall l 0 ho x (List.mem_of_getElem? hx)
  exact ⟨x.1.toNat, by omega, by omega, by omega⟩
theorem valsL_nil : valsL [] = List.replicate 17 0 := by decide
set_option maxRecDepth 100000 in
set_option maxHeartbeats 4000000 in
theorem values_v (B : Nat) (A : Option Addr) (n c : Nat) (l : List (Int × Nat)) (w : World) (hr : CReads w B A n l) (hB : B ≤ w.heap.size) (hn : n ≤ 9223372036854775807) (ho : okV 0 l = true) (hf : fitV l) :
    Calls Tryz.prog 45 #[.slice A n c] w fun e w' => e = .returned (.agg ((valsL l).map u64v).toArray) ∧ Below w.heap.size w w' := by
  have HLEN := Lib.hid hr.len
  have HR := Lib.hid hr
  have HO := Lib.hid ho
  have HF := Lib.hid hf
  clear hr ho hf
  go_enter Tryz.func45, Tryz.ntmps45
  go_wp2_with fail
  have z0 : NArr 75 ((w.alloc (.cells (List.replicate 17 (Value.int .u64 0)).toArray 75)).alloc (.cells (List.replicate 17 (Value.int .u64 0)).toArray 75)) w.heap.size (List.replicate 17 0) := (NArr.new w _ _ (by rfl)).alloc _
  have z1 : NArr 75 ((w.alloc (.cells (List.replicate 17 (Value.int .u64 0)).toArray 75)).alloc (.cells (List.replicate 17 (Value.int .u64 0)).toArray 75)) (w.heap.size + 1) (valsL (l.take 0)) := by
    have := NArr.new (t := 75) (w.alloc (.cells (List.replicate 17 (Value.int .u64 0)).toArray 75)) (List.replicate 17 (Value.int .u64 0)).toArray (List.replicate 17 0) (by rfl)
    simpa [valsL_nil] using this
  have zb : Below w.heap.size w ((w.alloc (.cells (List.replicate 17 (Value.int .u64 0)).toArray 75)).alloc (.cells (List.replicate 17 (Value.int .u64 0)).toArray 75)) := ((Below.refl _ _).alloc (Nat.le_refl _) _).alloc (by simp) _
  have zs : w.heap.size + 2 ≤ ((w.alloc (.cells (List.replicate 17 (Value.int .u64 0)).toArray 75)).alloc (.cells (List.replicate 17 (Value.int .u64 0)).toArray 75)).heap.size := by simp
  go_loopw [4] (fun i wr => ∃ k : Nat, k ≤ n ∧ i = .int .i64 (k : Int) ∧ NArr 75 wr w.heap.size (List.replicate 17 0) ∧ NArr 75 wr (w.heap.size + 1) (valsL (l.take k)) ∧ w.heap.size + 2 ≤ wr.heap.size ∧ Below w.heap.size w wr) (fun i _ => n - (intOf i).toNat)
  case atStart => exact ⟨0, Nat.zero_le _, rfl, z0, z1, zs, zb⟩
  case round =>
    obtain ⟨k, hk, rfl, h0, h1, hz, hb⟩ := hrel
    have HB := Lib.hid hb
    have H0 := Lib.hid h0
    have H1 := Lib.hid h1
    clear hb h0 h1
    by_cases hlt : k < n
    · obtain ⟨ad, x, rfl, had, hx, hc1, hc2⟩ := CReads.at_ (Reads.below (show Reads w B 2 _ n _ from HR.out) (HB.out.mono hB)) hlt
      obtain ⟨d, hd, hd1, hd2⟩ := ok_dev HO.out hx
      have HS := Lib.hid (valsL_step HO.out hx d hd)
      have hcu := NArr.cell H1.out (valsL_at (l.take k) (show d < 17 by omega))
      have hfu := NArr.frozen H1.out d
      have k0 : (0 : Int) ≤ (k : Int) := by omega
      have d0 : decide (k < n) = true := by simpa using hlt
      have d1 : d < 17 := by omega
      rw [hd] at hc1
      clear hx hd
      go_upto_region 5 with fail
      go_region
      all_goals
        go_wp2_with fail
        go_roundw
        case rel => exact ⟨k + 1, hlt, by go_num, (H0.out.setOther (by simp) _).drew, by have := (H1.out.set_ d (x.2 : Int) x.2 rfl).drew; rwa [HS.out] at this, by simp [World.setCell]; omega, (HB.out.setCell (by simp) _).drew⟩
        case measure => simp [intOf]; omega
    · obtain rfl : k = n := by omega
      have HT := Lib.hid (show valsL (l.take k) = valsL l by rw [List.take_of_length_le (by rw [HLEN.out]; exact Nat.le_refl _)])
      rw [HT.out] at H1
      have HSZ := Lib.hid (show ((valsL l).map u64v).toArray.size = 17 by rw [List.size_toArray, List.length_map, valsL_len])
      have HI := Lib.hid (show (Tryz.prog.info? 75).map (·.size) = some 17 by kernel_rfl)
      go_wp2_with (first
        | (refine wpList_load_row rfl 75 (.tmp 3) rfl (w.heap.size + 1) rfl 75 _ (0, 0) _ H1.out Tryz.underlying75 rfl (HI.out.trans (by rw [HSZ.out])) ?_)
        | (refine wpList_store_row rfl 75 (.tmp 2) (.tmp 22) rfl w.heap.size ((valsL l).map u64v).toArray rfl rfl 75 _ H0.out (HI.out.trans (by rw [HSZ.out])) (by rw [HSZ.out]; simp) (by simp [Value.oneCell', u64v]) ?_))
      have HW := Lib.hid (setRow_heap wr w.heap.size _ ((valsL l).map u64v).toArray _ _ H0.out)
      exact bodyPost_ret (results_cell_row Tryz.results45 _ _ w.heap.size _ _ _ _ rfl HW.out Tryz.underlying75 rfl (HI.out.trans (by rw [HSZ.out]))) rfl ⟨rfl, below_setRow HB.out (Nat.le_refl _) _⟩
set_option maxRecDepth 100000 in
set_option maxHeartbeats 4000000 in
theorem made_v (us : List Nat) (w : World) (hl : us.length = 17) (h64 : ∀ x ∈ us, x < 18446744073709551616) :
    Calls Tryz.prog 62 #[.agg (us.map u64v).toArray] w fun e w' => ∃ A n c, e = .returned (.slice A n c) ∧ COwn w' w.heap.size A n c (ofV (uF us)) ∧ Below w.heap.size w w' := by
  have a0 : NArr 75 (w.alloc (.cells (us.map u64v).toArray 75)) w.heap.size us := NArr.new w _ _ rfl
  have H64 := Lib.hid h64
  have HSZ := Lib.hid (show (us.map u64v).toArray.size = 17 by simp [hl])
  have zb : Below w.heap.size w (w.alloc (.cells (us.map u64v).toArray 75)) := (Below.refl _ _).alloc (Nat.le_refl _) _
  clear h64
  go_enter Tryz.func62, Tryz.ntmps62
  go_wp2_with fail
  go_loopw [3, 4] (fun o i wr => ∃ (k : Nat) (A : Option Addr) (n c : Nat) (l : List (Int × Nat)), k ≤ 16 ∧ i = .int .i64 ((k + 1 : Nat) : Int) ∧ o = .slice A n c ∧ n ≤ k ∧ NArr 75 wr w.heap.size us ∧ COwn wr (w.heap.size + 1) A n c l ∧ l ++ ofN (uF us) (16 - k) ((k : Int) + 1) = ofV (uF us) ∧ w.heap.size < wr.heap.size ∧ Below w.heap.size w wr) (fun _ i _ => 17 - (intOf i).toNat)
  case atStart => exact ⟨0, none, 0, 0, [], Nat.zero_le _, rfl, rfl, Nat.le_refl _, a0, COwn.nil_ _ _, rfl, by simp, zb⟩
  case round =>
    obtain ⟨k, A, n, c, l, hk, rfl, rfl, hn, ha, ho, hL, hz, hb⟩ := hrel
    have HL := Lib.hid hL
    have HO := Lib.hid ho
    have HA := Lib.hid ha
    have HB := Lib.hid hb
    clear hL ho ha hb a0 zb
    by_cases hlt : k < 16
    · obtain ⟨x, hx⟩ : ∃ x, us[k + 1]? = some x := ⟨_, List.getElem?_eq_getElem (by omega)⟩
      have hcu := NArr.cell HA.out hx
      have hx64 := H64.out x (List.mem_of_getElem? hx)
      have hfx : uF us ((k : Int) + 1) = x := by
        unfold uF
        rw [show ((k : Int) + 1).toNat = k + 1 by omega, List.getD_eq_getElem?_getD, hx]
        rfl
      have hst : ofN (uF us) (16 - k) ((k : Int) + 1) = (if 0 < x then [((k : Int) + 1, x)] else []) ++ ofN (uF us) (16 - (k + 1)) (((k + 1 : Nat) : Int) + 1) := by
        rw [show 16 - k = (16 - (k + 1)) + 1 by omega, ofN, hfx]
        congr 3
      have HS := Lib.hid hst
      have k0 : (0 : Int) ≤ ((k + 1 : Nat) : Int) := by omega
      have k1 : ((k + 1 : Nat) : Int) < 17 := by omega
      have g0 : decide (((k + 1 : Nat) : Int) ≤ 16) = true := by simp; omega
      clear hst hx hfx
      obtain ⟨m, hm⟩ : ∃ m, k + 1 = m := ⟨_, rfl⟩
      have HM := Lib.hid hm
      have hm16 : m ≤ 16 := by omega
      rw [hm] at hcu k0 k1 g0 ⊢
      by_cases hp : 0 < x
      · have HF := Lib.hid (show (l ++ [((m : Int), x)]) ++ ofN (uF us) (16 - (k + 1)) (((k + 1 : Nat) : Int) + 1) = ofV (uF us) by rw [← HL.out, HS.out, if_pos hp, List.append_assoc, ← hm]; simp)
        have d1 : decide (0 < x) = true := by simpa using hp
        clear hm
        go_wp2_with (at_builtin; refine wpList_capp rfl (.tmp 13) (.tmp 19) 22 Tryz.underlying22 rfl (w.heap.size + 1) A n c l rfl (HO.out.alloc _) (wr.heap.size + 1) (some ⟨wr.heap.size, 0, none⟩) 1 1 [((m : Int), x)] rfl (CReads.one wr _ _ _) (by omega) (by simp; omega) ?_; intro A2 c2 w2 ho2 hg2)
        have hb2 : Below w.heap.size w w2 := below_capp (HB.out.alloc HB.out.size _) hg2 (HO.out.alloc _) (by omega) (by simp; omega)
        have hb3 : Below (w.heap.size + 1) wr w2 := below_capp ((Below.refl _ _).alloc hz _) hg2 (HO.out.alloc _) (Nat.le_refl _) (by simp; omega)
        have HO2 := Lib.hid ho2
        have HA2 := Lib.hid (HA.out.keep (hb3.block _ (Nat.lt_succ_self _)))
        clear hg2 ho2
        go_roundw
        case rel => exact ⟨k + 1, A2, n + 1, c2, _, by omega, by rw [HM.out]; go_num, rfl, by omega, HA2.out, HO2.out, HF.out, by have := hb3.size; omega, hb2⟩
        case measure => simp [intOf]; omega
      · have HF := Lib.hid (show l ++ ofN (uF us) (16 - (k + 1)) (((k + 1 : Nat) : Int) + 1) = ofV (uF us) by rw [← HL.out, HS.out, if_neg hp]; rfl)
        have d1 : decide (0 < x) = false := by simpa using hp
        clear hm
        go_wp2_with fail
        go_roundw
        case rel => exact ⟨k + 1, A, n, c, _, by omega, by rw [HM.out]; go_num, rfl, by omega, HA.out, HO.out, HF.out, hz, HB.out⟩
        case measure => simp [intOf]; omega
    · obtain rfl : k = 16 := by omega
      have HF := Lib.hid (show l = ofV (uF us) by rw [← HL.out]; simp [ofN])
      go_wp2
      go_ret
      exact ⟨A, n, c, rfl, by rw [← HF.out]; exact HO.out.down (Nat.le_succ _), HB.out⟩
end Go.Proofs.YtndekohimfjdeaaGreatDoor

namespace Go.Proofs.YtndekohimfjdeaaGreatDoor
open Go.RowKit
theorem uF_vals (l : List (Int × Nat)) (e : Int) (h1 : 0 ≤ e) (h2 : e ≤ 16) : uF (valsL l) e = val l e := by
  unfold uF
  rw [List.getD_eq_getElem?_getD, valsL_at _ (show e.toNat < 17 by omega), Int.toNat_of_nonneg h1]
  rfl
theorem valsL_64 {l : List (Int × Nat)} (hf : fitV l) : ∀ x ∈ valsL l, x < 18446744073709551616 := fun x hx => by
  obtain ⟨d, _, rfl⟩ := List.mem_map.1 hx
  exact fit_val l _ hf
theorem uF_set (us : List Nat) (hl : us.length = 17) (d : Nat) (hd : d < 17) (y : Nat) (e : Int) (h1 : 0 ≤ e) : uF (us.set d y) e = if e = (d : Int) then y else uF us e := by
  unfold uF
  rw [List.getD_eq_getElem?_getD, List.getD_eq_getElem?_getD, List.getElem?_set, hl]
  by_cases h : e = (d : Int)
  · subst h
    simp [hd]
  · rw [if_neg (by omega), if_neg h]
end Go.Proofs.YtndekohimfjdeaaGreatDoor

namespace Go.Proofs.YtndekohimfjdeaaGreatDoor
open Go.RowKit
/-- The greatest values by device. -/
def mrgL (vs : List (List (Int × Nat))) : List Nat := (List.range 17).map fun d : Nat => if d = 0 then 0 else mergeF vs (d : Int)
theorem mrgL_len (vs : List (List (Int × Nat))) : (mrgL vs).length = 17 := by simp [mrgL]
theorem mrgL_at (vs : List (List (Int × Nat))) {d : Nat} (h : d < 17) : (mrgL vs)[d]? = some (if d = 0 then 0 else mergeF vs (d : Int)) := by simp [mrgL, h]
theorem mrgL_nil : mrgL [] = List.replicate 17 0 := by decide
/-- The first e of two arrays put together. -/
def mixL (us xs : List Nat) (e : Nat) : List Nat := (List.range 17).map fun d : Nat => if 1 ≤ d ∧ d < e then max (us.getD d 0) (xs.getD d 0) else us.getD d 0
theorem mixL_len (us xs : List Nat) (e : Nat) : (mixL us xs e).length = 17 := by simp [mixL]
theorem mixL_at (us xs : List Nat) (e : Nat) {d : Nat} (h : d < 17) : (mixL us xs e)[d]? = some (if 1 ≤ d ∧ d < e then max (us.getD d 0) (xs.getD d 0) else us.getD d 0) := by simp [mixL, h]
theorem mixL_one (us xs : List Nat) (h : us.length = 17) : mixL us xs 1 = us := by
  apply List.ext_getElem?
  intro j
  by_cases hj : j < 17
  · rw [mixL_at _ _ _ hj, if_neg (by omega), List.getD_eq_getElem?_getD, List.getElem?_eq_getElem (by omega)]
    rfl
  · rw [List.getElem?_eq_none (by rw [mixL_len]; omega), List.getElem?_eq_none (by omega)]
theorem mixL_step (us xs : List Nat) (e : Nat) (h1 : 1 ≤ e) : (mixL us xs e).set e (max (us.getD e 0) (xs.getD e 0)) = mixL us xs (e + 1) := by
  apply List.ext_getElem?
  intro j
  rw [List.getElem?_set, mixL_len]
  by_cases hj : j < 17
  · rw [mixL_at _ _ _ hj, mixL_at _ _ _ hj]
    by_cases he : e = j
    · subst he
      rw [if_pos rfl, if_pos hj, if_pos (by omega)]
    · rw [if_neg he]
      by_cases h2 : 1 ≤ j ∧ j < e
      · rw [if_pos h2, if_pos (by omega)]
      · rw [if_neg h2, if_neg (by omega)]
  · rw [List.getElem?_eq_none (by rw [mixL_len]; omega), List.getElem?_eq_none (by rw [mixL_len]; omega)]
    split
    · rw [if_neg (by omega)]
    · rfl
theorem mixL_all (vs : List (List (Int × Nat))) (k : Nat) (v : List (Int × Nat)) (h : vs[k]? = some v) : mixL (mrgL (vs.take k)) (valsL v) 17 = mrgL (vs.take (k + 1)) := by
  apply List.ext_getElem?
  intro j
  by_cases hj : j < 17
  · rw [mixL_at _ _ _ hj, mrgL_at _ hj, List.getD_eq_getElem?_getD, List.getD_eq_getElem?_getD, mrgL_at _ hj, valsL_at _ hj, fold_take vs (j : Int) k v h]
    by_cases h0 : j = 0
    · subst h0; simp
    · rw [if_pos (by omega)]; simp [h0]
  · rw [List.getElem?_eq_none (by rw [mixL_len]; omega), List.getElem?_eq_none (by rw [mrgL_len]; omega)]
theorem mrgL_64 {vs : List (List (Int × Nat))} (h : ∀ v ∈ vs, fitV v) : ∀ x ∈ mrgL vs, x < 18446744073709551616 := fun x hx => by
  obtain ⟨d, _, rfl⟩ := List.mem_map.1 hx
  split
  · omega
  · exact fit_merge vs _ h
theorem ofV_mrg (vs : List (List (Int × Nat))) : ofV (uF (mrgL vs)) = ofV (mergeF vs) := ofV_congr fun e h1 h2 => by
  unfold uF
  rw [List.getD_eq_getElem?_getD, mrgL_at _ (show e.toNat < 17 by omega), if_neg (by omega), Int.toNat_of_nonneg (by omega)]
  rfl
theorem allOk_step {vs : List (List (Int × Nat))} {k : Nat} {v : List (Int × Nat)} (ho : allOk (vs.take k) = true) (hv : vs[k]? = some v) : allOk (vs.take (k + 1)) = okV 0 v := by
  obtain ⟨hk2, he2⟩ := List.getElem?_eq_some_iff.1 hv
  unfold allOk at ho ⊢
  rw [List.take_succ_eq_append_getElem hk2, he2, List.all_append, ho]
  simp
theorem allOk_no {vs : List (List (Int × Nat))} {k : Nat} {v : List (Int × Nat)} (hv : vs[k]? = some v) (h : okV 0 v = false) : allOk vs = false := by
  rw [← Bool.not_eq_true]
  intro ha
  unfold allOk at ha
  rw [List.all_eq_true] at ha
  have := ha v (List.mem_of_getElem? hv)
  rw [h] at this
  cases this
set_option maxRecDepth 100000 in
set_option maxHeartbeats 4000000 in
theorem rmerge_v (B : Nat) (A : Option Addr) (n c : Nat) (vs : List Vec) (w : World) (hr : MReads w B A n vs) (hB : B ≤ w.heap.size) (hn : n ≤ 9223372036854775807) (hl : ∀ v ∈ vs, fitV v.l) :
    Calls Tryz.prog 36 #[.slice A n c] w fun e w' => ∃ A' n' c', e = .returned (.tuple #[.slice A' n' c', .int .i64 (mergeE (vs.map Vec.l))]) ∧ COwn w' w.heap.size A' n' c' (mergeV (vs.map Vec.l)) ∧ Below w.heap.size w w' := by
  have HLEN := Lib.hid hr.len
  have HR := Lib.hid hr
  have HFI := Lib.hid hl
  have HFIT := Lib.hid (show ∀ k, ∀ v ∈ (vs.map Vec.l).take k, fitV v from fun k v hv => by
    obtain ⟨u, hu, rfl⟩ := List.mem_map.1 (List.mem_of_mem_take hv)
    exact hl u hu)
  clear hr hl
  have z0 : NArr 75 (w.alloc (.cells (List.replicate 17 (Value.int .u64 0)).toArray 75)) w.heap.size (mrgL ((vs.map Vec.l).take 0)) := by
    have := NArr.new (t := 75) w (List.replicate 17 (Value.int .u64 0)).toArray (List.replicate 17 0) (by rfl)
    simpa [mrgL_nil] using this
  have zb : Below w.heap.size w (w.alloc (.cells (List.replicate 17 (Value.int .u64 0)).toArray 75)) := (Below.refl _ _).alloc (Nat.le_refl _) _
  have hI17 : (Tryz.prog.info? 75).map (·.size) = some 17 := by kernel_rfl
  have HI17 := Lib.hid hI17
  clear hI17
  go_enter Tryz.func36, Tryz.ntmps36
  go_wp2_with fail
  go_loopw [5] (fun i wr => ∃ k : Nat, k ≤ n ∧ i = .int .i64 (k : Int) ∧ NArr 75 wr w.heap.size (mrgL ((vs.map Vec.l).take k)) ∧ allOk ((vs.map Vec.l).take k) = true ∧ w.heap.size < wr.heap.size ∧ Below w.heap.size w wr) (fun i _ => n - (intOf i).toNat)
  case atStart => exact ⟨0, Nat.zero_le _, rfl, z0, rfl, by simp, zb⟩
  case round =>
    obtain ⟨k, hk, rfl, h0, ho, hz, hb⟩ := hrel
    have HB := Lib.hid hb
    have H0 := Lib.hid h0
    have HO := Lib.hid ho
    clear hb h0 ho z0 zb
    by_cases hlt : k < n
    · obtain ⟨ad, v, rfl, had, hv, hc, hcr, hvn⟩ := (HR.out.below (HB.out.mono hB)).at_ hlt
      have HV := Lib.hid (show (vs.map Vec.l)[k]? = some v.l by rw [List.getElem?_map, hv]; rfl)
      have HFV := Lib.hid (HFI.out v (List.mem_of_getElem? hv))
      have HCR := Lib.hid hcr
      have k0 : (0 : Int) ≤ (k : Int) := by omega
      have hBr : B ≤ wr.heap.size := Nat.le_trans hB HB.out.size
      clear hv hcr
      cases hov : okV 0 v.l
      · have HA := Lib.hid (allOk_no HV.out hov)
        have HOV := Lib.hid hov
        clear hov
        go_wp2_with fail
        refine (rcheck_v B v.A v.n v.c v.l wr HCR.out hBr hvn).mono ?_
        rw [HOV.out]
        rintro e w1 ⟨rfl, hb1⟩
        have B1 := Lib.hid (HB.out.trans (hb1.mono HB.out.size))
        clear hb1
        go_wp2_with fail
        go_ret2
        exact ⟨none, 0, 0, by rw [mergeE, if_neg (by rw [HA.out]; decide)]; rfl, by rw [mergeV, if_neg (by rw [HA.out]; decide)]; exact COwn.nil_ _ _, B1.out⟩
      · have HOV := Lib.hid hov
        clear hov
        go_wp2_with fail
        refine (rcheck_v B v.A v.n v.c v.l wr HCR.out hBr hvn).mono ?_
        rw [HOV.out]
        rintro e w1 ⟨rfl, hb1⟩
        have B1 := Lib.hid (HB.out.trans (hb1.mono HB.out.size))
        have H1 := Lib.hid (H0.out.below hb1)
        have c1 := (hb1.cell (p := ad.add k) (by rw [block_of_add]; omega)).trans hc
        have HCR1 := Lib.hid (Reads.below (show Reads wr B 2 _ _ _ from HCR.out) (hb1.mono hBr))
        have hz1 : w.heap.size < w1.heap.size := Nat.lt_of_lt_of_le hz hb1.size
        have hB1 : B ≤ w1.heap.size := Nat.le_trans hBr hb1.size
        clear hb1 hc HCR H0
        go_wp2_with fail
        refine (values_v B v.A v.n v.c v.l w1 HCR1.out hB1 hvn HOV.out HFV.out).mono ?_
        rintro e w2 ⟨rfl, hb2⟩
        have B2 := Lib.hid (B1.out.trans (hb2.mono B1.out.size))
        have H2 := Lib.hid (H1.out.below hb2)
        have hz2 : w.heap.size < w2.heap.size := Nat.lt_of_lt_of_le hz1 hb2.size
        have HI := Lib.hid (show (Tryz.prog.info? 75).map (·.size) = some (valsL v.l).length by rw [valsL_len]; exact HI17.out)
        clear hb2 B1 H1 HCR1
        go_wp2_with (first
          | (refine wpList_storeN (t := 75) rfl (.tmp 6) (.tmp 24) rfl w2.heap.size (valsL v.l) rfl rfl _ (heap_alloc_new w2 _) (by rw [valsL_len]; rfl) HI.out ?_
             intro w3 n3 b3 z3 o3
             have N3 := Lib.hid n3
             have B3 := Lib.hid ((B2.out.alloc (by omega) _).trans (b3.mono (by omega)))
             have H3 := Lib.hid ((H2.out.alloc (.cells #[.int .u64 0, .int .u64 0, .int .u64 0, .int .u64 0, .int .u64 0, .int .u64 0, .int .u64 0, .int .u64 0, .int .u64 0, .int .u64 0, .int .u64 0, .int .u64 0, .int .u64 0, .int .u64 0, .int .u64 0, .int .u64 0, .int .u64 0] 75)).keep (o3 w.heap.size (by omega)))
             have hz3 : w3.heap.size = w2.heap.size + 1 := by rw [z3]; simp
             clear n3 b3 z3 o3
             obtain ⟨g3, hg3⟩ : ∃ g3, w2.heap.size = g3 := ⟨_, rfl⟩
             rw [hg3] at N3 hz3 hz2 ⊢
             clear hg3 B2 H2)
          | fail)
        obtain ⟨us, hus⟩ : ∃ us, mrgL ((vs.map Vec.l).take k) = us := ⟨_, rfl⟩
        obtain ⟨xs, hxs⟩ : ∃ xs, valsL v.l = xs := ⟨_, rfl⟩
        have HUL := Lib.hid (show us.length = 17 by rw [← hus, mrgL_len])
        have HXL := Lib.hid (show xs.length = 17 by rw [← hxs, valsL_len])
        have HU64 := Lib.hid (show ∀ x ∈ us, x < 18446744073709551616 by rw [← hus]; exact mrgL_64 (HFIT.out k))
        have HX64 := Lib.hid (show ∀ x ∈ xs, x < 18446744073709551616 by rw [← hxs]; exact valsL_64 HFV.out)
        have HALL := Lib.hid (mixL_all _ k _ HV.out)
        have HAO := Lib.hid (show allOk ((vs.map Vec.l).take (k + 1)) = true by rw [allOk_step HO.out HV.out]; exact HOV.out)
        rw [hus] at H3 HALL
        rw [hxs] at N3 HALL ⊢
        clear hus hxs
        go_loopw [7] (fun i wr => ∃ e : Nat, 1 ≤ e ∧ e ≤ 17 ∧ i = .int .i64 (e : Int) ∧ NArr 75 wr w.heap.size (mixL us xs e) ∧ NArr 75 wr g3 xs ∧ w.heap.size < wr.heap.size ∧ Below w.heap.size w wr) (fun i _ => 17 - (intOf i).toNat)
        case atStart => exact ⟨1, Nat.le_refl _, by omega, rfl, by rw [mixL_one _ _ HUL.out]; exact H3.out, N3.out, by omega, B3.out⟩
        case round =>
          obtain ⟨e, he1, he2, rfl, h4, n4, hz4, hb4⟩ := hrel
          have H4 := Lib.hid h4
          have N4 := Lib.hid n4
          have B4 := Lib.hid hb4
          clear h4 n4 hb4
          by_cases hlt2 : e < 17
          · obtain ⟨x, hx⟩ : ∃ x, xs[e]? = some x := ⟨_, List.getElem?_eq_getElem (by rw [HXL.out]; exact hlt2)⟩
            obtain ⟨y, hy⟩ : ∃ y, us[e]? = some y := ⟨_, List.getElem?_eq_getElem (by rw [HUL.out]; exact hlt2)⟩
            have c4 := NArr.cell H4.out (mixL_at us xs e hlt2)
            rw [if_neg (by omega), List.getD_eq_getElem?_getD, hy] at c4
            simp only [Option.getD_some] at c4
            have f4 := NArr.frozen H4.out e
            have c5 := NArr.cell N4.out hx
            have x64 := HX64.out x (List.mem_of_getElem? hx)
            have y64 := HU64.out y (List.mem_of_getElem? hy)
            have HST := Lib.hid (mixL_step us xs e he1)
            rw [List.getD_eq_getElem?_getD, List.getD_eq_getElem?_getD, hx, hy] at HST
            simp only [Option.getD_some] at HST
            have k1 : (0 : Int) ≤ (e : Int) := by omega
            have d1 : decide (e < 17) = true := by simpa using hlt2
            clear hx hy
            go_upto_region 11 with fail
            go_region
            all_goals
              go_wp2_with fail
              go_roundw
              case rel => exact ⟨e + 1, by omega, by omega, by go_num, by have := (H4.out.set_ e _ (max y x) (max_if y x)).drew; rwa [HST.out] at this, (N4.out.setOther (by simp; omega) _).drew, by simpa [World.setCell] using hz4, (B4.out.setCell (Nat.le_refl _) _).drew⟩
              case measure => simp [intOf]; omega
          · obtain rfl : e = 17 := by omega
            rw [HALL.out] at H4
            go_wp2_with fail
            go_roundw
            case rel => exact ⟨k + 1, hlt, by go_num, H4.out, HAO.out, hz4, B4.out⟩
            case measure => simp [intOf]; omega
    · obtain rfl : k = n := by omega
      have HT := Lib.hid (show (vs.map Vec.l).take k = vs.map Vec.l by rw [List.take_of_length_le (by rw [List.length_map, HLEN.out]; exact Nat.le_refl _)])
      rw [HT.out] at H0 HO
      have HI := Lib.hid (show (Tryz.prog.info? 75).map (·.size) = some (mrgL (vs.map Vec.l)).length by rw [mrgL_len]; exact HI17.out)
      have HM := Lib.hid (show ofV (uF (mrgL (vs.map Vec.l))) = mergeV (vs.map Vec.l) by rw [mergeV, if_pos HO.out]; exact ofV_mrg _)
      have HE := Lib.hid (show mergeE (vs.map Vec.l) = 0 by rw [mergeE, if_pos HO.out])
      have H64 := Lib.hid (show ∀ x ∈ mrgL (vs.map Vec.l), x < 18446744073709551616 from mrgL_64 fun v hv => HFIT.out k v (by rw [HT.out]; exact hv))
      have HLL := Lib.hid (mrgL_len (vs.map Vec.l))
      obtain ⟨us, hus⟩ : ∃ us, mrgL (vs.map Vec.l) = us := ⟨_, rfl⟩
      rw [hus] at H0 HI HM H64 HLL
      clear hus
      go_wp2_with (first
        | (refine wpList_loadN (t := 75) rfl (.tmp 4) rfl w.heap.size us rfl H0.out Tryz.underlying75 rfl HI.out ?_)
        | fail)
      refine (made_v us wr HLL.out H64.out).mono ?_
      rw [HM.out]
      rintro e w5 ⟨A5, n5, c5, rfl, ho5, hb5⟩
      have HO5 := Lib.hid ho5
      clear ho5
      go_wp2_with fail
      go_ret2
      exact ⟨A5, n5, c5, by rw [HE.out]; rfl, HO5.out.down HB.out.size, HB.out.trans (hb5.mono HB.out.size)⟩
end Go.Proofs.YtndekohimfjdeaaGreatDoor

namespace Go.Proofs.YtndekohimfjdeaaGreatDoor
open Go.RowKit
set_option maxRecDepth 100000 in
set_option maxHeartbeats 4000000 in
theorem rcompare_v (B : Nat) (A1 A2 : Option Addr) (n1 c1 n2 c2 : Nat) (l1 l2 : List (Int × Nat)) (w : World) (hr1 : CReads w B A1 n1 l1) (hr2 : CReads w B A2 n2 l2) (hB : B ≤ w.heap.size) (hn1 : n1 ≤ 9223372036854775807) (hn2 : n2 ≤ 9223372036854775807)
    (hf1 : fitV l1) (hf2 : fitV l2) :
    Calls Tryz.prog 31 #[.slice A1 n1 c1, .slice A2 n2 c2] w fun e w' => e = .returned (.int .i64 (cmpV l1 l2)) ∧ Below w.heap.size w w' := by
  have HR1 := Lib.hid hr1
  have HR2 := Lib.hid hr2
  have HF1 := Lib.hid hf1
  have HF2 := Lib.hid hf2
  clear hr1 hr2 hf1 hf2
  cases ho1 : okV 0 l1
  · have HO := Lib.hid ho1
    have HC := Lib.hid (show cmpV l1 l2 = 0 by rw [cmpV, ho1]; rfl)
    clear ho1
    go_enter Tryz.func31, Tryz.ntmps31
    go_wp2_with fail
    refine (rcheck_v B A1 n1 c1 l1 w HR1.out hB hn1).mono ?_
    rw [HO.out]
    rintro e w1 ⟨rfl, hb⟩
    go_wp2_with fail
    go_ret
    exact ⟨by rw [HC.out]; rfl, hb⟩
  · have HO1 := Lib.hid ho1
    clear ho1
    cases ho2 : okV 0 l2
    · have HO := Lib.hid ho2
      have HC := Lib.hid (show cmpV l1 l2 = 0 by rw [cmpV, ho2, HO1.out]; rfl)
      clear ho2
      go_enter Tryz.func31, Tryz.ntmps31
      go_wp2_with fail
      refine (rcheck_v B A1 n1 c1 l1 w HR1.out hB hn1).mono ?_
      rw [HO1.out]
      rintro e w1 ⟨rfl, hb⟩
      go_wp2_with fail
      refine (rcheck_v B A2 n2 c2 l2 w1 (Reads.below (show Reads w B 2 A2 n2 _ from HR2.out) (hb.mono hB)) (Nat.le_trans hB hb.size) hn2).mono ?_
      rw [HO.out]
      rintro e w2 ⟨rfl, hb2⟩
      go_wp2_with fail
      go_ret
      exact ⟨by rw [HC.out]; rfl, btwo hb hb2⟩
    · have HO2 := Lib.hid ho2
      have HC := Lib.hid (show cmpV l1 l2 = cmpF (val l1) (val l2) by rw [cmpV, ho2, HO1.out]; rfl)
      clear ho2
      go_enter Tryz.func31, Tryz.ntmps31
      go_wp2_with fail
      refine (rcheck_v B A1 n1 c1 l1 w HR1.out hB hn1).mono ?_
      rw [HO1.out]
      rintro e w1 ⟨rfl, hb1⟩
      have B1 := Lib.hid hb1
      clear hb1
      go_wp2_with fail
      refine (rcheck_v B A2 n2 c2 l2 w1 (Reads.below (show Reads w B 2 A2 n2 _ from HR2.out) (B1.out.mono hB)) (Nat.le_trans hB B1.out.size) hn2).mono ?_
      rw [HO2.out]
      rintro e w2 ⟨rfl, hb2⟩
      have B2 := Lib.hid (btwo B1.out hb2)
      clear hb2 B1
      go_wp2_with fail
      refine (values_v B A1 n1 c1 l1 w2 (Reads.below (show Reads w B 2 A1 n1 _ from HR1.out) (B2.out.mono hB)) (Nat.le_trans hB B2.out.size) hn1 HO1.out HF1.out).mono ?_
      rintro e w3 ⟨rfl, hb3⟩
      have B3 := Lib.hid (btwo B2.out hb3)
      clear hb3 B2
      go_wp2_with fail
      refine (values_v B A2 n2 c2 l2 w3 (Reads.below (show Reads w B 2 A2 n2 _ from HR2.out) (B3.out.mono hB)) (Nat.le_trans hB B3.out.size) hn2 HO2.out HF2.out).mono ?_
      rintro e w4 ⟨rfl, hb4⟩
      have B4 := Lib.hid (btwo B3.out hb4)
      clear hb4 B3
      have HI1 := Lib.hid (show (Tryz.prog.info? 75).map (·.size) = some (valsL l1).length by rw [valsL_len]; kernel_rfl)
      have HI2 := Lib.hid (show (Tryz.prog.info? 75).map (·.size) = some (valsL l2).length by rw [valsL_len]; kernel_rfl)
      go_wp2_with (first
        | (refine wpList_storeN (t := 75) rfl (.tmp 5) (.tmp 19) rfl w4.heap.size (valsL l1) rfl rfl (List.replicate 17 (Value.int .u64 0)).toArray ((Below.heap_alloc _ _ _ (by simp)).trans (heap_alloc_new w4 _)) (by rw [valsL_len]; rfl) HI1.out ?_
           intro w5 n5 b5 z5 o5
           have B5 := Lib.hid (((B4.out.alloc B4.out.size (.cells (List.replicate 17 (Value.int .u64 0)).toArray 75)).alloc (by have := B4.out.size; simp; omega) (.cells (List.replicate 17 (Value.int .u64 0)).toArray 75)).trans (b5.mono B4.out.size))
           have N5 := Lib.hid n5
           have hz5 : w5.heap.size = w4.heap.size + 2 := by rw [z5]; simp
           have E5 := Lib.hid (show w5.heap[w4.heap.size + 1]? = some (.cells (List.replicate 17 (Value.int .u64 0)).toArray 75 (0, 0)) by
             rw [o5 _ (by omega)]
             have := heap_alloc_new (w4.alloc (.cells (List.replicate 17 (Value.int .u64 0)).toArray 75)) (.cells (List.replicate 17 (Value.int .u64 0)).toArray 75)
             simpa using this)
           clear n5 b5 z5 o5
           obtain ⟨g, hg⟩ : ∃ g, w4.heap.size = g := ⟨_, rfl⟩
           have hgw : w.heap.size ≤ g := by rw [← hg]; exact B4.out.size
           rw [hg] at N5 hz5 E5 ⊢
           clear hg B4)
        | (refine wpList_storeN (t := 75) rfl (.tmp 6) (.tmp 21) rfl (g + 1) (valsL l2) rfl rfl (List.replicate 17 (Value.int .u64 0)).toArray E5.out (by rw [valsL_len]; rfl) HI2.out ?_
           intro w6 n6 b6 z6 o6
           have B6 := Lib.hid (B5.out.trans (b6.mono (by omega)))
           have M6 := Lib.hid n6
           have N6 := Lib.hid (N5.out.keep (o6 g (by omega)))
           have hz6 : w6.heap.size = g + 2 := by rw [z6, hz5]
           clear n6 b6 z6 o6 hz5 N5 B5 E5)
        | fail)
      obtain ⟨xs, hxs⟩ : ∃ xs, valsL l1 = xs := ⟨_, rfl⟩
      obtain ⟨ys, hys⟩ : ∃ ys, valsL l2 = ys := ⟨_, rfl⟩
      have HX := Lib.hid (show ∀ j : Nat, j < 17 → xs[j]? = some (val l1 (j : Int)) by rw [← hxs]; exact fun j h => valsL_at l1 h)
      have HY := Lib.hid (show ∀ j : Nat, j < 17 → ys[j]? = some (val l2 (j : Int)) by rw [← hys]; exact fun j h => valsL_at l2 h)
      rw [hxs] at N6 ⊢
      rw [hys] at M6 ⊢
      clear hxs hys HI1 HI2
      go_loopw [7, 8, 9] (fun x y i wr => ∃ (k : Nat), k ≤ 16 ∧ i = .int .i64 ((k + 1 : Nat) : Int) ∧ x = .bool (ltN (val l1) (val l2) k) ∧ y = .bool (ltN (val l2) (val l1) k) ∧ Below w6.heap.size w6 wr) (fun _ _ i _ => 17 - (intOf i).toNat)
      case atStart => exact ⟨0, Nat.zero_le _, rfl, rfl, rfl, Below.refl _ _⟩
      case round =>
        obtain ⟨k, hk, rfl, rfl, rfl, hbw⟩ := hrel
        have BW := Lib.hid hbw
        clear hbw
        by_cases hlt : k < 16
        · have cx := NArr.cell (N6.out.below BW.out) (HX.out (k + 1) (by omega))
          have cy := NArr.cell (M6.out.below BW.out) (HY.out (k + 1) (by omega))
          have s1 := Lib.hid (show ltN (val l1) (val l2) (k + 1) = (ltN (val l1) (val l2) k || decide (val l1 ((k + 1 : Nat) : Int) < val l2 ((k + 1 : Nat) : Int))) from rfl)
          have s2 := Lib.hid (show ltN (val l2) (val l1) (k + 1) = (ltN (val l2) (val l1) k || decide (val l2 ((k + 1 : Nat) : Int) < val l1 ((k + 1 : Nat) : Int))) from rfl)
          obtain ⟨m, hm⟩ : ∃ m, k + 1 = m := ⟨_, rfl⟩
          have HM := Lib.hid hm
          have hm16 : m < 17 := by omega
          have hm0 : (0 : Int) ≤ (m : Int) := by omega
          have d0 : decide (m < 17) = true := by simpa using hm16
          have d0' : decide ((m : Int) < 17) = true := by simp; omega
          rw [hm] at cx cy s1 s2 ⊢
          have v1 := fit_val l1 (m : Int) HF1.out
          have v2 := fit_val l2 (m : Int) HF2.out
          clear hm
          generalize val l1 (m : Int) = x at *
          generalize val l2 (m : Int) = y at *
          obtain ⟨p, hp⟩ : ∃ p, ltN (val l1) (val l2) k = p := ⟨_, rfl⟩
          obtain ⟨q, hq⟩ : ∃ q, ltN (val l2) (val l1) k = q := ⟨_, rfl⟩
          rw [hp] at s1 ⊢
          rw [hq] at s2 ⊢
          clear hp hq
          obtain ⟨a, ha⟩ : ∃ a, decide (x < y) = a := ⟨_, rfl⟩
          obtain ⟨b, hb⟩ : ∃ b, decide (y < x) = b := ⟨_, rfl⟩
          rw [ha] at s1
          rw [hb] at s2
          cases p <;> cases q <;> cases a <;> cases b
          all_goals
            go_upto_region 8 with fail
            go_quiet (fail)
            go_upto_region 9 with fail
            go_quiet (fail)
            go_wp2_with fail
            go_roundw
            case rel => exact ⟨k + 1, by omega, by rw [HM.out]; go_num, by rw [HM.out, s1.out]; rfl, by rw [HM.out, s2.out]; rfl, by first | exact below_drewN BW.out _ | exact BW.out | exact below_drewN (below_drewN BW.out _) _⟩
            case measure => simp [intOf]; omega
        · obtain rfl : k = 16 := by omega
          have BE := Lib.hid (B6.out.trans (BW.out.mono (by omega)))
          have HCC := Lib.hid (show cmpV l1 l2 = if ltN (val l1) (val l2) 16 && ltN (val l2) (val l1) 16 then 4 else if ltN (val l1) (val l2) 16 then 2 else if ltN (val l2) (val l1) 16 then 3 else 1 from HC.out)
          obtain ⟨p, hp⟩ : ∃ p, ltN (val l1) (val l2) 16 = p := ⟨_, rfl⟩
          obtain ⟨q, hq⟩ : ∃ q, ltN (val l2) (val l1) 16 = q := ⟨_, rfl⟩
          rw [hp] at HCC ⊢
          rw [hq] at HCC ⊢
          clear hp hq HC
          cases p <;> cases q
          all_goals
            go_wp2_with fail
            go_ret
            exact ⟨by rw [HCC.out]; rfl, BE.out⟩
end Go.Proofs.YtndekohimfjdeaaGreatDoor

namespace Go.Proofs.YtndekohimfjdeaaGreatDoor
section
variable {P : Program} {ops : Array Oper} {Q : Exit → Act → World → Prop}
/-- The order: what is in the list comes up so; what is marked may change the world, and is alone when it comes up. -/
def schedOk (ops : Array Oper) : Array Bool → List (Nat × Bool) → Bool
  | listed, [] => (Region.ready .any ops listed).isEmpty
  | listed, (i, e) :: l => (if e then Region.ready .any ops listed == [i] else Region.free .any ops listed i && (Region.ready .any ops listed).contains i) && schedOk ops (listed.setIfInBounds i true) l
/-- From here on, in the order l (each operation written out behind its number), S kept. -/
def TW (P : Program) (ops : Array Oper) (Q : Exit → Act → World → Prop) (S : World → Prop) (l : List (Nat × Bool × Oper)) (a : Act) (w : World) : Prop :=
  ∀ listed, Region.noSelect ops = true → schedOk ops listed (l.map fun x => (x.1, x.2.1)) = true → (∀ x ∈ l, ops[x.1]? = some x.2.2) → wpAnyH P .any ops Q S l.length listed a w
variable {S : World → Prop} {l : List (Nat × Bool × Oper)} {i : Nat} {o : Oper} {a : Act} {w : World}
theorem TW.done (h : Q .normal a w) : TW P ops Q S [] a w := by
  intro listed _ hs _
  refine wpAnyH_done ?_ h 0
  simpa [schedOk] using hs
theorem TW.val {v : Value} (hQ : ∀ c a w, Q (.panic c) (a.put o.dst v) w → Q (.panic c) a w) (hy : YieldsIf P ops S o v a) (hS : S w) (h : TW P ops Q S l (a.put o.dst v) w) :
    TW P ops Q S ((i, false, o) :: l) a w := by
  intro listed hn hs hi
  simp only [List.map_cons, schedOk, Bool.false_eq_true, if_false, Bool.and_eq_true] at hs
  exact wpAnyH_take (hi _ List.mem_cons_self) hn hs.1.1 hs.1.2 hQ hy hS (h _ hn hs.2 fun x hx => hi x (List.mem_cons_of_mem _ hx))
theorem TW.val2 {v : Value} (hw : Region.wanted o (yielded ops a.tmps) = true) (hy : ∀ w, S w → (execOp a.eval o).run P w = .ok (.value v) w)
    (hQ : ∀ c a w, Q (.panic c) (a.put o.dst v) w → Q (.panic c) a w) (hS : S w) (h : TW P ops Q S l (a.put o.dst v) w) : TW P ops Q S ((i, false, o) :: l) a w := TW.val hQ (.inl ⟨hw, hy⟩) hS h
theorem TW.eff (hw : Region.wanted o (yielded ops a.tmps) = true)
    (h : ∀ K : Act → World → Prop, RowKit.Hid (∀ a' w', S w' → TW P ops Q S l a' w' → K a' w') → Oper.wp P o a w K Q) : TW P ops Q S ((i, true, o) :: l) a w := by
  intro listed hn hs hi
  simp only [List.map_cons, schedOk, if_true, Bool.and_eq_true, beq_iff_eq] at hs
  refine wpAnyH_all hs.1 (by simp) fun j hj => ?_
  obtain rfl : j = i := by simpa using hj
  have ho := hi _ List.mem_cons_self
  unfold wpOp
  simp only [ho, hw, if_true]
  exact .inl (h _ fun a' w' hS' hT => ⟨hS', hT _ hn hs.2 fun x hx => hi x (List.mem_cons_of_mem _ hx)⟩)
/-- An operation that is not wanted. -/
theorem TW.skip {e : Bool} (hw : Region.wanted o (yielded ops a.tmps) = false)
    (hQ : ∀ c a w, Q (.panic c) (a.put o.dst undef) w → Q (.panic c) a w) (hS : S w) (h : TW P ops Q S l (a.put o.dst undef) w) : TW P ops Q S ((i, e, o) :: l) a w := by
  cases e
  · exact TW.val hQ (.inr ⟨hw, rfl⟩) hS h
  · intro listed hn hs hi
    simp only [List.map_cons, schedOk, if_true, Bool.and_eq_true, beq_iff_eq] at hs
    refine wpAnyH_all hs.1 (by simp) fun j hj => ?_
    obtain rfl : j = i := by simpa using hj
    have ho := hi _ List.mem_cons_self
    unfold wpOp
    simp only [ho, hw, Bool.false_eq_true, if_false]
    exact ⟨hS, h _ hn hs.2 fun x hx => hi x (List.mem_cons_of_mem _ hx)⟩
theorem wpAnyH_mono {S S' : World → Prop} (hSS : ∀ W, S' W → S W) : ∀ (fuel : Nat) (listed : Array Bool) (a : Act) (w : World), wpAnyH P .any ops Q S' fuel listed a w → wpAnyH P .any ops Q S fuel listed a w
  | 0, _, _, _, h => h
  | fuel + 1, _, _, _, h => ⟨h.1, fun i hi => wpOp_mono (fun a' w' h' => ⟨hSS _ h'.1, wpAnyH_mono hSS fuel _ a' w' h'.2⟩) (h.2 i hi)⟩
/-- More is kept from here on. -/
theorem TW.now (S' : World → Prop) (hSS : ∀ W, S' W → S W) (h : TW P ops Q S' l a w) : TW P ops Q S l a w :=
  fun listed hn hs hi => wpAnyH_mono hSS _ _ _ _ (h listed hn hs hi)
/-- The operations of an order, written out. -/
def outOf (d : Oper) : List Oper → List (Nat × Bool) → List (Nat × Bool × Oper)
  | _, [] => []
  | ops, x :: l => (x.1, x.2, (ops[x.1]?).getD d) :: outOf d ops l
theorem outOf_map (d : Oper) (ops : List Oper) : ∀ l : List (Nat × Bool), (outOf d ops l).map (fun x => (x.1, x.2.1)) = l
  | [] => rfl
  | x :: l => by simp [outOf, outOf_map d ops l]
theorem outOf_len (d : Oper) (ops : List Oper) : ∀ l : List (Nat × Bool), (outOf d ops l).length = l.length
  | [] => rfl
  | x :: l => by simp [outOf, outOf_len d ops l]
theorem outOf_mem (d : Oper) (ops : List Oper) : ∀ l : List (Nat × Bool), (l.all fun x => decide (x.1 < ops.length)) = true → ∀ x ∈ outOf d ops l, ops[x.1]? = some x.2.2
  | [], _, x, hx => by simp [outOf] at hx
  | y :: l, h, x, hx => by
    simp only [List.all_cons, Bool.and_eq_true, decide_eq_true_eq] at h
    rcases List.mem_cons.1 hx with rfl | hx
    · simp only []
      rw [List.getElem?_eq_getElem h.1]
      rfl
    · exact outOf_mem d ops l h.2 x hx
/-- The beginning. -/
theorem wp_region_text {id : Nat} {ol : List Oper} {a : Act} {w : World} (l : List (Nat × Bool)) (S : World → Prop) (hm : P.follows .mixedOrders = true) (hl : l.length = ol.length) (hn : Region.noSelect ol.toArray = true)
    (hs : schedOk ol.toArray (Array.replicate ol.length false) l = true) (hi : (l.all fun x => decide (x.1 < ol.length)) = true)
    (h : ∀ d : Oper, TW P ol.toArray Q S (outOf d ol l) a w.drew) : (Code.region id ol.toArray true).wp P Q a w := by
  refine wp_region_held (S := S) hm ?_
  have h2 := h { dst := none, op := .move (.tmp 0), type := 0, pos := "", after := #[], guard := none } (Array.replicate ol.length false) hn (by rw [outOf_map]; exact hs) (fun x hx => by
    have := outOf_mem _ ol l hi x hx
    simpa using this)
  rw [outOf_len, hl] at h2
  exact h2
end
end Go.Proofs.YtndekohimfjdeaaGreatDoor
