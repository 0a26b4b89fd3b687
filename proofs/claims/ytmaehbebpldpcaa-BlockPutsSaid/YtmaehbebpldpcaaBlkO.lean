/-
  Blocks: maps by digest and length; lists that came in, their digests' numbers being bytes.
-/
import Derived.Test.YtmaehbebpldpcaaBlkN
import Derived.Test.YtmaehbebpldpcaaMapIs
import Derived.DeepKeys3
import Derived.Great.FillDense
import Derived.ChangeKeysEq
namespace Go.Proofs.Ytmaehbebpldpcaa
open Go.RowKit Go.Shelf Go.WideShapes Go.ChangeShapes Go.Maps Go.WideMaps
/-- The numbers of a digest are bytes. -/
def DgW (d : Dg) : Prop := ∀ x ∈ d.1, x < 256
theorem wf_u8 {x : Nat} (h : x < 256) : (Lit.int .u8 (x : Int)).wf = true := by
  have h1 : IntKind.u8.min = 0 := by decide
  have h2 : IntKind.u8.max = 255 := by decide
  simp only [Lit.wf, h1, h2, Bool.and_eq_true, decide_eq_true_eq]
  omega
theorem be8_lt (x : Nat) : ∀ y ∈ be8 x, y < 256 := by
  intro y hy
  simp only [be8, List.mem_cons, List.not_mem_nil, or_false] at hy
  omega
theorem dgOf_w (l : List UInt8) : DgW (dgOf l) := by
  intro x hx
  obtain ⟨s, _, hs⟩ := List.mem_flatMap.1 (show x ∈ (shaS (l.map UInt8.toNat)).list.flatMap be8 from hx)
  exact be8_lt s x hs
theorem cutL_w (L : List UInt8) (z : Nat) : ∀ d ∈ cutL L z, DgW d := by
  intro d hd
  obtain ⟨k, _, rfl⟩ := List.mem_map.1 hd
  exact dgOf_w _
abbrev Kd := Dg × Int
def ekK (k : Kd) : Value := .agg (k.1.cells ++ [Value.int .i64 k.2]).toArray
def evS (v : Int × Int) : Value := .agg #[.int .i64 v.1, .int .i64 v.2]
theorem cells_inj {d e : Dg} (h : d.cells = e.cells) : d = e := by
  apply Subtype.ext
  have h2 := congrArg (List.map fun v => match v with | .int _ z => z.toNat | _ => 0) h
  simp only [Dg.cells, List.map_map, Function.comp_def, Int.toNat_natCast] at h2
  simpa using h2
theorem ekK_inj (x y : Kd) (h : ekK x = ekK y) : x = y := by
  obtain ⟨d, n⟩ := x
  obtain ⟨e, m⟩ := y
  have h1 : d.cells ++ [Value.int .i64 n] = e.cells ++ [Value.int .i64 m] := by
    have h0 : (d.cells ++ [Value.int .i64 n]).toArray = (e.cells ++ [Value.int .i64 m]).toArray := by
      injection h
    exact congrArg Array.toList h0
  obtain ⟨h2, h3⟩ := List.append_inj h1 (by rw [Dg.cells_len, Dg.cells_len])
  rw [cells_inj h2]
  have : n = m := by simpa using h3
  rw [this]
set_option maxRecDepth 100000 in
theorem keyedK : Keyed Try.prog 71 := Keyed.of_law (Go.deep_law (m := 3) (by omega) (by kernel_rfl) (by kernel_rfl) (by kernel_rfl))
theorem mapM_all {α β : Type} {f : α → Option β} {g : α → β} : ∀ {l : List α}, (∀ i ∈ l, f i = some (g i)) → l.mapM f = some (l.map g)
  | [], _ => rfl
  | a :: l, h => by
    rw [List.mapM_cons, h a List.mem_cons_self, mapM_all (fun i hi => h i (List.mem_cons_of_mem _ hi))]
    rfl
set_option maxRecDepth 100000 in
theorem lits_dg (m : Nat) (d : Dg) (hd : DgW d) : ∃ ls, Try.prog.keyLits (m + 1 + 1) 59 d.cells = some ls := by
  have c1 : Try.prog.cellsOf 59 = 32 := by kernel_rfl
  have c2 : Try.prog.cellsOf 5 = 1 := by kernel_rfl
  unfold Program.keyLits
  rw [Try.underlying59]
  simp only [c1, c2, Dg.cells_len, if_true, Nat.mul_one]
  rw [mapM_all (g := fun i => [Lit.int .u8 ((d.1.getD i 0 : Nat) : Int)])]
  · exact ⟨_, rfl⟩
  · intro i hi
    have hi32 : i < 32 := List.mem_range.1 hi
    have hl : i < d.1.length := by rw [d.2]; exact hi32
    have e : ((d.cells.drop i).take 1) = [Value.int .u8 ((d.1.getD i 0 : Nat) : Int)] := by
      rw [List.take_one, List.head?_drop]
      show (d.cells[i]?).toList = _
      unfold Dg.cells
      rw [List.getElem?_map, List.getElem?_eq_getElem hl]
      simp [List.getD_eq_getElem?_getD, List.getElem?_eq_getElem hl]
    rw [e]
    unfold Program.keyLits
    rw [Try.underlying5]
    have hw := wf_u8 (hd (d.1.getD i 0) (by rw [List.getD_eq_getElem?_getD, List.getElem?_eq_getElem hl]; exact List.getElem_mem hl))
    simp only [hw, and_self, if_true]
set_option maxRecDepth 100000 in
theorem keyK_some (d : Dg) (n : Int) (hd : DgW d) (hn : I64 n) : ∃ q, keyOf Try.prog 71 (ekK (d, n)) = some q := by
  have h1 : Try.prog.keyType 71 = true := by kernel_rfl
  have c1 : Try.prog.cellsOf 71 = 33 := by kernel_rfl
  have c2 : Try.prog.cellsOf 59 = 32 := by kernel_rfl
  have c3 : Try.prog.cellsOf 3 = 1 := by kernel_rfl
  have h4 : Try.prog.types.size ≠ 0 := by simp
  obtain ⟨m, hm⟩ : ∃ m, Try.prog.types.size = m + 2 := ⟨Try.prog.types.size - 2, by kernel_rfl⟩
  have hl : (d.cells ++ [Value.int .i64 n]).length = 33 := by rw [List.length_append, Dg.cells_len]; rfl
  have h2 : Value.formed Try.prog 71 (ekK (d, n)) = true := by
    unfold Value.formed ekK
    rw [Try.underlying71]
    simp [c1, Dg.cells_len]
  have e1 : (d.cells ++ [Value.int .i64 n]).take 32 = d.cells := by rw [List.take_append_of_le_length (by rw [Dg.cells_len]; exact Nat.le_refl _), List.take_of_length_le (by rw [Dg.cells_len]; exact Nat.le_refl _)]
  have e2 : ((d.cells ++ [Value.int .i64 n]).drop 32).take 1 = [Value.int .i64 n] := by rw [List.drop_append_of_le_length (by rw [Dg.cells_len]; exact Nat.le_refl _), List.drop_of_length_le (by rw [Dg.cells_len]; exact Nat.le_refl _)]; rfl
  have e3 : Try.prog.keyLits (m + 1 + 1) 3 [Value.int .i64 n] = some [Lit.int .i64 n] := by
    unfold Program.keyLits
    rw [Try.underlying3]
    simp [hn]
  obtain ⟨ls, e4⟩ := lits_dg m d hd
  have h3 : Try.prog.keyLits (m + 1 + 1 + 1) 71 (d.cells ++ [Value.int .i64 n]) = some (ls ++ [Lit.int .i64 n]) := by
    unfold Program.keyLits
    rw [Try.underlying71]
    dsimp only
    rw [if_pos ⟨by rw [c1]; exact hl, by kernel_rfl⟩]
    simp only [List.mapM_cons, List.mapM_nil, c2, c3, List.drop_zero, e1, e2, e3, e4]
    simp
  unfold keyOf
  rw [Try.underlying71]
  have h5 : (ekK (d, n)).cells.toList = d.cells ++ [Value.int .i64 n] := rfl
  simp only [h1, h2, Bool.and_self, if_true, hm, h5, h3]
  exact ⟨_, rfl⟩
/-- What a map of kinds holds: the first entry of the list E. -/
def lk (q : Kd) : List (Kd × (Int × Int)) → Option (Int × Int)
  | [] => none
  | p :: E => if p.1 = q then some p.2 else lk q E
def KMap (W : World) (b : Nat) (E : List (Kd × (Int × Int))) : Prop := ∃ l : List (Kd × (Int × Int)), MapIs Try.prog 71 ekK evS W b l ∧ ∀ q, aget q l = lk q E
theorem KMap.made (w : World) : KMap (w.alloc (.map #[] 0)) w.heap.size [] := ⟨[], MapIs.made w, fun _ => rfl⟩
theorem KMap.keep {w w' : World} {b : Nat} {E : List (Kd × (Int × Int))} (h : KMap w b E) (hb : w'.heap[b]? = w.heap[b]?) : KMap w' b E := by
  obtain ⟨l, h1, h2⟩ := h
  exact ⟨l, h1.keep hb, h2⟩
theorem KMap.lt {w : World} {b : Nat} {E : List (Kd × (Int × Int))} (h : KMap w b E) : b < w.heap.size := by
  obtain ⟨l, h1, _⟩ := h
  exact h1.lt
theorem zero_src (w : World) : (zeroValue 47).run Try.prog w = .ok (evS (0, 0)) w := Try.zeroValue47 w
theorem KMap.look {w : World} {b : Nat} {E : List (Kd × (Int × Int))} (h : KMap w b E) (d : Dg) (n : Int) (hd : DgW d) (hn : I64 n) :
    (Instr.lookup 63 (.map (some b)) (.agg (d.cells ++ [Value.int .i64 n]).toArray) true).run Try.prog w = .ok (.tuple #[.agg #[.int .i64 ((lk (d, n) E).getD (0, 0)).1, .int .i64 ((lk (d, n) E).getD (0, 0)).2], .bool (lk (d, n) E).isSome]) w := by
  obtain ⟨l, hm, hl⟩ := h
  obtain ⟨q, hq⟩ := keyK_some d n hd hn
  have := hm.look keyedK ekK_inj Try.underlying63 (zero_src w) true hq
  refine this.trans ?_
  rw [hl (d, n)]
  cases lk (d, n) E <;> rfl
theorem KMap.store {w : World} {b : Nat} {E : List (Kd × (Int × Int))} (h : KMap w b E) (d : Dg) (n : Int) (hd : DgW d) (hn : I64 n) (f k : Int) :
    ∃ w', (Instr.mapUpdate 63 (.map (some b)) (.agg (d.cells ++ [Value.int .i64 n]).toArray) (.agg #[.int .i64 f, .int .i64 k])).run Try.prog w = .ok () w' ∧ KMap w' b (((d, n), (f, k)) :: E) ∧ w.grownBy w' (some b) ∧ w'.heap.size = w.heap.size := by
  obtain ⟨l, hm, hl⟩ := h
  obtain ⟨q, hq⟩ := keyK_some d n hd hn
  obtain ⟨w', h1, h2, h3, h4⟩ := hm.store (ev := evS) keyedK ekK_inj Try.underlying63 hq (f, k)
  refine ⟨w', h1, ⟨_, h2, fun y => ?_⟩, h3, h4⟩
  rw [aget_aput, hl]
  rfl
/-- A kind is made of a digest and a length. -/
theorem fill_kd (d : Dg) (n : Int) (z : Array Value) (hz : z.size = 33) (pl : Nat → Option (Nat × Nat)) (h0 : pl 0 = some (0, 32)) (h1 : pl 1 = some (32, 1)) :
    Instr.fill pl z [(0, .agg d.cells.toArray), (1, .int .i64 n)] = some (d.cells ++ [Value.int .i64 n]).toArray := by
  have hc : (Value.agg d.cells.toArray).cells.size = 32 := by simp [Value.cells, Dg.cells_len]
  unfold Instr.fill
  simp only [h0]
  rw [if_neg (by rw [hc, hz]; simp)]
  obtain ⟨g1, g2⟩ := Great.foldl_set 0 d.cells 0 z
  obtain ⟨Z, hZ⟩ : ∃ Z, (d.cells.zipIdx 0).foldl (fun cs (x : Value × Nat) => cs.setIfInBounds (0 + x.2) x.1) z = Z := ⟨_, rfl⟩
  have e : (Value.agg d.cells.toArray).cells.zipIdx.foldl (fun cs (x : Value × Nat) => cs.setIfInBounds (0 + x.2) x.1) z = Z := by
    rw [← hZ, ← Array.foldl_toList, Array.toList_zipIdx]
    rfl
  rw [hZ] at g1 g2
  have e2 : Array.foldl (fun cs x => match x with | (c, j) => cs.setIfInBounds (0 + j) c) z (Value.agg d.cells.toArray).cells.zipIdx = Z := e
  rw [e2]
  unfold Instr.fill
  simp only [h1]
  rw [if_neg (by rw [g1, hz]; simp [Value.cells])]
  unfold Instr.fill
  congr 1
  apply Array.ext'
  apply List.ext_getElem?
  intro k
  have hl : (d.cells ++ [Value.int .i64 n]).length = 33 := by rw [List.length_append, Dg.cells_len]; rfl
  have e3 : Array.foldl (fun cs x => match x with | (c, j) => cs.setIfInBounds (32 + j) c) Z (Value.int .i64 n).cells.zipIdx = Z.setIfInBounds 32 (.int .i64 n) := by simp [Value.cells]
  rw [e3, Array.getElem?_toList, Array.getElem?_setIfInBounds]
  show _ = (d.cells ++ [Value.int .i64 n])[k]?
  rw [List.getElem?_append, Dg.cells_len]
  by_cases hk : 32 = k
  · subst hk
    rw [if_pos rfl, if_pos (by rw [g1, hz]; decide), if_neg (by omega)]
    rfl
  · rw [if_neg hk, g2 k]
    by_cases hk2 : k < 32
    · rw [if_pos ⟨by omega, by rw [Dg.cells_len]; omega, by rw [hz]; omega⟩, if_pos hk2]
      simp
    · rw [if_neg (by rw [Dg.cells_len]; omega), if_neg hk2, Array.getElem?_eq_none (by rw [hz]; omega), List.getElem?_eq_none (by simp; omega)]
set_option maxRecDepth 100000 in
theorem run_build_kd (d : Dg) (n : Int) (w : World) : (Instr.build 71 #[(0, .agg d.cells.toArray), (1, .int .i64 n)]).run Try.prog w = .ok (.agg (d.cells ++ [Value.int .i64 n]).toArray) w := by
  obtain ⟨Z, hZ, hz⟩ : ∃ Z : Array Value, Z.size = 33 ∧ (zeroValue 71).run Try.prog w = .ok (.agg Z) w := ⟨#[Value.int .u8 0, Value.int .u8 0, Value.int .u8 0, Value.int .u8 0, Value.int .u8 0, Value.int .u8 0, Value.int .u8 0, Value.int .u8 0, Value.int .u8 0, Value.int .u8 0, Value.int .u8 0, Value.int .u8 0, Value.int .u8 0, Value.int .u8 0, Value.int .u8 0, Value.int .u8 0, Value.int .u8 0, Value.int .u8 0, Value.int .u8 0, Value.int .u8 0, Value.int .u8 0, Value.int .u8 0, Value.int .u8 0, Value.int .u8 0, Value.int .u8 0, Value.int .u8 0, Value.int .u8 0, Value.int .u8 0, Value.int .u8 0, Value.int .u8 0, Value.int .u8 0, Value.int .u8 0, Value.int .i64 0], rfl, Try.zeroValue71 w⟩
  have s1 : (sizeOf 59).run Try.prog w = .ok 32 w := by
    obtain ⟨i, hi⟩ : ∃ i, Try.prog.info? 59 = some i := ⟨_, rfl⟩
    rw [run_sizeOf w hi]
    have : Try.prog.cellsOf 59 = 32 := by kernel_rfl
    rw [this]
  have s2 : (sizeOf 3).run Try.prog w = .ok 1 w := by
    obtain ⟨i, hi⟩ : ∃ i, Try.prog.info? 3 = some i := ⟨_, rfl⟩
    rw [run_sizeOf w hi]
    have : Try.prog.cellsOf 3 = 1 := by kernel_rfl
    rw [this]
  have hf := fill_kd d n Z hZ (fun i => ([(0, 32), (32, 1)] : List (Nat × Nat))[i]?) rfl rfl
  unfold Instr.build
  simp only [Sem.run_bind, hz, run_underlying Try.underlying71, Result.andThen_ok]
  simp only [List.mapM_toArray, List.mapM_cons, List.mapM_nil, Sem.run_bind, Sem.run_pure, s1, s2, Result.andThen_ok, Sem.run_map, bind_pure_comp]
  simp [s1, s2, Result.andThen]
  have h2 : Instr.fill (fun x => ([(0, 32), (32, 1)] : List (Nat × Nat))[x]?) (Value.agg Z).cells [(0, .agg d.cells.toArray), (1, .int .i64 n)] = some (d.cells ++ [Value.int .i64 n]).toArray := hf
  rw [h2]
  simp
theorem wpListIn_build_kd {F : Fence} {N : Nat} {ops : Array Oper} {rest : List Oper} {o : Oper} {a : Act} {w : World} {Q : Exit → Act → World → Prop} (hgd : o.guard = none) (x y : Operand)
    (ho : o.op = .build 71 #[(0, x), (1, y)]) (d : Dg) (n : Int) (hx : a.eval x = .agg d.cells.toArray) (hy : a.eval y = .int .i64 n)
    (h : wpListIn F N Try.prog ops Q rest (a.put o.dst (.agg (d.cells ++ [Value.int .i64 n]).toArray)) w) : wpListIn F N Try.prog ops Q (o :: rest) a w := by
  refine wpListIn_plain hgd fun K hK => ?_
  unfold Oper.wpIn
  refine ⟨by simp [Oper.about, ho], ?_⟩
  rw [Oper.semAt_plain F _ _ (by rw [ho]; intro c hc'; cases hc')]
  have hp : ((#[(0, x), (1, y)] : Array (Nat × Operand)).map fun (i, x) => (i, a.eval x)) = #[(0, .agg d.cells.toArray), (1, .int .i64 n)] := by simp [hx, hy]
  simp only [execOp, ho, hp, Sem.run_bind, run_build_kd, Result.andThen_ok, Sem.run_pure]
  exact hK _ _ h
end Go.Proofs.Ytmaehbebpldpcaa
