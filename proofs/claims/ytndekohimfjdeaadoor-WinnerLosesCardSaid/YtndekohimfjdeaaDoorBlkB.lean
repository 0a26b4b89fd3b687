/-
  Blocks: digests compared; where a block goes; lists compared.
-/
import Derived.Test.YtndekohimfjdeaaDoorBlkA
import Derived.Laws.StructEq
namespace Go.Proofs.YtndekohimfjdeaaDoor
open Go.RowKit Go.Shelf
theorem run_equal_arr2 {P : Program} {w : World} {t e : TypeId} {n d : Nat} {k : IntKind} {xs ys : List Int} (h : P.underlying t = some (.array n e)) (he : P.underlying e = some (.int k)) (hi : (P.info? e).map (·.size) = some 1)
    (ha : xs.length = n) (hb : ys.length = n) : (Op.equalIn (d + 2) t (.agg (xs.map (Value.int k)).toArray) (.agg (ys.map (Value.int k)).toArray)).run P w = .ok (xs == ys) w := by
  have hsz : (sizeOf e).run P w = .ok 1 w := by
    cases hq : P.info? e with
    | none => simp [hq] at hi
    | some i =>
      have hs : i.size = 1 := by simpa [hq] using hi
      simp [sizeOf, typeInfo, hq, hs]
  have key : ∀ l : List Nat, (∀ i ∈ l, i < n) → (forIn (m := Sem) l ((none : Option Bool), ()) fun i _ => do
      let x ← part e (xs.map (Value.int k)).toArray (i * 1)
      let y ← part e (ys.map (Value.int k)).toArray (i * 1)
      let b ← Op.equalIn (d + 1) e x y
      if (!b) = true then pure (ForInStep.done (some false, ())) else pure (ForInStep.yield (none, ()))).run P w = .ok (if l.all (fun i => xs[i]? == ys[i]?) then none else some false, ()) w := by
    intro l
    induction l with
    | nil => intro _; simp
    | cons i l ih =>
      intro hl
      have hin := hl i List.mem_cons_self
      have ga : xs[i]? = some (xs[i]'(by omega)) := List.getElem?_eq_getElem (by omega)
      have gb : ys[i]? = some (ys[i]'(by omega)) := List.getElem?_eq_getElem (by omega)
      generalize xs[i]'(by omega) = x at ga
      generalize ys[i]'(by omega) = y at gb
      have hpa : (part e (xs.map (Value.int k)).toArray (i * 1)).run P w = .ok (.int k x) w := by simp [part, isAgg, run_underlying he, ga, Result.andThen]
      have hpb : (part e (ys.map (Value.int k)).toArray (i * 1)).run P w = .ok (.int k y) w := by simp [part, isAgg, run_underlying he, gb, Result.andThen]
      simp only [List.forIn_cons, Sem.run_bind, hpa, hpb, Result.andThen_ok, run_equalIn_int w d e k k x y he, List.all_cons, ga, gb]
      by_cases hxy : x = y
      · subst hxy
        simp only [beq_self_eq_true, Bool.not_true, Bool.false_eq_true, if_false, Sem.run_pure, Result.andThen_ok, Bool.true_and]
        exact ih fun j hj => hl j (List.mem_cons_of_mem _ hj)
      · have h1 : (x == y) = false := by simpa using hxy
        have h2 : (some x == some y) = false := by simpa using hxy
        simp [h1, h2]
  have hall : ((List.range' 0 n).all fun i => xs[i]? == ys[i]?) = (xs == ys) := by
    rw [Bool.eq_iff_iff]
    simp only [List.all_eq_true, List.mem_range'_1, Nat.zero_le, Nat.zero_add, true_and, beq_iff_eq]
    constructor
    · intro hh
      apply List.ext_getElem? 
      intro i
      by_cases hin : i < n
      · exact hh i hin
      · rw [List.getElem?_eq_none (by omega), List.getElem?_eq_none (by omega)]
    · intro hh i _
      rw [hh]
  rw [Op.equalIn]
  simp only [Sem.run_bind, run_underlying h, Result.andThen_ok, hsz]
  simp only [Std.Legacy.Range.forIn_eq_forIn_range']
  rw [key _ (fun i hi => by simp [Std.Legacy.Range.size] at hi; omega)]
  rw [show (List.range' ([:n] : Std.Legacy.Range).start ([:n] : Std.Legacy.Range).size ([:n] : Std.Legacy.Range).step) = List.range' 0 n by simp [Std.Legacy.Range.size], hall]
  cases xs == ys <;> simp
theorem Dg.cells_int (d : Dg) : d.cells = (d.1.map Int.ofNat).map (Value.int .u8) := by simp [Dg.cells]
theorem map_ofNat_beq (a b : List Nat) : (a.map Int.ofNat == b.map Int.ofNat) = (a == b) := by
  rw [Bool.eq_iff_iff, beq_iff_eq, beq_iff_eq]
  constructor
  · intro h
    have := congrArg (List.map Int.toNat) h
    simpa [List.map_map, Function.comp_def] using this
  · intro h; rw [h]
theorem eqd (d e : Dg) (w : World) : (binOp .eql 71 (.agg d.cells.toArray) (.agg e.cells.toArray)).run Tryd.prog w = .ok (.bool (d.1 == e.1)) w := by
  rw [Dg.cells_int, Dg.cells_int, run_eql_struct, run_equal_arr2 Tryd.underlying71 Tryd.underlying5 (by kernel_rfl) (by simp [d.2]) (by simp [e.2]), map_ofNat_beq]
  rfl
theorem neqd (d e : Dg) (w : World) : (binOp .neq 71 (.agg d.cells.toArray) (.agg e.cells.toArray)).run Tryd.prog w = .ok (.bool (!(d.1 == e.1))) w := by
  rw [Dg.cells_int, Dg.cells_int, run_neq_struct, run_equal_arr2 Tryd.underlying71 Tryd.underlying5 (by kernel_rfl) (by simp [d.2]) (by simp [e.2]), map_ofNat_beq]
  rfl
/-- A row of digests that can be read. -/
def DReads (w : World) (B : Nat) (A : Option Addr) (n : Nat) (ds : List Dg) : Prop := Reads w B 32 A n (ds.flatMap Dg.cells)
section
variable {w w' : World} {B n : Nat} {A : Option Addr} {ds : List Dg}
theorem DReads.len (h : DReads w B A n ds) : ds.length = n := by
  have h1 := h.1
  rw [flat_len Dg.cells_len] at h1
  omega
theorem DReads.below (h : DReads w B A n ds) (hb : Below B w w') : DReads w' B A n ds := Reads.below h hb
theorem DReads.at_ {k : Nat} (h : DReads w B A n ds) (hk : k < n) :
    ∃ ad d, A = some ad ∧ ds[k]? = some d ∧ ∀ W, Below B w W → ∀ j u, d.cells[j]? = some u → W.cell? ((ad.add (k * 32)).add j) = some u := by
  have hl : k < ds.length := by rw [h.len]; exact hk
  obtain ⟨ad, e, hb, hc⟩ := h.2 (by omega)
  refine ⟨ad, ds[k], e, List.getElem?_eq_getElem hl, fun W hW j u hu => ?_⟩
  have hj : j < 32 := by
    have := (List.getElem?_eq_some_iff.1 hu).1
    rwa [Dg.cells_len] at this
  rw [add_of_add]
  refine (hW.cell (p := ad.add (k * 32 + j)) (by rw [block_of_add]; exact hb)).trans (hc _ u ?_)
  rw [flat_at Dg.cells_len ds (List.getElem?_eq_getElem hl) hj]
  exact hu
end
/-- The answer of At. -/
def atP (s l : Int) (n : Nat) (k : Int) : Int × Int × Bool := if chk s l n = 0 ∧ 0 ≤ k ∧ k < (n : Int) then (k * s, toP s l k, true) else (0, 0, false)
theorem below_off (l : List Dg) : True := trivial

end Go.Proofs.YtndekohimfjdeaaDoor
