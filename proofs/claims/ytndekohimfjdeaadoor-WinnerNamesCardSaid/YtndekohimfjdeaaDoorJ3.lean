/-
  Blocks: digests compared; where a block goes; lists compared.
  Blocks: rows of digests, and lists, compared.
  Records: the chapters' contracts side by side.
  Records: the plain law of Check.
  Records: the program's Check.
  Records: record.Check.
  Winner: the order of versions; rows of records; which two may be held against each other; which of two wins.
  Winner: what is to be done.
  Winner: a place for a conflict copy: the numbers that are tried.
  Records: the kit's small records, and the question what is to be done and who wins.
-/
import Derived.Test.YtndekohimfjdeaaDoorJ1
import Derived.Test.YtndekohimfjdeaaDoorJ2
import Derived.Laws.StructEq
import Derived.RangeFuncNested
import Derived.RangeFuncBound
import Derived.RangeFuncCalls
import Derived.RangeFuncLeaves
import Derived.RangeFuncFrom
import Derived.Shelf.Abstract
import Derived.Shelf.RegionOpen
import Derived.OwnWalkIn
import Derived.TacticsInMore
import Derived.LoopNIn
import Derived.LoopIn
namespace Go.Proofs.YtndekohimfjdeaaDoor
open Go.RowKit Go.Shelf
theorem run_equal_arr2 {P : Program} {w : World} {t e : TypeId} {n d : Nat} {k : IntKind} {xs ys : List Int} (h : P.underlying t = some (.array n e)) (he : P.underlying e = some (.int k)) (hi : (P.info? e).map (·.size) = some 1)
    (ha : xs.length = n) (hb : ys.length = n) : (Op.equalIn (d + 2) t (.agg (xs.map (Value.int k)).toArray) (.agg (ys.map (Value.int k)).toArray)).run P w = .ok (xs == ys) w := by
  have hsz : (sizeOf e).run P w = .ok 1 w := by
    cases hq : P.info? e with
    | none => simp [hq] at hi
    | some i =>
      have hs : i.size = 1 := by simpa [hq] using hi
      simp [sizeOf, typeInfo, hq, hs]
  have key : ∀ l : List Nat, (∀ i ∈ l, i < n) → (forIn (m := Sem) l ((none : Option Bool), ()) fun i _ => do
      let x ← part e (xs.map (Value.int k)).toArray (i * 1)
      let y ← part e (ys.map (Value.int k)).toArray (i * 1)
      let b ← Op.equalIn (d + 1) e x y
      if (!b) = true then pure (ForInStep.done (some false, ())) else pure (ForInStep.yield (none, ()))).run P w = .ok (if l.all (fun i => xs[i]? == ys[i]?) then none else some false, ()) w := by
    intro l
    induction l with
    | nil => intro _; simp
    | cons i l ih =>
      intro hl
      have hin := hl i List.mem_cons_self
      have ga : xs[i]? = some (xs[i]'(by omega)) := List.getElem?_eq_getElem (by omega)
      have gb : ys[i]? = some (ys[i]'(by omega)) := List.getElem?_eq_getElem (by omega)
      generalize xs[i]'(by omega) = x at ga
      generalize ys[i]'(by omega) = y at gb
      have hpa : (part e (xs.map (Value.int k)).toArray (i * 1)).run P w = .ok (.int k x) w := by simp [part, isAgg, run_underlying he, ga, Result.andThen]
      have hpb : (part e (ys.map (Value.int k)).toArray (i * 1)).run P w = .ok (.int k y) w := by simp [part, isAgg, run_underlying he, gb, Result.andThen]
      simp only [List.forIn_cons, Sem.run_bind, hpa, hpb, Result.andThen_ok, run_equalIn_int w d e k k x y he, List.all_cons, ga, gb]
      by_cases hxy : x = y
      · subst hxy
        simp only [beq_self_eq_true, Bool.not_true, Bool.false_eq_true, if_false, Sem.run_pure, Result.andThen_ok, Bool.true_and]
        exact ih fun j hj => hl j (List.mem_cons_of_mem _ hj)
      · have h1 : (x == y) = false := by simpa using hxy
        have h2 : (some x == some y) = false := by simpa using hxy
        simp [h1, h2]
  have hall : ((List.range' 0 n).all fun i => xs[i]? == ys[i]?) = (xs == ys) := by
    rw [Bool.eq_iff_iff]
    simp only [List.all_eq_true, List.mem_range'_1, Nat.zero_le, Nat.zero_add, true_and, beq_iff_eq]
    constructor
    · intro hh
      apply List.ext_getElem? 
      intro i
      by_cases hin : i < n
      · exact hh i hin
      · rw [List.getElem?_eq_none (by omega), List.getElem?_eq_none (by omega)]
    · intro hh i _
      rw [hh]
  rw [Op.equalIn]
  simp only [Sem.run_bind, run_underlying h, Result.andThen_ok, hsz]
  simp only [Std.Legacy.Range.forIn_eq_forIn_range']
  rw [key _ (fun i hi => by simp [Std.Legacy.Range.size] at hi; omega)]
  rw [show (List.range' ([:n] : Std.Legacy.Range).start ([:n] : Std.Legacy.Range).size ([:n] : Std.Legacy.Range).step) = List.range' 0 n by simp [Std.Legacy.Range.size], hall]
  cases xs == ys <;> simp
theorem Dg.cells_int (d : Dg) : d.cells = (d.1.map Int.ofNat).map (Value.int .u8) := by simp [Dg.cells]
theorem map_ofNat_beq (a b : List Nat) : (a.map Int.ofNat == b.map Int.ofNat) = (a == b) := by
  rw [Bool.eq_iff_iff, beq_iff_eq, beq_iff_eq]
  constructor
  · intro h
    have := congrArg (List.map Int.toNat) h
    simpa [List.map_map, Function.comp_def] using this
  · intro h; rw [h]
theorem eqd (d e : Dg) (w : World) : (binOp .eql 71 (.agg d.cells.toArray) (.agg e.cells.toArray)).run Tryd.prog w = .ok (.bool (d.1 == e.1)) w := by
  rw [Dg.cells_int, Dg.cells_int, run_eql_struct, run_equal_arr2 Tryd.underlying71 Tryd.underlying5 (by kernel_rfl) (by simp [d.2]) (by simp [e.2]), map_ofNat_beq]
  rfl
theorem neqd (d e : Dg) (w : World) : (binOp .neq 71 (.agg d.cells.toArray) (.agg e.cells.toArray)).run Tryd.prog w = .ok (.bool (!(d.1 == e.1))) w := by
  rw [Dg.cells_int, Dg.cells_int, run_neq_struct, run_equal_arr2 Tryd.underlying71 Tryd.underlying5 (by kernel_rfl) (by simp [d.2]) (by simp [e.2]), map_ofNat_beq]
  rfl
/-- A row of digests that can be read. -/
def DReads (w : World) (B : Nat) (A : Option Addr) (n : Nat) (ds : List Dg) : Prop := Reads w B 32 A n (ds.flatMap Dg.cells)
section
variable {w w' : World} {B n : Nat} {A : Option Addr} {ds : List Dg}
theorem DReads.len (h : DReads w B A n ds) : ds.length = n := by
  have h1 := h.1
  rw [flat_len Dg.cells_len] at h1
  omega
theorem DReads.below (h : DReads w B A n ds) (hb : Below B w w') : DReads w' B A n ds := Reads.below h hb
theorem DReads.at_ {k : Nat} (h : DReads w B A n ds) (hk : k < n) :
    ∃ ad d, A = some ad ∧ ds[k]? = some d ∧ ∀ W, Below B w W → ∀ j u, d.cells[j]? = some u → W.cell? ((ad.add (k * 32)).add j) = some u := by
  have hl : k < ds.length := by rw [h.len]; exact hk
  obtain ⟨ad, e, hb, hc⟩ := h.2 (by omega)
  refine ⟨ad, ds[k], e, List.getElem?_eq_getElem hl, fun W hW j u hu => ?_⟩
  have hj : j < 32 := by
    have := (List.getElem?_eq_some_iff.1 hu).1
    rwa [Dg.cells_len] at this
  rw [add_of_add]
  refine (hW.cell (p := ad.add (k * 32 + j)) (by rw [block_of_add]; exact hb)).trans (hc _ u ?_)
  rw [flat_at Dg.cells_len ds (List.getElem?_eq_getElem hl) hj]
  exact hu
end
/-- The answer of At. -/
def atP (s l : Int) (n : Nat) (k : Int) : Int × Int × Bool := if chk s l n = 0 ∧ 0 ≤ k ∧ k < (n : Int) then (k * s, toP s l k, true) else (0, 0, false)
theorem below_off (l : List Dg) : True := trivial

end Go.Proofs.YtndekohimfjdeaaDoor

namespace Go.Proofs.YtndekohimfjdeaaDoor
open Go.RowKit Go.Shelf
theorem take_eq_step {α : Type} {l m : List α} {k : Nat} {x y : α} (h : l.take k = m.take k) (hx : l[k]? = some x) (hy : m[k]? = some y) (e : x = y) : l.take (k + 1) = m.take (k + 1) := by
  rw [List.take_add_one, List.take_add_one, h, hx, hy, e]
theorem ne_at {α : Type} {l m : List α} {k : Nat} {x y : α} (hx : l[k]? = some x) (hy : m[k]? = some y) (e : x ≠ y) : l ≠ m := by
  intro h
  subst h
  rw [hx] at hy
  injection hy with hy
  exact e hy

set_option maxRecDepth 100000 in
set_option maxHeartbeats 4000000 in
theorem eqs_v (A A' : Option Addr) (n c n' c' B : Nat) (ds ds' : List Dg) (w : World) (hd : DReads w B A n ds) (he : DReads w B A' n' ds') (hB : B ≤ w.heap.size) (hn : n ≤ 9007199254740992) :
    Calls Tryd.prog 55 #[.slice A n c, .slice A' n' c'] w fun e w' => e = .returned (.bool (decide (ds = ds'))) ∧ Below w.heap.size w w' := by
  have HD := Lib.hid hd
  have HE := Lib.hid he
  have hl := hd.len
  have hl' := he.len
  clear hd he
  go_enter Tryd.func55, Tryd.ntmps55
  by_cases hnn : n = n'
  case neg =>
    have d1 : ((n : Int) != (n' : Int)) = true := by rw [bne_iff_ne]; omega
    have HR := Lib.hid (show decide (ds = ds') = false by
      rw [decide_eq_false_iff_not]
      intro e
      subst e
      omega)
    clear hl hl'
    go_wp2
    go_ret
    exact ⟨by rw [HR.out]; rfl, Below.refl _ _⟩
  subst hnn
  clear hl hl'
  go_wp2
  go_loopw [13] (fun i wr => ∃ k : Nat, k ≤ n ∧ i = .int .i64 (k : Int) ∧ ds.take k = ds'.take k ∧ Below w.heap.size w wr) (fun i _ => n - (intOf i).toNat)
  case atStart => exact ⟨0, Nat.zero_le _, rfl, by simp, Below.refl _ _⟩
  case round =>
    obtain ⟨k, hk, rfl, ht, hb⟩ := hrel
    have HT := Lib.hid ht
    have HB := Lib.hid hb
    clear ht hb
    by_cases hlt : k < n
    · obtain ⟨ad, d, rfl, hd, hc⟩ := HD.out.at_ hlt
      obtain ⟨ad', d', rfl, hd', hc'⟩ := HE.out.at_ hlt
      have HC := Lib.hid (hc wr (HB.out.mono hB))
      have HC' := Lib.hid (hc' wr (HB.out.mono hB))
      have k0 : (0 : Int) ≤ (k : Int) := by omega
      have HX := Lib.hid hd
      have HX' := Lib.hid hd'
      have HI9 := Lib.hid (show (Tryd.prog.info? 71).map (·.size) = some 32 by kernel_rfl)
      have hne : ∀ V : World, (binOp .neq 71 (.agg d.cells.toArray) (.agg d'.cells.toArray)).run Tryd.prog V = .ok (.bool (!(d.1 == d'.1))) V := fun V => neqd d d' V
      clear hd hd' hc hc'
      by_cases hdd : d.1 = d'.1
      · have HN := Lib.hid (take_eq_step HT.out HX.out HX'.out (Subtype.ext hdd))
        have e1 : (!(d.1 == d'.1)) = false := by simpa using hdd
        rw [e1] at hne
        clear e1 hdd
        go_upto_region 6 with fail
        refine wp_region_tree (SK.one 0 false <| .one 1 false <| .one 2 false <| .one 3 false <| .one 4 false <| .one 5 false <| .one 6 false <| .one 7 false <| .one 8 false .done) (fun V => (∀ j u, d.cells[j]? = some u → V.cell? ((ad.add (k * 32)).add j) = some u) ∧ (∀ j u, d'.cells[j]? = some u → V.cell? ((ad'.add (k * 32)).add j) = some u)) (by kernel_rfl) (by kernel_rfl) (by kernel_rfl) (by kernel_rfl) ?_
        have hS : (∀ j u, d.cells[j]? = some u → wr.drew.cell? ((ad.add (k * 32)).add j) = some u) ∧ (∀ j u, d'.cells[j]? = some u → wr.drew.cell? ((ad'.add (k * 32)).add j) = some u) := ⟨HC.out, HC'.out⟩
        ((first | (refine TR.val2 (v := ?_) _ (by simp only [List.getElem?_toArray, List.getElem?_cons_zero]; rfl) ?_ ?_ ?_ ?_ ?_; rotate_left; (focus rfl); (focus (intro W hSW; (try dsimp only at hSW); (try (obtain ⟨hS1, hSW⟩ := hSW)); (try (obtain ⟨hS2, hSW⟩ := hSW)); (try (obtain ⟨hS3, hSW⟩ := hSW)); (try (obtain ⟨hS4, hSW⟩ := hSW)); (try (obtain ⟨hS5, hSW⟩ := hSW)); (try (obtain ⟨hS6, hSW⟩ := hSW)); (try (obtain ⟨hS7, hSW⟩ := hSW)); (try (obtain ⟨hS8, hSW⟩ := hSW)); go_simp; (try with_reducible rfl); done)); (focus exact fun _ _ _ h => h); (focus assumption)) | (refine TR.skip _ (by simp only [List.getElem?_toArray, List.getElem?_cons_zero]; rfl) ?_ ?_ ?_ ?_; (focus rfl); (focus exact fun _ _ _ h => h); (focus assumption))); simp only [Act.put, List.setIfInBounds_toArray, List.set_cons_zero, List.set_cons_succ])
        iterate 2 ((first | (refine TR.val2 (v := ?_) _ (by simp only [List.getElem?_toArray, List.getElem?_cons_succ, List.getElem?_cons_zero]; rfl) ?_ ?_ ?_ ?_ ?_; rotate_left; (focus rfl); (focus (intro W hSW; (try dsimp only at hSW); (try (obtain ⟨hS1, hSW⟩ := hSW)); (try (obtain ⟨hS2, hSW⟩ := hSW)); (try (obtain ⟨hS3, hSW⟩ := hSW)); (try (obtain ⟨hS4, hSW⟩ := hSW)); (try (obtain ⟨hS5, hSW⟩ := hSW)); (try (obtain ⟨hS6, hSW⟩ := hSW)); (try (obtain ⟨hS7, hSW⟩ := hSW)); (try (obtain ⟨hS8, hSW⟩ := hSW)); go_simp; (try with_reducible rfl); done)); (focus exact fun _ _ _ h => h); (focus assumption)) | (refine TR.skip _ (by simp only [List.getElem?_toArray, List.getElem?_cons_succ, List.getElem?_cons_zero]; rfl) ?_ ?_ ?_ ?_; (focus rfl); (focus exact fun _ _ _ h => h); (focus assumption))); simp only [Act.put, List.setIfInBounds_toArray, List.set_cons_zero, List.set_cons_succ])
        refine TR.val2 (v := .agg d.cells.toArray) _ (by simp only [List.getElem?_toArray, List.getElem?_cons_succ, List.getElem?_cons_zero]; rfl) ?_ ?_ ?_ ?_ ?_
        (focus rfl)
        (focus exact fun V hV => exec_load_slot 71 (.tmp 18) rfl (ad.add (k * 32)) rfl d.cells _ hV.1 Tryd.underlying71 rfl (HI9.out.trans (by rw [Dg.cells_len])))
        (focus exact fun _ _ _ h => h)
        (focus exact hS)
        simp only [Act.put, List.setIfInBounds_toArray, List.set_cons_zero, List.set_cons_succ]
        iterate 3 ((first | (refine TR.val2 (v := ?_) _ (by simp only [List.getElem?_toArray, List.getElem?_cons_succ, List.getElem?_cons_zero]; rfl) ?_ ?_ ?_ ?_ ?_; rotate_left; (focus rfl); (focus (intro W hSW; (try dsimp only at hSW); (try (obtain ⟨hS1, hSW⟩ := hSW)); (try (obtain ⟨hS2, hSW⟩ := hSW)); (try (obtain ⟨hS3, hSW⟩ := hSW)); (try (obtain ⟨hS4, hSW⟩ := hSW)); (try (obtain ⟨hS5, hSW⟩ := hSW)); (try (obtain ⟨hS6, hSW⟩ := hSW)); (try (obtain ⟨hS7, hSW⟩ := hSW)); (try (obtain ⟨hS8, hSW⟩ := hSW)); go_simp; (try with_reducible rfl); done)); (focus exact fun _ _ _ h => h); (focus assumption)) | (refine TR.skip _ (by simp only [List.getElem?_toArray, List.getElem?_cons_succ, List.getElem?_cons_zero]; rfl) ?_ ?_ ?_ ?_; (focus rfl); (focus exact fun _ _ _ h => h); (focus assumption))); simp only [Act.put, List.setIfInBounds_toArray, List.set_cons_zero, List.set_cons_succ])
        refine TR.val2 (v := .agg d'.cells.toArray) _ (by simp only [List.getElem?_toArray, List.getElem?_cons_succ, List.getElem?_cons_zero]; rfl) ?_ ?_ ?_ ?_ ?_
        (focus rfl)
        (focus exact fun V hV => exec_load_slot 71 (.tmp 22) rfl (ad'.add (k * 32)) rfl d'.cells _ hV.2 Tryd.underlying71 rfl (HI9.out.trans (by rw [Dg.cells_len])))
        (focus exact fun _ _ _ h => h)
        (focus exact hS)
        simp only [Act.put, List.setIfInBounds_toArray, List.set_cons_zero, List.set_cons_succ]
        iterate 1 ((first | (refine TR.val2 (v := ?_) _ (by simp only [List.getElem?_toArray, List.getElem?_cons_succ, List.getElem?_cons_zero]; rfl) ?_ ?_ ?_ ?_ ?_; rotate_left; (focus rfl); (focus (intro W hSW; (try dsimp only at hSW); (try (obtain ⟨hS1, hSW⟩ := hSW)); (try (obtain ⟨hS2, hSW⟩ := hSW)); (try (obtain ⟨hS3, hSW⟩ := hSW)); (try (obtain ⟨hS4, hSW⟩ := hSW)); (try (obtain ⟨hS5, hSW⟩ := hSW)); (try (obtain ⟨hS6, hSW⟩ := hSW)); (try (obtain ⟨hS7, hSW⟩ := hSW)); (try (obtain ⟨hS8, hSW⟩ := hSW)); go_simp; (try with_reducible rfl); done)); (focus exact fun _ _ _ h => h); (focus assumption)) | (refine TR.skip _ (by simp only [List.getElem?_toArray, List.getElem?_cons_succ, List.getElem?_cons_zero]; rfl) ?_ ?_ ?_ ?_; (focus rfl); (focus exact fun _ _ _ h => h); (focus assumption))); simp only [Act.put, List.setIfInBounds_toArray, List.set_cons_zero, List.set_cons_succ])
        refine TR.done ?_
        clear hS
        go_wp2
        go_roundw
        case rel => exact ⟨k + 1, hlt, by go_num, HN.out, HB.out.drew⟩
        case measure => simp [intOf]; omega
      · have HN := Lib.hid (ne_at HX.out HX'.out (fun e => hdd (by rw [e])))
        have e1 : (!(d.1 == d'.1)) = true := by simpa using hdd
        rw [e1] at hne
        clear e1 hdd
        go_upto_region 6 with fail
        refine wp_region_tree (SK.one 0 false <| .one 1 false <| .one 2 false <| .one 3 false <| .one 4 false <| .one 5 false <| .one 6 false <| .one 7 false <| .one 8 false .done) (fun V => (∀ j u, d.cells[j]? = some u → V.cell? ((ad.add (k * 32)).add j) = some u) ∧ (∀ j u, d'.cells[j]? = some u → V.cell? ((ad'.add (k * 32)).add j) = some u)) (by kernel_rfl) (by kernel_rfl) (by kernel_rfl) (by kernel_rfl) ?_
        have hS : (∀ j u, d.cells[j]? = some u → wr.drew.cell? ((ad.add (k * 32)).add j) = some u) ∧ (∀ j u, d'.cells[j]? = some u → wr.drew.cell? ((ad'.add (k * 32)).add j) = some u) := ⟨HC.out, HC'.out⟩
        ((first | (refine TR.val2 (v := ?_) _ (by simp only [List.getElem?_toArray, List.getElem?_cons_zero]; rfl) ?_ ?_ ?_ ?_ ?_; rotate_left; (focus rfl); (focus (intro W hSW; (try dsimp only at hSW); (try (obtain ⟨hS1, hSW⟩ := hSW)); (try (obtain ⟨hS2, hSW⟩ := hSW)); (try (obtain ⟨hS3, hSW⟩ := hSW)); (try (obtain ⟨hS4, hSW⟩ := hSW)); (try (obtain ⟨hS5, hSW⟩ := hSW)); (try (obtain ⟨hS6, hSW⟩ := hSW)); (try (obtain ⟨hS7, hSW⟩ := hSW)); (try (obtain ⟨hS8, hSW⟩ := hSW)); go_simp; (try with_reducible rfl); done)); (focus exact fun _ _ _ h => h); (focus assumption)) | (refine TR.skip _ (by simp only [List.getElem?_toArray, List.getElem?_cons_zero]; rfl) ?_ ?_ ?_ ?_; (focus rfl); (focus exact fun _ _ _ h => h); (focus assumption))); simp only [Act.put, List.setIfInBounds_toArray, List.set_cons_zero, List.set_cons_succ])
        iterate 2 ((first | (refine TR.val2 (v := ?_) _ (by simp only [List.getElem?_toArray, List.getElem?_cons_succ, List.getElem?_cons_zero]; rfl) ?_ ?_ ?_ ?_ ?_; rotate_left; (focus rfl); (focus (intro W hSW; (try dsimp only at hSW); (try (obtain ⟨hS1, hSW⟩ := hSW)); (try (obtain ⟨hS2, hSW⟩ := hSW)); (try (obtain ⟨hS3, hSW⟩ := hSW)); (try (obtain ⟨hS4, hSW⟩ := hSW)); (try (obtain ⟨hS5, hSW⟩ := hSW)); (try (obtain ⟨hS6, hSW⟩ := hSW)); (try (obtain ⟨hS7, hSW⟩ := hSW)); (try (obtain ⟨hS8, hSW⟩ := hSW)); go_simp; (try with_reducible rfl); done)); (focus exact fun _ _ _ h => h); (focus assumption)) | (refine TR.skip _ (by simp only [List.getElem?_toArray, List.getElem?_cons_succ, List.getElem?_cons_zero]; rfl) ?_ ?_ ?_ ?_; (focus rfl); (focus exact fun _ _ _ h => h); (focus assumption))); simp only [Act.put, List.setIfInBounds_toArray, List.set_cons_zero, List.set_cons_succ])
        refine TR.val2 (v := .agg d.cells.toArray) _ (by simp only [List.getElem?_toArray, List.getElem?_cons_succ, List.getElem?_cons_zero]; rfl) ?_ ?_ ?_ ?_ ?_
        (focus rfl)
        (focus exact fun V hV => exec_load_slot 71 (.tmp 18) rfl (ad.add (k * 32)) rfl d.cells _ hV.1 Tryd.underlying71 rfl (HI9.out.trans (by rw [Dg.cells_len])))
        (focus exact fun _ _ _ h => h)
        (focus exact hS)
        simp only [Act.put, List.setIfInBounds_toArray, List.set_cons_zero, List.set_cons_succ]
        iterate 3 ((first | (refine TR.val2 (v := ?_) _ (by simp only [List.getElem?_toArray, List.getElem?_cons_succ, List.getElem?_cons_zero]; rfl) ?_ ?_ ?_ ?_ ?_; rotate_left; (focus rfl); (focus (intro W hSW; (try dsimp only at hSW); (try (obtain ⟨hS1, hSW⟩ := hSW)); (try (obtain ⟨hS2, hSW⟩ := hSW)); (try (obtain ⟨hS3, hSW⟩ := hSW)); (try (obtain ⟨hS4, hSW⟩ := hSW)); (try (obtain ⟨hS5, hSW⟩ := hSW)); (try (obtain ⟨hS6, hSW⟩ := hSW)); (try (obtain ⟨hS7, hSW⟩ := hSW)); (try (obtain ⟨hS8, hSW⟩ := hSW)); go_simp; (try with_reducible rfl); done)); (focus exact fun _ _ _ h => h); (focus assumption)) | (refine TR.skip _ (by simp only [List.getElem?_toArray, List.getElem?_cons_succ, List.getElem?_cons_zero]; rfl) ?_ ?_ ?_ ?_; (focus rfl); (focus exact fun _ _ _ h => h); (focus assumption))); simp only [Act.put, List.setIfInBounds_toArray, List.set_cons_zero, List.set_cons_succ])
        refine TR.val2 (v := .agg d'.cells.toArray) _ (by simp only [List.getElem?_toArray, List.getElem?_cons_succ, List.getElem?_cons_zero]; rfl) ?_ ?_ ?_ ?_ ?_
        (focus rfl)
        (focus exact fun V hV => exec_load_slot 71 (.tmp 22) rfl (ad'.add (k * 32)) rfl d'.cells _ hV.2 Tryd.underlying71 rfl (HI9.out.trans (by rw [Dg.cells_len])))
        (focus exact fun _ _ _ h => h)
        (focus exact hS)
        simp only [Act.put, List.setIfInBounds_toArray, List.set_cons_zero, List.set_cons_succ]
        iterate 1 ((first | (refine TR.val2 (v := ?_) _ (by simp only [List.getElem?_toArray, List.getElem?_cons_succ, List.getElem?_cons_zero]; rfl) ?_ ?_ ?_ ?_ ?_; rotate_left; (focus rfl); (focus (intro W hSW; (try dsimp only at hSW); (try (obtain ⟨hS1, hSW⟩ := hSW)); (try (obtain ⟨hS2, hSW⟩ := hSW)); (try (obtain ⟨hS3, hSW⟩ := hSW)); (try (obtain ⟨hS4, hSW⟩ := hSW)); (try (obtain ⟨hS5, hSW⟩ := hSW)); (try (obtain ⟨hS6, hSW⟩ := hSW)); (try (obtain ⟨hS7, hSW⟩ := hSW)); (try (obtain ⟨hS8, hSW⟩ := hSW)); go_simp; (try with_reducible rfl); done)); (focus exact fun _ _ _ h => h); (focus assumption)) | (refine TR.skip _ (by simp only [List.getElem?_toArray, List.getElem?_cons_succ, List.getElem?_cons_zero]; rfl) ?_ ?_ ?_ ?_; (focus rfl); (focus exact fun _ _ _ h => h); (focus assumption))); simp only [Act.put, List.setIfInBounds_toArray, List.set_cons_zero, List.set_cons_succ])
        refine TR.done ?_
        clear hS
        go_wp2
        go_ret
        exact ⟨by rw [decide_eq_false HN.out]; rfl, HB.out.drew⟩
    · obtain rfl : k = n := by omega
      have HN := Lib.hid (show ds = ds' by
        have h1 := HT.out
        rwa [List.take_of_length_le (by rw [HD.out.len]; exact Nat.le_refl _), List.take_of_length_le (by rw [HE.out.len]; exact Nat.le_refl _)] at h1)
      go_wp2
      go_ret
      exact ⟨by rw [decide_eq_true HN.out]; rfl, HB.out⟩

set_option maxRecDepth 100000 in
set_option maxHeartbeats 4000000 in
theorem digests_v (A A' : Option Addr) (n c n' c' B : Nat) (ds ds' : List Dg) (w : World) (hd : DReads w B A n ds) (he : DReads w B A' n' ds') (hB : B ≤ w.heap.size) (hn : n ≤ 9007199254740992) :
    Calls Tryd.prog 39 #[.slice A n c, .slice A' n' c'] w fun e w' => e = .returned (.bool (decide (ds = ds'))) ∧ Below w.heap.size w w' := by
  have HD := Lib.hid hd
  have HE := Lib.hid he
  have hl := hd.len
  have hl' := he.len
  clear hd he
  go_enter Tryd.func39, Tryd.ntmps39
  by_cases hnn : n = n'
  case neg =>
    have d1 : ((n : Int) != (n' : Int)) = true := by rw [bne_iff_ne]; omega
    have HR := Lib.hid (show decide (ds = ds') = false by
      rw [decide_eq_false_iff_not]
      intro e
      subst e
      omega)
    clear hl hl'
    go_wp2
    go_ret
    exact ⟨by rw [HR.out]; rfl, Below.refl _ _⟩
  subst hnn
  clear hl hl'
  go_wp2
  go_loopw [5] (fun i wr => ∃ k : Nat, k ≤ n ∧ i = .int .i64 (k : Int) ∧ ds.take k = ds'.take k ∧ Below w.heap.size w wr) (fun i _ => n - (intOf i).toNat)
  case atStart => exact ⟨0, Nat.zero_le _, rfl, by simp, Below.refl _ _⟩
  case round =>
    obtain ⟨k, hk, rfl, ht, hb⟩ := hrel
    have HT := Lib.hid ht
    have HB := Lib.hid hb
    clear ht hb
    by_cases hlt : k < n
    · obtain ⟨ad, d, rfl, hd, hc⟩ := HD.out.at_ hlt
      obtain ⟨ad', d', rfl, hd', hc'⟩ := HE.out.at_ hlt
      have HC := Lib.hid (hc wr (HB.out.mono hB))
      have HC' := Lib.hid (hc' wr (HB.out.mono hB))
      have k0 : (0 : Int) ≤ (k : Int) := by omega
      have HX := Lib.hid hd
      have HX' := Lib.hid hd'
      have HI9 := Lib.hid (show (Tryd.prog.info? 71).map (·.size) = some 32 by kernel_rfl)
      have hne : ∀ V : World, (binOp .neq 71 (.agg d.cells.toArray) (.agg d'.cells.toArray)).run Tryd.prog V = .ok (.bool (!(d.1 == d'.1))) V := fun V => neqd d d' V
      clear hd hd' hc hc'
      by_cases hdd : d.1 = d'.1
      · have HN := Lib.hid (take_eq_step HT.out HX.out HX'.out (Subtype.ext hdd))
        have e1 : (!(d.1 == d'.1)) = false := by simpa using hdd
        rw [e1] at hne
        clear e1 hdd
        go_upto_region 6 with fail
        refine wp_region_tree (SK.one 0 false <| .one 1 false <| .one 2 false <| .one 3 false <| .one 4 false <| .one 5 false <| .one 6 false <| .one 7 false <| .one 8 false .done) (fun V => (∀ j u, d.cells[j]? = some u → V.cell? ((ad.add (k * 32)).add j) = some u) ∧ (∀ j u, d'.cells[j]? = some u → V.cell? ((ad'.add (k * 32)).add j) = some u)) (by kernel_rfl) (by kernel_rfl) (by kernel_rfl) (by kernel_rfl) ?_
        have hS : (∀ j u, d.cells[j]? = some u → wr.drew.cell? ((ad.add (k * 32)).add j) = some u) ∧ (∀ j u, d'.cells[j]? = some u → wr.drew.cell? ((ad'.add (k * 32)).add j) = some u) := ⟨HC.out, HC'.out⟩
        ((first | (refine TR.val2 (v := ?_) _ (by simp only [List.getElem?_toArray, List.getElem?_cons_zero]; rfl) ?_ ?_ ?_ ?_ ?_; rotate_left; (focus rfl); (focus (intro W hSW; (try dsimp only at hSW); (try (obtain ⟨hS1, hSW⟩ := hSW)); (try (obtain ⟨hS2, hSW⟩ := hSW)); (try (obtain ⟨hS3, hSW⟩ := hSW)); (try (obtain ⟨hS4, hSW⟩ := hSW)); (try (obtain ⟨hS5, hSW⟩ := hSW)); (try (obtain ⟨hS6, hSW⟩ := hSW)); (try (obtain ⟨hS7, hSW⟩ := hSW)); (try (obtain ⟨hS8, hSW⟩ := hSW)); go_simp; (try with_reducible rfl); done)); (focus exact fun _ _ _ h => h); (focus assumption)) | (refine TR.skip _ (by simp only [List.getElem?_toArray, List.getElem?_cons_zero]; rfl) ?_ ?_ ?_ ?_; (focus rfl); (focus exact fun _ _ _ h => h); (focus assumption))); simp only [Act.put, List.setIfInBounds_toArray, List.set_cons_zero, List.set_cons_succ])
        iterate 2 ((first | (refine TR.val2 (v := ?_) _ (by simp only [List.getElem?_toArray, List.getElem?_cons_succ, List.getElem?_cons_zero]; rfl) ?_ ?_ ?_ ?_ ?_; rotate_left; (focus rfl); (focus (intro W hSW; (try dsimp only at hSW); (try (obtain ⟨hS1, hSW⟩ := hSW)); (try (obtain ⟨hS2, hSW⟩ := hSW)); (try (obtain ⟨hS3, hSW⟩ := hSW)); (try (obtain ⟨hS4, hSW⟩ := hSW)); (try (obtain ⟨hS5, hSW⟩ := hSW)); (try (obtain ⟨hS6, hSW⟩ := hSW)); (try (obtain ⟨hS7, hSW⟩ := hSW)); (try (obtain ⟨hS8, hSW⟩ := hSW)); go_simp; (try with_reducible rfl); done)); (focus exact fun _ _ _ h => h); (focus assumption)) | (refine TR.skip _ (by simp only [List.getElem?_toArray, List.getElem?_cons_succ, List.getElem?_cons_zero]; rfl) ?_ ?_ ?_ ?_; (focus rfl); (focus exact fun _ _ _ h => h); (focus assumption))); simp only [Act.put, List.setIfInBounds_toArray, List.set_cons_zero, List.set_cons_succ])
        refine TR.val2 (v := .agg d.cells.toArray) _ (by simp only [List.getElem?_toArray, List.getElem?_cons_succ, List.getElem?_cons_zero]; rfl) ?_ ?_ ?_ ?_ ?_
        (focus rfl)
        (focus exact fun V hV => exec_load_slot 71 (.tmp 19) rfl (ad.add (k * 32)) rfl d.cells _ hV.1 Tryd.underlying71 rfl (HI9.out.trans (by rw [Dg.cells_len])))
        (focus exact fun _ _ _ h => h)
        (focus exact hS)
        simp only [Act.put, List.setIfInBounds_toArray, List.set_cons_zero, List.set_cons_succ]
        iterate 3 ((first | (refine TR.val2 (v := ?_) _ (by simp only [List.getElem?_toArray, List.getElem?_cons_succ, List.getElem?_cons_zero]; rfl) ?_ ?_ ?_ ?_ ?_; rotate_left; (focus rfl); (focus (intro W hSW; (try dsimp only at hSW); (try (obtain ⟨hS1, hSW⟩ := hSW)); (try (obtain ⟨hS2, hSW⟩ := hSW)); (try (obtain ⟨hS3, hSW⟩ := hSW)); (try (obtain ⟨hS4, hSW⟩ := hSW)); (try (obtain ⟨hS5, hSW⟩ := hSW)); (try (obtain ⟨hS6, hSW⟩ := hSW)); (try (obtain ⟨hS7, hSW⟩ := hSW)); (try (obtain ⟨hS8, hSW⟩ := hSW)); go_simp; (try with_reducible rfl); done)); (focus exact fun _ _ _ h => h); (focus assumption)) | (refine TR.skip _ (by simp only [List.getElem?_toArray, List.getElem?_cons_succ, List.getElem?_cons_zero]; rfl) ?_ ?_ ?_ ?_; (focus rfl); (focus exact fun _ _ _ h => h); (focus assumption))); simp only [Act.put, List.setIfInBounds_toArray, List.set_cons_zero, List.set_cons_succ])
        refine TR.val2 (v := .agg d'.cells.toArray) _ (by simp only [List.getElem?_toArray, List.getElem?_cons_succ, List.getElem?_cons_zero]; rfl) ?_ ?_ ?_ ?_ ?_
        (focus rfl)
        (focus exact fun V hV => exec_load_slot 71 (.tmp 23) rfl (ad'.add (k * 32)) rfl d'.cells _ hV.2 Tryd.underlying71 rfl (HI9.out.trans (by rw [Dg.cells_len])))
        (focus exact fun _ _ _ h => h)
        (focus exact hS)
        simp only [Act.put, List.setIfInBounds_toArray, List.set_cons_zero, List.set_cons_succ]
        iterate 1 ((first | (refine TR.val2 (v := ?_) _ (by simp only [List.getElem?_toArray, List.getElem?_cons_succ, List.getElem?_cons_zero]; rfl) ?_ ?_ ?_ ?_ ?_; rotate_left; (focus rfl); (focus (intro W hSW; (try dsimp only at hSW); (try (obtain ⟨hS1, hSW⟩ := hSW)); (try (obtain ⟨hS2, hSW⟩ := hSW)); (try (obtain ⟨hS3, hSW⟩ := hSW)); (try (obtain ⟨hS4, hSW⟩ := hSW)); (try (obtain ⟨hS5, hSW⟩ := hSW)); (try (obtain ⟨hS6, hSW⟩ := hSW)); (try (obtain ⟨hS7, hSW⟩ := hSW)); (try (obtain ⟨hS8, hSW⟩ := hSW)); go_simp; (try with_reducible rfl); done)); (focus exact fun _ _ _ h => h); (focus assumption)) | (refine TR.skip _ (by simp only [List.getElem?_toArray, List.getElem?_cons_succ, List.getElem?_cons_zero]; rfl) ?_ ?_ ?_ ?_; (focus rfl); (focus exact fun _ _ _ h => h); (focus assumption))); simp only [Act.put, List.setIfInBounds_toArray, List.set_cons_zero, List.set_cons_succ])
        refine TR.done ?_
        clear hS
        go_wp2
        go_roundw
        case rel => exact ⟨k + 1, hlt, by go_num, HN.out, HB.out.drew⟩
        case measure => simp [intOf]; omega
      · have HN := Lib.hid (ne_at HX.out HX'.out (fun e => hdd (by rw [e])))
        have e1 : (!(d.1 == d'.1)) = true := by simpa using hdd
        rw [e1] at hne
        clear e1 hdd
        go_upto_region 6 with fail
        refine wp_region_tree (SK.one 0 false <| .one 1 false <| .one 2 false <| .one 3 false <| .one 4 false <| .one 5 false <| .one 6 false <| .one 7 false <| .one 8 false .done) (fun V => (∀ j u, d.cells[j]? = some u → V.cell? ((ad.add (k * 32)).add j) = some u) ∧ (∀ j u, d'.cells[j]? = some u → V.cell? ((ad'.add (k * 32)).add j) = some u)) (by kernel_rfl) (by kernel_rfl) (by kernel_rfl) (by kernel_rfl) ?_
        have hS : (∀ j u, d.cells[j]? = some u → wr.drew.cell? ((ad.add (k * 32)).add j) = some u) ∧ (∀ j u, d'.cells[j]? = some u → wr.drew.cell? ((ad'.add (k * 32)).add j) = some u) := ⟨HC.out, HC'.out⟩
        ((first | (refine TR.val2 (v := ?_) _ (by simp only [List.getElem?_toArray, List.getElem?_cons_zero]; rfl) ?_ ?_ ?_ ?_ ?_; rotate_left; (focus rfl); (focus (intro W hSW; (try dsimp only at hSW); (try (obtain ⟨hS1, hSW⟩ := hSW)); (try (obtain ⟨hS2, hSW⟩ := hSW)); (try (obtain ⟨hS3, hSW⟩ := hSW)); (try (obtain ⟨hS4, hSW⟩ := hSW)); (try (obtain ⟨hS5, hSW⟩ := hSW)); (try (obtain ⟨hS6, hSW⟩ := hSW)); (try (obtain ⟨hS7, hSW⟩ := hSW)); (try (obtain ⟨hS8, hSW⟩ := hSW)); go_simp; (try with_reducible rfl); done)); (focus exact fun _ _ _ h => h); (focus assumption)) | (refine TR.skip _ (by simp only [List.getElem?_toArray, List.getElem?_cons_zero]; rfl) ?_ ?_ ?_ ?_; (focus rfl); (focus exact fun _ _ _ h => h); (focus assumption))); simp only [Act.put, List.setIfInBounds_toArray, List.set_cons_zero, List.set_cons_succ])
        iterate 2 ((first | (refine TR.val2 (v := ?_) _ (by simp only [List.getElem?_toArray, List.getElem?_cons_succ, List.getElem?_cons_zero]; rfl) ?_ ?_ ?_ ?_ ?_; rotate_left; (focus rfl); (focus (intro W hSW; (try dsimp only at hSW); (try (obtain ⟨hS1, hSW⟩ := hSW)); (try (obtain ⟨hS2, hSW⟩ := hSW)); (try (obtain ⟨hS3, hSW⟩ := hSW)); (try (obtain ⟨hS4, hSW⟩ := hSW)); (try (obtain ⟨hS5, hSW⟩ := hSW)); (try (obtain ⟨hS6, hSW⟩ := hSW)); (try (obtain ⟨hS7, hSW⟩ := hSW)); (try (obtain ⟨hS8, hSW⟩ := hSW)); go_simp; (try with_reducible rfl); done)); (focus exact fun _ _ _ h => h); (focus assumption)) | (refine TR.skip _ (by simp only [List.getElem?_toArray, List.getElem?_cons_succ, List.getElem?_cons_zero]; rfl) ?_ ?_ ?_ ?_; (focus rfl); (focus exact fun _ _ _ h => h); (focus assumption))); simp only [Act.put, List.setIfInBounds_toArray, List.set_cons_zero, List.set_cons_succ])
        refine TR.val2 (v := .agg d.cells.toArray) _ (by simp only [List.getElem?_toArray, List.getElem?_cons_succ, List.getElem?_cons_zero]; rfl) ?_ ?_ ?_ ?_ ?_
        (focus rfl)
        (focus exact fun V hV => exec_load_slot 71 (.tmp 19) rfl (ad.add (k * 32)) rfl d.cells _ hV.1 Tryd.underlying71 rfl (HI9.out.trans (by rw [Dg.cells_len])))
        (focus exact fun _ _ _ h => h)
        (focus exact hS)
        simp only [Act.put, List.setIfInBounds_toArray, List.set_cons_zero, List.set_cons_succ]
        iterate 3 ((first | (refine TR.val2 (v := ?_) _ (by simp only [List.getElem?_toArray, List.getElem?_cons_succ, List.getElem?_cons_zero]; rfl) ?_ ?_ ?_ ?_ ?_; rotate_left; (focus rfl); (focus (intro W hSW; (try dsimp only at hSW); (try (obtain ⟨hS1, hSW⟩ := hSW)); (try (obtain ⟨hS2, hSW⟩ := hSW)); (try (obtain ⟨hS3, hSW⟩ := hSW)); (try (obtain ⟨hS4, hSW⟩ := hSW)); (try (obtain ⟨hS5, hSW⟩ := hSW)); (try (obtain ⟨hS6, hSW⟩ := hSW)); (try (obtain ⟨hS7, hSW⟩ := hSW)); (try (obtain ⟨hS8, hSW⟩ := hSW)); go_simp; (try with_reducible rfl); done)); (focus exact fun _ _ _ h => h); (focus assumption)) | (refine TR.skip _ (by simp only [List.getElem?_toArray, List.getElem?_cons_succ, List.getElem?_cons_zero]; rfl) ?_ ?_ ?_ ?_; (focus rfl); (focus exact fun _ _ _ h => h); (focus assumption))); simp only [Act.put, List.setIfInBounds_toArray, List.set_cons_zero, List.set_cons_succ])
        refine TR.val2 (v := .agg d'.cells.toArray) _ (by simp only [List.getElem?_toArray, List.getElem?_cons_succ, List.getElem?_cons_zero]; rfl) ?_ ?_ ?_ ?_ ?_
        (focus rfl)
        (focus exact fun V hV => exec_load_slot 71 (.tmp 23) rfl (ad'.add (k * 32)) rfl d'.cells _ hV.2 Tryd.underlying71 rfl (HI9.out.trans (by rw [Dg.cells_len])))
        (focus exact fun _ _ _ h => h)
        (focus exact hS)
        simp only [Act.put, List.setIfInBounds_toArray, List.set_cons_zero, List.set_cons_succ]
        iterate 1 ((first | (refine TR.val2 (v := ?_) _ (by simp only [List.getElem?_toArray, List.getElem?_cons_succ, List.getElem?_cons_zero]; rfl) ?_ ?_ ?_ ?_ ?_; rotate_left; (focus rfl); (focus (intro W hSW; (try dsimp only at hSW); (try (obtain ⟨hS1, hSW⟩ := hSW)); (try (obtain ⟨hS2, hSW⟩ := hSW)); (try (obtain ⟨hS3, hSW⟩ := hSW)); (try (obtain ⟨hS4, hSW⟩ := hSW)); (try (obtain ⟨hS5, hSW⟩ := hSW)); (try (obtain ⟨hS6, hSW⟩ := hSW)); (try (obtain ⟨hS7, hSW⟩ := hSW)); (try (obtain ⟨hS8, hSW⟩ := hSW)); go_simp; (try with_reducible rfl); done)); (focus exact fun _ _ _ h => h); (focus assumption)) | (refine TR.skip _ (by simp only [List.getElem?_toArray, List.getElem?_cons_succ, List.getElem?_cons_zero]; rfl) ?_ ?_ ?_ ?_; (focus rfl); (focus exact fun _ _ _ h => h); (focus assumption))); simp only [Act.put, List.setIfInBounds_toArray, List.set_cons_zero, List.set_cons_succ])
        refine TR.done ?_
        clear hS
        go_wp2
        go_ret
        exact ⟨by rw [decide_eq_false HN.out]; rfl, HB.out.drew⟩
    · obtain rfl : k = n := by omega
      have HN := Lib.hid (show ds = ds' by
        have h1 := HT.out
        rwa [List.take_of_length_le (by rw [HD.out.len]; exact Nat.le_refl _), List.take_of_length_le (by rw [HE.out.len]; exact Nat.le_refl _)] at h1)
      go_wp2
      go_ret
      exact ⟨by rw [decide_eq_true HN.out]; rfl, HB.out⟩

/-- Are lists the same? -/
def sameP (s l s' l' : Int) (ds ds' : List Dg) : Bool := decide (s = s') && (decide (l = l') && decide (ds = ds'))
set_option maxRecDepth 100000 in
set_option maxHeartbeats 4000000 in
theorem bsame_v (s l s' l' : Int) (A A' : Option Addr) (n c n' c' B : Nat) (ds ds' : List Dg) (w : World) (hd : DReads w B A n ds) (he : DReads w B A' n' ds') (hB : B ≤ w.heap.size) (hn : n ≤ 9007199254740992) :
    Calls Tryd.prog 36 #[.agg #[.int .i64 s, .int .i64 l, .slice A n c], .agg #[.int .i64 s', .int .i64 l', .slice A' n' c']] w fun e w' => e = .returned (.bool (sameP s l s' l' ds ds')) ∧ Below w.heap.size w w' := by
  have BA := Lib.hid (((Below.refl w.heap.size w).alloc (Nat.le_refl _) (.cells #[.int .i64 s, .int .i64 l, .slice A n c] 25)).alloc (by simp) (.cells #[.int .i64 s', .int .i64 l', .slice A' n' c'] 25))
  have Y := Lib.hid (heap_alloc2_new w (.cells #[.int .i64 s, .int .i64 l, .slice A n c] 25) (.cells #[.int .i64 s', .int .i64 l', .slice A' n' c'] 25))
  have X := Lib.hid (heap_alloc2_old w (.cells #[.int .i64 s, .int .i64 l, .slice A n c] 25) (.cells #[.int .i64 s', .int .i64 l', .slice A' n' c'] 25))
  have hz : ((w.alloc (.cells #[.int .i64 s, .int .i64 l, .slice A n c] 25)).alloc (.cells #[.int .i64 s', .int .i64 l', .slice A' n' c'] 25)).heap.size = w.heap.size + 2 := by simp
  go_enter Tryd.func36, Tryd.ntmps36
  go_upto_region 1 with fail
  generalize (w.alloc (.cells #[.int .i64 s, .int .i64 l, .slice A n c] 25)).alloc (.cells #[.int .i64 s', .int .i64 l', .slice A' n' c'] 25) = w1 at *
  have EV := Lib.hid (eqs_v A A' n c n' c' B ds ds' w1 (hd.below (BA.out.mono hB)) (he.below (BA.out.mono hB)) (by omega) hn)
  have c0 : w1.cell? ⟨w.heap.size, 0, none⟩ = some (.int .i64 s) := by rw [cell_of_row _ _ 0 _ _ _ X.out]; rfl
  have c1 : w1.cell? ⟨w.heap.size, 1, none⟩ = some (.int .i64 l) := by rw [cell_of_row _ _ 1 _ _ _ X.out]; rfl
  have c2 : w1.cell? ⟨w.heap.size, 2, none⟩ = some (.slice A n c) := by rw [cell_of_row _ _ 2 _ _ _ X.out]; rfl
  have c3 : w1.cell? ⟨w.heap.size + 1, 0, none⟩ = some (.int .i64 s') := by rw [cell_of_row _ _ 0 _ _ _ Y.out]; rfl
  have c4 : w1.cell? ⟨w.heap.size + 1, 1, none⟩ = some (.int .i64 l') := by rw [cell_of_row _ _ 1 _ _ _ Y.out]; rfl
  have c5 : w1.cell? ⟨w.heap.size + 1, 2, none⟩ = some (.slice A' n' c') := by rw [cell_of_row _ _ 2 _ _ _ Y.out]; rfl
  clear hd he X Y
  by_cases h1 : s = s'
  · have e1 : (s == s') = true := by simpa using h1
    by_cases h2 : l = l'
    · have e2 : (l == l') = true := by simpa using h2
      have HR := Lib.hid (show sameP s l s' l' ds ds' = decide (ds = ds') by simp [sameP, h1, h2])
      clear h1 h2
      generalize decide (ds = ds') = r at *
      go_wp2_with fail
      refine EV.out.mono ?_
      rintro e w2 ⟨rfl, b2⟩
      have B2 := Lib.hid (BA.out.trans (b2.mono (by omega)))
      clear b2
      go_wp2
      go_ret
      exact ⟨by rw [HR.out]; rfl, B2.out⟩
    · have e2 : (l == l') = false := by simpa using h2
      have HR := Lib.hid (show sameP s l s' l' ds ds' = false by simp [sameP, h2])
      clear h1 h2
      go_wp2
      go_ret
      exact ⟨by rw [HR.out]; rfl, BA.out⟩
  · have e1 : (s == s') = false := by simpa using h1
    have HR := Lib.hid (show sameP s l s' l' ds ds' = false by simp [sameP, h1])
    clear h1
    go_wp2
    go_ret
    exact ⟨by rw [HR.out]; rfl, BA.out⟩


set_option maxRecDepth 100000 in
set_option maxHeartbeats 4000000 in
theorem list_v (s l s' l' : Int) (A A' : Option Addr) (n c n' c' B : Nat) (ds ds' : List Dg) (w : World) (hd : DReads w B A n ds) (he : DReads w B A' n' ds') (hB : B ≤ w.heap.size) (hn : n ≤ 9007199254740992) :
    Calls Tryd.prog 13 #[.agg #[.int .i64 s, .int .i64 l, .slice A n c], .agg #[.int .i64 s', .int .i64 l', .slice A' n' c']] w fun e w' => e = .returned (.bool (sameP s l s' l' ds ds')) ∧ Below w.heap.size w w' := by
  have BA := Lib.hid (((Below.refl w.heap.size w).alloc (Nat.le_refl _) (.cells #[.int .i64 s, .int .i64 l, .slice A n c] 25)).alloc (by simp) (.cells #[.int .i64 s', .int .i64 l', .slice A' n' c'] 25))
  have Y := Lib.hid (heap_alloc2_new w (.cells #[.int .i64 s, .int .i64 l, .slice A n c] 25) (.cells #[.int .i64 s', .int .i64 l', .slice A' n' c'] 25))
  have X := Lib.hid (heap_alloc2_old w (.cells #[.int .i64 s, .int .i64 l, .slice A n c] 25) (.cells #[.int .i64 s', .int .i64 l', .slice A' n' c'] 25))
  have hz : ((w.alloc (.cells #[.int .i64 s, .int .i64 l, .slice A n c] 25)).alloc (.cells #[.int .i64 s', .int .i64 l', .slice A' n' c'] 25)).heap.size = w.heap.size + 2 := by simp
  go_enter Tryd.func13, Tryd.ntmps13
  go_upto_region 1 with fail
  generalize (w.alloc (.cells #[.int .i64 s, .int .i64 l, .slice A n c] 25)).alloc (.cells #[.int .i64 s', .int .i64 l', .slice A' n' c'] 25) = w1 at *
  have EV := Lib.hid (digests_v A A' n c n' c' B ds ds' w1 (hd.below (BA.out.mono hB)) (he.below (BA.out.mono hB)) (by omega) hn)
  have c0 : w1.cell? ⟨w.heap.size, 0, none⟩ = some (.int .i64 s) := by rw [cell_of_row _ _ 0 _ _ _ X.out]; rfl
  have c1 : w1.cell? ⟨w.heap.size, 1, none⟩ = some (.int .i64 l) := by rw [cell_of_row _ _ 1 _ _ _ X.out]; rfl
  have c2 : w1.cell? ⟨w.heap.size, 2, none⟩ = some (.slice A n c) := by rw [cell_of_row _ _ 2 _ _ _ X.out]; rfl
  have c3 : w1.cell? ⟨w.heap.size + 1, 0, none⟩ = some (.int .i64 s') := by rw [cell_of_row _ _ 0 _ _ _ Y.out]; rfl
  have c4 : w1.cell? ⟨w.heap.size + 1, 1, none⟩ = some (.int .i64 l') := by rw [cell_of_row _ _ 1 _ _ _ Y.out]; rfl
  have c5 : w1.cell? ⟨w.heap.size + 1, 2, none⟩ = some (.slice A' n' c') := by rw [cell_of_row _ _ 2 _ _ _ Y.out]; rfl
  clear hd he X Y
  by_cases h1 : s = s'
  · have e1 : (s == s') = true := by simpa using h1
    by_cases h2 : l = l'
    · have e2 : (l == l') = true := by simpa using h2
      have HR := Lib.hid (show sameP s l s' l' ds ds' = decide (ds = ds') by simp [sameP, h1, h2])
      clear h1 h2
      generalize decide (ds = ds') = r at *
      go_wp2_with fail
      refine EV.out.mono ?_
      rintro e w2 ⟨rfl, b2⟩
      have B2 := Lib.hid (BA.out.trans (b2.mono (by omega)))
      clear b2
      go_wp2
      go_ret
      exact ⟨by rw [HR.out]; rfl, B2.out⟩
    · have e2 : (l == l') = false := by simpa using h2
      have HR := Lib.hid (show sameP s l s' l' ds ds' = false by simp [sameP, h2])
      clear h1 h2
      go_wp2
      go_ret
      exact ⟨by rw [HR.out]; rfl, BA.out⟩
  · have e1 : (s == s') = false := by simpa using h1
    have HR := Lib.hid (show sameP s l s' l' ds ds' = false by simp [sameP, h1])
    clear h1
    go_wp2
    go_ret
    exact ⟨by rw [HR.out]; rfl, BA.out⟩

end Go.Proofs.YtndekohimfjdeaaDoor

namespace Go.Proofs.YtndekohimfjdeaaDoor
open Go.RowKit Go.Shelf
end Go.Proofs.YtndekohimfjdeaaDoor

namespace Go.Proofs.YtndekohimfjdeaaDoor
open Go.RowKit Go.Shelf
/-- A record. -/
structure Rcd where
  path : Bl
  v : List (Int × Nat)
  dev : Int
  gone : Bool
  size : Int
  len : Int
  ds : List Dg
/-- Is a list the zero list? -/
def emptyR (r : Rcd) : Bool := decide (r.size = 0) && decide (r.len = 0) && decide (r.ds.length = 0)
/-- What Check of a record answers. -/
def okR (r : Rcd) : Nat :=
  if checkL r.path ≠ 0 then checkL r.path
  else if okV 0 r.v = false then 2
  else if chk r.size r.len r.ds.length = 3 then 3
  else if val r.v r.dev = 0 ∨ (r.gone = true ∧ emptyR r = false) ∨ (r.gone = false ∧ chk r.size r.len r.ds.length ≠ 0) then 2 else 0
end Go.Proofs.YtndekohimfjdeaaDoor

namespace Go.Proofs.YtndekohimfjdeaaDoor
open Go.RowKit Go.Shelf
set_option maxHeartbeats 4000000 in
theorem empty_v (s l : Int) (D : Option Addr) (m d : Nat) (w : World) (hm : m ≤ 9007199254740992) :
    Calls Tryd.prog 52 #[.agg #[.int .i64 s, .int .i64 l, .slice D m d]] w fun e w' => e = .returned (.bool (decide (s = 0) && decide (l = 0) && decide (m = 0))) ∧ Below w.heap.size w w' := by
  have BA := Lib.hid ((Below.refl w.heap.size w).alloc (Nat.le_refl _) (.cells #[.int .i64 s, .int .i64 l, .slice D m d] 25))
  by_cases h1 : s = 0
  · subst h1
    by_cases h2 : l = 0
    · subst h2
      by_cases h3 : m = 0
      · have d3 : ((m : Int) == 0) = true := by simp [h3]
        have HR := Lib.hid (show decide (m = 0) = true by simpa using h3)
        clear h3
        go_enter Tryd.func52, Tryd.ntmps52
        go_wp2_with fail
        go_ret
        exact ⟨by rw [HR.out]; first | rfl | simp [d3], BA.out⟩
      · have d3 : ((m : Int) == 0) = false := by simp [h3]
        have HR := Lib.hid (show decide (m = 0) = false by simpa using h3)
        clear h3
        go_enter Tryd.func52, Tryd.ntmps52
        go_wp2_with fail
        go_ret
        exact ⟨by rw [HR.out]; first | rfl | simp [d3], BA.out⟩
    · have d2 : (l == 0) = false := by simpa using h2
      have HR := Lib.hid (show decide (l = 0) = false by simpa using h2)
      clear h2
      go_enter Tryd.func52, Tryd.ntmps52
      go_wp2_with fail
      go_ret
      exact ⟨by rw [HR.out]; first | rfl | simp [d3], BA.out⟩
  · have d1 : (s == 0) = false := by simpa using h1
    have HR := Lib.hid (show decide (s = 0) = false by simpa using h1)
    clear h1
    go_enter Tryd.func52, Tryd.ntmps52
    go_wp2_with fail
    go_ret
    exact ⟨by rw [HR.out]; first | rfl | simp [d3], BA.out⟩
set_option maxHeartbeats 4000000 in
theorem bare_v (s l : Int) (D : Option Addr) (m d : Nat) (w : World) (hm : m ≤ 9007199254740992) :
    Calls Tryd.prog 32 #[.agg #[.int .i64 s, .int .i64 l, .slice D m d]] w fun e w' => e = .returned (.bool (decide (s = 0) && decide (l = 0) && decide (m = 0))) ∧ Below w.heap.size w w' := by
  have BA := Lib.hid ((Below.refl w.heap.size w).alloc (Nat.le_refl _) (.cells #[.int .i64 s, .int .i64 l, .slice D m d] 25))
  by_cases h1 : s = 0
  · subst h1
    by_cases h2 : l = 0
    · subst h2
      by_cases h3 : m = 0
      · have d3 : ((m : Int) == 0) = true := by simp [h3]
        have HR := Lib.hid (show decide (m = 0) = true by simpa using h3)
        clear h3
        go_enter Tryd.func32, Tryd.ntmps32
        go_wp2_with fail
        go_ret
        exact ⟨by rw [HR.out]; first | rfl | simp [d3], BA.out⟩
      · have d3 : ((m : Int) == 0) = false := by simp [h3]
        have HR := Lib.hid (show decide (m = 0) = false by simpa using h3)
        clear h3
        go_enter Tryd.func32, Tryd.ntmps32
        go_wp2_with fail
        go_ret
        exact ⟨by rw [HR.out]; first | rfl | simp [d3], BA.out⟩
    · have d2 : (l == 0) = false := by simpa using h2
      have HR := Lib.hid (show decide (l = 0) = false by simpa using h2)
      clear h2
      go_enter Tryd.func32, Tryd.ntmps32
      go_wp2_with fail
      go_ret
      exact ⟨by rw [HR.out]; first | rfl | simp [d3], BA.out⟩
  · have d1 : (s == 0) = false := by simpa using h1
    have HR := Lib.hid (show decide (s = 0) = false by simpa using h1)
    clear h1
    go_enter Tryd.func32, Tryd.ntmps32
    go_wp2_with fail
    go_ret
    exact ⟨by rw [HR.out]; first | rfl | simp [d3], BA.out⟩
end Go.Proofs.YtndekohimfjdeaaDoor

namespace Go.Proofs.YtndekohimfjdeaaDoor
open Go.RowKit Go.Shelf
/-- Where a record's slices lie. -/
structure RSh where
  A : Option Addr
  n : Nat
  c : Nat
  D : Option Addr
  m : Nat
  k : Nat
/-- The value of a record. -/
@[reducible] def rvl (r : Rcd) (a : RSh) : Value := .agg #[.string (st r.path), .slice a.A a.n a.c, .int .i64 r.dev, .bool r.gone, .int .i64 r.size, .int .i64 r.len, .slice a.D a.m a.k]
/-- A record's slices read as its lists. -/
structure RReads (w : World) (B : Nat) (r : Rcd) (a : RSh) : Prop where
  cs : CReads w B a.A a.n r.v
  dg : DReads w B a.D a.m r.ds
  hn : a.n ≤ 1000000
  hm : a.m ≤ 1000000
  ft : fitV r.v
theorem RReads.below {w w' : World} {B : Nat} {r : Rcd} {a : RSh} (h : RReads w B r a) (hb : Below B w w') : RReads w' B r a := ⟨Reads.below h.cs hb, h.dg.below hb, h.hn, h.hm, h.ft⟩
theorem RReads.more {w : World} {B B' : Nat} {r : Rcd} {a : RSh} (h : RReads w B r a) (hb : B ≤ B') : RReads w B' r a := ⟨Reads.more h.cs hb, Reads.more h.dg hb, h.hn, h.hm, h.ft⟩
theorem rcells_at {W : World} {g o : Nat} {vs : Array Value} {t : TypeId} {fr : Nat × Nat} {us : List Value} (h : W.heap[g]? = some (.cells vs t fr)) (hu : ∀ j v, us[j]? = some v → vs[o + j]? = some v) :
    ∀ j v, us[j]? = some v → W.cell? ((⟨g, o, none⟩ : Addr).add j) = some v := by
  intro j v hv
  have e : (⟨g, o, none⟩ : Addr).add j = ⟨g, o + j, none⟩ := by unfold Addr.add; by_cases hj : j = 0 <;> simp [hj]
  rw [e, cell_of_row _ _ (o + j) _ _ _ h]
  exact hu j v hv
theorem three_at {x y z : Value} {vs : Array Value} {o : Nat} (h0 : vs[o]? = some x) (h1 : vs[o + 1]? = some y) (h2 : vs[o + 2]? = some z) : ∀ j v, [x, y, z][j]? = some v → vs[o + j]? = some v
  | 0, v, h => by rw [← h]; exact h0
  | 1, v, h => by rw [← h]; exact h1
  | 2, v, h => by rw [← h]; exact h2
  | j + 3, v, h => by simp at h
set_option maxRecDepth 100000 in
set_option maxHeartbeats 8000000 in
theorem recCheck_v (r : Rcd) (a : RSh) (B : Nat) (w : World) (he : EnvM w) (hr : RReads w B r a) (hB : B ≤ w.heap.size) :
    Calls Tryd.prog 33 #[.agg #[.string (st r.path), .slice a.A a.n a.c, .int .i64 r.dev, .bool r.gone, .int .i64 r.size, .int .i64 r.len, .slice a.D a.m a.k]] w fun e w' => e = .returned (.int .i64 (okR r : Int)) ∧ Below w.heap.size w w' := by
  obtain ⟨p, v, dv, g, s, l, ds⟩ := r
  obtain ⟨A, n, c, D, m, k⟩ := a
  dsimp only
  have HI := Lib.hid (show (Tryd.prog.info? 25).map (·.size) = some 3 by kernel_rfl)
  have HR := Lib.hid hr
  have HE := Lib.hid he
  have hn := hr.hn
  have hm := hr.hm
  have hml : ds.length = m := hr.dg.len
  dsimp only at hn hm
  clear hr he
  have BA := Lib.hid ((Below.refl w.heap.size w).alloc (Nat.le_refl _) (.cells #[.string (st p), .slice A n c, .int .i64 dv, .bool g, .int .i64 s, .int .i64 l, .slice D m k] 27))
  have X1 := Lib.hid (heap_alloc_new w (.cells #[.string (st p), .slice A n c, .int .i64 dv, .bool g, .int .i64 s, .int .i64 l, .slice D m k] 27))
  have hz : (w.alloc (.cells #[.string (st p), .slice A n c, .int .i64 dv, .bool g, .int .i64 s, .int .i64 l, .slice D m k] 27)).heap.size = w.heap.size + 1 := by simp
  have HOK := Lib.hid (show okR ⟨p, v, dv, g, s, l, ds⟩ = if checkL p ≠ 0 then checkL p else if okV 0 v = false then 2 else if chk s l m = 3 then 3 else if val v dv = 0 ∨ (g = true ∧ (decide (s = 0) && decide (l = 0) && decide (m = 0)) = false) ∨ (g = false ∧ chk s l m ≠ 0) then 2 else 0 by
    rw [← hml]; rfl)
  go_enter Tryd.func33, Tryd.ntmps33
  go_wp2_with fail
  generalize w.alloc (.cells #[.string (st p), .slice A n c, .int .i64 dv, .bool g, .int .i64 s, .int .i64 l, .slice D m k] 27) = w1 at *
  refine (pcheckM_v p w1 (HE.out.below BA.out)).mono ?_
  rintro e w2 ⟨rfl, b2⟩
  have X2 := Lib.hid ((b2.block w.heap.size (by omega)).trans X1.out)
  have B2 := Lib.hid (BA.out.trans (b2.mono (by omega)))
  have hz2 : w.heap.size + 1 ≤ w2.heap.size := by have := b2.size; omega
  clear X1 BA b2
  by_cases h1 : checkL p = 0
  case neg =>
    have d1 : ((checkL p : Int) != 0) = true := by rw [bne_iff_ne]; omega
    have HQ := Lib.hid (show okR ⟨p, v, dv, g, s, l, ds⟩ = checkL p by rw [HOK.out, if_pos h1])
    clear h1
    generalize checkL p = q at *
    go_wp2
    go_ret
    exact ⟨by rw [HQ.out]; rfl, B2.out⟩
  have HQ1 := Lib.hid (HOK.out.trans (if_neg (by omega)))
  clear HOK
  rw [h1]
  clear h1
  have c1 : w2.cell? ⟨w.heap.size, 1, none⟩ = some (.slice A n c) := by rw [cell_of_row _ _ 1 _ _ _ X2.out]; rfl
  go_wp2_with fail
  refine (check_v B A n c v w2 (Reads.below HR.out.cs (B2.out.mono hB)) (by omega) (by omega)).mono ?_
  rintro e w3 ⟨rfl, b3⟩
  have X3 := Lib.hid ((b3.block w.heap.size (by omega)).trans X2.out)
  have B3 := Lib.hid (B2.out.trans (b3.mono (by omega)))
  have hz3 : w.heap.size + 1 ≤ w3.heap.size := by have := b3.size; omega
  clear X2 B2 b3 c1
  cases h2 : okV 0 v
  · have HQ := Lib.hid (HQ1.out.trans (if_pos h2))
    clear h2
    go_wp2
    go_ret
    exact ⟨by rw [HQ.out]; rfl, B3.out⟩
  have HQ2 := Lib.hid (HQ1.out.trans (if_neg (by rw [h2]; decide)))
  clear HQ1 h2
  go_wp2_with (first
    | (refine wpList_load_slot rfl 25 (.tmp 18) rfl ⟨w.heap.size, 4, none⟩ rfl [.int .i64 s, .int .i64 l, .slice D m k] _ (rcells_at X3.out (three_at rfl rfl rfl)) Tryd.underlying25 rfl HI.out ?_)
    | fail)
  refine (bcheck_v s l D m k w3 (by omega)).mono ?_
  rintro e w4 ⟨rfl, b4⟩
  have X4 := Lib.hid ((b4.block w.heap.size (by omega)).trans X3.out)
  have B4 := Lib.hid (B3.out.trans (b4.mono (by omega)))
  have hz4 : w.heap.size + 1 ≤ w4.heap.size := by have := b4.size; omega
  clear X3 B3 b4
  by_cases h3 : chk s l m = 3
  · have HQ := Lib.hid (HQ2.out.trans (if_pos h3))
    rw [h3]
    clear h3
    go_wp2
    go_ret
    exact ⟨by rw [HQ.out]; rfl, B4.out⟩
  have HQ3 := Lib.hid (HQ2.out.trans (if_neg h3))
  have d3 : ((chk s l m : Int) == 3) = false := by rw [beq_eq_false_iff_ne]; omega
  clear HQ2 h3
  have CK := Lib.hid (show ∀ W : World, Calls Tryd.prog 50 #[.agg #[.int .i64 s, .int .i64 l, .slice D m k]] W fun e w' => e = .returned (.int .i64 (chk s l m : Int)) ∧ Below W.heap.size W w' from fun W => bcheck_v s l D m k W (by omega))
  generalize chk s l m = q at *
  have c1 : w4.cell? ⟨w.heap.size, 1, none⟩ = some (.slice A n c) := by rw [cell_of_row _ _ 1 _ _ _ X4.out]; rfl
  have c2 : w4.cell? ⟨w.heap.size, 2, none⟩ = some (.int .i64 dv) := by rw [cell_of_row _ _ 2 _ _ _ X4.out]; rfl
  go_wp2_with fail
  refine (val_v B A n c v dv w4 (Reads.below HR.out.cs (B4.out.mono hB)) (by omega) (by omega)).mono ?_
  rintro e w5 ⟨rfl, b5⟩
  have X5 := Lib.hid ((b5.block w.heap.size (by omega)).trans X4.out)
  have B5 := Lib.hid (B4.out.trans (b5.mono (by omega)))
  have hz5 : w.heap.size + 1 ≤ w5.heap.size := by have := b5.size; omega
  clear X4 B4 b5 c1 c2
  by_cases h4 : val v dv = 0
  · have HQ := Lib.hid (HQ3.out.trans (if_pos (.inl h4)))
    have d4 : ((val v dv : Int) == 0) = true := by rw [beq_iff_eq]; omega
    clear h4
    generalize val v dv = x at *
    go_wp2
    go_ret
    exact ⟨by rw [HQ.out]; rfl, B5.out⟩
  have d4 : ((val v dv : Int) == 0) = false := by rw [beq_eq_false_iff_ne]; omega
  have c3 : w5.cell? ⟨w.heap.size, 3, none⟩ = some (.bool g) := by rw [cell_of_row _ _ 3 _ _ _ X5.out]; rfl
  cases g
  · by_cases h5 : q = 0
    · have HQ := Lib.hid (HQ3.out.trans (if_neg (by simp [h4, h5])))
      have d5 : ((q : Int) != 0) = false := by rw [bne_eq_false_iff_eq]; omega
      clear h4 h5 HQ3
      generalize val v dv = x at *
      go_wp2_with (first
        | (refine wpList_load_slot rfl 25 (.tmp 43) rfl ⟨w.heap.size, 4, none⟩ rfl [.int .i64 s, .int .i64 l, .slice D m k] _ (rcells_at X5.out (three_at rfl rfl rfl)) Tryd.underlying25 rfl HI.out ?_)
        | fail)
      refine (CK.out w5).mono ?_
      rintro e w6 ⟨rfl, b6⟩
      have B6 := Lib.hid (B5.out.trans (b6.mono (by omega)))
      clear b6
      go_wp2
      go_ret
      exact ⟨by rw [HQ.out]; rfl, B6.out⟩
    · have HQ := Lib.hid (HQ3.out.trans (if_pos (.inr (.inr ⟨rfl, h5⟩))))
      have d5 : ((q : Int) != 0) = true := by rw [bne_iff_ne]; omega
      clear h4 h5 HQ3
      generalize val v dv = x at *
      go_wp2_with (first
        | (refine wpList_load_slot rfl 25 (.tmp 43) rfl ⟨w.heap.size, 4, none⟩ rfl [.int .i64 s, .int .i64 l, .slice D m k] _ (rcells_at X5.out (three_at rfl rfl rfl)) Tryd.underlying25 rfl HI.out ?_)
        | fail)
      refine (CK.out w5).mono ?_
      rintro e w6 ⟨rfl, b6⟩
      have B6 := Lib.hid (B5.out.trans (b6.mono (by omega)))
      clear b6
      go_wp2
      go_ret
      exact ⟨by rw [HQ.out]; rfl, B6.out⟩
  · have HEM := Lib.hid (empty_v s l D m k)
    obtain ⟨em, hem⟩ : ∃ em, (decide (s = 0) && decide (l = 0) && decide (m = 0)) = em := ⟨_, rfl⟩
    rw [hem] at HEM HQ3
    clear hem
    cases em
    · have HQ := Lib.hid (HQ3.out.trans (if_pos (.inr (.inl ⟨rfl, rfl⟩))))
      clear h4 HQ3
      generalize val v dv = x at *
      go_wp2_with (first
        | (refine wpList_load_slot rfl 25 (.tmp 34) rfl ⟨w.heap.size, 4, none⟩ rfl [.int .i64 s, .int .i64 l, .slice D m k] _ (rcells_at X5.out (three_at rfl rfl rfl)) Tryd.underlying25 rfl HI.out ?_)
        | fail)
      refine (HEM.out w5 (by omega)).mono ?_
      rintro e w6 ⟨rfl, b6⟩
      have B6 := Lib.hid (B5.out.trans (b6.mono (by omega)))
      clear b6
      go_wp2
      go_ret
      exact ⟨by rw [HQ.out]; rfl, B6.out⟩
    · have HQ := Lib.hid (HQ3.out.trans (if_neg (by simp [h4])))
      clear h4 HQ3
      generalize val v dv = x at *
      go_wp2_with (first
        | (refine wpList_load_slot rfl 25 (.tmp 34) rfl ⟨w.heap.size, 4, none⟩ rfl [.int .i64 s, .int .i64 l, .slice D m k] _ (rcells_at X5.out (three_at rfl rfl rfl)) Tryd.underlying25 rfl HI.out ?_)
        | fail)
      refine (HEM.out w5 (by omega)).mono ?_
      rintro e w6 ⟨rfl, b6⟩
      have c3' : w6.cell? ⟨w.heap.size, 3, none⟩ = some (.bool true) := by rw [cell_of_row _ _ 3 _ _ _ ((b6.block w.heap.size (by omega)).trans X5.out)]; rfl
      have B6 := Lib.hid (B5.out.trans (b6.mono (by omega)))
      clear b6 c3
      go_wp2
      go_ret
      exact ⟨by rw [HQ.out]; rfl, B6.out⟩
end Go.Proofs.YtndekohimfjdeaaDoor

namespace Go.Proofs.YtndekohimfjdeaaDoor
open Go.RowKit Go.Shelf
theorem add_hd (g j : Nat) : (⟨g, 0, none⟩ : Addr).add j = ⟨g, j, none⟩ := by unfold Addr.add; by_cases hj : j = 0 <;> simp [hj]
/-- A record's cells. -/
def rcC (x : Rcd × RSh) : List Value := [.string (st x.1.path), .slice x.2.A x.2.n x.2.c, .int .i64 x.1.dev, .bool x.1.gone, .int .i64 x.1.size, .int .i64 x.1.len, .slice x.2.D x.2.m x.2.k]
theorem rcC_len (x : Rcd × RSh) : (rcC x).length = 7 := rfl
theorem rcC_arr (x : Rcd × RSh) : (rcC x).toArray = #[.string (st x.1.path), .slice x.2.A x.2.n x.2.c, .int .i64 x.1.dev, .bool x.1.gone, .int .i64 x.1.size, .int .i64 x.1.len, .slice x.2.D x.2.m x.2.k] := rfl
/-- A slice of records reads as these. -/
structure RRows (w : World) (B : Nat) (A : Option Addr) (n : Nat) (l : List (Rcd × RSh)) : Prop where
  rd : Reads w B 7 A n (l.flatMap rcC)
  al : ∀ x ∈ l, RReads w B x.1 x.2
section
variable {w w' : World} {B n : Nat} {A : Option Addr} {l : List (Rcd × RSh)}
theorem RRows.len (h : RRows w B A n l) : l.length = n := by
  have h1 := h.rd.1
  rw [flat_len rcC_len] at h1
  omega
theorem RRows.below (h : RRows w B A n l) (hb : Below B w w') : RRows w' B A n l := ⟨Reads.below h.rd hb, fun x hx => (h.al x hx).below hb⟩
theorem RRows.more {B' : Nat} (h : RRows w B A n l) (hb : B ≤ B') : RRows w B' A n l := ⟨Reads.more h.rd hb, fun x hx => (h.al x hx).more hb⟩
theorem RRows.at_ {k : Nat} (h : RRows w B A n l) (hk : k < n) :
    ∃ ad x, A = some ad ∧ l[k]? = some x ∧ RReads w B x.1 x.2 ∧ ∀ W, Below B w W → ∀ j u, (rcC x)[j]? = some u → W.cell? ((ad.add (k * 7)).add j) = some u := by
  have hl : k < l.length := by rw [h.len]; exact hk
  obtain ⟨ad, e, hb, hc⟩ := h.rd.2 (by omega)
  refine ⟨ad, l[k], e, List.getElem?_eq_getElem hl, h.al _ (List.getElem_mem hl), fun W hW j u hu => ?_⟩
  have hj : j < 7 := by
    have := (List.getElem?_eq_some_iff.1 hu).1
    rwa [rcC_len] at this
  rw [add_of_add]
  refine (hW.cell (p := ad.add (k * 7 + j)) (by rw [block_of_add]; exact hb)).trans (hc _ u ?_)
  rw [flat_at rcC_len l (List.getElem?_eq_getElem hl) hj]
  exact hu
end
set_option maxRecDepth 100000 in
set_option maxHeartbeats 8000000 in
theorem total_v (r q : Rcd) (a b : RSh) (B : Nat) (w : World) (hr : RReads w B r a) (hq : RReads w B q b) (hB : B ≤ w.heap.size) :
    Calls Tryd.prog 54 #[.agg #[.string (st r.path), .slice a.A a.n a.c, .int .i64 r.dev, .bool r.gone, .int .i64 r.size, .int .i64 r.len, .slice a.D a.m a.k], .agg #[.string (st q.path), .slice b.A b.n b.c, .int .i64 q.dev, .bool q.gone, .int .i64 q.size, .int .i64 q.len, .slice b.D b.m b.k]] w fun e w' => e = .returned (.int .i64 (ordV r.v q.v)) ∧ Below w.heap.size w w' := by
  have BA := Lib.hid (((Below.refl w.heap.size w).alloc (Nat.le_refl _) (.cells #[.string (st r.path), .slice a.A a.n a.c, .int .i64 r.dev, .bool r.gone, .int .i64 r.size, .int .i64 r.len, .slice a.D a.m a.k] 61)).alloc (by simp) (.cells #[.string (st q.path), .slice b.A b.n b.c, .int .i64 q.dev, .bool q.gone, .int .i64 q.size, .int .i64 q.len, .slice b.D b.m b.k] 61))
  have Y := Lib.hid (heap_alloc2_new w (.cells #[.string (st r.path), .slice a.A a.n a.c, .int .i64 r.dev, .bool r.gone, .int .i64 r.size, .int .i64 r.len, .slice a.D a.m a.k] 61) (.cells #[.string (st q.path), .slice b.A b.n b.c, .int .i64 q.dev, .bool q.gone, .int .i64 q.size, .int .i64 q.len, .slice b.D b.m b.k] 61))
  have X := Lib.hid (heap_alloc2_old w (.cells #[.string (st r.path), .slice a.A a.n a.c, .int .i64 r.dev, .bool r.gone, .int .i64 r.size, .int .i64 r.len, .slice a.D a.m a.k] 61) (.cells #[.string (st q.path), .slice b.A b.n b.c, .int .i64 q.dev, .bool q.gone, .int .i64 q.size, .int .i64 q.len, .slice b.D b.m b.k] 61))
  have hn := hr.hn
  have hm := hq.hn
  have HR := Lib.hid hr
  have HQ := Lib.hid hq
  clear hr hq
  have c1 := cell_of_row _ _ 1 _ _ _ X.out
  have c2 := cell_of_row _ _ 1 _ _ _ Y.out
  go_enter Tryd.func54, Tryd.ntmps54
  go_wp2_with fail
  have hz := BA.out.size
  refine (order_v B a.A b.A a.n a.c b.n b.c r.v q.v _ (Reads.below HR.out.cs (BA.out.mono hB)) (Reads.below HQ.out.cs (BA.out.mono hB)) (by omega) (by omega) (by omega) HR.out.ft HQ.out.ft).mono ?_
  rintro e w1 ⟨rfl, b1⟩
  have B1 := Lib.hid (BA.out.trans (b1.mono hz))
  clear b1
  go_wp2
  go_ret
  exact ⟨rfl, B1.out⟩
set_option maxRecDepth 100000 in
set_option maxHeartbeats 8000000 in
theorem beats_v (r q : Rcd) (a b : RSh) (B : Nat) (w : World) (hr : RReads w B r a) (hq : RReads w B q b) (hB : B ≤ w.heap.size) :
    Calls Tryd.prog 35 #[.agg #[.string (st r.path), .slice a.A a.n a.c, .int .i64 r.dev, .bool r.gone, .int .i64 r.size, .int .i64 r.len, .slice a.D a.m a.k], .agg #[.string (st q.path), .slice b.A b.n b.c, .int .i64 q.dev, .bool q.gone, .int .i64 q.size, .int .i64 q.len, .slice b.D b.m b.k]] w fun e w' => e = .returned (.bool (decide (0 < ordV r.v q.v))) ∧ Below w.heap.size w w' := by
  have HI := Lib.hid (show (Tryd.prog.info? 61).map (·.size) = some 7 by kernel_rfl)
  have BA := Lib.hid (((Below.refl w.heap.size w).alloc (Nat.le_refl _) (.cells #[.string (st r.path), .slice a.A a.n a.c, .int .i64 r.dev, .bool r.gone, .int .i64 r.size, .int .i64 r.len, .slice a.D a.m a.k] 61)).alloc (by simp) (.cells #[.string (st q.path), .slice b.A b.n b.c, .int .i64 q.dev, .bool q.gone, .int .i64 q.size, .int .i64 q.len, .slice b.D b.m b.k] 61))
  have Y := Lib.hid (heap_alloc2_new w (.cells #[.string (st r.path), .slice a.A a.n a.c, .int .i64 r.dev, .bool r.gone, .int .i64 r.size, .int .i64 r.len, .slice a.D a.m a.k] 61) (.cells #[.string (st q.path), .slice b.A b.n b.c, .int .i64 q.dev, .bool q.gone, .int .i64 q.size, .int .i64 q.len, .slice b.D b.m b.k] 61))
  have X := Lib.hid (heap_alloc2_old w (.cells #[.string (st r.path), .slice a.A a.n a.c, .int .i64 r.dev, .bool r.gone, .int .i64 r.size, .int .i64 r.len, .slice a.D a.m a.k] 61) (.cells #[.string (st q.path), .slice b.A b.n b.c, .int .i64 q.dev, .bool q.gone, .int .i64 q.size, .int .i64 q.len, .slice b.D b.m b.k] 61))
  have HR := Lib.hid hr
  have HQ := Lib.hid hq
  have hz : ((w.alloc (.cells #[.string (st r.path), .slice a.A a.n a.c, .int .i64 r.dev, .bool r.gone, .int .i64 r.size, .int .i64 r.len, .slice a.D a.m a.k] 61)).alloc (.cells #[.string (st q.path), .slice b.A b.n b.c, .int .i64 q.dev, .bool q.gone, .int .i64 q.size, .int .i64 q.len, .slice b.D b.m b.k] 61)).heap.size = w.heap.size + 2 := by simp
  clear hr hq
  go_enter Tryd.func35, Tryd.ntmps35
  go_upto_region 1 with fail
  generalize (w.alloc (.cells #[.string (st r.path), .slice a.A a.n a.c, .int .i64 r.dev, .bool r.gone, .int .i64 r.size, .int .i64 r.len, .slice a.D a.m a.k] 61)).alloc (.cells #[.string (st q.path), .slice b.A b.n b.c, .int .i64 q.dev, .bool q.gone, .int .i64 q.size, .int .i64 q.len, .slice b.D b.m b.k] 61) = w2 at *
  go_wp2
  have B3 := Lib.hid (BA.out.trans ((Below.refl w2.heap.size w2).alloc (Nat.le_refl _) (.cells #[.func (.func 54) #[] #[]] 78) |>.mono (by omega)))
  have Z3 := Lib.hid (heap_alloc_new w2 (.cells #[.func (.func 54) #[] #[]] 78))
  have X3 := Lib.hid ((Below.heap_alloc w2 (.cells #[.func (.func 54) #[] #[]] 78) w.heap.size (by omega)).trans X.out)
  have Y3 := Lib.hid ((Below.heap_alloc w2 (.cells #[.func (.func 54) #[] #[]] 78) (w.heap.size + 1) (by omega)).trans Y.out)
  have hz3 : (w2.alloc (.cells #[.func (.func 54) #[] #[]] 78)).heap.size = w.heap.size + 3 := by simp [hz]
  rw [hz] at Z3
  generalize w2.alloc (.cells #[.func (.func 54) #[] #[]] 78) = w3 at *
  clear BA X Y hz
  go_loopw [10] (fun i wr => ∃ k : Nat, k ≤ 1 ∧ i = .int .i64 (k : Int) ∧ (k = 1 → ordV r.v q.v = 0) ∧ Below w3.heap.size w3 wr) (fun i _ => 1 - (intOf i).toNat)
  case atStart => exact ⟨0, by omega, rfl, fun h => by omega, Below.refl _ _⟩
  case round =>
    obtain ⟨k, hk, rfl, ho, hb⟩ := hrel
    by_cases hlt : k < 1
    · obtain rfl : k = 0 := by omega
      clear ho hk hlt
      have XW := Lib.hid ((hb.block w.heap.size (by omega)).trans X3.out)
      have YW := Lib.hid ((hb.block (w.heap.size + 1) (by omega)).trans Y3.out)
      have c0 : wr.cell? ⟨w.heap.size + 2, 0, none⟩ = some (.func (.func 54) #[] #[]) := by rw [cell_of_row _ _ 0 _ _ _ ((hb.block (w.heap.size + 2) (by omega)).trans Z3.out)]; rfl
      go_wp2_with (first
        | (refine wpList_load_row rfl 61 (.tmp 2) rfl w.heap.size rfl 61 _ (0, 0) _ XW.out Tryd.underlying61 rfl HI.out ?_)
        | (refine wpList_load_row rfl 61 (.tmp 3) rfl (w.heap.size + 1) rfl 61 _ (0, 0) _ YW.out Tryd.underlying61 rfl HI.out ?_)
        | fail)
      have E1 := Lib.hid (B3.out.trans (hb.mono (by omega)))
      have hzr : w.heap.size + 3 ≤ wr.heap.size := by have := hb.size; omega
      refine (total_v r q a b B wr (HR.out.below (E1.out.mono hB)) (HQ.out.below (E1.out.mono hB)) (by omega)).mono ?_
      rintro e w4 ⟨rfl, b4⟩
      have E2 := Lib.hid (hb.trans (b4.mono (by omega)))
      have E3 := Lib.hid (E1.out.trans (b4.mono (by omega)))
      clear b4 hb
      by_cases h1 : ordV r.v q.v = 0
      · have d1 : (ordV r.v q.v != 0) = false := by rw [bne_eq_false_iff_eq]; exact h1
        have HO := Lib.hid h1
        clear h1
        go_wp2
        go_roundw
        case rel => exact ⟨1, by omega, by go_num, fun _ => HO.out, E2.out⟩
        case measure => simp [intOf]
      · have d1 : (ordV r.v q.v != 0) = true := by rw [bne_iff_ne]; exact h1
        clear h1
        cases d2 : decide (0 < ordV r.v q.v)
        all_goals
          have HD := Lib.hid d2
          go_wp2
          go_ret
          first
          | exact ⟨rfl, E3.out⟩
          | exact ⟨by rw [HD.out]; rfl, E3.out⟩
    · obtain rfl : k = 1 := by omega
      have h1 := ho rfl
      have HF := Lib.hid (show decide (0 < ordV r.v q.v) = false by rw [h1]; rfl)
      have E1 := Lib.hid (B3.out.trans (hb.mono (by omega)))
      clear ho hk hlt h1 hb
      go_wp2
      go_ret
      exact ⟨by rw [HF.out]; rfl, E1.out⟩
theorem flat2 (x y : Rcd × RSh) : [x, y].flatMap rcC = rcC x ++ rcC y := by simp
theorem rows2 {w : World} {B g : Nat} {x y : Rcd × RSh} {t : TypeId} {fr : Nat × Nat} (h : w.heap[g]? = some (.cells (rcC x ++ rcC y).toArray t fr)) (hg : g < B) (hx : RReads w B x.1 x.2) (hy : RReads w B y.1 y.2) :
    RRows w B (some ⟨g, 0, none⟩) 2 [x, y] := by
  refine ⟨⟨rfl, fun _ => ⟨_, rfl, hg, fun j u hu => ?_⟩⟩, fun z hz => ?_⟩
  · rw [flat2] at hu
    exact rcells_at (o := 0) h (fun j v hv => by simpa using hv) j u hu
  · rcases List.mem_cons.1 hz with rfl | hz
    · exact hx
    · rw [List.mem_singleton.1 hz]; exact hy
theorem st_ne {p q : Bl} (h : p ≠ q) : ((st p).toList == (st q).toList) = false := by
  rw [beq_eq_false_iff_ne, ByteArray.toList_eq, ByteArray.toList_eq]
  exact h
/-- Why two may not be held against each other. -/
def twoE (r q : Rcd) : Nat := if okR r ≠ 0 then okR r else if okR q ≠ 0 then okR q else if r.path = q.path then 0 else 2
set_option maxRecDepth 100000 in
set_option maxHeartbeats 8000000 in
theorem wcheck_v (r q : Rcd) (a b : RSh) (B : Nat) (w : World) (he : EnvM w) (hr : RReads w B r a) (hq : RReads w B q b) (hB : B ≤ w.heap.size) :
    Calls Tryd.prog 37 #[.agg #[.string (st r.path), .slice a.A a.n a.c, .int .i64 r.dev, .bool r.gone, .int .i64 r.size, .int .i64 r.len, .slice a.D a.m a.k], .agg #[.string (st q.path), .slice b.A b.n b.c, .int .i64 q.dev, .bool q.gone, .int .i64 q.size, .int .i64 q.len, .slice b.D b.m b.k]] w fun e w' => e = .returned (.int .i64 (twoE r q : Int)) ∧ Below w.heap.size w w' := by
  have HI := Lib.hid (show (Tryd.prog.info? 27).map (·.size) = some 7 by kernel_rfl)
  have BA := Lib.hid (((Below.refl w.heap.size w).alloc (Nat.le_refl _) (.cells #[.string (st r.path), .slice a.A a.n a.c, .int .i64 r.dev, .bool r.gone, .int .i64 r.size, .int .i64 r.len, .slice a.D a.m a.k] 27)).alloc (by simp) (.cells #[.string (st q.path), .slice b.A b.n b.c, .int .i64 q.dev, .bool q.gone, .int .i64 q.size, .int .i64 q.len, .slice b.D b.m b.k] 27))
  have Y := Lib.hid (heap_alloc2_new w (.cells #[.string (st r.path), .slice a.A a.n a.c, .int .i64 r.dev, .bool r.gone, .int .i64 r.size, .int .i64 r.len, .slice a.D a.m a.k] 27) (.cells #[.string (st q.path), .slice b.A b.n b.c, .int .i64 q.dev, .bool q.gone, .int .i64 q.size, .int .i64 q.len, .slice b.D b.m b.k] 27))
  have X := Lib.hid (heap_alloc2_old w (.cells #[.string (st r.path), .slice a.A a.n a.c, .int .i64 r.dev, .bool r.gone, .int .i64 r.size, .int .i64 r.len, .slice a.D a.m a.k] 27) (.cells #[.string (st q.path), .slice b.A b.n b.c, .int .i64 q.dev, .bool q.gone, .int .i64 q.size, .int .i64 q.len, .slice b.D b.m b.k] 27))
  have HR := Lib.hid hr
  have HQ := Lib.hid hq
  have hz : ((w.alloc (.cells #[.string (st r.path), .slice a.A a.n a.c, .int .i64 r.dev, .bool r.gone, .int .i64 r.size, .int .i64 r.len, .slice a.D a.m a.k] 27)).alloc (.cells #[.string (st q.path), .slice b.A b.n b.c, .int .i64 q.dev, .bool q.gone, .int .i64 q.size, .int .i64 q.len, .slice b.D b.m b.k] 27)).heap.size = w.heap.size + 2 := by simp
  clear hr hq
  go_enter Tryd.func37, Tryd.ntmps37
  go_upto_region 1 with fail
  generalize (w.alloc (.cells #[.string (st r.path), .slice a.A a.n a.c, .int .i64 r.dev, .bool r.gone, .int .i64 r.size, .int .i64 r.len, .slice a.D a.m a.k] 27)).alloc (.cells #[.string (st q.path), .slice b.A b.n b.c, .int .i64 q.dev, .bool q.gone, .int .i64 q.size, .int .i64 q.len, .slice b.D b.m b.k] 27) = w2 at *
  go_wp2_with (first
    | (refine wpList_load_row rfl 27 (.tmp 2) rfl w.heap.size rfl 27 _ (0, 0) _ X.out Tryd.underlying27 rfl HI.out ?_)
    | (refine wpList_load_row rfl 27 (.tmp 3) rfl (w.heap.size + 1) rfl 27 _ (0, 0) _ Y.out Tryd.underlying27 rfl HI.out ?_)
    | fail)
  have RW := Lib.hid (rows2 (x := (r, a)) (y := (q, b)) (heap_alloc_new w2 (.cells (rcC (r, a) ++ rcC (q, b)).toArray 27)) (Nat.lt_succ_self _) ((HR.out.below (BA.out.mono hB)).below ((Below.refl w2.heap.size w2).alloc (Nat.le_refl _) (.cells (rcC (r, a) ++ rcC (q, b)).toArray 27) |>.mono (by omega)) |>.more (by omega)) ((HQ.out.below (BA.out.mono hB)).below ((Below.refl w2.heap.size w2).alloc (Nat.le_refl _) (.cells (rcC (r, a) ++ rcC (q, b)).toArray 27) |>.mono (by omega)) |>.more (by omega)))
  have B3 := Lib.hid (BA.out.trans ((Below.refl w2.heap.size w2).alloc (Nat.le_refl _) (.cells (rcC (r, a) ++ rcC (q, b)).toArray 27) |>.mono (by omega)))
  have X3 := Lib.hid ((Below.heap_alloc w2 (.cells (rcC (r, a) ++ rcC (q, b)).toArray 27) w.heap.size (by omega)).trans X.out)
  have Y3 := Lib.hid ((Below.heap_alloc w2 (.cells (rcC (r, a) ++ rcC (q, b)).toArray 27) (w.heap.size + 1) (by omega)).trans Y.out)
  have hz3 : (w2.alloc (.cells (rcC (r, a) ++ rcC (q, b)).toArray 27)).heap.size = w.heap.size + 3 := by simp [hz]
  have hrw : (#[.string (st r.path), .slice a.A a.n a.c, .int .i64 r.dev, .bool r.gone, .int .i64 r.size, .int .i64 r.len, .slice a.D a.m a.k, .string (st q.path), .slice b.A b.n b.c, .int .i64 q.dev, .bool q.gone, .int .i64 q.size, .int .i64 q.len, .slice b.D b.m b.k] : Array Value) = (rcC (r, a) ++ rcC (q, b)).toArray := rfl
  rw [hrw]
  rw [hz] at RW
  generalize w2.alloc (.cells (rcC (r, a) ++ rcC (q, b)).toArray 27) = w3 at *
  clear BA X Y hz hrw
  go_loopw [12] (fun i wr => ∃ k : Nat, k ≤ 2 ∧ i = .int .i64 (k : Int) ∧ (1 ≤ k → okR r = 0) ∧ (2 ≤ k → okR q = 0) ∧ Below w3.heap.size w3 wr) (fun i _ => 2 - (intOf i).toNat)
  case atStart => exact ⟨0, by omega, rfl, fun h => by omega, fun h => by omega, Below.refl _ _⟩
  case round =>
    obtain ⟨k, hk, rfl, h1, h2, hb⟩ := hrel
    have H1 := Lib.hid h1
    have H2 := Lib.hid h2
    clear h1 h2
    have E1 := Lib.hid (B3.out.trans (hb.mono (by omega)))
    have hzr : w.heap.size + 3 ≤ wr.heap.size := by have := hb.size; omega
    by_cases hlt : k < 2
    · obtain ⟨ad, x, hA, hx, hx2, hc⟩ := RW.out.at_ hlt
      obtain rfl := Option.some.inj hA
      have HX := Lib.hid hx
      have HX2 := Lib.hid (((hx2.below (hb.mono (by omega))).below ((Below.refl wr.heap.size wr).alloc (Nat.le_refl _) (.cells #[.string (st x.1.path), .slice x.2.A x.2.n x.2.c, .int .i64 x.1.dev, .bool x.1.gone, .int .i64 x.1.size, .int .i64 x.1.len, .slice x.2.D x.2.m x.2.k] 27) |>.mono (by omega))))
      have HC := Lib.hid (show ∀ j u, (rcC x)[j]? = some u → wr.cell? ((⟨w.heap.size + 2, k * 7, none⟩ : Addr).add j) = some u by have := hc wr (hb.mono (by omega)); rwa [add_hd] at this)
      have b1 := Lib.hid (hb.alloc hb.size (.cells #[.string (st x.1.path), .slice x.2.A x.2.n x.2.c, .int .i64 x.1.dev, .bool x.1.gone, .int .i64 x.1.size, .int .i64 x.1.len, .slice x.2.D x.2.m x.2.k] 27))
      have b0 := Lib.hid (E1.out.alloc E1.out.size (.cells #[.string (st x.1.path), .slice x.2.A x.2.n x.2.c, .int .i64 x.1.dev, .bool x.1.gone, .int .i64 x.1.size, .int .i64 x.1.len, .slice x.2.D x.2.m x.2.k] 27))
      have k0 : (0 : Int) ≤ (k : Int) := by omega
      clear hx hc hA hx2 hb
      go_wp2_with (first
        | (refine wpList_load_slot rfl 27 (.tmp 14) rfl ⟨w.heap.size + 2, k * 7, none⟩ rfl [.string (st x.1.path), .slice x.2.A x.2.n x.2.c, .int .i64 x.1.dev, .bool x.1.gone, .int .i64 x.1.size, .int .i64 x.1.len, .slice x.2.D x.2.m x.2.k] _ HC.out Tryd.underlying27 rfl HI.out ?_)
        | fail)
      refine (recCheck_v x.1 x.2 _ _ (he.below b0.out) HX2.out (by simp; omega)).mono ?_
      rintro e w4 ⟨rfl, b4⟩
      have E2 := Lib.hid (b1.out.trans (b4.mono b1.out.size))
      have E3 := Lib.hid (b0.out.trans (b4.mono b0.out.size))
      clear b4 b0 b1
      by_cases h3 : okR x.1 = 0
      · have d3 : ((okR x.1 : Int) != 0) = false := by rw [bne_eq_false_iff_eq]; omega
        have H3 := Lib.hid (show (1 ≤ k + 1 → okR r = 0) ∧ (2 ≤ k + 1 → okR q = 0) by
          have hx := HX.out
          refine ⟨fun _ => ?_, fun h => ?_⟩
          · rcases Nat.eq_zero_or_pos k with h0 | h0
            · subst h0; simp at hx; rw [← hx] at h3; exact h3
            · exact H1.out h0
          · obtain rfl : k = 1 := by omega
            simp at hx; rw [← hx] at h3; exact h3)
        clear h3
        go_wp2
        go_roundw
        case rel => exact ⟨k + 1, hlt, by go_num, H3.out.1, H3.out.2, E2.out⟩
        case measure => simp [intOf]; omega
      · have d3 : ((okR x.1 : Int) != 0) = true := by rw [bne_iff_ne]; omega
        have H3 := Lib.hid (show twoE r q = okR x.1 by
          have hx := HX.out
          unfold twoE
          rcases Nat.eq_zero_or_pos k with h0 | h0
          · subst h0; simp at hx; rw [← hx] at h3 ⊢; exact if_pos h3
          · obtain rfl : k = 1 := by omega
            simp at hx; rw [← hx] at h3 ⊢; rw [if_neg (by rw [H1.out (by omega)]; exact fun h => h rfl)]; exact if_pos h3)
        clear h3
        go_wp2
        go_ret
        exact ⟨by rw [H3.out]; rfl, E3.out⟩
    · obtain rfl : k = 2 := by omega
      have X4 := (hb.block w.heap.size (by omega)).trans X3.out
      have Y4 := (hb.block (w.heap.size + 1) (by omega)).trans Y3.out
      have c1 := cell_of_row _ _ 0 _ _ _ X4
      have c2 := cell_of_row _ _ 0 _ _ _ Y4
      have HT := Lib.hid (show twoE r q = if r.path = q.path then 0 else 2 by unfold twoE; rw [if_neg (by rw [H1.out (by omega)]; exact fun h => h rfl), if_neg (by rw [H2.out (by omega)]; exact fun h => h rfl)])
      clear X4 Y4 hb
      by_cases hp : r.path = q.path
      · rw [if_pos hp] at HT
        rw [hp] at c1
        clear hp
        go_wp2
        go_ret
        exact ⟨by rw [HT.out]; rfl, E1.out⟩
      · rw [if_neg hp] at HT
        have hs := st_ne hp
        clear hp
        go_wp2
        go_ret
        exact ⟨by rw [HT.out]; rfl, E1.out⟩
/-- Which of two wins. -/
def winR (r q : Rcd) : Nat × Nat := if twoE r q ≠ 0 then (0, twoE r q) else if 0 < ordV q.v r.v then (1, 0) else (0, 0)
set_option maxRecDepth 100000 in
set_option maxHeartbeats 8000000 in
theorem winner_v (r q : Rcd) (a b : RSh) (B : Nat) (w : World) (he : EnvM w) (hr : RReads w B r a) (hq : RReads w B q b) (hB : B ≤ w.heap.size) :
    Calls Tryd.prog 11 #[.agg #[.string (st r.path), .slice a.A a.n a.c, .int .i64 r.dev, .bool r.gone, .int .i64 r.size, .int .i64 r.len, .slice a.D a.m a.k], .agg #[.string (st q.path), .slice b.A b.n b.c, .int .i64 q.dev, .bool q.gone, .int .i64 q.size, .int .i64 q.len, .slice b.D b.m b.k]] w fun e w' => e = .returned (.tuple #[.int .i64 ((winR r q).1 : Int), .int .i64 ((winR r q).2 : Int)]) ∧ Below w.heap.size w w' := by
  have HI := Lib.hid (show (Tryd.prog.info? 27).map (·.size) = some 7 by kernel_rfl)
  have BA := Lib.hid (((Below.refl w.heap.size w).alloc (Nat.le_refl _) (.cells #[.string (st r.path), .slice a.A a.n a.c, .int .i64 r.dev, .bool r.gone, .int .i64 r.size, .int .i64 r.len, .slice a.D a.m a.k] 27)).alloc (by simp) (.cells #[.string (st q.path), .slice b.A b.n b.c, .int .i64 q.dev, .bool q.gone, .int .i64 q.size, .int .i64 q.len, .slice b.D b.m b.k] 27))
  have Y := Lib.hid (heap_alloc2_new w (.cells #[.string (st r.path), .slice a.A a.n a.c, .int .i64 r.dev, .bool r.gone, .int .i64 r.size, .int .i64 r.len, .slice a.D a.m a.k] 27) (.cells #[.string (st q.path), .slice b.A b.n b.c, .int .i64 q.dev, .bool q.gone, .int .i64 q.size, .int .i64 q.len, .slice b.D b.m b.k] 27))
  have X := Lib.hid (heap_alloc2_old w (.cells #[.string (st r.path), .slice a.A a.n a.c, .int .i64 r.dev, .bool r.gone, .int .i64 r.size, .int .i64 r.len, .slice a.D a.m a.k] 27) (.cells #[.string (st q.path), .slice b.A b.n b.c, .int .i64 q.dev, .bool q.gone, .int .i64 q.size, .int .i64 q.len, .slice b.D b.m b.k] 27))
  have HR := Lib.hid hr
  have HQ := Lib.hid hq
  have HE := Lib.hid (he.below BA.out)
  have hz : ((w.alloc (.cells #[.string (st r.path), .slice a.A a.n a.c, .int .i64 r.dev, .bool r.gone, .int .i64 r.size, .int .i64 r.len, .slice a.D a.m a.k] 27)).alloc (.cells #[.string (st q.path), .slice b.A b.n b.c, .int .i64 q.dev, .bool q.gone, .int .i64 q.size, .int .i64 q.len, .slice b.D b.m b.k] 27)).heap.size = w.heap.size + 2 := by simp
  clear hr hq
  go_enter Tryd.func11, Tryd.ntmps11
  go_upto_region 1 with fail
  generalize (w.alloc (.cells #[.string (st r.path), .slice a.A a.n a.c, .int .i64 r.dev, .bool r.gone, .int .i64 r.size, .int .i64 r.len, .slice a.D a.m a.k] 27)).alloc (.cells #[.string (st q.path), .slice b.A b.n b.c, .int .i64 q.dev, .bool q.gone, .int .i64 q.size, .int .i64 q.len, .slice b.D b.m b.k] 27) = w2 at *
  go_wp2_with (first
    | (refine wpList_load_row rfl 27 (.tmp 2) rfl w.heap.size rfl 27 _ (0, 0) _ X.out Tryd.underlying27 rfl HI.out ?_)
    | (refine wpList_load_row rfl 27 (.tmp 3) rfl (w.heap.size + 1) rfl 27 _ (0, 0) _ Y.out Tryd.underlying27 rfl HI.out ?_)
    | fail)
  refine (wcheck_v r q a b B w2 HE.out (HR.out.below (BA.out.mono hB)) (HQ.out.below (BA.out.mono hB)) (by omega)).mono ?_
  rintro e w3 ⟨rfl, b3⟩
  have B3 := Lib.hid (BA.out.trans (b3.mono (by omega)))
  have X3 := Lib.hid ((b3.block w.heap.size (by omega)).trans X.out)
  have Y3 := Lib.hid ((b3.block (w.heap.size + 1) (by omega)).trans Y.out)
  have hz3 : w.heap.size + 2 ≤ w3.heap.size := by have := b3.size; omega
  clear b3 BA X Y
  by_cases h1 : twoE r q = 0
  case neg =>
    have d1 : ((twoE r q : Int) != 0) = true := by rw [bne_iff_ne]; omega
    have HW := Lib.hid (show winR r q = (0, twoE r q) from if_pos h1)
    clear h1
    go_wp2
    go_ret2
    exact ⟨by rw [HW.out]; rfl, B3.out⟩
  have HW := Lib.hid (show winR r q = if 0 < ordV q.v r.v then (1, 0) else (0, 0) from if_neg (fun h => h h1))
  rw [h1]
  clear h1
  go_wp2_with (first
    | (refine wpList_load_row rfl 27 (.tmp 2) rfl w.heap.size rfl 27 _ (0, 0) _ X3.out Tryd.underlying27 rfl HI.out ?_)
    | (refine wpList_load_row rfl 27 (.tmp 3) rfl (w.heap.size + 1) rfl 27 _ (0, 0) _ Y3.out Tryd.underlying27 rfl HI.out ?_)
    | fail)
  refine (beats_v q r b a B w3 (HQ.out.below (B3.out.mono hB)) (HR.out.below (B3.out.mono hB)) (by omega)).mono ?_
  rintro e w4 ⟨rfl, b4⟩
  have B4 := Lib.hid (B3.out.trans (b4.mono (by omega)))
  clear b4 B3 X3 Y3
  by_cases h2 : 0 < ordV q.v r.v
  · have HV := Lib.hid (HW.out.trans (if_pos h2))
    rw [decide_eq_true h2]
    clear h2 HW
    go_wp2
    go_ret2
    exact ⟨by rw [HV.out]; rfl, B4.out⟩
  · have HV := Lib.hid (HW.out.trans (if_neg h2))
    rw [decide_eq_false h2]
    clear h2 HW
    go_wp2
    go_ret2
    exact ⟨by rw [HV.out]; rfl, B4.out⟩
end Go.Proofs.YtndekohimfjdeaaDoor

namespace Go.Proofs.YtndekohimfjdeaaDoor
open Go.RowKit Go.Shelf
theorem st_nil (l : Bl) : (st l).toList.isEmpty = decide (l = []) := by
  rw [ByteArray.toList_eq]
  cases l <;> rfl
theorem if_n {α : Type} {c : Prop} [Decidable c] {x y o : α} (h : (if c then x else y) = o) (hc : ¬c) : y = o := (if_neg hc).symm.trans h
theorem if_p {α : Type} {c : Prop} [Decidable c] {x y o : α} (h : (if c then x else y) = o) (hc : c) : x = o := (if_pos hc).symm.trans h
/-- What is to be done. -/
def doR (r q : Rcd) : Nat × Nat :=
  if r.path ≠ [] ∧ okR r ≠ 0 then (0, okR r)
  else if okR q ≠ 0 then (0, okR q)
  else if r.path = [] then (2, 0)
  else if r.path ≠ q.path then (0, 2)
  else if cmpV r.v q.v = 1 ∨ cmpV r.v q.v = 3 then (1, 0)
  else if cmpV r.v q.v = 2 then (2, 0)
  else if 0 < ordV r.v q.v then (1, 0)
  else if r.gone = false ∧ (q.gone = true ∨ sameP r.size r.len q.size q.len r.ds q.ds = false) then (3, 0)
  else (2, 0)
set_option maxRecDepth 100000 in
set_option maxHeartbeats 16000000 in
theorem do_v (r q : Rcd) (a b : RSh) (B : Nat) (w : World) (he : EnvM w) (hr : RReads w B r a) (hq : RReads w B q b) (hB : B ≤ w.heap.size) :
    Calls Tryd.prog 10 #[.agg #[.string (st r.path), .slice a.A a.n a.c, .int .i64 r.dev, .bool r.gone, .int .i64 r.size, .int .i64 r.len, .slice a.D a.m a.k], .agg #[.string (st q.path), .slice b.A b.n b.c, .int .i64 q.dev, .bool q.gone, .int .i64 q.size, .int .i64 q.len, .slice b.D b.m b.k]] w fun e w' => e = .returned (.tuple #[.int .i64 ((doR r q).1 : Int), .int .i64 ((doR r q).2 : Int)]) ∧ Below w.heap.size w w' := by
  have HI := Lib.hid (show (Tryd.prog.info? 27).map (·.size) = some 7 by kernel_rfl)
  have HL := Lib.hid (show (Tryd.prog.info? 25).map (·.size) = some 3 by kernel_rfl)
  have BA := Lib.hid (((Below.refl w.heap.size w).alloc (Nat.le_refl _) (.cells #[.string (st r.path), .slice a.A a.n a.c, .int .i64 r.dev, .bool r.gone, .int .i64 r.size, .int .i64 r.len, .slice a.D a.m a.k] 27)).alloc (by simp) (.cells #[.string (st q.path), .slice b.A b.n b.c, .int .i64 q.dev, .bool q.gone, .int .i64 q.size, .int .i64 q.len, .slice b.D b.m b.k] 27))
  have Y := Lib.hid (heap_alloc2_new w (.cells #[.string (st r.path), .slice a.A a.n a.c, .int .i64 r.dev, .bool r.gone, .int .i64 r.size, .int .i64 r.len, .slice a.D a.m a.k] 27) (.cells #[.string (st q.path), .slice b.A b.n b.c, .int .i64 q.dev, .bool q.gone, .int .i64 q.size, .int .i64 q.len, .slice b.D b.m b.k] 27))
  have X := Lib.hid (heap_alloc2_old w (.cells #[.string (st r.path), .slice a.A a.n a.c, .int .i64 r.dev, .bool r.gone, .int .i64 r.size, .int .i64 r.len, .slice a.D a.m a.k] 27) (.cells #[.string (st q.path), .slice b.A b.n b.c, .int .i64 q.dev, .bool q.gone, .int .i64 q.size, .int .i64 q.len, .slice b.D b.m b.k] 27))
  have HR := Lib.hid hr
  have HQ := Lib.hid hq
  have hn := hr.hn
  have hn2 := hq.hn
  have hm := hr.hm
  have HE := Lib.hid he
  have hz : w.heap.size + 2 ≤ ((w.alloc (.cells #[.string (st r.path), .slice a.A a.n a.c, .int .i64 r.dev, .bool r.gone, .int .i64 r.size, .int .i64 r.len, .slice a.D a.m a.k] 27)).alloc (.cells #[.string (st q.path), .slice b.A b.n b.c, .int .i64 q.dev, .bool q.gone, .int .i64 q.size, .int .i64 q.len, .slice b.D b.m b.k] 27)).heap.size := by simp
  obtain ⟨o, ho⟩ : ∃ o, doR r q = o := ⟨_, rfl⟩
  rw [ho]
  unfold doR at ho
  have HW := Lib.hid ho
  clear hr hq he ho
  go_enter Tryd.func10, Tryd.ntmps10
  go_upto_region 1 with fail
  generalize (w.alloc (.cells #[.string (st r.path), .slice a.A a.n a.c, .int .i64 r.dev, .bool r.gone, .int .i64 r.size, .int .i64 r.len, .slice a.D a.m a.k] 27)).alloc (.cells #[.string (st q.path), .slice b.A b.n b.c, .int .i64 q.dev, .bool q.gone, .int .i64 q.size, .int .i64 q.len, .slice b.D b.m b.k] 27) = w2 at *
  have c1 := cell_of_row _ _ 0 _ _ _ X.out
  have dp := st_nil r.path
  by_cases hp : r.path = []
  · rw [decide_eq_true hp] at dp
    replace HW := Lib.hid (if_n HW.out (fun h => h.1 hp))
    have HP := Lib.hid hp
    clear hp
    go_wp2_with (first
      | (refine wpList_load_row rfl 27 (.tmp 2) rfl w.heap.size rfl 27 _ (0, 0) _ X.out Tryd.underlying27 rfl HI.out ?_)
      | (refine wpList_load_row rfl 27 (.tmp 3) rfl (w.heap.size + 1) rfl 27 _ (0, 0) _ Y.out Tryd.underlying27 rfl HI.out ?_)
      | fail)
    refine (recCheck_v q b B w2 (HE.out.below BA.out) (HQ.out.below (BA.out.mono hB)) (by omega)).mono ?_
    rintro e w3 ⟨rfl, b3⟩
    replace X := Lib.hid ((b3.block w.heap.size (by omega)).trans X.out)
    replace Y := Lib.hid ((b3.block (w.heap.size + 1) (by omega)).trans Y.out)
    replace BA := Lib.hid (BA.out.trans (b3.mono (by omega)))
    replace hz : w.heap.size + 2 ≤ w3.heap.size := by have := b3.size; omega
    clear b3
    by_cases h1 : okR q = 0
    · have d1 : ((okR q : Int) != 0) = false := by rw [bne_eq_false_iff_eq]; omega
      obtain rfl := if_p (if_n HW.out (fun h => h h1)) HP.out
      clear h1
      go_wp2
      go_ret2
      exact ⟨rfl, BA.out⟩
    · have d1 : ((okR q : Int) != 0) = true := by rw [bne_iff_ne]; omega
      obtain rfl := if_p HW.out h1
      clear h1
      go_wp2
      go_ret2
      exact ⟨rfl, BA.out⟩
  rw [decide_eq_false hp] at dp
  have HP := Lib.hid hp
  clear hp
  go_wp2_with (first
    | (refine wpList_load_row rfl 27 (.tmp 2) rfl w.heap.size rfl 27 _ (0, 0) _ X.out Tryd.underlying27 rfl HI.out ?_)
    | (refine wpList_load_row rfl 27 (.tmp 3) rfl (w.heap.size + 1) rfl 27 _ (0, 0) _ Y.out Tryd.underlying27 rfl HI.out ?_)
    | fail)
  refine (recCheck_v r a B w2 (HE.out.below BA.out) (HR.out.below (BA.out.mono hB)) (by omega)).mono ?_
  rintro e w3 ⟨rfl, b3⟩
  clear c1
  replace X := Lib.hid ((b3.block w.heap.size (by omega)).trans X.out)
  replace Y := Lib.hid ((b3.block (w.heap.size + 1) (by omega)).trans Y.out)
  replace BA := Lib.hid (BA.out.trans (b3.mono (by omega)))
  replace hz : w.heap.size + 2 ≤ w3.heap.size := by have := b3.size; omega
  clear b3
  by_cases h0 : okR r = 0
  case neg =>
    have d1 : ((okR r : Int) != 0) = true := by rw [bne_iff_ne]; omega
    obtain rfl := if_p HW.out (And.intro HP.out h0)
    clear h0
    go_wp2
    go_ret2
    exact ⟨rfl, BA.out⟩
  replace HW := Lib.hid (if_n HW.out (fun h => h.2 h0))
  rw [h0]
  clear h0
  go_wp2_with (first
    | (refine wpList_load_row rfl 27 (.tmp 2) rfl w.heap.size rfl 27 _ (0, 0) _ X.out Tryd.underlying27 rfl HI.out ?_)
    | (refine wpList_load_row rfl 27 (.tmp 3) rfl (w.heap.size + 1) rfl 27 _ (0, 0) _ Y.out Tryd.underlying27 rfl HI.out ?_)
    | fail)
  refine (recCheck_v q b B w3 (HE.out.below BA.out) (HQ.out.below (BA.out.mono hB)) (by omega)).mono ?_
  rintro e w4 ⟨rfl, b3⟩
  replace X := Lib.hid ((b3.block w.heap.size (by omega)).trans X.out)
  replace Y := Lib.hid ((b3.block (w.heap.size + 1) (by omega)).trans Y.out)
  replace BA := Lib.hid (BA.out.trans (b3.mono (by omega)))
  replace hz : w.heap.size + 2 ≤ w4.heap.size := by have := b3.size; omega
  clear b3
  by_cases h1 : okR q = 0
  case neg =>
    have d1 : ((okR q : Int) != 0) = true := by rw [bne_iff_ne]; omega
    obtain rfl := if_p HW.out h1
    clear h1
    go_wp2
    go_ret2
    exact ⟨rfl, BA.out⟩
  replace HW := Lib.hid (if_n (if_n HW.out (fun h => h h1)) HP.out)
  rw [h1]
  clear h1
  have c1 := cell_of_row _ _ 0 _ _ _ X.out
  have c2 := cell_of_row _ _ 0 _ _ _ Y.out
  have c3 := cell_of_row _ _ 1 _ _ _ X.out
  have c4 := cell_of_row _ _ 1 _ _ _ Y.out
  have dp2 : ((st r.path).toList == (st q.path).toList) = decide (r.path = q.path) := st_beq r.path q.path
  by_cases h2 : r.path = q.path
  case neg =>
    rw [decide_eq_false h2] at dp2
    obtain rfl := if_p HW.out h2
    clear h2
    go_wp2
    go_ret2
    exact ⟨rfl, BA.out⟩
  rw [decide_eq_true h2] at dp2
  replace HW := Lib.hid (if_n HW.out (fun h => h h2))
  clear h2
  go_wp2_with fail
  refine (compare_v B a.A b.A a.n a.c b.n b.c r.v q.v w4 (Reads.below HR.out.cs (BA.out.mono hB)) (Reads.below HQ.out.cs (BA.out.mono hB)) (by omega) (by omega) (by omega) HR.out.ft HQ.out.ft).mono ?_
  rintro e w5 ⟨rfl, b3⟩
  clear c1 c2 c3 c4
  replace X := Lib.hid ((b3.block w.heap.size (by omega)).trans X.out)
  replace Y := Lib.hid ((b3.block (w.heap.size + 1) (by omega)).trans Y.out)
  replace BA := Lib.hid (BA.out.trans (b3.mono (by omega)))
  replace hz : w.heap.size + 2 ≤ w5.heap.size := by have := b3.size; omega
  clear b3
  generalize cmpV r.v q.v = cm at *
  by_cases h3 : cm = 1
  · subst h3
    obtain rfl := if_p HW.out (Or.inl rfl)
    go_wp2
    go_ret2
    exact ⟨rfl, BA.out⟩
  have d3 : (cm == 1) = false := by rw [beq_eq_false_iff_ne]; exact h3
  by_cases h4 : cm = 3
  · subst h4
    obtain rfl := if_p HW.out (Or.inr rfl)
    go_wp2
    go_ret2
    exact ⟨rfl, BA.out⟩
  have d4 : (cm == 3) = false := by rw [beq_eq_false_iff_ne]; exact h4
  by_cases h5 : cm = 2
  · subst h5
    obtain rfl := if_p (if_n HW.out (fun h => by omega)) rfl
    go_wp2
    go_ret2
    exact ⟨rfl, BA.out⟩
  have d5 : (cm == 2) = false := by rw [beq_eq_false_iff_ne]; exact h5
  replace HW := Lib.hid (if_n (if_n HW.out (fun h => h.elim h3 h4)) h5)
  clear h3 h4 h5
  go_wp2_with (first
    | (refine wpList_load_row rfl 27 (.tmp 2) rfl w.heap.size rfl 27 _ (0, 0) _ X.out Tryd.underlying27 rfl HI.out ?_)
    | (refine wpList_load_row rfl 27 (.tmp 3) rfl (w.heap.size + 1) rfl 27 _ (0, 0) _ Y.out Tryd.underlying27 rfl HI.out ?_)
    | fail)
  refine (beats_v r q a b B w5 (HR.out.below (BA.out.mono hB)) (HQ.out.below (BA.out.mono hB)) (by omega)).mono ?_
  rintro e w6 ⟨rfl, b3⟩
  replace X := Lib.hid ((b3.block w.heap.size (by omega)).trans X.out)
  replace Y := Lib.hid ((b3.block (w.heap.size + 1) (by omega)).trans Y.out)
  replace BA := Lib.hid (BA.out.trans (b3.mono (by omega)))
  replace hz : w.heap.size + 2 ≤ w6.heap.size := by have := b3.size; omega
  clear b3
  by_cases h6 : 0 < ordV r.v q.v
  · rw [decide_eq_true h6]
    obtain rfl := if_p HW.out h6
    clear h6
    go_wp2
    go_ret2
    exact ⟨rfl, BA.out⟩
  rw [decide_eq_false h6]
  replace HW := Lib.hid (if_n HW.out h6)
  clear h6
  cases hg : r.gone
  case true =>
    obtain rfl := if_n HW.out (fun h => by simp [hg] at h)
    have c1 : w6.cell? ⟨w.heap.size, 3, none⟩ = some (.bool true) := by rw [cell_of_row _ _ 3 _ _ _ X.out, ← hg]; rfl
    clear hg
    go_wp2
    go_ret2
    exact ⟨rfl, BA.out⟩
  have c1 : w6.cell? ⟨w.heap.size, 3, none⟩ = some (.bool false) := by rw [cell_of_row _ _ 3 _ _ _ X.out, ← hg]; rfl
  cases hg2 : q.gone
  case true =>
    obtain rfl := if_p HW.out (And.intro hg (Or.inl hg2))
    have c2 : w6.cell? ⟨w.heap.size + 1, 3, none⟩ = some (.bool true) := by rw [cell_of_row _ _ 3 _ _ _ Y.out, ← hg2]; rfl
    clear hg hg2
    go_wp2
    go_ret2
    exact ⟨rfl, BA.out⟩
  have c2 : w6.cell? ⟨w.heap.size + 1, 3, none⟩ = some (.bool false) := by rw [cell_of_row _ _ 3 _ _ _ Y.out, ← hg2]; rfl
  have HG := Lib.hid hg
  have HG2 := Lib.hid hg2
  clear hg hg2
  go_wp2_with (first
    | (refine wpList_load_slot rfl 25 (.tmp 54) rfl ⟨w.heap.size, 4, none⟩ rfl [.int .i64 r.size, .int .i64 r.len, .slice a.D a.m a.k] _ (rcells_at X.out (three_at rfl rfl rfl)) Tryd.underlying25 rfl HL.out ?_)
    | (refine wpList_load_slot rfl 25 (.tmp 56) rfl ⟨w.heap.size + 1, 4, none⟩ rfl [.int .i64 q.size, .int .i64 q.len, .slice b.D b.m b.k] _ (rcells_at Y.out (three_at rfl rfl rfl)) Tryd.underlying25 rfl HL.out ?_)
    | fail)
  refine (bsame_v r.size r.len q.size q.len a.D b.D a.m a.k b.m b.k B r.ds q.ds w6 (HR.out.dg.below (BA.out.mono hB)) (HQ.out.dg.below (BA.out.mono hB)) (by omega) (by omega)).mono ?_
  rintro e w7 ⟨rfl, b3⟩
  replace X := Lib.hid ((b3.block w.heap.size (by omega)).trans X.out)
  replace Y := Lib.hid ((b3.block (w.heap.size + 1) (by omega)).trans Y.out)
  replace BA := Lib.hid (BA.out.trans (b3.mono (by omega)))
  replace hz : w.heap.size + 2 ≤ w7.heap.size := by have := b3.size; omega
  clear b3
  cases hs : sameP r.size r.len q.size q.len r.ds q.ds
  · obtain rfl := if_p HW.out (And.intro HG.out (Or.inr hs))
    clear hs
    go_wp2
    go_ret2
    exact ⟨rfl, BA.out⟩
  · obtain rfl := if_n HW.out (fun h => h.2.elim (fun e => by rw [HG2.out] at e; cases e) (fun e => by rw [hs] at e; cases e))
    clear hs
    go_wp2
    go_ret2
    exact ⟨rfl, BA.out⟩
end Go.Proofs.YtndekohimfjdeaaDoor

namespace Go.Proofs.YtndekohimfjdeaaDoor
open Go.RowKit Go.Shelf
attribute [local go_sem] Oper.semAt_some
/-- The numbers below a thousand. -/
abbrev Nm := { k : Nat // k < 1000 }
set_option maxRecDepth 100000 in
set_option maxHeartbeats 4000000 in
theorem numbers_stops (w : World) (m : Nat) : SeqStopsK Fence.wide m Tryd.prog 60 #[] (fun x : Nm => #[.int .i64 (x.1 : Int)]) (fun _ _ => True)
      (fun xs => xs.map (·.1) = List.range 1000) (fun pre => ∃ k, k < 1000 ∧ pre.map (·.1) = List.range (k + 1)) 1000 w := fun l J Jx W hW hJ hJx hY h0 => by
  refine callsIn_of_wp Tryd.func60 rfl trivial ?_ rfl
  simp only [Tryd.ntmps60, List.size_toArray, List.length_cons, List.length_nil, Nat.reduceAdd, Nat.reduceSub, Array.replicate_succ, Array.replicate_zero, List.push_toArray, List.append_toArray, List.nil_append, List.cons_append]
  gi_wp2
  gi_loopw [3] (fun i wr => ∃ (k : Nat) (pre : List Nm), k ≤ 1000 ∧ i = .int .i64 (k : Int) ∧ pre.map (·.1) = List.range k ∧ J pre wr) (fun i _ => 1000 - (intOf i).toNat)
  case atStart => exact ⟨0, [], Nat.zero_le _, rfl, rfl, h0⟩
  case round =>
    obtain ⟨k, pre, hk, rfl, hpre, hJs⟩ := hrel
    by_cases hlt : k < 1000
    · obtain ⟨fn, tmps, assign, body, hy, hR⟩ := hY pre ⟨k, hlt⟩ wr hJs (by have := congrArg List.length hpre; simp at this; omega)
      dsimp only at hy
      have k1 : (k : Int) < 1000 := by omega
      gi_wp2
      refine ⟨fun h => by simp [Fence.wide] at h, hR.mono ?_⟩
      rintro e1 W3 (⟨rfl, hJ3, _⟩ | ⟨rfl, hJx3⟩)
      · gi_wp2
        go_roundw
        case rel => exact ⟨k + 1, pre ++ [⟨k, hlt⟩], hlt, by go_num, by rw [List.map_append, hpre, List.range_succ]; rfl, hJ3⟩
        case measure => simp [intOf]; omega
      · gi_wp2
        refine bodyPost_ret (results_none rfl _ _ _) rfl ?_
        exact ⟨⟨_, rfl⟩, .inr ⟨_, ⟨k, hlt, by rw [List.map_append, hpre, List.range_succ]; rfl⟩, hJx3⟩⟩
    · obtain rfl : k = 1000 := by omega
      gi_wp2
      go_end0
      exact ⟨⟨_, rfl⟩, .inl ⟨pre, hpre, hJs⟩⟩
theorem numbers_v (w : World) : Calls Tryd.prog 43 #[] w fun e w' => e = .returned (.func (.func 60) #[] #[]) ∧ w = w' := by
  go_enter Tryd.func43, Tryd.ntmps43
  go_wp2
  go_ret
  exact ⟨rfl, rfl⟩
/-- The first number that serves. -/
def placeF (tk : Bl → Bool) (p : Bl) (dv : Int) : List Nat → Bl × Nat
  | [] => ([], 3)
  | n :: ns => if (copyL p dv n).2 ≠ 0 then ([], (copyL p dv n).2) else if tk (copyL p dv n).1 = false then ((copyL p dv n).1, 0) else placeF tk p dv ns
def placeR (tk : Bl → Bool) (r : Rcd) : Bl × Nat := if okR r ≠ 0 then ([], okR r) else placeF tk r.path r.dev (List.range 1000)
theorem run_loadVar_one {P : Program} (w : World) (ad : Addr) (ty : TypeId) (v : Value) (d : TypeDesc) (hu : P.underlying ty = some d) (hd : (match d with | .struct _ | .array _ _ => true | _ => false) = false) (hc : w.cell? ad = some v) :
    (loadVar ty ad).run P w = .ok v w := by
  have hagg : (isAgg ty).run P w = .ok false w := by
    unfold isAgg
    rw [Sem.run_bind, run_underlying hu w]
    cases d <;> simp_all
  simp [loadVar, Sem.run_bind, hagg, hc, go_sem]
theorem results_cells2 {P : Program} {fn : Func} {p q : Tmp} {ty ty2 : TypeId} (h : fn.results = #[.cell p ty, .cell q ty2]) (tmps : Array Value) (w : World) (a b : Addr) (va vb : Value) (d d2 : TypeDesc)
    (hp : tmps.getD p undef = .pointer (some a)) (hq : tmps.getD q undef = .pointer (some b)) (ha : w.cell? a = some va) (hb : w.cell? b = some vb)
    (hu : P.underlying ty = some d) (hd : (match d with | .struct _ | .array _ _ => true | _ => false) = false) (hu2 : P.underlying ty2 = some d2) (hd2 : (match d2 with | .struct _ | .array _ _ => true | _ => false) = false) :
    (results fn tmps).run P w = .ok (.tuple #[va, vb]) w := by
  have hp' : tmps[p]?.getD undef = .pointer (some a) := by simpa using hp
  have hq' : tmps[q]?.getD undef = .pointer (some b) := by simpa using hq
  simp [results, h, hp', hq', asAddr, run_loadVar_one w a ty va d hu hd ha, run_loadVar_one w b ty2 vb d2 hu2 hd2 hb]
theorem eqIn_nilF (V : World) (d : Nat) : (Op.equalIn (d + 1) 53 .nilFunc .nilFunc).run Tryd.prog V = .ok true V := by simp [Op.equalIn, run_underlying Tryd.underlying53]
theorem eqIn_fnF (V : World) (d : Nat) (f : Fn) (x y : Array Value) : (Op.equalIn (d + 1) 53 (.func f x y) .nilFunc).run Tryd.prog V = .ok false V := by simp [Op.equalIn, run_underlying Tryd.underlying53]
theorem eq_nilF (V : World) : (binOp .eql 53 .nilFunc .nilFunc).run Tryd.prog V = .ok (.bool true) V := by
  have h : (Op.equal 53 .nilFunc .nilFunc).run Tryd.prog V = .ok true V := eqIn_nilF V 9999
  simp only [binOp]
  simp [h]
theorem eq_fnF (V : World) (f : Fn) (x y : Array Value) : (binOp .eql 53 (.func f x y) .nilFunc).run Tryd.prog V = .ok (.bool false) V := by
  have h : (Op.equal 53 (.func f x y) .nilFunc).run Tryd.prog V = .ok false V := eqIn_fnF V 9999 f x y
  simp only [binOp]
  simp [h]
theorem four_allocs (w : World) (a b c d : Obj) : (((((w.alloc a).alloc b).alloc c).alloc d).heap[w.heap.size]? = some a ∧ ((((w.alloc a).alloc b).alloc c).alloc d).heap[w.heap.size + 1]? = some b ∧ ((((w.alloc a).alloc b).alloc c).alloc d).heap[w.heap.size + 2]? = some c ∧ ((((w.alloc a).alloc b).alloc c).alloc d).heap[w.heap.size + 3]? = some d) ∧ Below w.heap.size w ((((w.alloc a).alloc b).alloc c).alloc d) ∧ ((((w.alloc a).alloc b).alloc c).alloc d).heap.size = w.heap.size + 4 := by
  have z1 : (w.alloc a).heap.size = w.heap.size + 1 := by simp
  have z2 : ((w.alloc a).alloc b).heap.size = w.heap.size + 2 := by simp
  have z3 : (((w.alloc a).alloc b).alloc c).heap.size = w.heap.size + 3 := by simp
  refine ⟨⟨?_, ?_, ?_, ?_⟩, (((((Below.refl _ w).alloc (Nat.le_refl _) a).alloc (by omega) b).alloc (by omega) c).alloc (by omega) d), by simp⟩
  · exact (Below.heap_alloc _ d _ (by omega)).trans ((Below.heap_alloc _ c _ (by omega)).trans ((Below.heap_alloc _ b _ (by omega)).trans (heap_alloc_new w a)))
  · have e := heap_alloc_new (w.alloc a) b
    rw [z1] at e
    exact (Below.heap_alloc _ d _ (by omega)).trans ((Below.heap_alloc _ c _ (by omega)).trans e)
  · have e := heap_alloc_new ((w.alloc a).alloc b) c
    rw [z2] at e
    exact (Below.heap_alloc _ d _ (by omega)).trans e
  · have e := heap_alloc_new (((w.alloc a).alloc b).alloc c) d
    rwa [z3] at e
set_option maxRecDepth 100000 in
set_option maxHeartbeats 8000000 in
/-- No question: an error. -/
theorem place_nil (r : Rcd) (a : RSh) (B : Nat) (w : World) (he : EnvM w) (hr : RReads w B r a) (hB : B ≤ w.heap.size) (hok : okR r = 0) :
    Calls Tryd.prog 25 #[.agg #[.string (st r.path), .slice a.A a.n a.c, .int .i64 r.dev, .bool r.gone, .int .i64 r.size, .int .i64 r.len, .slice a.D a.m a.k], .nilFunc] w fun e w' => e = .returned (.tuple #[.string ⟨#[]⟩, .int .i64 2]) ∧ Below w.heap.size w w' := by
  have HI := Lib.hid (show (Tryd.prog.info? 27).map (·.size) = some 7 by kernel_rfl)
  obtain ⟨⟨x0, x1, x2, x3⟩, ba, hz⟩ := four_allocs w (.cells #[.string (st r.path), .slice a.A a.n a.c, .int .i64 r.dev, .bool r.gone, .int .i64 r.size, .int .i64 r.len, .slice a.D a.m a.k] 27) (.cells #[.nilFunc] 53) (.cells #[.string ⟨#[]⟩] 9) (.cells #[.int .i64 0] 31)
  have X0 := Lib.hid x0
  have X1 := Lib.hid x1
  have X2 := Lib.hid x2
  have X3 := Lib.hid x3
  have BA := Lib.hid ba
  have HR := Lib.hid hr
  have HE := Lib.hid he
  have HOK := Lib.hid hok
  clear x0 x1 x2 x3 ba hr he hok
  go_enter Tryd.func25, Tryd.ntmps25
  go_upto_region 1 with fail
  generalize ((((w.alloc (.cells #[.string (st r.path), .slice a.A a.n a.c, .int .i64 r.dev, .bool r.gone, .int .i64 r.size, .int .i64 r.len, .slice a.D a.m a.k] 27)).alloc (.cells #[.nilFunc] 53)).alloc (.cells #[.string ⟨#[]⟩] 9)).alloc (.cells #[.int .i64 0] 31)) = w1 at *
  go_wp2_with (first
    | (refine wpList_load_row rfl 27 (.tmp 2) rfl w.heap.size rfl 27 _ (0, 0) _ X0.out Tryd.underlying27 rfl HI.out ?_)
    | fail)
  refine (recCheck_v r a B w1 (HE.out.below BA.out) (HR.out.below (BA.out.mono hB)) (by omega)).mono ?_
  rintro e w2 ⟨rfl, b3⟩
  rw [HOK.out]
  have c1 : w2.cell? ⟨w.heap.size + 1, 0, none⟩ = some .nilFunc := by rw [cell_of_row _ _ 0 _ _ _ ((b3.block (w.heap.size + 1) (by omega)).trans X1.out)]; rfl
  have c2 : w2.cell? ⟨w.heap.size + 2, 0, none⟩ = some (.string ⟨#[]⟩) := by rw [cell_of_row _ _ 0 _ _ _ ((b3.block (w.heap.size + 2) (by omega)).trans X2.out)]; rfl
  have c3 : w2.cell? ⟨w.heap.size + 3, 0, none⟩ = some (.int .i64 0) := by rw [cell_of_row _ _ 0 _ _ _ ((b3.block (w.heap.size + 3) (by omega)).trans X3.out)]; rfl
  have f2 := frozen_of_row _ (w.heap.size + 2) 0 _ _ ((b3.block (w.heap.size + 2) (by omega)).trans X2.out)
  have f3 := frozen_of_row _ (w.heap.size + 3) 0 _ _ ((b3.block (w.heap.size + 3) (by omega)).trans X3.out)
  replace BA := Lib.hid (BA.out.trans (b3.mono (by omega)))
  clear b3
  have hn := eq_nilF w2
  go_wp2
  have e2 : ((w2.setCell ⟨w.heap.size + 2, 0, none⟩ (.string ⟨#[]⟩)).setCell ⟨w.heap.size + 3, 0, none⟩ (.int .i64 2)).cell? ⟨w.heap.size + 2, 0, none⟩ = some (.string ⟨#[]⟩) := by
    rw [World.cell?_setCell_other _ _ _ _ (fun e => by injection e with e; omega)]
    exact World.cell?_setCell_same' _ _ _ (by rw [c2]; rfl)
  have e3 : ((w2.setCell ⟨w.heap.size + 2, 0, none⟩ (.string ⟨#[]⟩)).setCell ⟨w.heap.size + 3, 0, none⟩ (.int .i64 2)).cell? ⟨w.heap.size + 3, 0, none⟩ = some (.int .i64 2) :=
    World.cell?_setCell_same' _ _ _ (by rw [World.cell?_setCell_other _ _ _ _ (fun e => by injection e with e; omega), c3]; rfl)
  exact bodyPost_ret (results_cells2 Tryd.results25 _ _ ⟨w.heap.size + 2, 0, none⟩ ⟨w.heap.size + 3, 0, none⟩ _ _ _ _ rfl rfl e2 e3 Tryd.underlying9 rfl Tryd.underlying31 rfl) rfl ⟨rfl, (BA.out.setCell (p := ⟨w.heap.size + 2, 0, none⟩) (by simp) _).setCell (p := ⟨w.heap.size + 3, 0, none⟩) (by simp) _⟩
/-- What lies while the numbers are tried. -/
structure PlI (w : World) (g : Nat) (row : Array Value) (fv v2 v3 : Value) (W : World) : Prop where
  x0 : W.heap[g]? = some (.cells row 27 (0, 0))
  x1 : W.heap[g + 1]? = some (.cells #[fv] 53 (0, 0))
  x2 : W.heap[g + 2]? = some (.cells #[v2] 9 (0, 0))
  x3 : W.heap[g + 3]? = some (.cells #[v3] 31 (0, 0))
  hb : Below g w W
theorem PlI.step {w W W' : World} {g : Nat} {row : Array Value} {fv v2 v3 : Value} (h : PlI w g row fv v2 v3 W) (b : Below W.heap.size W W') : PlI w g row fv v2 v3 W' := by
  have l0 := (Array.getElem?_eq_some_iff.1 h.x0).1
  have l1 := (Array.getElem?_eq_some_iff.1 h.x1).1
  have l2 := (Array.getElem?_eq_some_iff.1 h.x2).1
  have l3 := (Array.getElem?_eq_some_iff.1 h.x3).1
  exact ⟨(b.block _ l0).trans h.x0, (b.block _ l1).trans h.x1, (b.block _ l2).trans h.x2, (b.block _ l3).trans h.x3, h.hb.trans (b.mono (by omega))⟩
theorem PlI.own {w : World} {g B : Nat} {row : Array Value} {fv : Value} {β : Type} (hB : g + 4 ≤ B) (v2 v3 : β → Value) : OwnFrom B (fun (s : β) W => PlI w g row fv (v2 s) (v3 s) W) := by
  intro s W W' rw' h hg hr
  have key : ∀ k, k < g + 4 → k < W.heap.size → W'.heap[k]? = W.heap[k]? := fun k h1 h2 => hg.block k h2 (fun e => by have := (hr k e.symm).1; omega)
  have l0 := (Array.getElem?_eq_some_iff.1 h.x0).1
  have l1 := (Array.getElem?_eq_some_iff.1 h.x1).1
  have l2 := (Array.getElem?_eq_some_iff.1 h.x2).1
  have l3 := (Array.getElem?_eq_some_iff.1 h.x3).1
  exact ⟨(key _ (by omega) l0).trans h.x0, (key _ (by omega) l1).trans h.x1, (key _ (by omega) l2).trans h.x2, (key _ (by omega) l3).trans h.x3, h.hb.grown hg (by omega) (fun k e => by have := (hr k e).1; omega)⟩
theorem PlI.set {w W : World} {g : Nat} {row : Array Value} {fv v2 v3 : Value} (h : PlI w g row fv v2 v3 W) (u2 u3 : Value) : PlI w g row fv u2 u3 ((W.setCell ⟨g + 2, 0, none⟩ u2).setCell ⟨g + 3, 0, none⟩ u3) := by
  refine ⟨?_, ?_, ?_, ?_, (h.hb.setCell (p := ⟨g + 2, 0, none⟩) (by simp) u2).setCell (p := ⟨g + 3, 0, none⟩) (by simp) u3⟩
  · exact (Below.heap_setCell _ ⟨g + 3, 0, none⟩ _ g (by simp)).trans ((Below.heap_setCell _ ⟨g + 2, 0, none⟩ _ g (by simp)).trans h.x0)
  · exact (Below.heap_setCell _ ⟨g + 3, 0, none⟩ _ (g + 1) (by simp)).trans ((Below.heap_setCell _ ⟨g + 2, 0, none⟩ _ (g + 1) (by simp)).trans h.x1)
  · exact (Below.heap_setCell _ ⟨g + 3, 0, none⟩ _ (g + 2) (by simp)).trans (heap_setCell_same _ (g + 2) 0 _ _ u2 h.x2)
  · exact heap_setCell_same _ (g + 3) 0 _ _ u3 ((Below.heap_setCell _ ⟨g + 2, 0, none⟩ _ (g + 3) (by simp)).trans h.x3)
theorem keeps_below {W W' : World} (h : Below W.heap.size W W') : KeepsOthers W W' := ⟨h.size, fun k o hk _ => (h.block k (Array.getElem?_eq_some_iff.1 hk).1).trans hk⟩
theorem place_skip {tk : Bl → Bool} {p : Bl} {dv : Int} : ∀ (pre rest : List Nat), (∀ n ∈ pre, (copyL p dv n).2 = 0 ∧ tk (copyL p dv n).1 = true) → placeF tk p dv (pre ++ rest) = placeF tk p dv rest
  | [], _, _ => rfl
  | n :: pre, rest, h => by
    have h1 := h n List.mem_cons_self
    rw [List.cons_append, placeF, if_neg (by rw [h1.1]; decide), if_neg (by rw [h1.2]; decide)]
    exact place_skip pre rest fun x hx => h x (List.mem_cons_of_mem _ hx)
theorem range_split {k : Nat} (h : k < 1000) : ∃ rest, List.range 1000 = List.range k ++ k :: rest := by
  refine ⟨(List.range 1000).drop (k + 1), ?_⟩
  have e : List.range k = (List.range 1000).take k := by rw [List.take_range, Nat.min_eq_left (by omega)]
  have hk : k < (List.range 1000).length := by simpa using h
  rw [e]
  conv => lhs; rw [← List.take_append_drop k (List.range 1000)]
  rw [List.drop_eq_getElem_cons hk]
  simp
set_option maxRecDepth 100000 in
set_option maxHeartbeats 16000000 in
theorem place_v (r : Rcd) (a : RSh) (B tf : Nat) (caps : Array Value) (tk : Bl → Bool) (w : World) (he : Env w) (hr : RReads w B r a) (hB : B ≤ w.heap.size) (hok : okR r = 0)
    (hcf : ∀ args W, (callFunc tf args).run Tryd.prog W = .ok (.enter tf args) W)
    (ht : ∀ (s : Bl) (W : World), Below w.heap.size w W → Calls Tryd.prog tf (#[.string (st s)] ++ caps) W fun e W' => e = .returned (.bool (tk s)) ∧ Below W.heap.size W W') :
    Calls Tryd.prog 25 #[.agg #[.string (st r.path), .slice a.A a.n a.c, .int .i64 r.dev, .bool r.gone, .int .i64 r.size, .int .i64 r.len, .slice a.D a.m a.k], .func (.func tf) #[] caps] w fun e w' => e = .returned (.tuple #[.string (st (placeF tk r.path r.dev (List.range 1000)).1), .int .i64 ((placeF tk r.path r.dev (List.range 1000)).2 : Int)]) ∧ Below w.heap.size w w' := by
  have HI := Lib.hid (show (Tryd.prog.info? 27).map (·.size) = some 7 by kernel_rfl)
  obtain ⟨⟨x0, x1, x2, x3⟩, ba, hz⟩ := four_allocs w (.cells #[.string (st r.path), .slice a.A a.n a.c, .int .i64 r.dev, .bool r.gone, .int .i64 r.size, .int .i64 r.len, .slice a.D a.m a.k] 27) (.cells #[.func (.func tf) #[] caps] 53) (.cells #[.string ⟨#[]⟩] 9) (.cells #[.int .i64 0] 31)
  have PI := Lib.hid (show PlI w w.heap.size #[.string (st r.path), .slice a.A a.n a.c, .int .i64 r.dev, .bool r.gone, .int .i64 r.size, .int .i64 r.len, .slice a.D a.m a.k] (.func (.func tf) #[] caps) (.string ⟨#[]⟩) (.int .i64 0) ((((w.alloc (.cells #[.string (st r.path), .slice a.A a.n a.c, .int .i64 r.dev, .bool r.gone, .int .i64 r.size, .int .i64 r.len, .slice a.D a.m a.k] 27)).alloc (.cells #[.func (.func tf) #[] caps] 53)).alloc (.cells #[.string ⟨#[]⟩] 9)).alloc (.cells #[.int .i64 0] 31)) from ⟨x0, x1, x2, x3, ba⟩)
  have HR := Lib.hid hr
  have HE := Lib.hid he
  have HOK := Lib.hid hok
  have HT := Lib.hid ht
  have HCF := Lib.hid hcf
  obtain ⟨O, hO⟩ : ∃ O, placeF tk r.path r.dev (List.range 1000) = O := ⟨_, rfl⟩
  rw [hO]
  have HO := Lib.hid hO
  clear x0 x1 x2 x3 ba hr he hok ht hcf hO
  refine (callsIn_wide (n := 9)).1 ?_
  refine callsIn_of_wp_marks Tryd.func25 rfl trivial ?_ rfl
  simp only [Tryd.ntmps25, List.size_toArray, List.length_cons, List.length_nil, Nat.reduceAdd, Nat.reduceSub, Array.replicate_succ, Array.replicate_zero, List.push_toArray, List.append_toArray, List.nil_append, List.cons_append]
  gi_wp2_with fail
  generalize ((((w.alloc (.cells #[.string (st r.path), .slice a.A a.n a.c, .int .i64 r.dev, .bool r.gone, .int .i64 r.size, .int .i64 r.len, .slice a.D a.m a.k] 27)).alloc (.cells #[.func (.func tf) #[] caps] 53)).alloc (.cells #[.string ⟨#[]⟩] 9)).alloc (.cells #[.int .i64 0] 31)) = w1 at *
  refine ⟨trivial, (callsIn_wide.2 (recCheck_v r a B w1 (HE.out.m.below PI.out.hb) (HR.out.below (PI.out.hb.mono hB)) (by omega))).mono ?_⟩
  rintro e w2 ⟨rfl, b3⟩
  rw [HOK.out]
  replace PI := Lib.hid (PI.out.step b3)
  have hz2 : w.heap.size + 4 ≤ w2.heap.size := by have := b3.size; omega
  clear b3
  have c1 : w2.cell? ⟨w.heap.size + 1, 0, none⟩ = some (.func (.func tf) #[] caps) := by rw [cell_of_row _ _ 0 _ _ _ PI.out.x1]; rfl
  have hn := eq_fnF w2 (.func tf) #[] caps
  gi_wp2_with fail
  refine ⟨trivial, (callsIn_wide.2 (numbers_v w2)).mono ?_⟩
  rintro e _ ⟨rfl, rfl⟩
  gi_wp2_with fail
  clear c1 hn
  refine wpIn_rangeFunc_ownF rfl (by omega) (gf := 60) (lb := #[]) rfl trivial (enters_of Tryd.func60 (by kernel_rfl) rfl)
    (numbers_stops w2 8) (fun _ _ => trivial) (fun _ _ _ _ _ _ _ _ => trivial) (Below.refl _ _) (fun _ => rfl)
    (fun pre W => PlI w w.heap.size #[.string (st r.path), .slice a.A a.n a.c, .int .i64 r.dev, .bool r.gone, .int .i64 r.size, .int .i64 r.len, .slice a.D a.m a.k] (.func (.func tf) #[] caps) (.string ⟨#[]⟩) (.int .i64 0) W ∧ ∀ x ∈ pre, (copyL r.path r.dev (x.1 : Int)).2 = 0 ∧ tk (copyL r.path r.dev (x.1 : Int)).1 = true)
    (fun c xs W => c = .ret ∧ ∃ (pre : List Nm) (x : Nm) (res : Bl × Nat), xs = pre ++ [x] ∧ (∀ y ∈ pre, (copyL r.path r.dev (y.1 : Int)).2 = 0 ∧ tk (copyL r.path r.dev (y.1 : Int)).1 = true) ∧
      ((copyL r.path r.dev (x.1 : Int)).2 ≠ 0 ∧ res = ([], (copyL r.path r.dev (x.1 : Int)).2) ∨ (copyL r.path r.dev (x.1 : Int)).2 = 0 ∧ tk (copyL r.path r.dev (x.1 : Int)).1 = false ∧ res = ((copyL r.path r.dev (x.1 : Int)).1, 0)) ∧
      PlI w w.heap.size #[.string (st r.path), .slice a.A a.n a.c, .int .i64 r.dev, .bool r.gone, .int .i64 r.size, .int .i64 r.len, .slice a.D a.m a.k] (.func (.func tf) #[] caps) (.string (st res.1)) (.int .i64 (res.2 : Int)) W)
    (OwnFrom.and (PlI.own hz2 (fun _ => .string ⟨#[]⟩) (fun _ => .int .i64 0)) (fun _ _ _ _ hs _ _ => hs))
    (fun c => by
      rintro xs W W' row ⟨hc, pre, x, res, h1, h2, h3, h4⟩ hg hr
      exact ⟨hc, pre, x, res, h1, h2, h3, PlI.own hz2 (fun _ : Unit => .string (st res.1)) (fun _ => .int .i64 (res.2 : Int)) () W W' row h4 hg hr⟩)
    ⟨PI.out, fun x hx => by cases hx⟩
    (fun x => { tmps := #[.agg #[.string (st r.path), .slice a.A a.n a.c, .int .i64 r.dev, .bool r.gone, .int .i64 r.size, .int .i64 r.len, .slice a.D a.m a.k], .func (.func tf) #[] caps, .pointer (some ⟨w.heap.size, 0, none⟩), .pointer (some ⟨w.heap.size + 1, 0, none⟩), .pointer (some ⟨w.heap.size + 1 + 1, 0, none⟩), .pointer (some ⟨w.heap.size + 1 + 1 + 1, 0, none⟩), .int .i64 0, .int .i64 (x.1 : Int), undef, undef, .agg #[.string (st r.path), .slice a.A a.n a.c, .int .i64 r.dev, .bool r.gone, .int .i64 r.size, .int .i64 r.len, .slice a.D a.m a.k], .int .i64 0, .int .i64 0, .bool false, undef, .func (.func tf) #[] caps, .bool false, .func (.func 60) #[] #[], .int .i64 (x.1 : Int), undef, undef, undef, undef, undef, undef, undef, undef, undef, undef, undef, undef, undef, undef, undef, undef, undef], defers := [] }) ?assign ?body ?done ?stop
  case assign =>
    intro l x W K hK
    gi_wp2
    exact hK
  case body =>
    rintro l pre x W ⟨hP, hall⟩ hlen
    have P := Lib.hid hP
    have ALL := Lib.hid hall
    clear hP hall PI
    have c0 : W.cell? ⟨w.heap.size, 0, none⟩ = some (.string (st r.path)) := by rw [cell_of_row _ _ 0 _ _ _ P.out.x0]; rfl
    have c2 : W.cell? ⟨w.heap.size, 2, none⟩ = some (.int .i64 r.dev) := by rw [cell_of_row _ _ 2 _ _ _ P.out.x0]; rfl
    gi_wp2_with fail
    refine ⟨trivial, (CallsIn.inRound l (callsIn_wide.2 (copy_v r.path r.dev (x.1 : Int) W (HE.out.below P.out.hb)))).mono ?_⟩
    rintro e W1 ⟨rfl, b1⟩
    clear c0 c2
    have P1 := Lib.hid (P.out.step b1)
    have K1 := Lib.hid (keeps_below b1)
    have B1 := Lib.hid b1
    clear b1
    obtain ⟨cp, hcp⟩ : ∃ cp, copyL r.path r.dev (x.1 : Int) = cp := ⟨_, rfl⟩
    have HCP := Lib.hid hcp
    rw [hcp]
    clear hcp
    have c1 : W1.cell? ⟨w.heap.size + 1, 0, none⟩ = some (.func (.func tf) #[] caps) := by rw [cell_of_row _ _ 0 _ _ _ P1.out.x1]; rfl
    by_cases h1 : cp.2 = 0
    case neg =>
      have d1 : ((cp.2 : Int) != 0) = true := by rw [bne_iff_ne]; omega
      have c4 : W1.cell? ⟨w.heap.size + 2, 0, none⟩ = some (.string ⟨#[]⟩) := by rw [cell_of_row _ _ 0 _ _ _ P1.out.x2]; rfl
      have c5 : W1.cell? ⟨w.heap.size + 3, 0, none⟩ = some (.int .i64 0) := by rw [cell_of_row _ _ 0 _ _ _ P1.out.x3]; rfl
      have f4 := frozen_of_row _ (w.heap.size + 2) 0 _ _ P1.out.x2
      have f5 := frozen_of_row _ (w.heap.size + 3) 0 _ _ P1.out.x3
      have H1 := Lib.hid h1
      clear h1
      gi_wp2
      exact ⟨(K1.out.trans (KeepsOthers.setCell _ _ _)).trans (KeepsOthers.setCell _ _ _), rfl, pre, x, ([], cp.2), rfl, ALL.out, .inl ⟨by rw [HCP.out]; exact H1.out, by rw [HCP.out]⟩, P1.out.set _ _⟩
    have H1 := Lib.hid h1
    rw [h1]
    clear h1
    have hw := fun args => HCF.out args W1
    gi_wp2_with fail
    clear hw
    refine ⟨trivial, (CallsIn.inRound l (callsIn_wide.2 (HT.out cp.1 W1 P1.out.hb))).mono ?_⟩
    rintro e W2 ⟨rfl, b2⟩
    have P2 := Lib.hid (P1.out.step b2)
    have K2 := Lib.hid (K1.out.trans (keeps_below b2))
    clear b2 c1
    cases htk : tk cp.1
    · have HTK := Lib.hid htk
      have c4 : W2.cell? ⟨w.heap.size + 2, 0, none⟩ = some (.string ⟨#[]⟩) := by rw [cell_of_row _ _ 0 _ _ _ P2.out.x2]; rfl
      have c5 : W2.cell? ⟨w.heap.size + 3, 0, none⟩ = some (.int .i64 0) := by rw [cell_of_row _ _ 0 _ _ _ P2.out.x3]; rfl
      have f4 := frozen_of_row _ (w.heap.size + 2) 0 _ _ P2.out.x2
      have f5 := frozen_of_row _ (w.heap.size + 3) 0 _ _ P2.out.x3
      clear htk
      gi_wp2
      exact ⟨(K2.out.trans (KeepsOthers.setCell _ _ _)).trans (KeepsOthers.setCell _ _ _), rfl, pre, x, (cp.1, 0), rfl, ALL.out, .inr ⟨by rw [HCP.out]; exact H1.out, by rw [HCP.out]; exact HTK.out, by rw [HCP.out]⟩, P2.out.set _ _⟩
    · have HTK := Lib.hid htk
      clear htk
      gi_wp2
      refine ⟨K2.out, trivial, P2.out, fun y hy => ?_⟩
      rcases List.mem_append.1 hy with hy | hy
      · exact ALL.out y hy
      · rw [List.mem_singleton.1 hy, HCP.out]
        exact ⟨H1.out, HTK.out⟩
  case done =>
    intro D xs W hD hS hI hK
    have P := Lib.hid hI.1
    have HK := Lib.hid hK
    have HD := Lib.hid hD
    have hO2 : O = ([], 3) := by
      rw [← HO.out, ← hS]
      have := place_skip (tk := tk) (p := r.path) (dv := r.dev) (xs.map (·.1)) [] (fun n hn => by
        obtain ⟨x, hx, rfl⟩ := List.mem_map.1 hn
        exact hI.2 x hx)
      rw [List.append_nil] at this
      exact this
    subst hO2
    have c4 : W.cell? ⟨w.heap.size + 2, 0, none⟩ = some (.string ⟨#[]⟩) := by rw [cell_of_row _ _ 0 _ _ _ P.out.x2]; rfl
    have c5 : W.cell? ⟨w.heap.size + 3, 0, none⟩ = some (.int .i64 0) := by rw [cell_of_row _ _ 0 _ _ _ P.out.x3]; rfl
    have f4 := frozen_of_row _ (w.heap.size + 2) 0 _ _ P.out.x2
    have f5 := frozen_of_row _ (w.heap.size + 3) 0 _ _ P.out.x3
    clear hS hI hK hD
    gi_wp2
    have P2 := P.out.set (.string ⟨#[]⟩) (.int .i64 3)
    have hk2 : ((W.setCell ⟨w.heap.size + 2, 0, none⟩ (.string ⟨#[]⟩)).setCell ⟨w.heap.size + 3, 0, none⟩ (.int .i64 3)).heap[D]? = some (.deferred (some [])) :=
      (Below.heap_setCell _ ⟨w.heap.size + 3, 0, none⟩ _ D (by have := HD.out; simp; omega)).trans ((Below.heap_setCell _ ⟨w.heap.size + 2, 0, none⟩ _ D (by have := HD.out; simp; omega)).trans HK.out)
    refine ⟨by simp, .inl ⟨_, _, rfl, run_takeDeferred hk2, ?_⟩⟩
    have P3 := PlI.own (β := Unit) hz2 (fun _ => .string ⟨#[]⟩) (fun _ => .int .i64 3) () _ _ (some D) P2 (grownBy_putObj' _ D (.deferred none)) (fun r e => by cases e; exact ⟨HD.out, _, hk2, rfl⟩)
    exact ⟨_, results_cells2 Tryd.results25 _ _ ⟨w.heap.size + 2, 0, none⟩ ⟨w.heap.size + 3, 0, none⟩ (.string ⟨#[]⟩) (.int .i64 3) _ _ rfl rfl (by rw [cell_of_row _ _ 0 _ _ _ P3.x2]; rfl) (by rw [cell_of_row _ _ 0 _ _ _ P3.x3]; rfl) Tryd.underlying9 rfl Tryd.underlying31 rfl, rfl, P3.hb⟩
  case stop =>
    rintro D c pre W hD hS hX hK
    obtain ⟨rfl, pre', x, res, rfl, h2, h3, hP⟩ := hX
    obtain ⟨k, hk, hpre⟩ := hS
    have hO2 : O = res := by
      rw [List.map_append, List.range_succ] at hpre
      obtain ⟨e1, e2⟩ := List.append_inj' hpre rfl
      have e3 : x.1 = k := by simpa using e2
      obtain ⟨rest, hrest⟩ := range_split hk
      rw [← HO.out, hrest, ← e1, place_skip (pre'.map (·.1)) _ (fun n hn => by
        obtain ⟨y, hy, rfl⟩ := List.mem_map.1 hn
        exact h2 y hy), placeF, ← e3]
      rcases h3 with ⟨a1, a2⟩ | ⟨a1, a2, a3⟩
      · rw [if_pos a1, a2]
      · rw [if_neg (by omega), if_pos a2, a3]
    subst hO2
    have HK := Lib.hid hK
    have HD := Lib.hid hD
    have P := Lib.hid hP
    clear hK hD hP h2 h3 hpre
    gi_wp2
    refine ⟨by simp, .inl ⟨_, _, rfl, run_takeDeferred HK.out, ?_⟩⟩
    have P3 := PlI.own (β := Unit) hz2 (fun _ => .string (st O.1)) (fun _ => .int .i64 (O.2 : Int)) () _ _ (some D) P.out (grownBy_putObj' _ D (.deferred none)) (fun r e => by cases e; exact ⟨HD.out, _, HK.out, rfl⟩)
    exact ⟨_, results_cells2 Tryd.results25 _ _ ⟨w.heap.size + 2, 0, none⟩ ⟨w.heap.size + 3, 0, none⟩ (.string (st O.1)) (.int .i64 (O.2 : Int)) _ _ rfl rfl (by rw [cell_of_row _ _ 0 _ _ _ P3.x2]; rfl) (by rw [cell_of_row _ _ 0 _ _ _ P3.x3]; rfl) Tryd.underlying9 rfl Tryd.underlying31 rfl, rfl, P3.hb⟩
end Go.Proofs.YtndekohimfjdeaaDoor

namespace Go.Proofs.YtndekohimfjdeaaDoor
open Go.RowKit Go.Shelf
theorem own_empty (w : World) (e : TypeId) (K : Nat) : (w.alloc (.cells #[] e)).ownsRow w.heap.size e K (.slice (some ⟨w.heap.size, 0, none⟩) 0 0) 0 [] :=
  ⟨by simp, .inr ⟨w.heap.size, 0, #[], rfl, Nat.le_refl _, heap_alloc_new w _, Nat.le_refl _, by decide, by simp, by simp⟩⟩
theorem kat_v (d x : Int) (w : World) : Calls Tryd.prog 22 #[.int .i64 d, .int .u64 x] w fun e w' => e = .returned (.agg #[.int .i64 d, .int .u64 x]) ∧ Below w.heap.size w w' := by
  go_enter Tryd.func22, Tryd.ntmps22
  go_wp2
  go_returns
  exact ⟨rfl, (Below.refl _ _).alloc (Nat.le_refl _) _⟩
theorem clit (w : World) (l : List (Int × Nat)) (C : Array Value) (T : TypeId) (hC : C.toList = cntsC l) : CReads (w.alloc (.cells C T)) (w.heap.size + 1) (some ⟨w.heap.size, 0, none⟩) l.length l := by
  refine ⟨cntsC_len l, fun _ => ⟨_, rfl, Nat.lt_succ_self _, fun j u hu => ?_⟩⟩
  rw [← hC, Array.getElem?_toList] at hu
  rcases j with _ | j
  · rw [add_zero, World.cell?_alloc_at _ _ _ _ rfl]
    exact hu
  · rw [add_pos _ _ (by omega), World.cell?_alloc_at _ _ _ _ rfl]
    simpa using hu
set_option maxRecDepth 100000 in
set_option maxHeartbeats 8000000 in
theorem file_v (p : Bl) (dv : Int) (A : Option Addr) (n c B : Nat) (l : List (Int × Nat)) (w : World) (hr : CReads w B A n l) (hB : B ≤ w.heap.size) (hn : n ≤ 1000) :
    Calls Tryd.prog 42 #[.string (st p), .int .i64 dv, .slice A n c] w fun e w' => ∃ A1 c1, e = .returned (.agg #[.string (st p), .slice A1 n c1, .int .i64 dv, .bool false, .int .i64 4, .int .i64 0, .slice none 0 0]) ∧ COwn w' w.heap.size A1 n c1 l ∧ Below w.heap.size w w' := by
  have HI := Lib.hid (show (Tryd.prog.info? 27).map (·.size) = some 7 by kernel_rfl)
  have B0 := Lib.hid ((Below.refl w.heap.size w).alloc (Nat.le_refl _) (.cells #[.string ⟨#[]⟩, .slice none 0 0, .int .i64 0, .bool false, .int .i64 0, .int .i64 0, .slice none 0 0] 27))
  have Y0 := Lib.hid (heap_alloc_new w (.cells #[.string ⟨#[]⟩, .slice none 0 0, .int .i64 0, .bool false, .int .i64 0, .int .i64 0, .slice none 0 0] 27))
  have HR := Lib.hid hr
  clear hr
  go_enter Tryd.func42, Tryd.ntmps42
  go_upto_region 1 with fail
  have hz : (w.alloc (.cells #[.string ⟨#[]⟩, .slice none 0 0, .int .i64 0, .bool false, .int .i64 0, .int .i64 0, .slice none 0 0] 27)).heap.size = w.heap.size + 1 := by simp
  generalize w.alloc (.cells #[.string ⟨#[]⟩, .slice none 0 0, .int .i64 0, .bool false, .int .i64 0, .int .i64 0, .slice none 0 0] 27) = w0 at *
  have OE := own_empty w0 49 2
  have BE := (Below.refl w0.heap.size w0).alloc (Nat.le_refl _) (.cells #[] 49)
  have R1 := Lib.hid (show CReads (w0.alloc (.cells #[] 49)) B A n l from Reads.below (Reads.below HR.out (B0.out.mono hB)) (BE.mono (by omega)))
  have Y1 := Lib.hid ((BE.block w.heap.size (by omega)).trans Y0.out)
  have B1 := Lib.hid (B0.out.trans (BE.mono (by omega)))
  have hz1 : (w0.alloc (.cells #[] 49)).heap.size = w.heap.size + 2 := by simp [hz]
  rw [hz] at OE
  have O1 : Hid (COwn (w0.alloc (.cells #[] 49)) (w.heap.size + 1) (some ⟨w.heap.size + 1, 0, none⟩) 0 0 []) := Lib.hid ⟨OE, Nat.le_refl _⟩
  clear OE BE Y0 B0
  go_wp2_with (first
    | (at_builtin
       go_must (refine wpList_capp rfl (.tmp 8) (.tmp 9) 22 Tryd.underlying22 rfl (w.heap.size + 1) (some ⟨w.heap.size + 1, 0, none⟩) 0 0 [] rfl O1.out B A n c l rfl R1.out (by omega) (by simp [hz]) ?_)
       intro A1 c1 w1 ho hg
       go_must (
       rw [Nat.zero_add] at ho ⊢
       have Y2 := Lib.hid ((hg.block w.heap.size (by omega) (by simp [Value.ownBlock])).trans Y1.out)
       have B2 := B1.out.grown hg (by omega) (fun k hk => by simp [Value.ownBlock] at hk; omega)
       have XS := Lib.hid (setRow_heap w1 w.heap.size _ #[.string (st p), .slice A1 n c1, .int .i64 dv, .bool false, .int .i64 4, .int .i64 0, .slice none 0 0] _ _ Y2.out)
       have BS := Lib.hid (below_setRow B2 (Nat.le_refl _) #[.string (st p), .slice A1 n c1, .int .i64 dv, .bool false, .int .i64 4, .int .i64 0, .slice none 0 0])
       have OS := Lib.hid (show COwn (w1.setRow w.heap.size #[.string (st p), .slice A1 n c1, .int .i64 dv, .bool false, .int .i64 4, .int .i64 0, .slice none 0 0]) (w.heap.size + 1) A1 n c1 l from ⟨own_keep ho.1 (fun j hj => setRow_other _ _ _ _ (by have := (ho.1.lt j hj).1; omega)), ho.2⟩)))
    | (refine wpList_store_row rfl 27 (.tmp 6) (.tmp 13) rfl w.heap.size #[.string (st p), .slice A1 n c1, .int .i64 dv, .bool false, .int .i64 4, .int .i64 0, .slice none 0 0] rfl rfl 27 _ Y2.out HI.out rfl (by simp [Value.oneCell']) ?_)
    | fail)
  exact bodyPost_ret (results_cell_row Tryd.results42 _ _ w.heap.size _ #[.string (st p), .slice A1 n c1, .int .i64 dv, .bool false, .int .i64 4, .int .i64 0, .slice none 0 0] _ _ rfl XS.out Tryd.underlying27 rfl HI.out) rfl ⟨A1, c1, rfl, OS.out.down (by omega), BS.out⟩
set_option maxRecDepth 100000 in
set_option maxHeartbeats 8000000 in
theorem gone_v (p : Bl) (dv : Int) (A : Option Addr) (n c B : Nat) (l : List (Int × Nat)) (w : World) (hr : CReads w B A n l) (hB : B ≤ w.heap.size) (hn : n ≤ 1000) :
    Calls Tryd.prog 24 #[.string (st p), .int .i64 dv, .slice A n c] w fun e w' => ∃ A1 c1, e = .returned (.agg #[.string (st p), .slice A1 n c1, .int .i64 dv, .bool true, .int .i64 0, .int .i64 0, .slice none 0 0]) ∧ COwn w' w.heap.size A1 n c1 l ∧ Below w.heap.size w w' := by
  have HI := Lib.hid (show (Tryd.prog.info? 27).map (·.size) = some 7 by kernel_rfl)
  have B0 := Lib.hid ((Below.refl w.heap.size w).alloc (Nat.le_refl _) (.cells #[.string ⟨#[]⟩, .slice none 0 0, .int .i64 0, .bool false, .int .i64 0, .int .i64 0, .slice none 0 0] 27))
  have Y0 := Lib.hid (heap_alloc_new w (.cells #[.string ⟨#[]⟩, .slice none 0 0, .int .i64 0, .bool false, .int .i64 0, .int .i64 0, .slice none 0 0] 27))
  have HR := Lib.hid hr
  clear hr
  go_enter Tryd.func24, Tryd.ntmps24
  go_upto_region 1 with fail
  have hz : (w.alloc (.cells #[.string ⟨#[]⟩, .slice none 0 0, .int .i64 0, .bool false, .int .i64 0, .int .i64 0, .slice none 0 0] 27)).heap.size = w.heap.size + 1 := by simp
  generalize w.alloc (.cells #[.string ⟨#[]⟩, .slice none 0 0, .int .i64 0, .bool false, .int .i64 0, .int .i64 0, .slice none 0 0] 27) = w0 at *
  have OE := own_empty w0 49 2
  have BE := (Below.refl w0.heap.size w0).alloc (Nat.le_refl _) (.cells #[] 49)
  have R1 := Lib.hid (show CReads (w0.alloc (.cells #[] 49)) B A n l from Reads.below (Reads.below HR.out (B0.out.mono hB)) (BE.mono (by omega)))
  have Y1 := Lib.hid ((BE.block w.heap.size (by omega)).trans Y0.out)
  have B1 := Lib.hid (B0.out.trans (BE.mono (by omega)))
  have hz1 : (w0.alloc (.cells #[] 49)).heap.size = w.heap.size + 2 := by simp [hz]
  rw [hz] at OE
  have O1 : Hid (COwn (w0.alloc (.cells #[] 49)) (w.heap.size + 1) (some ⟨w.heap.size + 1, 0, none⟩) 0 0 []) := Lib.hid ⟨OE, Nat.le_refl _⟩
  clear OE BE Y0 B0
  go_wp2_with (first
    | (at_builtin
       go_must (refine wpList_capp rfl (.tmp 8) (.tmp 9) 22 Tryd.underlying22 rfl (w.heap.size + 1) (some ⟨w.heap.size + 1, 0, none⟩) 0 0 [] rfl O1.out B A n c l rfl R1.out (by omega) (by simp [hz]) ?_)
       intro A1 c1 w1 ho hg
       go_must (
       rw [Nat.zero_add] at ho ⊢
       have Y2 := Lib.hid ((hg.block w.heap.size (by omega) (by simp [Value.ownBlock])).trans Y1.out)
       have B2 := B1.out.grown hg (by omega) (fun k hk => by simp [Value.ownBlock] at hk; omega)
       have XS := Lib.hid (setRow_heap w1 w.heap.size _ #[.string (st p), .slice A1 n c1, .int .i64 dv, .bool true, .int .i64 0, .int .i64 0, .slice none 0 0] _ _ Y2.out)
       have BS := Lib.hid (below_setRow B2 (Nat.le_refl _) #[.string (st p), .slice A1 n c1, .int .i64 dv, .bool true, .int .i64 0, .int .i64 0, .slice none 0 0])
       have OS := Lib.hid (show COwn (w1.setRow w.heap.size #[.string (st p), .slice A1 n c1, .int .i64 dv, .bool true, .int .i64 0, .int .i64 0, .slice none 0 0]) (w.heap.size + 1) A1 n c1 l from ⟨own_keep ho.1 (fun j hj => setRow_other _ _ _ _ (by have := (ho.1.lt j hj).1; omega)), ho.2⟩)))
    | (refine wpList_store_row rfl 27 (.tmp 6) (.tmp 12) rfl w.heap.size #[.string (st p), .slice A1 n c1, .int .i64 dv, .bool true, .int .i64 0, .int .i64 0, .slice none 0 0] rfl rfl 27 _ Y2.out HI.out rfl (by simp [Value.oneCell']) ?_)
    | fail)
  exact bodyPost_ret (results_cell_row Tryd.results24 _ _ w.heap.size _ #[.string (st p), .slice A1 n c1, .int .i64 dv, .bool true, .int .i64 0, .int .i64 0, .slice none 0 0] _ _ rfl XS.out Tryd.underlying27 rfl HI.out) rfl ⟨A1, c1, rfl, OS.out.down (by omega), BS.out⟩
/-- A digest that begins with a byte. -/
def dg1 (b : Nat) : Dg := ⟨b :: List.replicate 31 0, rfl⟩
theorem dg1_reads {W : World} {g B b : Nat} {t : TypeId} {fr : Nat × Nat} (h : W.heap[g]? = some (.cells #[.int .u8 (b : Int), .int .u8 0, .int .u8 0, .int .u8 0, .int .u8 0, .int .u8 0, .int .u8 0, .int .u8 0, .int .u8 0, .int .u8 0, .int .u8 0, .int .u8 0, .int .u8 0, .int .u8 0, .int .u8 0, .int .u8 0, .int .u8 0, .int .u8 0, .int .u8 0, .int .u8 0, .int .u8 0, .int .u8 0, .int .u8 0, .int .u8 0, .int .u8 0, .int .u8 0, .int .u8 0, .int .u8 0, .int .u8 0, .int .u8 0, .int .u8 0, .int .u8 0] t fr)) (hg : g < B) : DReads W B (some ⟨g, 0, none⟩) 1 [dg1 b] := by
  refine ⟨rfl, fun _ => ⟨_, rfl, hg, fun j u hu => ?_⟩⟩
  refine rcells_at (o := 0) h (fun j v hv => ?_) j u hu
  rw [Nat.zero_add, List.getElem?_toArray]
  exact hv
set_option maxRecDepth 100000 in
set_option maxHeartbeats 8000000 in
theorem filled_v (p : Bl) (dv : Int) (b : Nat) (A : Option Addr) (n c B : Nat) (l : List (Int × Nat)) (w : World) (hr : CReads w B A n l) (hB : B ≤ w.heap.size) (hn : n ≤ 1000) :
    Calls Tryd.prog 23 #[.string (st p), .int .i64 dv, .int .u8 (b : Int), .slice A n c] w fun e w' => ∃ A1 c1 D1, e = .returned (.agg #[.string (st p), .slice A1 n c1, .int .i64 dv, .bool false, .int .i64 4, .int .i64 3, .slice D1 1 1]) ∧ COwn w' w.heap.size A1 n c1 l ∧ DReads w' w'.heap.size D1 1 [dg1 b] ∧ Below w.heap.size w w' := by
  have HI := Lib.hid (show (Tryd.prog.info? 27).map (·.size) = some 7 by kernel_rfl)
  have B0 := Lib.hid ((Below.refl w.heap.size w).alloc (Nat.le_refl _) (.cells #[.string ⟨#[]⟩, .slice none 0 0, .int .i64 0, .bool false, .int .i64 0, .int .i64 0, .slice none 0 0] 27))
  have Y0 := Lib.hid (heap_alloc_new w (.cells #[.string ⟨#[]⟩, .slice none 0 0, .int .i64 0, .bool false, .int .i64 0, .int .i64 0, .slice none 0 0] 27))
  have HR := Lib.hid hr
  clear hr
  go_enter Tryd.func23, Tryd.ntmps23
  go_upto_region 1 with fail
  have hz : (w.alloc (.cells #[.string ⟨#[]⟩, .slice none 0 0, .int .i64 0, .bool false, .int .i64 0, .int .i64 0, .slice none 0 0] 27)).heap.size = w.heap.size + 1 := by simp
  generalize w.alloc (.cells #[.string ⟨#[]⟩, .slice none 0 0, .int .i64 0, .bool false, .int .i64 0, .int .i64 0, .slice none 0 0] 27) = w0 at *
  go_wp2_with fail
  refine (file_v p dv A n c B l w0 (Reads.below HR.out (B0.out.mono hB)) (by omega) hn).mono ?_
  rintro e w1 ⟨A1, c1, rfl, hc1, hb1⟩
  have B1 := Lib.hid (B0.out.trans (hb1.mono (by omega)))
  have Y1 := Lib.hid ((hb1.block w.heap.size (by omega)).trans Y0.out)
  have hz1 : w.heap.size + 1 ≤ w1.heap.size := by have := hb1.size; omega
  have C1 := Lib.hid hc1
  clear hc1 hb1 Y0 B0
  go_upto_region 2 with fail
  have hz2 : (w1.alloc (.cells #[.string (st p), .slice A1 n c1, .int .i64 dv, .bool false, .int .i64 4, .int .i64 0, .slice none 0 0] 27)).heap.size = w1.heap.size + 1 := by simp
  have Z2 := Lib.hid (heap_alloc_new w1 (.cells #[.string (st p), .slice A1 n c1, .int .i64 dv, .bool false, .int .i64 4, .int .i64 0, .slice none 0 0] 27))
  have b2 := (Below.refl w1.heap.size w1).alloc (Nat.le_refl _) (.cells #[.string (st p), .slice A1 n c1, .int .i64 dv, .bool false, .int .i64 4, .int .i64 0, .slice none 0 0] 27)
  generalize w1.alloc (.cells #[.string (st p), .slice A1 n c1, .int .i64 dv, .bool false, .int .i64 4, .int .i64 0, .slice none 0 0] 27) = w2 at *
  have k5 : w2.cell? ⟨w1.heap.size, 5, none⟩ = some (.int .i64 0) := by rw [cell_of_row _ _ 5 _ _ _ Z2.out]; rfl
  have f5 := frozen_of_row _ w1.heap.size 5 _ _ Z2.out
  have X4 : (w2.setCell ⟨w1.heap.size, 5, none⟩ (.int .i64 3)).heap[w1.heap.size]? = some (.cells #[.string (st p), .slice A1 n c1, .int .i64 dv, .bool false, .int .i64 4, .int .i64 3, .slice none 0 0] 27 (0, 0)) := heap_setCell_same _ w1.heap.size 5 _ _ (.int .i64 3) Z2.out
  have k6 : (w2.setCell ⟨w1.heap.size, 5, none⟩ (.int .i64 3)).cell? ⟨w1.heap.size, 6, none⟩ = some (.slice none 0 0) := by rw [cell_of_row _ _ 6 _ _ _ X4]; rfl
  have f6 := frozen_of_row _ w1.heap.size 6 _ _ X4
  have X5' : ((w2.setCell ⟨w1.heap.size, 5, none⟩ (.int .i64 3)).setCell ⟨w1.heap.size, 6, none⟩ (.slice (some ⟨w1.heap.size + 1, 0, none⟩) 1 1)).heap[w1.heap.size]? = some (.cells #[.string (st p), .slice A1 n c1, .int .i64 dv, .bool false, .int .i64 4, .int .i64 3, .slice (some ⟨w1.heap.size + 1, 0, none⟩) 1 1] 27 (0, 0)) := heap_setCell_same _ w1.heap.size 6 _ _ (.slice (some ⟨w1.heap.size + 1, 0, none⟩) 1 1) X4
  have hv5 : ((w2.setCell ⟨w1.heap.size, 5, none⟩ (.int .i64 3)).setCell ⟨w1.heap.size, 6, none⟩ (.slice (some ⟨w1.heap.size + 1, 0, none⟩) 1 1)).heap.size = w1.heap.size + 1 := by simp [hz2]
  have X5 := Lib.hid (show (((w2.setCell ⟨w1.heap.size, 5, none⟩ (.int .i64 3)).setCell ⟨w1.heap.size, 6, none⟩ (.slice (some ⟨w1.heap.size + 1, 0, none⟩) 1 1)).alloc (.cells #[.int .u8 (b : Int), .int .u8 0, .int .u8 0, .int .u8 0, .int .u8 0, .int .u8 0, .int .u8 0, .int .u8 0, .int .u8 0, .int .u8 0, .int .u8 0, .int .u8 0, .int .u8 0, .int .u8 0, .int .u8 0, .int .u8 0, .int .u8 0, .int .u8 0, .int .u8 0, .int .u8 0, .int .u8 0, .int .u8 0, .int .u8 0, .int .u8 0, .int .u8 0, .int .u8 0, .int .u8 0, .int .u8 0, .int .u8 0, .int .u8 0, .int .u8 0, .int .u8 0] 71)).heap[w1.heap.size]? = some (.cells #[.string (st p), .slice A1 n c1, .int .i64 dv, .bool false, .int .i64 4, .int .i64 3, .slice (some ⟨w1.heap.size + 1, 0, none⟩) 1 1] 27 (0, 0)) from (Below.heap_alloc _ (.cells #[.int .u8 (b : Int), .int .u8 0, .int .u8 0, .int .u8 0, .int .u8 0, .int .u8 0, .int .u8 0, .int .u8 0, .int .u8 0, .int .u8 0, .int .u8 0, .int .u8 0, .int .u8 0, .int .u8 0, .int .u8 0, .int .u8 0, .int .u8 0, .int .u8 0, .int .u8 0, .int .u8 0, .int .u8 0, .int .u8 0, .int .u8 0, .int .u8 0, .int .u8 0, .int .u8 0, .int .u8 0, .int .u8 0, .int .u8 0, .int .u8 0, .int .u8 0, .int .u8 0] 71) w1.heap.size (by omega)).trans X5')
  have b4 := (b2.setCell (p := ⟨w1.heap.size, 5, none⟩) (Nat.le_refl _) (.int .i64 3)).setCell (p := ⟨w1.heap.size, 6, none⟩) (Nat.le_refl _) (.slice (some ⟨w1.heap.size + 1, 0, none⟩) 1 1)
  have b5 := Lib.hid (b4.alloc b4.size (.cells #[.int .u8 (b : Int), .int .u8 0, .int .u8 0, .int .u8 0, .int .u8 0, .int .u8 0, .int .u8 0, .int .u8 0, .int .u8 0, .int .u8 0, .int .u8 0, .int .u8 0, .int .u8 0, .int .u8 0, .int .u8 0, .int .u8 0, .int .u8 0, .int .u8 0, .int .u8 0, .int .u8 0, .int .u8 0, .int .u8 0, .int .u8 0, .int .u8 0, .int .u8 0, .int .u8 0, .int .u8 0, .int .u8 0, .int .u8 0, .int .u8 0, .int .u8 0, .int .u8 0] 71))
  have h5 : (((w2.setCell ⟨w1.heap.size, 5, none⟩ (.int .i64 3)).setCell ⟨w1.heap.size, 6, none⟩ (.slice (some ⟨w1.heap.size + 1, 0, none⟩) 1 1)).alloc (.cells #[.int .u8 (b : Int), .int .u8 0, .int .u8 0, .int .u8 0, .int .u8 0, .int .u8 0, .int .u8 0, .int .u8 0, .int .u8 0, .int .u8 0, .int .u8 0, .int .u8 0, .int .u8 0, .int .u8 0, .int .u8 0, .int .u8 0, .int .u8 0, .int .u8 0, .int .u8 0, .int .u8 0, .int .u8 0, .int .u8 0, .int .u8 0, .int .u8 0, .int .u8 0, .int .u8 0, .int .u8 0, .int .u8 0, .int .u8 0, .int .u8 0, .int .u8 0, .int .u8 0] 71)).heap[w1.heap.size + 1]? = some (.cells #[.int .u8 (b : Int), .int .u8 0, .int .u8 0, .int .u8 0, .int .u8 0, .int .u8 0, .int .u8 0, .int .u8 0, .int .u8 0, .int .u8 0, .int .u8 0, .int .u8 0, .int .u8 0, .int .u8 0, .int .u8 0, .int .u8 0, .int .u8 0, .int .u8 0, .int .u8 0, .int .u8 0, .int .u8 0, .int .u8 0, .int .u8 0, .int .u8 0, .int .u8 0, .int .u8 0, .int .u8 0, .int .u8 0, .int .u8 0, .int .u8 0, .int .u8 0, .int .u8 0] 71 (0, 0)) := by
    have e := heap_alloc_new ((w2.setCell ⟨w1.heap.size, 5, none⟩ (.int .i64 3)).setCell ⟨w1.heap.size, 6, none⟩ (.slice (some ⟨w1.heap.size + 1, 0, none⟩) 1 1)) (.cells #[.int .u8 (b : Int), .int .u8 0, .int .u8 0, .int .u8 0, .int .u8 0, .int .u8 0, .int .u8 0, .int .u8 0, .int .u8 0, .int .u8 0, .int .u8 0, .int .u8 0, .int .u8 0, .int .u8 0, .int .u8 0, .int .u8 0, .int .u8 0, .int .u8 0, .int .u8 0, .int .u8 0, .int .u8 0, .int .u8 0, .int .u8 0, .int .u8 0, .int .u8 0, .int .u8 0, .int .u8 0, .int .u8 0, .int .u8 0, .int .u8 0, .int .u8 0, .int .u8 0] 71)
    rwa [hv5] at e
  have H5 := Lib.hid h5
  have hz5 : w1.heap.size + 2 ≤ (((w2.setCell ⟨w1.heap.size, 5, none⟩ (.int .i64 3)).setCell ⟨w1.heap.size, 6, none⟩ (.slice (some ⟨w1.heap.size + 1, 0, none⟩) 1 1)).alloc (.cells #[.int .u8 (b : Int), .int .u8 0, .int .u8 0, .int .u8 0, .int .u8 0, .int .u8 0, .int .u8 0, .int .u8 0, .int .u8 0, .int .u8 0, .int .u8 0, .int .u8 0, .int .u8 0, .int .u8 0, .int .u8 0, .int .u8 0, .int .u8 0, .int .u8 0, .int .u8 0, .int .u8 0, .int .u8 0, .int .u8 0, .int .u8 0, .int .u8 0, .int .u8 0, .int .u8 0, .int .u8 0, .int .u8 0, .int .u8 0, .int .u8 0, .int .u8 0, .int .u8 0] 71)).heap.size := by have := (Array.getElem?_eq_some_iff.1 h5).1; omega
  have Y5 := Lib.hid ((b5.out.block w.heap.size (by omega)).trans Y1.out)
  clear Z2 b2 b4 X4 X5' h5 hv5
  go_upto_region 3 with fail
  generalize (((w2.setCell ⟨w1.heap.size, 5, none⟩ (.int .i64 3)).setCell ⟨w1.heap.size, 6, none⟩ (.slice (some ⟨w1.heap.size + 1, 0, none⟩) 1 1)).alloc (.cells #[.int .u8 (b : Int), .int .u8 0, .int .u8 0, .int .u8 0, .int .u8 0, .int .u8 0, .int .u8 0, .int .u8 0, .int .u8 0, .int .u8 0, .int .u8 0, .int .u8 0, .int .u8 0, .int .u8 0, .int .u8 0, .int .u8 0, .int .u8 0, .int .u8 0, .int .u8 0, .int .u8 0, .int .u8 0, .int .u8 0, .int .u8 0, .int .u8 0, .int .u8 0, .int .u8 0, .int .u8 0, .int .u8 0, .int .u8 0, .int .u8 0, .int .u8 0, .int .u8 0] 71)) = w5 at *
  have XS := Lib.hid (setRow_heap w5 w.heap.size _ #[.string (st p), .slice A1 n c1, .int .i64 dv, .bool false, .int .i64 4, .int .i64 3, .slice (some ⟨w1.heap.size + 1, 0, none⟩) 1 1] _ _ Y5.out)
  have BS := Lib.hid (below_setRow (B1.out.trans (b5.out.mono (by omega))) (Nat.le_refl _) #[.string (st p), .slice A1 n c1, .int .i64 dv, .bool false, .int .i64 4, .int .i64 3, .slice (some ⟨w1.heap.size + 1, 0, none⟩) 1 1])
  have CS := Lib.hid (show COwn (w5.setRow w.heap.size #[.string (st p), .slice A1 n c1, .int .i64 dv, .bool false, .int .i64 4, .int .i64 3, .slice (some ⟨w1.heap.size + 1, 0, none⟩) 1 1]) w0.heap.size A1 n c1 l from by
    have ho := C1.out.below b5.out
    exact ⟨own_keep ho.1 (fun j hj => setRow_other _ _ _ _ (by have := (ho.1.lt j hj).1; omega)), ho.2⟩)
  go_wp2_with (first
    | (refine wpList_load_row rfl 27 (.tmp 9) rfl w1.heap.size rfl 27 _ (0, 0) _ X5.out Tryd.underlying27 rfl HI.out ?_)
    | (refine wpList_store_row rfl 27 (.tmp 8) (.tmp 21) rfl w.heap.size #[.string (st p), .slice A1 n c1, .int .i64 dv, .bool false, .int .i64 4, .int .i64 3, .slice (some ⟨w1.heap.size + 1, 0, none⟩) 1 1] rfl rfl 27 _ Y5.out HI.out rfl (by simp [Value.oneCell']) ?_)
    | fail)
  have hzS : (w5.setRow w.heap.size #[.string (st p), .slice A1 n c1, .int .i64 dv, .bool false, .int .i64 4, .int .i64 3, .slice (some ⟨w1.heap.size + 1, 0, none⟩) 1 1]).heap.size = w5.heap.size := by simp [World.setRow]
  exact bodyPost_ret (results_cell_row Tryd.results23 _ _ w.heap.size _ #[.string (st p), .slice A1 n c1, .int .i64 dv, .bool false, .int .i64 4, .int .i64 3, .slice (some ⟨w1.heap.size + 1, 0, none⟩) 1 1] _ _ rfl XS.out Tryd.underlying27 rfl HI.out) rfl ⟨A1, c1, _, rfl, CS.out.down (by omega), dg1_reads ((setRow_other w5 w.heap.size _ _ (by omega)).trans H5.out) (by rw [hzS]; omega), BS.out⟩
end Go.Proofs.YtndekohimfjdeaaDoor
