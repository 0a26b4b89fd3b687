/-
  Blocks: digests compared; where a block goes; lists compared.
-/
import Derived.Test.YtmaehbebpldpcaaBlkA
import Derived.Laws.StructEq
namespace Go.Proofs.Ytmaehbebpldpcaa
open Go.RowKit Go.Shelf
theorem run_equal_arr2 {P : Program} {w : World} {t e : TypeId} {n d : Nat} {k : IntKind} {xs ys : List Int} (h : P.underlying t = some (.array n e)) (he : P.underlying e = some (.int k)) (hi : (P.info? e).map (·.size) = some 1)
    (ha : xs.length = n) (hb : ys.length = n) : (Op.equalIn (d + 2) t (.agg (xs.map (Value.int k)).toArray) (.agg (ys.map (Value.int k)).toArray)).run P w = .ok (xs == ys) w := by
  have hsz : (sizeOf e).run P w = .ok 1 w := by
    cases hq : P.info? e with
    | none => simp [hq] at hi
    | some i =>
      have hs : i.size = 1 := by simpa [hq] using hi
      simp [sizeOf, typeInfo, hq, hs]
  have key : ∀ l : List Nat, (∀ i ∈ l, i < n) → (forIn (m := Sem) l ((none : Option Bool), ()) fun i _ => do
      let x ← part e (xs.map (Value.int k)).toArray (i * 1)
      let y ← part e (ys.map (Value.int k)).toArray (i * 1)
      let b ← Op.equalIn (d + 1) e x y
      if (!b) = true then pure (ForInStep.done (some false, ())) else pure (ForInStep.yield (none, ()))).run P w = .ok (if l.all (fun i => xs[i]? == ys[i]?) then none else some false, ()) w := by
    intro l
    induction l with
    | nil => intro _; simp
    | cons i l ih =>
      intro hl
      have hin := hl i List.mem_cons_self
      have ga : xs[i]? = some (xs[i]'(by omega)) := List.getElem?_eq_getElem (by omega)
      have gb : ys[i]? = some (ys[i]'(by omega)) := List.getElem?_eq_getElem (by omega)
      generalize xs[i]'(by omega) = x at ga
      generalize ys[i]'(by omega) = y at gb
      have hpa : (part e (xs.map (Value.int k)).toArray (i * 1)).run P w = .ok (.int k x) w := by simp [part, isAgg, run_underlying he, ga, Result.andThen]
      have hpb : (part e (ys.map (Value.int k)).toArray (i * 1)).run P w = .ok (.int k y) w := by simp [part, isAgg, run_underlying he, gb, Result.andThen]
      simp only [List.forIn_cons, Sem.run_bind, hpa, hpb, Result.andThen_ok, run_equalIn_int w d e k k x y he, List.all_cons, ga, gb]
      by_cases hxy : x = y
      · subst hxy
        simp only [beq_self_eq_true, Bool.not_true, Bool.false_eq_true, if_false, Sem.run_pure, Result.andThen_ok, Bool.true_and]
        exact ih fun j hj => hl j (List.mem_cons_of_mem _ hj)
      · have h1 : (x == y) = false := by simpa using hxy
        have h2 : (some x == some y) = false := by simpa using hxy
        simp [h1, h2]
  have hall : ((List.range' 0 n).all fun i => xs[i]? == ys[i]?) = (xs == ys) := by
    rw [Bool.eq_iff_iff]
    simp only [List.all_eq_true, List.mem_range'_1, Nat.zero_le, Nat.zero_add, true_and, beq_iff_eq]
    constructor
    · intro hh
      apply List.ext_getElem? 
      intro i
      by_cases hin : i < n
      · exact hh i hin
      · rw [List.getElem?_eq_none (by omega), List.getElem?_eq_none (by omega)]
    · intro hh i _
      rw [hh]
  rw [Op.equalIn]
  simp only [Sem.run_bind, run_underlying h, Result.andThen_ok, hsz]
  simp only [Std.Legacy.Range.forIn_eq_forIn_range']
  rw [key _ (fun i hi => by simp [Std.Legacy.Range.size] at hi; omega)]
  rw [show (List.range' ([:n] : Std.Legacy.Range).start ([:n] : Std.Legacy.Range).size ([:n] : Std.Legacy.Range).step) = List.range' 0 n by simp [Std.Legacy.Range.size], hall]
  cases xs == ys <;> simp
theorem Dg.cells_int (d : Dg) : d.cells = (d.1.map Int.ofNat).map (Value.int .u8) := by simp [Dg.cells]
theorem map_ofNat_beq (a b : List Nat) : (a.map Int.ofNat == b.map Int.ofNat) = (a == b) := by
  rw [Bool.eq_iff_iff, beq_iff_eq, beq_iff_eq]
  constructor
  · intro h
    have := congrArg (List.map Int.toNat) h
    simpa [List.map_map, Function.comp_def] using this
  · intro h; rw [h]
theorem eqd (d e : Dg) (w : World) : (binOp .eql 59 (.agg d.cells.toArray) (.agg e.cells.toArray)).run Try.prog w = .ok (.bool (d.1 == e.1)) w := by
  rw [Dg.cells_int, Dg.cells_int, run_eql_struct, run_equal_arr2 Try.underlying59 Try.underlying5 (by kernel_rfl) (by simp [d.2]) (by simp [e.2]), map_ofNat_beq]
  rfl
theorem neqd (d e : Dg) (w : World) : (binOp .neq 59 (.agg d.cells.toArray) (.agg e.cells.toArray)).run Try.prog w = .ok (.bool (!(d.1 == e.1))) w := by
  rw [Dg.cells_int, Dg.cells_int, run_neq_struct, run_equal_arr2 Try.underlying59 Try.underlying5 (by kernel_rfl) (by simp [d.2]) (by simp [e.2]), map_ofNat_beq]
  rfl
/-- A row of digests that can be read. -/
def DReads (w : World) (B : Nat) (A : Option Addr) (n : Nat) (ds : List Dg) : Prop := Reads w B 32 A n (ds.flatMap Dg.cells)
section
variable {w w' : World} {B n : Nat} {A : Option Addr} {ds : List Dg}
theorem DReads.len (h : DReads w B A n ds) : ds.length = n := by
  have h1 := h.1
  rw [flat_len Dg.cells_len] at h1
  omega
theorem DReads.below (h : DReads w B A n ds) (hb : Below B w w') : DReads w' B A n ds := Reads.below h hb
theorem DReads.at_ {k : Nat} (h : DReads w B A n ds) (hk : k < n) :
    ∃ ad d, A = some ad ∧ ds[k]? = some d ∧ ∀ W, Below B w W → ∀ j u, d.cells[j]? = some u → W.cell? ((ad.add (k * 32)).add j) = some u := by
  have hl : k < ds.length := by rw [h.len]; exact hk
  obtain ⟨ad, e, hb, hc⟩ := h.2 (by omega)
  refine ⟨ad, ds[k], e, List.getElem?_eq_getElem hl, fun W hW j u hu => ?_⟩
  have hj : j < 32 := by
    have := (List.getElem?_eq_some_iff.1 hu).1
    rwa [Dg.cells_len] at this
  rw [add_of_add]
  refine (hW.cell (p := ad.add (k * 32 + j)) (by rw [block_of_add]; exact hb)).trans (hc _ u ?_)
  rw [flat_at Dg.cells_len ds (List.getElem?_eq_getElem hl) hj]
  exact hu
end
/-- The answer of At. -/
def atP (s l : Int) (n : Nat) (k : Int) : Int × Int × Bool := if chk s l n = 0 ∧ 0 ≤ k ∧ k < (n : Int) then (k * s, toP s l k, true) else (0, 0, false)
theorem below_off (l : List Dg) : True := trivial

set_option maxRecDepth 100000 in
set_option maxHeartbeats 4000000 in
theorem at_v (s l k : Int) (A : Option Addr) (n c : Nat) (w : World) (hn : n ≤ 9007199254740992) :
    Calls Try.prog 13 #[.agg #[.int .i64 s, .int .i64 l, .slice A n c], .int .i64 k] w fun e w' => e = .returned (.tuple #[.int .i64 (atP s l n k).1, .int .i64 (atP s l n k).2.1, .bool (atP s l n k).2.2]) ∧ Below w.heap.size w w' := by
  have HI := Lib.hid (show (Try.prog.info? 24).map (·.size) = some 3 by kernel_rfl)
  have BA := Lib.hid ((Below.refl w.heap.size w).alloc (Nat.le_refl _) (.cells #[.int .i64 s, .int .i64 l, .slice A n c] 24))
  have X0 := Lib.hid (heap_alloc_new w (.cells #[.int .i64 s, .int .i64 l, .slice A n c] 24))
  have CV := Lib.hid (check_v s l A n c (w.alloc (.cells #[.int .i64 s, .int .i64 l, .slice A n c] 24)) hn)
  have hz : (w.alloc (.cells #[.int .i64 s, .int .i64 l, .slice A n c] 24)).heap.size = w.heap.size + 1 := by simp
  go_enter Try.func13, Try.ntmps13
  go_wp2_with (first
    | (refine wpList_load_row rfl 24 (.tmp 2) rfl w.heap.size rfl 24 _ (0, 0) _ X0.out Try.underlying24 rfl HI.out ?_)
    | fail)
  generalize w.alloc (.cells #[.int .i64 s, .int .i64 l, .slice A n c] 24) = w1 at *
  refine CV.out.mono ?_
  rintro e w2 ⟨rfl, b2⟩
  have X2 := Lib.hid ((b2.block w.heap.size (by omega)).trans X0.out)
  have B2 := Lib.hid (BA.out.trans (b2.mono (by omega)))
  have c0 : w2.cell? ⟨w.heap.size, 0, none⟩ = some (.int .i64 s) := by rw [cell_of_row _ _ 0 _ _ _ X2.out]; rfl
  have c1 : w2.cell? ⟨w.heap.size, 1, none⟩ = some (.int .i64 l) := by rw [cell_of_row _ _ 1 _ _ _ X2.out]; rfl
  have c2 : w2.cell? ⟨w.heap.size, 2, none⟩ = some (.slice A n c) := by rw [cell_of_row _ _ 2 _ _ _ X2.out]; rfl
  clear X0 BA b2 CV
  by_cases h1 : chk s l n = 0
  · have d1 : ((chk s l n : Int) != 0) = false := by rw [h1]; rfl
    have HC := Lib.hid (chk_ok h1)
    by_cases h2 : k < 0
    · have d2 : decide (k < 0) = true := by simpa using h2
      have HR := Lib.hid (show atP s l n k = (0, 0, false) by unfold atP; rw [if_neg (by omega)])
      clear h1
      generalize chk s l n = q at *
      go_wp2
      go_ret3
      exact ⟨by rw [HR.out]; rfl, B2.out⟩
    · have d2 : decide (k < 0) = false := by simpa using h2
      by_cases h3 : (n : Int) ≤ k
      · have d3 : decide ((n : Int) ≤ k) = true := by simpa using h3
        have HR := Lib.hid (show atP s l n k = (0, 0, false) by unfold atP; rw [if_neg (by omega)])
        clear h1
        generalize chk s l n = q at *
        go_wp2
        go_ret3
        exact ⟨by rw [HR.out]; rfl, B2.out⟩
      · have d3 : decide ((n : Int) ≤ k) = false := by simpa using h3
        have HR := Lib.hid (show atP s l n k = (k * s, toP s l k, true) by unfold atP; rw [if_pos (by omega)])
        clear h1
        generalize chk s l n = q at *
        go_wp2_with (first
          | (refine wpList_load_row rfl 24 (.tmp 2) rfl w.heap.size rfl 24 _ (0, 0) _ X2.out Try.underlying24 rfl HI.out ?_)
          | fail)
        obtain ⟨g1, g2, g3, g4, g5, _⟩ := HC.out
        refine (at0_v s l k A n c w2 (by omega) g2 (by omega) (by omega)).mono ?_
        rintro e w3 ⟨rfl, b3⟩
        have B3 := Lib.hid (B2.out.trans (b3.mono B2.out.size))
        clear b3
        go_wp2
        go_ret3
        exact ⟨by rw [HR.out]; rfl, B3.out⟩
  · have d1 : ((chk s l n : Int) != 0) = true := by rw [bne_iff_ne]; omega
    have HR := Lib.hid (show atP s l n k = (0, 0, false) by unfold atP; rw [if_neg (by omega)])
    clear h1
    generalize chk s l n = q at *
    go_wp2
    go_ret3
    exact ⟨by rw [HR.out]; rfl, B2.out⟩
set_option maxRecDepth 100000 in
set_option maxHeartbeats 4000000 in
theorem rat_v (s l k : Int) (A : Option Addr) (n c : Nat) (w : World) (hn : n ≤ 9007199254740992) :
    Calls Try.prog 14 #[.agg #[.int .i64 s, .int .i64 l, .slice A n c], .int .i64 k] w fun e w' => e = .returned (.tuple #[.int .i64 (atP s l n k).1, .int .i64 (atP s l n k).2.1, .bool (atP s l n k).2.2]) ∧ Below w.heap.size w w' := by
  have HI := Lib.hid (show (Try.prog.info? 24).map (·.size) = some 3 by kernel_rfl)
  have BA := Lib.hid ((Below.refl w.heap.size w).alloc (Nat.le_refl _) (.cells #[.int .i64 s, .int .i64 l, .slice A n c] 24))
  have X0 := Lib.hid (heap_alloc_new w (.cells #[.int .i64 s, .int .i64 l, .slice A n c] 24))
  have CV := Lib.hid (rcheck_v s l A n c (w.alloc (.cells #[.int .i64 s, .int .i64 l, .slice A n c] 24)) hn)
  have hz : (w.alloc (.cells #[.int .i64 s, .int .i64 l, .slice A n c] 24)).heap.size = w.heap.size + 1 := by simp
  go_enter Try.func14, Try.ntmps14
  go_wp2_with (first
    | (refine wpList_load_row rfl 24 (.tmp 2) rfl w.heap.size rfl 24 _ (0, 0) _ X0.out Try.underlying24 rfl HI.out ?_)
    | fail)
  generalize w.alloc (.cells #[.int .i64 s, .int .i64 l, .slice A n c] 24) = w1 at *
  refine CV.out.mono ?_
  rintro e w2 ⟨rfl, b2⟩
  have X2 := Lib.hid ((b2.block w.heap.size (by omega)).trans X0.out)
  have B2 := Lib.hid (BA.out.trans (b2.mono (by omega)))
  have c0 : w2.cell? ⟨w.heap.size, 0, none⟩ = some (.int .i64 s) := by rw [cell_of_row _ _ 0 _ _ _ X2.out]; rfl
  have c1 : w2.cell? ⟨w.heap.size, 1, none⟩ = some (.int .i64 l) := by rw [cell_of_row _ _ 1 _ _ _ X2.out]; rfl
  have c2 : w2.cell? ⟨w.heap.size, 2, none⟩ = some (.slice A n c) := by rw [cell_of_row _ _ 2 _ _ _ X2.out]; rfl
  clear X0 BA b2 CV
  by_cases h1 : chk s l n = 0
  · have d1 : ((chk s l n : Int) != 0) = false := by rw [h1]; rfl
    have HC := Lib.hid (chk_ok h1)
    by_cases h2 : k < 0
    · have d2 : decide (k < 0) = true := by simpa using h2
      have HR := Lib.hid (show atP s l n k = (0, 0, false) by unfold atP; rw [if_neg (by omega)])
      clear h1
      generalize chk s l n = q at *
      go_wp2
      go_ret3
      exact ⟨by rw [HR.out]; rfl, B2.out⟩
    · have d2 : decide (k < 0) = false := by simpa using h2
      by_cases h3 : (n : Int) ≤ k
      · have d3 : decide ((n : Int) ≤ k) = true := by simpa using h3
        have HR := Lib.hid (show atP s l n k = (0, 0, false) by unfold atP; rw [if_neg (by omega)])
        clear h1
        generalize chk s l n = q at *
        go_wp2
        go_ret3
        exact ⟨by rw [HR.out]; rfl, B2.out⟩
      · have d3 : decide ((n : Int) ≤ k) = false := by simpa using h3
        have HR := Lib.hid (show atP s l n k = (k * s, toP s l k, true) by unfold atP; rw [if_pos (by omega)])
        clear h1
        generalize chk s l n = q at *
        obtain ⟨g1, g2, g3, g4, g5, _⟩ := HC.out
        have m0 : 0 ≤ k * s := Int.mul_nonneg (by omega) (by omega)
        have m1 : k * s ≤ 4194304 * 65536 := Int.mul_le_mul (by omega) g2 (by omega) (by omega)
        have m2 : (k + 1) * s = k * s + s := by rw [Int.add_mul, Int.one_mul]
        obtain ⟨q, hq⟩ : ∃ q, k * s = q := ⟨_, rfl⟩
        have HT := Lib.hid (show toP s l k = if q + s < l then q + s else l by
          unfold toP
          rw [m2, hq]
          split <;> omega)
        have e1 : IntKind.i64.wrap q = q := IntWalk.i64_in _ ⟨by omega, by omega⟩
        have e2 : IntKind.i64.wrap (k + 1) = k + 1 := IntWalk.i64_in _ ⟨by omega, by omega⟩
        have e3 : IntKind.i64.wrap (q + s) = q + s := IntWalk.i64_in _ ⟨by omega, by omega⟩
        go_upto_region 3 with fail
        by_cases hm : q + s < l
        · rw [if_pos hm] at HT
          refine wp_region_tree (SK.one 0 false <| .one 1 false <| .one 2 false <| .one 3 false <| .one 4 false <| .one 5 false <| .one 6 false <| .one 7 false <| .one 8 false <| .one 9 false <| .one 10 false <| .one 12 false <| .one 11 true <| .one 13 false <| .one 14 false .done) (fun V => V.cell? ⟨w.heap.size, 0, none⟩ = some (.int .i64 s) ∧ V.cell? ⟨w.heap.size, 1, none⟩ = some (.int .i64 l)) (by kernel_rfl) (by kernel_rfl) (by kernel_rfl) (by kernel_rfl) ?_
          have hS : w2.drew.cell? ⟨w.heap.size, 0, none⟩ = some (.int .i64 s) ∧ w2.drew.cell? ⟨w.heap.size, 1, none⟩ = some (.int .i64 l) := ⟨c0, c1⟩
          ((first | (refine TR.val2 (v := ?_) _ (by simp only [List.getElem?_toArray, List.getElem?_cons_zero]; rfl) ?_ ?_ ?_ ?_ ?_; rotate_left; (focus rfl); (focus (intro W hSW; (try dsimp only at hSW); (try (obtain ⟨hS1, hSW⟩ := hSW)); (try (obtain ⟨hS2, hSW⟩ := hSW)); (try (obtain ⟨hS3, hSW⟩ := hSW)); (try (obtain ⟨hS4, hSW⟩ := hSW)); (try (obtain ⟨hS5, hSW⟩ := hSW)); go_simp; (try with_reducible rfl); done)); (focus exact fun _ _ _ h => h); (focus assumption)) | (refine TR.skip _ (by simp only [List.getElem?_toArray, List.getElem?_cons_zero]; rfl) ?_ ?_ ?_ ?_; (focus rfl); (focus exact fun _ _ _ h => h); (focus assumption))); simp only [Act.put, List.setIfInBounds_toArray, List.set_cons_zero, List.set_cons_succ])
          iterate 11 ((first | (refine TR.val2 (v := ?_) _ (by simp only [List.getElem?_toArray, List.getElem?_cons_succ, List.getElem?_cons_zero]; rfl) ?_ ?_ ?_ ?_ ?_; rotate_left; (focus rfl); (focus (intro W hSW; (try dsimp only at hSW); (try (obtain ⟨hS1, hSW⟩ := hSW)); (try (obtain ⟨hS2, hSW⟩ := hSW)); (try (obtain ⟨hS3, hSW⟩ := hSW)); (try (obtain ⟨hS4, hSW⟩ := hSW)); (try (obtain ⟨hS5, hSW⟩ := hSW)); go_simp; (try with_reducible rfl); done)); (focus exact fun _ _ _ h => h); (focus assumption)) | (refine TR.skip _ (by simp only [List.getElem?_toArray, List.getElem?_cons_succ, List.getElem?_cons_zero]; rfl) ?_ ?_ ?_ ?_; (focus rfl); (focus exact fun _ _ _ h => h); (focus assumption))); simp only [Act.put, List.setIfInBounds_toArray, List.set_cons_zero, List.set_cons_succ])
          refine TR.eff _ (by simp only [List.getElem?_toArray, List.getElem?_cons_succ, List.getElem?_cons_zero]; rfl) (by rfl) (fun K hK => ?_); go_simp
          refine hK.out _ _ hS ?_
          clear hK
          (try simp only [Act.put, List.setIfInBounds_toArray, List.set_cons_zero, List.set_cons_succ])
          iterate 2 ((first | (refine TR.val2 (v := ?_) _ (by simp only [List.getElem?_toArray, List.getElem?_cons_succ, List.getElem?_cons_zero]; rfl) ?_ ?_ ?_ ?_ ?_; rotate_left; (focus rfl); (focus (intro W hSW; (try dsimp only at hSW); (try (obtain ⟨hS1, hSW⟩ := hSW)); (try (obtain ⟨hS2, hSW⟩ := hSW)); (try (obtain ⟨hS3, hSW⟩ := hSW)); (try (obtain ⟨hS4, hSW⟩ := hSW)); (try (obtain ⟨hS5, hSW⟩ := hSW)); go_simp; (try with_reducible rfl); done)); (focus exact fun _ _ _ h => h); (focus assumption)) | (refine TR.skip _ (by simp only [List.getElem?_toArray, List.getElem?_cons_succ, List.getElem?_cons_zero]; rfl) ?_ ?_ ?_ ?_; (focus rfl); (focus exact fun _ _ _ h => h); (focus assumption))); simp only [Act.put, List.setIfInBounds_toArray, List.set_cons_zero, List.set_cons_succ])
          refine TR.done ?_
          go_wp2
          go_ret3
          exact ⟨by rw [HR.out, HT.out]; (try rw [hq]); rfl, B2.out.drew⟩
        · rw [if_neg hm] at HT
          have hm2 : ¬ q + s < l := hm
          refine wp_region_tree (SK.one 0 false <| .one 1 false <| .one 2 false <| .one 3 false <| .one 4 false <| .one 5 false <| .one 6 false <| .one 7 false <| .one 8 false <| .one 9 false <| .one 10 false <| .one 12 false <| .one 11 true <| .one 13 false <| .one 14 false .done) (fun V => V.cell? ⟨w.heap.size, 0, none⟩ = some (.int .i64 s) ∧ V.cell? ⟨w.heap.size, 1, none⟩ = some (.int .i64 l)) (by kernel_rfl) (by kernel_rfl) (by kernel_rfl) (by kernel_rfl) ?_
          have hS : w2.drew.cell? ⟨w.heap.size, 0, none⟩ = some (.int .i64 s) ∧ w2.drew.cell? ⟨w.heap.size, 1, none⟩ = some (.int .i64 l) := ⟨c0, c1⟩
          ((first | (refine TR.val2 (v := ?_) _ (by simp only [List.getElem?_toArray, List.getElem?_cons_zero]; rfl) ?_ ?_ ?_ ?_ ?_; rotate_left; (focus rfl); (focus (intro W hSW; (try dsimp only at hSW); (try (obtain ⟨hS1, hSW⟩ := hSW)); (try (obtain ⟨hS2, hSW⟩ := hSW)); (try (obtain ⟨hS3, hSW⟩ := hSW)); (try (obtain ⟨hS4, hSW⟩ := hSW)); (try (obtain ⟨hS5, hSW⟩ := hSW)); go_simp; (try with_reducible rfl); done)); (focus exact fun _ _ _ h => h); (focus assumption)) | (refine TR.skip _ (by simp only [List.getElem?_toArray, List.getElem?_cons_zero]; rfl) ?_ ?_ ?_ ?_; (focus rfl); (focus exact fun _ _ _ h => h); (focus assumption))); simp only [Act.put, List.setIfInBounds_toArray, List.set_cons_zero, List.set_cons_succ])
          iterate 11 ((first | (refine TR.val2 (v := ?_) _ (by simp only [List.getElem?_toArray, List.getElem?_cons_succ, List.getElem?_cons_zero]; rfl) ?_ ?_ ?_ ?_ ?_; rotate_left; (focus rfl); (focus (intro W hSW; (try dsimp only at hSW); (try (obtain ⟨hS1, hSW⟩ := hSW)); (try (obtain ⟨hS2, hSW⟩ := hSW)); (try (obtain ⟨hS3, hSW⟩ := hSW)); (try (obtain ⟨hS4, hSW⟩ := hSW)); (try (obtain ⟨hS5, hSW⟩ := hSW)); go_simp; (try with_reducible rfl); done)); (focus exact fun _ _ _ h => h); (focus assumption)) | (refine TR.skip _ (by simp only [List.getElem?_toArray, List.getElem?_cons_succ, List.getElem?_cons_zero]; rfl) ?_ ?_ ?_ ?_; (focus rfl); (focus exact fun _ _ _ h => h); (focus assumption))); simp only [Act.put, List.setIfInBounds_toArray, List.set_cons_zero, List.set_cons_succ])
          refine TR.eff _ (by simp only [List.getElem?_toArray, List.getElem?_cons_succ, List.getElem?_cons_zero]; rfl) (by rfl) (fun K hK => ?_); go_simp
          refine hK.out _ _ hS ?_
          clear hK
          (try simp only [Act.put, List.setIfInBounds_toArray, List.set_cons_zero, List.set_cons_succ])
          iterate 2 ((first | (refine TR.val2 (v := ?_) _ (by simp only [List.getElem?_toArray, List.getElem?_cons_succ, List.getElem?_cons_zero]; rfl) ?_ ?_ ?_ ?_ ?_; rotate_left; (focus rfl); (focus (intro W hSW; (try dsimp only at hSW); (try (obtain ⟨hS1, hSW⟩ := hSW)); (try (obtain ⟨hS2, hSW⟩ := hSW)); (try (obtain ⟨hS3, hSW⟩ := hSW)); (try (obtain ⟨hS4, hSW⟩ := hSW)); (try (obtain ⟨hS5, hSW⟩ := hSW)); go_simp; (try with_reducible rfl); done)); (focus exact fun _ _ _ h => h); (focus assumption)) | (refine TR.skip _ (by simp only [List.getElem?_toArray, List.getElem?_cons_succ, List.getElem?_cons_zero]; rfl) ?_ ?_ ?_ ?_; (focus rfl); (focus exact fun _ _ _ h => h); (focus assumption))); simp only [Act.put, List.setIfInBounds_toArray, List.set_cons_zero, List.set_cons_succ])
          refine TR.done ?_
          go_wp2
          go_ret3
          exact ⟨by rw [HR.out, HT.out]; (try rw [hq]); rfl, B2.out.drew⟩
  · have d1 : ((chk s l n : Int) != 0) = true := by rw [bne_iff_ne]; omega
    have HR := Lib.hid (show atP s l n k = (0, 0, false) by unfold atP; rw [if_neg (by omega)])
    clear h1
    generalize chk s l n = q at *
    go_wp2
    go_ret3
    exact ⟨by rw [HR.out]; rfl, B2.out⟩
end Go.Proofs.Ytmaehbebpldpcaa
