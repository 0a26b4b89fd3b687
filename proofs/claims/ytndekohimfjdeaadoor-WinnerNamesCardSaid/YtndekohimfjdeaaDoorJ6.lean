/-
  Arrays of integers that came in, by value.
  Records that came in.
  Cards: the wrap that keeps the world's shape beside a further premise.
  Cards: what the rows list gives the walk of WinnerNames.
-/
import Derived.Test.YtndekohimfjdeaaDoorJ1
import Derived.Test.YtndekohimfjdeaaDoorJ2
import Derived.Test.YtndekohimfjdeaaDoorJ3
import Derived.Test.YtndekohimfjdeaaDoorJ4
import Derived.Test.YtndekohimfjdeaaDoorJ5
import Derived.ChangeArms
import Derived.WideShapes
import Derived.OpenShut
import Derived.Deep.Slices
import Derived.Test.YtndekohimfjdeaaDoorRows
import Derived.Handed
import Derived.SizedLaws
import Derived.LaidMore
import Derived.Stop.Joined
import Derived.Stop.LaidErr
namespace Go.Proofs.YtndekohimfjdeaaDoor
open Go.RowKit Go.WideShapes Go.ChangeShapes
section
variable {H : Type} {enc : TypeId × Value → H} {P : Program} {w : World} {base : Nat} {spare : Nat → Bool} {held : Bool}
theorem okWide_array {r : Reach} {b0 : Nat} {t e : TypeId} {n : Nat} {v : Value} (ht : P.underlying t = some (.array n e)) (h : Value.okWide P w r b0 t v) : ∃ cs, v = .agg cs ∧ cs.size = P.cellsOf t := by
  unfold Value.okWide at h
  rw [ht] at h
  obtain ⟨cs, rfl, h1, _⟩ := h
  exact ⟨cs, rfl, h1⟩
theorem mapM_range_some {α : Type} {f : Nat → Option α} : ∀ {n : Nat} {xs : List α}, (List.range n).mapM f = some xs → ∀ i, i < n → ∃ y, f i = some y := by
  intro n xs h i hi
  have key : ∀ (l : List Nat) (ys : List α), l.mapM f = some ys → ∀ j ∈ l, ∃ y, f j = some y := by
    intro l
    induction l with
    | nil => intro ys _ j hj; cases hj
    | cons a l ih =>
      intro ys hy j hj
      simp only [List.mapM_cons, Option.bind_eq_bind, Option.bind_eq_some_iff] at hy
      obtain ⟨y, hy1, zs, hy2, _⟩ := hy
      rcases List.mem_cons.1 hj with rfl | hj
      · exact ⟨y, hy1⟩
      · exact ih zs hy2 j hj
  exact key _ _ h i (List.mem_range.2 hi)
theorem wf_nonneg_u8 (z : Int) (h : (Lit.int .u8 z).wf = true) : 0 ≤ z := (bounds_u8 h).1
theorem wf_nonneg_u32 (z : Int) (h : (Lit.int .u32 z).wf = true) : 0 ≤ z := (bounds_u32 h).1
/-- An array of unsigned integers, opened. -/
theorem open_array {r : Reach} {b0 : Nat} {t e : TypeId} {n : Nat} {k : IntKind} {v : Value} {d : DataW H} {p : List MemPlace} (ht : P.underlying t = some (.array n e)) (he : P.underlying e = some (.int k)) (ct : P.cellsOf t = n) (ce : P.cellsOf e = 1)
    (hk : ∀ z : Int, (Lit.int k z).wf = true → 0 ≤ z) (hv : Value.okWide P w r b0 t v) (h : DataW.Trod enc P w base spare held t v d p) :
    ∃ zs : List Nat, v = .agg (zs.map fun x : Nat => Value.int k (x : Int)).toArray ∧ zs.length = n ∧ ∀ x ∈ zs, (Lit.int k (x : Int)).wf = true := by
  obtain ⟨cs, rfl, hsz⟩ := okWide_array ht hv
  obtain ⟨fuel, hf⟩ := h
  have hcell : ∀ i, i < n → ∃ z : Int, cs[i]? = some (.int k z) ∧ (Lit.int k z).wf = true := by
    intro i hi
    cases fuel with
    | zero => simp [DataW.trod] at hf
    | succ m =>
      unfold DataW.trod at hf
      rw [ht] at hf
      dsimp only at hf
      rw [if_pos (show (Value.agg cs).cells.toList.length = P.cellsOf t by show cs.toList.length = _; rw [Array.length_toList, hsz])] at hf
      simp only [Value.cells] at hf
      · cases hm : (List.range n).mapM (fun i => DataW.trod enc P w base spare held m e ((cs.toList.drop (i * P.cellsOf e)).take (P.cellsOf e))) with
        | none => rw [hm] at hf; cases hf
        | some xs =>
          obtain ⟨y, hy⟩ := mapM_range_some hm i hi
          obtain ⟨z, h1, _, h2⟩ := DataW.trod_int he hy
          refine ⟨z, ?_, h2⟩
          rw [ce, Nat.mul_one] at h1
          have h3 : ((cs.toList.drop i).take 1)[0]? = some (.int k z) := by rw [h1]; rfl
          rw [List.getElem?_take, if_pos (by omega), List.getElem?_drop, Nat.add_zero] at h3
          rw [← h3, Array.getElem?_toList]
  have hlen : cs.toList.length = n := by rw [Array.length_toList, hsz, ct]
  refine ⟨cs.toList.map fun v => match v with | .int _ z => z.toNat | _ => 0, ?_, by rw [List.length_map, hlen], ?_⟩
  · congr 1
    apply Array.ext'
    rw [List.map_map]
    show cs.toList = cs.toList.map _
    conv => lhs; rw [← List.map_id cs.toList]
    refine List.map_congr_left fun v hv => ?_
    obtain ⟨i, hi, rfl⟩ := List.getElem_of_mem hv
    obtain ⟨z, hz, hw⟩ := hcell i (by omega)
    have hz2 : cs.toList[i] = .int k z := by
      have : cs.toList[i]? = some (.int k z) := by rw [Array.getElem?_toList]; exact hz
      rw [List.getElem?_eq_getElem hi] at this
      injection this
    rw [hz2]
    simp only [id, Function.comp]
    rw [Int.toNat_of_nonneg (hk z hw)]
  · intro x hx
    obtain ⟨v, hv, rfl⟩ := List.mem_map.1 hx
    obtain ⟨i, hi, rfl⟩ := List.getElem_of_mem hv
    obtain ⟨z, hz, hw⟩ := hcell i (by omega)
    have hz2 : cs.toList[i] = .int k z := by
      have : cs.toList[i]? = some (.int k z) := by rw [Array.getElem?_toList]; exact hz
      rw [List.getElem?_eq_getElem hi] at this
      injection this
    rw [hz2]
    simp only []
    rw [Int.toNat_of_nonneg (hk z hw)]
    exact hw
end
end Go.Proofs.YtndekohimfjdeaaDoor

namespace Go.Proofs.YtndekohimfjdeaaDoor
open Go.RowKit Go.Shelf Go.WideShapes Go.ChangeShapes
theorem flat_inv {α : Type} {enc : α → List Value} {K : Nat} (hK : 0 < K) (hk : ∀ x, (enc x).length = K) (l : List α) (j : Nat) (u : Value) (h : (l.flatMap enc)[j]? = some u) : ∃ x, l[j / K]? = some x ∧ (enc x)[j % K]? = some u := by
  have hj : j < l.length * K := by
    have := (List.getElem?_eq_some_iff.1 h).1
    rwa [flat_len hk] at this
  have hd : j / K < l.length := Nat.div_lt_of_lt_mul (by rw [Nat.mul_comm]; exact hj)
  refine ⟨l[j / K], List.getElem?_eq_getElem hd, ?_⟩
  have h2 := flat_at hk l (List.getElem?_eq_getElem hd) (Nat.mod_lt j hK)
  rw [← h2, Nat.mul_comm, Nat.div_add_mod, h]
instance : Inhabited Dg := ⟨⟨List.replicate 32 0, by simp⟩⟩
section
variable {H : Type} {enc : TypeId × Value → H} {w : World} {held : Bool}
set_option maxRecDepth 100000 in
/-- A slice of structs (or plain values) that came in. -/
theorem open_of {α : Type} [Inhabited α] {ec : α → List Value} {K : Nat} (hK : 0 < K) (hk : ∀ x, (ec x).length = K) {Pz : α → Prop} {t e : TypeId} (hu : Tryd.prog.underlying t = some (.slice e)) (hce : Tryd.prog.cellsOf e = K)
    (hone : ∀ {fuel : Nat} {cs : List Value} {y : DataW H × List MemPlace}, DataW.trod enc Tryd.prog w 0 (fun _ => true) held fuel e cs = some y → ∃ z : α, cs = ec z ∧ Pz z)
    {fuel : Nat} {cs : List Value} {y : DataW H × List MemPlace} (hf : DataW.trod enc Tryd.prog w 0 (fun _ => true) held fuel t cs = some y) :
    ∃ (a : Option Addr) (n c : Nat) (l : List α), cs = [.slice a n c] ∧ Reads w w.heap.size K a n (l.flatMap ec) ∧ (∀ x ∈ l, Pz x) ∧ n ≤ c ∧ c ≤ maxLen := by
  rcases Go.Deep.open_slice hu hf with ⟨hcs, _⟩ | ⟨ad, len, cap, m, n, D, Pl, hcv, _, hl, hm, hmm, _, hx⟩
  · exact ⟨none, 0, 0, [], hcs, Reads.none_, by simp, Nat.le_refl _, by decide⟩
  · have hv : ∀ i, i < len → ∃ z : α, (∀ j u, (ec z)[j]? = some u → w.cell? (ad.add (i * K + j)) = some u) ∧ Pz z := by
      intro i hi
      obtain ⟨cs', h1, h2⟩ := hx i (by rw [hmm]; split <;> omega)
      rw [hce] at h1
      obtain ⟨_, hlen, hcell⟩ := World.cells?_some h1
      obtain ⟨z, rfl, hz⟩ := hone h2
      refine ⟨z, fun j u hu => ?_, hz⟩
      have hj := (List.getElem?_eq_some_iff.1 hu).1
      have e := hcell j (by rw [← hlen]; exact hj)
      rw [add_of_add] at e
      rw [e]
      first | exact hu | (rw [← hu]; simp [List.getD_eq_getElem?_getD])
    obtain ⟨q, hq⟩ := Go.Deep.choose_lt hv
    refine ⟨some ad, len, cap, (List.range len).map q, hcv, ⟨by rw [flat_len hk]; simp, fun hn => ⟨ad, rfl, ?_, fun j u hu => ?_⟩⟩, fun x hx => ?_, hl, hm⟩
    · obtain ⟨v, hv0⟩ : ∃ v, (ec (q 0))[0]? = some v := ⟨_, List.getElem?_eq_getElem (by rw [hk]; exact hK)⟩
      have hn0 : 0 < len := by
        rcases Nat.eq_zero_or_pos len with h | h
        · subst h; simp at hn
        · exact h
      have h := World.block_lt_of_cell? w _ ((hq 0 hn0).1 0 v hv0)
      rwa [block_of_add] at h
    · obtain ⟨x, h1, h2⟩ := flat_inv hK hk _ j u hu
      rw [List.getElem?_map] at h1
      have hi : j / K < len := by
        rcases Nat.lt_or_ge (j / K) len with h | h
        · exact h
        · rw [List.getElem?_eq_none (by simpa using h)] at h1
          cases h1
      rw [List.getElem?_range hi] at h1
      injection h1 with h1
      subst h1
      have := (hq (j / K) hi).1 (j % K) u h2
      rwa [show j / K * K + j % K = j by rw [Nat.mul_comm]; exact Nat.div_add_mod j K] at this
    · obtain ⟨i, hi, rfl⟩ := List.mem_map.1 hx
      exact (hq i (List.mem_range.1 hi)).2
set_option maxRecDepth 100000 in
theorem dg_of {fuel : Nat} {cs : List Value} {y : DataW H × List MemPlace} (hf : DataW.trod enc Tryd.prog w 0 (fun _ => true) held fuel 71 cs = some y) : ∃ d : Dg, cs = d.cells := by
  have ct : Tryd.prog.cellsOf 71 = 32 := by kernel_rfl
  have ce : Tryd.prog.cellsOf 5 = 1 := by kernel_rfl
  have h0 : cs.length = 32 ∧ ∀ i, i < 32 → ∃ z : Int, cs[i]? = some (.int .u8 z) ∧ (Lit.int .u8 z).wf = true := by
    cases fuel with
    | zero => simp [DataW.trod] at hf
    | succ m =>
      unfold DataW.trod at hf
      rw [Tryd.underlying71] at hf
      dsimp only at hf
      split at hf
      · rename_i hsz
        rw [ct] at hsz
        refine ⟨hsz, fun i hi => ?_⟩
        cases hm : (List.range 32).mapM (fun i => DataW.trod enc Tryd.prog w 0 (fun _ => true) held m 5 ((cs.drop (i * Tryd.prog.cellsOf 5)).take (Tryd.prog.cellsOf 5))) with
        | none => rw [hm] at hf; cases hf
        | some xs =>
          obtain ⟨y, hy⟩ := mapM_range_some hm i hi
          obtain ⟨z, h1, _, h2⟩ := DataW.trod_int Tryd.underlying5 hy
          refine ⟨z, ?_, h2⟩
          rw [ce, Nat.mul_one] at h1
          have h3 : ((cs.drop i).take 1)[0]? = some (.int .u8 z) := by rw [h1]; rfl
          rw [List.getElem?_take, if_pos (by omega), List.getElem?_drop, Nat.add_zero] at h3
          exact h3
      · cases hf
  obtain ⟨hl, hc⟩ := h0
  refine ⟨⟨cs.map fun v => match v with | .int _ z => z.toNat | _ => 0, by rw [List.length_map, hl]⟩, ?_⟩
  show cs = (cs.map _).map _
  rw [List.map_map]
  conv => lhs; rw [← List.map_id cs]
  refine List.map_congr_left fun v hv => ?_
  obtain ⟨i, hi, rfl⟩ := List.getElem_of_mem hv
  obtain ⟨z, hz, hw⟩ := hc i (by omega)
  rw [List.getElem?_eq_getElem hi] at hz
  injection hz with hz
  rw [hz]
  simp only [id, Function.comp]
  rw [Int.toNat_of_nonneg (wf_nonneg_u8 z hw)]
set_option maxRecDepth 100000 in
theorem cnt_of {fuel : Nat} {cs : List Value} {y : DataW H × List MemPlace} (h : DataW.trod enc Tryd.prog w 0 (fun _ => true) held fuel 49 cs = some y) : ∃ x : Int × Nat, cs = cntC x ∧ x.2 < 18446744073709551616 := by
  have c0 : Tryd.prog.cellsOf 49 = 2 := by kernel_rfl
  have c1 : Tryd.prog.cellsOf 3 = 1 := by kernel_rfl
  have c2 : Tryd.prog.cellsOf 47 = 1 := by kernel_rfl
  obtain ⟨xs, k, _, _, hl, hxl, hfd⟩ := DataW.trod_struct Tryd.underlying49 h
  rw [c0] at hl
  match xs, hxl, cs, hl with
  | [y0, y1], _, [v0, v1], _ =>
    have g0 := hfd 0 _ rfl
    have g1 := hfd 1 _ rfl
    simp [c1, c2] at g0 g1
    obtain ⟨z0, r0, _, _⟩ := DataW.trod_int Tryd.underlying3 g0
    obtain ⟨z1, r1, _, w1⟩ := DataW.trod_int Tryd.underlying47 g1
    injection r0 with r0
    injection r1 with r1
    subst r0 r1
    have hb := bounds_u64 w1
    obtain ⟨x, rfl⟩ := Int.eq_ofNat_of_zero_le hb.1
    exact ⟨(z0, x), rfl, by dsimp only; omega⟩
/-- A record that came in. -/
structure Rx where
  r : Rcd
  a : RSh
def Rx.cells (x : Rx) : List Value := rcC (x.r, x.a)
structure RxIn (w : World) (B : Nat) (x : Rx) : Prop where
  i : RIn w B x.r x.a
  n : x.a.n ≤ maxLen
  m : x.a.m ≤ maxLen
set_option maxRecDepth 100000 in
theorem rec_of {cs : List Value} {n : Nat} {y : DataW H × List MemPlace} (h : DataW.trod enc Tryd.prog w 0 (fun _ => true) held n 27 cs = some y) : ∃ x : Rx, cs = x.cells ∧ RxIn w w.heap.size x := by
  have c0 : Tryd.prog.cellsOf 27 = 7 := by kernel_rfl
  have c1 : Tryd.prog.cellsOf 3 = 1 := by kernel_rfl
  have c2 : Tryd.prog.cellsOf 23 = 1 := by kernel_rfl
  have c3 : Tryd.prog.cellsOf 9 = 1 := by kernel_rfl
  have c4 : Tryd.prog.cellsOf 4 = 1 := by kernel_rfl
  have c5 : Tryd.prog.cellsOf 22 = 1 := by kernel_rfl
  have c6 : Tryd.prog.cellsOf 25 = 3 := by kernel_rfl
  obtain ⟨xs, k, _, _, hl, hxl, hfd⟩ := DataW.trod_struct Tryd.underlying27 h
  rw [c0] at hl
  match xs, hxl, cs, hl with
  | [y0, y1, y2, y3, y4], _, [v0, v1, v2, v3, v4, v5, v6], _ =>
    have g0 := hfd 0 _ rfl
    have g1 := hfd 1 _ rfl
    have g2 := hfd 2 _ rfl
    have g3 := hfd 3 _ rfl
    have g4 := hfd 4 _ rfl
    simp [c1, c3, c4, c5, c6] at g0 g1 g2 g3 g4
    obtain ⟨s, r0, _, _⟩ := DataW.trod_string Tryd.underlying9 g0
    injection r0 with r0
    subst r0
    obtain ⟨a, n1, cc, lv, h1, hr1, hp1, hlc1, hcm1⟩ := open_of (ec := cntC) (K := 2) (by decide) (fun _ => rfl) Tryd.underlying22 (by kernel_rfl) cnt_of g1
    injection h1 with h1
    subst h1
    obtain ⟨z2, r2, _, _⟩ := DataW.trod_int Tryd.underlying3 g2
    injection r2 with r2
    subst r2
    obtain ⟨z3, r3, _⟩ := DataW.trod_bool Tryd.underlying4 g3
    injection r3 with r3
    subst r3
    have k0 : Tryd.prog.cellsOf 25 = 3 := by kernel_rfl
    obtain ⟨xs', k', _, _, hl', hxl', hfd'⟩ := DataW.trod_struct Tryd.underlying25 g4
    match xs', hxl' with
    | [q0, q1, q2], _ =>
      have f0 := hfd' 0 _ rfl
      have f1 := hfd' 1 _ rfl
      have f2 := hfd' 2 _ rfl
      simp [c1, c2] at f0 f1 f2
      obtain ⟨z4, r4, _, _⟩ := DataW.trod_int Tryd.underlying3 f0
      obtain ⟨z5, r5, _, _⟩ := DataW.trod_int Tryd.underlying3 f1
      injection r4 with r4
      injection r5 with r5
      subst r4 r5
      obtain ⟨D, m1, kk, ds, h6, hr6, _, hlc6, hcm6⟩ := open_of (ec := Dg.cells) (K := 32) (by decide) Dg.cells_len Tryd.underlying23 (by kernel_rfl) (Pz := fun _ => True) (fun h => by obtain ⟨d, hd⟩ := dg_of h; exact ⟨d, hd, trivial⟩) f2
      injection h6 with h6
      subst h6
      refine ⟨⟨⟨s.data.toList, lv, z2, z3, z4, z5, ds⟩, ⟨a, n1, cc, D, m1, kk⟩⟩, ?_, ⟨⟨?_, hr6, fun x hx => hp1 x hx⟩, Nat.le_trans hlc1 hcm1, Nat.le_trans hlc6 hcm6⟩⟩
      · simp only [Rx.cells, rcC, ← st_of]
      · show Reads _ _ 2 _ _ (cntsC lv)
        rw [show cntsC lv = lv.flatMap cntC from (List.flatMap_def).symm]
        exact hr1
instance : Inhabited Rx := ⟨⟨⟨[], [], 0, false, 0, 0, []⟩, ⟨none, 0, 0, none, 0, 0⟩⟩⟩
set_option maxRecDepth 100000 in
theorem open_rec {r : Reach} {b0 : Nat} {v : Value} {d : DataW H} {p : List MemPlace} (hv : Value.okWide Tryd.prog w r b0 27 v) (h : DataW.Trod enc Tryd.prog w 0 (fun _ => true) held 27 v d p) :
    ∃ x : Rx, v = .agg x.cells.toArray ∧ RxIn w w.heap.size x := by
  unfold Value.okWide at hv
  rw [Tryd.underlying27] at hv
  obtain ⟨cs, rfl, h1, _⟩ := hv
  obtain ⟨fuel, hf⟩ := h
  obtain ⟨x, hx, hi⟩ := rec_of hf
  refine ⟨x, ?_, hi⟩
  have : cs.toList = x.cells := hx
  rw [← this]
end
theorem envM_of {W : World} (hS : W.ShapedOpen Tryd.prog) : EnvM W :=
  ⟨Go.Proofs.cell_of_shapedOpen_int (zero := #[.int .i64 0]) (t := 3) hS (of_decide_eq_true (by kernel_rfl)) (by kernel_rfl) rfl (by kernel_rfl) (by kernel_rfl) Tryd.underlying3⟩
end Go.Proofs.YtndekohimfjdeaaDoor

namespace Go.Proofs.YtndekohimfjdeaaDoor
open Go Go.RowKit Go.ChangeShapes Go.WideShapes Go.ChangeAt
variable {H : Type} {enc : TypeId × Value → H}
theorem returns_and_shaped {a : Assume} {C : Checked} {os : Os} {f : FuncId} {fn : Func} {s : ChangeSpec} {conds : List PathCond} {apart fresh handsOn again : Bool} {X : World → Array Value → Prop}
    (hX : ∀ (w w' : World) (args : Array Value), w.heap = w'.heap → X w args → X w' args)
    (own : ownKnob C.prog.godebug = none) (started : os.Started) (noInit : C.prog.inits.idxOf? f = none) (hfn : C.prog.funcs[f]? = some fn)
    (witness : ∃ (w : World) (tape : Tape) (i : Input), w.os = os ∧ (w.forCall tape i).Shaped C.prog ∧ i.vars = [] ∧ Input.okWide C.prog (w.forCall tape i) .any w.heap.size f i ∧
      ((s.pre enc C.prog fn conds apart (w.forCall tape i).memory i.args ∧ X (w.forCall tape i).memory i.args) ∧ sizedMet enc C.prog fn (OpenSpec.ofChange s) apart (w.forCall tape i).memory i.args) ∧ a.holds C.prog (lone (Frame.enter C.prog f i.args .normal) [] (w.forCall tape i)))
    (contract : ∀ (W : World) (base : Nat) (args : Array Value) (ds gs : List (DataW H)) (before : List MemPlace),
      (∀ (j : Nat) t v, fn.params[j]? = some t → args[j]? = some v → Value.okWide C.prog W .any base t v) →
      DataW.Whole enc C.prog fn.params.toList s.vars apart W args.toList ds gs before →
      conds.all (PathCond.test C.prog ⟨fn.params.toList, ds, s.plain.varTypes C.prog, gs⟩) = true →
      (DataW.weightsEach C.prog (fn.params.toList ++ s.plain.varTypes C.prog) (ds ++ gs)).all (· ≤ reachBytes) = true → X W args →
      W.ShapedOpen C.prog →
      Calls C.prog f args W fun e W' => ∃ v, e = .returned v ∧ s.post enc C.prog fn apart fresh handsOn again W args v W') :
    ReturnsInHanded a C os f .any (fun w args => (s.pre enc C.prog fn conds apart w args ∧ X w args) ∧ sizedMet enc C.prog fn (OpenSpec.ofChange s) apart w args) (s.post enc C.prog fn apart fresh handsOn again) := by
  refine returnsInHanded_of_calls own started noInit witness ?_
  intro w tape i _ hsh _ hok hpre hholds
  obtain ⟨_, _, _, fn', hfn', _, _, _, _, hval⟩ := hok
  have e : fn' = fn := Option.some.inj (hfn'.symm.trans hfn)
  subst e
  obtain ⟨⟨⟨ds, gs, before, hw, hc⟩, hx⟩, hz⟩ := hpre
  have hw' := DataW.Whole.of_heap (w' := w.forCall tape i) (by rfl) hw
  refine (contract (w.forCall tape i) w.heap.size i.args ds gs before hval hw' hc (hz.weights hw) (hX _ _ _ (by rfl) hx) hsh).mono fun e W' ⟨v, he, hp⟩ => ?_
  subst he
  exact ChangeSpec.post_blind hp
end Go.Proofs.YtndekohimfjdeaaDoor

namespace Go.Proofs.YtndekohimfjdeaaDoor
open Go Go.RowKit
theorem tPow : (Tryd.prog.globals[1]?).map (·.type) = some 109 := by kernel_rfl
theorem cPow : Tryd.prog.cellsOf 109 = 20 := by kernel_rfl
theorem cU64 : Tryd.prog.cellsOf 47 = 1 := by kernel_rfl
theorem env_ofN {W : World} (hL : laidMetH Tryd.prog Rows.winnerNamesRow.laid W) (hS : W.ShapedOpen Tryd.prog) : Env W := by
  refine ⟨(envM_of hS).mx, ?_⟩
  rw [MakeChecks.laidMetH_plain _ _ _ (by kernel_rfl)] at hL
  have h2 := laidMet.tail (laidMet.tail hL)
  exact Lib.tabIs_of_head gPow tPow Tryd.underlying109 Tryd.underlying47 cU64 cPow h2
end Go.Proofs.YtndekohimfjdeaaDoor
