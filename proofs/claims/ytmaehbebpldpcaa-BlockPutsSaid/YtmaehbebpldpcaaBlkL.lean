/-
  Blocks: lists that came in.
-/
import Derived.Test.YtmaehbebpldpcaaBlkI
import Derived.Test.YtmaehbebpldpcaaArrOpen
import Derived.Deep.Slices
namespace Go.Proofs.Ytmaehbebpldpcaa
open Go.RowKit Go.Shelf Go.WideShapes Go.ChangeShapes
/-- A list of blocks with its digests. -/
structure LX where
  v : LV
  ds : List Dg
def LX.cells (x : LX) : List Value := x.v.cells
theorem LX.cells_len (x : LX) : x.cells.length = 3 := rfl
structure LIn (w : World) (B : Nat) (x : LX) : Prop where
  sz : I64 x.v.sz
  ln : I64 x.v.ln
  r : DReads w B x.v.a x.v.n x.ds
  lc : x.v.n ≤ x.v.c
  cm : x.v.c ≤ maxLen
theorem LIn.below {w w' : World} {B : Nat} {x : LX} (h : LIn w B x) (hb : Below B w w') : LIn w' B x := ⟨h.sz, h.ln, h.r.below hb, h.lc, h.cm⟩
theorem flat_inv {α : Type} {enc : α → List Value} {K : Nat} (hK : 0 < K) (hk : ∀ x, (enc x).length = K) (l : List α) (j : Nat) (u : Value) (h : (l.flatMap enc)[j]? = some u) : ∃ x, l[j / K]? = some x ∧ (enc x)[j % K]? = some u := by
  have hj : j < l.length * K := by
    have := (List.getElem?_eq_some_iff.1 h).1
    rwa [flat_len hk] at this
  have hd : j / K < l.length := Nat.div_lt_of_lt_mul (by rw [Nat.mul_comm]; exact hj)
  refine ⟨l[j / K], List.getElem?_eq_getElem hd, ?_⟩
  have h2 := flat_at hk l (List.getElem?_eq_getElem hd) (Nat.mod_lt j hK)
  rw [← h2, Nat.mul_comm, Nat.div_add_mod, h]
instance : Inhabited Dg := ⟨⟨List.replicate 32 0, by simp⟩⟩
instance : Inhabited LX := ⟨⟨⟨0, 0, none, 0, 0⟩, []⟩⟩
section
variable {H : Type} {enc : TypeId × Value → H} {w : World} {held : Bool} {spare : Nat → Bool} {base : Nat}
set_option maxRecDepth 100000 in
theorem dg_of {fuel : Nat} {cs : List Value} {y : DataW H × List MemPlace} (hf : DataW.trod enc Try.prog w base spare held fuel 59 cs = some y) : ∃ d : Dg, cs = d.cells := by
  have ct : Try.prog.cellsOf 59 = 32 := by kernel_rfl
  have ce : Try.prog.cellsOf 5 = 1 := by kernel_rfl
  have h0 : cs.length = 32 ∧ ∀ i, i < 32 → ∃ z : Int, cs[i]? = some (.int .u8 z) ∧ (Lit.int .u8 z).wf = true := by
    cases fuel with
    | zero => simp [DataW.trod] at hf
    | succ m =>
      unfold DataW.trod at hf
      rw [Try.underlying59] at hf
      dsimp only at hf
      split at hf
      · rename_i hsz
        rw [ct] at hsz
        refine ⟨hsz, fun i hi => ?_⟩
        cases hm : (List.range 32).mapM (fun i => DataW.trod enc Try.prog w base spare held m 5 ((cs.drop (i * Try.prog.cellsOf 5)).take (Try.prog.cellsOf 5))) with
        | none => rw [hm] at hf; cases hf
        | some xs =>
          obtain ⟨y, hy⟩ := mapM_range_some hm i hi
          obtain ⟨z, h1, _, h2⟩ := DataW.trod_int Try.underlying5 hy
          refine ⟨z, ?_, h2⟩
          rw [ce, Nat.mul_one] at h1
          have h3 : ((cs.drop i).take 1)[0]? = some (.int .u8 z) := by rw [h1]; rfl
          rw [List.getElem?_take, if_pos (by omega), List.getElem?_drop, Nat.add_zero] at h3
          exact h3
      · cases hf
  obtain ⟨hl, hc⟩ := h0
  refine ⟨⟨cs.map fun v => match v with | .int _ z => z.toNat | _ => 0, by rw [List.length_map, hl]⟩, ?_⟩
  show cs = (cs.map _).map _
  rw [List.map_map]
  conv => lhs; rw [← List.map_id cs]
  refine List.map_congr_left fun v hv => ?_
  obtain ⟨i, hi, rfl⟩ := List.getElem_of_mem hv
  obtain ⟨z, hz, hw⟩ := hc i (by omega)
  rw [List.getElem?_eq_getElem hi] at hz
  injection hz with hz
  rw [hz]
  simp only [id, Function.comp]
  rw [Int.toNat_of_nonneg (wf_nonneg_u8 z hw)]
set_option maxRecDepth 100000 in
theorem open_dgs {a : Option Addr} {fuel : Nat} {cs : List Value} {y : DataW H × List MemPlace} (hf : DataW.trod enc Try.prog w 0 (fun _ => true) held fuel 22 cs = some y) :
    ∃ a n c ds, cs = [.slice a n c] ∧ DReads w w.heap.size a n ds ∧ n ≤ c ∧ c ≤ maxLen := by
  have hce : Try.prog.cellsOf 59 = 32 := by kernel_rfl
  rcases Go.Deep.open_slice Try.underlying22 hf with ⟨hcs, _⟩ | ⟨ad, len, cap, m, n, D, Pl, hcv, _, hl, hm, hmm, _, hx⟩
  · exact ⟨none, 0, 0, [], hcs, Reads.none_, Nat.le_refl _, by decide⟩
  · have hv : ∀ i, i < len → ∃ z : Dg, ∀ j u, z.cells[j]? = some u → w.cell? (ad.add (i * 32 + j)) = some u := by
      intro i hi
      obtain ⟨cs', h1, h2⟩ := hx i (by rw [hmm]; split <;> omega)
      rw [hce] at h1
      obtain ⟨_, hlen, hcell⟩ := World.cells?_some h1
      obtain ⟨z, rfl⟩ := dg_of h2
      refine ⟨z, fun j u hu => ?_⟩
      have hj := (List.getElem?_eq_some_iff.1 hu).1
      have e := hcell j (by rw [← hlen]; exact hj)
      rw [add_of_add] at e
      rw [e]
      first | exact hu | (rw [← hu]; simp [List.getD_eq_getElem?_getD])
    obtain ⟨q, hq⟩ := Go.Deep.choose_lt hv
    refine ⟨some ad, len, cap, (List.range len).map q, hcv, ⟨by rw [flat_len Dg.cells_len]; simp, fun hn => ⟨ad, rfl, ?_, fun j u hu => ?_⟩⟩, hl, hm⟩
    · obtain ⟨v, hv0⟩ : ∃ v, (q 0).cells[0]? = some v := ⟨_, List.getElem?_eq_getElem (by rw [Dg.cells_len]; omega)⟩
      have h := World.block_lt_of_cell? w _ (hq 0 hn 0 v hv0)
      rwa [block_of_add] at h
    · obtain ⟨x, h1, h2⟩ := flat_inv (by omega) Dg.cells_len _ j u hu
      rw [List.getElem?_map] at h1
      have hi : j / 32 < len := by
        rcases Nat.lt_or_ge (j / 32) len with h | h
        · exact h
        · rw [List.getElem?_eq_none (by simpa using h)] at h1
          cases h1
      rw [List.getElem?_range hi] at h1
      injection h1 with h1
      subst h1
      have := hq (j / 32) hi (j % 32) u h2
      rwa [show j / 32 * 32 + j % 32 = j by omega] at this
set_option maxRecDepth 100000 in
theorem list_of {cs : List Value} {n : Nat} {y : DataW H × List MemPlace} (h : DataW.trod enc Try.prog w 0 (fun _ => true) held n 24 cs = some y) : ∃ x : LX, cs = x.cells ∧ LIn w w.heap.size x := by
  have c0 : Try.prog.cellsOf 24 = 3 := by kernel_rfl
  have c1 : Try.prog.cellsOf 3 = 1 := by kernel_rfl
  have c2 : Try.prog.cellsOf 22 = 1 := by kernel_rfl
  obtain ⟨xs, k, _, _, hl, hxl, hfd⟩ := DataW.trod_struct Try.underlying24 h
  rw [c0] at hl
  match xs, hxl, cs, hl with
  | [y0, y1, y2], _, [v0, v1, v2], _ =>
    have g0 := hfd 0 _ rfl
    have g1 := hfd 1 _ rfl
    have g2 := hfd 2 _ rfl
    simp [c1, c2] at g0 g1 g2
    obtain ⟨z0, r0, _, e0⟩ := DataW.trod_int Try.underlying3 g0
    obtain ⟨z1, r1, _, e1⟩ := DataW.trod_int Try.underlying3 g1
    injection r0 with r0
    injection r1 with r1
    subst r0 r1
    obtain ⟨a, n, c, ds, h3, hr, hlc, hcm⟩ := open_dgs (a := none) g2
    injection h3 with h3
    subst h3
    exact ⟨⟨⟨z0, z1, a, n, c⟩, ds⟩, rfl, e0, e1, hr, hlc, hcm⟩
set_option maxRecDepth 100000 in
theorem open_list {r : Reach} {b0 : Nat} {v : Value} {d : DataW H} {p : List MemPlace} (hv : Value.okWide Try.prog w r b0 24 v) (h : DataW.Trod enc Try.prog w 0 (fun _ => true) held 24 v d p) :
    ∃ x : LX, v = .agg x.cells.toArray ∧ LIn w w.heap.size x := by
  unfold Value.okWide at hv
  rw [Try.underlying24] at hv
  obtain ⟨cs, rfl, h1, _⟩ := hv
  obtain ⟨fuel, hf⟩ := h
  obtain ⟨x, hx, hi⟩ := list_of hf
  refine ⟨x, ?_, hi⟩
  have : cs.toList = x.cells := hx
  rw [← this]
end
end Go.Proofs.Ytmaehbebpldpcaa
