/-
  Blocks: lists, slices of lists, sources and parts that came in.
-/
import Derived.Test.YtmaehbebpldpcaaBlkQ
import Derived.Test.YtmaehbebpldpcaaRowsOpen
import Derived.Deep.Slices
namespace Go.Proofs.Ytmaehbebpldpcaa
open Go.RowKit Go.Shelf Go.WideShapes Go.ChangeShapes
structure LInW (w : World) (B : Nat) (x : LX) : Prop where
  i : LIn w B x
  w8 : ∀ d ∈ x.ds, DgW d
section
variable {H : Type} {enc : TypeId × Value → H} {w : World} {held : Bool} {spare : Nat → Bool} {base : Nat}
set_option maxRecDepth 100000 in
theorem dg_ofW {fuel : Nat} {cs : List Value} {y : DataW H × List MemPlace} (hf : DataW.trod enc Try.prog w base spare held fuel 59 cs = some y) : ∃ d : Dg, cs = d.cells ∧ DgW d := by
  have ct : Try.prog.cellsOf 59 = 32 := by kernel_rfl
  have ce : Try.prog.cellsOf 5 = 1 := by kernel_rfl
  have h0 : cs.length = 32 ∧ ∀ i, i < 32 → ∃ z : Int, cs[i]? = some (.int .u8 z) ∧ (Lit.int .u8 z).wf = true := by
    cases fuel with
    | zero => simp [DataW.trod] at hf
    | succ m =>
      unfold DataW.trod at hf
      rw [Try.underlying59] at hf
      dsimp only at hf
      split at hf
      · rename_i hsz
        rw [ct] at hsz
        refine ⟨hsz, fun i hi => ?_⟩
        cases hm : (List.range 32).mapM (fun i => DataW.trod enc Try.prog w base spare held m 5 ((cs.drop (i * Try.prog.cellsOf 5)).take (Try.prog.cellsOf 5))) with
        | none => rw [hm] at hf; cases hf
        | some xs =>
          obtain ⟨y, hy⟩ := mapM_range_some hm i hi
          obtain ⟨z, h1, _, h2⟩ := DataW.trod_int Try.underlying5 hy
          refine ⟨z, ?_, h2⟩
          rw [ce, Nat.mul_one] at h1
          have h3 : ((cs.drop i).take 1)[0]? = some (.int .u8 z) := by rw [h1]; rfl
          rw [List.getElem?_take, if_pos (by omega), List.getElem?_drop, Nat.add_zero] at h3
          exact h3
      · cases hf
  obtain ⟨hl, hc⟩ := h0
  refine ⟨⟨cs.map fun v => match v with | .int _ z => z.toNat | _ => 0, by rw [List.length_map, hl]⟩, ?_, ?_⟩
  rotate_left
  · intro x hx
    obtain ⟨v, hv, rfl⟩ := List.mem_map.1 (show x ∈ cs.map _ from hx)
    obtain ⟨i, hi, rfl⟩ := List.getElem_of_mem hv
    obtain ⟨z, hz, hw⟩ := hc i (by omega)
    rw [List.getElem?_eq_getElem hi] at hz
    injection hz with hz
    rw [hz]
    have h2 := bounds_u8 hw
    show z.toNat < 256
    omega
  show cs = (cs.map _).map _
  rw [List.map_map]
  conv => lhs; rw [← List.map_id cs]
  refine List.map_congr_left fun v hv => ?_
  obtain ⟨i, hi, rfl⟩ := List.getElem_of_mem hv
  obtain ⟨z, hz, hw⟩ := hc i (by omega)
  rw [List.getElem?_eq_getElem hi] at hz
  injection hz with hz
  rw [hz]
  simp only [id, Function.comp]
  rw [Int.toNat_of_nonneg (wf_nonneg_u8 z hw)]
set_option maxRecDepth 100000 in
theorem open_dgsW {a : Option Addr} {fuel : Nat} {cs : List Value} {y : DataW H × List MemPlace} (hf : DataW.trod enc Try.prog w 0 (fun _ => true) held fuel 22 cs = some y) :
    ∃ a n c ds, cs = [.slice a n c] ∧ DReads w w.heap.size a n ds ∧ n ≤ c ∧ c ≤ maxLen ∧ ∀ d ∈ ds, DgW d := by
  have hce : Try.prog.cellsOf 59 = 32 := by kernel_rfl
  rcases Go.Deep.open_slice Try.underlying22 hf with ⟨hcs, _⟩ | ⟨ad, len, cap, m, n, D, Pl, hcv, _, hl, hm, hmm, _, hx⟩
  · exact ⟨none, 0, 0, [], hcs, Reads.none_, Nat.le_refl _, by decide, by simp⟩
  · have hv : ∀ i, i < len → ∃ z : Dg, (∀ j u, z.cells[j]? = some u → w.cell? (ad.add (i * 32 + j)) = some u) ∧ DgW z := by
      intro i hi
      obtain ⟨cs', h1, h2⟩ := hx i (by rw [hmm]; split <;> omega)
      rw [hce] at h1
      obtain ⟨_, hlen, hcell⟩ := World.cells?_some h1
      obtain ⟨z, rfl, hzw⟩ := dg_ofW h2
      refine ⟨z, fun j u hu => ?_, hzw⟩
      have hj := (List.getElem?_eq_some_iff.1 hu).1
      have e := hcell j (by rw [← hlen]; exact hj)
      rw [add_of_add] at e
      rw [e]
      first | exact hu | (rw [← hu]; simp [List.getD_eq_getElem?_getD])
    obtain ⟨q, hq⟩ := Go.Deep.choose_lt hv
    refine ⟨some ad, len, cap, (List.range len).map q, hcv, ⟨by rw [flat_len Dg.cells_len]; simp, fun hn => ⟨ad, rfl, ?_, fun j u hu => ?_⟩⟩, hl, hm, fun d hd => ?_⟩
    · obtain ⟨v, hv0⟩ : ∃ v, (q 0).cells[0]? = some v := ⟨_, List.getElem?_eq_getElem (by rw [Dg.cells_len]; omega)⟩
      have h := World.block_lt_of_cell? w _ ((hq 0 hn).1 0 v hv0)
      rwa [block_of_add] at h
    · obtain ⟨x, h1, h2⟩ := flat_inv (by omega) Dg.cells_len _ j u hu
      rw [List.getElem?_map] at h1
      have hi : j / 32 < len := by
        rcases Nat.lt_or_ge (j / 32) len with h | h
        · exact h
        · rw [List.getElem?_eq_none (by simpa using h)] at h1
          cases h1
      rw [List.getElem?_range hi] at h1
      injection h1 with h1
      subst h1
      have := (hq (j / 32) hi).1 (j % 32) u h2
      rwa [show j / 32 * 32 + j % 32 = j by omega] at this
    · obtain ⟨i, hi, rfl⟩ := List.mem_map.1 hd
      exact (hq i (List.mem_range.1 hi)).2
set_option maxRecDepth 100000 in
theorem list_ofW {cs : List Value} {n : Nat} {y : DataW H × List MemPlace} (h : DataW.trod enc Try.prog w 0 (fun _ => true) held n 24 cs = some y) : ∃ x : LX, cs = x.cells ∧ LInW w w.heap.size x := by
  have c0 : Try.prog.cellsOf 24 = 3 := by kernel_rfl
  have c1 : Try.prog.cellsOf 3 = 1 := by kernel_rfl
  have c2 : Try.prog.cellsOf 22 = 1 := by kernel_rfl
  obtain ⟨xs, k, _, _, hl, hxl, hfd⟩ := DataW.trod_struct Try.underlying24 h
  rw [c0] at hl
  match xs, hxl, cs, hl with
  | [y0, y1, y2], _, [v0, v1, v2], _ =>
    have g0 := hfd 0 _ rfl
    have g1 := hfd 1 _ rfl
    have g2 := hfd 2 _ rfl
    simp [c1, c2] at g0 g1 g2
    obtain ⟨z0, r0, _, e0⟩ := DataW.trod_int Try.underlying3 g0
    obtain ⟨z1, r1, _, e1⟩ := DataW.trod_int Try.underlying3 g1
    injection r0 with r0
    injection r1 with r1
    subst r0 r1
    obtain ⟨a, n, c, ds, h3, hr, hlc, hcm, hw⟩ := open_dgsW (a := none) g2
    injection h3 with h3
    subst h3
    exact ⟨⟨⟨z0, z1, a, n, c⟩, ds⟩, rfl, ⟨e0, e1, hr, hlc, hcm⟩, hw⟩
set_option maxRecDepth 100000 in
theorem open_listW {r : Reach} {b0 : Nat} {v : Value} {d : DataW H} {p : List MemPlace} (hv : Value.okWide Try.prog w r b0 24 v) (h : DataW.Trod enc Try.prog w 0 (fun _ => true) held 24 v d p) :
    ∃ x : LX, v = .agg x.cells.toArray ∧ LInW w w.heap.size x := by
  unfold Value.okWide at hv
  rw [Try.underlying24] at hv
  obtain ⟨cs, rfl, h1, _⟩ := hv
  obtain ⟨fuel, hf⟩ := h
  obtain ⟨x, hx, hi⟩ := list_ofW hf
  refine ⟨x, ?_, hi⟩
  have : cs.toList = x.cells := hx
  rw [← this]
end
/-- What the walk is told of a slice of lists that came in. -/
def LsIn (w : World) (a : Option Addr) (len cap : Nat) (l : List LX) : Prop := Reads w w.heap.size 3 a len (l.flatMap LX.cells) ∧ (∀ x ∈ l, LInW w w.heap.size x) ∧ len ≤ cap ∧ cap ≤ maxLen
set_option maxRecDepth 100000 in
theorem open_lists {H : Type} {enc : TypeId × Value → H} {W : World} {held : Bool} {a : Option Addr} {len cap : Nat} {d : DataW H} {ps : List MemPlace}
    (hd : DataW.Trod enc Try.prog W 0 (fun _ => true) held 45 (.slice a len cap) d ps) : ∃ l, LsIn W a len cap l := by
  obtain ⟨fuel, hf⟩ := hd
  have hce : Try.prog.cellsOf 24 = 3 := by kernel_rfl
  rcases Go.Deep.open_slice Try.underlying45 hf with ⟨hcs, _⟩ | ⟨ad, len', cap', m, n, D, Pl, hcv, _, hl, hm, hmm, _, hx⟩
  · simp [Value.cells] at hcs
    obtain ⟨rfl, rfl, rfl⟩ := hcs
    exact ⟨[], Reads.none_, by simp, Nat.le_refl _, by decide⟩
  · simp [Value.cells] at hcv
    obtain ⟨rfl, rfl, rfl⟩ := hcv
    have hv : ∀ i, i < len → ∃ z : LX, (∀ j u, z.cells[j]? = some u → W.cell? (ad.add (i * 3 + j)) = some u) ∧ LInW W W.heap.size z := by
      intro i hi
      obtain ⟨cs', h1, h2⟩ := hx i (by rw [hmm]; split <;> omega)
      rw [hce] at h1
      obtain ⟨_, hlen, hcell⟩ := World.cells?_some h1
      obtain ⟨z, rfl, hz⟩ := list_ofW h2
      refine ⟨z, fun j u hu => ?_, hz⟩
      have hj := (List.getElem?_eq_some_iff.1 hu).1
      have e := hcell j (by rw [← hlen]; exact hj)
      rw [add_of_add] at e
      rw [e]
      first | exact hu | (rw [← hu]; simp [List.getD_eq_getElem?_getD])
    obtain ⟨q, hq⟩ := Go.Deep.choose_lt hv
    refine ⟨(List.range len).map q, ⟨by rw [flat_len LX.cells_len]; simp, fun hn => ⟨ad, rfl, ?_, fun j u hu => ?_⟩⟩, fun x hx => ?_, hl, hm⟩
    · have h := World.block_lt_of_cell? W _ ((hq 0 hn).1 0 _ rfl)
      rwa [block_of_add] at h
    · obtain ⟨x, h1, h2⟩ := flat_inv (by omega) LX.cells_len _ j u hu
      rw [List.getElem?_map] at h1
      have hi : j / 3 < len := by
        rcases Nat.lt_or_ge (j / 3) len with h | h
        · exact h
        · rw [List.getElem?_eq_none (by simpa using h)] at h1
          cases h1
      rw [List.getElem?_range hi] at h1
      injection h1 with h1
      subst h1
      have := (hq (j / 3) hi).1 (j % 3) u h2
      rwa [show j / 3 * 3 + j % 3 = j by omega] at this
    · obtain ⟨i, hi, rfl⟩ := List.mem_map.1 hx
      exact (hq i (List.mem_range.1 hi)).2
set_option maxRecDepth 100000 in
theorem src_of {H : Type} {enc : TypeId × Value → H} {w : World} {held : Bool} {cs : List Value} {n : Nat} {y : DataW H × List MemPlace} (h : DataW.trod enc Try.prog w 0 (fun _ => true) held n 47 cs = some y) : ∃ x : Int × Int, cs = srcC x := by
  have c0 : Try.prog.cellsOf 47 = 2 := by kernel_rfl
  have c1 : Try.prog.cellsOf 3 = 1 := by kernel_rfl
  obtain ⟨xs, k, _, _, hl, hxl, hfd⟩ := DataW.trod_struct Try.underlying47 h
  rw [c0] at hl
  match xs, hxl, cs, hl with
  | [y0, y1], _, [v0, v1], _ =>
    have g0 := hfd 0 _ rfl
    have g1 := hfd 1 _ rfl
    simp [c1] at g0 g1
    obtain ⟨z0, r0, _, e0⟩ := DataW.trod_int Try.underlying3 g0
    obtain ⟨z1, r1, _, e1⟩ := DataW.trod_int Try.underlying3 g1
    injection r0 with r0
    injection r1 with r1
    subst r0 r1
    exact ⟨(z0, z1), rfl⟩
/-- What the walk is told of a slice of sources that came in. -/
def SsIn (w : World) (a : Option Addr) (len cap : Nat) (l : List (Int × Int)) : Prop := Reads w w.heap.size 2 a len (l.flatMap srcC) ∧ len ≤ cap ∧ cap ≤ maxLen
set_option maxRecDepth 100000 in
theorem open_srcs {H : Type} {enc : TypeId × Value → H} {W : World} {held : Bool} {a : Option Addr} {len cap : Nat} {d : DataW H} {ps : List MemPlace}
    (hd : DataW.Trod enc Try.prog W 0 (fun _ => true) held 42 (.slice a len cap) d ps) : ∃ l, SsIn W a len cap l := by
  obtain ⟨fuel, hf⟩ := hd
  have hce : Try.prog.cellsOf 47 = 2 := by kernel_rfl
  rcases Go.Deep.open_slice Try.underlying42 hf with ⟨hcs, _⟩ | ⟨ad, len', cap', m, n, D, Pl, hcv, _, hl, hm, hmm, _, hx⟩
  · simp [Value.cells] at hcs
    obtain ⟨rfl, rfl, rfl⟩ := hcs
    exact ⟨[], Reads.none_, Nat.le_refl _, by decide⟩
  · simp [Value.cells] at hcv
    obtain ⟨rfl, rfl, rfl⟩ := hcv
    have hv : ∀ i, i < len → ∃ z : Int × Int, ∀ j u, (srcC z)[j]? = some u → W.cell? (ad.add (i * 2 + j)) = some u := by
      intro i hi
      obtain ⟨cs', h1, h2⟩ := hx i (by rw [hmm]; split <;> omega)
      rw [hce] at h1
      obtain ⟨_, hlen, hcell⟩ := World.cells?_some h1
      obtain ⟨z, rfl⟩ := src_of h2
      refine ⟨z, fun j u hu => ?_⟩
      have hj := (List.getElem?_eq_some_iff.1 hu).1
      have e := hcell j (by rw [← hlen]; exact hj)
      rw [add_of_add] at e
      rw [e]
      first | exact hu | (rw [← hu]; simp [List.getD_eq_getElem?_getD])
    obtain ⟨q, hq⟩ := Go.Deep.choose_lt hv
    refine ⟨(List.range len).map q, ⟨by rw [flat_len srcC_len]; simp, fun hn => ⟨ad, rfl, ?_, fun j u hu => ?_⟩⟩, hl, hm⟩
    · have h := World.block_lt_of_cell? W _ (hq 0 hn 0 _ rfl)
      rwa [block_of_add] at h
    · obtain ⟨x, h1, h2⟩ := flat_inv (by omega) srcC_len _ j u hu
      rw [List.getElem?_map] at h1
      have hi : j / 2 < len := by
        rcases Nat.lt_or_ge (j / 2) len with h | h
        · exact h
        · rw [List.getElem?_eq_none (by simpa using h)] at h1
          cases h1
      rw [List.getElem?_range hi] at h1
      injection h1 with h1
      subst h1
      have := hq (j / 2) hi (j % 2) u h2
      rwa [show j / 2 * 2 + j % 2 = j by omega] at this
/-- What the walk is told of a slice of slices of bytes that came in. -/
def RIn (w : World) (a : Option Addr) (len cap : Nat) (rs : List BRow) : Prop := RowsIn w w.heap.size a len rs ∧ len ≤ cap ∧ cap ≤ maxLen
set_option maxRecDepth 100000 in
theorem open_rin {H : Type} {enc : TypeId × Value → H} {w : World} {held : Bool} {a : Option Addr} {len cap : Nat} {d : DataW H} {p : List MemPlace}
    (h : DataW.Trod enc Try.prog w 0 (fun _ => true) held 49 (.slice a len cap) d p) : ∃ rs, RIn w a len cap rs :=
  open_rows Try.underlying49 Try.underlying25 Try.underlying5 (by kernel_rfl) (by kernel_rfl) rfl h
end Go.Proofs.Ytmaehbebpldpcaa
