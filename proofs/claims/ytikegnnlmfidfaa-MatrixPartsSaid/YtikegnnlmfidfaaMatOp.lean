/-
  Matrices that came in.
-/
import Derived.Test.YtikegnnlmfidfaaMatFa
import Derived.Test.YtikegnnlmfidfaaArrOpen
import Derived.Deep.Slices
namespace Go.Proofs.Ytikegnnlmfidfaa
open Go.RowKit Go.WideShapes Go.ChangeShapes
theorem flat_inv {α : Type} {enc : α → List Value} {K : Nat} (hK : 0 < K) (hk : ∀ x, (enc x).length = K) (l : List α) (j : Nat) (u : Value) (h : (l.flatMap enc)[j]? = some u) : ∃ x, l[j / K]? = some x ∧ (enc x)[j % K]? = some u := by
  have hj : j < l.length * K := by
    have := (List.getElem?_eq_some_iff.1 h).1
    rwa [flat_len hk] at this
  have hd : j / K < l.length := Nat.div_lt_of_lt_mul (by rw [Nat.mul_comm]; exact hj)
  refine ⟨l[j / K], List.getElem?_eq_getElem hd, ?_⟩
  have h2 := flat_at hk l (List.getElem?_eq_getElem hd) (Nat.mod_lt j hK)
  rw [← h2, Nat.mul_comm, Nat.div_add_mod, h]
section
variable {H : Type} {enc : TypeId × Value → H} {w : World} {held : Bool}
set_option maxRecDepth 100000 in
/-- A slice of structs (or plain values) that came in. -/
theorem open_of {α : Type} [Inhabited α] {ec : α → List Value} {K : Nat} (hK : 0 < K) (hk : ∀ x, (ec x).length = K) {Pz : α → Prop} {t e : TypeId} (hu : Try.prog.underlying t = some (.slice e)) (hce : Try.prog.cellsOf e = K)
    (hone : ∀ {fuel : Nat} {cs : List Value} {y : DataW H × List MemPlace}, DataW.trod enc Try.prog w 0 (fun _ => true) held fuel e cs = some y → ∃ z : α, cs = ec z ∧ Pz z)
    {fuel : Nat} {cs : List Value} {y : DataW H × List MemPlace} (hf : DataW.trod enc Try.prog w 0 (fun _ => true) held fuel t cs = some y) :
    ∃ (a : Option Addr) (n c : Nat) (l : List α), cs = [.slice a n c] ∧ Reads w w.heap.size K a n (l.flatMap ec) ∧ (∀ x ∈ l, Pz x) ∧ n ≤ c ∧ c ≤ maxLen := by
  rcases Go.Deep.open_slice hu hf with ⟨hcs, _⟩ | ⟨ad, len, cap, m, n, D, Pl, hcv, _, hl, hm, hmm, _, hx⟩
  · exact ⟨none, 0, 0, [], hcs, Reads.none_, by simp, Nat.le_refl _, by decide⟩
  · have hv : ∀ i, i < len → ∃ z : α, (∀ j u, (ec z)[j]? = some u → w.cell? (ad.add (i * K + j)) = some u) ∧ Pz z := by
      intro i hi
      obtain ⟨cs', h1, h2⟩ := hx i (by rw [hmm]; split <;> omega)
      rw [hce] at h1
      obtain ⟨_, hlen, hcell⟩ := World.cells?_some h1
      obtain ⟨z, rfl, hz⟩ := hone h2
      refine ⟨z, fun j u hu => ?_, hz⟩
      have hj := (List.getElem?_eq_some_iff.1 hu).1
      have e := hcell j (by rw [← hlen]; exact hj)
      rw [add_of_add] at e
      rw [e]
      first | exact hu | (rw [← hu]; simp [List.getD_eq_getElem?_getD])
    obtain ⟨q, hq⟩ := Go.Deep.choose_lt hv
    refine ⟨some ad, len, cap, (List.range len).map q, hcv, ⟨by rw [flat_len hk]; simp, fun hn => ⟨ad, rfl, ?_, fun j u hu => ?_⟩⟩, fun x hx => ?_, hl, hm⟩
    · obtain ⟨v, hv0⟩ : ∃ v, (ec (q 0))[0]? = some v := ⟨_, List.getElem?_eq_getElem (by rw [hk]; exact hK)⟩
      have hn0 : 0 < len := by
        rcases Nat.eq_zero_or_pos len with h | h
        · subst h; simp at hn
        · exact h
      have h := World.block_lt_of_cell? w _ ((hq 0 hn0).1 0 v hv0)
      rwa [block_of_add] at h
    · obtain ⟨x, h1, h2⟩ := flat_inv hK hk _ j u hu
      rw [List.getElem?_map] at h1
      have hi : j / K < len := by
        rcases Nat.lt_or_ge (j / K) len with h | h
        · exact h
        · rw [List.getElem?_eq_none (by simpa using h)] at h1
          cases h1
      rw [List.getElem?_range hi] at h1
      injection h1 with h1
      subst h1
      have := (hq (j / K) hi).1 (j % K) u h2
      rwa [show j / K * K + j % K = j by rw [Nat.mul_comm]; exact Nat.div_add_mod j K] at this
    · obtain ⟨i, hi, rfl⟩ := List.mem_map.1 hx
      exact (hq i (List.mem_range.1 hi)).2
instance : Inhabited Rw := ⟨⟨⟨#[]⟩, none, 0, 0, []⟩⟩
instance : Inhabited Mx := ⟨⟨0, none, 0, 0, []⟩⟩
set_option maxRecDepth 100000 in
theorem open_is {fuel : Nat} {cs : List Value} {y : DataW H × List MemPlace} (hf : DataW.trod enc Try.prog w 0 (fun _ => true) held fuel 35 cs = some y) :
    ∃ a n c ds, cs = [.slice a n c] ∧ IReads w w.heap.size a n ds ∧ n ≤ c ∧ c ≤ maxLen := by
  obtain ⟨a, n, c, l, h1, h2, _, h3, h4⟩ := open_of (α := Int) (ec := fun z => [.int .i64 z]) (K := 1) (Pz := fun _ => True) (by decide) (fun _ => rfl) Try.underlying35 (by kernel_rfl) (fun h => by
    obtain ⟨z, r0, _, _⟩ := DataW.trod_int Try.underlying3 h
    exact ⟨z, r0, trivial⟩) hf
  refine ⟨a, n, c, l, h1, ?_, h3, h4⟩
  have e : l.flatMap (fun z => [Value.int .i64 z]) = l.map (Value.int .i64) := by
    clear h2
    induction l with
    | nil => rfl
    | cons z l ih => rw [List.flatMap_cons, ih (fun _ _ => trivial)]; rfl
  rw [e] at h2
  exact h2
set_option maxRecDepth 100000 in
theorem row_of {fuel : Nat} {cs : List Value} {y : DataW H × List MemPlace} (h : DataW.trod enc Try.prog w 0 (fun _ => true) held fuel 56 cs = some y) : ∃ r : Rw, cs = r.cells ∧ RwIn w w.heap.size r := by
  have c0 : Try.prog.cellsOf 56 = 2 := by kernel_rfl
  have c1 : Try.prog.cellsOf 9 = 1 := by kernel_rfl
  have c2 : Try.prog.cellsOf 35 = 1 := by kernel_rfl
  obtain ⟨xs, k, _, _, hl, hxl, hfd⟩ := DataW.trod_struct Try.underlying56 h
  rw [c0] at hl
  match xs, hxl, cs, hl with
  | [y0, y1], _, [v0, v1], _ =>
    have g0 := hfd 0 _ rfl
    have g1 := hfd 1 _ rfl
    simp [c1, c2] at g0 g1
    obtain ⟨s, r0, _, e0⟩ := DataW.trod_string Try.underlying9 g0
    injection r0 with r0
    subst r0
    obtain ⟨a, n, c, ds, h3, hr, hlc, hcm⟩ := open_is g1
    injection h3 with h3
    subst h3
    exact ⟨⟨s, a, n, c, ds⟩, rfl, hr, hlc, hcm, e0⟩
set_option maxRecDepth 100000 in
theorem mat_of {fuel : Nat} {cs : List Value} {y : DataW H × List MemPlace} (h : DataW.trod enc Try.prog w 0 (fun _ => true) held fuel 27 cs = some y) : ∃ m : Mx, cs = m.cells ∧ MxIn w w.heap.size m := by
  have c0 : Try.prog.cellsOf 27 = 2 := by kernel_rfl
  have c1 : Try.prog.cellsOf 3 = 1 := by kernel_rfl
  have c2 : Try.prog.cellsOf 25 = 1 := by kernel_rfl
  obtain ⟨xs, k, _, _, hl, hxl, hfd⟩ := DataW.trod_struct Try.underlying27 h
  rw [c0] at hl
  match xs, hxl, cs, hl with
  | [y0, y1], _, [v0, v1], _ =>
    have g0 := hfd 0 _ rfl
    have g1 := hfd 1 _ rfl
    simp [c1, c2] at g0 g1
    obtain ⟨z, r0, _, e0⟩ := DataW.trod_int Try.underlying3 g0
    injection r0 with r0
    subst r0
    obtain ⟨a, n, c, rs, h3, hr, he, hlc, hcm⟩ := open_of (ec := Rw.cells) (K := 2) (by decide) Rw.cells_len Try.underlying25 (by kernel_rfl) row_of g1
    injection h3 with h3
    subst h3
    exact ⟨⟨z, a, n, c, rs⟩, rfl, ⟨hr, he⟩, Nat.le_trans hlc hcm⟩
set_option maxRecDepth 100000 in
theorem open_mat {r : Reach} {b0 : Nat} {v : Value} {d : DataW H} {p : List MemPlace} (hv : Value.okWide Try.prog w r b0 27 v) (h : DataW.Trod enc Try.prog w 0 (fun _ => true) held 27 v d p) :
    ∃ m : Mx, v = .agg m.cells.toArray ∧ MxIn w w.heap.size m := by
  unfold Value.okWide at hv
  rw [Try.underlying27] at hv
  obtain ⟨cs, rfl, h1, _⟩ := hv
  obtain ⟨fuel, hf⟩ := h
  obtain ⟨m, hm, hi⟩ := mat_of hf
  refine ⟨m, ?_, hi⟩
  have : cs.toList = m.cells := hm
  rw [← this]
end
/-- What the walk is told of a slice of matrices that came in. -/
def MsIn (w : World) (a : Option Addr) (len cap : Nat) (l : List Mx) : Prop := MatsR w w.heap.size a len l ∧ len ≤ cap ∧ cap ≤ maxLen
set_option maxRecDepth 100000 in
theorem open_mats {H : Type} {enc : TypeId × Value → H} {W : World} {held : Bool} {a : Option Addr} {len cap : Nat} {d : DataW H} {ps : List MemPlace}
    (hd : DataW.Trod enc Try.prog W 0 (fun _ => true) held 22 (.slice a len cap) d ps) : ∃ l, MsIn W a len cap l := by
  obtain ⟨fuel, hf⟩ := hd
  obtain ⟨a', n', c', l, h1, h2, h3, h4, h5⟩ := open_of (ec := Mx.cells) (K := 2) (by decide) Mx.cells_len Try.underlying22 (by kernel_rfl) mat_of hf
  simp [Value.cells] at h1
  obtain ⟨rfl, rfl, rfl⟩ := h1
  exact ⟨l, ⟨h2, h3⟩, h4, h5⟩
end Go.Proofs.Ytikegnnlmfidfaa
