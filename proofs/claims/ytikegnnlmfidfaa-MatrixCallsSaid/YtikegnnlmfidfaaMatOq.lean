/-
  Changes that came in.
-/
import Derived.Test.YtikegnnlmfidfaaMatOp
namespace Go.Proofs.Ytikegnnlmfidfaa
open Go.RowKit Go.WideShapes Go.ChangeShapes
/-- A change, as a law is handed it. -/
structure Cx where
  k : Int
  f : ByteArray
  d : Int
def Cx.cells (c : Cx) : List Value := [.int .i64 c.k, .string c.f, .int .i64 c.d]
def CxIn (_w : World) (_B : Nat) (c : Cx) : Prop := c.f.size ≤ 9223372036854775807
section
variable {H : Type} {enc : TypeId × Value → H} {w : World} {held : Bool}
set_option maxRecDepth 100000 in
theorem chg_of {fuel : Nat} {cs : List Value} {y : DataW H × List MemPlace} (h : DataW.trod enc Try.prog w 0 (fun _ => true) held fuel 41 cs = some y) : ∃ c : Cx, cs = c.cells ∧ CxIn w w.heap.size c := by
  have c0 : Try.prog.cellsOf 41 = 3 := by kernel_rfl
  have c1 : Try.prog.cellsOf 3 = 1 := by kernel_rfl
  have c2 : Try.prog.cellsOf 9 = 1 := by kernel_rfl
  obtain ⟨xs, k, _, _, hl, hxl, hfd⟩ := DataW.trod_struct Try.underlying41 h
  rw [c0] at hl
  match xs, hxl, cs, hl with
  | [y0, y1, y2], _, [v0, v1, v2], _ =>
    have g0 := hfd 0 _ rfl
    have g1 := hfd 1 _ rfl
    have g2 := hfd 2 _ rfl
    simp [c1, c2] at g0 g1 g2
    obtain ⟨z, r0, _, e0⟩ := DataW.trod_int Try.underlying3 g0
    injection r0 with r0
    subst r0
    obtain ⟨s, r0, _, e1⟩ := DataW.trod_string Try.underlying9 g1
    injection r0 with r0
    subst r0
    obtain ⟨z2, r0, _, e2⟩ := DataW.trod_int Try.underlying3 g2
    injection r0 with r0
    subst r0
    exact ⟨⟨z, s, z2⟩, rfl, e1⟩
set_option maxRecDepth 100000 in
theorem open_change {r : Reach} {b0 : Nat} {v : Value} {d : DataW H} {p : List MemPlace} (hv : Value.okWide Try.prog w r b0 41 v) (h : DataW.Trod enc Try.prog w 0 (fun _ => true) held 41 v d p) :
    ∃ c : Cx, v = .agg c.cells.toArray ∧ CxIn w w.heap.size c := by
  unfold Value.okWide at hv
  rw [Try.underlying41] at hv
  obtain ⟨cs, rfl, h1, _⟩ := hv
  obtain ⟨fuel, hf⟩ := h
  obtain ⟨m, hm, hi⟩ := chg_of hf
  refine ⟨m, ?_, hi⟩
  have : cs.toList = m.cells := hm
  rw [← this]
end
end Go.Proofs.Ytikegnnlmfidfaa
