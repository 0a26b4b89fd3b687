/-
  Nets: acts that came in.
-/
import Derived.Test.YthajlhifgafpkaaNetJ
import Derived.Deep.Slices
import Derived.ChangeArms
import Derived.ChangeSlices
import Derived.WideShapes
import Derived.OpenShut
namespace Go.Proofs.Ythajlhifgafpkaa
open Go.RowKit Go.WideShapes Go.ChangeShapes
structure ActV where
  k : Int
  a : Int
  b : Int
  n : Int
  ba : Option Addr
  bl : Nat
  bc : Nat
  bs : List UInt8
def ActV.cells (x : ActV) : List Value := [.int .i64 x.k, .int .i64 x.a, .int .i64 x.b, .int .u64 x.n, .slice x.ba x.bl x.bc]
theorem ActV.cells_len (x : ActV) : x.cells.length = 5 := rfl
structure ActIn (w : World) (B : Nat) (x : ActV) : Prop where
  k : (Lit.int .i64 x.k).wf = true
  a : I64 x.a
  b : I64 x.b
  n : (Lit.int .u64 x.n).wf = true
  r : BReads w B x.ba x.bl x.bs
  lc : x.bl ≤ x.bc
  cm : x.bc ≤ maxLen
theorem ActIn.below {w w' : World} {B : Nat} {x : ActV} (h : ActIn w B x) (hb : Below B w w') : ActIn w' B x := ⟨h.k, h.a, h.b, h.n, Reads.below h.r hb, h.lc, h.cm⟩
section
variable {H : Type} {enc : TypeId × Value → H} {w : World} {held : Bool}
theorem act_of {cs : List Value} {n : Nat} {y : DataW H × List MemPlace} (h : DataW.trod enc Try.prog w 0 (fun _ => true) held n 43 cs = some y) : ∃ x : ActV, cs = x.cells ∧ ActIn w w.heap.size x := by
  have c0 : Try.prog.cellsOf 43 = 5 := by kernel_rfl
  have c1 : Try.prog.cellsOf 3 = 1 := by kernel_rfl
  have c2 : Try.prog.cellsOf 28 = 1 := by kernel_rfl
  have c3 : Try.prog.cellsOf 22 = 1 := by kernel_rfl
  obtain ⟨xs, k, _, _, hl, hxl, hfd⟩ := DataW.trod_struct Try.underlying43 h
  rw [c0] at hl
  match xs, hxl, cs, hl with
  | [y0, y1, y2, y3, y4], _, [v0, v1, v2, v3, v4], _ =>
    have g0 := hfd 0 _ rfl
    have g1 := hfd 1 _ rfl
    have g2 := hfd 2 _ rfl
    have g3 := hfd 3 _ rfl
    have g4 := hfd 4 _ rfl
    simp [c1, c2, c3] at g0 g1 g2 g3 g4
    obtain ⟨z0, r0, _, e0⟩ := DataW.trod_int Try.underlying3 g0
    obtain ⟨z1, r1, _, e1⟩ := DataW.trod_int Try.underlying3 g1
    obtain ⟨z2, r2, _, e2⟩ := DataW.trod_int Try.underlying3 g2
    obtain ⟨z3, r3, _, e3⟩ := DataW.trod_int Try.underlying28 g3
    injection r0 with r0
    injection r1 with r1
    injection r2 with r2
    injection r3 with r3
    subst r0 r1 r2 r3
    rcases open_ints Try.underlying22 Try.underlying5 (by kernel_rfl) g4 with ⟨hcs, _⟩ | ⟨x, l, c, zs, hcs, _, hl, hm, hz, _, hcell, hwz⟩
    · injection hcs with hcs
      subst hcs
      exact ⟨⟨z0, z1, z2, z3, none, 0, 0, []⟩, rfl, e0, e1, e2, e3, Reads.none_, Nat.le_refl _, Nat.zero_le _⟩
    · injection hcs with hcs
      subst hcs
      obtain ⟨bs, hr, hlc, hcm⟩ := reads_of_row (.inr ⟨x, rfl, hl, hm, by simpa using hz, hcell, hwz⟩)
      exact ⟨⟨z0, z1, z2, z3, some x, l, c, bs⟩, rfl, e0, e1, e2, e3, hr, hlc, hcm⟩
theorem open_act {r : Reach} {b0 : Nat} {v : Value} {d : DataW H} {p : List MemPlace} (hv : Value.okWide Try.prog w r b0 43 v) (h : DataW.Trod enc Try.prog w 0 (fun _ => true) held 43 v d p) :
    ∃ x : ActV, v = .agg x.cells.toArray ∧ ActIn w w.heap.size x := by
  unfold Value.okWide at hv
  rw [Try.underlying43] at hv
  obtain ⟨cs, rfl, h1, _⟩ := hv
  obtain ⟨fuel, hf⟩ := h
  obtain ⟨x, hx, hi⟩ := act_of hf
  refine ⟨x, ?_, hi⟩
  have : cs.toList = x.cells := hx
  rw [← this]
end
end Go.Proofs.Ythajlhifgafpkaa
