/-
  Nets, in plain Lean.
-/
import Derived.Test.YthajlhifgafpkaaSlot
namespace Go.Proofs.Ythajlhifgafpkaa
structure Pk where
  num : Nat
  frm : Int
  too : Int
  run : Nat
  bytes : List UInt8
  deriving DecidableEq
structure NS where
  link : Int × Int → Bool × Nat
  fl : List Pk
  last : Nat
def okDev (a b : Int) : Bool := decide (1 ≤ a ∧ a ≤ 16 ∧ 1 ≤ b ∧ b ≤ 16 ∧ a ≠ b)
def keyI (a b : Int) : Int × Int := (min a b, max a b)
def NS.new : NS := ⟨fun _ => (false, 0), [], 0⟩
def NS.set (s : NS) (k : Int × Int) (v : Bool × Nat) : NS := ⟨fun q => if q = k then v else s.link q, s.fl, s.last⟩
def NS.up (s : NS) (a b : Int) : Nat × NS :=
  if okDev a b = false then (2, s) else if (s.link (keyI a b)).1 = true then (7, s) else (0, s.set (keyI a b) (true, (s.link (keyI a b)).2 + 1))
def NS.down (s : NS) (a b : Int) : Nat × NS :=
  if okDev a b = false then (2, s) else if (s.link (keyI a b)).1 = false then (9, s) else (0, ⟨(s.set (keyI a b) (false, (s.link (keyI a b)).2)).link, s.fl.filter (fun p => decide (keyI p.frm p.too ≠ keyI a b)), s.last⟩)
def NS.is (s : NS) (a b : Int) : Bool × Nat := if okDev a b = false then (false, 0) else s.link (keyI a b)
def NS.put (s : NS) (a b : Int) (r : Nat) (l : List UInt8) : NS := ⟨s.link, s.fl ++ [⟨s.last + 1, a, b, r, l⟩], s.last + 1⟩
def NS.send (s : NS) (a b : Int) (l : List UInt8) : (Nat × Nat) × NS :=
  if okDev a b = false then ((0, 2), s) else if (s.link (keyI a b)).1 = false then ((0, 9), s) else if 4096 ≤ s.fl.length ∨ 262144 < l.length then ((0, 3), s) else ((s.last + 1, 0), s.put a b (s.link (keyI a b)).2 l)
def NS.find (s : NS) (n : Nat) : Option Nat := s.fl.findIdx? (fun p => p.num == n)
def zeroPk : Pk := ⟨0, 0, 0, 0, []⟩
def NS.take (s : NS) (n : Nat) : (Pk × Nat) × NS := match s.find n with
  | none => ((zeroPk, 6), s)
  | some i => ((s.fl.getD i zeroPk, 0), ⟨s.link, s.fl.eraseIdx i, s.last⟩)
def NS.twice (s : NS) (n : Nat) : (Nat × Nat) × NS := match s.find n with
  | none => ((0, 6), s)
  | some i => if 4096 ≤ s.fl.length then ((0, 3), s) else ((s.last + 1, 0), s.put (s.fl.getD i zeroPk).frm (s.fl.getD i zeroPk).too (s.fl.getD i zeroPk).run (s.fl.getD i zeroPk).bytes)
def NS.oldest (s : NS) (a b : Int) : Nat := ((s.fl.find? fun p => decide (p.frm = a) && decide (p.too = b)).map (·.num)).getD 0
def NS.peers (s : NS) (a : Int) : List Int := ((List.range 16).map fun i : Nat => ((i : Int) + 1)).filter fun b => (s.is a b).1
/-- Numbers that were counted. -/
structure NS.small (s : NS) (N : Nat) : Prop where
  last : s.last ≤ N
  run : ∀ k, (s.link k).2 ≤ N
  fl : s.fl.length ≤ 4096
theorem NS.small.up {s : NS} {N : Nat} (h : s.small N) (a b : Int) : (s.up a b).2.small (N + 1) := by
  unfold NS.up
  split
  · exact ⟨Nat.le_succ_of_le h.last, fun k => Nat.le_succ_of_le (h.run k), h.fl⟩
  · split
    · exact ⟨Nat.le_succ_of_le h.last, fun k => Nat.le_succ_of_le (h.run k), h.fl⟩
    · refine ⟨Nat.le_succ_of_le h.last, fun k => ?_, h.fl⟩
      simp only [NS.set]
      split
      · exact Nat.succ_le_succ (h.run _)
      · exact Nat.le_succ_of_le (h.run k)
theorem NS.small.down {s : NS} {N : Nat} (h : s.small N) (a b : Int) : (s.down a b).2.small N := by
  unfold NS.down
  split
  · exact h
  · split
    · exact h
    · refine ⟨h.last, fun k => ?_, Nat.le_trans (List.length_filter_le _ _) h.fl⟩
      simp only [NS.set]
      split
      · exact h.run _
      · exact h.run k
theorem NS.small.put {s : NS} {N : Nat} (h : s.small N) (a b : Int) (r : Nat) (l : List UInt8) (hf : s.fl.length < 4096) : (s.put a b r l).small (N + 1) :=
  ⟨Nat.succ_le_succ h.last, fun k => Nat.le_succ_of_le (h.run k), by simp [NS.put]; omega⟩
theorem NS.small.more {s : NS} {N M : Nat} (h : s.small N) (hm : N ≤ M) : s.small M := ⟨Nat.le_trans h.last hm, fun k => Nat.le_trans (h.run k) hm, h.fl⟩
theorem NS.small.send {s : NS} {N : Nat} (h : s.small N) (a b : Int) (l : List UInt8) : (s.send a b l).2.small (N + 1) := by
  unfold NS.send
  split
  · exact h.more (Nat.le_succ _)
  · split
    · exact h.more (Nat.le_succ _)
    · split
      · exact h.more (Nat.le_succ _)
      · exact h.put _ _ _ _ (by omega)
theorem NS.small.take {s : NS} {N : Nat} (h : s.small N) (n : Nat) : (s.take n).2.small N := by
  unfold NS.take
  split
  · exact h
  · exact ⟨h.last, h.run, Nat.le_trans (List.length_eraseIdx_le _ _) h.fl⟩
theorem NS.small.twice {s : NS} {N : Nat} (h : s.small N) (n : Nat) : (s.twice n).2.small (N + 1) := by
  unfold NS.twice
  split
  · exact h.more (Nat.le_succ _)
  · split
    · exact h.more (Nat.le_succ _)
    · exact h.put _ _ _ _ (by omega)
theorem NS.small.new : NS.new.small 0 := ⟨Nat.le_refl _, fun _ => Nat.le_refl _, by simp [NS.new]⟩
end Go.Proofs.Ythajlhifgafpkaa
