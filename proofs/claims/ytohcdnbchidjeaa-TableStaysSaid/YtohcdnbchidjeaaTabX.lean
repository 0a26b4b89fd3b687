/-
  Tables in memory: above, join, cut.
-/
import Derived.Test.YtohcdnbchidjeaaTabW
import Derived.Deep.QuietTactic
import Derived.BigQuiet
import Derived.Deep.RegionHeld3
namespace Go.Proofs.Ytohcdnbchidjeaa
open Go.RowKit
set_option maxHeartbeats 1000000 in
theorem above_v (a b : Nat) (k k' : ByteArray) (w : World)
    (h0 : w.cell? ⟨a, 0, none⟩ = some (.string k)) (h2 : w.cell? ⟨a, 2, none⟩ = some (.int .u32 (rk k : Int)))
    (g0 : w.cell? ⟨b, 0, none⟩ = some (.string k')) (g2 : w.cell? ⟨b, 2, none⟩ = some (.int .u32 (rk k' : Int))) :
    Calls Try.prog 49 #[.pointer (some ⟨a, 0, none⟩), .pointer (some ⟨b, 0, none⟩)] w fun e w' => e = .returned (.bool (abv k k')) ∧ ∃ n, w' = w.drewN n := by
  have HA : Hid (abv k k' = (decide (rk k' < rk k) || (decide (rk k = rk k') && Op.bytesLess k.toList k'.toList))) := Lib.hid rfl
  generalize abv k k' = z at *
  generalize rk k = x at *
  generalize rk k' = y at *
  by_cases c1 : y < x
  · have HZ := Lib.hid (show z = true by rw [HA.out]; simp [c1])
    have d1 : decide (y < x) = true := by simpa using c1
    go_enter Try.func49, Try.ntmps49
    go_wp2
    go_quiet (fail)
    go_wp2
    go_ret
    exact ⟨by rw [HZ.out]; rfl, _, rfl⟩
  · have d1 : decide (y < x) = false := by simpa using c1
    by_cases c2 : x = y
    · have HZ := Lib.hid (show z = Op.bytesLess k.toList k'.toList by rw [HA.out]; simp [c2])
      have d2 : ((x : Int) == (y : Int)) = true := by rw [beq_iff_eq]; omega
      go_enter Try.func49, Try.ntmps49
      go_wp2
      go_quiet (fail)
      go_wp2
      go_ret
      exact ⟨by rw [HZ.out]; rfl, _, rfl⟩
    · have HZ := Lib.hid (show z = false by rw [HA.out]; simp [c1, c2])
      have d2 : ((x : Int) == (y : Int)) = false := by rw [beq_eq_false_iff_ne]; omega
      go_enter Try.func49, Try.ntmps49
      go_wp2
      go_quiet (fail)
      go_wp2
      go_ret
      exact ⟨by rw [HZ.out]; rfl, _, rfl⟩
theorem nodeKeep {w w1 : World} {b : Nat} (hb : Below w.heap.size w w1) (hlt : b < w.heap.size) {v0 v1 v2 v3 v4 v5 : Value} (h0 : w.cell? ⟨b, 0, none⟩ = some v0) (h1 : w.cell? ⟨b, 1, none⟩ = some v1) (h2 : w.cell? ⟨b, 2, none⟩ = some v2)
    (h3 : w.cell? ⟨b, 3, none⟩ = some v3) (h4 : w.cell? ⟨b, 4, none⟩ = some v4) (h5 : w.cell? ⟨b, 5, none⟩ = some v5) :
    w1.cell? ⟨b, 0, none⟩ = some v0 ∧ w1.cell? ⟨b, 1, none⟩ = some v1 ∧ w1.cell? ⟨b, 2, none⟩ = some v2 ∧ w1.cell? ⟨b, 3, none⟩ = some v3 ∧ w1.cell? ⟨b, 4, none⟩ = some v4 ∧ w1.cell? ⟨b, 5, none⟩ = some v5 :=
  ⟨(hb.cell (p := ⟨b, 0, none⟩) hlt).trans h0, (hb.cell (p := ⟨b, 1, none⟩) hlt).trans h1, (hb.cell (p := ⟨b, 2, none⟩) hlt).trans h2, (hb.cell (p := ⟨b, 3, none⟩) hlt).trans h3, (hb.cell (p := ⟨b, 4, none⟩) hlt).trans h4, (hb.cell (p := ⟨b, 5, none⟩) hlt).trans h5⟩
def CutPost (w : World) (t : Tr) (q : ByteArray) (e : Ending) (w' : World) : Prop :=
  ∃ p1 p2, e = .returned (.tuple #[.pointer p1, .pointer p2]) ∧ Rep w' w'.heap.size (t.cut q).1 p1 ∧ Rep w' w'.heap.size (t.cut q).2 p2 ∧ Below w.heap.size w w'
set_option maxHeartbeats 1000000 in
theorem cut_v (q : ByteArray) : ∀ (t : Tr) (B : Nat) (p : Option Addr) (w : World) (_ : Rep w B t p) (_ : B ≤ w.heap.size) (_ : t.cnt ≤ 1000000),
    Calls Try.prog 38 #[.pointer p, .string q] w (CutPost w t q)
  | .nil, B, p, w, h, hB, hn => by
    obtain rfl : p = none := h
    go_enter Try.func38, Try.ntmps38
    go_wp2
    go_ret2
    exact ⟨none, none, rfl, rfl, rfl, Below.refl _ _⟩
  | .node l k v r, B, p, w, h, hB, hn => by
    have ihl := cut_v q l
    have ihr := cut_v q r
    obtain ⟨b, pl, pr, rfl, hb, ⟨h0, h1, h2, h3, h4, h5⟩, hl, hr⟩ := h
    have HL := Lib.hid hl
    have HR := Lib.hid hr
    have HN : Hid (l.cnt + r.cnt + 1 ≤ 1000000) := Lib.hid hn
    have IL := Lib.hid ihl
    have IR := Lib.hid ihr
    clear hl hr hn ihl ihr
    cases hk : klt k q
    · have HC := Lib.hid (show (Tr.node l k v r).cut q = ((l.cut q).1, .node (l.cut q).2 k v r) by simp [Tr.cut, hk])
      have d1 : Op.bytesLess k.toList q.toList = false := hk
      clear hk
      go_enter Try.func38, Try.ntmps38
      go_wp2_with fail
      refine (IL.out B pl w HL.out hB (by have := HN.out; omega)).mono ?_
      rintro e w1 ⟨p1, p2, rfl, r1, r2, hb1⟩
      obtain ⟨g0, g1, g2, g3, g4, g5⟩ := nodeKeep hb1 (Nat.lt_of_lt_of_le hb hB) h0 h1 h2 h3 h4 h5
      have HL1 := Lib.hid (Rep.more (Nat.le_trans hB hb1.size) (Rep.below HR.out (hb1.mono hB)))
      have HC1 := Lib.hid (cut_cnt l q)
      clear h0 h1 h2 h3 h4 h5
      go_wp2_with fail
      refine (with_v w1.heap.size b k v _ pl pr p2 pr (l.cut q).2 r w1 (Nat.le_refl _) g0 g1 g2 g3 g4 g5 r2 HL1.out (by have := HN.out; have := HC1.out; omega)).mono ?_
      rintro e w2 ⟨p3, rfl, r3, hb2⟩
      go_wp2
      go_ret2
      rw [CutPost, HC.out]
      exact ⟨p1, p3, rfl, r1.step hb2, r3, btwo hb1 hb2⟩
    · have HC := Lib.hid (show (Tr.node l k v r).cut q = (.node l k v (r.cut q).1, (r.cut q).2) by simp [Tr.cut, hk])
      have d1 : Op.bytesLess k.toList q.toList = true := hk
      clear hk
      go_enter Try.func38, Try.ntmps38
      go_wp2_with fail
      refine (IR.out B pr w HR.out hB (by have := HN.out; omega)).mono ?_
      rintro e w1 ⟨p1, p2, rfl, r1, r2, hb1⟩
      obtain ⟨g0, g1, g2, g3, g4, g5⟩ := nodeKeep hb1 (Nat.lt_of_lt_of_le hb hB) h0 h1 h2 h3 h4 h5
      have HL1 := Lib.hid (Rep.more (Nat.le_trans hB hb1.size) (Rep.below HL.out (hb1.mono hB)))
      have HC1 := Lib.hid (cut_cnt r q)
      clear h0 h1 h2 h3 h4 h5
      go_wp2_with fail
      refine (with_v w1.heap.size b k v _ pl pr pl p1 l (r.cut q).1 w1 (Nat.le_refl _) g0 g1 g2 g3 g4 g5 HL1.out r1 (by have := HN.out; have := HC1.out; omega)).mono ?_
      rintro e w2 ⟨p3, rfl, r3, hb2⟩
      go_wp2
      go_ret2
      rw [CutPost, HC.out]
      exact ⟨p3, p2, rfl, r3, r2.step hb2, btwo hb1 hb2⟩
end Go.Proofs.Ytohcdnbchidjeaa
