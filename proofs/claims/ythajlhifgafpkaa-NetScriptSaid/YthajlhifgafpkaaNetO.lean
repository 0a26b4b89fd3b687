/-
  Nets: the kit's Ints.
-/
import Derived.Test.YthajlhifgafpkaaNetN
namespace Go.Proofs.Ythajlhifgafpkaa
open Go.RowKit Go.Shelf
theorem IReads.at_ {w : World} {B n i : Nat} {A : Option Addr} {l : List Int} (h : IReads w B A n l) (hi : i < n) :
    ∃ ad x, A = some ad ∧ l[i]? = some x ∧ ∀ W : World, Below B w W → W.cell? (ad.add i) = some (.int .i64 x) := by
  obtain ⟨ad, u, e, hb, hu, hc⟩ := Reads.at_ (show Reads w B 1 A n _ from h) hi
  rw [List.getElem?_map] at hu
  cases hl : l[i]? with
  | none => rw [hl] at hu; cases hu
  | some x =>
    rw [hl] at hu
    injection hu with hu
    subst hu
    exact ⟨ad, x, e, rfl, fun W hW => (hW.cell (p := ad.add i) (by have : (ad.add i).block = ad.block := by unfold Addr.add; split <;> rfl
                                                                   rw [this]; exact hb)).trans hc⟩
theorem take_snoc {α : Type} {l : List α} {k : Nat} {x : α} (h : l[k]? = some x) : l.take (k + 1) = l.take k ++ [x] := by rw [List.take_add_one, h]; rfl
theorem take_len_eq {α : Type} {l l' : List α} {n : Nat} (h1 : l.length = n) (h2 : l'.length = n) (h : l.take n = l'.take n) : l = l' := by
  rwa [List.take_of_length_le (by omega), List.take_of_length_le (by omega)] at h
set_option maxRecDepth 100000 in
set_option maxHeartbeats 2000000 in
theorem ints_v (A1 A2 : Option Addr) (n1 c1 B1 n2 c2 B2 : Nat) (l1 l2 : List Int) (w : World) (h1 : IReads w B1 A1 n1 l1) (h2 : IReads w B2 A2 n2 l2) (hB1 : B1 ≤ w.heap.size) (hB2 : B2 ≤ w.heap.size) (hn : n1 ≤ 1000000) :
    Calls Try.prog 24 #[.slice A1 n1 c1, .slice A2 n2 c2] w fun e w' => e = .returned (.bool (decide (l1 = l2))) ∧ Below w.heap.size w w' := by
  have L1 := Lib.hid (show l1.length = n1 by have := h1.1; simpa using this)
  have L2 := Lib.hid (show l2.length = n2 by have := h2.1; simpa using this)
  have R1 := Lib.hid h1
  have R2 := Lib.hid h2
  clear h1 h2
  by_cases hnn : n1 = n2
  · subst hnn
    go_enter Try.func24, Try.ntmps24
    go_wp2_with fail
    go_loopw [5] (fun i wr => ∃ k : Nat, k ≤ n1 ∧ i = .int .i64 (k : Int) ∧ l1.take k = l2.take k ∧ Below w.heap.size w wr) (fun i _ => n1 - (intOf i).toNat)
    case atStart => exact ⟨0, Nat.zero_le _, rfl, rfl, Below.refl _ _⟩
    case round =>
      obtain ⟨k, hk, rfl, ht, hb⟩ := hrel
      have HT := Lib.hid ht
      have HB := Lib.hid hb
      clear ht hb
      by_cases hlt : k < n1
      · obtain ⟨a1, x1, rfl, e1, f1⟩ := R1.out.at_ hlt
        obtain ⟨a2, x2, rfl, e2, f2⟩ := R2.out.at_ hlt
        have E1 := Lib.hid e1
        have E2 := Lib.hid e2
        have g1 := f1 wr (HB.out.mono hB1)
        have g2 := f2 wr (HB.out.mono hB2)
        have k0 : (0 : Int) ≤ (k : Int) := by omega
        clear e1 e2 f1 f2
        by_cases hx : x1 = x2
        · have d1 : (x1 != x2) = false := by simpa using hx
          have d2 : (x1 == x2) = true := by simpa using hx
          go_wp2_with fail
          go_quiet (fail)
          go_wp2_with fail
          go_roundw
          case rel => exact ⟨k + 1, hlt, by go_num, by rw [take_snoc E1.out, take_snoc E2.out, HT.out, hx], below_drewN HB.out nq⟩
          case measure => simp [intOf]; omega
        · have d1 : (x1 != x2) = true := by simpa using hx
          have d2 : (x1 == x2) = false := by simpa using hx
          have HR := Lib.hid (show decide (l1 = l2) = false by
            rw [decide_eq_false_iff_not]
            intro e
            rw [e, E2.out] at E1
            exact hx (Option.some.inj E1.out).symm)
          go_wp2_with fail
          go_quiet (fail)
          go_wp2_with fail
          go_ret
          exact ⟨by rw [HR.out]; rfl, below_drewN HB.out nq⟩
      · obtain rfl : k = n1 := by omega
        have HR := Lib.hid (show decide (l1 = l2) = true by
          rw [decide_eq_true_iff]
          exact take_len_eq L1.out L2.out HT.out)
        go_wp2
        go_ret
        exact ⟨by rw [HR.out]; rfl, HB.out⟩
  · have HR := Lib.hid (show decide (l1 = l2) = false by
      rw [decide_eq_false_iff_not]
      intro e
      exact hnn (by rw [← L1.out, ← L2.out, e]))
    have d1 : ((n1 : Int) == (n2 : Int)) = false := by rw [beq_eq_false_iff_ne]; omega
    go_enter Try.func24, Try.ntmps24
    go_wp2
    go_ret
    exact ⟨by rw [HR.out]; rfl, Below.refl _ _⟩
end Go.Proofs.Ythajlhifgafpkaa
