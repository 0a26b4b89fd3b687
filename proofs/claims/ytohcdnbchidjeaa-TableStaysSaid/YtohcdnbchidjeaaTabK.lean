/-
  The kit's Pairs (of equal rows) and LightPairs.
-/
import Derived.Test.YtohcdnbchidjeaaTabS
import Derived.Test.YtohcdnbchidjeaaTextE
namespace Go.Proofs.Ytohcdnbchidjeaa
open Go.RowKit
set_option maxHeartbeats 1000000 in
theorem pairs_v (B B' : Nat) (A A' : Option Addr) (n n' c c' : Nat) (l : List P3) (w : World) (hr : PReads w B A n l) (hr' : PReads w B' A' n' l) (hB : B ≤ w.heap.size) (hB' : B' ≤ w.heap.size) (hn : n ≤ 9223372036854775807) :
    Calls Try.prog 19 #[.slice A n c, .slice A' n' c'] w fun e w' => e = .returned (.bool true) ∧ Below w.heap.size w w' := by
  obtain rfl : n' = n := by rw [← hr.len, ← hr'.len]
  have HR := Lib.hid hr
  have HR' := Lib.hid hr'
  clear hr hr'
  go_enter Try.func19, Try.ntmps19
  go_wp2
  go_loopw [5] (fun i wr => ∃ k : Nat, k ≤ n' ∧ i = .int .i64 (k : Int) ∧ Below w.heap.size w wr) (fun i _ => n' - (intOf i).toNat)
  case atStart => exact ⟨0, Nat.zero_le _, rfl, Below.refl _ _⟩
  case round =>
    obtain ⟨k, hk, rfl, hb⟩ := hrel
    have HB := Lib.hid hb
    clear hb
    by_cases hlt : k < n'
    · obtain ⟨ad, x, hA, _, hx, a0, a1, a2⟩ := PReads.at_ (Reads.below (show Reads w B 3 A n' _ from HR.out) (HB.out.mono hB)) hlt
      obtain ⟨ad', x', hA', _, hx', b0, b1, b2⟩ := PReads.at_ (Reads.below (show Reads w B' 3 A' n' _ from HR'.out) (HB.out.mono hB')) hlt
      subst hA
      subst hA'
      obtain rfl : x' = x := by rw [hx] at hx'; injection hx' with hx'; exact hx'.symm
      clear hx hx'
      have hk0 : (0 : Int) ≤ (k : Int) := by omega
      have hk1 : (k : Int) < (n' : Int) := by omega
      go_wp2
      go_quiet (fail)
      go_wp2
      go_roundw
      case rel => exact ⟨k + 1, by omega, by go_num, below_drewN HB.out _⟩
      case measure => simp [intOf]; omega
    · obtain rfl : k = n' := by omega
      go_wp2
      go_ret
      exact ⟨rfl, HB.out⟩
def lightGo (n M : Nat) : List P3 → Nat → Nat → Nat
  | [], _, s => s
  | x :: l, i, s => if i ≤ n ∧ s ≤ M then lightGo n M l (i + 1) (s + min x.1.size (M + 1) + min x.2.1.size (M + 1)) else s
def lightB (n M : Nat) (l : List P3) : Bool := decide (l.length ≤ n) && decide (lightGo n M l 0 0 ≤ M)
theorem lightGo_ge (n M : Nat) : ∀ (l : List P3) (i s : Nat), s ≤ lightGo n M l i s
  | [], _, s => Nat.le_refl s
  | x :: l, i, s => by
    rw [lightGo]
    split
    · exact Nat.le_trans (by omega) (lightGo_ge n M l _ _)
    · exact Nat.le_refl s
theorem lightGo_small (n M : Nat) : ∀ (l : List P3) (i s : Nat), i + l.length ≤ n + 1 → lightGo n M l i s ≤ M → ∀ x ∈ l, x.1.size ≤ M ∧ x.2.1.size ≤ M
  | [], _, _, _, _, x, hx => by simp at hx
  | y :: l, i, s, hi, h, x, hx => by
    rw [lightGo] at h
    rw [List.length_cons] at hi
    split at h
    · have h1 := lightGo_ge n M l (i + 1) (s + min y.1.size (M + 1) + min y.2.1.size (M + 1))
      rcases List.mem_cons.1 hx with rfl | hx
      · omega
      · exact lightGo_small n M l (i + 1) _ (by omega) h x hx
    · rename_i hc
      exact absurd ⟨by omega, h⟩ hc
theorem lightB_spec {n M : Nat} {l : List P3} (h : lightB n M l = true) : l.length ≤ n ∧ ∀ x ∈ l, x.1.size ≤ M ∧ x.2.1.size ≤ M := by
  unfold lightB at h
  rw [Bool.and_eq_true, decide_eq_true_eq, decide_eq_true_eq] at h
  exact ⟨h.1, lightGo_small n M l 0 0 (by omega) h.2⟩
theorem lightGo_le (n M : Nat) : ∀ (l : List P3) (i s : Nat), s ≤ 3 * M + 3 → lightGo n M l i s ≤ 3 * M + 3
  | [], _, s, h => h
  | x :: l, i, s, h => by
    rw [lightGo]
    split
    · exact lightGo_le n M l _ _ (by omega)
    · exact h
theorem sum_min (s a b M : Nat) : Value.int .i64 (((s : Int) + if (M : Int) + 1 < (a : Int) then (M : Int) + 1 else (a : Int)) + if (M : Int) + 1 < (b : Int) then (M : Int) + 1 else (b : Int)) = .int .i64 ((s + min a (M + 1) + min b (M + 1) : Nat) : Int) := by
  congr 1
  split <;> split <;> omega
set_option maxHeartbeats 2000000 in
theorem light_v (B : Nat) (A : Option Addr) (k c n M : Nat) (l : List P3) (w : World) (hr : PReads w B A k l) (hB : B ≤ w.heap.size) (hk : k ≤ 9223372036854775807) (hM : M ≤ 100000) :
    Calls Try.prog 15 #[.slice A k c, .int .i64 (n : Int), .int .i64 (M : Int)] w fun e w' => e = .returned (.bool (lightB n M l)) ∧ Below w.heap.size w w' := by
  have HR := Lib.hid hr
  have HLEN := Lib.hid hr.len
  clear hr
  go_enter Try.func15, Try.ntmps15
  go_wp2
  go_loopw [7, 8] (fun sm i wr => ∃ (j s : Nat), j ≤ k ∧ i = .int .i64 (j : Int) ∧ sm = .int .i64 (s : Int) ∧ s ≤ 3 * M + 3 ∧ lightGo n M l 0 0 = lightGo n M (l.drop j) j s ∧ Below w.heap.size w wr) (fun _ i _ => k - (intOf i).toNat)
  case atStart => exact ⟨0, 0, Nat.zero_le _, rfl, rfl, Nat.zero_le _, by simp, Below.refl _ _⟩
  case round =>
    obtain ⟨j, s, hj, rfl, rfl, hs, hg, hb⟩ := hrel
    have HB := Lib.hid hb
    have HG := Lib.hid hg
    clear hb hg
    by_cases hlt : j < k
    · obtain ⟨ad, x, hA, _, hx, a0, a1, a2⟩ := PReads.at_ (Reads.below (show Reads w B 3 A k _ from HR.out) (HB.out.mono hB)) hlt
      subst hA
      have HD := Lib.hid (show l.drop j = x :: l.drop (j + 1) by obtain ⟨hk2, he⟩ := List.getElem?_eq_some_iff.1 hx; rw [List.drop_eq_getElem_cons hk2, he])
      clear hx
      by_cases h1 : j ≤ n
      · by_cases h2 : s ≤ M
        · have HF := Lib.hid (show lightGo n M l 0 0 = lightGo n M (l.drop (j + 1)) (j + 1) (s + min x.1.size (M + 1) + min x.2.1.size (M + 1)) by rw [HG.out, HD.out, lightGo, if_pos ⟨h1, h2⟩])
          have g1 : decide ((j : Int) ≤ (n : Int)) = true := by simp; omega
          have g2 : decide ((s : Int) ≤ (M : Int)) = true := by simp; omega
          have g1' : decide (j ≤ n) = true := by simpa using h1
          have g2' : decide (s ≤ M) = true := by simpa using h2
          have hj0 : (0 : Int) ≤ (j : Int) := by omega
          have hj1 : (j : Int) < (k : Int) := by omega
          go_wp2
          go_quiet (fail)
          go_wp2
          go_roundw
          case rel => exact ⟨j + 1, s + min x.1.size (M + 1) + min x.2.1.size (M + 1), by omega, by go_num, sum_min s x.1.size x.2.1.size M, by omega, HF.out, below_drewN HB.out _⟩
          case measure => simp [intOf]; omega
        · have HF := Lib.hid (show lightB n M l = false by
            have : lightGo n M l 0 0 = s := by rw [HG.out, HD.out, lightGo, if_neg (by omega)]
            rw [lightB, this]; simp [h2])
          have g1' : decide (j ≤ n) = true := by simpa using h1
          have g2' : decide (s ≤ M) = false := by simpa using h2
          by_cases h3 : k ≤ n
          · have g3 : decide (k ≤ n) = true := by simpa using h3
            go_wp2
            go_ret
            exact ⟨by rw [HF.out]; rfl, HB.out⟩
          · have g3 : decide (k ≤ n) = false := by simpa using h3
            go_wp2
            go_ret
            exact ⟨by rw [HF.out]; rfl, HB.out⟩
      · have HF := Lib.hid (show lightB n M l = false by rw [lightB, HLEN.out]; simp; intro h; omega)
        have g1' : decide (j ≤ n) = false := by simpa using h1
        have g3 : decide (k ≤ n) = false := by simp; omega
        go_wp2
        go_ret
        exact ⟨by rw [HF.out]; rfl, HB.out⟩
    · obtain rfl : j = k := by omega
      have HS := Lib.hid (show lightGo n M l 0 0 = s by rw [HG.out, List.drop_of_length_le (by rw [HLEN.out]; exact Nat.le_refl _), lightGo])
      by_cases h3 : j ≤ n
      · have g3 : decide (j ≤ n) = true := by simpa using h3
        by_cases h2 : s ≤ M
        · have HF := Lib.hid (show lightB n M l = true by rw [lightB, HLEN.out, HS.out]; simp [h3, h2])
          have g2' : decide (s ≤ M) = true := by simpa using h2
          go_wp2
          go_ret
          exact ⟨by rw [HF.out]; rfl, HB.out⟩
        · have HF := Lib.hid (show lightB n M l = false by rw [lightB, HLEN.out, HS.out]; simp [h2])
          have g2' : decide (s ≤ M) = false := by simpa using h2
          go_wp2
          go_ret
          exact ⟨by rw [HF.out]; rfl, HB.out⟩
      · have HF := Lib.hid (show lightB n M l = false by rw [lightB, HLEN.out]; simp [h3])
        have g3 : decide (j ≤ n) = false := by simpa using h3
        go_wp2
        go_ret
        exact ⟨by rw [HF.out]; rfl, HB.out⟩
end Go.Proofs.Ytohcdnbchidjeaa
