/-
  Nets: small.
-/
import Derived.Test.YthajlhifgafpkaaNetS
namespace Go.Proofs.Ythajlhifgafpkaa
open Go.RowKit Go.Shelf
structure AReads (w : World) (B : Nat) (A : Option Addr) (n : Nat) (xs : List ActV) : Prop where
  row : Reads w B 5 A n (xs.flatMap ActV.cells)
  each : ∀ x ∈ xs, ActIn w B x
section
variable {w w' : World} {B n : Nat} {A : Option Addr} {xs : List ActV}
theorem AReads.len (h : AReads w B A n xs) : xs.length = n := by
  have h1 := h.row.1
  rw [flat_len ActV.cells_len] at h1
  omega
theorem AReads.below (h : AReads w B A n xs) (hb : Below B w w') : AReads w' B A n xs := ⟨Reads.below h.row hb, fun x hx => (h.each x hx).below hb⟩
theorem AReads.at_ {k : Nat} (h : AReads w B A n xs) (hk : k < n) :
    ∃ ad x, A = some ad ∧ xs[k]? = some x ∧ ActIn w B x ∧ ∀ W, Below B w W → ∀ j u, x.cells[j]? = some u → W.cell? ((ad.add (k * 5)).add j) = some u := by
  have hl : k < xs.length := by rw [h.len]; exact hk
  obtain ⟨ad, e, hb, hc⟩ := h.row.2 (by omega)
  refine ⟨ad, xs[k], e, List.getElem?_eq_getElem hl, h.each _ (List.getElem_mem hl), fun W hW j u hu => ?_⟩
  have hj : j < 5 := (List.getElem?_eq_some_iff.1 hu).1
  rw [add_of_add]
  refine (hW.cell (p := ad.add (k * 5 + j)) (by rw [block_of_add]; exact hb)).trans (hc _ u ?_)
  rw [flat_at ActV.cells_len xs (List.getElem?_eq_getElem hl) hj]
  exact hu
end
def capS (l : List Nat) : Nat := (l.map fun x => min x 2001).sum
theorem capS_le (l : List Nat) : capS l ≤ l.sum := by
  unfold capS
  induction l with
  | nil => exact Nat.le_refl _
  | cons x l ih => simp only [List.map_cons, List.sum_cons]; omega
theorem capS_or (l : List Nat) : capS l = l.sum ∨ (2000 < capS l ∧ 2000 < l.sum) := by
  unfold capS
  induction l with
  | nil => exact .inl rfl
  | cons x l ih => simp only [List.map_cons, List.sum_cons]; omega
theorem capS_iff (l : List Nat) : capS l ≤ 2000 ↔ l.sum ≤ 2000 := by
  have := capS_or l
  omega
theorem sum_take (l : List Nat) (k : Nat) : (l.take k).sum ≤ l.sum := by
  have := congrArg List.sum (List.take_append_drop k l)
  rw [List.sum_append] at this
  omega
theorem capS_take (l : List Nat) (k : Nat) (x : Nat) (h : l[k]? = some x) : capS (l.take (k + 1)) = capS (l.take k) + min x 2001 := by
  unfold capS
  rw [List.take_add_one, h]
  simp
def smallL (xs : List ActV) : Bool := decide (xs.length ≤ 200) && decide ((xs.map (·.bl)).sum ≤ 2000)
set_option maxRecDepth 100000 in
set_option maxHeartbeats 2000000 in
theorem small_v (A : Option Addr) (n c B : Nat) (xs : List ActV) (w : World) (h : AReads w B A n xs) (hn : n ≤ 9223372036854775807) (hB : B ≤ w.heap.size) :
    Calls Try.prog 16 #[.slice A n c] w fun e w' => e = .returned (.bool (smallL xs)) ∧ Below w.heap.size w w' := by
  have H := Lib.hid h
  have HL := Lib.hid h.len
  clear h
  go_enter Try.func16, Try.ntmps16
  go_wp2_with fail
  go_loopw [3, 4] (fun m i wr => ∃ k q : Nat, k ≤ n ∧ i = .int .i64 (k : Int) ∧ m = .int .i64 (q : Int) ∧ q ≤ 4001 ∧ q = capS ((xs.map (·.bl)).take k) ∧ Below w.heap.size w wr) (fun _ i _ => n - (intOf i).toNat)
  case atStart => exact ⟨0, 0, Nat.zero_le _, rfl, rfl, Nat.zero_le _, rfl, Below.refl _ _⟩
  case round =>
    obtain ⟨k, q, hk, rfl, rfl, hq, hs, hb⟩ := hrel
    have HS := Lib.hid hs
    have HB := Lib.hid hb
    clear hs hb
    by_cases hlt : k < n
    · by_cases hk2 : k ≤ 200
      · by_cases hq2 : q ≤ 2000
        · obtain ⟨ad, x, rfl, hx, hin, hc⟩ := H.out.at_ hlt
          have HX := Lib.hid hx
          have c4 : wr.cell? ⟨(ad.add (k * 5)).block, (ad.add (k * 5)).off + 4, none⟩ = some (.slice x.ba x.bl x.bc) := hc wr (HB.out.mono hB) 4 _ rfl
          have d1 : decide ((k : Int) ≤ 200) = true := by simp; omega
          have d2 : decide ((q : Int) ≤ 2000) = true := by simp; omega
          have k0 : (0 : Int) ≤ (k : Int) := by omega
          have HM := Lib.hid (show (if (2001 : Int) < (x.bl : Int) then (2001 : Int) else (x.bl : Int)) = ((min x.bl 2001 : Nat) : Int) by split <;> omega)
          have hlm := Nat.min_le_right x.bl 2001
          clear hx hc hin
          go_wp2_with fail
          have HCT := capS_take (xs.map (·.bl)) k x.bl (by rw [List.getElem?_map, HX.out]; rfl)
          rw [HM.out]
          exact ⟨⟨k + 1, q + min x.bl 2001, hlt, by go_num, by go_num, by omega, by rw [HCT, ← HS.out], HB.out⟩, by simp [intOf]; omega⟩
        · have d1 : decide ((k : Int) ≤ 200) = true := by simp; omega
          have d2 : decide ((q : Int) ≤ 2000) = false := by simp; omega
          have HR := Lib.hid (show smallL xs = false by
            have h1 := capS_le ((xs.map (·.bl)).take k)
            have h2 := sum_take (xs.map (·.bl)) k
            have h3 := HS.out
            simp only [smallL, Bool.and_eq_false_iff, decide_eq_false_iff_not]
            right
            omega)
          go_wp2_with fail
          all_goals go_ret
          all_goals exact ⟨by rw [HR.out]; simp, HB.out⟩
      · have d1 : decide ((k : Int) ≤ 200) = false := by simp; omega
        have d3 : decide ((n : Int) ≤ 200) = false := by simp; omega
        have HR := Lib.hid (show smallL xs = false by
          have h1 := HL.out
          simp only [smallL, Bool.and_eq_false_iff, decide_eq_false_iff_not]
          left
          omega)
        go_wp2_with fail
        go_ret
        exact ⟨by rw [HR.out]; simp, HB.out⟩
    · obtain rfl : k = n := by omega
      have HR := Lib.hid (show smallL xs = (decide ((k : Int) ≤ 200) && decide ((q : Int) ≤ 2000)) by
        have h1 := HL.out
        have h3 := HS.out
        rw [List.take_of_length_le (by rw [List.length_map, h1]; exact Nat.le_refl _)] at h3
        have h4 := capS_iff (xs.map (·.bl))
        rw [← h3] at h4
        rw [smallL, h1]
        congr 1
        · rw [decide_eq_decide]; omega
        · rw [decide_eq_decide, ← h4]; omega)
      by_cases hd1 : k ≤ 200
      · have d1 : decide ((k : Int) ≤ 200) = true := by simp; omega
        by_cases hd2 : q ≤ 2000
        · have d2 : decide ((q : Int) ≤ 2000) = true := by simp; omega
          go_wp2_with fail
          go_ret
          exact ⟨by rw [HR.out, d1, d2]; rfl, HB.out⟩
        · have d2 : decide ((q : Int) ≤ 2000) = false := by simp; omega
          go_wp2_with fail
          go_ret
          exact ⟨by rw [HR.out, d1, d2]; rfl, HB.out⟩
      · have d1 : decide ((k : Int) ≤ 200) = false := by simp; omega
        go_wp2_with fail
        go_ret
        exact ⟨by rw [HR.out, d1]; rfl, HB.out⟩
end Go.Proofs.Ythajlhifgafpkaa
