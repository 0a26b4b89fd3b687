/-
  Vectors: slices of counts, as lists of pairs.
-/
import Derived.Test.YtndekohimfjdeaaDoorBase
import Derived.Lib.AppendStr
import Derived.Lib.ConvBytes
import Derived.Laws.BytesArg
import Derived.OpenShut
import Derived.Test.YtndekohimfjdeaaDoorChecked
namespace Go.Proofs.YtndekohimfjdeaaDoor
open Go.RowKit
theorem add_next (a : Addr) (j : Nat) : a.add (j + 1) = ⟨(a.add j).block, (a.add j).off + 1, none⟩ := by
  unfold Addr.add
  by_cases hj : j = 0 <;> simp [hj, Nat.add_assoc]
/-- A count's cells. -/
def cntC (x : Int × Nat) : List Value := [.int .i64 x.1, .int .u64 (x.2 : Int)]
def cntsC (l : List (Int × Nat)) : List Value := (l.map cntC).flatten
theorem cntsC_cons (x : Int × Nat) (l : List (Int × Nat)) : cntsC (x :: l) = .int .i64 x.1 :: .int .u64 (x.2 : Int) :: cntsC l := rfl
theorem cntsC_len : ∀ l : List (Int × Nat), (cntsC l).length = l.length * 2
  | [] => rfl
  | x :: l => by rw [cntsC_cons]; simp only [List.length_cons, cntsC_len l]; omega
theorem cntsC_app (l m : List (Int × Nat)) : cntsC (l ++ m) = cntsC l ++ cntsC m := by simp [cntsC]
theorem cntsC_at : ∀ (l : List (Int × Nat)) (k : Nat) (x : Int × Nat), l[k]? = some x → (cntsC l)[k * 2]? = some (.int .i64 x.1) ∧ (cntsC l)[k * 2 + 1]? = some (.int .u64 (x.2 : Int))
  | [], k, x, h => by simp at h
  | y :: l, 0, x, h => by simp at h; subst h; exact ⟨rfl, rfl⟩
  | y :: l, k + 1, x, h => by
    have := cntsC_at l k x (by simpa using h)
    rw [cntsC_cons, show (k + 1) * 2 = k * 2 + 1 + 1 by omega, show k * 2 + 1 + 1 + 1 = (k * 2 + 1) + 1 + 1 by omega]
    simpa using this
/-- A slice of counts reads as these. -/
abbrev CReads (w : World) (B : Nat) (A : Option Addr) (n : Nat) (l : List (Int × Nat)) : Prop := Reads w B 2 A n (cntsC l)
theorem CReads.len {w : World} {B n : Nat} {A : Option Addr} {l : List (Int × Nat)} (h : CReads w B A n l) : l.length = n := by have := h.1; rw [cntsC_len] at this; omega
theorem CReads.at_ {w : World} {B n k : Nat} {A : Option Addr} {l : List (Int × Nat)} (h : CReads w B A n l) (hk : k < n) :
    ∃ ad x, A = some ad ∧ ad.block < B ∧ l[k]? = some x ∧ w.cell? (ad.add (k * 2)) = some (.int .i64 x.1) ∧ w.cell? ⟨(ad.add (k * 2)).block, (ad.add (k * 2)).off + 1, none⟩ = some (.int .u64 (x.2 : Int)) := by
  obtain ⟨ad, e, hb, hc⟩ := h.2 (by omega)
  have hkl : k < l.length := by rw [h.len]; exact hk
  have := cntsC_at l k l[k] (List.getElem?_eq_getElem hkl)
  exact ⟨ad, l[k], e, hb, List.getElem?_eq_getElem hkl, hc _ _ this.1, by rw [← add_next]; exact hc _ _ this.2⟩
/-- May a vector be? -/
def okV : Int → List (Int × Nat) → Bool
  | _, [] => true
  | last, x :: l => if x.1 ≤ last ∨ 16 < x.1 ∨ x.2 = 0 then false else okV x.1 l
theorem okV_cons (last : Int) (x : Int × Nat) (l : List (Int × Nat)) : okV last (x :: l) = if x.1 ≤ last ∨ 16 < x.1 ∨ x.2 = 0 then false else okV x.1 l := rfl
set_option maxHeartbeats 1000000 in
theorem right_v (B : Nat) (A : Option Addr) (n c : Nat) (l : List (Int × Nat)) (w : World) (hr : CReads w B A n l) (hB : B ≤ w.heap.size) (hn : n ≤ 9223372036854775807) :
    Calls Tryd.prog 65 #[.slice A n c] w fun e w' => e = .returned (.bool (okV 0 l)) ∧ Below w.heap.size w w' := by
  have HLEN := Lib.hid hr.len
  go_enter Tryd.func65, Tryd.ntmps65
  go_wp2
  go_loopw [3, 8] (fun last i wr => ∃ (k : Nat) (la : Int), k ≤ n ∧ i = .int .i64 (k : Int) ∧ last = .int .i64 la ∧ okV 0 l = okV la (l.drop k) ∧ Below w.heap.size w wr) (fun _ i _ => n - (intOf i).toNat)
  case atStart => exact ⟨0, 0, Nat.zero_le _, rfl, rfl, by simp, Below.refl _ _⟩
  case round =>
    obtain ⟨k, la, hk, rfl, rfl, ho, hb⟩ := hrel
    have HO := Lib.hid ho
    clear ho
    have HR := Lib.hid (Reads.below (show Reads w B 2 A n _ from hr) (hb.mono hB))
    by_cases hlt : k < n
    · obtain ⟨ad, x, he, had, hx, hc1, hc2⟩ := CReads.at_ HR.out hlt
      subst he
      have HX := Lib.hid hx
      clear hx
      have HD := Lib.hid (show l.drop k = x :: l.drop (k + 1) by obtain ⟨hk2, he⟩ := List.getElem?_eq_some_iff.1 HX.out; rw [List.drop_eq_getElem_cons hk2, he])
      have hbn : Below w.heap.size w (wr.alloc (.cells #[.int .i64 x.1, .int .u64 (x.2 : Int)] 49)) := hb.alloc hb.size _
      by_cases b1 : x.1 ≤ la
      · have d1 : decide (x.1 ≤ la) = true := by simpa using b1
        have HF := Lib.hid (show okV 0 l = false by rw [HO.out, HD.out, okV_cons, if_pos (.inl b1)])
        clear b1
        go_wp2
        go_ret
        exact ⟨by rw [HF.out]; rfl, hbn⟩
      · have d1 : decide (x.1 ≤ la) = false := by simpa using b1
        by_cases b2 : 16 < x.1
        · have d2 : decide (16 < x.1) = true := by simpa using b2
          have HF := Lib.hid (show okV 0 l = false by rw [HO.out, HD.out, okV_cons, if_pos (.inr (.inl b2))])
          clear b1 b2
          go_wp2
          go_ret
          exact ⟨by rw [HF.out]; rfl, hbn⟩
        · have d2 : decide (16 < x.1) = false := by simpa using b2
          by_cases b3 : x.2 = 0
          · have d3 : ((x.2 : Int) == 0) = true := by rw [beq_iff_eq]; omega
            have HF := Lib.hid (show okV 0 l = false by rw [HO.out, HD.out, okV_cons, if_pos (.inr (.inr b3))])
            clear b1 b2 b3
            go_wp2
            go_ret
            exact ⟨by rw [HF.out]; rfl, hbn⟩
          · have d3 : ((x.2 : Int) == 0) = false := by rw [beq_eq_false_iff_ne]; omega
            have HF := Lib.hid (show okV 0 l = okV x.1 (l.drop (k + 1)) by rw [HO.out, HD.out, okV_cons, if_neg (by omega)])
            clear b1 b2 b3
            go_wp2
            go_roundw
            case rel => exact ⟨k + 1, _, hlt, by go_num, rfl, HF.out, hbn⟩
            case measure => simp [intOf]; omega
    · obtain rfl : k = n := by omega
      have HF := Lib.hid (show okV 0 l = true by rw [HO.out, List.drop_of_length_le (by rw [HLEN.out]; exact Nat.le_refl _)]; rfl)
      go_wp2
      go_ret
      exact ⟨by rw [HF.out]; rfl, hb⟩
theorem check_v (B : Nat) (A : Option Addr) (n c : Nat) (l : List (Int × Nat)) (w : World) (hr : CReads w B A n l) (hB : B ≤ w.heap.size) (hn : n ≤ 9223372036854775807) :
    Calls Tryd.prog 49 #[.slice A n c] w fun e w' => e = .returned (.int .i64 (if okV 0 l then 0 else 2)) ∧ Below w.heap.size w w' := by
  cases ho : okV 0 l
  · have HO := Lib.hid ho
    clear ho
    go_enter Tryd.func49, Tryd.ntmps49
    go_wp2_with fail
    refine (right_v B A n c l w hr hB hn).mono ?_
    rw [HO.out]
    rintro e w1 ⟨rfl, hb⟩
    go_wp2
    go_ret
    exact ⟨rfl, hb⟩
  · have HO := Lib.hid ho
    clear ho
    go_enter Tryd.func49, Tryd.ntmps49
    go_wp2_with fail
    refine (right_v B A n c l w hr hB hn).mono ?_
    rw [HO.out]
    rintro e w1 ⟨rfl, hb⟩
    go_wp2
    go_ret
    exact ⟨rfl, hb⟩
/-- A device's value. -/
def val : List (Int × Nat) → Int → Nat
  | [], _ => 0
  | x :: l, d => if x.1 = d then x.2 else val l d
theorem val_cons (x : Int × Nat) (l : List (Int × Nat)) (d : Int) : val (x :: l) d = if x.1 = d then x.2 else val l d := rfl
set_option maxHeartbeats 1000000 in
theorem value_v (B : Nat) (A : Option Addr) (n c : Nat) (l : List (Int × Nat)) (d : Int) (w : World) (hr : CReads w B A n l) (hB : B ≤ w.heap.size) (hn : n ≤ 9223372036854775807) :
    Calls Tryd.prog 67 #[.slice A n c, .int .i64 d] w fun e w' => e = .returned (.int .u64 (val l d : Int)) ∧ Below w.heap.size w w' := by
  have HLEN := Lib.hid hr.len
  go_enter Tryd.func67, Tryd.ntmps67
  go_wp2
  go_loopw [9] (fun i wr => ∃ (k : Nat), k ≤ n ∧ i = .int .i64 (k : Int) ∧ val l d = val (l.drop k) d ∧ Below w.heap.size w wr) (fun i _ => n - (intOf i).toNat)
  case atStart => exact ⟨0, Nat.zero_le _, rfl, by simp, Below.refl _ _⟩
  case round =>
    obtain ⟨k, hk, rfl, ho, hb⟩ := hrel
    have HO := Lib.hid ho
    clear ho
    have HR := Lib.hid (Reads.below (show Reads w B 2 A n _ from hr) (hb.mono hB))
    by_cases hlt : k < n
    · obtain ⟨ad, x, he, had, hx, hc1, hc2⟩ := CReads.at_ HR.out hlt
      subst he
      have HX := Lib.hid hx
      clear hx
      have HD := Lib.hid (show l.drop k = x :: l.drop (k + 1) by obtain ⟨hk2, he⟩ := List.getElem?_eq_some_iff.1 HX.out; rw [List.drop_eq_getElem_cons hk2, he])
      have hbn : Below w.heap.size w (wr.alloc (.cells #[.int .i64 x.1, .int .u64 (x.2 : Int)] 49)) := hb.alloc hb.size _
      by_cases b1 : x.1 = d
      · have d1 : (x.1 == d) = true := by simpa using b1
        have HF := Lib.hid (show val l d = x.2 by rw [HO.out, HD.out, val_cons, if_pos b1])
        clear b1
        go_wp2
        go_ret
        exact ⟨by rw [HF.out]; rfl, hbn⟩
      · have d1 : (x.1 == d) = false := by simpa using b1
        have HF := Lib.hid (show val l d = val (l.drop (k + 1)) d by rw [HO.out, HD.out, val_cons, if_neg b1])
        clear b1
        go_wp2
        go_roundw
        case rel => exact ⟨k + 1, hlt, by go_num, HF.out, hbn⟩
        case measure => simp [intOf]; omega
    · obtain rfl : k = n := by omega
      have HF := Lib.hid (show val l d = 0 by rw [HO.out, List.drop_of_length_le (by rw [HLEN.out]; exact Nat.le_refl _)]; rfl)
      go_wp2
      go_ret
      exact ⟨by rw [HF.out]; rfl, hb⟩
theorem val_v (B : Nat) (A : Option Addr) (n c : Nat) (l : List (Int × Nat)) (d : Int) (w : World) (hr : CReads w B A n l) (hB : B ≤ w.heap.size) (hn : n ≤ 9223372036854775807) :
    Calls Tryd.prog 51 #[.slice A n c, .int .i64 d] w fun e w' => e = .returned (.int .u64 (val l d : Int)) ∧ Below w.heap.size w w' := by
  go_enter Tryd.func51, Tryd.ntmps51
  go_wp2_with fail
  refine (value_v B A n c l d w hr hB hn).mono ?_
  rintro e w1 ⟨rfl, hb⟩
  go_wp2
  go_ret
  exact ⟨rfl, hb⟩
end Go.Proofs.YtndekohimfjdeaaDoor
