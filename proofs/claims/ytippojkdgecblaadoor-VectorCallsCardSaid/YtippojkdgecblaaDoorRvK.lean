/-
  The reference's reader of bytes.
-/
import Derived.Test.YtippojkdgecblaaDoorRvJ
import Derived.Test.YtippojkdgecblaaDoorRvG
namespace Go.Proofs.YtippojkdgecblaaDoor
open Go.RowKit
/-- A reader of the reference: the bytes l are left, its error is e. -/
structure RRdr (lo : Nat) (w : World) (gr : Nat) (A : Option Addr) (n c : Nat) (L : List UInt8) (i : Nat) (l : List UInt8) (e : Int) : Prop where
  at_ : w.heap[gr]? = some (.cells #[.slice A n c, .int .i64 (i : Int), .int .i64 e] 87 (0, 0))
  reads : BReads w gr A n L
  le : i ≤ n
  rest : l = L.drop i
  small : n ≤ 140737488355328
  low : lo ≤ gr
section
variable {w w' : World} {lo gr n c i : Nat} {A : Option Addr} {L l : List UInt8} {e : Int}
theorem RRdr.b (h : RRdr lo w gr A n c L i l e) : w.cell? ⟨gr, 0, none⟩ = some (.slice A n c) := by rw [cell_of_row w gr 0 _ _ _ h.at_]; rfl
theorem RRdr.ix (h : RRdr lo w gr A n c L i l e) : w.cell? ⟨gr, 1, none⟩ = some (.int .i64 (i : Int)) := by rw [cell_of_row w gr 1 _ _ _ h.at_]; rfl
theorem RRdr.err (h : RRdr lo w gr A n c L i l e) : w.cell? ⟨gr, 2, none⟩ = some (.int .i64 e) := by rw [cell_of_row w gr 2 _ _ _ h.at_]; rfl
theorem RRdr.free (h : RRdr lo w gr A n c L i l e) (j : Nat) : w.frozen? ⟨gr, j, none⟩ = false := by have := h.at_; simp [World.frozen?, this]
theorem RRdr.lt (h : RRdr lo w gr A n c L i l e) : gr < w.heap.size := (Array.getElem?_eq_some_iff.1 h.at_).1
theorem RRdr.below (h : RRdr lo w gr A n c L i l e) {B : Nat} (hb : Below B w w') (hB : gr < B) : RRdr lo w' gr A n c L i l e :=
  ⟨(hb.block gr hB).trans h.at_, Reads.below h.reads (hb.mono (Nat.le_of_lt hB)), h.le, h.rest, h.small, h.low⟩
theorem RRdr.setE (h : RRdr lo w gr A n c L i l e) (e' : Int) : RRdr lo (w.setCell ⟨gr, 2, none⟩ (.int .i64 e')) gr A n c L i l e' := by
  refine ⟨?_, Reads.setCell h.reads (Nat.le_refl _) _, h.le, h.rest, h.small, h.low⟩
  simp [World.setCell, Array.getElem?_modify, h.at_]
theorem RRdr.setI (h : RRdr lo w gr A n c L i l e) {i' : Nat} (hi : i' ≤ n) : RRdr lo (w.setCell ⟨gr, 1, none⟩ (.int .i64 (i' : Int))) gr A n c L i' (L.drop i') e := by
  refine ⟨?_, Reads.setCell h.reads (Nat.le_refl _) _, hi, rfl, h.small, h.low⟩
  simp [World.setCell, Array.getElem?_modify, h.at_]
end
set_option maxHeartbeats 2000000 in
theorem rnew_v (B : Nat) (A : Option Addr) (n c : Nat) (l : List UInt8) (w : World) (hr : BReads w B A n l) (hB : B ≤ w.heap.size) (hn : n ≤ 140737488350000) :
    Calls Tryd.prog 43 #[.slice A n c] w fun e w' => ∃ gr A' c', e = .returned (.pointer (some ⟨gr, 0, none⟩)) ∧ RRdr w.heap.size w' gr A' n c' l 0 l 0 ∧ Below w.heap.size w w' := by
  have HR := Lib.hid hr
  clear hr
  go_enter Tryd.func43, Tryd.ntmps43
  go_wp2_with (at_builtin; refine wpList_app rfl (.tmp 3) (.tmp 4) rfl w.heap.size (some ⟨w.heap.size, 0, none⟩) 0 0 [] rfl (BOwn.empty w) B A n c l rfl (Reads.alloc HR.out hB _) n l (by simp) (by simp) (by omega) (by simp) ?_; intro A2 c2 w2 ho2 hg2 _)
  have HO2 := Lib.hid ho2
  have hb2 : Below w.heap.size w w2 := below_app ((Below.refl _ _).alloc (Nat.le_refl _) _) hg2 (BOwn.empty w) (Nat.le_refl _) (by simp)
  clear ho2 hg2
  go_wp2_with fail
  go_ret
  refine ⟨w2.heap.size, A2, c2, rfl, ⟨heap_alloc_new w2 _, Reads.alloc HO2.out.reads (Nat.le_refl _) _, Nat.zero_le _, rfl, by omega, hb2.size⟩, hb2.alloc hb2.size _⟩
/-- What 'next' answers. -/
def nextV (l : List UInt8) (i : Nat) : Ending := .returned (.tuple #[.int .u64 ((numR l).1 : Int), .int .i64 (if (numR l).2.2 = 0 then ((i + (numR l).2.1 : Nat) : Int) else 0), .int .i64 (numR l).2.2])
theorem nextV_of {l : List UInt8} {i x m : Nat} {e : Int} (h : numR l = (x, m, e)) : nextV l i = .returned (.tuple #[.int .u64 (x : Int), .int .i64 (if e = 0 then ((i + m : Nat) : Int) else 0), .int .i64 e]) := by rw [nextV, h]
set_option maxRecDepth 100000 in
set_option maxHeartbeats 4000000 in
theorem next_v {lo : Nat} (w : World) (gr n c i0 : Nat) (A : Option Addr) (L l : List UInt8) (e : Int) (h : RRdr lo w gr A n c L i0 l e) :
    Calls Tryd.prog 73 #[.pointer (some ⟨gr, 0, none⟩)] w fun r w' => r = nextV l i0 ∧ w = w' := by
  have cb := h.b
  have ci := h.ix
  have H := Lib.hid h
  have HL := Lib.hid h.reads.len
  have hle := h.le
  have hsm := h.small
  have HRE := Lib.hid h.rest
  clear h
  obtain ⟨ans, hans⟩ : ∃ ans, nextV l i0 = ans := ⟨_, rfl⟩
  have HANS := Lib.hid hans
  rw [hans]
  clear hans
  go_enter Tryd.func73, Tryd.ntmps73
  go_wp2_with fail
  go_loop [5, 6] (fun x j => ∃ jn xk : Nat, i0 ≤ jn ∧ jn ≤ n ∧ j = .int .i64 (jn : Int) ∧ x = .int .u64 (xk : Int) ∧ xk < 18446744073709551616 ∧ (jn = i0 → xk = 0) ∧ numR l = if jn = i0 ∧ l.head? = some 128 then (0, 0, 4) else numL xk (jn - i0) (L.drop jn)) (fun _ j => n - (intOf j).toNat)
  case atStart => exact ⟨i0, 0, Nat.le_refl _, hle, rfl, rfl, by omega, fun _ => rfl, by rw [numR, HRE.out]; simp⟩
  case round =>
    obtain ⟨j, xk, hj1, hj2, rfl, rfl, hx64, hj0, hnl⟩ := hrel
    have HN := Lib.hid hnl
    have HJ0 := Lib.hid hj0
    clear hnl hj0
    by_cases hlt : j < n
    · obtain ⟨ad, ck, rfl, _, hc, hck, _, hck2⟩ := H.out.reads.at_ hlt
      have HD := Lib.hid (show L.drop j = ck :: L.drop (j + 1) by
        have hkl : j < L.length := by rw [HL.out]; exact hlt
        rw [List.drop_eq_getElem_cons hkl]
        have := hck.out
        rw [List.getElem?_eq_getElem hkl] at this
        injection this with this
        rw [this])
      have HD0 := Lib.hid (show j = i0 → l.head? = some ck from fun h => by rw [HRE.out, ← h, HD.out]; rfl)
      have k0 : (0 : Int) ≤ (j : Int) := by omega
      have d0 : decide (j < n) = true := by simpa using hlt
      clear hck
      by_cases h1 : j = i0 ∧ ck = 128
      · have HF := Lib.hid (show nextV l i0 = _ from nextV_of (by rw [HN.out, if_pos ⟨h1.1, by rw [HD0.out h1.1, h1.2]⟩]))
        have e1 : ((j : Int) == (i0 : Int)) = true := by rw [beq_iff_eq]; omega
        have e2 : ((ck.toNat : Int) == 128) = true := by rw [h1.2]; rfl
        clear h1
        go_wp2_with fail
        go_ret3
        exact ⟨by rw [← HANS.out, HF.out]; rfl, rfl⟩
      · have hne : ¬ (j = i0 ∧ l.head? = some 128) := fun h => h1 ⟨h.1, by have := HD0.out h.1; rw [this] at h; exact Option.some.inj h.2⟩
        have HN2 := Lib.hid (show numR l = numL xk (j - i0) (L.drop j) by rw [HN.out, if_neg hne])
        clear hne
        by_cases hbig : 144115188075855872 ≤ xk
        · have HF := Lib.hid (show nextV l i0 = _ from nextV_of (by rw [HN2.out, numL_big _ _ _ hbig]))
          have hj : j ≠ i0 := fun h => by have := HJ0.out h; omega
          have e1 : ((j : Int) == (i0 : Int)) = false := by rw [beq_eq_false_iff_ne]; omega
          have e3 : decide (144115188075855872 ≤ xk) = true := by simpa using hbig
          have e3' : decide ((144115188075855872 : Int) ≤ (xk : Int)) = true := by simp; omega
          clear h1 hj
          go_wp2_with fail
          go_ret3
          exact ⟨by rw [← HANS.out, HF.out]; rfl, rfl⟩
        · have e3 : decide (144115188075855872 ≤ xk) = false := by simpa using hbig
          have e3' : decide ((144115188075855872 : Int) ≤ (xk : Int)) = false := by simp; omega
          have t1 : (ck.toNat : Int).tmod 128 = ((ck.toNat % 128 : Nat) : Int) := by rw [Int.tmod_eq_emod_of_nonneg (by omega)]; omega
          have fin : ∀ b1 b2 : Bool, ((j : Int) == (i0 : Int)) = b1 → ((ck.toNat : Int) == 128) = b2 → (b1 && b2) = false → True := fun _ _ _ _ _ => trivial
          clear fin
          obtain ⟨b1, hb1⟩ : ∃ b, ((j : Int) == (i0 : Int)) = b := ⟨_, rfl⟩
          obtain ⟨b2, hb2⟩ : ∃ b, ((ck.toNat : Int) == 128) = b := ⟨_, rfl⟩
          have hb12 : ¬ (b1 = true ∧ b2 = true) := fun h => h1 ⟨by have := h.1; rw [← hb1, beq_iff_eq] at this; omega, by
            have := h.2; rw [← hb2, beq_iff_eq] at this
            exact UInt8.toNat_inj.1 (show ck.toNat = 128 by omega)⟩
          clear h1
          have xm : xk * 128 + ck.toNat % 128 < 18446744073709551616 := by omega
          by_cases h128 : ck.toNat < 128
          · have d2 : decide (ck.toNat < 128) = true := by simpa using h128
            have d2' : decide ((ck.toNat : Int) < 128) = true := by simp; omega
            have HF := Lib.hid (show nextV l i0 = .returned (.tuple #[.int .u64 ((xk * 128 + ck.toNat % 128 : Nat) : Int), .int .i64 ((j : Int) + 1), .int .i64 0]) by
              rw [nextV_of (show numR l = (xk * 128 + ck.toNat % 128, j - i0 + 1, 0) by rw [HN2.out, HD.out, numL_last _ _ _ _ (by omega) h128]), if_pos rfl, show ((i0 + (j - i0 + 1) : Nat) : Int) = (j : Int) + 1 by omega])
            cases b1 <;> cases b2
            case true.true => exact absurd ⟨rfl, rfl⟩ hb12
            all_goals
              clear hb12
              go_wp2_with fail
              go_ret3
              exact ⟨by rw [← HANS.out, HF.out]; exact ret3i (by simp) rfl rfl, rfl⟩
          · have d2 : decide (ck.toNat < 128) = false := by simpa using h128
            have d2' : decide ((ck.toNat : Int) < 128) = false := by simp; omega
            have HF := Lib.hid (show numR l = numL (xk * 128 + ck.toNat % 128) (j + 1 - i0) (L.drop (j + 1)) by rw [HN2.out, HD.out, numL_more _ _ _ _ (by omega) (by omega), show j - i0 + 1 = j + 1 - i0 by omega])
            cases b1 <;> cases b2
            case true.true => exact absurd ⟨rfl, rfl⟩ hb12
            all_goals
              clear hb12
              go_wp2_with fail
              go_round
              case rel => exact ⟨j + 1, xk * 128 + ck.toNat % 128, by omega, by omega, by go_num, by go_num, xm, fun h => by omega, by rw [if_neg (by omega)]; exact HF.out⟩
              case measure => simp [intOf]; omega
    · obtain rfl : j = n := by omega
      have hd : L.drop j = [] := List.drop_eq_nil_of_le (by rw [HL.out]; exact Nat.le_refl _)
      have hhd : ¬ (j = i0 ∧ l.head? = some 128) := fun h => by have := h.2; rw [HRE.out, ← h.1, hd] at this; cases this
      have HN2 := Lib.hid (show numR l = if 144115188075855872 ≤ xk then (0, 0, 4) else (0, 0, 5) by rw [HN.out, if_neg hhd, hd, numL_end])
      clear hd hhd
      by_cases hbig : 144115188075855872 ≤ xk
      · have HF := Lib.hid (show nextV l i0 = _ from nextV_of (by rw [HN2.out, if_pos hbig]))
        have e3 : decide (144115188075855872 ≤ xk) = true := by simpa using hbig
        have e3' : decide ((144115188075855872 : Int) ≤ (xk : Int)) = true := by simp; omega
        go_wp2_with fail
        go_ret3
        exact ⟨by rw [← HANS.out, HF.out]; rfl, rfl⟩
      · have HF := Lib.hid (show nextV l i0 = _ from nextV_of (by rw [HN2.out, if_neg hbig]))
        have e3 : decide (144115188075855872 ≤ xk) = false := by simpa using hbig
        have e3' : decide ((144115188075855872 : Int) ≤ (xk : Int)) = false := by simp; omega
        go_wp2_with fail
        go_ret3
        exact ⟨by rw [← HANS.out, HF.out]; rfl, rfl⟩
end Go.Proofs.YtippojkdgecblaaDoor
