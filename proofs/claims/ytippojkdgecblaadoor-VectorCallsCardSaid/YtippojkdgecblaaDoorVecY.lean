/-
  Vectors: Bytes.
-/
import Derived.Test.YtippojkdgecblaaDoorVecR
import Derived.Test.YtippojkdgecblaaDoorNum
import Derived.Test.YtippojkdgecblaaDoorNumBack
import Derived.Test.YtippojkdgecblaaDoorRdrB
namespace Go.Proofs.YtippojkdgecblaaDoor
open Go.RowKit
/-- What each count of a vector that may be is. -/
theorem ok_all : ∀ (l : List (Int × Nat)) (last : Int), okV last l = true → ∀ x ∈ l, last < x.1 ∧ x.1 ≤ 16 ∧ x.2 ≠ 0
  | [], _, _, x, hx => by simp at hx
  | y :: l, last, h, x, hx => by
    rw [okV_cons] at h
    split at h
    · cases h
    · rcases List.mem_cons.1 hx with rfl | hx
      · omega
      · have := ok_all l y.1 h x hx
        omega
theorem ok_len : ∀ (l : List (Int × Nat)) (last : Int), okV last l = true → last ≤ 16 → (l.length : Int) ≤ 16 - last
  | [], last, _, h => by simp; omega
  | y :: l, last, h, h2 => by
    rw [okV_cons] at h
    split at h
    · cases h
    · have := ok_len l y.1 h (by omega)
      simp only [List.length_cons]
      omega
/-- A count's bytes. -/
def cntB (x : Int × Nat) : List UInt8 := num x.1.toNat ++ num x.2
def vecB (l : List (Int × Nat)) : List UInt8 := num l.length ++ (l.map cntB).flatten
theorem vecB_take (l : List (Int × Nat)) (k : Nat) (x : Int × Nat) (h : l[k]? = some x) : ((l.take (k + 1)).map cntB).flatten = ((l.take k).map cntB).flatten ++ cntB x := by
  obtain ⟨hk, he⟩ := List.getElem?_eq_some_iff.1 h
  rw [List.take_succ_eq_append_getElem hk, he]
  simp
set_option maxHeartbeats 2000000 in
theorem bytes_v (A : Option Addr) (n c : Nat) (l : List (Int × Nat)) (w : World) (hr : VR w A n l) (ho : okV 0 l = true) :
    Calls Tryd.prog 15 #[.slice A n c] w fun e w' => ∃ A' n' c', e = .returned (.tuple #[.slice A' n' c', .int .i64 0]) ∧ BReads w' w'.heap.size A' n' (vecB l) ∧ n' ≤ 1000 ∧ n' ≤ c' ∧ Below w.heap.size w w' := by
  have HLEN := Lib.hid hr.r.len
  have HR := Lib.hid hr
  have hn16 : n ≤ 16 := by have := ok_len l 0 ho (by omega); have := hr.r.len; omega
  have HALL := Lib.hid (ok_all l 0 ho)
  have HO := Lib.hid ho
  clear hr ho
  go_enter Tryd.func15, Tryd.ntmps15
  go_wp2_with fail
  refine (check_r HR.out).mono ?_
  rw [HO.out]
  rintro e w1 ⟨rfl, hb1⟩
  go_wp2_with fail
  have hn := num_len n
  have hnum := number_any 0 none 0 0 [] n w1 Reads.none_ (Nat.zero_le _) (by omega) (by omega)
  rw [Nat.zero_add, List.nil_append] at hnum
  refine hnum.mono ?_
  clear hnum
  rintro e w2 ⟨A2, c2, rfl, ho2, hb2⟩
  have s2 := hb1.trans (hb2.mono hb1.size)
  have HO2 : Hid (BReads w2 w2.heap.size A2 (num n).length (num n)) := Lib.hid ho2.reads
  have hc2 := ho2.2
  clear ho2 hb1 hb2
  go_wp2_with fail
  go_loopw [5, 19] (fun b i wr => ∃ (k m c' : Nat) (A' : Option Addr), k ≤ n ∧ i = .int .i64 (k : Int) ∧ b = .slice A' m c' ∧ m ≤ 10 + 20 * k ∧ m ≤ c' ∧ BReads wr wr.heap.size A' m (num n ++ ((l.take k).map cntB).flatten) ∧ Below w.heap.size w wr) (fun _ i _ => n - (intOf i).toNat)
  case atStart => exact ⟨0, _, _, _, Nat.zero_le _, rfl, rfl, by omega, hc2, by simpa using HO2.out, s2⟩
  case round =>
    obtain ⟨k, m, c', A', hk, rfl, rfl, hm, hmc, hb, hs⟩ := hrel
    have HB := Lib.hid hb
    clear hb
    have HRr := Lib.hid (HR.out.step hs)
    by_cases hlt : k < n
    · obtain ⟨ad, x, he, had, hx, hc1, hc2'⟩ := CReads.at_ HRr.out.r hlt
      subst he
      have HX := Lib.hid hx
      have hx1 := HALL.out x (List.mem_of_getElem? hx)
      have hx64 : x.2 < 18446744073709551616 := HR.out.f x (List.mem_of_getElem? hx)
      clear hx
      obtain ⟨z, v⟩ := x
      obtain ⟨d, rfl⟩ := Int.eq_ofNat_of_zero_le (show 0 ≤ z by have := hx1.1; simp only at this; omega)
      simp only at hc1 hc2' hx1 hx64
      have hd16 : d ≤ 16 := by omega
      clear hx1
      have hsn : Below w.heap.size w (wr.alloc (.cells #[.int .i64 (d : Int), .int .u64 (v : Int)] 29)) := hs.alloc hs.size _
      have q1 : ∀ W, Below (wr.alloc (.cells #[.int .i64 (d : Int), .int .u64 (v : Int)] 29)).heap.size (wr.alloc (.cells #[.int .i64 (d : Int), .int .u64 (v : Int)] 29)) W → W.cell? ⟨wr.heap.size, 0, none⟩ = some (.int .i64 (d : Int)) := fun W h => (h.cell (p := ⟨wr.heap.size, 0, none⟩) (by simp)).trans (by rw [World.cell?_alloc_at _ _ _ _ rfl]; rfl)
      have q2 : ∀ W, Below (wr.alloc (.cells #[.int .i64 (d : Int), .int .u64 (v : Int)] 29)).heap.size (wr.alloc (.cells #[.int .i64 (d : Int), .int .u64 (v : Int)] 29)) W → W.cell? ⟨wr.heap.size, 1, none⟩ = some (.int .u64 (v : Int)) := fun W h => (h.cell (p := ⟨wr.heap.size, 1, none⟩) (by simp)).trans (by rw [World.cell?_alloc_at _ _ _ _ rfl]; rfl)
      have HB0 := Lib.hid (show BReads (wr.alloc (.cells #[.int .i64 (d : Int), .int .u64 (v : Int)] 29)) (wr.alloc (.cells #[.int .i64 (d : Int), .int .u64 (v : Int)] 29)).heap.size A' m (num n ++ ((l.take k).map cntB).flatten) from Reads.more (Reads.alloc HB.out (Nat.le_refl _) _) (by simp))
      have Q1 := Lib.hid q1
      have Q2 := Lib.hid q2
      clear q1 q2
      go_wp2_with fail
      generalize (wr.alloc (.cells #[.int .i64 (d : Int), .int .u64 (v : Int)] 29)) = W0 at *
      have q1 := Q1.out
      have q2 := Q2.out
      refine wp_region_text [(0, false), (1, false), (2, false), (3, false), (5, false), (6, false), (4, true), (7, true), (8, false)] (fun W => Below W0.heap.size W0 W) (by kernel_rfl) (by kernel_rfl) (by kernel_rfl) (by kernel_rfl) (by kernel_rfl) (fun dd => ?_)
      simp only [outOf, List.getElem?_cons_zero, List.getElem?_cons_succ, Option.getD_some]
      have hS := (Below.refl W0.heap.size W0).drew
      have ew : IntKind.u64.wrap (d : Int) = (d : Int) := by rw [IntKind.wrap_u64]; omega
      iterate 6 ((first | (refine TW.skip (by rfl) (fun _ _ _ h => h) (by assumption) ?_) | (refine TW.val (v := ?_) (fun _ _ _ h => h) (Or.inl ⟨by rfl, ?_⟩) (by assumption) ?_; rotate_left; (focus (intro W hSW; (try dsimp only at hSW); go_simp; (try with_reducible rfl))))); simp only [Act.put, List.setIfInBounds_toArray, List.set_cons_zero, List.set_cons_succ])
      refine TW.eff (by rfl) (fun K hK => ?_); go_simp
      have hd := num_len d
      have hv := num_len v
      clear ew
      refine (number_any W0.drew.heap.size A' m c' _ d W0.drew HB0.out (Nat.le_refl _) (by omega) (by omega)).mono ?_
      rintro e w3 ⟨A3, c3, rfl, ho3, hb3⟩
      have s3 : Below W0.heap.size W0 w3 := hS.trans hb3
      have HB3 := Lib.hid ho3.reads
      clear ho3 hb3
      go_wp2_with fail; refine hK.out _ _ s3 ?_; clear hK; (try simp only [Act.put, List.setIfInBounds_toArray, List.set_cons_zero, List.set_cons_succ])
      refine TW.eff (by rfl) (fun K hK => ?_); go_simp
      refine (number_any w3.heap.size A3 (m + (num d).length) c3 _ v w3 HB3.out (Nat.le_refl _) (by omega) (by omega)).mono ?_
      rintro e w4 ⟨A4, c4, rfl, ho4, hb4⟩
      have s4 : Below W0.heap.size W0 w4 := btwo s3 hb4
      have hm4 := ho4.2
      have HB4 := Lib.hid ho4.reads
      clear ho4 hb4
      go_wp2_with fail; refine hK.out _ _ s4 ?_; clear hK; (try simp only [Act.put, List.setIfInBounds_toArray, List.set_cons_zero, List.set_cons_succ])
      iterate 1 ((first | (refine TW.skip (by rfl) (fun _ _ _ h => h) (by assumption) ?_) | (refine TW.val (v := ?_) (fun _ _ _ h => h) (Or.inl ⟨by rfl, ?_⟩) (by assumption) ?_; rotate_left; (focus (intro W hSW; (try dsimp only at hSW); go_simp; (try with_reducible rfl))))); simp only [Act.put, List.setIfInBounds_toArray, List.set_cons_zero, List.set_cons_succ])
      refine TW.done ?_
      have s5 := hsn.trans (s4.mono hsn.size)
      have HF := Lib.hid (show num n ++ ((l.take (k + 1)).map cntB).flatten = num n ++ ((l.take k).map cntB).flatten ++ num d ++ num v by rw [vecB_take l k _ HX.out, cntB]; simp)
      go_wp2
      go_roundw
      case rel => exact ⟨k + 1, _, _, _, hlt, by go_num, rfl, by omega, hm4, by rw [HF.out]; exact HB4.out, s5⟩
      case measure => simp [intOf]; omega
    · obtain rfl : k = n := by omega
      have HF := Lib.hid (show num k ++ ((l.take k).map cntB).flatten = vecB l by rw [List.take_of_length_le (by rw [HLEN.out]; exact Nat.le_refl _), vecB, HLEN.out])
      go_wp2
      go_ret2
      exact ⟨A', m, c', rfl, by rw [← HF.out]; exact HB.out, by omega, hmc, hs⟩
end Go.Proofs.YtippojkdgecblaaDoor
