/-
  The reference's reader: Number, Count, End; Get and Read of vectors.
-/
import Derived.Test.YtippojkdgecblaaDoorRvK
namespace Go.Proofs.YtippojkdgecblaaDoor
open Go.RowKit
theorem nextV_ok {l : List UInt8} {i : Nat} (h : (numR l).2.2 = 0) : nextV l i = .returned (.tuple #[.int .u64 ((numR l).1 : Int), .int .i64 ((i + (numR l).2.1 : Nat) : Int), .int .i64 0]) := by rw [nextV, h, if_pos rfl]
theorem nextV_no {l : List UInt8} {i : Nat} (h : (numR l).2.2 ≠ 0) : nextV l i = .returned (.tuple #[.int .u64 ((numR l).1 : Int), .int .i64 0, .int .i64 (numR l).2.2]) := by rw [nextV, if_neg h]
set_option maxHeartbeats 4000000 in
theorem rrnum_v {lo : Nat} (w : World) (gr n c i : Nat) (A : Option Addr) (L l : List UInt8) (e : Int) (h : RRdr lo w gr A n c L i l e) :
    Calls Tryd.prog 61 #[.pointer (some ⟨gr, 0, none⟩)] w fun r w' => r = .returned (.int .u64 ((rdNum (l, e)).1 : Int)) ∧ (∃ i', RRdr lo w' gr A n c L i' (rdNum (l, e)).2.1 (rdNum (l, e)).2.2) ∧ w.grownBy w' (some gr) := by
  have ce := h.err
  have NV := Lib.hid (next_v w gr n c i A L l e h)
  have f1 := h.free 1
  have f2 := h.free 2
  have hll := h.reads.len
  have ci := h.ix
  by_cases he : e = 0
  · subst he
    have hbd := numR_bd l
    by_cases hk : (numR l).2.2 = 0
    · rw [rdNum_ok l hk]
      rw [nextV_ok hk] at NV
      have hln : l.length = n - i := by rw [h.rest, List.length_drop, hll]
      have hm := hbd.2.1 hk
      have hile := h.le
      have hsm := h.small
      have HI := Lib.hid (show RRdr lo (w.setCell ⟨gr, 1, none⟩ (.int .i64 ((i + (numR l).2.1 : Nat) : Int))) gr A n c L (i + (numR l).2.1) (l.drop (numR l).2.1) 0 by
        have := h.setI (i' := i + (numR l).2.1) (by omega)
        rw [h.rest, List.drop_drop]
        rw [h.rest] at this
        exact this)
      have h64 := hbd.1
      generalize (numR l).1 = x at *
      generalize i + (numR l).2.1 = y at *
      clear h hbd hk hm hln
      go_enter Tryd.func61, Tryd.ntmps61
      go_wp2_with fail
      refine NV.out.mono ?_
      rintro e _ ⟨rfl, rfl⟩
      go_wp2_with fail
      go_ret
      exact ⟨rfl, ⟨_, HI.out⟩, gb_set (World.grownBy.refl _ _) (.inl rfl) _⟩
    · rw [rdNum_bad l hk]
      rw [nextV_no hk] at NV
      have hb : ((numR l).2.2 != 0) = true := by rw [bne_iff_ne]; exact hk
      have HE := Lib.hid (h.setE (numR l).2.2)
      generalize (numR l).2.2 = k at *
      generalize (numR l).1 = x at *
      clear h hbd hk
      go_enter Tryd.func61, Tryd.ntmps61
      go_wp2_with fail
      refine NV.out.mono ?_
      rintro e _ ⟨rfl, rfl⟩
      go_wp2_with fail
      go_ret
      exact ⟨rfl, ⟨_, HE.out⟩, gb_set (World.grownBy.refl _ _) (.inl rfl) _⟩
  · rw [rdNum_err l e he]
    have hb : (e != 0) = true := by rw [bne_iff_ne]; exact he
    have H := Lib.hid h
    clear h
    go_enter Tryd.func61, Tryd.ntmps61
    go_wp2_with fail
    go_ret
    exact ⟨rfl, ⟨_, H.out⟩, World.grownBy.refl _ _⟩
set_option maxHeartbeats 4000000 in
theorem rrcnt_v {lo : Nat} (w : World) (gr n c i : Nat) (A : Option Addr) (L l : List UInt8) (h : RRdr lo w gr A n c L i l 0) :
    Calls Tryd.prog 60 #[.pointer (some ⟨gr, 0, none⟩), .int .i64 16] w fun r w' => r = .returned (.int .i64 ((rdCnt (l, 0)).1 : Int)) ∧ (∃ i', RRdr lo w' gr A n c L i' (rdCnt (l, 0)).2.1 (rdCnt (l, 0)).2.2) ∧ w.grownBy w' (some gr) := by
  have ce := h.err
  have NV := Lib.hid (next_v w gr n c i A L l 0 h)
  have f1 := h.free 1
  have f2 := h.free 2
  have hll := h.reads.len
  have ci := h.ix
  have hbd := numR_bd l
  by_cases hk : (numR l).2.2 = 0
  · rw [nextV_ok hk] at NV
    by_cases hx16 : (numR l).1 ≤ 16
    · rw [rdCnt_ok l hk hx16]
      have hln : l.length = n - i := by rw [h.rest, List.length_drop, hll]
      have hm := hbd.2.1 hk
      have hile := h.le
      have hsm := h.small
      have HI := Lib.hid (show RRdr lo (w.setCell ⟨gr, 1, none⟩ (.int .i64 ((i + (numR l).2.1 : Nat) : Int))) gr A n c L (i + (numR l).2.1) (l.drop (numR l).2.1) 0 by
        have := h.setI (i' := i + (numR l).2.1) (by omega)
        rw [h.rest, List.drop_drop]
        rw [h.rest] at this
        exact this)
      generalize (numR l).1 = x at *
      generalize i + (numR l).2.1 = y at *
      have g1 : decide (16 < x) = false := decide_eq_false (by omega)
      have g2 : decide ((16 : Int) < (x : Int)) = false := by simp; omega
      clear h hbd hk hm hln
      go_enter Tryd.func60, Tryd.ntmps60
      go_wp2_with fail
      refine NV.out.mono ?_
      rintro e _ ⟨rfl, rfl⟩
      go_wp2_with fail
      go_ret
      exact ⟨rfl, ⟨_, HI.out⟩, gb_set (World.grownBy.refl _ _) (.inl rfl) _⟩
    · rw [rdCnt_long l hk (by omega)]
      have HE := Lib.hid (h.setE 3)
      have h64 := hbd.1
      generalize (numR l).1 = x at *
      generalize i + (numR l).2.1 = y at *
      have g1 : decide (16 < x) = true := decide_eq_true (by omega)
      have g2 : decide ((16 : Int) < (x : Int)) = true := by simp; omega
      clear h hbd hk hx16
      go_enter Tryd.func60, Tryd.ntmps60
      go_wp2_with fail
      refine NV.out.mono ?_
      rintro e _ ⟨rfl, rfl⟩
      go_wp2_with fail
      go_ret
      exact ⟨rfl, ⟨_, HE.out⟩, gb_set (World.grownBy.refl _ _) (.inl rfl) _⟩
  · rw [rdCnt_bad l hk]
    rw [nextV_no hk] at NV
    have hb : ((numR l).2.2 != 0) = true := by rw [bne_iff_ne]; exact hk
    have hb2 : ((numR l).2.2 == 0) = false := by rw [beq_eq_false_iff_ne]; exact hk
    have HE := Lib.hid (h.setE (numR l).2.2)
    generalize (numR l).2.2 = k at *
    generalize (numR l).1 = x at *
    clear h hbd hk
    go_enter Tryd.func60, Tryd.ntmps60
    go_wp2_with fail
    refine NV.out.mono ?_
    rintro e _ ⟨rfl, rfl⟩
    go_wp2_with fail
    go_ret
    exact ⟨rfl, ⟨_, HE.out⟩, gb_set (World.grownBy.refl _ _) (.inl rfl) _⟩
set_option maxHeartbeats 4000000 in
theorem rrend_v {lo : Nat} (w : World) (gr n c i : Nat) (A : Option Addr) (L l : List UInt8) (e : Int) (h : RRdr lo w gr A n c L i l e) :
    Calls Tryd.prog 45 #[.pointer (some ⟨gr, 0, none⟩)] w fun r w' => r = .returned (.int .i64 (rdEnd (l, e))) ∧ Below w.heap.size w w' := by
  have ce := h.err
  have ci := h.ix
  have cb := h.b
  have hln : l.length = n - i := by rw [h.rest, List.length_drop, h.reads.len]
  have hle := h.le
  obtain ⟨r, hr⟩ : ∃ r, rdEnd (l, e) = r := ⟨_, rfl⟩
  have HR := Lib.hid hr
  rw [hr]
  clear hr h
  by_cases he : e = 0
  · subst he
    by_cases hi : i < n
    · have d1 : decide (i < n) = true := by simpa using hi
      have HF := Lib.hid (show r = 4 by rw [← HR.out, rdEnd, if_neg (by simp), if_pos (by simp only; omega)])
      clear hln
      go_enter Tryd.func45, Tryd.ntmps45
      go_upto_region 1 with fail
      go_quiet (fail)
      go_wp2_with fail
      go_ret
      exact ⟨by rw [HF.out]; rfl, below_drewN (Below.refl _ _) _⟩
    · have d1 : decide (i < n) = false := by simpa using hi
      have HF := Lib.hid (show r = 0 by rw [← HR.out, rdEnd, if_neg (by simp), if_neg (by simp only; omega)])
      clear hln
      go_enter Tryd.func45, Tryd.ntmps45
      go_upto_region 1 with fail
      go_quiet (fail)
      go_wp2_with fail
      go_ret
      exact ⟨by rw [HF.out]; rfl, below_drewN (Below.refl _ _) _⟩
  · have d1 : (e == 0) = false := by rw [beq_eq_false_iff_ne]; exact he
    have HF := Lib.hid (show r = e by rw [← HR.out, rdEnd, if_pos he])
    clear hln he
    go_enter Tryd.func45, Tryd.ntmps45
    go_upto_region 1 with fail
    go_quiet (fail)
    go_wp2_with fail
    go_ret
    exact ⟨by rw [HF.out]; rfl, below_drewN (Below.refl _ _) _⟩
/-- So many counts are read, as long as there is no error. -/
def getN : Nat → List UInt8 × Int → List (Int × Nat) × (List UInt8 × Int)
  | 0, s => ([], s)
  | k + 1, s => if s.2 ≠ 0 then ([], s) else ((((min (rdNum s).1 17 : Nat) : Int), (rdNum (rdNum s).2).1) :: (getN k (rdNum (rdNum s).2).2).1, (getN k (rdNum (rdNum s).2).2).2)
theorem rdNum_stay {s : List UInt8 × Int} (h : s.2 ≠ 0) : (rdNum s).2 = s := by rw [rdNum, if_pos h]
theorem fromN_stay : ∀ (k : Nat) (s : List UInt8 × Int), s.2 ≠ 0 → (fromN k s).2 = s
  | 0, _, _ => rfl
  | k + 1, s, h => by
    rw [fromN]
    simp only
    rw [rdNum_stay h, rdNum_stay h, fromN_stay k s h]
theorem getN_from : ∀ (k : Nat) (s : List UInt8 × Int), (getN k s).2 = (fromN k s).2 ∧ ((fromN k s).2.2 = 0 → getN k s = fromN k s)
  | 0, _ => ⟨rfl, fun _ => rfl⟩
  | k + 1, s => by
    by_cases h : s.2 = 0
    · have ih := getN_from k (rdNum (rdNum s).2).2
      rw [getN, if_neg (by simp [h]), fromN]
      refine ⟨ih.1, fun h2 => ?_⟩
      simp only at h2
      rw [ih.2 h2]
    · have h2 := fromN_stay (k + 1) s h
      rw [getN, if_pos h, h2]
      exact ⟨rfl, fun h3 => absurd h3 h⟩
theorem getN_fit : ∀ (k : Nat) (s : List UInt8 × Int), fitV (getN k s).1
  | 0, _ => fun x hx => by cases hx
  | k + 1, s => fun x hx => by
    rw [getN] at hx
    split at hx
    · cases hx
    · rcases List.mem_cons.1 hx with rfl | hx
      · exact rdNum_64 _
      · exact getN_fit k _ x hx
def getB (l : List UInt8) : List (Int × Nat) × (List UInt8 × Int) := getN (rdCnt (l, 0)).1 (rdCnt (l, 0)).2
theorem rdEnd_zero {s : List UInt8 × Int} (h : rdEnd s = 0) : s.2 = 0 := by
  rw [rdEnd] at h
  split at h
  · assumption
  · rename_i h2
    simpa using h2
theorem readE_get (l : List UInt8) : readE l = (decide (rdEnd (getB l).2 ≠ 0) || !okV 0 (getB l).1) ∧ readV l = if readE l = true then [] else (getB l).1 := by
  have h := getN_from (rdCnt (l, 0)).1 (rdCnt (l, 0)).2
  have e2 : (getB l).2 = (fromB l).2 := h.1
  rw [readV, readE, e2]
  by_cases h0 : rdEnd (fromB l).2 = 0
  · have e1 : getB l = fromB l := h.2 (rdEnd_zero h0)
    rw [e1]
    exact ⟨rfl, rfl⟩
  · have e3 : decide (rdEnd (fromB l).2 ≠ 0) = true := decide_eq_true h0
    rw [e3]
    exact ⟨rfl, rfl⟩
end Go.Proofs.YtippojkdgecblaaDoor
