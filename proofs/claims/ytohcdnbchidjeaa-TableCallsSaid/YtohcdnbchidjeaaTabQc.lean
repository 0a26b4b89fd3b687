/-
  The reference's table: Range.
-/
import Derived.Test.YtohcdnbchidjeaaTabQb
namespace Go.Proofs.Ytohcdnbchidjeaa
open Go.RowKit
theorem nonempty {s : ByteArray} (h : kbeq s ⟨#[]⟩ = false) : s.toList.isEmpty = false := by
  unfold kbeq at h
  rw [ByteArray.toList_eq] at h
  rw [ByteArray.toList_eq]
  cases hh : s.data.toList with
  | nil => rw [hh] at h; simp [ByteArray.toList_eq] at h
  | cons a l => rfl
/-- What is left of a range from place j on. -/
def restR (tt : ByteArray) (most : Int) (L out : List KV) (j : Nat) : List KV := out ++ ((L.drop j).takeWhile (upto tt)).take (most.toNat - out.length)
theorem restR_end {tt : ByteArray} {most : Int} {L out : List KV} {j : Nat} (h : L.length ≤ j) : restR tt most L out j = out := by unfold restR; rw [List.drop_eq_nil_of_le h]; simp
theorem restR_no {tt : ByteArray} {most : Int} {L out : List KV} {j : Nat} {y : KV} (hy : L[j]? = some y) (h : upto tt y = false) : restR tt most L out j = out := by
  obtain ⟨h1, rfl⟩ := List.getElem?_eq_some_iff.1 hy
  unfold restR
  rw [List.drop_eq_getElem_cons h1, List.takeWhile_cons_of_neg (by simp [h])]
  simp
theorem restR_full {tt : ByteArray} {most : Int} {L out : List KV} {j : Nat} (h : ¬ (out.length : Int) < most) : restR tt most L out j = out := by
  unfold restR
  rw [show most.toNat - out.length = 0 by omega]
  simp
theorem restR_step {tt : ByteArray} {most : Int} {L out : List KV} {j : Nat} {y : KV} (hy : L[j]? = some y) (h : upto tt y = true) (hm : (out.length : Int) < most) : restR tt most L out j = restR tt most L (out ++ [y]) (j + 1) := by
  obtain ⟨h1, rfl⟩ := List.getElem?_eq_some_iff.1 hy
  unfold restR
  rw [List.drop_eq_getElem_cons h1, List.takeWhile_cons_of_pos h, show most.toNat - out.length = (most.toNat - (out ++ [L[j]]).length) + 1 by simp; omega, List.take_succ_cons]
  simp
set_option maxHeartbeats 4000000 in
theorem rrange_v (fr tt : ByteArray) (most : Int) (L : List KV) (B : Nat) (A : Option Addr) (n c : Nat) (w : World) (hr : PReads w B A n (pvs L)) (hB : B ≤ w.heap.size) (ha : asc L) (hn : n ≤ 1000000) :
    Calls Try.prog 32 #[.agg #[.slice A n c], .string fr, .string tt, .int .i64 most] w (SlPost w (pvs (rangeL fr tt most L))) := by
  have HN := Lib.hid (show L.length = n by rw [← hr.len, pvs_len])
  have HR := Lib.hid (Reads.alloc hr hB (.cells #[.slice A n c] 44))
  have HB := Lib.hid (show Below w.heap.size w (w.alloc (.cells #[.slice A n c] 44)) from (Below.refl _ _).alloc (Nat.le_refl _) _)
  have HC := Lib.hid (box1 w (.slice A n c) 44)
  have HLT := Lib.hid (show w.heap.size < (w.alloc (.cells #[.slice A n c] 44)).heap.size by simp)
  have HP := Lib.hid (fun V (hV : Below w.heap.size w V) => rplace_v fr L B A n c V (Reads.below hr (hV.mono hB)) (Nat.le_trans hB hV.size) ha hn)
  have hkn := lo_len fr L
  rw [HN.out] at hkn
  have HRG := Lib.hid (show rangeL fr tt most L = restR tt most L [] (lo fr L).length by unfold rangeL restR; rw [drop_lo fr ha]; simp)
  clear hr ha
  generalize hk : (lo fr L).length = k at *
  clear hk
  go_enter Try.func32, Try.ntmps32
  go_wp2_with fail
  generalize w.alloc (.cells #[.slice A n c] 44) = W at *
  refine (HP.out W HB.out).mono ?_
  rintro e w1 ⟨rfl, hb1⟩
  have HC1 := Lib.hid (keepC hb1 HC.out HLT.out)
  have HB1 := Lib.hid (btrans HB.out hb1 HB.out.size)
  have HR1 := Lib.hid (Reads.below HR.out (hb1.mono (Nat.le_trans hB HB.out.size)))
  have HLT1 := Lib.hid (Nat.lt_of_lt_of_le HLT.out hb1.size)
  have HBz := Lib.hid (show B ≤ w1.heap.size from Nat.le_trans hB HB1.out.size)
  have HST := Lib.hid (Below.refl w1.heap.size w1)
  have HNIL := Lib.hid (POwn.nil_ w1 w1.heap.size)
  clear hb1 HR HB HC HLT HP
  go_wp2
  go_loopw [9, 10] (fun so i wr => ∃ (j : Nat) (out : List KV) (A1 : Option Addr) (c1 : Nat), j ≤ n ∧ so = .slice A1 out.length c1 ∧ i = .int .i64 (j : Int) ∧ POwn wr w1.heap.size A1 out.length c1 (pvs out) ∧ Below w1.heap.size w1 wr ∧ Hid (out.length ≤ j ∧ rangeL fr tt most L = restR tt most L out j)) (fun _ i _ => n - (intOf i).toNat)
  case atStart => exact ⟨k, [], none, 0, hkn, rfl, rfl, HNIL.out, HST.out, Lib.hid ⟨Nat.zero_le _, HRG.out⟩⟩
  case round =>
    obtain ⟨j, out, A1, c1, hj, rfl, rfl, ho, hb, HO⟩ := hrel
    have OW := Lib.hid ho
    have BW := Lib.hid hb
    have ct := keepC hb HC1.out HLT1.out
    have HLR := Lib.hid (Reads.below HR1.out (hb.mono HBz.out))
    have HEX : Hid (∀ V, Below wr.heap.size wr V → rangeL fr tt most L = out → SlPost w (pvs (rangeL fr tt most L)) (.returned (.slice A1 out.length c1)) V) := Lib.hid fun V hV h => by
      have ho' := ho.below hV
      rw [h]
      refine ⟨A1, c1, by rw [pvs_len], ?_, btrans (btrans HB1.out hb HB1.out.size) hV (Nat.le_trans HB1.out.size hb.size)⟩
      rw [pvs_len]
      exact ho'.down HB1.out.size
    clear ho hb
    by_cases hlt : j < n
    · obtain ⟨ad, x, hA, hadB, hx, d0, d1, d2⟩ := PReads.at_ HLR.out hlt
      subst hA
      obtain ⟨y, hy, rfl⟩ := pvs_at hx
      have HY := Lib.hid hy
      have e0 : wr.cell? (ad.add (j * 3)) = some (.string y.1) := d0
      have e1 : wr.cell? ⟨(ad.add (j * 3)).block, (ad.add (j * 3)).off + 1, none⟩ = some (.string y.2) := d1
      have e2 : wr.cell? ⟨(ad.add (j * 3)).block, (ad.add (j * 3)).off + 2, none⟩ = some (.bool false) := d2
      have hj0 : (0 : Int) ≤ (j : Int) := by omega
      have hj1 : (j : Int) < (n : Int) := by omega
      clear hx hy d0 d1 d2 hadB
      cases hu : upto tt y
      · have HRS := Lib.hid (HO.out.2.trans (restR_no HY.out hu))
        have c3 : kbeq tt ⟨#[]⟩ = false ∧ klt y.1 tt = false := by simpa [upto] using hu
        have d2 : tt.toList.isEmpty = false := nonempty c3.1
        have d4 : (tt.toList == ([] : List UInt8)) = false := by rw [← d2]; cases tt.toList <;> rfl
        have d3 : Op.bytesLess y.1.toList tt.toList = false := c3.2
        clear hu c3
        go_wp2
        go_ret
        exact HEX.out _ (Below.refl _ _) HRS.out
      · by_cases hm : (out.length : Int) < most
        · have HST2 := Lib.hid (HO.out.2.trans (restR_step HY.out hu hm))
          have hmd : decide ((out.length : Int) < most) = true := by simpa using hm
          have c3 : kbeq tt ⟨#[]⟩ = true ∨ klt y.1 tt = true := by simpa [upto] using hu
          have HLJ := Lib.hid (show out.length + 1 ≤ 3000000000000 by have := HO.out.1; omega)
          have HOJ := Lib.hid HO.out.1
          have OA := Lib.hid (OW.out.alloc (.cells #[.string y.1, .string y.2, .bool false] 39))
          have RA := Lib.hid (PReads.one wr (pv y) 39)
          have SA := Lib.hid (show w1.heap.size ≤ (wr.alloc (.cells #[.string y.1, .string y.2, .bool false] 39)).heap.size by have := BW.out.size; simp; omega)
          have BA := Lib.hid (show Below w1.heap.size w1 (wr.alloc (.cells #[.string y.1, .string y.2, .bool false] 39)) from BW.out.alloc BW.out.size _)
          clear hu hm
          by_cases c4 : kbeq tt ⟨#[]⟩ = true
          · obtain rfl := (kbeq_iff _ _).1 c4
            clear c3 c4
            go_wp2_with (at_builtin; refine wpList_papp rfl (.tmp 41) (.tmp 47) rfl w1.heap.size A1 out.length c1 (pvs out) rfl OA.out (wr.heap.size + 1) (some ⟨wr.heap.size, 0, none⟩) 1 1 [pv y] rfl RA.out HLJ.out SA.out ?_; intro A3 c3 w3 ho3 hg3; have BB := Lib.hid (below_papp BA.out hg3 OA.out (Nat.le_refl _) SA.out); have OB := Lib.hid ho3; clear ho3 hg3)
            go_roundw
            case rel => exact ⟨j + 1, out ++ [y], A3, c3, by omega, by simp, by go_num, by rw [pvs_snoc]; simpa using OB.out, BB.out, Lib.hid ⟨by have := HOJ.out; simp; omega, HST2.out⟩⟩
            case measure => simp [intOf]; omega
          · have d3 : Op.bytesLess y.1.toList tt.toList = true := c3.resolve_left c4
            have d2 : tt.toList.isEmpty = false := nonempty (by simpa using c4)
            have d4 : (tt.toList == ([] : List UInt8)) = false := by rw [← d2]; cases tt.toList <;> rfl
            clear c3 c4
            go_wp2_with (at_builtin; refine wpList_papp rfl (.tmp 41) (.tmp 47) rfl w1.heap.size A1 out.length c1 (pvs out) rfl OA.out (wr.heap.size + 1) (some ⟨wr.heap.size, 0, none⟩) 1 1 [pv y] rfl RA.out HLJ.out SA.out ?_; intro A3 c3 w3 ho3 hg3; have BB := Lib.hid (below_papp BA.out hg3 OA.out (Nat.le_refl _) SA.out); have OB := Lib.hid ho3; clear ho3 hg3)
            go_roundw
            case rel => exact ⟨j + 1, out ++ [y], A3, c3, by omega, by simp, by go_num, by rw [pvs_snoc]; simpa using OB.out, BB.out, Lib.hid ⟨by have := HOJ.out; simp; omega, HST2.out⟩⟩
            case measure => simp [intOf]; omega
        · have HRS := Lib.hid (HO.out.2.trans (restR_full hm))
          have hmd : decide ((out.length : Int) < most) = false := by simpa using hm
          have c3 : kbeq tt ⟨#[]⟩ = true ∨ klt y.1 tt = true := by simpa [upto] using hu
          clear hu hm
          by_cases c4 : kbeq tt ⟨#[]⟩ = true
          · obtain rfl := (kbeq_iff _ _).1 c4
            clear c3 c4
            go_wp2
            go_ret
            exact HEX.out _ (Below.refl _ _) HRS.out
          · have d3 : Op.bytesLess y.1.toList tt.toList = true := c3.resolve_left c4
            have d2 : tt.toList.isEmpty = false := nonempty (by simpa using c4)
            have d4 : (tt.toList == ([] : List UInt8)) = false := by rw [← d2]; cases tt.toList <;> rfl
            clear c3 c4
            go_wp2
            go_ret
            exact HEX.out _ (Below.refl _ _) HRS.out
    · obtain rfl : j = n := by omega
      have HRS := Lib.hid (HO.out.2.trans (restR_end (by rw [HN.out]; exact Nat.le_refl _)))
      go_wp2
      go_ret
      exact HEX.out _ (Below.refl _ _) HRS.out
end Go.Proofs.Ytohcdnbchidjeaa
