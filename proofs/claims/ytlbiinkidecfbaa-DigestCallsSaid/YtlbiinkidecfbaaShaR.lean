/-
  Digests: Parse.
-/
import Derived.Test.YtlbiinkidecfbaaShaO
namespace Go.Proofs.Ytlbiinkidecfbaa
open Go.RowKit
def halfN (c : Nat) : Option Nat := if 48 ≤ c ∧ c ≤ 57 then some (c - 48) else if 97 ≤ c ∧ c ≤ 102 then some (c - 87) else none
theorem halfN_lt {c x : Nat} (h : halfN c = some x) : x < 16 := by
  unfold halfN at h
  split at h
  · injection h with h; omega
  · split at h
    · injection h with h; omega
    · cases h
set_option maxHeartbeats 1000000 in
theorem half_v (c : Nat) (w : World) (hc : c < 256) : Calls Try.prog 30 #[.int .u8 (c : Int)] w fun e w' => e = .returned (.tuple #[.int .u8 (((halfN c).getD 0 : Nat) : Int), .bool (halfN c).isSome]) ∧ w = w' := by
  by_cases h1 : 48 ≤ c
  · have d1 : decide (48 ≤ (c : Int)) = true := by simp; omega
    by_cases h2 : c ≤ 57
    · have d2 : decide ((c : Int) ≤ 57) = true := by simp; omega
      have hh : halfN c = some (c - 48) := by rw [halfN, if_pos ⟨h1, h2⟩]
      have HH := Lib.hid hh
      clear hh
      go_enter Try.func30, Try.ntmps30
      go_wp2
      go_ret2
      refine ⟨?_, rfl⟩
      rw [HH.out]
      simp
      omega
    · have d2 : decide ((c : Int) ≤ 57) = false := by simp; omega
      by_cases h3 : 97 ≤ c
      · have d3 : decide (97 ≤ (c : Int)) = true := by simp; omega
        by_cases h4 : c ≤ 102
        · have d4 : decide ((c : Int) ≤ 102) = true := by simp; omega
          have hh : halfN c = some (c - 87) := by rw [halfN, if_neg (by omega), if_pos ⟨h3, h4⟩]
          have HH := Lib.hid hh
          clear hh
          go_enter Try.func30, Try.ntmps30
          go_wp2
          go_ret2
          refine ⟨?_, rfl⟩
          rw [HH.out]
          simp
          omega
        · have d4 : decide ((c : Int) ≤ 102) = false := by simp; omega
          have hh : halfN c = none := by rw [halfN, if_neg (by omega), if_neg (by omega)]
          have HH := Lib.hid hh
          clear hh
          go_enter Try.func30, Try.ntmps30
          go_wp2
          go_ret2
          refine ⟨?_, rfl⟩
          rw [HH.out]
          simp
      · have d3 : decide (97 ≤ (c : Int)) = false := by simp; omega
        have hh : halfN c = none := by rw [halfN, if_neg (by omega), if_neg (by omega)]
        have HH := Lib.hid hh
        clear hh
        go_enter Try.func30, Try.ntmps30
        go_wp2
        go_ret2
        refine ⟨?_, rfl⟩
        rw [HH.out]
        simp
  · have d1 : decide (48 ≤ (c : Int)) = false := by simp; omega
    have d3 : decide (97 ≤ (c : Int)) = false := by simp; omega
    have hh : halfN c = none := by rw [halfN, if_neg (by omega), if_neg (by omega)]
    have HH := Lib.hid hh
    clear hh
    go_enter Try.func30, Try.ntmps30
    go_wp2
    go_ret2
    refine ⟨?_, rfl⟩
    rw [HH.out]
    simp
def digitN (l : List UInt8) (i : Nat) : Option Nat := match halfN (l.getD (2 * i) 0).toNat, halfN (l.getD (2 * i + 1) 0).toNat with
  | some a, some b => some (a * 16 + b)
  | _, _ => none
def parseK (l : List UInt8) : Nat → Option (List Nat)
  | 0 => some []
  | k + 1 => (parseK l k).bind fun ds => (digitN l k).map fun x => ds ++ [x]
theorem parseK_len {l : List UInt8} : ∀ {k : Nat} {ds : List Nat}, parseK l k = some ds → ds.length = k
  | 0, ds, h => by injection h with h; subst h; rfl
  | k + 1, ds, h => by
    rw [parseK] at h
    cases hp : parseK l k with
    | none => rw [hp] at h; cases h
    | some d =>
      rw [hp] at h
      cases hx : digitN l k with
      | none => rw [hx] at h; cases h
      | some x => rw [hx] at h; injection h with h; subst h; simp [parseK_len hp]
theorem parseK_none {l : List UInt8} {k : Nat} (h : parseK l k = none) : ∀ j, k ≤ j → parseK l j = none := by
  intro j hj
  induction hj with
  | refl => exact h
  | step _ ih => rw [parseK, ih]; rfl
def parsed (l : List UInt8) : List Nat × Nat := match parseK l 32 with
  | some ds => (ds, 0)
  | none => (List.replicate 32 0, 2)
theorem parsed_none {l : List UInt8} {k : Nat} (h : parseK l k = none) (hk : k ≤ 32) : parsed l = (List.replicate 32 0, 2) := by
  unfold parsed
  rw [parseK_none h 32 hk]
theorem parsed_some {l : List UInt8} {ds : List Nat} (h : parseK l 32 = some ds) : parsed l = (ds, 0) := by
  unfold parsed
  rw [h]
theorem parseK_no {l : List UInt8} {k : Nat} {ds : List Nat} (h : parseK l k = some ds) (hd : digitN l k = none) : parseK l (k + 1) = none := by
  rw [parseK, h, hd]; rfl
theorem parseK_yes {l : List UInt8} {k x : Nat} {ds : List Nat} (h : parseK l k = some ds) (hd : digitN l k = some x) : parseK l (k + 1) = some (ds ++ [x]) := by
  rw [parseK, h, hd]; rfl
theorem str_index (s : ByteArray) (i : Nat) (hi : i < s.size) (V : World) : (Instr.index 9 (.string s) (.int .i64 (i : Int))).run Try.prog V = .ok (.int .u8 ((s.data.toList.getD i 0).toNat : Int)) V := by
  rw [run_index_string V 9 s .i64 (i : Int) Try.underlying9, dif_pos ⟨by omega, by omega⟩]
  have hl : i < s.data.toList.length := by rw [Array.length_toList]; exact hi
  congr 3
  rw [List.getD_eq_getElem?_getD, List.getElem?_eq_getElem hl]
  rfl
theorem fill32 {ds : List Nat} {k x : Nat} (hl : ds.length = k) (hk : k < 32) : (ds ++ List.replicate (32 - k) 0).set k x = (ds ++ [x]) ++ List.replicate (32 - (k + 1)) 0 := by
  subst hl
  rw [List.set_append_right _ _ (Nat.le_refl _), Nat.sub_self, show 32 - ds.length = (32 - (ds.length + 1)) + 1 by omega, List.replicate_succ, List.set_cons_zero]
  simp
/-- While the digits are laid. -/
structure PaI (w : World) (ds : List Nat) (W : World) : Prop where
  h0 : Arr .u8 29 W w.heap.size (List.replicate 32 0)
  hd : Arr .u8 29 W (w.heap.size + 1) ds
  hb : Below w.heap.size w W
theorem PaI.start (w : World) : PaI w (List.replicate 32 0) ((w.alloc (.cells #[Value.int .u8 0, Value.int .u8 0, Value.int .u8 0, Value.int .u8 0, Value.int .u8 0, Value.int .u8 0, Value.int .u8 0, Value.int .u8 0, Value.int .u8 0, Value.int .u8 0, Value.int .u8 0, Value.int .u8 0, Value.int .u8 0, Value.int .u8 0, Value.int .u8 0, Value.int .u8 0, Value.int .u8 0, Value.int .u8 0, Value.int .u8 0, Value.int .u8 0, Value.int .u8 0, Value.int .u8 0, Value.int .u8 0, Value.int .u8 0, Value.int .u8 0, Value.int .u8 0, Value.int .u8 0, Value.int .u8 0, Value.int .u8 0, Value.int .u8 0, Value.int .u8 0, Value.int .u8 0] 29)).alloc (.cells #[Value.int .u8 0, Value.int .u8 0, Value.int .u8 0, Value.int .u8 0, Value.int .u8 0, Value.int .u8 0, Value.int .u8 0, Value.int .u8 0, Value.int .u8 0, Value.int .u8 0, Value.int .u8 0, Value.int .u8 0, Value.int .u8 0, Value.int .u8 0, Value.int .u8 0, Value.int .u8 0, Value.int .u8 0, Value.int .u8 0, Value.int .u8 0, Value.int .u8 0, Value.int .u8 0, Value.int .u8 0, Value.int .u8 0, Value.int .u8 0, Value.int .u8 0, Value.int .u8 0, Value.int .u8 0, Value.int .u8 0, Value.int .u8 0, Value.int .u8 0, Value.int .u8 0, Value.int .u8 0] 29)) := by
  obtain ⟨w1, hw1⟩ : ∃ w1, w.alloc (.cells #[Value.int .u8 0, Value.int .u8 0, Value.int .u8 0, Value.int .u8 0, Value.int .u8 0, Value.int .u8 0, Value.int .u8 0, Value.int .u8 0, Value.int .u8 0, Value.int .u8 0, Value.int .u8 0, Value.int .u8 0, Value.int .u8 0, Value.int .u8 0, Value.int .u8 0, Value.int .u8 0, Value.int .u8 0, Value.int .u8 0, Value.int .u8 0, Value.int .u8 0, Value.int .u8 0, Value.int .u8 0, Value.int .u8 0, Value.int .u8 0, Value.int .u8 0, Value.int .u8 0, Value.int .u8 0, Value.int .u8 0, Value.int .u8 0, Value.int .u8 0, Value.int .u8 0, Value.int .u8 0] 29) = w1 := ⟨_, rfl⟩
  have z1 : w1.heap.size = w.heap.size + 1 := by rw [← hw1]; simp
  have a1 : Arr .u8 29 w1 w.heap.size (List.replicate 32 0) := by rw [← hw1]; exact Arr.new w _ _ rfl
  have b1 : Below w.heap.size w w1 := by rw [← hw1]; exact (Below.refl _ _).alloc (Nat.le_refl _) _
  rw [hw1]
  clear hw1
  refine ⟨a1.alloc _, ?_, b1.alloc (by omega) _⟩
  rw [← z1]
  exact Arr.new w1 _ _ rfl
theorem PaI.set_ {w : World} {ds ds' : List Nat} {W : World} (h : PaI w ds W) (i : Nat) (z : Int) (x : Nat) (hz : z = (x : Int)) (hd : ds.set i x = ds') : PaI w ds' (W.setCell ⟨w.heap.size + 1, i, none⟩ (.int .u8 z)) :=
  ⟨h.h0.setOther (by simp) _, hd ▸ h.hd.set_ i z x hz, h.hb.setCell (by simp) _⟩
set_option maxRecDepth 100000 in
set_option maxHeartbeats 4000000 in
theorem parse_v (s : ByteArray) (w : World) (hs : s.size = 64) :
    Calls Try.prog 13 #[.string s] w fun e w' => e = .returned (.tuple #[.agg ((parsed s.data.toList).1.map fun x : Nat => Value.int .u8 (x : Int)).toArray, .int .i64 ((parsed s.data.toList).2 : Int)]) ∧ Below w.heap.size w w' := by
  have HI9 := Lib.hid (show (Try.prog.info? 29).map (·.size) = some 32 by kernel_rfl)
  have HSS := Lib.hid hs
  have d1 : ((s.size : Int) != 64) = false := by rw [bne_eq_false_iff_eq]; omega
  clear hs
  go_enter Try.func13, Try.ntmps13
  go_wp2
  have I0 := Lib.hid (PaI.start w)
  obtain ⟨cs, hcs⟩ : ∃ cs : Array Value, cs = #[Value.int .u8 0, Value.int .u8 0, Value.int .u8 0, Value.int .u8 0, Value.int .u8 0, Value.int .u8 0, Value.int .u8 0, Value.int .u8 0, Value.int .u8 0, Value.int .u8 0, Value.int .u8 0, Value.int .u8 0, Value.int .u8 0, Value.int .u8 0, Value.int .u8 0, Value.int .u8 0, Value.int .u8 0, Value.int .u8 0, Value.int .u8 0, Value.int .u8 0, Value.int .u8 0, Value.int .u8 0, Value.int .u8 0, Value.int .u8 0, Value.int .u8 0, Value.int .u8 0, Value.int .u8 0, Value.int .u8 0, Value.int .u8 0, Value.int .u8 0, Value.int .u8 0, Value.int .u8 0] := ⟨_, rfl⟩
  have HC := Lib.hid hcs
  have HS := Lib.hid (show cs.size = 32 by rw [hcs]; rfl)
  have HO := Lib.hid (show cs.all (·.oneCell') = true by rw [hcs]; simp [Value.oneCell'])
  clear hcs
  generalize (w.alloc (.cells #[Value.int .u8 0, Value.int .u8 0, Value.int .u8 0, Value.int .u8 0, Value.int .u8 0, Value.int .u8 0, Value.int .u8 0, Value.int .u8 0, Value.int .u8 0, Value.int .u8 0, Value.int .u8 0, Value.int .u8 0, Value.int .u8 0, Value.int .u8 0, Value.int .u8 0, Value.int .u8 0, Value.int .u8 0, Value.int .u8 0, Value.int .u8 0, Value.int .u8 0, Value.int .u8 0, Value.int .u8 0, Value.int .u8 0, Value.int .u8 0, Value.int .u8 0, Value.int .u8 0, Value.int .u8 0, Value.int .u8 0, Value.int .u8 0, Value.int .u8 0, Value.int .u8 0, Value.int .u8 0] 29)).alloc (.cells #[Value.int .u8 0, Value.int .u8 0, Value.int .u8 0, Value.int .u8 0, Value.int .u8 0, Value.int .u8 0, Value.int .u8 0, Value.int .u8 0, Value.int .u8 0, Value.int .u8 0, Value.int .u8 0, Value.int .u8 0, Value.int .u8 0, Value.int .u8 0, Value.int .u8 0, Value.int .u8 0, Value.int .u8 0, Value.int .u8 0, Value.int .u8 0, Value.int .u8 0, Value.int .u8 0, Value.int .u8 0, Value.int .u8 0, Value.int .u8 0, Value.int .u8 0, Value.int .u8 0, Value.int .u8 0, Value.int .u8 0, Value.int .u8 0, Value.int .u8 0, Value.int .u8 0, Value.int .u8 0] 29) = w0 at *
  obtain ⟨l, hl⟩ : ∃ l, s.data.toList = l := ⟨_, rfl⟩
  have HL := Lib.hid hl
  clear hl
  go_loopw [14] (fun i wr => ∃ (k : Nat) (ds : List Nat), k ≤ 32 ∧ i = .int .i64 (k : Int) ∧ Hid (parseK l k = some ds) ∧ PaI w (ds ++ List.replicate (32 - k) 0) wr) (fun i _ => 32 - (intOf i).toNat)
  case atStart => exact ⟨0, [], Nat.zero_le _, rfl, Lib.hid rfl, I0.out⟩
  case round =>
    clear I0
    obtain ⟨k, ds, hk, rfl, HPK, hI⟩ := hrel
    have I := Lib.hid hI
    clear hI
    have HKL := Lib.hid (parseK_len HPK.out)
    by_cases hlt : k < 32
    · have d2 := dec_lt hlt
      obtain ⟨c0, hc0⟩ : ∃ c, l.getD (2 * k) 0 = c := ⟨_, rfl⟩
      obtain ⟨c1, hc1⟩ : ∃ c, l.getD (2 * k + 1) 0 = c := ⟨_, rfl⟩
      have x0 : ∀ V : World, (Instr.index 9 (.string s) (.int .i64 (2 * (k : Int)))).run Try.prog V = .ok (.int .u8 (c0.toNat : Int)) V := fun V => by
        have := str_index s (2 * k) (by have := HSS.out; omega) V
        rw [HL.out, hc0] at this
        rw [show 2 * (k : Int) = ((2 * k : Nat) : Int) by omega]
        exact this
      have x1 : ∀ V : World, (Instr.index 9 (.string s) (.int .i64 (2 * (k : Int) + 1))).run Try.prog V = .ok (.int .u8 (c1.toNat : Int)) V := fun V => by
        have := str_index s (2 * k + 1) (by have := HSS.out; omega) V
        rw [HL.out, hc1] at this
        rw [show 2 * (k : Int) + 1 = ((2 * k + 1 : Nat) : Int) by omega]
        exact this
      have b0 : c0.toNat < 256 := c0.toNat_lt
      have b1 : c1.toNat < 256 := c1.toNat_lt
      have k0 : (0 : Int) ≤ (k : Int) := by omega
      have k1 : (k : Int) < 32 := by omega
      have HC0 := Lib.hid hc0
      have HC1 := Lib.hid hc1
      clear hc0 hc1
      obtain ⟨r0, hr0⟩ : ∃ r, halfN c0.toNat = r := ⟨_, rfl⟩
      obtain ⟨r1, hr1⟩ : ∃ r, halfN c1.toNat = r := ⟨_, rfl⟩
      have H0 := half_v c0.toNat
      have H1 := half_v c1.toNat
      rw [hr0] at H0
      rw [hr1] at H1
      have HH0 := Lib.hid H0
      have HH1 := Lib.hid H1
      have HR0 := Lib.hid hr0
      have HR1 := Lib.hid hr1
      clear H0 H1 hr0 hr1
      go_wp2_with fail
      refine (HH0.out _ b0).mono ?_
      rintro e _ ⟨rfl, rfl⟩
      go_wp2_with fail
      refine (HH1.out _ b1).mono ?_
      rintro e _ ⟨rfl, rfl⟩
      clear x0 x1
      rcases r0 with _ | a
      · have HDG := Lib.hid (show digitN l k = none by rw [digitN, HC0.out, HC1.out, HR0.out])
        have HR := Lib.hid (parsed_none (parseK_no HPK.out HDG.out) (by omega))
        go_wp2_with (first
          | (refine wpList_store_row rfl 29 (.tmp 2) (.tmp 40) rfl w.heap.size cs rfl (by rw [HC.out]; rfl) 29 _ I.out.h0 (HI9.out.trans (by rw [HS.out])) (by rw [HS.out]; rfl) HO.out ?_)
          | fail)
        have HW := Lib.hid (setRow_heap wr w.heap.size _ cs _ _ I.out.h0)
        exact bodyPost_ret (results_row_tmp Try.results13 _ _ w.heap.size _ cs _ _ rfl HW.out Try.underlying29 rfl (HI9.out.trans (by rw [HS.out]))) rfl ⟨by rw [HL.out, HR.out, HC.out]; rfl, below_setRow I.out.hb (Nat.le_refl _) _⟩
      rcases r1 with _ | b
      · have HDG := Lib.hid (show digitN l k = none by rw [digitN, HC0.out, HC1.out, HR0.out, HR1.out])
        have HR := Lib.hid (parsed_none (parseK_no HPK.out HDG.out) (by omega))
        go_wp2_with (first
          | (refine wpList_store_row rfl 29 (.tmp 2) (.tmp 40) rfl w.heap.size cs rfl (by rw [HC.out]; rfl) 29 _ I.out.h0 (HI9.out.trans (by rw [HS.out])) (by rw [HS.out]; rfl) HO.out ?_)
          | fail)
        have HW := Lib.hid (setRow_heap wr w.heap.size _ cs _ _ I.out.h0)
        exact bodyPost_ret (results_row_tmp Try.results13 _ _ w.heap.size _ cs _ _ rfl HW.out Try.underlying29 rfl (HI9.out.trans (by rw [HS.out]))) rfl ⟨by rw [HL.out, HR.out, HC.out]; rfl, below_setRow I.out.hb (Nat.le_refl _) _⟩
      have ha := halfN_lt HR0.out
      have hb := halfN_lt HR1.out
      have HDG := Lib.hid (show digitN l k = some (a * 16 + b) by rw [digitN, HC0.out, HC1.out, HR0.out, HR1.out])
      have HN := Lib.hid (parseK_yes HPK.out HDG.out)
      have HF := Lib.hid (fill32 (x := a * 16 + b) HKL.out hlt)
      obtain ⟨y, hy⟩ : ∃ y, (ds ++ List.replicate (32 - k) 0)[k]? = some y := ⟨_, List.getElem?_eq_getElem (by rw [List.length_append, HKL.out, List.length_replicate]; omega)⟩
      have cw := Arr.cell I.out.hd hy
      have fw := Arr.frozen I.out.hd k
      have e1 : bits .or .u8 ((a : Int) * 16) (b : Int) = ((a * 16 + b : Nat) : Int) := by
        have := u8_or_nat (a * 16) b (by omega) (by omega)
        rw [nat_join 4 _ _ (by omega) (by omega)] at this
        rw [show (a : Int) * 16 = ((a * 16 : Nat) : Int) by omega]
        exact this
      clear hy
      simp only [Option.getD_some, Option.isSome_some]
      go_wp2
      go_roundw
      case rel => exact ⟨k + 1, ds ++ [a * 16 + b], hlt, by go_num, HN, I.out.set_ k _ (a * 16 + b) (by omega) HF.out⟩
      case measure => simp [intOf]; omega
    · obtain rfl : k = 32 := by omega
      have HV := Lib.hid (show Arr .u8 29 wr (w.heap.size + 1) ds by have := I.out.hd; simpa using this)
      have HR := Lib.hid (parsed_some HPK.out)
      have HSZ := Lib.hid (show (ds.map fun x : Nat => Value.int .u8 (x : Int)).toArray.size = 32 by simp [HKL.out])
      go_wp2_with (first
        | (refine wpList_load_row rfl 29 (.tmp 4) rfl (w.heap.size + 1) rfl 29 (ds.map fun x : Nat => Value.int .u8 (x : Int)).toArray (0, 0) _ HV.out Try.underlying29 rfl (HI9.out.trans (by rw [HSZ.out])) ?_)
        | (refine wpList_store_row rfl 29 (.tmp 2) (.tmp 48) rfl w.heap.size (ds.map fun x : Nat => Value.int .u8 (x : Int)).toArray rfl rfl 29 _ I.out.h0 (HI9.out.trans (by rw [HSZ.out])) (by rw [HSZ.out]; rfl) (by simp [Value.oneCell']) ?_)
        | fail)
      have HW := Lib.hid (setRow_heap wr w.heap.size _ (ds.map fun x : Nat => Value.int .u8 (x : Int)).toArray _ _ I.out.h0)
      exact bodyPost_ret (results_row_tmp Try.results13 _ _ w.heap.size _ _ _ _ rfl HW.out Try.underlying29 rfl (HI9.out.trans (by rw [HSZ.out]))) rfl ⟨by rw [HL.out, HR.out]; rfl, below_setRow I.out.hb (Nat.le_refl _) _⟩
end Go.Proofs.Ytlbiinkidecfbaa
