/-
  Digests, the reference: Parse.
-/
import Derived.Test.YtlbiinkidecfbaaShaR
import Derived.Test.YtlbiinkidecfbaaShaN
namespace Go.Proofs.Ytlbiinkidecfbaa
open Go.RowKit
def digV (c : Nat) : Int := match halfN c with
  | some n => n
  | none => -1
theorem digV_hit : ∀ c : Fin 256, ∀ n : Fin 16, signN n = c → digV c = n := by decide +kernel
theorem digV_no : ∀ c : Fin 256, (∀ n : Fin 16, signN n ≠ c) → digV c = -1 := by decide +kernel
theorem sign8_nat (j : Nat) (hj : j < 16) : (sign8 j).toNat = signN j := by
  have : ∀ j : Fin 16, (sign8 j).toNat = signN j := by decide +kernel
  exact this ⟨j, hj⟩
theorem hex_index64 (j : Nat) (hj : j < 16) (w : World) : (Instr.index 9 (.string { data := #[48, 49, 50, 51, 52, 53, 54, 55, 56, 57, 97, 98, 99, 100, 101, 102] }) (.int .i64 (j : Int))).run Try.prog w = .ok (.int .u8 (signN j : Int)) w := by
  rw [str_index ⟨#[48, 49, 50, 51, 52, 53, 54, 55, 56, 57, 97, 98, 99, 100, 101, 102]⟩ j hj w]
  have : ∀ j : Fin 16, (([48, 49, 50, 51, 52, 53, 54, 55, 56, 57, 97, 98, 99, 100, 101, 102] : List UInt8).getD j 0).toNat = signN j := by decide +kernel
  have h := this ⟨j, hj⟩
  simp only [] at h
  rw [← h]
set_option maxHeartbeats 1000000 in
theorem digit_v (c : Nat) (w : World) (hc : c < 256) : Calls Try.prog 39 #[.int .u8 (c : Int)] w fun e w' => e = .returned (.int .i64 (digV c)) ∧ w = w' := by
  go_enter Try.func39, Try.ntmps39
  go_wp2
  go_loop [3] (fun i => ∃ k : Nat, k ≤ 16 ∧ i = .int .i64 (k : Int) ∧ ∀ j, j < k → signN j ≠ c) (fun i => 16 - (intOf i).toNat)
  case atStart => exact ⟨0, Nat.zero_le _, rfl, fun j hj => absurd hj (Nat.not_lt_zero _)⟩
  case round =>
    obtain ⟨k, hk, rfl, hne⟩ := hrel
    have HNE := Lib.hid hne
    clear hne
    by_cases hlt : k < 16
    · have d1 := dec_lt hlt
      have hix := fun V => hex_index64 k hlt V
      obtain ⟨y, hy⟩ : ∃ y, signN k = y := ⟨_, rfl⟩
      have HY := Lib.hid hy
      rw [hy] at hix
      clear hy
      by_cases h : y = c
      · have hv : digV c = (k : Int) := digV_hit ⟨c, hc⟩ ⟨k, hlt⟩ (HY.out.trans h)
        have d2 : ((y : Int) == (c : Int)) = true := by rw [beq_iff_eq]; omega
        go_wp2
        go_ret
        exact ⟨rfl, rfl⟩
      · have d2 := beq_ne h
        go_wp2
        go_round
        case rel => exact ⟨k + 1, by omega, by go_num, fun j hj => by
          rcases Nat.lt_succ_iff_lt_or_eq.1 hj with h1 | rfl
          · exact HNE.out j h1
          · rw [HY.out]; exact h⟩
        case measure => simp [intOf]; omega
    · obtain rfl : k = 16 := by omega
      have hv : digV c = -1 := digV_no ⟨c, hc⟩ fun n => HNE.out n.1 n.2
      go_wp2
      go_ret
      exact ⟨rfl, rfl⟩
theorem digV_some {c n : Nat} (h : halfN c = some n) : digV c = (n : Int) := by rw [digV, h]
theorem digV_none {c : Nat} (h : halfN c = none) : digV c = -1 := by rw [digV, h]
/-- The numbers behind t signs. -/
structure RP (l : List UInt8) (k : Nat) (odd : Bool) (ds : List Nat) (x : Nat) : Prop where
  p : ∃ p, parseK l k = some p ∧ ds = p ++ x :: List.replicate (31 - k) 0
  hx : x < 16
  ho : odd = false → x = 0
  h1 : odd = true → halfN (l.getD (2 * k) 0).toNat = some x
theorem RP.at_ {l : List UInt8} {k x : Nat} {odd : Bool} {ds : List Nat} (h : RP l k odd ds x) : ds[k]? = some x := by
  obtain ⟨p, hp, rfl⟩ := h.p
  rw [List.getElem?_append_right (by rw [parseK_len hp]; exact Nat.le_refl _), parseK_len hp]
  simp
theorem RP.set_ {l : List UInt8} {k x y : Nat} {odd : Bool} {ds : List Nat} (h : RP l k odd ds x) : ∃ p, parseK l k = some p ∧ ds.set k y = p ++ y :: List.replicate (31 - k) 0 := by
  obtain ⟨p, hp, rfl⟩ := h.p
  refine ⟨p, hp, ?_⟩
  rw [List.set_append_right _ _ (by rw [parseK_len hp]; exact Nat.le_refl _), parseK_len hp]
  simp
theorem RP.start (l : List UInt8) : RP l 0 false (List.replicate 32 0) 0 := ⟨⟨[], rfl, rfl⟩, by omega, fun _ => rfl, fun h => by cases h⟩
theorem RP.even {l : List UInt8} {k x n : Nat} {ds : List Nat} (h : RP l k false ds x) (hn : halfN (l.getD (2 * k) 0).toNat = some n) : RP l k true (ds.set k (x * 16 + n)) (x * 16 + n) := by
  have hx := h.ho rfl
  subst hx
  refine ⟨h.set_, by have := halfN_lt hn; omega, fun h => (by cases h), fun _ => by rw [hn]; simp⟩
theorem RP.odd_ {l : List UInt8} {k x n : Nat} {ds : List Nat} (h : RP l k true ds x) (hk : k < 32) (hn : halfN (l.getD (2 * k + 1) 0).toNat = some n) :
    parseK l (k + 1) = some ((ds.set k (x * 16 + n)).take (k + 1)) ∧ (k < 31 → RP l (k + 1) false (ds.set k (x * 16 + n)) 0) := by
  obtain ⟨p, hp, he⟩ := h.set_ (y := x * 16 + n)
  have hx := h.h1 rfl
  have hpk := parseK_yes hp (show digitN l k = some (x * 16 + n) by rw [digitN, hx, hn])
  have hl := parseK_len hp
  refine ⟨?_, fun h31 => ⟨⟨p ++ [x * 16 + n], hpk, ?_⟩, by omega, fun _ => rfl, fun h => by cases h⟩⟩
  · rw [hpk, he, List.take_append, hl, List.take_of_length_le (by omega), show k + 1 - k = 1 by omega]
    rfl
  · rw [he, show 31 - k = (31 - (k + 1)) + 1 by omega, List.replicate_succ]
    simp
theorem RP.no_even {l : List UInt8} {k x : Nat} {ds : List Nat} (h : RP l k false ds x) (hk : k < 32) (hn : halfN (l.getD (2 * k) 0).toNat = none) : parsed l = (List.replicate 32 0, 2) := by
  obtain ⟨p, hp, _⟩ := h.p
  exact parsed_none (parseK_no hp (by rw [digitN, hn])) (by omega)
theorem RP.no_odd {l : List UInt8} {k x : Nat} {ds : List Nat} (h : RP l k true ds x) (hk : k < 32) (hn : halfN (l.getD (2 * k + 1) 0).toNat = none) : parsed l = (List.replicate 32 0, 2) := by
  obtain ⟨p, hp, _⟩ := h.p
  exact parsed_none (parseK_no hp (by rw [digitN, h.h1 rfl, hn])) (by omega)
/-- What the loop keeps: t signs are read. -/
def RPt (l : List UInt8) (t : Nat) (ds : List Nat) : Prop := (∃ k x, k < 32 ∧ (∃ b : Bool, t = 2 * k + b.toNat ∧ RP l k b ds x)) ∨ (t = 64 ∧ parseK l 32 = some ds)
set_option maxRecDepth 100000 in
set_option maxHeartbeats 4000000 in
theorem rparse_v (s : ByteArray) (w : World) (hs : s.size = 64) :
    Calls Try.prog 21 #[.string s] w fun e w' => e = .returned (.tuple #[.agg ((parsed s.data.toList).1.map fun x : Nat => Value.int .u8 (x : Int)).toArray, .int .i64 ((parsed s.data.toList).2 : Int)]) ∧ Below w.heap.size w w' := by
  have HI9 := Lib.hid (show (Try.prog.info? 29).map (·.size) = some 32 by kernel_rfl)
  have HSS := Lib.hid hs
  have d1 : ((s.size : Int) != 64) = false := by rw [bne_eq_false_iff_eq]; omega
  clear hs
  go_enter Try.func21, Try.ntmps21
  go_wp2
  have I0 := Lib.hid (PaI.start w)
  obtain ⟨cs, hcs⟩ : ∃ cs : Array Value, cs = #[Value.int .u8 0, Value.int .u8 0, Value.int .u8 0, Value.int .u8 0, Value.int .u8 0, Value.int .u8 0, Value.int .u8 0, Value.int .u8 0, Value.int .u8 0, Value.int .u8 0, Value.int .u8 0, Value.int .u8 0, Value.int .u8 0, Value.int .u8 0, Value.int .u8 0, Value.int .u8 0, Value.int .u8 0, Value.int .u8 0, Value.int .u8 0, Value.int .u8 0, Value.int .u8 0, Value.int .u8 0, Value.int .u8 0, Value.int .u8 0, Value.int .u8 0, Value.int .u8 0, Value.int .u8 0, Value.int .u8 0, Value.int .u8 0, Value.int .u8 0, Value.int .u8 0, Value.int .u8 0] := ⟨_, rfl⟩
  have HC := Lib.hid hcs
  have HS := Lib.hid (show cs.size = 32 by rw [hcs]; rfl)
  have HO := Lib.hid (show cs.all (·.oneCell') = true by rw [hcs]; simp [Value.oneCell'])
  clear hcs
  generalize (w.alloc (.cells #[Value.int .u8 0, Value.int .u8 0, Value.int .u8 0, Value.int .u8 0, Value.int .u8 0, Value.int .u8 0, Value.int .u8 0, Value.int .u8 0, Value.int .u8 0, Value.int .u8 0, Value.int .u8 0, Value.int .u8 0, Value.int .u8 0, Value.int .u8 0, Value.int .u8 0, Value.int .u8 0, Value.int .u8 0, Value.int .u8 0, Value.int .u8 0, Value.int .u8 0, Value.int .u8 0, Value.int .u8 0, Value.int .u8 0, Value.int .u8 0, Value.int .u8 0, Value.int .u8 0, Value.int .u8 0, Value.int .u8 0, Value.int .u8 0, Value.int .u8 0, Value.int .u8 0, Value.int .u8 0] 29)).alloc (.cells #[Value.int .u8 0, Value.int .u8 0, Value.int .u8 0, Value.int .u8 0, Value.int .u8 0, Value.int .u8 0, Value.int .u8 0, Value.int .u8 0, Value.int .u8 0, Value.int .u8 0, Value.int .u8 0, Value.int .u8 0, Value.int .u8 0, Value.int .u8 0, Value.int .u8 0, Value.int .u8 0, Value.int .u8 0, Value.int .u8 0, Value.int .u8 0, Value.int .u8 0, Value.int .u8 0, Value.int .u8 0, Value.int .u8 0, Value.int .u8 0, Value.int .u8 0, Value.int .u8 0, Value.int .u8 0, Value.int .u8 0, Value.int .u8 0, Value.int .u8 0, Value.int .u8 0, Value.int .u8 0] 29) = w0 at *
  obtain ⟨l, hl⟩ : ∃ l, s.data.toList = l := ⟨_, rfl⟩
  have HL := Lib.hid hl
  clear hl
  go_loopw [5] (fun i wr => ∃ (t : Nat) (ds : List Nat), t ≤ 64 ∧ i = .int .i64 (t : Int) ∧ RPt l t ds ∧ PaI w ds wr) (fun i _ => 64 - (intOf i).toNat)
  case atStart => exact ⟨0, List.replicate 32 0, Nat.zero_le _, rfl, .inl ⟨0, 0, by omega, false, rfl, RP.start l⟩, I0.out⟩
  case round =>
    clear I0
    obtain ⟨t, ds, ht, rfl, HPK, hI⟩ := hrel
    have I := Lib.hid hI
    clear hI
    rcases HPK with ⟨k, x, hk, b, hb, hP⟩ | ⟨rfl, hP⟩
    · have hlt : t < 64 := by cases b <;> simp at hb <;> omega
      have d2 := dec_lt hlt
      have P := Lib.hid hP
      have hxb := hP.hx
      have cw := Arr.cell I.out.hd hP.at_
      have fw := Arr.frozen I.out.hd k
      clear hP
      have e0 : (t : Int) / 2 = (k : Int) := by cases b <;> simp at hb <;> omega
      have HB := Lib.hid hb
      clear hb
      obtain ⟨c, hc⟩ : ∃ c, l.getD t 0 = c := ⟨_, rfl⟩
      have x0 : ∀ V : World, (Instr.index 9 (.string s) (.int .i64 (t : Int))).run Try.prog V = .ok (.int .u8 (c.toNat : Int)) V := fun V => by
        have := str_index s t (by have := HSS.out; omega) V
        rw [HL.out, hc] at this
        exact this
      have b0 : c.toNat < 256 := c.toNat_lt
      have k0 : (0 : Int) ≤ (k : Int) := by omega
      have k1 : (k : Int) < 32 := by omega
      have HD := Lib.hid (fun V => digit_v c.toNat V b0)
      have HCC := Lib.hid hc
      clear hc
      cases hr : halfN c.toNat with
      | none =>
        rw [digV_none hr] at HD
        have HR : Hid (parsed l = (List.replicate 32 0, 2)) := Lib.hid (by
          have h := P.out
          have hb := HB.out
          rw [← HCC.out, hb] at hr
          cases b
          · exact h.no_even hk (by simpa using hr)
          · exact h.no_odd hk (by simpa using hr))
        clear hr
        go_wp2_with (first
          | (go_at_call 39; refine (HD.out _).mono ?_; rintro e _ ⟨rfl, rfl⟩)
          | (refine wpList_store_row rfl 29 (.tmp 2) (.tmp 21) rfl w.heap.size cs rfl (by rw [HC.out]; rfl) 29 _ I.out.h0 (HI9.out.trans (by rw [HS.out])) (by rw [HS.out]; rfl) HO.out ?_)
          | fail)
        have HW := Lib.hid (setRow_heap wr w.heap.size _ cs _ _ I.out.h0)
        exact bodyPost_ret (results_row_tmp Try.results21 _ _ w.heap.size _ cs _ _ rfl HW.out Try.underlying29 rfl (HI9.out.trans (by rw [HS.out]))) rfl ⟨by rw [HL.out, HR.out, HC.out]; rfl, below_setRow I.out.hb (Nat.le_refl _) _⟩
      | some n =>
        rw [digV_some hr] at HD
        have hn := halfN_lt hr
        have HN : Hid (RPt l (t + 1) (ds.set k (x * 16 + n))) := Lib.hid (by
          have h := P.out
          have hb := HB.out
          rw [← HCC.out, hb] at hr
          cases b
          · exact .inl ⟨k, x * 16 + n, hk, true, by simp at hb ⊢; omega, h.even (by simpa using hr)⟩
          · obtain ⟨h1, h2⟩ := h.odd_ hk (by simpa using hr)
            by_cases h31 : k < 31
            · exact .inl ⟨k + 1, 0, by omega, false, by simp at hb ⊢; omega, h2 h31⟩
            · obtain rfl : k = 31 := by omega
              refine .inr ⟨by simp at hb ⊢; omega, ?_⟩
              rw [h1, List.take_of_length_le]
              obtain ⟨p, hp, he⟩ := h.set_ (y := x * 16 + n)
              rw [he, List.length_append, parseK_len hp]
              simp)
        clear hr
        go_wp2_with (first
          | (go_at_call 39; refine (HD.out _).mono ?_; rintro e _ ⟨rfl, rfl⟩)
          | fail)
        go_roundw
        case rel => exact ⟨t + 1, ds.set k (x * 16 + n), hlt, by go_num, HN.out, I.out.set_ k _ (x * 16 + n) (by omega) rfl⟩
        case measure => simp [intOf]; omega
    · have HV := Lib.hid I.out.hd
      have HR := Lib.hid (parsed_some hP)
      have HSZ := Lib.hid (show (ds.map fun x : Nat => Value.int .u8 (x : Int)).toArray.size = 32 by simp [parseK_len hP])
      clear hP
      go_wp2_with (first
        | (refine wpList_load_row rfl 29 (.tmp 4) rfl (w.heap.size + 1) rfl 29 (ds.map fun x : Nat => Value.int .u8 (x : Int)).toArray (0, 0) _ HV.out Try.underlying29 rfl (HI9.out.trans (by rw [HSZ.out])) ?_)
        | (refine wpList_store_row rfl 29 (.tmp 2) (.tmp 33) rfl w.heap.size (ds.map fun x : Nat => Value.int .u8 (x : Int)).toArray rfl rfl 29 _ I.out.h0 (HI9.out.trans (by rw [HSZ.out])) (by rw [HSZ.out]; rfl) (by simp [Value.oneCell']) ?_)
        | fail)
      have HW := Lib.hid (setRow_heap wr w.heap.size _ (ds.map fun x : Nat => Value.int .u8 (x : Int)).toArray _ _ I.out.h0)
      exact bodyPost_ret (results_row_tmp Try.results21 _ _ w.heap.size _ _ _ _ rfl HW.out Try.underlying29 rfl (HI9.out.trans (by rw [HSZ.out]))) rfl ⟨by rw [HL.out, HR.out]; rfl, below_setRow I.out.hb (Nat.le_refl _) _⟩
set_option maxRecDepth 100000 in
set_option maxHeartbeats 1000000 in
theorem rparse_short (s : ByteArray) (w : World) (hs : s.size ≠ 64) : Calls Try.prog 21 #[.string s] w fun e w' => e = .returned (.tuple #[.agg #[Value.int .u8 0, Value.int .u8 0, Value.int .u8 0, Value.int .u8 0, Value.int .u8 0, Value.int .u8 0, Value.int .u8 0, Value.int .u8 0, Value.int .u8 0, Value.int .u8 0, Value.int .u8 0, Value.int .u8 0, Value.int .u8 0, Value.int .u8 0, Value.int .u8 0, Value.int .u8 0, Value.int .u8 0, Value.int .u8 0, Value.int .u8 0, Value.int .u8 0, Value.int .u8 0, Value.int .u8 0, Value.int .u8 0, Value.int .u8 0, Value.int .u8 0, Value.int .u8 0, Value.int .u8 0, Value.int .u8 0, Value.int .u8 0, Value.int .u8 0, Value.int .u8 0, Value.int .u8 0], .int .i64 2]) ∧ Below w.heap.size w w' := by
  have HI9 := Lib.hid (show (Try.prog.info? 29).map (·.size) = some 32 by kernel_rfl)
  have d1 : ((s.size : Int) != 64) = true := by rw [bne_iff_ne]; omega
  have I0 := Lib.hid (PaI.start w)
  go_enter Try.func21, Try.ntmps21
  go_wp2_with (first
    | (refine wpList_load_row rfl 29 (.tmp 4) rfl (w.heap.size + 1) rfl 29 ((List.replicate 32 0).map fun x : Nat => Value.int .u8 (x : Int)).toArray (0, 0) _ I0.out.hd Try.underlying29 rfl HI9.out ?_)
    | (refine wpList_store_row rfl 29 (.tmp 2) (.tmp 10) rfl w.heap.size ((List.replicate 32 0).map fun x : Nat => Value.int .u8 (x : Int)).toArray rfl rfl 29 _ I0.out.h0 HI9.out rfl (by simp [Value.oneCell']) ?_)
    | fail)
  have HW := Lib.hid (setRow_heap _ w.heap.size _ ((List.replicate 32 0).map fun x : Nat => Value.int .u8 (x : Int)).toArray _ _ I0.out.h0)
  exact bodyPost_ret (results_row_tmp Try.results21 _ _ w.heap.size _ _ _ _ rfl HW.out Try.underlying29 rfl HI9.out) rfl ⟨rfl, below_setRow I0.out.hb (Nat.le_refl _) _⟩
end Go.Proofs.Ytlbiinkidecfbaa
