/-
  Matrices: texts compared; a row found.
-/
import Derived.Test.YtikegnnlmfidfaaMatC
import Derived.Lib.Bytealg
namespace Go.Proofs.Ytikegnnlmfidfaa
open Go.RowKit
def cmpP (a b : ByteArray) : Int := Lib.compareBytes a.data.toList b.data.toList
theorem cmp_cases : ∀ x y : List UInt8, (Lib.compareBytes x y < 0 ↔ bl x y = true) ∧ (Lib.compareBytes x y = 0 ↔ x = y)
  | [], [] => by simp [Lib.compareBytes, bl_nil]
  | [], b :: y => by simp [Lib.compareBytes, bl_nil_cons]
  | a :: x, [] => by simp [Lib.compareBytes, bl_nil]
  | a :: x, b :: y => by
    have ih := cmp_cases x y
    rw [bl_cons_iff]
    unfold Lib.compareBytes
    by_cases h1 : a < b
    · have := (u8_lt a b).1 h1
      rw [if_pos h1]
      exact ⟨⟨fun _ => .inl this, fun _ => by decide⟩, ⟨fun h => absurd h (by decide), fun h => by injection h with h; subst h; omega⟩⟩
    · have h1' : ¬ a.toNat < b.toNat := fun h => h1 ((u8_lt a b).2 h)
      rw [if_neg h1]
      by_cases h2 : b < a
      · have := (u8_lt b a).1 h2
        rw [if_pos h2]
        exact ⟨⟨fun h => absurd h (by decide), fun h => by omega⟩, ⟨fun h => absurd h (by decide), fun h => by injection h with h; subst h; omega⟩⟩
      · have h2' : ¬ b.toNat < a.toNat := fun h => h2 ((u8_lt b a).2 h)
        rw [if_neg h2]
        have he : a.toNat = b.toNat := by omega
        have hab : a = b := (u8_eq a b).2 he
        refine ⟨⟨fun h => .inr ⟨he, ih.1.1 h⟩, fun h => ?_⟩, ⟨fun h => by rw [hab, ih.2.1 h], fun h => ?_⟩⟩
        · rcases h with h | h
          · omega
          · exact ih.1.2 h.2
        · injection h with _ h
          exact ih.2.2 h
theorem cmp_lt {a b : ByteArray} : cmpP a b < 0 ↔ klt a b = true := by
  unfold klt cmpP
  rw [ByteArray.toList_eq, ByteArray.toList_eq]
  exact (cmp_cases _ _).1
theorem cmp_eq {a b : ByteArray} : cmpP a b = 0 ↔ a = b := by
  unfold cmpP
  rw [(cmp_cases _ _).2]
  exact ⟨fun h => by cases a; cases b; exact congrArg ByteArray.mk (Array.ext' h), fun h => by rw [h]⟩
set_option maxRecDepth 100000 in
theorem cmpString_v (a b : ByteArray) (w : World) : Calls Try.prog 75 #[.string a, .string b] w fun e w' => e = .returned (.int .i64 (cmpP a b)) ∧ w = w' := by
  go_enter Try.func75, Try.ntmps75
  go_wp2
  rw [run_callFunc_extern Try.func78 (by kernel_rfl) (by kernel_rfl) (by kernel_rfl) (e := Extern.BytealgCompare.compare) (by kernel_rfl), Lib.run_compareString]
  simp only [Result.andThen]
  rw [Oper.upon_value]
  go_wp2
  go_ret
  exact ⟨rfl, rfl⟩
set_option maxRecDepth 100000 in
theorem compare_v (a b : ByteArray) (w : World) : Calls Try.prog 70 #[.string a, .string b] w fun e w' => e = .returned (.int .i64 (cmpP a b)) ∧ w = w' := by
  go_enter Try.func70, Try.ntmps70
  go_wp2_with fail
  refine (cmpString_v a b w).mono ?_
  rintro e _ ⟨rfl, rfl⟩
  go_wp2
  go_ret
  exact ⟨rfl, rfl⟩
set_option maxRecDepth 100000 in
theorem cmpRow_v (rf : ByteArray) (ra : Option Addr) (rn rc : Nat) (b : ByteArray) (w : World) : Calls Try.prog 62 #[.agg #[], .agg #[.string rf, .slice ra rn rc], .string b] w fun e w' => e = .returned (.int .i64 (cmpP rf b)) ∧ Below w.heap.size w w' := by
  go_enter Try.func62, Try.ntmps62
  go_wp2_with fail
  refine (compare_v rf b _).mono ?_
  rintro e _ ⟨rfl, rfl⟩
  go_wp2
  go_ret
  exact ⟨rfl, ((Below.refl _ _).alloc (Nat.le_refl _) _).alloc (by simp) _⟩
def Asc (rs : List Rw) : Prop := ∀ (i j : Nat) (x y : Rw), i < j → rs[i]? = some x → rs[j]? = some y → klt x.f y.f = true
set_option maxRecDepth 100000 in
set_option maxHeartbeats 8000000 in
theorem bsearch_v (A : Option Addr) (n c B : Nat) (rs : List Rw) (f : ByteArray) (w : World) (hr : RowsR w B A n rs) (hB : B ≤ w.heap.size) (hn : n ≤ 1000000) (hs : Asc rs) :
    Calls Try.prog 61 #[.slice A n c, .string f, .func (.func 62) #[.agg #[]] #[]] w fun e w' =>
      ∃ (i : Nat) (b : Bool), e = .returned (.tuple #[.int .i64 (i : Int), .bool b]) ∧ i ≤ n ∧ (∀ j r, rs[j]? = some r → (j < i ↔ klt r.f f = true)) ∧ (b = true ↔ ∃ r, rs[i]? = some r ∧ r.f = f) ∧ Below w.heap.size w w' := by
  have HI := Lib.hid (show (Try.prog.info? 56).map (·.size) = some 2 by kernel_rfl)
  have HR := Lib.hid hr
  have HLN := Lib.hid hr.len
  have HS := Lib.hid hs
  clear hr hs
  go_enter Try.func61, Try.ntmps61
  go_wp2_with fail
  go_loopw [9, 10] (fun iv jv wr => ∃ (i j : Nat), i ≤ j ∧ j ≤ n ∧ iv = .int .i64 (i : Int) ∧ jv = .int .i64 (j : Int) ∧ (∀ k r, rs[k]? = some r → k < i → klt r.f f = true) ∧ (∀ k r, rs[k]? = some r → j ≤ k → klt r.f f = false) ∧ Below w.heap.size w wr) (fun iv jv _ => (intOf jv).toNat - (intOf iv).toNat)
  case atStart =>
    have q1 : ∀ (k : Nat) (r : Rw), rs[k]? = some r → k < 0 → klt r.f f = true := fun k r _ h => absurd h (Nat.not_lt_zero _)
    have q2 : ∀ (k : Nat) (r : Rw), rs[k]? = some r → n ≤ k → klt r.f f = false := fun k r h1 h2 => by
      rw [List.getElem?_eq_none (by rw [HLN.out]; exact h2)] at h1
      cases h1
    exact ⟨0, n, Nat.zero_le _, Nat.le_refl _, rfl, rfl, q1, q2, Below.refl _ _⟩
  case round =>
    obtain ⟨i, j, hij, hjn, rfl, rfl, hlo, hhi, hb⟩ := hrel
    have HLO := Lib.hid hlo
    have HHI := Lib.hid hhi
    have HB := Lib.hid hb
    clear hlo hhi hb
    by_cases hlt : i < j
    · obtain ⟨h, hh⟩ : ∃ h, (i + j) / 2 = h := ⟨_, rfl⟩
      have h1 : i ≤ h := by omega
      have h2 : h < j := by omega
      have h3 : h < n := by omega
      have hh2 : ((i : Int) + (j : Int)) / 2 = (h : Int) := by omega
      go_upto_region 5 with fail
      clear hh hh2
      obtain ⟨ad, rf, ra, rn, rc, ds, rfl, hx, _, hcs, _⟩ := HR.out.at_ h3
      have HX := Lib.hid hx
      have HCS := Lib.hid (hcs wr (HB.out.mono hB))
      have h0 : (0 : Int) ≤ (h : Int) := by omega
      clear hx hcs
      go_wp2_with (first
        | (refine wpList_load_slot rfl 56 (.tmp 27) rfl (ad.add (h * 2)) rfl [.string rf, .slice ra rn rc] _ HCS.out Try.underlying56 rfl HI.out ?_)
        | fail)
      refine (cmpRow_v rf ra rn rc f wr).mono ?_
      rintro e w1 ⟨rfl, b1⟩
      have HB1 := Lib.hid (HB.out.trans (b1.mono HB.out.size))
      clear b1
      cases hl : klt rf f with
      | true =>
        have d1 : decide (cmpP rf f < 0) = true := decide_eq_true (cmp_lt.2 hl)
        have HL := Lib.hid (show ∀ (k : Nat) (r : Rw), rs[k]? = some r → k < h + 1 → klt r.f f = true from fun k r y1 y2 => by
          rcases Nat.lt_or_ge k h with h4 | h4
          · exact klt_trans (HS.out k h r _ h4 y1 HX.out) hl
          · obtain rfl : k = h := by omega
            rw [HX.out] at y1
            obtain rfl := Option.some.inj y1
            exact hl)
        clear hl
        go_wp2_with fail
        go_roundw
        case rel => exact ⟨h + 1, j, h2, hjn, by go_num, rfl, HL.out, HHI.out, HB1.out⟩
        case measure => simp [intOf]; omega
      | false =>
        have d1 : decide (cmpP rf f < 0) = false := decide_eq_false (fun h => by have := cmp_lt.1 h; rw [hl] at this; cases this)
        have HL := Lib.hid (show ∀ (k : Nat) (r : Rw), rs[k]? = some r → h ≤ k → klt r.f f = false from fun k r y1 y2 => by
          rcases Nat.lt_or_ge h k with h4 | h4
          · exact kge_trans hl (klt_asymm (HS.out h k _ r h4 HX.out y1))
          · obtain rfl : k = h := by omega
            rw [HX.out] at y1
            obtain rfl := Option.some.inj y1
            exact hl)
        clear hl
        go_wp2_with fail
        go_roundw
        case rel => exact ⟨i, h, h1, by omega, rfl, rfl, HLO.out, HL.out, HB1.out⟩
        case measure => simp [intOf]; omega
    · obtain rfl : i = j := by omega
      have HIF := Lib.hid (show ∀ (k : Nat) (r : Rw), rs[k]? = some r → (k < i ↔ klt r.f f = true) from fun k r h1 => ⟨HLO.out k r h1, fun h2 => by
        rcases Nat.lt_or_ge k i with h3 | h3
        · exact h3
        · rw [HHI.out k r h1 h3] at h2; cases h2⟩)
      by_cases hin : i < n
      · obtain ⟨ad, rf, ra, rn, rc, ds, rfl, hx, _, hcs, _⟩ := HR.out.at_ hin
        have HX := Lib.hid hx
        have HCS := Lib.hid (hcs wr (HB.out.mono hB))
        have h0 : (0 : Int) ≤ (i : Int) := by omega
        clear hx hcs
        go_wp2_with (first
          | (refine wpList_load_slot rfl 56 (.tmp 43) rfl (ad.add (i * 2)) rfl [.string rf, .slice ra rn rc] _ HCS.out Try.underlying56 rfl HI.out ?_)
          | fail)
        refine (cmpRow_v rf ra rn rc f wr).mono ?_
        rintro e w1 ⟨rfl, b1⟩
        have HB1 := Lib.hid (HB.out.trans (b1.mono HB.out.size))
        clear b1
        by_cases he : rf = f
        · have d1 : (cmpP rf f == 0) = true := beq_iff_eq.2 (cmp_eq.2 he)
          have HE := Lib.hid he
          clear he
          go_wp2_with fail
          go_ret2
          exact ⟨i, true, rfl, hjn, HIF.out, ⟨fun _ => ⟨_, HX.out, HE.out⟩, fun _ => rfl⟩, HB1.out⟩
        · have d1 : (cmpP rf f == 0) = false := beq_eq_false_iff_ne.2 (fun h => he (cmp_eq.1 h))
          have HE := Lib.hid he
          clear he
          go_wp2_with fail
          go_ret2
          have hno : ¬ ∃ r, rs[i]? = some r ∧ r.f = f := fun ⟨r, h1, h2⟩ => by
            rw [HX.out] at h1
            obtain rfl := Option.some.inj h1
            exact absurd h2 HE.out
          exact ⟨i, false, rfl, hjn, HIF.out, ⟨fun h => (by cases h), fun h => absurd h hno⟩, HB1.out⟩
      · have d1 : decide (i < n) = false := decide_eq_false hin
        go_wp2_with fail
        go_ret2
        have hno : ¬ ∃ r, rs[i]? = some r ∧ r.f = f := fun ⟨r, h1, h2⟩ => by
          rw [List.getElem?_eq_none (by rw [HLN.out]; omega)] at h1
          cases h1
        exact ⟨i, false, rfl, hjn, HIF.out, ⟨fun h => (by cases h), fun h => absurd h hno⟩, HB.out⟩
end Go.Proofs.Ytikegnnlmfidfaa
