/-
  Paths: strings and lists of bytes; Name, digits.
-/
import Derived.Test.YtndekohimfjdeaaDoorPathN
import Derived.Test.YtndekohimfjdeaaDoorBase
import Derived.Test.YtndekohimfjdeaaDoorShelf
import Derived.Test.YtndekohimfjdeaaDoorChecked
import Derived.Lib.Hide
import Derived.Lib.LaidTab
import Derived.OpenShut
namespace Go.Proofs.YtndekohimfjdeaaDoor
open Go.RowKit
def st (l : Bl) : ByteArray := ⟨l.toArray⟩
theorem st_size (l : Bl) : (st l).size = l.length := by simp [st, ByteArray.size]
theorem st_data (l : Bl) : (st l).data.toList = l := rfl
theorem st_of (s : ByteArray) : s = st s.data.toList := by cases s; rfl
theorem st_inj {a b : Bl} (h : st a = st b) : a = b := congrArg (fun s : ByteArray => s.data.toList) h
theorem bsize (s : ByteArray) : s.size = s.data.toList.length := by cases s; simp [ByteArray.size]
theorem st_ext {x : ByteArray} {l : Bl} (h : x.data.toList = l) : x = st l := by rw [st_of x, h]
theorem st_app (a b : Bl) : st a ++ st b = st (a ++ b) := st_ext (by simp [st, ByteArray.data_append])
theorem st_take (a : Bl) (i : Nat) : (st a).extract 0 i = st (a.take i) := st_ext (Lib.extract_from_zero _ _)
theorem st_drop (a : Bl) (i : Nat) : (st a).extract i (st a).size = st (a.drop i) := st_ext (Lib.extract_to_end _ _)
theorem st_beq (a b : Bl) : ((st a).toList == (st b).toList) = decide (a = b) := by
  have e : ∀ x : ByteArray, x.toList = x.data.toList := fun x => ByteArray.toList_eq x
  rw [e, e, st_data, st_data]
  by_cases h : a = b
  · subst h; simp
  · rw [decide_eq_false h, beq_eq_false_iff_ne]; exact h
theorem nameC_iff {c : UInt8} : nameC c = true ↔ (97 ≤ c.toNat ∧ c.toNat ≤ 122) ∨ (48 ≤ c.toNat ∧ c.toNat ≤ 57) ∨ c.toNat = 45 ∨ c.toNat = 95 ∨ c.toNat = 46 := by
  unfold nameC
  simp only [Bool.or_eq_true, Bool.and_eq_true, decide_eq_true_eq]
  omega
def allN (s : ByteArray) (n : Nat) : Prop := ∀ k, k < n → ∀ h : k < s.size, nameC (s[k]'h) = true
theorem allN_succ {s : ByteArray} {n : Nat} (h : allN s n) (hn : n < s.size) (hc : nameC (s[n]'hn) = true) : allN s (n + 1) := fun k hk hks => by
  rcases Nat.lt_succ_iff_lt_or_eq.1 hk with hk | rfl
  · exact h k hk hks
  · exact hc
theorem at_data (s : ByteArray) {k : Nat} (h : k < s.size) : s.data.toList[k]? = some (s[k]'h) := Lib.data_getElem? s k h
theorem name_iff (s : ByteArray) : nameL s.data.toList = true ↔ 1 ≤ s.size ∧ s.size ≤ 24 ∧ (∀ h : 0 < s.size, (s[0]'h).toNat ≠ 46) ∧ allN s s.size := by
  unfold nameL
  simp only [Bool.and_eq_true, decide_eq_true_eq, Bool.not_eq_true', decide_eq_false_iff_not, List.all_eq_true, ← bsize]
  constructor
  · rintro ⟨⟨⟨h1, h2⟩, h3⟩, h4⟩
    refine ⟨h1, h2, fun h e => h3 ?_, fun k _ hk => h4 _ (List.mem_of_getElem? (at_data s hk))⟩
    rw [List.head?_eq_getElem?, at_data s h]
    congr 1
    exact UInt8.toNat_inj.1 e
  · rintro ⟨h1, h2, h3, h4⟩
    refine ⟨⟨⟨h1, h2⟩, fun e => ?_⟩, fun c hc => ?_⟩
    · rw [List.head?_eq_getElem?, at_data s (by omega)] at e
      have := Option.some.inj e
      exact h3 (by omega) (by rw [this]; rfl)
    · obtain ⟨k, hk⟩ := List.mem_iff_getElem?.1 hc
      have hl := (List.getElem?_eq_some_iff.1 hk).1
      rw [← bsize] at hl
      rw [at_data s hl] at hk
      exact Option.some.inj hk ▸ h4 k hl hl
theorem name_false {s : ByteArray} (h : ¬ (1 ≤ s.size ∧ s.size ≤ 24 ∧ (∀ h : 0 < s.size, (s[0]'h).toNat ≠ 46) ∧ allN s s.size)) : nameL s.data.toList = false := Bool.eq_false_iff.2 fun e => h ((name_iff s).1 e)
set_option maxRecDepth 100000 in
set_option maxHeartbeats 4000000 in
theorem name_v (s : ByteArray) (w : World) (hs : s.size ≤ 9223372036854775807) : Calls Tryd.prog 72 #[.string s] w fun e w' => e = .returned (.bool (nameL s.data.toList)) ∧ w = w' := by
  go_enter Tryd.func72, Tryd.ntmps72
  by_cases h1 : 1 ≤ s.size
  case neg =>
    have d1 : decide (s.size < 1) = true := decide_eq_true (by omega)
    have HD := Lib.hid (name_false (s := s) fun h => h1 h.1)
    go_wp2_with fail
    go_ret
    exact ⟨by rw [HD.out]; rfl, rfl⟩
  have d1 : decide (s.size < 1) = false := decide_eq_false (by omega)
  by_cases h2 : s.size ≤ 24
  case neg =>
    have d2 : decide (24 < s.size) = true := decide_eq_true (by omega)
    have HD := Lib.hid (name_false (s := s) fun h => h2 h.2.1)
    go_wp2_with fail
    go_ret
    exact ⟨by rw [HD.out]; rfl, rfl⟩
  have d2 : decide (24 < s.size) = false := decide_eq_false (by omega)
  have h0 : 0 < s.size := by omega
  by_cases h3 : (s[0]'h0).toNat = 46
  case pos =>
    have d3 : (((s[0]'h0).toNat : Int) == 46) = true := by rw [h3]; rfl
    have HD := Lib.hid (name_false (s := s) fun h => h.2.2.1 h0 h3)
    clear h3
    go_wp2_with fail
    go_ret
    exact ⟨by rw [HD.out]; rfl, rfl⟩
  have d3 : (((s[0]'h0).toNat : Int) == 46) = false := beq_eq_false_iff_ne.2 (by omega)
  have H3 := Lib.hid h3
  clear h3
  go_wp2_with fail
  go_loopw [3, 4, 20] (fun _ _ i wr => ∃ k : Nat, i = .int .i64 (k : Int) ∧ k ≤ s.size ∧ allN s k ∧ w = wr) (fun _ _ i _ => s.size - (intOf i).toNat)
  case atStart => exact ⟨0, rfl, Nat.zero_le _, fun k hk => by omega, rfl⟩
  case round =>
    obtain ⟨k, rfl, hk, hlow, rfl⟩ := hrel
    have HL := Lib.hid hlow
    clear hlow d1 d2 d3
    by_cases hlt : k < s.size
    case neg =>
      obtain rfl : k = s.size := by omega
      have HD := Lib.hid ((name_iff s).2 ⟨h1, h2, fun h => H3.out, HL.out⟩)
      go_wp2_with fail
      go_ret
      exact ⟨by rw [HD.out]; rfl, rfl⟩
    have k0 : (0 : Int) ≤ (k : Int) := by omega
    obtain ⟨x, hx⟩ : ∃ x, (s[k]'hlt).toNat = x := ⟨_, rfl⟩
    have HX := Lib.hid hx
    have hxv : (0 ≤ x ∧ x ≤ 44) ∨ (45 ≤ x ∧ x ≤ 45) ∨ (46 ≤ x ∧ x ≤ 46) ∨ (47 ≤ x ∧ x ≤ 47) ∨ (48 ≤ x ∧ x ≤ 57) ∨ (58 ≤ x ∧ x ≤ 94) ∨ (95 ≤ x ∧ x ≤ 95) ∨ (96 ≤ x ∧ x ≤ 96) ∨ (97 ≤ x ∧ x ≤ 122) ∨ (123 ≤ x ∧ x ≤ 255) := by
      have := (s[k]'hlt).toNat_lt; omega
    clear hx
    rcases hxv with hxv | hxv | hxv | hxv | hxv | hxv | hxv | hxv | hxv | hxv
    · obtain ⟨g1, g2⟩ := hxv
      have d0 : decide (97 ≤ x) = false := decide_eq_false (by omega)
      have d1 : decide (x ≤ 122) = true := decide_eq_true (by omega)
      have d2 : decide (48 ≤ x) = false := decide_eq_false (by omega)
      have d3 : decide (x ≤ 57) = true := decide_eq_true (by omega)
      have e0 : ((((s[k]'hlt).toNat : Nat) : Int) == 45) = false := by rw [HX.out]; exact beq_eq_false_iff_ne.2 (by omega)
      have f0 : ((((s[k]'hlt).toNat : Nat) : Int) == 95) = false := by rw [HX.out]; exact beq_eq_false_iff_ne.2 (by omega)
      have g0 : ((((s[k]'hlt).toNat : Nat) : Int) == 46) = false := by rw [HX.out]; exact beq_eq_false_iff_ne.2 (by omega)
      clear d0
      have d0 : decide ((97 : Int) ≤ (((s[k]'hlt).toNat : Nat) : Int)) = false := by rw [HX.out]; exact decide_eq_false (by omega)
      clear d1
      have d1 : decide ((((s[k]'hlt).toNat : Nat) : Int) ≤ 122) = true := by rw [HX.out]; exact decide_eq_true (by omega)
      clear d2
      have d2 : decide ((48 : Int) ≤ (((s[k]'hlt).toNat : Nat) : Int)) = false := by rw [HX.out]; exact decide_eq_false (by omega)
      clear d3
      have d3 : decide ((((s[k]'hlt).toNat : Nat) : Int) ≤ 57) = true := by rw [HX.out]; exact decide_eq_true (by omega)
      have HD := Lib.hid (name_false (s := s) fun h => by have := nameC_iff.1 (h.2.2.2 k hlt hlt); rw [HX.out] at this; omega)
      clear g1 g2
      go_wp2_with fail
      go_ret
      exact ⟨by rw [HD.out]; rfl, rfl⟩
    · obtain ⟨g1, g2⟩ := hxv
      have d0 : decide (97 ≤ x) = false := decide_eq_false (by omega)
      have d1 : decide (x ≤ 122) = true := decide_eq_true (by omega)
      have d2 : decide (48 ≤ x) = false := decide_eq_false (by omega)
      have d3 : decide (x ≤ 57) = true := decide_eq_true (by omega)
      have e0 : ((((s[k]'hlt).toNat : Nat) : Int) == 45) = true := by rw [HX.out]; exact beq_iff_eq.2 (by omega)
      have f0 : ((((s[k]'hlt).toNat : Nat) : Int) == 95) = false := by rw [HX.out]; exact beq_eq_false_iff_ne.2 (by omega)
      have g0 : ((((s[k]'hlt).toNat : Nat) : Int) == 46) = false := by rw [HX.out]; exact beq_eq_false_iff_ne.2 (by omega)
      clear d0
      have d0 : decide ((97 : Int) ≤ (((s[k]'hlt).toNat : Nat) : Int)) = false := by rw [HX.out]; exact decide_eq_false (by omega)
      clear d1
      have d1 : decide ((((s[k]'hlt).toNat : Nat) : Int) ≤ 122) = true := by rw [HX.out]; exact decide_eq_true (by omega)
      clear d2
      have d2 : decide ((48 : Int) ≤ (((s[k]'hlt).toNat : Nat) : Int)) = false := by rw [HX.out]; exact decide_eq_false (by omega)
      clear d3
      have d3 : decide ((((s[k]'hlt).toNat : Nat) : Int) ≤ 57) = true := by rw [HX.out]; exact decide_eq_true (by omega)
      have HN := Lib.hid (allN_succ HL.out hlt (nameC_iff.2 (by rw [HX.out]; omega)))
      clear g1 g2
      go_wp2_with fail
      go_roundw
      case rel => exact ⟨k + 1, by go_num, hlt, HN.out, by trivial⟩
      case measure => simp [intOf]; omega
    · obtain ⟨g1, g2⟩ := hxv
      have d0 : decide (97 ≤ x) = false := decide_eq_false (by omega)
      have d1 : decide (x ≤ 122) = true := decide_eq_true (by omega)
      have d2 : decide (48 ≤ x) = false := decide_eq_false (by omega)
      have d3 : decide (x ≤ 57) = true := decide_eq_true (by omega)
      have e0 : ((((s[k]'hlt).toNat : Nat) : Int) == 45) = false := by rw [HX.out]; exact beq_eq_false_iff_ne.2 (by omega)
      have f0 : ((((s[k]'hlt).toNat : Nat) : Int) == 95) = false := by rw [HX.out]; exact beq_eq_false_iff_ne.2 (by omega)
      have g0 : ((((s[k]'hlt).toNat : Nat) : Int) == 46) = true := by rw [HX.out]; exact beq_iff_eq.2 (by omega)
      clear d0
      have d0 : decide ((97 : Int) ≤ (((s[k]'hlt).toNat : Nat) : Int)) = false := by rw [HX.out]; exact decide_eq_false (by omega)
      clear d1
      have d1 : decide ((((s[k]'hlt).toNat : Nat) : Int) ≤ 122) = true := by rw [HX.out]; exact decide_eq_true (by omega)
      clear d2
      have d2 : decide ((48 : Int) ≤ (((s[k]'hlt).toNat : Nat) : Int)) = false := by rw [HX.out]; exact decide_eq_false (by omega)
      clear d3
      have d3 : decide ((((s[k]'hlt).toNat : Nat) : Int) ≤ 57) = true := by rw [HX.out]; exact decide_eq_true (by omega)
      have HN := Lib.hid (allN_succ HL.out hlt (nameC_iff.2 (by rw [HX.out]; omega)))
      clear g1 g2
      go_wp2_with fail
      go_roundw
      case rel => exact ⟨k + 1, by go_num, hlt, HN.out, by trivial⟩
      case measure => simp [intOf]; omega
    · obtain ⟨g1, g2⟩ := hxv
      have d0 : decide (97 ≤ x) = false := decide_eq_false (by omega)
      have d1 : decide (x ≤ 122) = true := decide_eq_true (by omega)
      have d2 : decide (48 ≤ x) = false := decide_eq_false (by omega)
      have d3 : decide (x ≤ 57) = true := decide_eq_true (by omega)
      have e0 : ((((s[k]'hlt).toNat : Nat) : Int) == 45) = false := by rw [HX.out]; exact beq_eq_false_iff_ne.2 (by omega)
      have f0 : ((((s[k]'hlt).toNat : Nat) : Int) == 95) = false := by rw [HX.out]; exact beq_eq_false_iff_ne.2 (by omega)
      have g0 : ((((s[k]'hlt).toNat : Nat) : Int) == 46) = false := by rw [HX.out]; exact beq_eq_false_iff_ne.2 (by omega)
      clear d0
      have d0 : decide ((97 : Int) ≤ (((s[k]'hlt).toNat : Nat) : Int)) = false := by rw [HX.out]; exact decide_eq_false (by omega)
      clear d1
      have d1 : decide ((((s[k]'hlt).toNat : Nat) : Int) ≤ 122) = true := by rw [HX.out]; exact decide_eq_true (by omega)
      clear d2
      have d2 : decide ((48 : Int) ≤ (((s[k]'hlt).toNat : Nat) : Int)) = false := by rw [HX.out]; exact decide_eq_false (by omega)
      clear d3
      have d3 : decide ((((s[k]'hlt).toNat : Nat) : Int) ≤ 57) = true := by rw [HX.out]; exact decide_eq_true (by omega)
      have HD := Lib.hid (name_false (s := s) fun h => by have := nameC_iff.1 (h.2.2.2 k hlt hlt); rw [HX.out] at this; omega)
      clear g1 g2
      go_wp2_with fail
      go_ret
      exact ⟨by rw [HD.out]; rfl, rfl⟩
    · obtain ⟨g1, g2⟩ := hxv
      have d0 : decide (97 ≤ x) = false := decide_eq_false (by omega)
      have d1 : decide (x ≤ 122) = true := decide_eq_true (by omega)
      have d2 : decide (48 ≤ x) = true := decide_eq_true (by omega)
      have d3 : decide (x ≤ 57) = true := decide_eq_true (by omega)
      have e0 : ((((s[k]'hlt).toNat : Nat) : Int) == 45) = false := by rw [HX.out]; exact beq_eq_false_iff_ne.2 (by omega)
      have f0 : ((((s[k]'hlt).toNat : Nat) : Int) == 95) = false := by rw [HX.out]; exact beq_eq_false_iff_ne.2 (by omega)
      have g0 : ((((s[k]'hlt).toNat : Nat) : Int) == 46) = false := by rw [HX.out]; exact beq_eq_false_iff_ne.2 (by omega)
      clear d0
      have d0 : decide ((97 : Int) ≤ (((s[k]'hlt).toNat : Nat) : Int)) = false := by rw [HX.out]; exact decide_eq_false (by omega)
      clear d1
      have d1 : decide ((((s[k]'hlt).toNat : Nat) : Int) ≤ 122) = true := by rw [HX.out]; exact decide_eq_true (by omega)
      clear d2
      have d2 : decide ((48 : Int) ≤ (((s[k]'hlt).toNat : Nat) : Int)) = true := by rw [HX.out]; exact decide_eq_true (by omega)
      clear d3
      have d3 : decide ((((s[k]'hlt).toNat : Nat) : Int) ≤ 57) = true := by rw [HX.out]; exact decide_eq_true (by omega)
      have HN := Lib.hid (allN_succ HL.out hlt (nameC_iff.2 (by rw [HX.out]; omega)))
      clear g1 g2
      go_wp2_with fail
      go_roundw
      case rel => exact ⟨k + 1, by go_num, hlt, HN.out, by trivial⟩
      case measure => simp [intOf]; omega
    · obtain ⟨g1, g2⟩ := hxv
      have d0 : decide (97 ≤ x) = false := decide_eq_false (by omega)
      have d1 : decide (x ≤ 122) = true := decide_eq_true (by omega)
      have d2 : decide (48 ≤ x) = true := decide_eq_true (by omega)
      have d3 : decide (x ≤ 57) = false := decide_eq_false (by omega)
      have e0 : ((((s[k]'hlt).toNat : Nat) : Int) == 45) = false := by rw [HX.out]; exact beq_eq_false_iff_ne.2 (by omega)
      have f0 : ((((s[k]'hlt).toNat : Nat) : Int) == 95) = false := by rw [HX.out]; exact beq_eq_false_iff_ne.2 (by omega)
      have g0 : ((((s[k]'hlt).toNat : Nat) : Int) == 46) = false := by rw [HX.out]; exact beq_eq_false_iff_ne.2 (by omega)
      clear d0
      have d0 : decide ((97 : Int) ≤ (((s[k]'hlt).toNat : Nat) : Int)) = false := by rw [HX.out]; exact decide_eq_false (by omega)
      clear d1
      have d1 : decide ((((s[k]'hlt).toNat : Nat) : Int) ≤ 122) = true := by rw [HX.out]; exact decide_eq_true (by omega)
      clear d2
      have d2 : decide ((48 : Int) ≤ (((s[k]'hlt).toNat : Nat) : Int)) = true := by rw [HX.out]; exact decide_eq_true (by omega)
      clear d3
      have d3 : decide ((((s[k]'hlt).toNat : Nat) : Int) ≤ 57) = false := by rw [HX.out]; exact decide_eq_false (by omega)
      have HD := Lib.hid (name_false (s := s) fun h => by have := nameC_iff.1 (h.2.2.2 k hlt hlt); rw [HX.out] at this; omega)
      clear g1 g2
      go_wp2_with fail
      go_ret
      exact ⟨by rw [HD.out]; rfl, rfl⟩
    · obtain ⟨g1, g2⟩ := hxv
      have d0 : decide (97 ≤ x) = false := decide_eq_false (by omega)
      have d1 : decide (x ≤ 122) = true := decide_eq_true (by omega)
      have d2 : decide (48 ≤ x) = true := decide_eq_true (by omega)
      have d3 : decide (x ≤ 57) = false := decide_eq_false (by omega)
      have e0 : ((((s[k]'hlt).toNat : Nat) : Int) == 45) = false := by rw [HX.out]; exact beq_eq_false_iff_ne.2 (by omega)
      have f0 : ((((s[k]'hlt).toNat : Nat) : Int) == 95) = true := by rw [HX.out]; exact beq_iff_eq.2 (by omega)
      have g0 : ((((s[k]'hlt).toNat : Nat) : Int) == 46) = false := by rw [HX.out]; exact beq_eq_false_iff_ne.2 (by omega)
      clear d0
      have d0 : decide ((97 : Int) ≤ (((s[k]'hlt).toNat : Nat) : Int)) = false := by rw [HX.out]; exact decide_eq_false (by omega)
      clear d1
      have d1 : decide ((((s[k]'hlt).toNat : Nat) : Int) ≤ 122) = true := by rw [HX.out]; exact decide_eq_true (by omega)
      clear d2
      have d2 : decide ((48 : Int) ≤ (((s[k]'hlt).toNat : Nat) : Int)) = true := by rw [HX.out]; exact decide_eq_true (by omega)
      clear d3
      have d3 : decide ((((s[k]'hlt).toNat : Nat) : Int) ≤ 57) = false := by rw [HX.out]; exact decide_eq_false (by omega)
      have HN := Lib.hid (allN_succ HL.out hlt (nameC_iff.2 (by rw [HX.out]; omega)))
      clear g1 g2
      go_wp2_with fail
      go_roundw
      case rel => exact ⟨k + 1, by go_num, hlt, HN.out, by trivial⟩
      case measure => simp [intOf]; omega
    · obtain ⟨g1, g2⟩ := hxv
      have d0 : decide (97 ≤ x) = false := decide_eq_false (by omega)
      have d1 : decide (x ≤ 122) = true := decide_eq_true (by omega)
      have d2 : decide (48 ≤ x) = true := decide_eq_true (by omega)
      have d3 : decide (x ≤ 57) = false := decide_eq_false (by omega)
      have e0 : ((((s[k]'hlt).toNat : Nat) : Int) == 45) = false := by rw [HX.out]; exact beq_eq_false_iff_ne.2 (by omega)
      have f0 : ((((s[k]'hlt).toNat : Nat) : Int) == 95) = false := by rw [HX.out]; exact beq_eq_false_iff_ne.2 (by omega)
      have g0 : ((((s[k]'hlt).toNat : Nat) : Int) == 46) = false := by rw [HX.out]; exact beq_eq_false_iff_ne.2 (by omega)
      clear d0
      have d0 : decide ((97 : Int) ≤ (((s[k]'hlt).toNat : Nat) : Int)) = false := by rw [HX.out]; exact decide_eq_false (by omega)
      clear d1
      have d1 : decide ((((s[k]'hlt).toNat : Nat) : Int) ≤ 122) = true := by rw [HX.out]; exact decide_eq_true (by omega)
      clear d2
      have d2 : decide ((48 : Int) ≤ (((s[k]'hlt).toNat : Nat) : Int)) = true := by rw [HX.out]; exact decide_eq_true (by omega)
      clear d3
      have d3 : decide ((((s[k]'hlt).toNat : Nat) : Int) ≤ 57) = false := by rw [HX.out]; exact decide_eq_false (by omega)
      have HD := Lib.hid (name_false (s := s) fun h => by have := nameC_iff.1 (h.2.2.2 k hlt hlt); rw [HX.out] at this; omega)
      clear g1 g2
      go_wp2_with fail
      go_ret
      exact ⟨by rw [HD.out]; rfl, rfl⟩
    · obtain ⟨g1, g2⟩ := hxv
      have d0 : decide (97 ≤ x) = true := decide_eq_true (by omega)
      have d1 : decide (x ≤ 122) = true := decide_eq_true (by omega)
      have d2 : decide (48 ≤ x) = true := decide_eq_true (by omega)
      have d3 : decide (x ≤ 57) = false := decide_eq_false (by omega)
      have e0 : ((((s[k]'hlt).toNat : Nat) : Int) == 45) = false := by rw [HX.out]; exact beq_eq_false_iff_ne.2 (by omega)
      have f0 : ((((s[k]'hlt).toNat : Nat) : Int) == 95) = false := by rw [HX.out]; exact beq_eq_false_iff_ne.2 (by omega)
      have g0 : ((((s[k]'hlt).toNat : Nat) : Int) == 46) = false := by rw [HX.out]; exact beq_eq_false_iff_ne.2 (by omega)
      clear d0
      have d0 : decide ((97 : Int) ≤ (((s[k]'hlt).toNat : Nat) : Int)) = true := by rw [HX.out]; exact decide_eq_true (by omega)
      clear d1
      have d1 : decide ((((s[k]'hlt).toNat : Nat) : Int) ≤ 122) = true := by rw [HX.out]; exact decide_eq_true (by omega)
      clear d2
      have d2 : decide ((48 : Int) ≤ (((s[k]'hlt).toNat : Nat) : Int)) = true := by rw [HX.out]; exact decide_eq_true (by omega)
      clear d3
      have d3 : decide ((((s[k]'hlt).toNat : Nat) : Int) ≤ 57) = false := by rw [HX.out]; exact decide_eq_false (by omega)
      have HN := Lib.hid (allN_succ HL.out hlt (nameC_iff.2 (by rw [HX.out]; omega)))
      clear g1 g2
      go_wp2_with fail
      go_roundw
      case rel => exact ⟨k + 1, by go_num, hlt, HN.out, by trivial⟩
      case measure => simp [intOf]; omega
    · obtain ⟨g1, g2⟩ := hxv
      have d0 : decide (97 ≤ x) = true := decide_eq_true (by omega)
      have d1 : decide (x ≤ 122) = false := decide_eq_false (by omega)
      have d2 : decide (48 ≤ x) = true := decide_eq_true (by omega)
      have d3 : decide (x ≤ 57) = false := decide_eq_false (by omega)
      have e0 : ((((s[k]'hlt).toNat : Nat) : Int) == 45) = false := by rw [HX.out]; exact beq_eq_false_iff_ne.2 (by omega)
      have f0 : ((((s[k]'hlt).toNat : Nat) : Int) == 95) = false := by rw [HX.out]; exact beq_eq_false_iff_ne.2 (by omega)
      have g0 : ((((s[k]'hlt).toNat : Nat) : Int) == 46) = false := by rw [HX.out]; exact beq_eq_false_iff_ne.2 (by omega)
      clear d0
      have d0 : decide ((97 : Int) ≤ (((s[k]'hlt).toNat : Nat) : Int)) = true := by rw [HX.out]; exact decide_eq_true (by omega)
      clear d1
      have d1 : decide ((((s[k]'hlt).toNat : Nat) : Int) ≤ 122) = false := by rw [HX.out]; exact decide_eq_false (by omega)
      clear d2
      have d2 : decide ((48 : Int) ≤ (((s[k]'hlt).toNat : Nat) : Int)) = true := by rw [HX.out]; exact decide_eq_true (by omega)
      clear d3
      have d3 : decide ((((s[k]'hlt).toNat : Nat) : Int) ≤ 57) = false := by rw [HX.out]; exact decide_eq_false (by omega)
      have HD := Lib.hid (name_false (s := s) fun h => by have := nameC_iff.1 (h.2.2.2 k hlt hlt); rw [HX.out] at this; omega)
      clear g1 g2
      go_wp2_with fail
      go_ret
      exact ⟨by rw [HD.out]; rfl, rfl⟩
end Go.Proofs.YtndekohimfjdeaaDoor
