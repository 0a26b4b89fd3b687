/-
  Paths, the reference: Name.
-/
import Derived.Test.YtndekohimfjdeaaDoorPathK
namespace Go.Proofs.YtndekohimfjdeaaDoor
open Go.RowKit
def noDot (s : ByteArray) (n : Nat) : Prop := 0 < n → ∀ h : 0 < s.size, (s[0]'h).toNat ≠ 46
theorem noDot_succ {s : ByteArray} {n : Nat} (h : noDot s n) (hn : n < s.size) (hc : n = 0 → (s[n]'hn).toNat ≠ 46) : noDot s (n + 1) := fun _ hk => by
  rcases Nat.eq_zero_or_pos n with rfl | h0
  · exact hc rfl
  · exact h h0 hk
set_option maxRecDepth 100000 in
set_option maxHeartbeats 4000000 in
theorem rname_v (s : ByteArray) (w : World) (hs : s.size ≤ 1000000) : Calls Tryd.prog 46 #[.string s] w fun e w' => e = .returned (.bool (nameL s.data.toList)) ∧ w = w' := by
  go_enter Tryd.func46, Tryd.ntmps46
  go_wp2_with fail
  go_loopw [3, 4] (fun i _ wr => ∃ k : Nat, i = .int .i64 (k : Int) ∧ k ≤ s.size ∧ allN s k ∧ noDot s k ∧ w = wr) (fun i _ _ => s.size - (intOf i).toNat)
  case atStart => exact ⟨0, rfl, Nat.zero_le _, fun k hk => by omega, fun h => by omega, rfl⟩
  case round =>
    obtain ⟨k, rfl, hk, hlow, hdot, rfl⟩ := hrel
    have HL := Lib.hid hlow
    have HT := Lib.hid hdot
    clear hlow hdot
    by_cases hlt : k < s.size
    case neg =>
      obtain rfl : k = s.size := by omega
      by_cases h1 : 1 ≤ s.size
      · have d1 : decide (1 ≤ s.size) = true := decide_eq_true h1
        have d1b : decide ((1 : Int) ≤ (s.size : Int)) = true := decide_eq_true (by omega)
        by_cases h2 : s.size ≤ 24
        · have d2 : decide (s.size ≤ 24) = true := decide_eq_true h2
          have d2b : decide ((s.size : Int) ≤ 24) = true := decide_eq_true (by omega)
          have HD := Lib.hid ((name_iff s).2 ⟨h1, h2, fun h => HT.out h1 h, HL.out⟩)
          clear h1 h2 hk hlt
          go_wp2_with fail
          go_ret
          exact ⟨by rw [HD.out]; rfl, rfl⟩
        · have d2 : decide (s.size ≤ 24) = false := decide_eq_false h2
          have d2b : decide ((s.size : Int) ≤ 24) = false := decide_eq_false (by omega)
          have HD := Lib.hid (name_false (s := s) fun h => h2 h.2.1)
          clear h1 h2 hk hlt
          go_wp2_with fail
          go_ret
          exact ⟨by rw [HD.out]; rfl, rfl⟩
      · have d1 : decide (1 ≤ s.size) = false := decide_eq_false h1
        have d1b : decide ((1 : Int) ≤ (s.size : Int)) = false := decide_eq_false (by omega)
        have HD := Lib.hid (name_false (s := s) fun h => h1 h.1)
        clear h1 hk hlt
        go_wp2_with fail
        go_ret
        exact ⟨by rw [HD.out]; rfl, rfl⟩
    have k0 : (0 : Int) ≤ (k : Int) := by omega
    obtain ⟨x, hx⟩ : ∃ x, (s[k]'hlt).toNat = x := ⟨_, rfl⟩
    have HX := Lib.hid hx
    have hxv : (0 ≤ x ∧ x ≤ 44) ∨ (45 ≤ x ∧ x ≤ 45) ∨ (46 ≤ x ∧ x ≤ 46) ∨ (47 ≤ x ∧ x ≤ 47) ∨ (48 ≤ x ∧ x ≤ 57) ∨ (58 ≤ x ∧ x ≤ 94) ∨ (95 ≤ x ∧ x ≤ 95) ∨ (96 ≤ x ∧ x ≤ 96) ∨ (97 ≤ x ∧ x ≤ 122) ∨ (123 ≤ x ∧ x ≤ 255) := by
      have := (s[k]'hlt).toNat_lt; omega
    clear hx
    rcases hxv with hxv | hxv | hxv | hxv | hxv | hxv | hxv | hxv | hxv | hxv
    · obtain ⟨g1, g2⟩ := hxv
      have d0 : decide ((((s[k]'hlt).toNat : Nat) : Int) < 97) = true := by rw [HX.out]; exact decide_eq_true (by omega)
      have d1 : decide (122 < (((s[k]'hlt).toNat : Nat) : Int)) = false := by rw [HX.out]; exact decide_eq_false (by omega)
      have d2 : decide ((((s[k]'hlt).toNat : Nat) : Int) < 48) = true := by rw [HX.out]; exact decide_eq_true (by omega)
      have d3 : decide (57 < (((s[k]'hlt).toNat : Nat) : Int)) = false := by rw [HX.out]; exact decide_eq_false (by omega)
      have e0 : ((((s[k]'hlt).toNat : Nat) : Int) != 45) = true := by rw [HX.out]; simp; omega
      have f0 : ((((s[k]'hlt).toNat : Nat) : Int) != 95) = true := by rw [HX.out]; simp; omega
      have g0 : ((((s[k]'hlt).toNat : Nat) : Int) != 46) = true := by rw [HX.out]; simp; omega
      have HD := Lib.hid (name_false (s := s) fun h => by have := nameC_iff.1 (h.2.2.2 k hlt hlt); rw [HX.out] at this; omega)
      clear g1 g2
      go_wp2_with fail
      go_ret
      exact ⟨by rw [HD.out]; rfl, rfl⟩
    · obtain ⟨g1, g2⟩ := hxv
      have d0 : decide ((((s[k]'hlt).toNat : Nat) : Int) < 97) = true := by rw [HX.out]; exact decide_eq_true (by omega)
      have d1 : decide (122 < (((s[k]'hlt).toNat : Nat) : Int)) = false := by rw [HX.out]; exact decide_eq_false (by omega)
      have d2 : decide ((((s[k]'hlt).toNat : Nat) : Int) < 48) = true := by rw [HX.out]; exact decide_eq_true (by omega)
      have d3 : decide (57 < (((s[k]'hlt).toNat : Nat) : Int)) = false := by rw [HX.out]; exact decide_eq_false (by omega)
      have e0 : ((((s[k]'hlt).toNat : Nat) : Int) != 45) = false := by rw [HX.out]; simp; omega
      have f0 : ((((s[k]'hlt).toNat : Nat) : Int) != 95) = true := by rw [HX.out]; simp; omega
      have g0 : ((((s[k]'hlt).toNat : Nat) : Int) != 46) = true := by rw [HX.out]; simp; omega
      have HN := Lib.hid (allN_succ HL.out hlt (nameC_iff.2 (by rw [HX.out]; omega)))
      have HU := Lib.hid (noDot_succ HT.out hlt (fun _ => by rw [HX.out]; omega))
      clear g1 g2
      go_wp2_with fail
      go_roundw
      case rel => exact ⟨k + 1, by go_num, hlt, HN.out, HU.out, by trivial⟩
      case measure => simp [intOf]; omega
    · obtain ⟨g1, g2⟩ := hxv
      have d0 : decide ((((s[k]'hlt).toNat : Nat) : Int) < 97) = true := by rw [HX.out]; exact decide_eq_true (by omega)
      have d1 : decide (122 < (((s[k]'hlt).toNat : Nat) : Int)) = false := by rw [HX.out]; exact decide_eq_false (by omega)
      have d2 : decide ((((s[k]'hlt).toNat : Nat) : Int) < 48) = true := by rw [HX.out]; exact decide_eq_true (by omega)
      have d3 : decide (57 < (((s[k]'hlt).toNat : Nat) : Int)) = false := by rw [HX.out]; exact decide_eq_false (by omega)
      have e0 : ((((s[k]'hlt).toNat : Nat) : Int) != 45) = true := by rw [HX.out]; simp; omega
      have f0 : ((((s[k]'hlt).toNat : Nat) : Int) != 95) = true := by rw [HX.out]; simp; omega
      have g0 : ((((s[k]'hlt).toNat : Nat) : Int) != 46) = false := by rw [HX.out]; simp; omega
      by_cases hk0 : k = 0
      · subst hk0
        have HD := Lib.hid (name_false (s := s) fun h => h.2.2.1 hlt (by rw [HX.out]; omega))
        clear g1 g2
        go_wp2_with fail
        go_ret
        exact ⟨by rw [HD.out]; rfl, rfl⟩
      · have z0 : ((k : Int) == 0) = false := beq_eq_false_iff_ne.2 (by omega)
        have HN := Lib.hid (allN_succ HL.out hlt (nameC_iff.2 (by rw [HX.out]; omega)))
        have HU := Lib.hid (noDot_succ HT.out hlt (fun h => absurd h hk0))
        clear g1 g2 hk0
        go_wp2_with fail
        go_roundw
        case rel => exact ⟨k + 1, by go_num, hlt, HN.out, HU.out, by trivial⟩
        case measure => simp [intOf]; omega
    · obtain ⟨g1, g2⟩ := hxv
      have d0 : decide ((((s[k]'hlt).toNat : Nat) : Int) < 97) = true := by rw [HX.out]; exact decide_eq_true (by omega)
      have d1 : decide (122 < (((s[k]'hlt).toNat : Nat) : Int)) = false := by rw [HX.out]; exact decide_eq_false (by omega)
      have d2 : decide ((((s[k]'hlt).toNat : Nat) : Int) < 48) = true := by rw [HX.out]; exact decide_eq_true (by omega)
      have d3 : decide (57 < (((s[k]'hlt).toNat : Nat) : Int)) = false := by rw [HX.out]; exact decide_eq_false (by omega)
      have e0 : ((((s[k]'hlt).toNat : Nat) : Int) != 45) = true := by rw [HX.out]; simp; omega
      have f0 : ((((s[k]'hlt).toNat : Nat) : Int) != 95) = true := by rw [HX.out]; simp; omega
      have g0 : ((((s[k]'hlt).toNat : Nat) : Int) != 46) = true := by rw [HX.out]; simp; omega
      have HD := Lib.hid (name_false (s := s) fun h => by have := nameC_iff.1 (h.2.2.2 k hlt hlt); rw [HX.out] at this; omega)
      clear g1 g2
      go_wp2_with fail
      go_ret
      exact ⟨by rw [HD.out]; rfl, rfl⟩
    · obtain ⟨g1, g2⟩ := hxv
      have d0 : decide ((((s[k]'hlt).toNat : Nat) : Int) < 97) = true := by rw [HX.out]; exact decide_eq_true (by omega)
      have d1 : decide (122 < (((s[k]'hlt).toNat : Nat) : Int)) = false := by rw [HX.out]; exact decide_eq_false (by omega)
      have d2 : decide ((((s[k]'hlt).toNat : Nat) : Int) < 48) = false := by rw [HX.out]; exact decide_eq_false (by omega)
      have d3 : decide (57 < (((s[k]'hlt).toNat : Nat) : Int)) = false := by rw [HX.out]; exact decide_eq_false (by omega)
      have e0 : ((((s[k]'hlt).toNat : Nat) : Int) != 45) = true := by rw [HX.out]; simp; omega
      have f0 : ((((s[k]'hlt).toNat : Nat) : Int) != 95) = true := by rw [HX.out]; simp; omega
      have g0 : ((((s[k]'hlt).toNat : Nat) : Int) != 46) = true := by rw [HX.out]; simp; omega
      have HN := Lib.hid (allN_succ HL.out hlt (nameC_iff.2 (by rw [HX.out]; omega)))
      have HU := Lib.hid (noDot_succ HT.out hlt (fun _ => by rw [HX.out]; omega))
      clear g1 g2
      go_wp2_with fail
      go_roundw
      case rel => exact ⟨k + 1, by go_num, hlt, HN.out, HU.out, by trivial⟩
      case measure => simp [intOf]; omega
    · obtain ⟨g1, g2⟩ := hxv
      have d0 : decide ((((s[k]'hlt).toNat : Nat) : Int) < 97) = true := by rw [HX.out]; exact decide_eq_true (by omega)
      have d1 : decide (122 < (((s[k]'hlt).toNat : Nat) : Int)) = false := by rw [HX.out]; exact decide_eq_false (by omega)
      have d2 : decide ((((s[k]'hlt).toNat : Nat) : Int) < 48) = false := by rw [HX.out]; exact decide_eq_false (by omega)
      have d3 : decide (57 < (((s[k]'hlt).toNat : Nat) : Int)) = true := by rw [HX.out]; exact decide_eq_true (by omega)
      have e0 : ((((s[k]'hlt).toNat : Nat) : Int) != 45) = true := by rw [HX.out]; simp; omega
      have f0 : ((((s[k]'hlt).toNat : Nat) : Int) != 95) = true := by rw [HX.out]; simp; omega
      have g0 : ((((s[k]'hlt).toNat : Nat) : Int) != 46) = true := by rw [HX.out]; simp; omega
      have HD := Lib.hid (name_false (s := s) fun h => by have := nameC_iff.1 (h.2.2.2 k hlt hlt); rw [HX.out] at this; omega)
      clear g1 g2
      go_wp2_with fail
      go_ret
      exact ⟨by rw [HD.out]; rfl, rfl⟩
    · obtain ⟨g1, g2⟩ := hxv
      have d0 : decide ((((s[k]'hlt).toNat : Nat) : Int) < 97) = true := by rw [HX.out]; exact decide_eq_true (by omega)
      have d1 : decide (122 < (((s[k]'hlt).toNat : Nat) : Int)) = false := by rw [HX.out]; exact decide_eq_false (by omega)
      have d2 : decide ((((s[k]'hlt).toNat : Nat) : Int) < 48) = false := by rw [HX.out]; exact decide_eq_false (by omega)
      have d3 : decide (57 < (((s[k]'hlt).toNat : Nat) : Int)) = true := by rw [HX.out]; exact decide_eq_true (by omega)
      have e0 : ((((s[k]'hlt).toNat : Nat) : Int) != 45) = true := by rw [HX.out]; simp; omega
      have f0 : ((((s[k]'hlt).toNat : Nat) : Int) != 95) = false := by rw [HX.out]; simp; omega
      have g0 : ((((s[k]'hlt).toNat : Nat) : Int) != 46) = true := by rw [HX.out]; simp; omega
      have HN := Lib.hid (allN_succ HL.out hlt (nameC_iff.2 (by rw [HX.out]; omega)))
      have HU := Lib.hid (noDot_succ HT.out hlt (fun _ => by rw [HX.out]; omega))
      clear g1 g2
      go_wp2_with fail
      go_roundw
      case rel => exact ⟨k + 1, by go_num, hlt, HN.out, HU.out, by trivial⟩
      case measure => simp [intOf]; omega
    · obtain ⟨g1, g2⟩ := hxv
      have d0 : decide ((((s[k]'hlt).toNat : Nat) : Int) < 97) = true := by rw [HX.out]; exact decide_eq_true (by omega)
      have d1 : decide (122 < (((s[k]'hlt).toNat : Nat) : Int)) = false := by rw [HX.out]; exact decide_eq_false (by omega)
      have d2 : decide ((((s[k]'hlt).toNat : Nat) : Int) < 48) = false := by rw [HX.out]; exact decide_eq_false (by omega)
      have d3 : decide (57 < (((s[k]'hlt).toNat : Nat) : Int)) = true := by rw [HX.out]; exact decide_eq_true (by omega)
      have e0 : ((((s[k]'hlt).toNat : Nat) : Int) != 45) = true := by rw [HX.out]; simp; omega
      have f0 : ((((s[k]'hlt).toNat : Nat) : Int) != 95) = true := by rw [HX.out]; simp; omega
      have g0 : ((((s[k]'hlt).toNat : Nat) : Int) != 46) = true := by rw [HX.out]; simp; omega
      have HD := Lib.hid (name_false (s := s) fun h => by have := nameC_iff.1 (h.2.2.2 k hlt hlt); rw [HX.out] at this; omega)
      clear g1 g2
      go_wp2_with fail
      go_ret
      exact ⟨by rw [HD.out]; rfl, rfl⟩
    · obtain ⟨g1, g2⟩ := hxv
      have d0 : decide ((((s[k]'hlt).toNat : Nat) : Int) < 97) = false := by rw [HX.out]; exact decide_eq_false (by omega)
      have d1 : decide (122 < (((s[k]'hlt).toNat : Nat) : Int)) = false := by rw [HX.out]; exact decide_eq_false (by omega)
      have d2 : decide ((((s[k]'hlt).toNat : Nat) : Int) < 48) = false := by rw [HX.out]; exact decide_eq_false (by omega)
      have d3 : decide (57 < (((s[k]'hlt).toNat : Nat) : Int)) = true := by rw [HX.out]; exact decide_eq_true (by omega)
      have e0 : ((((s[k]'hlt).toNat : Nat) : Int) != 45) = true := by rw [HX.out]; simp; omega
      have f0 : ((((s[k]'hlt).toNat : Nat) : Int) != 95) = true := by rw [HX.out]; simp; omega
      have g0 : ((((s[k]'hlt).toNat : Nat) : Int) != 46) = true := by rw [HX.out]; simp; omega
      have HN := Lib.hid (allN_succ HL.out hlt (nameC_iff.2 (by rw [HX.out]; omega)))
      have HU := Lib.hid (noDot_succ HT.out hlt (fun _ => by rw [HX.out]; omega))
      clear g1 g2
      go_wp2_with fail
      go_roundw
      case rel => exact ⟨k + 1, by go_num, hlt, HN.out, HU.out, by trivial⟩
      case measure => simp [intOf]; omega
    · obtain ⟨g1, g2⟩ := hxv
      have d0 : decide ((((s[k]'hlt).toNat : Nat) : Int) < 97) = false := by rw [HX.out]; exact decide_eq_false (by omega)
      have d1 : decide (122 < (((s[k]'hlt).toNat : Nat) : Int)) = true := by rw [HX.out]; exact decide_eq_true (by omega)
      have d2 : decide ((((s[k]'hlt).toNat : Nat) : Int) < 48) = false := by rw [HX.out]; exact decide_eq_false (by omega)
      have d3 : decide (57 < (((s[k]'hlt).toNat : Nat) : Int)) = true := by rw [HX.out]; exact decide_eq_true (by omega)
      have e0 : ((((s[k]'hlt).toNat : Nat) : Int) != 45) = true := by rw [HX.out]; simp; omega
      have f0 : ((((s[k]'hlt).toNat : Nat) : Int) != 95) = true := by rw [HX.out]; simp; omega
      have g0 : ((((s[k]'hlt).toNat : Nat) : Int) != 46) = true := by rw [HX.out]; simp; omega
      have HD := Lib.hid (name_false (s := s) fun h => by have := nameC_iff.1 (h.2.2.2 k hlt hlt); rw [HX.out] at this; omega)
      clear g1 g2
      go_wp2_with fail
      go_ret
      exact ⟨by rw [HD.out]; rfl, rfl⟩
end Go.Proofs.YtndekohimfjdeaaDoor
