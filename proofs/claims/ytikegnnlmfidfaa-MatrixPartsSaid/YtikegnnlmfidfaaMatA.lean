/-
  Matrices: devices, and texts that may be folders' names.
-/
import Derived.Test.YtikegnnlmfidfaaProg
import Derived.Test.YtikegnnlmfidfaaMatM
import Derived.Test.YtikegnnlmfidfaaSlot
import Derived.Laws.RangeAny
namespace Go.Proofs.Ytikegnnlmfidfaa
open Go.RowKit
set_option maxRecDepth 100000 in
theorem dev_v (n : Int) (w : World) : Calls Try.prog 39 #[.int .i64 n] w fun e w' => e = .returned (.bool (dev n)) ∧ w = w' := by
  go_enter Try.func39, Try.ntmps39
  by_cases h1 : 1 ≤ n
  · have d1 : decide (1 ≤ n) = true := by simpa using h1
    by_cases h2 : n ≤ 16
    · have d2 : decide (n ≤ 16) = true := by simpa using h2
      have HD := Lib.hid (show dev n = true by simp [dev, h1, h2])
      go_wp2
      go_ret
      exact ⟨by rw [HD.out]; rfl, rfl⟩
    · have d2 : decide (n ≤ 16) = false := by simpa using h2
      have HD := Lib.hid (show dev n = false by simp [dev, h2])
      go_wp2
      go_ret
      exact ⟨by rw [HD.out]; rfl, rfl⟩
  · have d1 : decide (1 ≤ n) = false := by simpa using h1
    have HD := Lib.hid (show dev n = false by simp [dev, h1])
    go_wp2
    go_ret
    exact ⟨by rw [HD.out]; rfl, rfl⟩
set_option maxRecDepth 100000 in
theorem rdev_v (n : Int) (w : World) : Calls Try.prog 52 #[.int .i64 n] w fun e w' => e = .returned (.bool (dev n)) ∧ w = w' := by
  go_enter Try.func52, Try.ntmps52
  by_cases h1 : 1 ≤ n
  · have d1 : decide (1 ≤ n) = true := by simpa using h1
    by_cases h2 : n ≤ 16
    · have d2 : decide (n ≤ 16) = true := by simpa using h2
      have HD := Lib.hid (show dev n = true by simp [dev, h1, h2])
      go_wp2
      go_ret
      exact ⟨by rw [HD.out]; rfl, rfl⟩
    · have d2 : decide (n ≤ 16) = false := by simpa using h2
      have HD := Lib.hid (show dev n = false by simp [dev, h2])
      go_wp2
      go_ret
      exact ⟨by rw [HD.out]; rfl, rfl⟩
  · have d1 : decide (1 ≤ n) = false := by simpa using h1
    have HD := Lib.hid (show dev n = false by simp [dev, h1])
    go_wp2
    go_ret
    exact ⟨by rw [HD.out]; rfl, rfl⟩
def highR (x : Int) : Bool := decide (x < 97) || decide (122 < x)
set_option maxRecDepth 100000 in
theorem folder1_v (x : Int) (w : World) : Calls Try.prog 57 #[.int .i32 x] w fun e w' => e = .returned (.bool (highR x)) ∧ w = w' := by
  go_enter Try.func57, Try.ntmps57
  by_cases h1 : x < 97
  · have d1 : decide (x < 97) = true := by simpa using h1
    have HD := Lib.hid (show highR x = true by simp [highR, h1])
    go_wp2
    go_ret
    exact ⟨by rw [HD.out]; rfl, rfl⟩
  · have d1 : decide (x < 97) = false := by simpa using h1
    by_cases h2 : 122 < x
    · have d2 : decide (122 < x) = true := by simpa using h2
      have HD := Lib.hid (show highR x = true by simp [highR, h2])
      go_wp2
      go_ret
      exact ⟨by rw [HD.out]; rfl, rfl⟩
    · have d2 : decide (122 < x) = false := by simpa using h2
      have HD := Lib.hid (show highR x = false by simp [highR, h1, h2])
      go_wp2
      go_ret
      exact ⟨by rw [HD.out]; rfl, rfl⟩
def allLow (s : ByteArray) (n : Nat) : Prop := ∀ k, k < n → ∀ h : k < s.size, lowB (s[k]'h)
theorem allLow_succ {s : ByteArray} {n : Nat} (h : allLow s n) (hn : n < s.size) (hb : lowB (s[n]'hn)) : allLow s (n + 1) := fun k hk hk2 => by
  rcases Nat.lt_or_ge k n with h2 | h2
  · exact h k h2 hk2
  · obtain rfl : k = n := by omega
    exact hb
set_option maxRecDepth 1000000 in
set_option maxHeartbeats 2000000 in
theorem indexFunc_v (s : ByteArray) (w : World) : Calls Try.prog 74 #[.string s, .func (.func 57) #[] #[], .bool true] w fun e w' =>
    ∃ z : Int, e = .returned (.int .i64 z) ∧ (0 ≤ z ↔ ¬ allLow s s.size) ∧ Below w.heap.size w w' := by
  have HB0 := Lib.hid (fun p => (Below.refl w.heap.size w).alloc (Nat.le_refl _) (.stringIter s p))
  go_enter Try.func74, Try.ntmps74
  go_wp2
  go_loopw [6] (fun n w' => ∃ pos : Nat, w' = w.iter s pos ∧ pos ≤ s.size ∧ allLow s pos) (fun _ w' => s.size - w'.iterPos w.heap.size)
  case atStart => exact ⟨0, rfl, Nat.zero_le _, fun k hk => by omega⟩
  case round =>
    obtain ⟨pos, rfl, hps, hlow⟩ := hrel
    have HL := Lib.hid hlow
    clear hlow
    by_cases hp : pos < s.size
    · have hnx : ∀ ty, (Instr.next (.pointer (some ⟨w.heap.size, 0, none⟩)) true ty).run Try.prog (w.iter s pos) = _ := fun ty => run_next_any w s pos ty hp
      by_cases hb : lowB (s[pos]'hp)
      · have hd := decode_ascii s pos hp (by have := hb.2; omega)
        rw [hd] at hnx
        have HX := Lib.hid (show highR (((s[pos]'hp).toNat : Nat) : Int) = false by simp only [highR, Bool.or_eq_false_iff, decide_eq_false_iff_not]; have := hb.1; have := hb.2; omega)
        have HN := Lib.hid (allLow_succ HL.out hp hb)
        go_wp2_with fail
        refine (folder1_v _ _).mono ?_
        rw [HX.out]
        rintro e _ ⟨rfl, rfl⟩
        go_wp2_with fail
        go_roundw
        case rel => exact ⟨pos + 1, rfl, hp, HN.out⟩
        case measure => simp only [World.iterPos_iter]; omega
      · have HX := Lib.hid (show highR ((Utf8.decode s pos).1 : Int) = true by
          by_cases ha : (s[pos]'hp).toNat < 128
          · rw [decode_ascii s pos hp ha]
            simp only [highR, Bool.or_eq_true, decide_eq_true_eq]
            have : ¬ (97 ≤ (s[pos]'hp).toNat ∧ (s[pos]'hp).toNat ≤ 122) := hb
            omega
          · have := (decode_high s pos hp (by omega)).1
            simp only [highR, Bool.or_eq_true, decide_eq_true_eq]
            omega)
        have HN := Lib.hid (show ¬ allLow s s.size from fun h => hb (h pos hp hp))
        obtain ⟨rn, hrn⟩ : ∃ rn, (Utf8.decode s pos).1 = rn := ⟨_, rfl⟩
        obtain ⟨wd, hwd⟩ : ∃ wd, (Utf8.decode s pos).2 = wd := ⟨_, rfl⟩
        rw [hrn, hwd] at hnx
        rw [hrn] at HX
        clear hrn hwd hb
        go_wp2_with fail
        refine (folder1_v _ _).mono ?_
        rw [HX.out]
        rintro e _ ⟨rfl, rfl⟩
        go_wp2_with fail
        go_ret
        exact ⟨(pos : Int), rfl, ⟨fun _ => HN.out, fun _ => by omega⟩, HB0.out _⟩
    · have hnx : ∀ ty, (Instr.next (.pointer (some ⟨w.heap.size, 0, none⟩)) true ty).run Try.prog (w.iter s pos) = _ := fun ty => run_next_end w s pos ty hp
      obtain rfl : pos = s.size := by omega
      go_wp2_with fail
      go_ret
      exact ⟨-1, rfl, ⟨fun h => by omega, fun h => absurd HL.out h⟩, HB0.out _⟩
set_option maxRecDepth 100000 in
theorem containsFunc_v (s : ByteArray) (w : World) : Calls Try.prog 56 #[.string s, .func (.func 57) #[] #[]] w fun e w' =>
    ∃ b : Bool, e = .returned (.bool b) ∧ (b = true ↔ ¬ allLow s s.size) ∧ Below w.heap.size w w' := by
  go_enter Try.func56, Try.ntmps56
  go_wp2_with fail
  try go_enter Try.func69, Try.ntmps69
  try go_wp2_with fail
  refine (indexFunc_v s _).mono ?_
  rintro e w1 ⟨z, rfl, hz, hb⟩
  have HZ := Lib.hid hz
  clear hz
  go_wp2_with fail
  go_ret
  exact ⟨_, rfl, by rw [← HZ.out]; simp, hb⟩
theorem folderP_iff (s : ByteArray) : folderP s = true ↔ 1 ≤ s.size ∧ s.size ≤ 16 ∧ allLow s s.size := by
  unfold folderP
  rw [decide_eq_true_iff]
  exact ⟨fun h => ⟨h.1, h.2.1, fun k _ h2 => h.2.2 k h2⟩, fun h => ⟨h.1, h.2.1, fun k h2 => h.2.2 k h2 h2⟩⟩
theorem folderP_false {s : ByteArray} (h : ¬ (1 ≤ s.size ∧ s.size ≤ 16 ∧ allLow s s.size)) : folderP s = false := by
  cases hf : folderP s
  · rfl
  · exact absurd ((folderP_iff s).1 hf) h
set_option maxRecDepth 100000 in
theorem folder_v (s : ByteArray) (w : World) (hs : s.size ≤ 9223372036854775807) : Calls Try.prog 29 #[.string s] w fun e w' => e = .returned (.bool (folderP s)) ∧ Below w.heap.size w w' := by
  go_enter Try.func29, Try.ntmps29
  by_cases h1 : 1 ≤ s.size
  · have d1 : decide (1 ≤ s.size) = true := by simpa using h1
    by_cases h2 : s.size ≤ 16
    · have d2 : decide (s.size ≤ 16) = true := by simpa using h2
      go_wp2_with fail
      refine (containsFunc_v s w).mono ?_
      rintro e w1 ⟨b, rfl, hb, h3⟩
      have HD := Lib.hid (show folderP s = !b by
        cases b with
        | false => exact (folderP_iff s).2 ⟨h1, h2, Classical.byContradiction fun h => by have := hb.2 h; cases this⟩
        | true => exact folderP_false fun h => hb.1 rfl h.2.2)
      have H3 := Lib.hid h3
      clear hb h3
      go_wp2_with fail
      go_ret
      exact ⟨by rw [HD.out]; rfl, H3.out⟩
    · have d2 : decide (s.size ≤ 16) = false := by simpa using h2
      have HD := Lib.hid (folderP_false (s := s) fun h => h2 h.2.1)
      go_wp2_with fail
      go_ret
      exact ⟨by rw [HD.out]; rfl, Below.refl _ _⟩
  · have d1 : decide (1 ≤ s.size) = false := by simpa using h1
    have HD := Lib.hid (folderP_false (s := s) fun h => h1 h.1)
    go_wp2_with fail
    go_ret
    exact ⟨by rw [HD.out]; rfl, Below.refl _ _⟩
set_option maxRecDepth 100000 in
theorem rfolder_v (s : ByteArray) (w : World) (hs : s.size ≤ 9223372036854775807) : Calls Try.prog 30 #[.string s] w fun e w' => e = .returned (.bool (folderP s)) ∧ w = w' := by
  go_enter Try.func30, Try.ntmps30
  go_wp2_with fail
  go_loopw [3] (fun i wr => ∃ k : Nat, i = .int .i64 (k : Int) ∧ k ≤ s.size ∧ allLow s k ∧ w = wr) (fun i _ => s.size - (intOf i).toNat)
  case atStart => exact ⟨0, rfl, Nat.zero_le _, fun k hk => by omega, rfl⟩
  case round =>
    obtain ⟨k, rfl, hk, hlow, rfl⟩ := hrel
    have HL := Lib.hid hlow
    clear hlow
    by_cases hlt : k < s.size
    · have k0 : (0 : Int) ≤ (k : Int) := by omega
      by_cases h1 : (s[k]'hlt).toNat < 97
      · have d1 : decide ((s[k]'hlt).toNat < 97) = true := by simpa using h1
        have HD := Lib.hid (folderP_false (s := s) fun h => by have := (h.2.2 k hlt hlt).1; omega)
        go_wp2_with fail
        go_ret
        exact ⟨by rw [HD.out]; rfl, rfl⟩
      · have d1 : decide ((s[k]'hlt).toNat < 97) = false := by simpa using h1
        by_cases h2 : 122 < (s[k]'hlt).toNat
        · have d2 : decide (122 < (s[k]'hlt).toNat) = true := by simpa using h2
          have HD := Lib.hid (folderP_false (s := s) fun h => by have := (h.2.2 k hlt hlt).2; omega)
          go_wp2_with fail
          go_ret
          exact ⟨by rw [HD.out]; rfl, rfl⟩
        · have d2 : decide (122 < (s[k]'hlt).toNat) = false := by simpa using h2
          have HN := Lib.hid (allLow_succ HL.out hlt ⟨by omega, by omega⟩)
          go_wp2_with fail
          go_roundw
          case rel => exact ⟨k + 1, by go_num, hlt, HN.out, by trivial⟩
          case measure => simp [intOf]; omega
    · obtain rfl : k = s.size := by omega
      by_cases h1 : 1 ≤ s.size
      · have d1 : decide (1 ≤ s.size) = true := by simpa using h1
        by_cases h2 : s.size ≤ 16
        · have d2 : decide ((s.size : Int) ≤ 16) = true := decide_eq_true (by omega)
          have HD := Lib.hid ((folderP_iff s).2 ⟨h1, h2, HL.out⟩)
          go_wp2_with fail
          go_ret
          exact ⟨by rw [HD.out]; rfl, rfl⟩
        · have d2 : decide ((s.size : Int) ≤ 16) = false := decide_eq_false (by omega)
          have HD := Lib.hid (folderP_false (s := s) fun h => h2 h.2.1)
          go_wp2_with fail
          go_ret
          exact ⟨by rw [HD.out]; rfl, rfl⟩
      · have d1 : decide (1 ≤ s.size) = false := by simpa using h1
        have HD := Lib.hid (folderP_false (s := s) fun h => h1 h.1)
        go_wp2_with fail
        go_ret
        exact ⟨by rw [HD.out]; rfl, rfl⟩
end Go.Proofs.Ytikegnnlmfidfaa
