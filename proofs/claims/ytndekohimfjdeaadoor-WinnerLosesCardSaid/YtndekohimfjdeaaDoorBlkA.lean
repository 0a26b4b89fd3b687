/-
  Blocks: lists of digests; whether a list may be; where a block goes.
-/
import Derived.Test.YtndekohimfjdeaaDoorCellN
import Derived.Test.YtndekohimfjdeaaDoorSlot
import Derived.Test.YtndekohimfjdeaaDoorTextT
import Derived.Deep.Cut
namespace Go.Proofs.YtndekohimfjdeaaDoor
open Go.RowKit Go.Shelf
abbrev I64 (a : Int) : Prop := (Lit.int .i64 a).wf = true
/-- A digest: 32 numbers. -/
abbrev Dg := { d : List Nat // d.length = 32 }
def Dg.cells (d : Dg) : List Value := d.1.map fun x : Nat => Value.int .u8 (x : Int)
theorem Dg.cells_len (d : Dg) : d.cells.length = 32 := by simp [Dg.cells, d.2]
/-- Whether a list may be. -/
def chk (s l : Int) (n : Nat) : Nat :=
  if 4194304 < l then 3 else if 1024 < n then 3 else if s < 1 then 2 else if 65536 < s then 2 else if l < 0 then 2 else if (l + s - 1) / s = (n : Int) then 0 else 2
theorem chk_ok {s l : Int} {n : Nat} (h : chk s l n = 0) : 1 ≤ s ∧ s ≤ 65536 ∧ 0 ≤ l ∧ l ≤ 4194304 ∧ n ≤ 1024 ∧ (l + s - 1) / s = (n : Int) := by
  unfold chk at h
  split at h
  · cases h
  · split at h
    · cases h
    · split at h
      · cases h
      · split at h
        · cases h
        · split at h
          · cases h
          · split at h
            · refine ⟨by omega, by omega, by omega, by omega, by omega, by assumption⟩
            · cases h
set_option maxHeartbeats 1000000 in
theorem count_v (l s : Int) (w : World) (hl : 0 ≤ l) (hl2 : l ≤ 1125899906842624) (hs : 1 ≤ s) (hs2 : s ≤ 1125899906842624) :
    Calls Tryd.prog 66 #[.int .i64 l, .int .i64 s] w fun e w' => e = .returned (.int .i64 ((l + s - 1) / s)) ∧ w = w' := by
  have h0 : (l + s - 1).tdiv s = (l + s - 1) / s := Int.tdiv_eq_ediv_of_nonneg (by omega)
  have h1 : 0 ≤ (l + s - 1) / s := Int.ediv_nonneg (by omega) (by omega)
  have h2 : (l + s - 1) / s ≤ l + s - 1 := Int.ediv_le_self _ (by omega)
  have hs0 : s ≠ 0 := by omega
  have hs1 : s ≠ -1 := by omega
  go_enter Tryd.func66, Tryd.ntmps66
  go_wp2
  go_ret
  exact ⟨ret_int rfl, rfl⟩
set_option maxRecDepth 100000 in
set_option maxHeartbeats 4000000 in
theorem bcheck_v (s l : Int) (A : Option Addr) (n c : Nat) (w : World) (hn : n ≤ 9007199254740992) :
    Calls Tryd.prog 50 #[.agg #[.int .i64 s, .int .i64 l, .slice A n c]] w fun e w' => e = .returned (.int .i64 (chk s l n : Int)) ∧ Below w.heap.size w w' := by
  have BA := Lib.hid ((Below.refl w.heap.size w).alloc (Nat.le_refl _) (.cells #[.int .i64 s, .int .i64 l, .slice A n c] 25))
  have c0 := cell_nw w #[.int .i64 s, .int .i64 l, .slice A n c] 25 0
  have c1 := cell_nw w #[.int .i64 s, .int .i64 l, .slice A n c] 25 1
  have c2 := cell_nw w #[.int .i64 s, .int .i64 l, .slice A n c] 25 2
  go_enter Tryd.func50, Tryd.ntmps50
  by_cases h1 : 4194304 < l
  · have d1 : decide (4194304 < l) = true := by simpa using h1
    have HR := Lib.hid (show chk s l n = 3 by unfold chk; rw [if_pos h1])
    go_wp2
    go_ret
    exact ⟨by rw [HR.out]; rfl, BA.out⟩
  · have d1 : decide (4194304 < l) = false := by simpa using h1
    by_cases h2 : 1024 < n
    · have d2 : decide (1024 < n) = true := by simpa using h2
      have HR := Lib.hid (show chk s l n = 3 by unfold chk; rw [if_neg h1, if_pos h2])
      go_wp2
      go_ret
      exact ⟨by rw [HR.out]; rfl, BA.out⟩
    · have d2 : decide (1024 < n) = false := by simpa using h2
      by_cases h3 : s < 1
      · have d3 : decide (s < 1) = true := by simpa using h3
        have HR := Lib.hid (show chk s l n = 2 by unfold chk; rw [if_neg h1, if_neg h2, if_pos h3])
        go_upto_region 3 with fail
        go_quiet (fail)
        go_wp2
        go_ret
        exact ⟨by rw [HR.out]; rfl, below_drewN BA.out _⟩
      · have d3 : decide (s < 1) = false := by simpa using h3
        by_cases h4 : 65536 < s
        · have d4 : decide (65536 < s) = true := by simpa using h4
          have HR := Lib.hid (show chk s l n = 2 by unfold chk; rw [if_neg h1, if_neg h2, if_neg h3, if_pos h4])
          go_upto_region 3 with fail
          go_quiet (fail)
          go_wp2
          go_ret
          exact ⟨by rw [HR.out]; rfl, below_drewN BA.out _⟩
        · have d4 : decide (65536 < s) = false := by simpa using h4
          by_cases h5 : l < 0
          · have d5 : decide (l < 0) = true := by simpa using h5
            have HR := Lib.hid (show chk s l n = 2 by unfold chk; rw [if_neg h1, if_neg h2, if_neg h3, if_neg h4, if_pos h5])
            go_upto_region 3 with fail
            go_quiet (fail)
            go_wp2
            go_ret
            exact ⟨by rw [HR.out]; rfl, below_drewN BA.out _⟩
          · have d5 : decide (l < 0) = false := by simpa using h5
            have CV := Lib.hid (fun W => count_v l s W (by omega) (by omega) (by omega) (by omega))
            obtain ⟨q, hq⟩ : ∃ q, (l + s - 1) / s = q := ⟨_, rfl⟩
            rw [hq] at CV
            by_cases h6 : q = (n : Int)
            · have d6 : (q != (n : Int)) = false := by simpa using h6
              have HR := Lib.hid (show chk s l n = 0 by unfold chk; rw [if_neg h1, if_neg h2, if_neg h3, if_neg h4, if_neg h5, hq, if_pos h6])
              clear h6 hq
              go_upto_region 3 with fail
              go_quiet ((go_at_call 66; exact quiet_left (CV.out _)))
              go_wp2
              go_ret
              exact ⟨by rw [HR.out]; rfl, below_drewN BA.out _⟩
            · have d6 : (q != (n : Int)) = true := by simpa using h6
              have HR := Lib.hid (show chk s l n = 2 by unfold chk; rw [if_neg h1, if_neg h2, if_neg h3, if_neg h4, if_neg h5, hq, if_neg h6])
              clear h6 hq
              go_upto_region 3 with fail
              go_quiet ((go_at_call 66; exact quiet_left (CV.out _)))
              go_wp2
              go_ret
              exact ⟨by rw [HR.out]; rfl, below_drewN BA.out _⟩
set_option maxHeartbeats 1000000 in
theorem rcount_v (l s : Int) (w : World) (hl : 0 ≤ l) (hl2 : l ≤ 1125899906842624) (hs : 1 ≤ s) (hs2 : s ≤ 1125899906842624) :
    Calls Tryd.prog 47 #[.int .i64 l, .int .i64 s] w fun e w' => e = .returned (.int .i64 ((l + s - 1) / s)) ∧ w = w' := by
  have h0 : (l + s - 1).tdiv s = (l + s - 1) / s := Int.tdiv_eq_ediv_of_nonneg (by omega)
  have h1 : 0 ≤ (l + s - 1) / s := Int.ediv_nonneg (by omega) (by omega)
  have h2 : (l + s - 1) / s ≤ l + s - 1 := Int.ediv_le_self _ (by omega)
  have hs0 : s ≠ 0 := by omega
  have hs1 : s ≠ -1 := by omega
  go_enter Tryd.func47, Tryd.ntmps47
  go_wp2
  go_ret
  exact ⟨ret_int rfl, rfl⟩
set_option maxRecDepth 100000 in
set_option maxHeartbeats 4000000 in
theorem brcheck_v (s l : Int) (A : Option Addr) (n c : Nat) (w : World) (hn : n ≤ 9007199254740992) :
    Calls Tryd.prog 30 #[.agg #[.int .i64 s, .int .i64 l, .slice A n c]] w fun e w' => e = .returned (.int .i64 (chk s l n : Int)) ∧ Below w.heap.size w w' := by
  have BA := Lib.hid ((Below.refl w.heap.size w).alloc (Nat.le_refl _) (.cells #[.int .i64 s, .int .i64 l, .slice A n c] 25))
  have c0 := cell_nw w #[.int .i64 s, .int .i64 l, .slice A n c] 25 0
  have c1 := cell_nw w #[.int .i64 s, .int .i64 l, .slice A n c] 25 1
  have c2 := cell_nw w #[.int .i64 s, .int .i64 l, .slice A n c] 25 2
  go_enter Tryd.func30, Tryd.ntmps30
  by_cases h1 : 4194304 < l
  · have d1 : decide (4194304 < l) = true := by simpa using h1
    have HR := Lib.hid (show chk s l n = 3 by unfold chk; rw [if_pos h1])
    go_wp2
    go_ret
    exact ⟨by rw [HR.out]; rfl, BA.out⟩
  · have d1 : decide (4194304 < l) = false := by simpa using h1
    by_cases h2 : 1024 < n
    · have d2 : decide (1024 < n) = true := by simpa using h2
      have HR := Lib.hid (show chk s l n = 3 by unfold chk; rw [if_neg h1, if_pos h2])
      go_wp2
      go_ret
      exact ⟨by rw [HR.out]; rfl, BA.out⟩
    · have d2 : decide (1024 < n) = false := by simpa using h2
      by_cases h3 : s < 1
      · have d3 : decide (s < 1) = true := by simpa using h3
        have HR := Lib.hid (show chk s l n = 2 by unfold chk; rw [if_neg h1, if_neg h2, if_pos h3])
        go_upto_region 3 with fail
        go_quiet (fail)
        go_wp2
        go_ret
        exact ⟨by rw [HR.out]; rfl, below_drewN BA.out _⟩
      · have d3 : decide (s < 1) = false := by simpa using h3
        by_cases h4 : 65536 < s
        · have d4 : decide (65536 < s) = true := by simpa using h4
          have HR := Lib.hid (show chk s l n = 2 by unfold chk; rw [if_neg h1, if_neg h2, if_neg h3, if_pos h4])
          go_upto_region 3 with fail
          go_quiet (fail)
          go_wp2
          go_ret
          exact ⟨by rw [HR.out]; rfl, below_drewN BA.out _⟩
        · have d4 : decide (65536 < s) = false := by simpa using h4
          by_cases h5 : l < 0
          · have d5 : decide (l < 0) = true := by simpa using h5
            have HR := Lib.hid (show chk s l n = 2 by unfold chk; rw [if_neg h1, if_neg h2, if_neg h3, if_neg h4, if_pos h5])
            go_upto_region 3 with fail
            go_quiet (fail)
            go_wp2
            go_ret
            exact ⟨by rw [HR.out]; rfl, below_drewN BA.out _⟩
          · have d5 : decide (l < 0) = false := by simpa using h5
            have CV := Lib.hid (fun W => rcount_v l s W (by omega) (by omega) (by omega) (by omega))
            obtain ⟨q, hq⟩ : ∃ q, (l + s - 1) / s = q := ⟨_, rfl⟩
            rw [hq] at CV
            by_cases h6 : q = (n : Int)
            · have d6 : (q != (n : Int)) = false := by simpa using h6
              have HR := Lib.hid (show chk s l n = 0 by unfold chk; rw [if_neg h1, if_neg h2, if_neg h3, if_neg h4, if_neg h5, hq, if_pos h6])
              clear h6 hq
              go_upto_region 3 with fail
              go_quiet ((go_at_call 47; exact quiet_left (CV.out _)))
              go_wp2
              go_ret
              exact ⟨by rw [HR.out]; rfl, below_drewN BA.out _⟩
            · have d6 : (q != (n : Int)) = true := by simpa using h6
              have HR := Lib.hid (show chk s l n = 2 by unfold chk; rw [if_neg h1, if_neg h2, if_neg h3, if_neg h4, if_neg h5, hq, if_neg h6])
              clear h6 hq
              go_upto_region 3 with fail
              go_quiet ((go_at_call 47; exact quiet_left (CV.out _)))
              go_wp2
              go_ret
              exact ⟨by rw [HR.out]; rfl, below_drewN BA.out _⟩
/-- Where block k goes. -/
def toP (s l k : Int) : Int := min l ((k + 1) * s)
end Go.Proofs.YtndekohimfjdeaaDoor
