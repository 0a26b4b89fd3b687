/-
  Records: the program's Check.
-/
import Derived.Test.YtndekohimfjdeaaDoorRecB
namespace Go.Proofs.YtndekohimfjdeaaDoor
open Go.RowKit Go.Shelf
set_option maxHeartbeats 4000000 in
theorem empty_v (s l : Int) (D : Option Addr) (m d : Nat) (w : World) (hm : m ≤ 9007199254740992) :
    Calls Tryd.prog 52 #[.agg #[.int .i64 s, .int .i64 l, .slice D m d]] w fun e w' => e = .returned (.bool (decide (s = 0) && decide (l = 0) && decide (m = 0))) ∧ Below w.heap.size w w' := by
  have BA := Lib.hid ((Below.refl w.heap.size w).alloc (Nat.le_refl _) (.cells #[.int .i64 s, .int .i64 l, .slice D m d] 25))
  by_cases h1 : s = 0
  · subst h1
    by_cases h2 : l = 0
    · subst h2
      by_cases h3 : m = 0
      · have d3 : ((m : Int) == 0) = true := by simp [h3]
        have HR := Lib.hid (show decide (m = 0) = true by simpa using h3)
        clear h3
        go_enter Tryd.func52, Tryd.ntmps52
        go_wp2_with fail
        go_ret
        exact ⟨by rw [HR.out]; first | rfl | simp [d3], BA.out⟩
      · have d3 : ((m : Int) == 0) = false := by simp [h3]
        have HR := Lib.hid (show decide (m = 0) = false by simpa using h3)
        clear h3
        go_enter Tryd.func52, Tryd.ntmps52
        go_wp2_with fail
        go_ret
        exact ⟨by rw [HR.out]; first | rfl | simp [d3], BA.out⟩
    · have d2 : (l == 0) = false := by simpa using h2
      have HR := Lib.hid (show decide (l = 0) = false by simpa using h2)
      clear h2
      go_enter Tryd.func52, Tryd.ntmps52
      go_wp2_with fail
      go_ret
      exact ⟨by rw [HR.out]; first | rfl | simp [d3], BA.out⟩
  · have d1 : (s == 0) = false := by simpa using h1
    have HR := Lib.hid (show decide (s = 0) = false by simpa using h1)
    clear h1
    go_enter Tryd.func52, Tryd.ntmps52
    go_wp2_with fail
    go_ret
    exact ⟨by rw [HR.out]; first | rfl | simp [d3], BA.out⟩
set_option maxHeartbeats 4000000 in
theorem bare_v (s l : Int) (D : Option Addr) (m d : Nat) (w : World) (hm : m ≤ 9007199254740992) :
    Calls Tryd.prog 32 #[.agg #[.int .i64 s, .int .i64 l, .slice D m d]] w fun e w' => e = .returned (.bool (decide (s = 0) && decide (l = 0) && decide (m = 0))) ∧ Below w.heap.size w w' := by
  have BA := Lib.hid ((Below.refl w.heap.size w).alloc (Nat.le_refl _) (.cells #[.int .i64 s, .int .i64 l, .slice D m d] 25))
  by_cases h1 : s = 0
  · subst h1
    by_cases h2 : l = 0
    · subst h2
      by_cases h3 : m = 0
      · have d3 : ((m : Int) == 0) = true := by simp [h3]
        have HR := Lib.hid (show decide (m = 0) = true by simpa using h3)
        clear h3
        go_enter Tryd.func32, Tryd.ntmps32
        go_wp2_with fail
        go_ret
        exact ⟨by rw [HR.out]; first | rfl | simp [d3], BA.out⟩
      · have d3 : ((m : Int) == 0) = false := by simp [h3]
        have HR := Lib.hid (show decide (m = 0) = false by simpa using h3)
        clear h3
        go_enter Tryd.func32, Tryd.ntmps32
        go_wp2_with fail
        go_ret
        exact ⟨by rw [HR.out]; first | rfl | simp [d3], BA.out⟩
    · have d2 : (l == 0) = false := by simpa using h2
      have HR := Lib.hid (show decide (l = 0) = false by simpa using h2)
      clear h2
      go_enter Tryd.func32, Tryd.ntmps32
      go_wp2_with fail
      go_ret
      exact ⟨by rw [HR.out]; first | rfl | simp [d3], BA.out⟩
  · have d1 : (s == 0) = false := by simpa using h1
    have HR := Lib.hid (show decide (s = 0) = false by simpa using h1)
    clear h1
    go_enter Tryd.func32, Tryd.ntmps32
    go_wp2_with fail
    go_ret
    exact ⟨by rw [HR.out]; first | rfl | simp [d3], BA.out⟩
end Go.Proofs.YtndekohimfjdeaaDoor
