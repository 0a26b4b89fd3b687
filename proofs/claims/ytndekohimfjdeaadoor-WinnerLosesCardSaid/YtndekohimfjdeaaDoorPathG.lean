/-
  Paths: Copied.
-/
import Derived.Test.YtndekohimfjdeaaDoorPathF
import Derived.Test.YtndekohimfjdeaaDoorSlot
namespace Go.Proofs.YtndekohimfjdeaaDoor
open Go.RowKit
theorem marked_len {s q : Bl} {d n : Nat} (h : markedL s = some (q, d, n)) : q.length ≤ s.length := by
  rw [marked_eq] at h
  split at h
  · simp only [Option.some.injEq, Prod.mk.injEq] at h
    obtain ⟨rfl, _, _⟩ := h
    have h1 := mR_len s
    unfold mA
    rw [trim_lib]
    have h2 : (mQ s).length ≤ (mR s).length := by unfold mQ; rw [List.length_take]; omega
    split
    · rw [List.length_take]; omega
    · omega
  · cases h
theorem base_len (l : Bl) : (folderL l).length ≤ l.length ∧ (baseL l).length ≤ l.length ∧ (stemB (baseL l)).length ≤ l.length ∧ (endB (baseL l)).length ≤ l.length := by
  have e := congrArg List.length (stem_end (baseL l))
  rw [List.length_append] at e
  by_cases hm : (47 : UInt8) ∈ l
  · have := congrArg List.length ((folder_base l).1 hm)
    simp only [List.length_append, List.length_singleton] at this
    omega
  · obtain ⟨e1, e2⟩ := (folder_base l).2 hm
    rw [e1]
    rw [e2] at e ⊢
    simp only [List.length_nil]
    omega
/-- What Copied makes of one way to take a mark away. -/
def resV (r : Option (Bl × Nat × Nat)) : Value := .tuple #[.string (st (r.getD ([], 0, 0)).1), .int .i64 ((r.getD ([], 0, 0)).2.1 : Int), .int .i64 ((r.getD ([], 0, 0)).2.2 : Int), .bool r.isSome]
end Go.Proofs.YtndekohimfjdeaaDoor
