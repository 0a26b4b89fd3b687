/-
  Paths: ending, Split, Ending, Within, Temp, Temped.
-/
import Derived.Test.YtndekohimfjdeaaDoorPathB
namespace Go.Proofs.YtndekohimfjdeaaDoor
open Go.RowKit
set_option maxRecDepth 100000 in
theorem ending_v (l : Bl) (w : World) (hs : l.length < 4294967281) : Calls Tryd.prog 62 #[.string (st l)] w fun e w' => e = .returned (.tuple #[.string (st (stemB (baseL l))), .string (st (endB (baseL l)))]) ∧ Below w.heap.size w w' := by
  have SV := split_v l w hs
  have hbl : (baseL l).length ≤ l.length := by
    rcases Classical.em ((47 : UInt8) ∈ l) with h | h
    · have := congrArg List.length ((folder_base l).1 h)
      simp only [List.length_append, List.length_singleton] at this
      omega
    · rw [((folder_base l).2 h).2]; exact Nat.le_refl _
  obtain ⟨b, hb⟩ : ∃ b, baseL l = b := ⟨_, rfl⟩
  rw [hb] at hbl SV ⊢
  clear hb
  have hz := st_size b
  have LV := fun w => Tryd.strings_LastIndexByte (st b) 46 (by omega) w
  rcases last_cut 46 b with ⟨h1, h2⟩ | ⟨i, hi, h1, h2⟩
  · have HF := Lib.hid (show stemB b = b ∧ endB b = [] by unfold stemB endB; rw [h2]; exact ⟨rfl, rfl⟩)
    rw [show Lib.lastIndexByte (st b) 46 = -1 from h1] at LV
    have LV2 := Lib.hid LV
    clear h1 h2 hz LV
    go_enter Tryd.func62, Tryd.ntmps62
    go_wp2_with fail
    refine SV.mono ?_
    rintro e w1 ⟨rfl, b1⟩
    go_wp2_with fail
    refine (LV2.out w1).mono ?_
    rintro e w2 ⟨rfl, rfl⟩
    go_wp2_with fail
    go_returns
    exact ⟨by rw [HF.out.1, HF.out.2]; rfl, b1⟩
  · have HF := Lib.hid (show stemB b = b.take i ∧ endB b = b.drop i by
      have e := cutL_some.1 h2
      unfold stemB endB
      rw [h2]
      refine ⟨rfl, ?_⟩
      exact ((congrArg (List.drop i) e.1).trans (List.drop_left' (by rw [List.length_take]; omega))).symm)
    rw [show Lib.lastIndexByte (st b) 46 = (i : Int) from h1] at LV
    have LV2 := Lib.hid LV
    have i0 : (0 : Int) ≤ (i : Int) := by omega
    have i1 : (i : Int) ≤ (st b).size := by omega
    have HT := Lib.hid (st_take b i)
    have HD := Lib.hid (st_drop b i)
    clear h1 h2 hz LV
    go_enter Tryd.func62, Tryd.ntmps62
    go_wp2_with fail
    refine SV.mono ?_
    rintro e w1 ⟨rfl, b1⟩
    go_wp2_with fail
    refine (LV2.out w1).mono ?_
    rintro e w2 ⟨rfl, rfl⟩
    go_upto_region 5 with fail
    go_quiet (fail)
    go_wp2_with fail
    go_returns
    exact ⟨by rw [HF.out.1, HF.out.2, ← HT.out, ← HD.out]; rfl, below_drewN b1 _⟩
/-- Split and Ending ask first whether it is a path. -/
def splitP (l : Bl) : Bl × Bl := if checkL l = 0 then (folderL l, baseL l) else ([], [])
def endP (l : Bl) : Bl × Bl := if checkL l = 0 then (stemB (baseL l), endB (baseL l)) else ([], [])
theorem check_len {l : Bl} (h : checkL l = 0) : l.length ≤ 64 := (right_iff.1 (check_zero.1 h)).2.2
end Go.Proofs.YtndekohimfjdeaaDoor
