/-
  Paths: ending, Split, Ending, Within, Temp, Temped.
-/
import Derived.Test.YtgidngnlmijhhaaDoorPathB
namespace Go.Proofs.YtgidngnlmijhhaaDoor
open Go.RowKit
set_option maxRecDepth 100000 in
theorem ending_v (l : Bl) (w : World) (hs : l.length < 4294967281) : Calls Tryd.prog 29 #[.string (st l)] w fun e w' => e = .returned (.tuple #[.string (st (stemB (baseL l))), .string (st (endB (baseL l)))]) ∧ Below w.heap.size w w' := by
  have SV := split_v l w hs
  have hbl : (baseL l).length ≤ l.length := by
    rcases Classical.em ((47 : UInt8) ∈ l) with h | h
    · have := congrArg List.length ((folder_base l).1 h)
      simp only [List.length_append, List.length_singleton] at this
      omega
    · rw [((folder_base l).2 h).2]; exact Nat.le_refl _
  obtain ⟨b, hb⟩ : ∃ b, baseL l = b := ⟨_, rfl⟩
  rw [hb] at hbl SV ⊢
  clear hb
  have hz := st_size b
  have LV := fun w => Tryd.strings_LastIndexByte (st b) 46 (by omega) w
  rcases last_cut 46 b with ⟨h1, h2⟩ | ⟨i, hi, h1, h2⟩
  · have HF := Lib.hid (show stemB b = b ∧ endB b = [] by unfold stemB endB; rw [h2]; exact ⟨rfl, rfl⟩)
    rw [show Lib.lastIndexByte (st b) 46 = -1 from h1] at LV
    have LV2 := Lib.hid LV
    clear h1 h2 hz LV
    go_enter Tryd.func29, Tryd.ntmps29
    go_wp2_with fail
    refine SV.mono ?_
    rintro e w1 ⟨rfl, b1⟩
    go_wp2_with fail
    refine (LV2.out w1).mono ?_
    rintro e w2 ⟨rfl, rfl⟩
    go_wp2_with fail
    go_returns
    exact ⟨by rw [HF.out.1, HF.out.2]; rfl, b1⟩
  · have HF := Lib.hid (show stemB b = b.take i ∧ endB b = b.drop i by
      have e := cutL_some.1 h2
      unfold stemB endB
      rw [h2]
      refine ⟨rfl, ?_⟩
      exact ((congrArg (List.drop i) e.1).trans (List.drop_left' (by rw [List.length_take]; omega))).symm)
    rw [show Lib.lastIndexByte (st b) 46 = (i : Int) from h1] at LV
    have LV2 := Lib.hid LV
    have i0 : (0 : Int) ≤ (i : Int) := by omega
    have i1 : (i : Int) ≤ (st b).size := by omega
    have HT := Lib.hid (st_take b i)
    have HD := Lib.hid (st_drop b i)
    clear h1 h2 hz LV
    go_enter Tryd.func29, Tryd.ntmps29
    go_wp2_with fail
    refine SV.mono ?_
    rintro e w1 ⟨rfl, b1⟩
    go_wp2_with fail
    refine (LV2.out w1).mono ?_
    rintro e w2 ⟨rfl, rfl⟩
    go_upto_region 5 with fail
    go_quiet (fail)
    go_wp2_with fail
    go_returns
    exact ⟨by rw [HF.out.1, HF.out.2, ← HT.out, ← HD.out]; rfl, below_drewN b1 _⟩
/-- Split and Ending ask first whether it is a path. -/
def splitP (l : Bl) : Bl × Bl := if checkL l = 0 then (folderL l, baseL l) else ([], [])
def endP (l : Bl) : Bl × Bl := if checkL l = 0 then (stemB (baseL l), endB (baseL l)) else ([], [])
theorem check_len {l : Bl} (h : checkL l = 0) : l.length ≤ 64 := (right_iff.1 (check_zero.1 h)).2.2
set_option maxRecDepth 100000 in
theorem psplit_v (l : Bl) (w : World) (he : Env w) : Calls Tryd.prog 9 #[.string (st l)] w fun e w' => e = .returned (.tuple #[.string (st (splitP l).1), .string (st (splitP l).2)]) ∧ Below w.heap.size w w' := by
  have CV := check_v l w he
  obtain ⟨k, hk⟩ : ∃ k, checkL l = k := ⟨_, rfl⟩
  have HK := Lib.hid hk
  rw [hk] at CV
  clear hk
  go_enter Tryd.func9, Tryd.ntmps9
  go_wp2_with fail
  refine CV.mono ?_
  rintro e w1 ⟨rfl, b1⟩
  by_cases h : k = 0
  · subst h
    have HS := Lib.hid (show splitP l = (folderL l, baseL l) by unfold splitP; rw [if_pos HK.out])
    have SV := split_v l w1 (by have := check_len HK.out; omega)
    have d1 : (((0 : Nat) : Int) != 0) = false := rfl
    go_wp2_with fail
    refine SV.mono ?_
    rintro e w2 ⟨rfl, b2⟩
    go_wp2_with fail
    go_returns
    exact ⟨by rw [HS.out]; rfl, b1.trans (b2.mono b1.size)⟩
  · have HS := Lib.hid (show splitP l = ([], []) by unfold splitP; rw [if_neg (by rw [HK.out]; exact h)])
    have d1 : ((k : Int) != 0) = true := by simp; omega
    clear h
    go_wp2_with fail
    go_returns
    exact ⟨by rw [HS.out]; rfl, b1⟩
set_option maxRecDepth 100000 in
theorem pend_v (l : Bl) (w : World) (he : Env w) : Calls Tryd.prog 10 #[.string (st l)] w fun e w' => e = .returned (.tuple #[.string (st (endP l).1), .string (st (endP l).2)]) ∧ Below w.heap.size w w' := by
  have CV := check_v l w he
  obtain ⟨k, hk⟩ : ∃ k, checkL l = k := ⟨_, rfl⟩
  have HK := Lib.hid hk
  rw [hk] at CV
  clear hk
  go_enter Tryd.func10, Tryd.ntmps10
  go_wp2_with fail
  refine CV.mono ?_
  rintro e w1 ⟨rfl, b1⟩
  by_cases h : k = 0
  · subst h
    have HS := Lib.hid (show endP l = (stemB (baseL l), endB (baseL l)) by unfold endP; rw [if_pos HK.out])
    have SV := ending_v l w1 (by have := check_len HK.out; omega)
    have d1 : (((0 : Nat) : Int) != 0) = false := rfl
    go_wp2_with fail
    refine SV.mono ?_
    rintro e w2 ⟨rfl, b2⟩
    go_wp2_with fail
    go_returns
    exact ⟨by rw [HS.out]; rfl, b1.trans (b2.mono b1.size)⟩
  · have HS := Lib.hid (show endP l = ([], []) by unfold endP; rw [if_neg (by rw [HK.out]; exact h)])
    have d1 : ((k : Int) != 0) = true := by simp; omega
    clear h
    go_wp2_with fail
    go_returns
    exact ⟨by rw [HS.out]; rfl, b1⟩
set_option maxRecDepth 100000 in
theorem within_v (f l : Bl) (w : World) (he : Env w) : Calls Tryd.prog 8 #[.string (st f), .string (st l)] w fun e w' => e = .returned (.bool (withinL f l)) ∧ Below w.heap.size w w' := by
  have CV := check_v l w he
  obtain ⟨k, hk⟩ : ∃ k, checkL l = k := ⟨_, rfl⟩
  have HK := Lib.hid hk
  rw [hk] at CV
  clear hk
  go_enter Tryd.func8, Tryd.ntmps8
  go_wp2_with fail
  refine CV.mono ?_
  rintro e w1 ⟨rfl, b1⟩
  by_cases h : k = 0
  case neg =>
    have HS := Lib.hid (show withinL f l = false by unfold withinL; rw [if_pos (by rw [HK.out]; exact h)])
    have d1 : ((k : Int) != 0) = true := by simp; omega
    clear h
    go_wp2_with fail
    go_ret
    exact ⟨by rw [HS.out]; rfl, b1⟩
  subst h
  have d1 : (((0 : Nat) : Int) != 0) = false := rfl
  have HS := Lib.hid (show withinL f l = (decide (f = []) || (decide (checkL f = 0) && decide (f ++ [47] <+: l))) by unfold withinL; rw [if_neg (by rw [HK.out]; simp)])
  by_cases hf : f = []
  · have d2 : (st f).toList.isEmpty = true := by rw [ByteArray.toList_eq, st_data, hf]; rfl
    have HS2 := Lib.hid (show withinL f l = true by rw [HS.out, decide_eq_true hf]; rfl)
    clear hf
    go_wp2_with fail
    go_ret
    exact ⟨by rw [HS2.out]; rfl, b1⟩
  have d2 : (st f).toList.isEmpty = false := by rw [ByteArray.toList_eq, st_data]; exact List.isEmpty_eq_false_iff.2 hf
  have CV := check_v f w1 (he.below b1)
  obtain ⟨q, hq⟩ : ∃ q, checkL f = q := ⟨_, rfl⟩
  have HQ := Lib.hid hq
  have HF := Lib.hid hf
  rw [hq] at CV
  clear hq hf
  go_wp2_with fail
  refine CV.mono ?_
  rintro e w2 ⟨rfl, b2⟩
  by_cases h : q = 0
  case neg =>
    have HS2 := Lib.hid (show withinL f l = false by rw [HS.out, decide_eq_false HF.out, HQ.out, decide_eq_false h]; rfl)
    have d3 : ((q : Int) == 0) = false := beq_eq_false_iff_ne.2 (by omega)
    clear h
    go_wp2_with fail
    go_ret
    exact ⟨by rw [HS2.out]; rfl, b1.trans (b2.mono b1.size)⟩
  subst h
  have d3 : (((0 : Nat) : Int) == 0) = true := rfl
  have HP := Tryd.strings_HasPrefix (st l) (st (f ++ [47])) w2
  rw [st_data, st_data] at HP
  have e1 : st f ++ (⟨#[47]⟩ : ByteArray) = st (f ++ [47]) := st_app f [47]
  have hz : (st f).size ≤ 64 := by rw [st_size]; exact check_len HQ.out
  have HS2 := Lib.hid (show withinL f l = Lib.hasPrefix l (f ++ [47]) by
    rw [HS.out, decide_eq_false HF.out, HQ.out]
    simp only [decide_true, Bool.true_and, Bool.false_or]
    unfold Lib.hasPrefix
    cases hp : (f ++ [47]).isPrefixOf l with
    | true => exact decide_eq_true (List.isPrefixOf_iff_prefix.1 hp)
    | false => exact decide_eq_false fun hq => by rw [List.isPrefixOf_iff_prefix.2 hq] at hp; cases hp)
  go_wp2_with fail
  refine HP.mono ?_
  rintro e w3 ⟨rfl, rfl⟩
  clear e1
  go_wp2_with fail
  go_ret
  exact ⟨by rw [HS2.out]; rfl, b1.trans (b2.mono b1.size)⟩
set_option maxRecDepth 100000 in
theorem temp_v (l : Bl) (w : World) (he : Env w) : Calls Tryd.prog 15 #[.string (st l)] w fun e w' => e = .returned (.tuple #[.string (st (tempL l).1), .int .i64 ((tempL l).2 : Int)]) ∧ Below w.heap.size w w' := by
  have CV := check_v l w he
  obtain ⟨k, hk⟩ : ∃ k, checkL l = k := ⟨_, rfl⟩
  have HK := Lib.hid hk
  rw [hk] at CV
  clear hk
  go_enter Tryd.func15, Tryd.ntmps15
  go_wp2_with fail
  refine CV.mono ?_
  rintro e w1 ⟨rfl, b1⟩
  by_cases h : k = 0
  · subst h
    have HS := Lib.hid (show tempL l = ([46, 116, 109, 112, 47] ++ l, 0) by unfold tempL; rw [if_neg (by rw [HK.out]; simp)])
    have d1 : (((0 : Nat) : Int) != 0) = false := rfl
    have HA := Lib.hid (st_app [46, 116, 109, 112, 47] l)
    have hz : (st l).size ≤ 64 := by rw [st_size]; exact check_len HK.out
    go_wp2_with fail
    go_returns
    exact ⟨by rw [HS.out, ← HA.out]; rfl, b1⟩
  · have HS := Lib.hid (show tempL l = ([], k) by unfold tempL; rw [if_pos (by rw [HK.out]; exact h), HK.out])
    have d1 : ((k : Int) != 0) = true := by simp; omega
    clear h
    go_wp2_with fail
    go_returns
    exact ⟨by rw [HS.out]; rfl, b1⟩
set_option maxRecDepth 100000 in
theorem temped_v (l : Bl) (w : World) (he : Env w) : Calls Tryd.prog 16 #[.string (st l)] w fun e w' => e = .returned (.tuple #[.string (st ((tempedL l).getD [])), .bool (tempedL l).isSome]) ∧ Below w.heap.size w w' := by
  have PV := Tryd.strings_CutPrefix (st l) (st [46, 116, 109, 112, 47]) w
  rw [st_data, st_data] at PV
  by_cases hp : [46, 116, 109, 112, 47] <+: l
  case neg =>
    have HS := Lib.hid (show tempedL l = none by unfold tempedL; rw [if_neg (fun h => hp h.1)])
    have hq : Lib.hasPrefix l [46, 116, 109, 112, 47] = false := Bool.eq_false_iff.2 fun h => hp (List.isPrefixOf_iff_prefix.1 h)
    rw [hq] at PV
    clear hq
    go_enter Tryd.func16, Tryd.ntmps16
    go_wp2_with fail
    refine PV.mono ?_
    rintro e w1 ⟨rfl, rfl⟩
    go_wp2_with fail
    go_returns
    exact ⟨by rw [HS.out]; rfl, Below.refl _ _⟩
  have hq : Lib.hasPrefix l [46, 116, 109, 112, 47] = true := List.isPrefixOf_iff_prefix.2 hp
  have ht : Lib.trimPrefix l [46, 116, 109, 112, 47] = l.drop 5 := by unfold Lib.trimPrefix; rw [if_pos hq]; rfl
  rw [hq, ht] at PV
  have CV := check_v (l.drop 5) w he
  obtain ⟨k, hk⟩ : ∃ k, checkL (l.drop 5) = k := ⟨_, rfl⟩
  have HK := Lib.hid hk
  have HP := Lib.hid hp
  rw [hk] at CV
  have CV2 := Lib.hid CV
  clear hk hq ht hp CV
  go_enter Tryd.func16, Tryd.ntmps16
  go_wp2_with fail
  refine PV.mono ?_
  rintro e w1 ⟨rfl, rfl⟩
  go_wp2_with fail
  refine CV2.out.mono ?_
  rintro e w2 ⟨rfl, b2⟩
  by_cases h : k = 0
  · subst h
    have HS := Lib.hid (show tempedL l = some (l.drop 5) by unfold tempedL; rw [if_pos ⟨HP.out, HK.out⟩])
    have d1 : (((0 : Nat) : Int) != 0) = false := rfl
    go_wp2_with fail
    go_returns
    exact ⟨by rw [HS.out]; rfl, b2⟩
  · have HS := Lib.hid (show tempedL l = none by unfold tempedL; rw [if_neg (fun e => h (by rw [← HK.out]; exact e.2))])
    have d1 : ((k : Int) != 0) = true := by simp; omega
    clear h
    go_wp2_with fail
    go_returns
    exact ⟨by rw [HS.out]; rfl, b2⟩
end Go.Proofs.YtgidngnlmijhhaaDoor
