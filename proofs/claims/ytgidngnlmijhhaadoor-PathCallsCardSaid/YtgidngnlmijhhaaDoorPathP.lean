/-
  Paths, the reference: Split, Ending, Within, Temp, Temped, joined.
-/
import Derived.Test.YtgidngnlmijhhaaDoorPathO
namespace Go.Proofs.YtgidngnlmijhhaaDoor
open Go.RowKit
theorem last_cases (c : UInt8) (l : Bl) : (lastN c l = -1 ∧ cutL c l = none) ∨ ∃ i : Nat, i < l.length ∧ lastN c l = (i : Int) ∧ cutL c l = some (l.take i, l.drop (i + 1)) := by
  cases h : cutL c l with
  | none => exact .inl ⟨by unfold lastN; rw [h], rfl⟩
  | some p =>
    obtain ⟨a, b⟩ := p
    obtain ⟨e, hb⟩ := cutL_some.1 h
    refine .inr ⟨a.length, by rw [e]; simp, by unfold lastN; rw [h], ?_⟩
    rw [e]
    simp
set_option maxRecDepth 100000 in
theorem rsplit_v (l : Bl) (w : World) : Calls Tryd.prog 17 #[.string (st l)] w fun e w' => e = .returned (.tuple #[.string (st (splitP l).1), .string (st (splitP l).2)]) ∧ Below w.heap.size w w' := by
  have CV := rcheck_v l w
  obtain ⟨k, hk⟩ : ∃ k, checkL l = k := ⟨_, rfl⟩
  have HK := Lib.hid hk
  rw [hk] at CV
  clear hk
  go_enter Tryd.func17, Tryd.ntmps17
  go_wp2_with fail
  refine CV.mono ?_
  rintro e w1 ⟨rfl, b1⟩
  by_cases h : k = 0
  case neg =>
    have HS := Lib.hid (show splitP l = ([], []) by unfold splitP; rw [if_neg (by rw [HK.out]; exact h)])
    have d1 : ((k : Int) != 0) = true := by simp; omega
    clear h
    go_wp2_with fail
    go_returns
    exact ⟨by rw [HS.out]; rfl, b1⟩
  subst h
  have hl := check_len HK.out
  have d1 : (((0 : Nat) : Int) != 0) = false := rfl
  have LV := rlast_v l 47 w1 (by omega)
  rcases last_cases 47 l with ⟨h1, h2⟩ | ⟨i, hi, h1, h2⟩
  · have HS := Lib.hid (show splitP l = ([], l) by unfold splitP; rw [if_pos HK.out]; unfold folderL baseL; rw [h2])
    rw [h1] at LV
    clear h1 h2
    go_wp2_with fail
    refine LV.mono ?_
    rintro e _ ⟨rfl, rfl⟩
    go_wp2_with fail
    go_returns
    exact ⟨by rw [HS.out]; rfl, b1⟩
  · have HS := Lib.hid (show splitP l = (l.take i, l.drop (i + 1)) by unfold splitP; rw [if_pos HK.out]; unfold folderL baseL; rw [h2])
    rw [h1] at LV
    have hz := st_size l
    have i0 : (0 : Int) ≤ (i : Int) := by omega
    have i00 : decide ((i : Int) < 0) = false := decide_eq_false (by omega)
    have i1 : (i : Int) ≤ (st l).size := by omega
    have i2 : (i : Int) + 1 ≤ (st l).size := by omega
    have i3 : IntKind.i64.wrap ((i : Int) + 1) = (i : Int) + 1 := IntWalk.i64_in _ ⟨by omega, by omega⟩
    have i4 : (0 : Int) ≤ (i : Int) + 1 := by omega
    have i5 : ((i : Int) + 1).toNat = i + 1 := by omega
    have HT := Lib.hid (st_take l i)
    have HD := Lib.hid (st_drop l (i + 1))
    clear h1 h2 hz
    go_wp2_with fail
    refine LV.mono ?_
    rintro e _ ⟨rfl, rfl⟩
    go_upto_region 6 with fail
    go_quiet (fail)
    go_wp2_with fail
    go_returns
    exact ⟨by rw [HS.out, ← HT.out, ← HD.out]; rfl, below_drewN b1 _⟩
theorem endP_nil {l : Bl} (h : splitP l = ([], [])) : endP l = ([], []) := by
  unfold splitP at h
  unfold endP
  by_cases hc : checkL l = 0
  · rw [if_pos hc] at h
    injection h with _ h2
    rw [if_pos hc, h2]
    rfl
  · rw [if_neg hc]
theorem endP_of (l : Bl) : endP l = (stemB (splitP l).2, endB (splitP l).2) := by
  unfold endP splitP
  by_cases hc : checkL l = 0
  · rw [if_pos hc, if_pos hc]
  · rw [if_neg hc, if_neg hc]
    rfl
theorem splitP_len (l : Bl) : (splitP l).2.length ≤ 64 := by
  unfold splitP
  by_cases hc : checkL l = 0
  · rw [if_pos hc]
    have := (base_len l).2.1
    have := check_len hc
    show (baseL l).length ≤ 64
    omega
  · rw [if_neg hc]
    simp
set_option maxRecDepth 100000 in
theorem rend_v (l : Bl) (w : World) : Calls Tryd.prog 18 #[.string (st l)] w fun e w' => e = .returned (.tuple #[.string (st (endP l).1), .string (st (endP l).2)]) ∧ Below w.heap.size w w' := by
  have SV := rsplit_v l w
  have HE := Lib.hid (endP_of l)
  have hbl := splitP_len l
  obtain ⟨q, hq⟩ : ∃ q, splitP l = q := ⟨_, rfl⟩
  rw [hq] at SV HE hbl
  clear hq
  obtain ⟨f, b⟩ := q
  simp only at SV HE hbl
  have LV := Lib.hid (fun w => rlast_v b 46 w (by omega))
  have hz := st_size b
  rcases last_cases 46 b with ⟨h1, h2⟩ | ⟨i, hi, h1, h2⟩
  · have HF := Lib.hid (show stemB b = b ∧ endB b = [] by unfold stemB endB; rw [h2]; exact ⟨rfl, rfl⟩)
    rw [h1] at LV
    clear h1 h2 hz
    go_enter Tryd.func18, Tryd.ntmps18
    go_wp2_with fail
    refine SV.mono ?_
    rintro e w1 ⟨rfl, b1⟩
    go_wp2_with fail
    refine (LV.out w1).mono ?_
    rintro e _ ⟨rfl, rfl⟩
    go_wp2_with fail
    go_returns
    exact ⟨by rw [HE.out, HF.out.1, HF.out.2]; rfl, b1⟩
  · have HF := Lib.hid (show stemB b = b.take i ∧ endB b = b.drop i by
      have e := cutL_some.1 h2
      unfold stemB endB
      rw [h2]
      refine ⟨rfl, ?_⟩
      exact ((congrArg (List.drop i) e.1).trans (List.drop_left' (by rw [List.length_take]; omega))).symm)
    rw [h1] at LV
    have i0 : (0 : Int) ≤ (i : Int) := by omega
    have i00 : decide ((i : Int) < 0) = false := decide_eq_false (by omega)
    have i1 : (i : Int) ≤ (st b).size := by omega
    have HT := Lib.hid (st_take b i)
    have HD := Lib.hid (st_drop b i)
    clear h1 h2 hz
    go_enter Tryd.func18, Tryd.ntmps18
    go_wp2_with fail
    refine SV.mono ?_
    rintro e w1 ⟨rfl, b1⟩
    go_wp2_with fail
    refine (LV.out w1).mono ?_
    rintro e _ ⟨rfl, rfl⟩
    go_upto_region 5 with fail
    go_quiet (fail)
    go_wp2_with fail
    go_returns
    exact ⟨by rw [HE.out, HF.out.1, HF.out.2, ← HT.out, ← HD.out]; rfl, below_drewN b1 _⟩
theorem within_rest {f l : Bl} (hl : checkL l = 0) (hf : f ≠ []) (hq : checkL f = 0) : withinL f l = decide (f ++ [47] <+: l) := by
  unfold withinL
  rw [if_neg (by rw [hl]; simp), decide_eq_false hf, hq]
  rfl
theorem pre_iff {f l : Bl} (h : f.length < l.length) (x : UInt8) (hx : l[f.length]? = some x) : f ++ [47] <+: l ↔ l.take f.length = f ∧ x = 47 := by
  constructor
  · rintro ⟨t, rfl⟩
    rw [List.append_assoc, List.singleton_append] at hx ⊢
    refine ⟨List.take_left, ?_⟩
    rw [List.getElem?_append_right (Nat.le_refl _), Nat.sub_self] at hx
    simpa using hx.symm
  · rintro ⟨h1, rfl⟩
    refine ⟨l.drop (f.length + 1), ?_⟩
    obtain ⟨hl, e⟩ := List.getElem?_eq_some_iff.1 hx
    have h5 := List.drop_eq_getElem_cons hl
    rw [e] at h5
    rw [List.append_assoc, List.singleton_append, ← h5]
    conv => lhs; lhs; rw [← h1]
    rw [List.take_append_drop]
set_option maxRecDepth 100000 in
set_option maxHeartbeats 2000000 in
theorem rwithin_v (f l : Bl) (w : World) : Calls Tryd.prog 25 #[.string (st f), .string (st l)] w fun e w' => e = .returned (.bool (withinL f l)) ∧ Below w.heap.size w w' := by
  have CV := rcheck_v l w
  obtain ⟨k, hk⟩ : ∃ k, checkL l = k := ⟨_, rfl⟩
  have HK := Lib.hid hk
  rw [hk] at CV
  clear hk
  go_enter Tryd.func25, Tryd.ntmps25
  go_wp2_with fail
  refine CV.mono ?_
  rintro e w1 ⟨rfl, b1⟩
  by_cases h : k = 0
  case neg =>
    have HS := Lib.hid (show withinL f l = false by unfold withinL; rw [if_pos (by rw [HK.out]; exact h)])
    have d1 : ((k : Int) != 0) = true := by simp; omega
    clear h
    go_wp2_with fail
    go_ret
    exact ⟨by rw [HS.out]; rfl, b1⟩
  subst h
  have d1 : (((0 : Nat) : Int) != 0) = false := rfl
  by_cases hf : f = []
  · have d2 : (st f).toList.isEmpty = true := by rw [ByteArray.toList_eq, st_data, hf]; rfl
    have HS2 := Lib.hid (show withinL f l = true by rw [hf, within_nil]; exact decide_eq_true HK.out)
    clear hf
    go_wp2_with fail
    go_ret
    exact ⟨by rw [HS2.out]; rfl, b1⟩
  have d2 : (st f).toList.isEmpty = false := by rw [ByteArray.toList_eq, st_data]; exact List.isEmpty_eq_false_iff.2 hf
  have CV := rcheck_v f w1
  obtain ⟨q, hq⟩ : ∃ q, checkL f = q := ⟨_, rfl⟩
  have HQ := Lib.hid hq
  have HF := Lib.hid hf
  rw [hq] at CV
  clear hq hf
  by_cases h : q = 0
  case neg =>
    have HS2 := Lib.hid (show withinL f l = false by
      unfold withinL
      rw [if_neg (by rw [HK.out]; simp), decide_eq_false HF.out, HQ.out, decide_eq_false h]
      rfl)
    have d3 : ((q : Int) == 0) = false := beq_eq_false_iff_ne.2 (by omega)
    clear h
    go_wp2_with fail
    refine CV.mono ?_
    rintro e w2 ⟨rfl, b2⟩
    go_wp2_with fail
    go_ret
    exact ⟨by rw [HS2.out]; rfl, b1.trans (b2.mono b1.size)⟩
  subst h
  have d3 : (((0 : Nat) : Int) == 0) = true := rfl
  have HW := Lib.hid (within_rest HK.out HF.out HQ.out)
  have zf := st_size f
  have zl := st_size l
  have hl64 := check_len HK.out
  have hf64 := check_len HQ.out
  by_cases hlt : f.length < l.length
  case neg =>
    have HS2 := Lib.hid (show withinL f l = false by rw [HW.out]; exact decide_eq_false fun h => by have := h.length_le; simp at this; omega)
    have d4 : decide (((st f).size : Int) < ((st l).size : Int)) = false := decide_eq_false (by omega)
    have d4b : decide ((st f).size < (st l).size) = false := decide_eq_false (by omega)
    clear hlt zf zl
    go_wp2_with fail
    refine CV.mono ?_
    rintro e w2 ⟨rfl, b2⟩
    go_wp2_with fail
    go_ret
    exact ⟨by rw [HS2.out]; rfl, b1.trans (b2.mono b1.size)⟩
  have d4 : decide (((st f).size : Int) < ((st l).size : Int)) = true := decide_eq_true (by omega)
  have d4b : decide ((st f).size < (st l).size) = true := decide_eq_true (by omega)
  obtain ⟨x, hx⟩ : ∃ x, l[f.length]? = some x := ⟨_, List.getElem?_eq_getElem hlt⟩
  have HP := Lib.hid (pre_iff hlt x hx)
  have x0 := st_index l f.length x hx
  rw [← st_size f] at x0
  have e1 : (st l).extract 0 (st f).size = st (l.take f.length) := by rw [st_size f]; exact st_take l f.length
  have g0 : (0 : Int) ≤ ((st f).size : Int) := by omega
  have g1 : ((st f).size : Int) ≤ ((st l).size : Int) := by omega
  clear hx hlt zf zl
  by_cases ht : l.take f.length = f
  case neg =>
    have HS2 := Lib.hid (show withinL f l = false by rw [HW.out]; exact decide_eq_false fun h => ht (HP.out.1 h).1)
    have d5 : ((st (l.take f.length)).toList == (st f).toList) = false := by rw [st_beq]; exact decide_eq_false ht
    clear ht
    generalize l.take f.length = y at *
    go_wp2_with fail
    refine CV.mono ?_
    rintro e w2 ⟨rfl, b2⟩
    go_wp2_with fail
    go_ret
    exact ⟨by rw [HS2.out]; rfl, b1.trans (b2.mono b1.size)⟩
  have d5 : ((st (l.take f.length)).toList == (st f).toList) = true := by rw [st_beq]; exact decide_eq_true ht
  have HT := Lib.hid ht
  clear ht
  by_cases hc : x = 47
  · have d6 : ((x.toNat : Int) == 47) = true := by rw [hc]; rfl
    have HS2 := Lib.hid (show withinL f l = true by rw [HW.out]; exact decide_eq_true (HP.out.2 ⟨HT.out, hc⟩))
    clear hc
    generalize l.take f.length = y at *
    go_wp2_with fail
    refine CV.mono ?_
    rintro e w2 ⟨rfl, b2⟩
    go_wp2_with fail
    go_ret
    exact ⟨by rw [HS2.out]; rfl, b1.trans (b2.mono b1.size)⟩
  · have d6 : ((x.toNat : Int) == 47) = false := beq_eq_false_iff_ne.2 fun e => hc (UInt8.toNat_inj.1 (by
      have : (47 : UInt8).toNat = 47 := rfl
      omega))
    have HS2 := Lib.hid (show withinL f l = false by rw [HW.out]; exact decide_eq_false fun h => hc (HP.out.1 h).2)
    clear hc
    generalize l.take f.length = y at *
    go_wp2_with fail
    refine CV.mono ?_
    rintro e w2 ⟨rfl, b2⟩
    go_wp2_with fail
    go_ret
    exact ⟨by rw [HS2.out]; rfl, b1.trans (b2.mono b1.size)⟩
set_option maxRecDepth 100000 in
theorem rtemp_v (l : Bl) (w : World) : Calls Tryd.prog 21 #[.string (st l)] w fun e w' => e = .returned (.tuple #[.string (st (tempL l).1), .int .i64 ((tempL l).2 : Int)]) ∧ Below w.heap.size w w' := by
  have CV := rcheck_v l w
  obtain ⟨k, hk⟩ : ∃ k, checkL l = k := ⟨_, rfl⟩
  have HK := Lib.hid hk
  rw [hk] at CV
  clear hk
  go_enter Tryd.func21, Tryd.ntmps21
  go_wp2_with fail
  refine CV.mono ?_
  rintro e w1 ⟨rfl, b1⟩
  by_cases h : k = 0
  · subst h
    have HS := Lib.hid (show tempL l = ([46, 116, 109, 112, 47] ++ l, 0) by unfold tempL; rw [if_neg (by rw [HK.out]; simp)])
    have d1 : (((0 : Nat) : Int) != 0) = false := rfl
    have HA := Lib.hid (st_app [46, 116, 109, 112, 47] l)
    have hz : (st l).size ≤ 64 := by rw [st_size]; exact check_len HK.out
    go_wp2_with fail
    go_returns
    exact ⟨by rw [HS.out, ← HA.out]; rfl, b1⟩
  · have HS := Lib.hid (show tempL l = ([], k) by unfold tempL; rw [if_pos (by rw [HK.out]; exact h), HK.out])
    have d1 : ((k : Int) != 0) = true := by simp; omega
    clear h
    go_wp2_with fail
    go_returns
    exact ⟨by rw [HS.out]; rfl, b1⟩
set_option maxRecDepth 100000 in
theorem rjoined_v (f b : Bl) (w : World) (hf : f.length ≤ 1000) (hb : b.length ≤ 1000) : Calls Tryd.prog 35 #[.string (st f), .string (st b)] w fun e w' => e = .returned (.string (st (joinF f b))) ∧ w = w' := by
  have z1 : (st f).size ≤ 1000 := by rw [st_size]; exact hf
  have z2 : (st b).size ≤ 1000 := by rw [st_size]; exact hb
  by_cases h : f = []
  · have d2 : (st f).toList.isEmpty = true := by rw [str_empty]; exact decide_eq_true h
    have HS := Lib.hid (show joinF f b = b by unfold joinF; rw [if_pos h])
    clear h
    go_enter Tryd.func35, Tryd.ntmps35
    go_wp2_with fail
    go_ret
    exact ⟨by rw [HS.out]; rfl, rfl⟩
  · have d2 : (st f).toList.isEmpty = false := by rw [str_empty]; exact decide_eq_false h
    have HS := Lib.hid (show joinF f b = f ++ [47] ++ b by unfold joinF; rw [if_neg h])
    have e1 : st f ++ (⟨#[47]⟩ : ByteArray) = st (f ++ [47]) := st_app f [47]
    have e2 : st (f ++ [47]) ++ st b = st (f ++ [47] ++ b) := st_app _ _
    have z3 : (st (f ++ [47])).size ≤ 1001 := by rw [st_size]; simp; omega
    clear h
    go_enter Tryd.func35, Tryd.ntmps35
    go_wp2_with fail
    go_ret
    exact ⟨by rw [HS.out, List.append_assoc]; rfl, rfl⟩
end Go.Proofs.YtgidngnlmijhhaaDoor
