/-
  Paths: Copy.
-/
import Derived.Test.YtndekohimfjdeaaDoorPathE
namespace Go.Proofs.YtndekohimfjdeaaDoor
open Go.RowKit
theorem itoa_v (k : Nat) (w : World) (he : Env w) (hk : k ≤ 1000000) : Calls Tryd.prog 63 #[.int .i64 (k : Int)] w fun e w' => e = .returned (.string (st (dec k))) ∧ Below w.heap.size w w' := by
  refine (Tryd.strconv_Itoa (k : Int) (by omega) (by omega) w he.tab).mono ?_
  rintro e w' ⟨rfl, q, os, rfl⟩
  refine ⟨?_, below_gr w q os⟩
  unfold Lib.itoa
  rw [if_neg (by omega), Int.toNat_natCast]
  rfl
theorem str_empty (l : Bl) : (st l).toList.isEmpty = decide (l = []) := by
  rw [ByteArray.toList_eq, st_data]
  cases l <;> rfl
set_option maxRecDepth 100000 in
set_option maxHeartbeats 8000000 in
theorem copy_v (l : Bl) (d n : Int) (w : World) (he : Env w) : Calls Tryd.prog 44 #[.string (st l), .int .i64 d, .int .i64 n] w fun e w' => e = .returned (.tuple #[.string (st (copyL l d n).1), .int .i64 ((copyL l d n).2 : Int)]) ∧ Below w.heap.size w w' := by
  have CV := pcheck_v l w he
  obtain ⟨k, hk⟩ : ∃ k, checkL l = k := ⟨_, rfl⟩
  have HK := Lib.hid hk
  rw [hk] at CV
  clear hk
  have HC := Lib.hid (show copyL l d n = _ from rfl)
  go_enter Tryd.func44, Tryd.ntmps44
  go_wp2_with fail
  refine CV.mono ?_
  rintro e w1 ⟨rfl, b1⟩
  have E1 := Lib.hid (he.below b1)
  have B1 := Lib.hid b1
  clear b1 CV HC
  by_cases h : k = 0
  case neg =>
    have HS := Lib.hid (show copyL l d n = ([], k) by unfold copyL; rw [if_pos (by rw [HK.out]; exact h), HK.out])
    have d1 : ((k : Int) != 0) = true := by simp; omega
    clear h
    go_wp2_with fail
    go_returns
    exact ⟨by rw [HS.out]; rfl, B1.out⟩
  subst h
  have d1 : (((0 : Nat) : Int) != 0) = false := rfl
  have HBD : Hid ((d < 1 ∨ 99 < d ∨ n < 0 ∨ 999 < n) → copyL l d n = ([], 2)) := Lib.hid fun h => by unfold copyL; rw [if_neg (by rw [HK.out]; simp), if_pos h]
  by_cases a1 : d < 1
  · have HS := Lib.hid (HBD.out (.inl a1))
    have f1 : decide (d < 1) = true := decide_eq_true a1
    clear a1
    go_wp2_with fail
    go_returns
    exact ⟨by rw [HS.out]; rfl, B1.out⟩
  by_cases a2 : 99 < d
  · have HS := Lib.hid (HBD.out (.inr (.inl a2)))
    have f1 : decide (d < 1) = false := decide_eq_false a1
    have f2 : decide (99 < d) = true := decide_eq_true a2
    clear a1 a2
    go_wp2_with fail
    go_returns
    exact ⟨by rw [HS.out]; rfl, B1.out⟩
  by_cases a3 : n < 0
  · have HS := Lib.hid (HBD.out (.inr (.inr (.inl a3))))
    have f1 : decide (d < 1) = false := decide_eq_false a1
    have f2 : decide (99 < d) = false := decide_eq_false a2
    have f3 : decide (n < 0) = true := decide_eq_true a3
    clear a1 a2 a3
    go_wp2_with fail
    go_returns
    exact ⟨by rw [HS.out]; rfl, B1.out⟩
  by_cases a4 : 999 < n
  · have HS := Lib.hid (HBD.out (.inr (.inr (.inr a4))))
    have f1 : decide (d < 1) = false := decide_eq_false a1
    have f2 : decide (99 < d) = false := decide_eq_false a2
    have f3 : decide (n < 0) = false := decide_eq_false a3
    have f4 : decide (999 < n) = true := decide_eq_true a4
    clear a1 a2 a3 a4
    go_wp2_with fail
    go_returns
    exact ⟨by rw [HS.out]; rfl, B1.out⟩
  obtain ⟨d', rfl⟩ : ∃ d' : Nat, d = (d' : Int) := ⟨d.toNat, by omega⟩
  obtain ⟨n', rfl⟩ : ∃ n' : Nat, n = (n' : Int) := ⟨n.toNat, by omega⟩
  have HS := Lib.hid (show copyL l (d' : Int) (n' : Int) = if prightL (copyOut l d' n') then (copyOut l d' n', 0) else ([], 3) by
    unfold copyL
    rw [if_neg (by rw [HK.out]; simp), if_neg (by omega), Int.toNat_natCast, Int.toNat_natCast])
  have hd : d' ≤ 99 := by omega
  have hn : n' ≤ 999 := by omega
  have f1 : decide ((d' : Int) < 1) = false := decide_eq_false a1
  have f2 : decide ((99 : Int) < (d' : Int)) = false := decide_eq_false a2
  have f3 : decide ((n' : Int) < 0) = false := decide_eq_false a3
  have f4 : decide ((999 : Int) < (n' : Int)) = false := decide_eq_false a4
  clear a1 a2 a3 a4 HBD
  have hl := check_len HK.out
  have SV := Lib.hid (fun w => split_v l w (by omega))
  have EV := Lib.hid (fun w => ending_v l w (by omega))
  have HL := Lib.hid (show (folderL l).length ≤ 64 ∧ (stemB (baseL l)).length ≤ 64 ∧ (endB (baseL l)).length ≤ 64 by
    have e := congrArg List.length (stem_end (baseL l))
    rw [List.length_append] at e
    by_cases hm : (47 : UInt8) ∈ l
    · have := congrArg List.length ((folder_base l).1 hm)
      simp only [List.length_append, List.length_singleton] at this
      omega
    · obtain ⟨e1, e2⟩ := (folder_base l).2 hm
      rw [e1]
      rw [e2] at e ⊢
      simp only [List.length_nil]
      omega)
  have HO := Lib.hid (show copyOut l d' n' = joinF (folderL l) (stemB (baseL l) ++ markL d' n' ++ endB (baseL l)) from rfl)
  obtain ⟨f, hf⟩ : ∃ x, folderL l = x := ⟨_, rfl⟩
  obtain ⟨s, hs⟩ : ∃ x, stemB (baseL l) = x := ⟨_, rfl⟩
  obtain ⟨y, hy⟩ : ∃ x, endB (baseL l) = x := ⟨_, rfl⟩
  rw [hf, hs, hy] at HL HO
  rw [hf] at SV
  rw [hs, hy] at EV
  clear hf hs hy
  have l1 := dec_len (n := d') (k := 2) (by decide) (by omega)
  have l2 := dec_len (n := n') (k := 3) (by decide) (by omega)
  have HT := Lib.hid (show s ++ markL d' n' ++ y = s ++ [46, 99] ++ dec d' ++ [45] ++ dec n' ++ y by simp [markL])
  rw [HT.out] at HO
  obtain ⟨z, hz⟩ : ∃ x, s ++ [46, 99] ++ dec d' ++ [45] ++ dec n' ++ y = x := ⟨_, rfl⟩
  have hzl : (st z).size ≤ 1000 := by rw [st_size, ← hz]; simp only [List.length_append, List.length_cons, List.length_nil]; have := HL.out; omega
  have z0 : (st s).size ≤ 1000 := by rw [st_size]; have := HL.out; omega
  have z1 : (st (s ++ [46, 99])).size ≤ 1000 := by rw [st_size]; simp only [List.length_append, List.length_cons, List.length_nil]; have := HL.out; omega
  have z2 : (st (s ++ [46, 99] ++ dec d')).size ≤ 1000 := by rw [st_size]; simp only [List.length_append, List.length_cons, List.length_nil]; have := HL.out; omega
  have z3 : (st (s ++ [46, 99] ++ dec d' ++ [45])).size ≤ 1000 := by rw [st_size]; simp only [List.length_append, List.length_cons, List.length_nil]; have := HL.out; omega
  have z4 : (st (s ++ [46, 99] ++ dec d' ++ [45] ++ dec n')).size ≤ 1000 := by rw [st_size]; simp only [List.length_append, List.length_cons, List.length_nil]; have := HL.out; omega
  have y0 : (st y).size ≤ 1000 := by rw [st_size]; have := HL.out; omega
  have y1 : (st (dec d')).size ≤ 1000 := by rw [st_size]; omega
  have y2 : (st (dec n')).size ≤ 1000 := by rw [st_size]; omega
  have e1 : st s ++ (⟨#[46, 99]⟩ : ByteArray) = st (s ++ [46, 99]) := st_app s [46, 99]
  have e2 : st (s ++ [46, 99]) ++ st (dec d') = st (s ++ [46, 99] ++ dec d') := st_app _ _
  have e3 : st (s ++ [46, 99] ++ dec d') ++ (⟨#[45]⟩ : ByteArray) = st (s ++ [46, 99] ++ dec d' ++ [45]) := st_app _ [45]
  have e4 : st (s ++ [46, 99] ++ dec d' ++ [45]) ++ st (dec n') = st (s ++ [46, 99] ++ dec d' ++ [45] ++ dec n') := st_app _ _
  have e5 : st (s ++ [46, 99] ++ dec d' ++ [45] ++ dec n') ++ st y = st z := by rw [st_app, hz]
  rw [hz] at HO
  have HLE := Lib.hid (And.intro l1 l2)
  clear hz HT l1 l2
  generalize s ++ [46, 99] ++ dec d' ++ [45] ++ dec n' = s4 at *
  generalize s ++ [46, 99] ++ dec d' ++ [45] = s3 at *
  generalize s ++ [46, 99] ++ dec d' = s2 at *
  generalize s ++ [46, 99] = s1 at *
  have I1 := Lib.hid (fun w hw => itoa_v d' w hw (by omega))
  have I2 := Lib.hid (fun w hw => itoa_v n' w hw (by omega))
  generalize dec d' = dd at *
  generalize dec n' = dn at *
  go_wp2_with fail
  refine (SV.out w1).mono ?_
  rintro e w2 ⟨rfl, b2⟩
  have B2 := Lib.hid (B1.out.trans (b2.mono B1.out.size))
  have E2 := Lib.hid (E1.out.below b2)
  clear b2 B1 E1
  go_wp2_with fail
  refine (EV.out w2).mono ?_
  rintro e w3 ⟨rfl, b3⟩
  have B3 := Lib.hid (B2.out.trans (b3.mono B2.out.size))
  have E3 := Lib.hid (E2.out.below b3)
  clear b3 B2 E2
  go_wp2_with fail
  refine (I1.out w3 E3.out).mono ?_
  rintro e w4 ⟨rfl, b4⟩
  have B4 := Lib.hid (B3.out.trans (b4.mono B3.out.size))
  have E4 := Lib.hid (E3.out.below b4)
  clear b4 B3 E3
  go_wp2_with fail
  refine (I2.out w4 E4.out).mono ?_
  rintro e w5 ⟨rfl, b5⟩
  have B5 := Lib.hid (B4.out.trans (b5.mono B4.out.size))
  have E5 := Lib.hid (E4.out.below b5)
  clear b5 B4 E4
  have FIN : ∀ (o : Bl), copyOut l d' n' = o → o.length ≤ 2000 → ∀ (w : World), Env w → Calls Tryd.prog 64 #[.string (st o)] w fun e w' => e = .returned (.bool (prightL o)) ∧ Below w.heap.size w w' := fun o _ ho w hw => pright_v o w hw (by omega)
  have HF2 := Lib.hid FIN
  clear FIN
  by_cases hfe : f = []
  · have q0 : (st f).toList.isEmpty = true := by rw [str_empty]; exact decide_eq_true hfe
    have HO2 := Lib.hid (show copyOut l d' n' = z by rw [HO.out]; unfold joinF; rw [if_pos hfe])
    have RV := HF2.out z HO2.out (by rw [← st_size]; omega) w5 E5.out
    obtain ⟨b, hb⟩ : ∃ b, prightL z = b := ⟨_, rfl⟩
    rw [hb] at RV
    have HS2 := Lib.hid (show copyL l (d' : Int) (n' : Int) = if b then (z, 0) else ([], 3) by rw [HS.out, HO2.out, hb])
    clear hb hfe
    go_wp2_with fail
    refine RV.mono ?_
    rintro e w6 ⟨rfl, b6⟩
    have B6 := Lib.hid (B5.out.trans (b6.mono B5.out.size))
    clear b6 RV
    cases b with
    | false =>
      go_wp2_with fail
      go_returns
      exact ⟨by rw [HS2.out]; rfl, B6.out⟩
    | true =>
      go_wp2_with fail
      go_returns
      exact ⟨by rw [HS2.out]; rfl, B6.out⟩
  · have q0 : (st f).toList.isEmpty = false := by rw [str_empty]; exact decide_eq_false hfe
    have g1 : st f ++ (⟨#[47]⟩ : ByteArray) = st (f ++ [47]) := st_app f [47]
    have g2 : st (f ++ [47]) ++ st z = st (f ++ [47] ++ z) := st_app _ _
    have u0 : (st f).size ≤ 1000 := by rw [st_size]; have := HL.out; omega
    have u1 : (st (f ++ [47])).size ≤ 1000 := by rw [st_size]; simp only [List.length_append, List.length_cons, List.length_nil]; have := HL.out; omega
    have HO2 := Lib.hid (show copyOut l d' n' = f ++ [47] ++ z by rw [HO.out]; unfold joinF; rw [if_neg hfe])
    have RV := HF2.out (f ++ [47] ++ z) HO2.out (by have := HL.out; have := st_size z; simp only [List.length_append, List.length_cons, List.length_nil]; omega) w5 E5.out
    obtain ⟨b, hb⟩ : ∃ b, prightL (f ++ [47] ++ z) = b := ⟨_, rfl⟩
    rw [hb] at RV
    have HS2 := Lib.hid (show copyL l (d' : Int) (n' : Int) = if b then (f ++ [47] ++ z, 0) else ([], 3) by rw [HS.out, HO2.out, hb])
    clear hb hfe
    generalize f ++ [47] ++ z = o at *
    go_wp2_with fail
    refine RV.mono ?_
    rintro e w6 ⟨rfl, b6⟩
    have B6 := Lib.hid (B5.out.trans (b6.mono B5.out.size))
    clear b6 RV
    cases b with
    | false =>
      go_wp2_with fail
      go_returns
      exact ⟨by rw [HS2.out]; rfl, B6.out⟩
    | true =>
      go_wp2_with fail
      go_returns
      exact ⟨by rw [HS2.out]; rfl, B6.out⟩
end Go.Proofs.YtndekohimfjdeaaDoor
