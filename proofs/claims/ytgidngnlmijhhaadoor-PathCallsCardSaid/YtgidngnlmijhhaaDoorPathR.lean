/-
  Paths, the reference: Temped, number, Copy.
-/
import Derived.Test.YtgidngnlmijhhaaDoorPathQ
namespace Go.Proofs.YtgidngnlmijhhaaDoor
open Go.RowKit
theorem pre_take {p l : Bl} : p <+: l ↔ l.take p.length = p := by
  constructor
  · rintro ⟨t, rfl⟩
    exact List.take_left
  · intro h
    exact ⟨l.drop p.length, by conv => lhs; lhs; rw [← h]
                               rw [List.take_append_drop]⟩
set_option maxRecDepth 100000 in
set_option maxHeartbeats 2000000 in
theorem rtemped_v (l : Bl) (w : World) : Calls Tryd.prog 22 #[.string (st l)] w fun e w' => e = .returned (.tuple #[.string (st ((tempedL l).getD [])), .bool (tempedL l).isSome]) ∧ Below w.heap.size w w' := by
  have hz := st_size l
  by_cases h5 : l.length ≤ 5
  · have HS := Lib.hid (show tempedL l = none by
      unfold tempedL
      rw [if_neg]
      rintro ⟨_, h⟩
      rw [List.drop_eq_nil_of_le h5] at h
      revert h
      decide)
    have d1 : decide (((st l).size : Int) ≤ 5) = true := decide_eq_true (by omega)
    clear h5 hz
    go_enter Tryd.func22, Tryd.ntmps22
    go_wp2_with fail
    go_returns
    exact ⟨by rw [HS.out]; rfl, Below.refl _ _⟩
  have d1 : decide (((st l).size : Int) ≤ 5) = false := decide_eq_false (by omega)
  have z5 : (5 : Int) ≤ ((st l).size : Int) := by omega
  have e1 : (st l).extract 0 5 = st (l.take 5) := st_take l 5
  have e2 : (st l).extract 5 (st l).size = st (l.drop 5) := st_drop l 5
  have CV := rcheck_v (l.drop 5) w
  obtain ⟨k, hk⟩ : ∃ k, checkL (l.drop 5) = k := ⟨_, rfl⟩
  have HK := Lib.hid hk
  rw [hk] at CV
  clear hk hz h5
  by_cases hp : l.take 5 = [46, 116, 109, 112, 47]
  case neg =>
    have HS := Lib.hid (show tempedL l = none by
      unfold tempedL
      rw [if_neg]
      rintro ⟨h, _⟩
      exact hp (pre_take.1 h))
    have c0 : ((st (l.take 5)).toList == ([46, 116, 109, 112, 47] : List UInt8)) = false := by rw [ByteArray.toList_eq, st_data]; exact beq_eq_false_iff_ne.2 hp
    have c1 : ((st (l.take 5)).toList != ([46, 116, 109, 112, 47] : List UInt8)) = true := by unfold bne; rw [c0]; rfl
    clear hp CV
    generalize l.take 5 = y at *
    go_enter Tryd.func22, Tryd.ntmps22
    go_wp2_with fail
    go_returns
    exact ⟨by rw [HS.out]; rfl, Below.refl _ _⟩
  have HP := Lib.hid hp
  have c0 : ((st (l.take 5)).toList == ([46, 116, 109, 112, 47] : List UInt8)) = true := by rw [ByteArray.toList_eq, st_data]; exact beq_iff_eq.2 hp
  have c1 : ((st (l.take 5)).toList != ([46, 116, 109, 112, 47] : List UInt8)) = false := by unfold bne; rw [c0]; rfl
  clear hp
  have HY := Lib.hid (show tempedL l = if k = 0 then some (l.drop 5) else none by
    unfold tempedL
    have h1 := pre_take (p := [46, 116, 109, 112, 47]).2 HP.out
    by_cases hk : k = 0
    · rw [if_pos hk, if_pos ⟨h1, HK.out.trans hk⟩]
    · rw [if_neg hk, if_neg fun h => hk (HK.out.symm.trans h.2)])
  generalize l.take 5 = y at *
  generalize l.drop 5 = u at *
  by_cases h : k = 0
  · subst h
    have d2 : (((0 : Nat) : Int) != 0) = false := rfl
    go_enter Tryd.func22, Tryd.ntmps22
    go_wp2_with fail
    refine CV.mono ?_
    rintro e w2 ⟨rfl, b2⟩
    go_wp2_with fail
    go_returns
    exact ⟨by rw [HY.out]; rfl, b2⟩
  · have d2 : ((k : Int) != 0) = true := by simp; omega
    have HS := Lib.hid (show tempedL l = none by rw [HY.out, if_neg h])
    clear h
    go_enter Tryd.func22, Tryd.ntmps22
    go_wp2_with fail
    refine CV.mono ?_
    rintro e w2 ⟨rfl, b2⟩
    go_wp2_with fail
    go_returns
    exact ⟨by rw [HS.out]; rfl, b2⟩
/-! ### Numbers -/
theorem fold_lt : ∀ (l : Bl) (a : Nat), (∀ x ∈ l, dig x = true) → l.foldl (fun a c => a * 10 + (c.toNat - 48)) a < (a + 1) * 10 ^ l.length
  | [], a, _ => by simp
  | c :: l, a, h => by
    have h2 := dig_iff.1 (h c List.mem_cons_self)
    have h1 := fold_lt l (a * 10 + (c.toNat - 48)) fun x hx => h x (List.mem_cons_of_mem _ hx)
    rw [List.foldl_cons, List.length_cons, Nat.pow_succ]
    refine Nat.lt_of_lt_of_le h1 ?_
    rw [Nat.mul_comm (10 ^ l.length) 10, ← Nat.mul_assoc]
    exact Nat.mul_le_mul_right _ (by omega)
theorem numB_lt {l : Bl} (h : ∀ x ∈ l, dig x = true) : numB l < 10 ^ l.length := by
  have := fold_lt l 0 h
  rwa [Nat.zero_add, Nat.one_mul] at this
def numR (s : Bl) : Nat × Bool := if ∀ x ∈ s, dig x = true then (numB s, decide (s.length = 1) || decide (s.head? ≠ some 48)) else (0, false)
set_option maxRecDepth 100000 in
set_option maxHeartbeats 2000000 in
theorem rnumber_v (s : Bl) (w : World) (h0 : 1 ≤ s.length) (h3 : s.length ≤ 3) : Calls Tryd.prog 37 #[.string (st s)] w fun e w' => e = .returned (.tuple #[.int .i64 ((numR s).1 : Int), .bool (numR s).2]) ∧ Below w.heap.size w w' := by
  obtain ⟨n, hn⟩ : ∃ n, (st s).size = n := ⟨_, rfl⟩
  have HN := Lib.hid (show s.length = n by rw [← hn, st_size])
  have hsz : ((st s).size : Int) = (n : Int) := by rw [hn]
  clear hn
  rw [HN.out] at h0 h3
  go_enter Tryd.func37, Tryd.ntmps37
  go_wp2_with fail
  go_loopw [4, 5] (fun v i wr => ∃ k a : Nat, k ≤ n ∧ i = .int .i64 (k : Int) ∧ v = .int .i64 (a : Int) ∧ a = numB (s.take k) ∧ (∀ x ∈ s.take k, dig x = true) ∧ w = wr) (fun _ i _ => n - (intOf i).toNat)
  case atStart => exact ⟨0, 0, Nat.zero_le _, rfl, rfl, rfl, by simp, rfl⟩
  case round =>
    obtain ⟨k, a, hk, rfl, rfl, ha, hall, rfl⟩ := hrel
    have HA := Lib.hid hall
    have HV := Lib.hid ha
    have ha9 : a < 10 ^ k := by
      have h1 := numB_lt hall
      rw [← ha, List.length_take] at h1
      exact Nat.lt_of_lt_of_le h1 (Nat.pow_le_pow_right (by decide) (by omega))
    clear hall ha
    by_cases hlt : k < n
    · have ha2 : a < 100 := Nat.lt_of_lt_of_le ha9 (Nat.pow_le_pow_right (n := 10) (by decide) (show k ≤ 2 by omega))
      obtain ⟨c, hc⟩ : ∃ c, s[k]? = some c := ⟨_, List.getElem?_eq_getElem (by rw [HN.out]; exact hlt)⟩
      have HX := Lib.hid hc
      have x0 := st_index s k c hc
      have c0 : decide ((k : Int) < (n : Int)) = true := decide_eq_true (by omega)
      clear hc ha9
      cases hd : dig c with
      | false =>
        have HD := Lib.hid (show numR s = (0, false) by
          unfold numR
          rw [if_neg fun h => by rw [h c (List.mem_of_getElem? HX.out)] at hd; cases hd])
        have hcn : c.toNat < 48 ∨ (48 ≤ c.toNat ∧ 57 < c.toNat) := by
          have h2 : ¬ (48 ≤ c.toNat ∧ c.toNat ≤ 57) := fun h => by rw [dig_iff.2 h] at hd; cases hd
          omega
        clear hd
        rcases hcn with h2 | ⟨h2, h4⟩
        · have d1 : decide ((c.toNat : Int) < 48) = true := decide_eq_true (by omega)
          go_wp2_with fail
          go_returns
          exact ⟨by rw [HD.out]; rfl, Below.refl _ _⟩
        · have d1 : decide ((c.toNat : Int) < 48) = false := decide_eq_false (by omega)
          have d2 : decide ((57 : Int) < (c.toNat : Int)) = true := decide_eq_true (by omega)
          go_wp2_with fail
          go_returns
          exact ⟨by rw [HD.out]; rfl, Below.refl _ _⟩
      | true =>
        have hcr := dig_iff.1 hd
        have d1 : decide ((c.toNat : Int) < 48) = false := decide_eq_false (by omega)
        have d2 : decide ((57 : Int) < (c.toNat : Int)) = false := decide_eq_false (by omega)
        obtain ⟨m, hm⟩ : ∃ m, c.toNat - 48 = m := ⟨_, rfl⟩
        have e1 : (c.toNat : Int) - 48 = (m : Int) := by omega
        have e2 : IntKind.u8.wrap (m : Int) = (m : Int) := IntWalk.u8_in _ ⟨by omega, by omega⟩
        have e5 : IntKind.i64.wrap (m : Int) = (m : Int) := IntWalk.i64_in _ ⟨by omega, by omega⟩
        have e3 : IntKind.i64.wrap ((a : Int) * 10) = (a : Int) * 10 := IntWalk.i64_in _ ⟨by omega, by omega⟩
        have e4 : IntKind.i64.wrap ((a : Int) * 10 + (m : Int)) = ((a * 10 + m : Nat) : Int) := by rw [IntWalk.i64_in _ ⟨by omega, by omega⟩]; omega
        have HV2 := Lib.hid (show a * 10 + m = numB (s.take (k + 1)) by
          rw [List.take_add_one, HX.out]
          show _ = numB (s.take k ++ [c])
          rw [numB_app, ← HV.out, hm])
        have HA2 := Lib.hid (show ∀ x ∈ s.take (k + 1), dig x = true from fun x hx => by
          rw [List.take_add_one, HX.out] at hx
          rcases List.mem_append.1 hx with hx | hx
          · exact HA.out x hx
          · obtain rfl : x = c := by simpa using hx
            exact hd)
        clear hd hm hcr
        go_wp2_with fail
        go_roundw
        case rel => exact ⟨k + 1, a * 10 + m, hlt, by go_num, by go_num, HV2.out, HA2.out, by trivial⟩
        case measure => simp [intOf] <;> omega
    · obtain rfl : k = n := by omega
      have HT := Lib.hid (show s.take k = s from List.take_of_length_le (by rw [HN.out]; exact Nat.le_refl _))
      have HD := Lib.hid (show numR s = (a, decide (k = 1) || decide (s.head? ≠ some 48)) by
        unfold numR
        have h1 := HA.out
        have h2 := HV.out
        rw [HT.out] at h1 h2
        rw [if_pos h1, h2, HN.out])
      have c0 : decide ((k : Int) < (k : Int)) = false := decide_eq_false (by omega)
      obtain ⟨c, hc⟩ : ∃ c, s[0]? = some c := ⟨_, List.getElem?_eq_getElem (by rw [HN.out]; omega)⟩
      have HX := Lib.hid hc
      have x0 : ∀ V, (Instr.index 9 (.string (st s)) (.int .i64 (0 : Int))).run Tryd.prog V = .ok (.int .u8 (c.toNat : Int)) V := fun V => st_index s 0 c hc V
      clear hc ha9
      by_cases h1 : k = 1
      · subst h1
        have HD2 := Lib.hid (show numR s = (a, true) by rw [HD.out]; rfl)
        have c1 : (((1 : Nat) : Int) == 1) = true := rfl
        go_upto_region 8 with fail
        go_quiet (fail)
        go_wp2_with fail
        go_returns
        exact ⟨by rw [HD2.out]; rfl, below_dr _ _⟩
      · have c1 : ((k : Int) == 1) = false := beq_eq_false_iff_ne.2 (by omega)
        have c1b : ((st s).size == 1) = false := beq_eq_false_iff_ne.2 (by omega)
        have c1d : (k == 1) = false := beq_eq_false_iff_ne.2 (by omega)
        have c1c : decide ((st s).size = 1) = false := decide_eq_false (by omega)
        have HD2 := Lib.hid (show numR s = (a, decide (c ≠ 48)) by
          rw [HD.out, decide_eq_false h1, List.head?_eq_getElem?, HX.out]
          simp)
        by_cases hc : c = 48
        · have c2 : ((c.toNat : Int) != 48) = false := by rw [hc]; rfl
          have HD3 := Lib.hid (show numR s = (a, false) by rw [HD2.out, hc]; rfl)
          clear hc h1
          go_upto_region 8 with fail
          go_quiet (fail)
          go_wp2_with fail
          go_returns
          exact ⟨by rw [HD3.out]; rfl, below_dr _ _⟩
        · have c2 : ((c.toNat : Int) != 48) = true := bne_iff_ne.2 fun e => hc (UInt8.toNat_inj.1 (by
            have : (48 : UInt8).toNat = 48 := rfl
            omega))
          have HD3 := Lib.hid (show numR s = (a, true) by rw [HD2.out]; simp [hc])
          clear hc h1
          go_upto_region 8 with fail
          go_quiet (fail)
          go_wp2_with fail
          go_returns
          exact ⟨by rw [HD3.out]; rfl, below_dr _ _⟩
set_option maxRecDepth 100000 in
set_option maxHeartbeats 8000000 in
theorem rcopy_v (l : Bl) (d n : Int) (w : World) : Calls Tryd.prog 19 #[.string (st l), .int .i64 d, .int .i64 n] w fun e w' => e = .returned (.tuple #[.string (st (copyL l d n).1), .int .i64 ((copyL l d n).2 : Int)]) ∧ Below w.heap.size w w' := by
  have CV := rcheck_v l w
  obtain ⟨k, hk⟩ : ∃ k, checkL l = k := ⟨_, rfl⟩
  have HK := Lib.hid hk
  rw [hk] at CV
  clear hk
  have HC := Lib.hid (show copyL l d n = _ from rfl)
  go_enter Tryd.func19, Tryd.ntmps19
  go_wp2_with fail
  refine CV.mono ?_
  rintro e w1 ⟨rfl, b1⟩
  have B1 := Lib.hid b1
  clear b1 CV HC
  by_cases h : k = 0
  case neg =>
    have HS := Lib.hid (show copyL l d n = ([], k) by unfold copyL; rw [if_pos (by rw [HK.out]; exact h), HK.out])
    have d1 : ((k : Int) != 0) = true := by simp; omega
    clear h
    go_wp2_with fail
    go_returns
    exact ⟨by rw [HS.out]; rfl, B1.out⟩
  subst h
  have d1 : (((0 : Nat) : Int) != 0) = false := rfl
  have HBD : Hid ((d < 1 ∨ 99 < d ∨ n < 0 ∨ 999 < n) → copyL l d n = ([], 2)) := Lib.hid fun h => by unfold copyL; rw [if_neg (by rw [HK.out]; simp), if_pos h]
  by_cases a1 : d < 1
  · have HS := Lib.hid (HBD.out (.inl a1))
    have f1 : decide (d < 1) = true := decide_eq_true a1
    clear a1
    go_wp2_with fail
    go_returns
    exact ⟨by rw [HS.out]; rfl, B1.out⟩
  by_cases a2 : 99 < d
  · have HS := Lib.hid (HBD.out (.inr (.inl a2)))
    have f1 : decide (d < 1) = false := decide_eq_false a1
    have f2 : decide (99 < d) = true := decide_eq_true a2
    clear a1 a2
    go_wp2_with fail
    go_returns
    exact ⟨by rw [HS.out]; rfl, B1.out⟩
  by_cases a3 : n < 0
  · have HS := Lib.hid (HBD.out (.inr (.inr (.inl a3))))
    have f1 : decide (d < 1) = false := decide_eq_false a1
    have f2 : decide (99 < d) = false := decide_eq_false a2
    have f3 : decide (n < 0) = true := decide_eq_true a3
    clear a1 a2 a3
    go_wp2_with fail
    go_returns
    exact ⟨by rw [HS.out]; rfl, B1.out⟩
  by_cases a4 : 999 < n
  · have HS := Lib.hid (HBD.out (.inr (.inr (.inr a4))))
    have f1 : decide (d < 1) = false := decide_eq_false a1
    have f2 : decide (99 < d) = false := decide_eq_false a2
    have f3 : decide (n < 0) = false := decide_eq_false a3
    have f4 : decide (999 < n) = true := decide_eq_true a4
    clear a1 a2 a3 a4
    go_wp2_with fail
    go_returns
    exact ⟨by rw [HS.out]; rfl, B1.out⟩
  obtain ⟨d', rfl⟩ : ∃ d' : Nat, d = (d' : Int) := ⟨d.toNat, by omega⟩
  obtain ⟨n', rfl⟩ : ∃ n' : Nat, n = (n' : Int) := ⟨n.toNat, by omega⟩
  have HS := Lib.hid (show copyL l (d' : Int) (n' : Int) = if rightL (copyOut l d' n') then (copyOut l d' n', 0) else ([], 3) by
    unfold copyL
    rw [if_neg (by rw [HK.out]; simp), if_neg (by omega), Int.toNat_natCast, Int.toNat_natCast])
  have hd : d' ≤ 99 := by omega
  have hn : n' ≤ 999 := by omega
  have f1 : decide ((d' : Int) < 1) = false := decide_eq_false a1
  have f2 : decide ((99 : Int) < (d' : Int)) = false := decide_eq_false a2
  have f3 : decide ((n' : Int) < 0) = false := decide_eq_false a3
  have f4 : decide ((999 : Int) < (n' : Int)) = false := decide_eq_false a4
  clear a1 a2 a3 a4 HBD
  have hl := check_len HK.out
  have SV := Lib.hid (fun w => rsplit_v l w)
  rw [show splitP l = (folderL l, baseL l) by unfold splitP; rw [if_pos HK.out]] at SV
  have EV := Lib.hid (fun w => rend_v l w)
  rw [show endP l = (stemB (baseL l), endB (baseL l)) by unfold endP; rw [if_pos HK.out]] at EV
  have HL := Lib.hid (show (folderL l).length ≤ 64 ∧ (stemB (baseL l)).length ≤ 64 ∧ (endB (baseL l)).length ≤ 64 by
    have e := congrArg List.length (stem_end (baseL l))
    rw [List.length_append] at e
    by_cases hm : (47 : UInt8) ∈ l
    · have := congrArg List.length ((folder_base l).1 hm)
      simp only [List.length_append, List.length_singleton] at this
      omega
    · obtain ⟨e1, e2⟩ := (folder_base l).2 hm
      rw [e1]
      rw [e2] at e ⊢
      simp only [List.length_nil]
      omega)
  have HO := Lib.hid (show copyOut l d' n' = joinF (folderL l) (stemB (baseL l) ++ markL d' n' ++ endB (baseL l)) from rfl)
  obtain ⟨f, hf⟩ : ∃ x, folderL l = x := ⟨_, rfl⟩
  obtain ⟨s, hs⟩ : ∃ x, stemB (baseL l) = x := ⟨_, rfl⟩
  obtain ⟨y, hy⟩ : ∃ x, endB (baseL l) = x := ⟨_, rfl⟩
  rw [hf, hs, hy] at HL HO
  rw [hf] at SV
  rw [hs, hy] at EV
  clear hf hs hy
  have l1 := dec_len (n := d') (k := 2) (by decide) (by omega)
  have l2 := dec_len (n := n') (k := 3) (by decide) (by omega)
  have HT := Lib.hid (show s ++ markL d' n' ++ y = s ++ [46, 99] ++ dec d' ++ [45] ++ dec n' ++ y by simp [markL])
  rw [HT.out] at HO
  obtain ⟨z, hz⟩ : ∃ x, s ++ [46, 99] ++ dec d' ++ [45] ++ dec n' ++ y = x := ⟨_, rfl⟩
  have hzl : (st z).size ≤ 1000 := by rw [st_size, ← hz]; simp only [List.length_append, List.length_cons, List.length_nil]; have := HL.out; omega
  have z0 : (st s).size ≤ 1000 := by rw [st_size]; have := HL.out; omega
  have z1 : (st (s ++ [46, 99])).size ≤ 1000 := by rw [st_size]; simp only [List.length_append, List.length_cons, List.length_nil]; have := HL.out; omega
  have z2 : (st (s ++ [46, 99] ++ dec d')).size ≤ 1000 := by rw [st_size]; simp only [List.length_append, List.length_cons, List.length_nil]; have := HL.out; omega
  have z3 : (st (s ++ [46, 99] ++ dec d' ++ [45])).size ≤ 1000 := by rw [st_size]; simp only [List.length_append, List.length_cons, List.length_nil]; have := HL.out; omega
  have z4 : (st (s ++ [46, 99] ++ dec d' ++ [45] ++ dec n')).size ≤ 1000 := by rw [st_size]; simp only [List.length_append, List.length_cons, List.length_nil]; have := HL.out; omega
  have y0 : (st y).size ≤ 1000 := by rw [st_size]; have := HL.out; omega
  have y1 : (st (dec d')).size ≤ 1000 := by rw [st_size]; omega
  have y2 : (st (dec n')).size ≤ 1000 := by rw [st_size]; omega
  have e1 : st s ++ (⟨#[46, 99]⟩ : ByteArray) = st (s ++ [46, 99]) := st_app s [46, 99]
  have e2 : st (s ++ [46, 99]) ++ st (dec d') = st (s ++ [46, 99] ++ dec d') := st_app _ _
  have e3 : st (s ++ [46, 99] ++ dec d') ++ (⟨#[45]⟩ : ByteArray) = st (s ++ [46, 99] ++ dec d' ++ [45]) := st_app _ [45]
  have e4 : st (s ++ [46, 99] ++ dec d' ++ [45]) ++ st (dec n') = st (s ++ [46, 99] ++ dec d' ++ [45] ++ dec n') := st_app _ _
  have e5 : st (s ++ [46, 99] ++ dec d' ++ [45] ++ dec n') ++ st y = st z := by rw [st_app, hz]
  rw [hz] at HO
  have HLE := Lib.hid (And.intro l1 l2)
  clear hz HT l1 l2
  generalize s ++ [46, 99] ++ dec d' ++ [45] ++ dec n' = s4 at *
  generalize s ++ [46, 99] ++ dec d' ++ [45] = s3 at *
  generalize s ++ [46, 99] ++ dec d' = s2 at *
  generalize s ++ [46, 99] = s1 at *
  have I1 := Lib.hid (fun w => rdigits_v d' w (by omega))
  have I2 := Lib.hid (fun w => rdigits_v n' w (by omega))
  generalize dec d' = dd at *
  generalize dec n' = dn at *
  go_wp2_with fail
  refine (SV.out w1).mono ?_
  rintro e w2 ⟨rfl, b2⟩
  have B2 := Lib.hid (B1.out.trans (b2.mono B1.out.size))
  clear b2 B1
  go_wp2_with fail
  refine (EV.out w2).mono ?_
  rintro e w3 ⟨rfl, b3⟩
  have B3 := Lib.hid (B2.out.trans (b3.mono B2.out.size))
  clear b3 B2
  go_wp2_with fail
  refine (I1.out w3).mono ?_
  rintro e w4 ⟨rfl, b4⟩
  have B4 := Lib.hid (B3.out.trans (b4.mono B3.out.size))
  clear b4 B3
  go_wp2_with fail
  refine (I2.out w4).mono ?_
  rintro e w5 ⟨rfl, b5⟩
  have B5 := Lib.hid (B4.out.trans (b5.mono B4.out.size))
  clear b5 B4
  have JV := Lib.hid (fun w => rjoined_v f z w (by have := HL.out; omega) (by rw [← st_size]; exact hzl))
  have RC := Lib.hid (fun w => rcheck_v (joinF f z) w)
  rw [HO.out] at HS
  have HQ := Lib.hid (show copyL l (d' : Int) (n' : Int) = if checkL (joinF f z) = 0 then (joinF f z, 0) else ([], 3) by
    rw [HS.out]
    by_cases hr : rightL (joinF f z) = true
    · rw [if_pos hr, if_pos (check_zero.2 hr)]
    · rw [if_neg hr, if_neg fun h => hr (check_zero.1 h)])
  obtain ⟨k, hk⟩ : ∃ k, checkL (joinF f z) = k := ⟨_, rfl⟩
  rw [hk] at RC HQ
  clear hk
  generalize joinF f z = o at *
  go_wp2_with fail
  refine (JV.out w5).mono ?_
  rintro e _ ⟨rfl, rfl⟩
  go_wp2_with fail
  refine (RC.out w5).mono ?_
  rintro e w6 ⟨rfl, b6⟩
  have B6 := Lib.hid (B5.out.trans (b6.mono B5.out.size))
  clear b6 RC JV
  by_cases hk0 : k = 0
  · subst hk0
    have d9 : (((0 : Nat) : Int) != 0) = false := rfl
    go_wp2_with fail
    go_returns
    exact ⟨by rw [HQ.out]; rfl, B6.out⟩
  · have d9 : ((k : Int) != 0) = true := by simp; omega
    have HQ2 := Lib.hid (show copyL l (d' : Int) (n' : Int) = ([], 3) by rw [HQ.out, if_neg hk0])
    clear hk0
    go_wp2_with fail
    go_returns
    exact ⟨by rw [HQ2.out]; rfl, B6.out⟩
end Go.Proofs.YtgidngnlmijhhaaDoor
