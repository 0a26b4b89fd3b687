/-
  Paths: marked.
-/
import Derived.Test.YtgidngnlmijhhaaDoorPathD
import Derived.Lib.AtoiErrMem
namespace Go.Proofs.YtgidngnlmijhhaaDoor
open Go.RowKit
def mN (s : Bl) : Nat := digitsL s
def mP (s : Bl) : Bl := s.take (s.length - mN s)
def mR (s : Bl) : Bl := Lib.trimSuffix (mP s) [45]
def mM (s : Bl) : Nat := digitsL (mR s)
def mQ (s : Bl) : Bl := (mR s).take ((mR s).length - mM s)
def mA (s : Bl) : Bl := Lib.trimSuffix (mQ s) [46, 99]
theorem marked_eq (s : Bl) : markedL s = if Lib.hasSuffix (mP s) [45] = true ∧ Lib.hasSuffix (mQ s) [46, 99] = true ∧ mN s ≠ 0 ∧ mM s ≠ 0 ∧ mN s ≤ 3 ∧ mM s ≤ 2 then some (mA s, numB ((mR s).drop ((mR s).length - mM s)), numB (s.drop (s.length - mN s))) else none := by
  have e0 : markedL s = (if ¬ [45] <:+ mP s then none else (fun r => (fun m => (fun q => if ¬ [46, 99] <:+ q then none else if mN s = 0 ∨ m = 0 ∨ 3 < mN s ∨ 2 < m then none else some (q.take (q.length - 2), numB (r.drop (r.length - m)), numB (s.drop (s.length - mN s)))) (r.take (r.length - m))) (digitsL r)) ((mP s).take ((mP s).length - 1))) := rfl
  rw [e0, suffix_lib, suffix_lib]
  by_cases h1 : [45] <:+ mP s
  · have hR : (mP s).take ((mP s).length - 1) = mR s := by unfold mR; rw [trim_lib, if_pos h1]; rfl
    rw [if_neg (Classical.not_not.2 h1), hR]
    show (if ¬ [46, 99] <:+ mQ s then none else if mN s = 0 ∨ mM s = 0 ∨ 3 < mN s ∨ 2 < mM s then none else some ((mQ s).take ((mQ s).length - 2), numB ((mR s).drop ((mR s).length - mM s)), numB (s.drop (s.length - mN s)))) = _
    by_cases h2 : [46, 99] <:+ mQ s
    · have hA : (mQ s).take ((mQ s).length - 2) = mA s := by unfold mA; rw [trim_lib, if_pos h2]; rfl
      rw [if_neg (Classical.not_not.2 h2), hA]
      by_cases h3 : mN s = 0 ∨ mM s = 0 ∨ 3 < mN s ∨ 2 < mM s
      · rw [if_pos h3, if_neg (by rintro ⟨_, _, _, _, _, _⟩; omega)]
      · rw [if_neg h3, if_pos ⟨decide_eq_true h1, decide_eq_true h2, by omega, by omega, by omega, by omega⟩]
    · rw [if_pos h2, if_neg (by rintro ⟨_, h, _⟩; rw [decide_eq_false h2] at h; cases h)]
  · rw [if_pos h1, if_neg (by rintro ⟨h, _⟩; rw [decide_eq_false h1] at h; cases h)]
theorem mR_len (s : Bl) : (mR s).length ≤ s.length := by
  unfold mR mP
  rw [trim_lib]
  split
  · rw [List.length_take, List.length_take]; omega
  · rw [List.length_take]; omega
theorem mN_le (s : Bl) : mN s ≤ s.length := (digits_tail s).2
theorem mM_le (s : Bl) : mM s ≤ (mR s).length := (digits_tail (mR s)).2
theorem cutS_v (a b : Bl) (w : World) (hs : a.length ≤ 9223372036854775807) : Calls Tryd.prog 44 #[.string (st a), .string (st b)] w fun e w' => e = .returned (.tuple #[.string (st (Lib.trimSuffix a b)), .bool (Lib.hasSuffix a b)]) ∧ w' = w :=
  Tryd.strings_CutSuffix (st a) (st b) w (by rw [st_size]; exact hs)
theorem atoi_v (a : Bl) (w : World) (hs : a.length ≤ 18) (hd : ∀ x ∈ a, dig x = true) (hne : a ≠ []) : Calls Tryd.prog 45 #[.string (st a)] w fun e w' => e = .returned (.tuple #[.int .i64 (numB a : Int), .nilIface]) ∧ Below w.heap.size w w' := by
  refine (Tryd.strconv_Atoi (st a) (numB a : Int) (by rw [st_size]; exact hs) (atoi_dig a hd hne) w).mono ?_
  rintro e w' ⟨rfl, t, rfl⟩
  exact ⟨rfl, Lib.bytesWorld_below _ _ _⟩
set_option maxRecDepth 100000 in
set_option maxHeartbeats 8000000 in
theorem marked_v (s : Bl) (w : World) (hs : s.length ≤ 1000000) : Calls Tryd.prog 32 #[.string (st s)] w fun e w' => e = .returned (.tuple #[.string (st ((markedL s).getD ([], 0, 0)).1), .int .i64 (((markedL s).getD ([], 0, 0)).2.1 : Int), .int .i64 (((markedL s).getD ([], 0, 0)).2.2 : Int), .bool (markedL s).isSome]) ∧ Below w.heap.size w w' := by
  have HM := Lib.hid (marked_eq s)
  have hN := mN_le s
  have hM := mM_le s
  have hR := mR_len s
  have D1 := Lib.hid (fun w => digits_v s w hs)
  have D2 := Lib.hid (fun w => digits_v (mR s) w (by omega))
  have S1 := Lib.hid (fun w => cutS_v (mP s) [45] w (by unfold mP; rw [List.length_take]; omega))
  have S2 := Lib.hid (fun w => cutS_v (mQ s) [46, 99] w (by unfold mQ; rw [List.length_take]; omega))
  have TA := Lib.hid (digits_tail s)
  have TB := Lib.hid (digits_tail (mR s))
  have ZS := Lib.hid (st_size s)
  have ZR := Lib.hid (st_size (mR s))
  have P1 := Lib.hid (show (st s).extract 0 (s.length - mN s) = st (mP s) from st_take s _)
  have P2 := Lib.hid (show (st (mR s)).extract 0 ((mR s).length - mM s) = st (mQ s) from st_take (mR s) _)
  have P3 := Lib.hid (st_drop s (s.length - mN s))
  have P4 := Lib.hid (st_drop (mR s) ((mR s).length - mM s))
  have EQ := Lib.hid (show mN s = digitsL s ∧ mM s = digitsL (mR s) ∧ Lib.trimSuffix (mP s) [45] = mR s ∧ Lib.trimSuffix (mQ s) [46, 99] = mA s from ⟨rfl, rfl, rfl, rfl⟩)
  rw [← EQ.out.1] at D1 TA
  rw [← EQ.out.2.1] at D2 TB
  rw [EQ.out.2.2.1] at S1
  rw [EQ.out.2.2.2] at S2
  obtain ⟨ls, hls⟩ : ∃ x, s.length = x := ⟨_, rfl⟩
  obtain ⟨lr, hlr⟩ : ∃ x, (mR s).length = x := ⟨_, rfl⟩
  obtain ⟨n, hn⟩ : ∃ x, mN s = x := ⟨_, rfl⟩
  obtain ⟨m, hm⟩ : ∃ x, mM s = x := ⟨_, rfl⟩
  obtain ⟨fo, hfo⟩ : ∃ x, Lib.hasSuffix (mP s) [45] = x := ⟨_, rfl⟩
  obtain ⟨al, hal⟩ : ∃ x, Lib.hasSuffix (mQ s) [46, 99] = x := ⟨_, rfl⟩
  rw [hls, hlr, hn, hm, hfo, hal] at HM
  rw [hls, hn] at hN TA P1 P3
  rw [hlr, hm] at hM TB P2 P4
  rw [hlr, hls] at hR
  rw [hls] at hs ZS
  rw [hlr] at ZR
  rw [hn] at D1
  rw [hm] at D2
  rw [hfo] at S1
  rw [hal] at S2
  clear hls hlr hn hm hfo hal EQ
  generalize mP s = p at *
  generalize mQ s = q at *
  generalize mR s = r at *
  generalize mA s = a at *
  obtain ⟨k, hk⟩ : ∃ k, ls - n = k := ⟨_, rfl⟩
  obtain ⟨j, hj⟩ : ∃ j, lr - m = j := ⟨_, rfl⟩
  rw [hk] at P1 P3 TA HM
  rw [hj] at P2 P4 TB HM
  have z1 : ((st s).size : Int) = (ls : Int) := by rw [ZS.out]
  have z2 : ((st r).size : Int) = (lr : Int) := by rw [ZR.out]
  have e1 : (ls : Int) - (n : Int) = (k : Int) := by omega
  have e2 : (lr : Int) - (m : Int) = (j : Int) := by omega
  have k0 : (0 : Int) ≤ (k : Int) := by omega
  have k1 : (k : Int) ≤ (ls : Int) := by omega
  have j0 : (0 : Int) ≤ (j : Int) := by omega
  have j1 : (j : Int) ≤ (lr : Int) := by omega
  have x1 := P1.out
  have x2 := P2.out
  clear hk hj
  go_enter Tryd.func32, Tryd.ntmps32
  go_wp2_with fail
  refine (D1.out w).mono ?_
  rintro e _ ⟨rfl, rfl⟩
  go_wp2_with fail
  refine (S1.out w).mono ?_
  rintro e w1 ⟨rfl, rfl⟩
  go_wp2_with fail
  refine (D2.out w1).mono ?_
  rintro e _ ⟨rfl, rfl⟩
  go_wp2_with fail
  refine (S2.out w1).mono ?_
  rintro e w2 ⟨rfl, rfl⟩
  by_cases hok : fo = true ∧ al = true ∧ n ≠ 0 ∧ m ≠ 0 ∧ n ≤ 3 ∧ m ≤ 2
  case neg =>
    have HR2 := Lib.hid (show markedL s = none by rw [HM.out, if_neg hok])
    have fin : ∀ V : World, V = w2 → True := fun _ _ => trivial
    cases fo with
    | false =>
      clear hok
      go_wp2_with fail
      go_returns
      exact ⟨by rw [HR2.out]; rfl, Below.refl _ _⟩
    | true =>
    cases al with
    | false =>
      clear hok
      go_wp2_with fail
      go_returns
      exact ⟨by rw [HR2.out]; rfl, Below.refl _ _⟩
    | true =>
    by_cases h1 : n = 0
    · have d1 : ((n : Int) == 0) = true := beq_iff_eq.2 (by omega)
      clear hok h1
      go_wp2_with fail
      go_returns
      exact ⟨by rw [HR2.out]; rfl, Below.refl _ _⟩
    have d1 : ((n : Int) == 0) = false := beq_eq_false_iff_ne.2 (by omega)
    by_cases h2 : m = 0
    · have d2 : ((m : Int) == 0) = true := beq_iff_eq.2 (by omega)
      clear hok h1 h2
      go_wp2_with fail
      go_returns
      exact ⟨by rw [HR2.out]; rfl, Below.refl _ _⟩
    have d2 : ((m : Int) == 0) = false := beq_eq_false_iff_ne.2 (by omega)
    by_cases h3 : n ≤ 3
    case neg =>
      have d3 : decide ((3 : Int) < (n : Int)) = true := decide_eq_true (by omega)
      clear hok h1 h2 h3
      go_wp2_with fail
      go_returns
      exact ⟨by rw [HR2.out]; rfl, Below.refl _ _⟩
    have d3 : decide ((3 : Int) < (n : Int)) = false := decide_eq_false (by omega)
    have h4 : ¬ m ≤ 2 := fun h4 => hok ⟨rfl, rfl, h1, h2, h3, h4⟩
    have d4 : decide ((2 : Int) < (m : Int)) = true := decide_eq_true (by omega)
    clear hok h1 h2 h3 h4
    go_wp2_with fail
    go_returns
    exact ⟨by rw [HR2.out]; rfl, Below.refl _ _⟩
  have HR2 := Lib.hid (show markedL s = _ by rw [HM.out, if_pos hok])
  obtain ⟨rfl, rfl, h1, h2, h3, h4⟩ := hok
  have d1 : ((n : Int) == 0) = false := beq_eq_false_iff_ne.2 (by omega)
  have d2 : ((m : Int) == 0) = false := beq_eq_false_iff_ne.2 (by omega)
  have d3 : decide ((3 : Int) < (n : Int)) = false := decide_eq_false (by omega)
  have d4 : decide ((2 : Int) < (m : Int)) = false := decide_eq_false (by omega)
  have L1 : (s.drop k).length = n := by rw [List.length_drop]; have := ZS.out; rw [st_size] at this; omega
  have L2 : (r.drop j).length = m := by rw [List.length_drop]; have := ZR.out; rw [st_size] at this; omega
  have A1 := Lib.hid (fun w => atoi_v (s.drop k) w (by omega) TA.out.1 (fun e => by rw [e] at L1; simp at L1; omega))
  have A2 := Lib.hid (fun w => atoi_v (r.drop j) w (by omega) TB.out.1 (fun e => by rw [e] at L2; simp at L2; omega))
  have x3 := P3.out
  have x4 := P4.out
  clear L1 L2
  go_wp2_with fail
  refine (A1.out w2).mono ?_
  rintro e w3 ⟨rfl, b3⟩
  go_wp2_with fail
  refine (A2.out w3).mono ?_
  rintro e w4 ⟨rfl, b4⟩
  go_wp2_with fail
  go_returns
  exact ⟨by rw [HR2.out]; rfl, b3.trans (b4.mono b3.size)⟩
end Go.Proofs.YtgidngnlmijhhaaDoor
