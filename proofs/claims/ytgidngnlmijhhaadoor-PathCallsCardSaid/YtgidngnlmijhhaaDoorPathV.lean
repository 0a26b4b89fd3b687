/-
  Paths, the reference: Copied.
-/
import Derived.Test.YtgidngnlmijhhaaDoorPathU
namespace Go.Proofs.YtgidngnlmijhhaaDoor
open Go.RowKit
set_option maxRecDepth 100000 in
set_option maxHeartbeats 4000000 in
theorem rcopied_v (l : Bl) (w : World) : Calls Tryd.prog 20 #[.string (st l)] w fun e w' => e = .returned (resV (copiedL l)) ∧ Below w.heap.size w w' := by
  have CV := rcheck_v l w
  obtain ⟨k, hk⟩ : ∃ k, checkL l = k := ⟨_, rfl⟩
  have HK := Lib.hid hk
  rw [hk] at CV
  clear hk
  go_enter Tryd.func20, Tryd.ntmps20
  go_wp2_with fail
  refine CV.mono ?_
  rintro e w1 ⟨rfl, b1⟩
  have B1 := Lib.hid b1
  clear b1 CV
  by_cases h : k = 0
  case neg =>
    have HS := Lib.hid (show copiedL l = none by unfold copiedL; rw [if_pos (by rw [HK.out]; exact h)])
    have d1 : ((k : Int) != 0) = true := by simp; omega
    clear h
    go_wp2_with fail
    go_returns
    exact ⟨by rw [HS.out]; rfl, B1.out⟩
  subst h
  have d1 : (((0 : Nat) : Int) != 0) = false := rfl
  obtain ⟨n, hn⟩ : ∃ n, (st l).size = n := ⟨_, rfl⟩
  have HN := Lib.hid (show l.length = n by rw [← hn, st_size])
  have hsz : ((st l).size : Int) = (n : Int) := by rw [hn]
  have hn64 : n ≤ 64 := by rw [← HN.out]; exact check_len HK.out
  clear hn
  go_wp2_with fail
  clear d1
  go_loopw [6, 7, 8, 9, 10, 11, 12, 13, 14] (fun i _ _ _ _ _ _ _ _ wr => ∃ k : Nat, k ≤ n + 1 ∧ i = .int .i64 (k : Int) ∧ P1 l k ∧ Below w1.heap.size w1 wr) (fun i _ _ _ _ _ _ _ _ _ => n + 1 - (intOf i).toNat)
  case atStart => exact ⟨0, Nat.zero_le _, rfl, P1.zero l, Below.refl _ _⟩
  case round =>
    obtain ⟨k, hk, rfl, hp1, hb⟩ := hrel
    have HP1 := Lib.hid hp1
    have HB := Lib.hid hb
    clear hp1 hb
    have w4 : IntKind.i64.wrap ((k : Int) + 4) = (k : Int) + 4 := IntWalk.i64_in _ ⟨by omega, by omega⟩
    have w2 : IntKind.i64.wrap ((k : Int) + 2) = (k : Int) + 2 := IntWalk.i64_in _ ⟨by omega, by omega⟩
    by_cases hlt : k + 4 ≤ n
    case neg =>
      have c0 : decide ((k : Int) + 4 ≤ (n : Int)) = false := decide_eq_false (by omega)
      have HS := Lib.hid (HP1.out.end_ (by rw [HN.out]; omega))
      clear hlt
      go_wp2_with fail
      go_returns
      exact ⟨by rw [HS.out]; rfl, B1.out.trans (HB.out.mono B1.out.size)⟩
    have c0 : decide ((k : Int) + 4 ≤ (n : Int)) = true := decide_eq_true (by omega)
    have k0 : (0 : Int) ≤ (k : Int) := by omega
    have k1 : (0 : Int) ≤ (k : Int) + 2 := by omega
    have k2 : (k : Int) ≤ (k : Int) + 2 := by omega
    have k3 : (k : Int) + 2 ≤ (n : Int) := by omega
    have k4 : ((k : Int) + 2).toNat = k + 2 := by omega
    have e1 : (st l).extract k (k + 2) = st ((l.drop k).take 2) := by rw [st_mid, show k + 2 - k = 2 by omega]
    by_cases hc2 : (l.drop k).take 2 = [46, 99]
    case neg =>
      have q0 : ((st ((l.drop k).take 2)).toList == (⟨#[46, 99]⟩ : ByteArray).toList) = false := beq_eq_false_iff_ne.2 fun e => hc2 (by
        rw [ByteArray.toList_eq, ByteArray.toList_eq, st_data] at e
        exact e)
      have q1 : ((st ((l.drop k).take 2)).toList != (⟨#[46, 99]⟩ : ByteArray).toList) = true := by unfold bne; rw [q0]; rfl
      have q2 : ((st ((l.drop k).take 2)).toList == ([46, 99] : List UInt8)) = false := by rw [ByteArray.toList_eq, st_data]; exact beq_eq_false_iff_ne.2 hc2
      have q3 : ((st ((l.drop k).take 2)).toList != ([46, 99] : List UInt8)) = true := by unfold bne; rw [q2]; rfl
      have HX := Lib.hid (HP1.out.next fun d e hh => hc2 hh.c2)
      clear hc2
      generalize (l.drop k).take 2 = y at *
      go_wp2_with fail
      go_roundw
      case rel => exact ⟨k + 1, by omega, by go_num, HX.out, HB.out⟩
      case measure => simp [intOf] <;> omega
    have q0 : ((st ((l.drop k).take 2)).toList == (⟨#[46, 99]⟩ : ByteArray).toList) = true := beq_iff_eq.2 (by
      rw [ByteArray.toList_eq, ByteArray.toList_eq, st_data, hc2])
    have q1 : ((st ((l.drop k).take 2)).toList != (⟨#[46, 99]⟩ : ByteArray).toList) = false := by unfold bne; rw [q0]; rfl
    have q2 : ((st ((l.drop k).take 2)).toList == ([46, 99] : List UInt8)) = true := by rw [ByteArray.toList_eq, st_data]; exact beq_iff_eq.2 hc2
    have q3 : ((st ((l.drop k).take 2)).toList != ([46, 99] : List UInt8)) = false := by unfold bne; rw [q2]; rfl
    have hzr := HB.out.size
    clear hc2
    generalize (l.drop k).take 2 = y at *
    go_wp2_with fail
    clear q0 q1 q2 q3 e1 k1 k2 k3 k4 w2 w4 c0
    go_loopw [7, 8, 9, 10, 11, 12, 13, 14] (fun d _ _ _ _ _ _ _ wr2 => ∃ dk : Nat, 1 ≤ dk ∧ dk ≤ 100 ∧ d = .int .i64 (dk : Int) ∧ P2 l k dk ∧ Below w1.heap.size w1 wr2) (fun d _ _ _ _ _ _ _ _ => 100 - (intOf d).toNat)
    case atStart => exact ⟨1, Nat.le_refl _, by omega, rfl, P2.one l k, HB.out⟩
    case round =>
      obtain ⟨d, hd1, hd100, rfl, hp2, hb⟩ := hrel
      have HP2 := Lib.hid hp2
      have HB2 := Lib.hid hb
      clear hp2 hb
      by_cases hd : d ≤ 99
      case neg =>
        have c0 : decide ((d : Int) ≤ 99) = false := decide_eq_false (by omega)
        have HX := Lib.hid (HP1.out.next (HP2.out.end_ (by omega)))
        clear hd
        go_wp2_with fail
        go_roundw
        case rel => exact ⟨k + 1, by omega, by go_num, HX.out, HB2.out⟩
        case measure => simp [intOf] <;> omega
      have c0 : decide ((d : Int) ≤ 99) = true := decide_eq_true (by omega)
      have DV := rdigits_v d wr (by omega)
      have hdl := dec_len (n := d) (k := 2) (by decide) (by omega)
      have hxl := XL_len hd
      have z1 : (st (dec d)).size ≤ 1000 := by rw [st_size]; omega
      have z2 : (st ([46, 99] ++ dec d)).size ≤ 1000 := by rw [st_size, List.length_append]; simp only [List.length_cons, List.length_nil]; omega
      have e1 : (⟨#[46, 99]⟩ : ByteArray) ++ st (dec d) = st ([46, 99] ++ dec d) := st_app [46, 99] (dec d)
      have e2 : st ([46, 99] ++ dec d) ++ (⟨#[45]⟩ : ByteArray) = st (XL d) := st_app _ [45]
      have HHL := Lib.hid (fun e (h : Hit l k d e) => h.len)
      have HHX := Lib.hid (fun e (h : Hit l k d e) => h.x)
      have HHN := Lib.hid (fun e (h : Hit l k d e) => h.num)
      have HP3 := Lib.hid (P3.first l k d)
      have HPE := Lib.hid (fun e (h : P3 l k d e) => h.end_)
      obtain ⟨x, hx⟩ : ∃ x, XL d = x := ⟨_, rfl⟩
      rw [hx] at e2 hxl HHL HHX HHN HP3 HPE
      clear hx
      obtain ⟨m, hm⟩ : ∃ m, x.length = m := ⟨_, rfl⟩
      rw [hm] at hxl HHL HHX HHN HP3 HPE
      have sx : ((st x).size : Int) = (m : Int) := by rw [st_size, hm]
      clear hm
      generalize [46, 99] ++ dec d = x1 at *
      generalize dec d = x2 at *
      go_wp2_with fail
      refine DV.mono ?_
      rintro e w3 ⟨rfl, b3⟩
      have HB3 := Lib.hid (HB2.out.trans (b3.mono HB2.out.size))
      clear b3 DV
      have w6 : IntKind.i64.wrap ((n : Int) - (k : Int)) = (n : Int) - (k : Int) := IntWalk.i64_in _ ⟨by omega, by omega⟩
      by_cases hm : n < k + m
      · have c1 : decide ((n : Int) - (k : Int) < (m : Int)) = true := decide_eq_true (by omega)
        have HX := Lib.hid (HP2.out.next fun e hh => by have := HHL.out e hh; have := HN.out; omega)
        clear hm
        go_wp2_with fail
        go_roundw
        case rel => exact ⟨d + 1, by omega, by omega, by go_num, HX.out, HB3.out⟩
        case measure => simp [intOf] <;> omega
      have c1 : decide ((n : Int) - (k : Int) < (m : Int)) = false := decide_eq_false (by omega)
      obtain ⟨q, hq⟩ : ∃ q, k + m = q := ⟨_, rfl⟩
      have w7 : IntKind.i64.wrap ((k : Int) + (m : Int)) = (q : Int) := by rw [IntWalk.i64_in _ ⟨by omega, by omega⟩]; omega
      have w7b : (k : Int) + (m : Int) = (q : Int) := by omega
      have q0 : (0 : Int) ≤ (q : Int) := by omega
      have q1 : (k : Int) ≤ (q : Int) := by omega
      have q2 : (q : Int) ≤ (n : Int) := by omega
      have e3 : (st l).extract k q = st ((l.drop k).take m) := by rw [st_mid, show q - k = m by omega]
      rw [hq] at HHL HHN HP3 HPE
      by_cases hx : (l.drop k).take m = x
      case neg =>
        have c2 : ((st ((l.drop k).take m)).toList == (st x).toList) = false := by rw [st_beq]; exact decide_eq_false hx
        have c3 : ((st ((l.drop k).take m)).toList != (st x).toList) = true := by unfold bne; rw [c2]; rfl
        have HX := Lib.hid (HP2.out.next fun e hh => hx (HHX.out e hh))
        clear hx hm
        generalize (l.drop k).take m = y at *
        go_wp2_with fail
        go_roundw
        case rel => exact ⟨d + 1, by omega, by omega, by go_num, HX.out, HB3.out⟩
        case measure => simp [intOf] <;> omega
      have c2 : ((st ((l.drop k).take m)).toList == (st x).toList) = true := by rw [st_beq]; exact decide_eq_true hx
      have c3 : ((st ((l.drop k).take m)).toList != (st x).toList) = false := by unfold bne; rw [c2]; rfl
      have w8 : IntKind.i64.wrap ((q : Int) + 1) = ((q + 1 : Nat) : Int) := by rw [IntWalk.i64_in _ ⟨by omega, by omega⟩]; omega
      clear hx hm HHX
      generalize (l.drop k).take m = y at *
      go_wp2_with fail
      clear c0 c1 c2 c3 e1 e2 e3 w6
      go_loopw [9, 10, 11, 12, 13, 14] (fun e _ _ _ _ _ wr3 => ∃ ek : Nat, q + 1 ≤ ek ∧ ek ≤ n + 1 ∧ ek ≤ q + 4 ∧ e = .int .i64 (ek : Int) ∧ P3 l k d ek ∧ Below w1.heap.size w1 wr3) (fun e _ _ _ _ _ _ => n + 1 - (intOf e).toNat)
      case atStart => exact ⟨q + 1, Nat.le_refl _, by omega, by omega, by go_num, HP3.out, HB3.out⟩
      case round =>
        obtain ⟨e, he1, he2, he3, rfl, hp3, hb⟩ := hrel
        have HP3 := Lib.hid hp3
        have HB4 := Lib.hid hb
        clear hp3 hb
        have w9 : IntKind.i64.wrap ((q : Int) + 3) = (q : Int) + 3 := IntWalk.i64_in _ ⟨by omega, by omega⟩
        by_cases he : e ≤ n ∧ e ≤ q + 3
        case neg =>
          have c4 : decide ((e : Int) ≤ min (n : Int) ((q : Int) + 3)) = false := decide_eq_false (by omega)
          have HX := Lib.hid (HP2.out.next (HPE.out e HP3.out (by rw [HN.out]; omega)))
          clear he
          go_wp2_with fail
          go_roundw
          case rel => exact ⟨d + 1, by omega, by omega, by go_num, HX.out, HB4.out⟩
          case measure => simp [intOf] <;> omega
        obtain ⟨hen, heq⟩ := he
        have c4 : decide ((e : Int) ≤ min (n : Int) ((q : Int) + 3)) = true := decide_eq_true (by omega)
        have i1 : (q : Int) ≤ (e : Int) := by omega
        have i2 : (e : Int) ≤ (n : Int) := by omega
        have i3 : (0 : Int) ≤ (e : Int) := by omega
        have i4 : (k : Int) ≤ (n : Int) := by omega
        have e5 : (st l).extract q e = st ((l.drop q).take (e - q)) := st_mid l q e
        have hyl : ((l.drop q).take (e - q)).length = e - q := by rw [List.length_take, List.length_drop, HN.out]; omega
        have NV := Lib.hid (fun w => rnumber_v ((l.drop q).take (e - q)) w (by omega) (by omega))
        have HHE := Lib.hid (HHN.out e)
        have e6 : (st l).extract 0 k = st (l.take k) := st_take l k
        have e7 : (st l).extract e (st l).size = st (l.drop e) := st_drop l e
        have e8 : st (l.take k) ++ st (l.drop e) = st (l.take k ++ l.drop e) := st_app _ _
        have z3 : (st (l.take k)).size ≤ 1000 := by rw [st_size, List.length_take]; omega
        have z4 : (st (l.drop e)).size ≤ 1000 := by rw [st_size, List.length_drop, HN.out]; omega
        have HCO := Lib.hid (fun (a : Nat) (w : World) => rcopy_v (l.take k ++ l.drop e) (d : Int) (a : Int) w)
        generalize l.take k ++ l.drop e = p at *
        generalize l.take k = p1 at *
        generalize l.drop e = p2 at *
        generalize (l.drop q).take (e - q) = y2 at *
        obtain ⟨v, hv⟩ : ∃ v, numR y2 = v := ⟨_, rfl⟩
        have HV := Lib.hid hv
        rw [hv] at NV
        obtain ⟨a, is⟩ := v
        simp only at NV
        clear hv hyl
        go_wp2_with fail
        refine (NV.out wr).mono ?_
        rintro ex w4 ⟨rfl, b4⟩
        have HB5 := Lib.hid (HB4.out.trans (b4.mono HB4.out.size))
        clear b4 NV
        cases is with
        | false =>
          have HX := Lib.hid (HP3.out.next fun hh => by
            obtain ⟨n', h1, _, _⟩ := HHE.out hh
            have h2 := HV.out
            rw [h1, numR_dec] at h2
            cases h2)
          go_wp2_with fail
          go_roundw
          case rel => exact ⟨e + 1, by omega, by omega, by omega, by go_num, HX.out, HB5.out⟩
          case measure => simp [intOf] <;> omega
        | true =>
          have HCX := Lib.hid (show Hit l k d e → copyL p (d : Int) (a : Int) = (l, 0) from fun hh => by
            obtain ⟨n', h1, _, h3⟩ := HHE.out hh
            have h2 := HV.out
            rw [h1, numR_dec] at h2
            injection h2 with h2 _
            rw [← h2]
            exact h3)
          have HOK := Lib.hid (show copyL p (d : Int) (a : Int) = (l, 0) → copiedL l = some (p, d, a) from fun h => by
            have h1 := (copied_copy h).1
            rwa [Int.toNat_natCast, Int.toNat_natCast] at h1)
          have CP := Lib.hid (HCO.out a)
          clear HCO HHE
          obtain ⟨c, hcc⟩ : ∃ c, copyL p (d : Int) (a : Int) = c := ⟨_, rfl⟩
          rw [hcc] at CP HCX HOK
          clear hcc
          obtain ⟨co, ce⟩ := c
          simp only at CP
          go_upto_region 17 with fail
          go_quiet (fail)
          go_wp2_with fail
          refine (CP.out _).mono ?_
          rintro ex w5 ⟨rfl, b5⟩
          have HB6 := Lib.hid ((below_drewN HB5.out _).trans (b5.mono HB5.out.size))
          clear b5 CP
          by_cases hce : ce = 0
          case neg =>
            have d1 : ((ce : Int) == 0) = false := beq_eq_false_iff_ne.2 (by omega)
            have HX := Lib.hid (HP3.out.next fun hh => hce (congrArg Prod.snd (HCX.out hh)))
            clear hce
            go_wp2_with fail
            go_roundw
            case rel => exact ⟨e + 1, by omega, by omega, by omega, by go_num, HX.out, HB6.out⟩
            case measure => simp [intOf] <;> omega
          subst hce
          have d1 : (((0 : Nat) : Int) == 0) = true := rfl
          by_cases hco : co = l
          case neg =>
            have d2 : ((st co).toList == (st l).toList) = false := by rw [st_beq]; exact decide_eq_false hco
            have HX := Lib.hid (HP3.out.next fun hh => hco (congrArg Prod.fst (HCX.out hh)))
            clear hco
            go_wp2_with fail
            go_roundw
            case rel => exact ⟨e + 1, by omega, by omega, by omega, by go_num, HX.out, HB6.out⟩
            case measure => simp [intOf] <;> omega
          have d2 : ((st co).toList == (st l).toList) = true := by rw [st_beq]; exact decide_eq_true hco
          have HS := Lib.hid (HOK.out (by rw [hco]))
          clear hco
          go_wp2_with fail
          go_returns
          exact ⟨by rw [HS.out]; rfl, B1.out.trans (HB6.out.mono B1.out.size)⟩
end Go.Proofs.YtgidngnlmijhhaaDoor
