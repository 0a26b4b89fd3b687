/-
  The law's own: stands (nodes arranged by ranks).
-/
import Derived.Test.YtohcdnbchidjeaaTabDn
namespace Go.Proofs.Ytohcdnbchidjeaa
open Go.RowKit
theorem mem_pre : ∀ (t : Tr) (x : KV), x ∈ t.pre ↔ x ∈ t.flat
  | .nil, x => Iff.rfl
  | .node l k v r, x => by
    simp only [Tr.pre, Tr.flat, List.mem_cons, List.mem_append, mem_pre l x, mem_pre r x]
    constructor
    · rintro (h | h | h)
      · exact .inr (.inl h)
      · exact .inl h
      · exact .inr (.inr h)
    · rintro (h | h | h)
      · exact .inr (.inl h)
      · exact .inl h
      · exact .inr (.inr h)
theorem pvs_at {l : List KV} {j : Nat} {x : P3} (h : (pvs l)[j]? = some x) : ∃ y, l[j]? = some y ∧ x = pv y := by
  rw [pvs, List.getElem?_map] at h
  cases hl : l[j]? with
  | none => rw [hl] at h; cases h
  | some y => rw [hl] at h; exact ⟨y, rfl, by simpa using h.symm⟩
theorem pvs_len (l : List KV) : (pvs l).length = l.length := by simp [pvs]
/-- What stands ahead of, and behind, a node's lesser ones. -/
theorem node_at {l r : List KV} {x : KV} {j : Nat} {y : KV} (h : (x :: (l ++ r))[j]? = some y) (hj : 1 ≤ j) : (j < l.length + 1 ∧ y ∈ l) ∨ (l.length + 1 ≤ j ∧ y ∈ r) := by
  obtain ⟨i, rfl⟩ : ∃ i, j = i + 1 := ⟨j - 1, by omega⟩
  rw [List.getElem?_cons_succ] at h
  by_cases hi : i < l.length
  · rw [List.getElem?_append_left hi] at h
    exact .inl ⟨by omega, List.mem_of_getElem? h⟩
  · rw [List.getElem?_append_right (by omega)] at h
    exact .inr ⟨by omega, List.mem_of_getElem? h⟩
set_option maxHeartbeats 4000000 in
set_option maxRecDepth 100000 in
theorem stands_v : ∀ (t : Tr) (_ : good t) (_ : ∀ x ∈ t.flat, x.1.size ≤ 140737488355328) (B : Nat) (A : Option Addr) (n c : Nat) (w : World) (_ : PReads w B A n (pvs t.pre)) (_ : B ≤ w.heap.size) (_ : n ≤ c) (_ : c ≤ 9223372036854775807),
    Calls Try.prog 18 #[.slice A n c] w fun e w' => e = .returned (.bool true) ∧ Below w.heap.size w w'
  | .nil, _, _, B, A, n, c, w, hr, hB, hnc, hc => by
    obtain rfl : n = 0 := by rw [← hr.len]; rfl
    go_enter Try.func18, Try.ntmps18
    go_wp2
    go_ret
    exact ⟨rfl, Below.refl _ _⟩
  | .node l k v r, hg, hk, B, A, n, c, w, hr, hB, hnc, hc => by
    obtain ⟨hasc, hab1, hab2, hhl, hhr⟩ := hg
    obtain ⟨a1, a2, a3, a4, _⟩ := asc_node.1 (show asc (l.flat ++ (k, v) :: r.flat) from hasc)
    have IL := Lib.hid (stands_v l ⟨a1, hhl⟩ (fun x hx => hk x (by simp [Tr.flat, hx])))
    have IR := Lib.hid (stands_v r ⟨a2, hhr⟩ (fun x hx => hk x (by simp [Tr.flat, hx])))
    have HL : Hid (∀ x ∈ l.pre, klt x.1 k = true ∧ rk x.1 < rk k ∧ x.1.size ≤ 140737488355328) := Lib.hid fun x hx => by
      rw [mem_pre] at hx
      have h1 := a3 x hx
      refine ⟨h1, ?_, hk x (by simp [Tr.flat, hx])⟩
      rcases (abv_iff _ _).1 (hab1 x hx) with h | ⟨_, h⟩
      · exact h
      · rw [klt_asymm h1] at h; cases h
    have HRr : Hid (∀ x ∈ r.pre, klt k x.1 = true ∧ rk x.1 ≤ rk k ∧ x.1.size ≤ 140737488355328) := Lib.hid fun x hx => by
      rw [mem_pre] at hx
      refine ⟨a4 x hx, ?_, hk x (by simp [Tr.flat, hx])⟩
      rcases (abv_iff _ _).1 (hab2 x hx) with h | ⟨h, _⟩
      · omega
      · omega
    have HKS := Lib.hid (hk (k, v) (by simp [Tr.flat]))
    have HLN : Hid (n = l.pre.length + r.pre.length + 1) := Lib.hid (by rw [← hr.len, pvs_len, Tr.pre]; simp)
    have HR := Lib.hid hr
    have hn0 : 0 < n := by have := HLN.out; omega
    have hr0 := PReads.at_ hr hn0
    obtain ⟨ad, x, hA, had, hx, c0, _, _⟩ := hr0
    subst hA
    obtain rfl : x = pv (k, v) := by simpa [pvs, Tr.pre] using hx.symm
    rw [Nat.zero_mul, add_zero] at c0
    have c0' : w.cell? ad = some (.string k) := c0
    have HC0 := Lib.hid c0'
    have hrk := rk_lt k
    clear hx c0 hr hk hasc hab1 hab2 hhl hhr a1 a2 a3 a4
    have hn0' : (0 : Int) < (n : Int) := by omega
    have gz : ((n : Int) == 0) = false := by rw [beq_eq_false_iff_ne]; omega
    go_enter Try.func18, Try.ntmps18
    go_wp2_with fail
    refine (rank_v k w (by unfold maxLen; have := HKS.out; omega)).mono ?_
    rintro e _ ⟨rfl, rfl⟩
    go_wp2_with fail
    clear c0'
    go_loopw [4] (fun i wr => ∃ j : Nat, 1 ≤ j ∧ j ≤ l.pre.length + 1 ∧ i = .int .i64 (j : Int) ∧ Below w.heap.size w wr) (fun i _ => n - (intOf i).toNat)
    case atStart => exact ⟨1, Nat.le_refl _, by omega, rfl, Below.refl _ _⟩
    case round =>
      obtain ⟨j, hj1, hj2, rfl, hb⟩ := hrel
      have HB := Lib.hid hb
      clear hb
      have c0r : wr.cell? ad = some (.string k) := (HB.out.cell (p := ad) (by omega)).trans HC0.out
      by_cases hjl : j < l.pre.length + 1
      · have hjn : j < n := by have := HLN.out; omega
        obtain ⟨ad', x, hA', _, hx, d0, _, _⟩ := PReads.at_ (Reads.below (show Reads w B 3 (some ad) n _ from HR.out) (HB.out.mono hB)) hjn
        obtain rfl : ad = ad' := by injection hA'
        obtain ⟨y, hy, rfl⟩ := pvs_at hx
        have hyl : y ∈ l.pre := by
          rcases node_at (x := (k, v)) hy hj1 with h | h
          · exact h.2
          · omega
        obtain ⟨q1, q2, q3⟩ := HL.out y hyl
        have d0' : wr.cell? (ad.add (j * 3)) = some (.string y.1) := d0
        have g1 : Op.bytesLess y.1.toList k.toList = true := q1
        have hry := rk_lt y.1
        have HRK := Lib.hid (fun W => rank_v y.1 W (by unfold maxLen; omega))
        have hj0 : (0 : Int) ≤ (j : Int) := by omega
        have hj3 : (j : Int) < (n : Int) := by omega
        clear hx hy d0 hyl q1
        go_wp2
        go_quiet (fail)
        have e0 : (wr.drewN nq).cell? (ad.add (j * 3)) = some (.string y.1) := d0'
        have HB2 := Lib.hid (below_drewN HB.out nq)
        clear d0' c0r
        generalize wr.drewN nq = w2 at *
        go_wp2_with fail
        refine (HRK.out w2).mono ?_
        rintro e _ ⟨rfl, rfl⟩
        have g2 : decide (rk k ≤ rk y.1) = false := by simp; omega
        go_wp2
        go_roundw
        case rel => exact ⟨j + 1, by omega, by omega, by go_num, HB2.out⟩
        case measure => simp [intOf]; omega
      · have hjk : j = l.pre.length + 1 := by omega
        have HKK := Lib.hid hjk
        have hkn : j ≤ n := by have := HLN.out; omega
        have hKR := Lib.hid (show n = j + r.pre.length by have := HLN.out; omega)
        clear hjl hj2 hjk
        obtain ⟨kk, hkk⟩ : ∃ kk, kk = j := ⟨_, rfl⟩
        subst hkk
        have hk1 : 1 ≤ kk := hj1
        by_cases hkl : kk < n
        · obtain ⟨ad', x, hA', _, hx, d0, _, _⟩ := PReads.at_ (Reads.below (show Reads w B 3 (some ad) n _ from HR.out) (HB.out.mono hB)) hkl
          obtain rfl : ad = ad' := by injection hA'
          obtain ⟨y, hy, rfl⟩ := pvs_at hx
          have hyr : y ∈ r.pre := by
            rcases node_at (x := (k, v)) hy (by have := HKK.out; omega) with h | h
            · have := HKK.out; omega
            · exact h.2
          have d0' : wr.cell? (ad.add (kk * 3)) = some (.string y.1) := d0
          have g1 : Op.bytesLess y.1.toList k.toList = false := klt_asymm (HRr.out y hyr).1
          have hj0 : (0 : Int) ≤ (kk : Int) := by omega
          have hj3 : (kk : Int) < (n : Int) := by omega
          clear hx hy d0 hyr
          go_wp2
          go_quiet (fail)
          have HB2 := Lib.hid (below_drewN HB.out nq)
          clear d0' c0r HB g1
          generalize wr.drewN nq = w2 at *
          go_wp2
          go_loopw [5] (fun i wr => ∃ j : Nat, kk ≤ j ∧ j ≤ n ∧ i = .int .i64 (j : Int) ∧ Below w.heap.size w wr) (fun i _ => n - (intOf i).toNat)
          case atStart => exact ⟨kk, Nat.le_refl _, hkn, rfl, HB2.out⟩
          case round =>
            obtain ⟨j, hj1, hj2, rfl, hb⟩ := hrel
            have HB := Lib.hid hb
            clear hb
            have c0r : wr.cell? ad = some (.string k) := (HB.out.cell (p := ad) (by omega)).trans HC0.out
            by_cases hjl : j < n
            · obtain ⟨ad', x, hA', _, hx, d0, _, _⟩ := PReads.at_ (Reads.below (show Reads w B 3 (some ad) n _ from HR.out) (HB.out.mono hB)) hjl
              obtain rfl : ad = ad' := by injection hA'
              obtain ⟨y, hy, rfl⟩ := pvs_at hx
              have hyr : y ∈ r.pre := by
                rcases node_at (x := (k, v)) hy (by have := HKK.out; omega) with h | h
                · have := HKK.out; omega
                · exact h.2
              obtain ⟨q1, q2, q3⟩ := HRr.out y hyr
              have d0' : wr.cell? (ad.add (j * 3)) = some (.string y.1) := d0
              have g1 : Op.bytesLess y.1.toList k.toList = false := klt_asymm q1
              have g3 : (y.1.toList == k.toList) = false := (kbeq_false _ _).2 (fun e => klt_ne q1 e.symm)
              have hry := rk_lt y.1
              have HRK := Lib.hid (fun W => rank_v y.1 W (by unfold maxLen; omega))
              have hj0 : (0 : Int) ≤ (j : Int) := by omega
              have hj3 : (j : Int) < (n : Int) := by omega
              have g2 : decide (rk k < rk y.1) = false := by simp; omega
              clear hx hy d0 hyr q1
              go_wp2
              go_quiet ((go_at_call 12; exact quiet_left (HRK.out _)))
              go_wp2
              go_roundw
              case rel => exact ⟨j + 1, by omega, by omega, by go_num, below_drewN HB.out _⟩
              case measure => simp [intOf]; omega
            · have hjn := Lib.hid (show j = n by omega)
              have HBr := Lib.hid HB.out.size
              have hL1 := Lib.hid (show PReads wr B (some ⟨ad.block, ad.off + 3, none⟩) (kk - 1) (pvs l.pre) by
                have h := (PReads.take (Reads.below (show Reads w B 3 (some ad) n _ from HR.out) (HB.out.mono hB)) (k := kk) hkn)
                have h2 := PReads.cut h (k := 1) (by omega) (cap := c) (by omega)
                rw [if_neg (by omega)] at h2
                have e : ((pvs (Tr.node l k v r).pre).take kk).drop 1 = pvs l.pre := by rw [HKK.out]; simp [pvs, Tr.pre]
                rw [e, Option.map_some, Nat.one_mul, add_pos ad 3 (by omega)] at h2
                exact h2)
              have hR1 := Lib.hid (show PReads wr B (some (ad.add (kk * 3))) (n - kk) (pvs r.pre) by
                have h2 := PReads.cut (Reads.below (show Reads w B 3 (some ad) n _ from HR.out) (HB.out.mono hB)) (k := kk) hkn (cap := c) (by omega)
                have e : (pvs (Tr.node l k v r).pre).drop kk = pvs r.pre := by rw [HKK.out]; simp [pvs, Tr.pre]
                rw [e, if_neg (by omega), Option.map_some] at h2
                exact h2)
              have hc1 : decide (c = 1) = false := by simp; omega
              have hcc : decide (c = kk) = false := by simp; omega
              have hc1' : ¬ c = 1 := by omega
              have hcc' : ¬ c = kk := by omega
              have hk1 : 1 ≤ kk := by omega
              have hkc : kk ≤ c := by omega
              clear c0r
              go_wp2_with fail
              refine (IL.out B (some ⟨ad.block, ad.off + 3, none⟩) (kk - 1) (c - 1) wr hL1.out (by have := HBr.out; omega) (by omega) (by omega)).mono ?_
              rintro e w3 ⟨rfl, hb3⟩
              have HB3 := Lib.hid hb3
              have HZ3 := Lib.hid hb3.size
              clear hb3
              go_wp2_with fail
              refine (IR.out B (some (ad.add (kk * 3))) (n - kk) (c - kk) w3 (Reads.below hR1.out (HB3.out.mono (by have := HBr.out; omega))) (by have := HBr.out; have := HZ3.out; omega) (by omega) (by omega)).mono ?_
              rintro e w4 ⟨rfl, hb4⟩
              have HB4 := Lib.hid hb4
              clear hb4
              go_wp2
              go_ret
              exact ⟨rfl, btrans (btrans HB.out HB3.out HBr.out) HB4.out (Nat.le_trans HBr.out HZ3.out)⟩
        · have hk0 : kk = n := by omega
          have hR0 : Hid (∀ A W, PReads W B A 0 (pvs r.pre)) := Lib.hid fun A W => ⟨by rw [p3sC_len, pvs_len]; have := hKR.out; omega, fun h => absurd h (by omega)⟩
          have hLn := Lib.hid (show n = l.pre.length + 1 by have := HKK.out; omega)
          subst hk0
          clear HKK
          go_wp2
          go_quiet (fail)
          have HB2 := Lib.hid (below_drewN HB.out nq)
          clear c0r HB hkl
          generalize wr.drewN nq = w2 at *
          go_wp2
          go_loopw [5] (fun i wr => ∃ j : Nat, kk ≤ j ∧ j ≤ kk ∧ i = .int .i64 (j : Int) ∧ Below w.heap.size w wr) (fun i _ => kk - (intOf i).toNat)
          case atStart => exact ⟨kk, Nat.le_refl _, hkn, rfl, HB2.out⟩
          case round =>
            obtain ⟨j, hj1, hj2, rfl, hb⟩ := hrel
            have HB := Lib.hid hb
            clear hb
            obtain rfl : j = kk := by omega
            have HBr := Lib.hid HB.out.size
            have hL1 : Hid (¬ c = 1 → PReads wr B (some ⟨ad.block, ad.off + 3, none⟩) (j - 1) (pvs l.pre)) := Lib.hid fun hc1 => by
              have h2 := PReads.cut (Reads.below (show Reads w B 3 (some ad) j _ from HR.out) (HB.out.mono hB)) (k := 1) (by omega) (cap := c) (by omega)
              rw [if_neg hc1] at h2
              have e : (pvs (Tr.node l k v r).pre).drop 1 = pvs l.pre ++ pvs r.pre := by simp [pvs, Tr.pre]
              have e0 : pvs r.pre = [] := List.eq_nil_of_length_eq_zero (by rw [pvs_len]; have := hKR.out; omega)
              rw [e, e0, List.append_nil, Option.map_some, Nat.one_mul, add_pos ad 3 (by omega)] at h2
              exact h2
            have hL0 : Hid (c = 1 → ∀ A W, PReads W B A 0 (pvs l.pre)) := Lib.hid fun hc1 A W => ⟨by rw [p3sC_len, pvs_len]; have := hLn.out; omega, fun h => absurd h (by omega)⟩
            clear hKR hj1 hj2
            by_cases hc1 : c = 1
            · have hL := Lib.hid (hL0.out hc1)
              obtain rfl : j = 1 := by omega
              subst hc1
              clear hL0 hL1 hnc
              go_wp2_with fail
              refine (IL.out B _ _ _ wr (hL.out _ _) (by have := HBr.out; omega) (by omega) (by omega)).mono ?_
              rintro e w3 ⟨rfl, hb3⟩
              have HB3 := Lib.hid hb3
              have HZ3 := Lib.hid hb3.size
              clear hb3
              go_wp2_with fail
              refine (IR.out B _ 0 _ w3 (hR0.out _ _) (by have := HBr.out; have := HZ3.out; omega) (by omega) (by omega)).mono ?_
              rintro e w4 ⟨rfl, hb4⟩
              have HB4 := Lib.hid hb4
              clear hb4
              go_wp2
              go_ret
              exact ⟨rfl, btrans (btrans HB.out HB3.out HBr.out) HB4.out (Nat.le_trans HBr.out HZ3.out)⟩
            · have hL := Lib.hid (hL1.out hc1)
              have hc1d : decide (c = 1) = false := by simpa using hc1
              clear hL0 hL1
              by_cases hcc : c = j
              · subst hcc
                go_wp2_with fail
                refine (IL.out B _ _ _ wr hL.out (by have := HBr.out; omega) (by omega) (by omega)).mono ?_
                rintro e w3 ⟨rfl, hb3⟩
                have HB3 := Lib.hid hb3
                have HZ3 := Lib.hid hb3.size
                clear hb3
                go_wp2_with fail
                refine (IR.out B _ 0 _ w3 (hR0.out _ _) (by have := HBr.out; have := HZ3.out; omega) (by omega) (by omega)).mono ?_
                rintro e w4 ⟨rfl, hb4⟩
                have HB4 := Lib.hid hb4
                clear hb4
                go_wp2
                go_ret
                exact ⟨rfl, btrans (btrans HB.out HB3.out HBr.out) HB4.out (Nat.le_trans HBr.out HZ3.out)⟩
              · have hccd : decide (c = j) = false := by simpa using hcc
                go_wp2_with fail
                refine (IL.out B _ _ _ wr hL.out (by have := HBr.out; omega) (by omega) (by omega)).mono ?_
                rintro e w3 ⟨rfl, hb3⟩
                have HB3 := Lib.hid hb3
                have HZ3 := Lib.hid hb3.size
                clear hb3
                go_wp2_with fail
                refine (IR.out B _ 0 _ w3 (hR0.out _ _) (by have := HBr.out; have := HZ3.out; omega) (by omega) (by omega)).mono ?_
                rintro e w4 ⟨rfl, hb4⟩
                have HB4 := Lib.hid hb4
                clear hb4
                go_wp2
                go_ret
                exact ⟨rfl, btrans (btrans HB.out HB3.out HBr.out) HB4.out (Nat.le_trans HBr.out HZ3.out)⟩
end Go.Proofs.Ytohcdnbchidjeaa
