/-
  Digests: the walk of DigestParts.
-/
import Derived.Test.YtlbiinkidecfbaaShaS
namespace Go.Proofs.Ytlbiinkidecfbaa
open Go.RowKit
theorem RowsIn.at4 {w : World} {B n k : Nat} {A : Option Addr} {rs : List BRow} (h : RowsIn w B A n rs) (hk : k < n) :
    ∃ ad a ln cp lb, A = some ad ∧ rs[k]? = some (a, ln, cp, lb) ∧ Hid (∀ W, Below B w W → W.cell? (ad.add k) = some (.slice a ln cp) ∧ BReads W B a ln lb) ∧ ln ≤ cp ∧ cp ≤ maxLen := by
  obtain ⟨ad, ⟨a, ln, cp, lb⟩, e, hx, hc, hb, h1, h2⟩ := RowsIn.at_ h hk
  refine ⟨ad, a, ln, cp, lb, e, hx, fun W hW => ?_, h1, h2⟩
  obtain ⟨ad', ⟨a', ln', cp', lb'⟩, e', hx', hc', hb', _⟩ := RowsIn.at_ (h.below hW) hk
  rw [e] at e'; injection e' with e'; subst e'
  rw [hx] at hx'; injection hx' with hx'; injection hx' with i1 hx'; injection hx' with i2 hx'; injection hx' with i3 i4
  subst i1 i2 i3 i4
  exact ⟨hc', hb'⟩
/-- A load of an array, whose guard says yes. -/
theorem wpList_load_row_g {P : Program} {ops : Array Oper} {rest : List Oper} {o : Oper} {a : Act} {w : World} {Q : Exit → Act → World → Prop} (hgd : Region.wanted o (yielded ops a.tmps) = true) (ty : TypeId) (x : Operand) (ho : o.op = .load ty x)
    (g : Nat) (hx : a.eval x = .pointer (some ⟨g, 0, none⟩)) (t : TypeId) (cs : Array Value) (fr : Nat × Nat) (d : TypeDesc) (hg : w.heap[g]? = some (.cells cs t fr))
    (hu : P.underlying ty = some d) (hd : (match d with | .struct _ | .array _ _ => true | _ => false) = true) (hi : (P.info? ty).map (·.size) = some cs.size)
    (h : wpList P ops Q rest (a.put o.dst (.agg cs)) w) : wpList P ops Q (o :: rest) a w := by
  rw [wpList, if_pos hgd]
  exact .inl (wp_load_row ty x ho g hx t cs fr d hg hu hd hi h)
/-- What the second loop keeps. -/
structure StP (w : World) (base gh : Nat) (ds : List Nat) (nh : Nat) (lh : List UInt8) (A : Option Addr) (n c : Nat) (l : List UInt8) (W : World) : Prop where
  hb : Below w.heap.size w W
  hd : Arr .u8 29 W w.heap.size ds
  hh : ∃ A1 c1, Hx base gh A1 nh c1 lh W ∧ ∀ j, (Value.slice A1 nh c1).ownBlock = some j → (Value.slice A n c).ownBlock ≠ some j
  ha : BOwn W base A n c l
  hne : ∀ j, (Value.slice A n c).ownBlock = some j → j ≠ gh
  h2 : w.heap.size < base
  h3 : base ≤ W.heap.size
theorem BOwn.lt {W : World} {base n c : Nat} {A : Option Addr} {l : List UInt8} (h : BOwn W base A n c l) : ∀ j, (Value.slice A n c).ownBlock = some j → j < W.heap.size := fun j hj => (h.base_le j hj).2
section
variable {w : World} {base gh : Nat} {ds : List Nat} {nh : Nat} {lh : List UInt8} {A : Option Addr} {n c : Nat} {l : List UInt8} {W W' : World}
theorem StP.below (h : StP w base gh ds nh lh A n c l W) (hb : Below W.heap.size W W') : StP w base gh ds nh lh A n c l W' := by
  obtain ⟨A1, c1, hx, hdj⟩ := h.hh
  exact ⟨h.hb.trans (hb.mono h.hb.size), h.hd.below hb, ⟨A1, c1, hx.keep hb.size (hb.block gh hx.lt) (fun j hj => hb.block j (hx.own.lt j hj)), hdj⟩, h.ha.below hb, h.hne, h.h2, Nat.le_trans h.h3 hb.size⟩
theorem StP.hsh (h : StP w base gh ds nh lh A n c l W) : Hsh base gh lh W := by
  obtain ⟨A1, c1, hx, _⟩ := h.hh
  exact hx.hsh
theorem StP.write {A1 A2 : Option Addr} {c1 c2 m : Nat} {b : List UInt8} (h : StP w base gh ds nh lh A n c l W) (hdj : ∀ j, (Value.slice A1 nh c1).ownBlock = some j → (Value.slice A n c).ownBlock ≠ some j)
    (h2 : Hx base gh A2 (nh + m) c2 (lh ++ b) W') (hb : Below base W W') (hat : (Value.slice A2 (nh + m) c2).ownBlock = (Value.slice A1 nh c1).ownBlock ∨ (Value.slice A2 (nh + m) c2).ownBlock = some W.heap.size)
    (hk : ∀ j, j < W.heap.size → j ≠ gh → (Value.slice A1 nh c1).ownBlock ≠ some j → W'.heap[j]? = W.heap[j]?) : StP w base gh ds (nh + m) (lh ++ b) A n c l W' := by
  refine ⟨h.hb.trans (hb.mono (Nat.le_of_lt h.h2)), h.hd.keep (hb.block _ h.h2), ⟨A2, c2, h2, fun j hj => ?_⟩, h.ha.keep fun j hj => hk j (h.ha.lt j hj) (h.hne j hj) (fun e => hdj j e hj), h.hne, h.h2, Nat.le_trans h.h3 hb.size⟩
  rcases hat with e | e
  · rw [e] at hj; exact hdj j hj
  · rw [e] at hj; injection hj with hj
    intro e2
    have := h.ha.lt j e2
    omega
theorem StP.app {A3 : Option Addr} {c3 N : Nat} {L : List UInt8} (h : StP w base gh ds nh lh A n c l W) (ho : BOwn W' base A3 N c3 L) (hg : W.grownBy W' (Value.slice A n c).ownBlock)
    (hat : (Value.slice A3 N c3).ownBlock = (Value.slice A n c).ownBlock ∨ (Value.slice A3 N c3).ownBlock = some W.heap.size) : StP w base gh ds nh lh A3 N c3 L W' := by
  obtain ⟨A1, c1, hx, hdj⟩ := h.hh
  have hz : w.heap.size ≤ base := Nat.le_of_lt h.h2
  refine ⟨below_app h.hb hg h.ha hz h.hb.size, h.hd.keep (hg.block _ h.hd.lt fun e => ?_), ⟨A1, c1, hx.keep hg.size (hg.block gh hx.lt fun e => h.hne gh e.symm rfl) (fun j hj => hg.block j (hx.own.lt j hj) fun e => hdj j hj e.symm), fun j hj e => ?_⟩, ho, fun j hj => ?_, h.h2, Nat.le_trans h.h3 hg.size⟩
  · have := (h.ha.base_le _ e.symm).1
    have := h.h2
    omega
  · rcases hat with e2 | e2
    · rw [e2] at e; exact hdj j hj e
    · rw [e2] at e; injection e with e
      have := hx.own.lt j hj
      omega
  · rcases hat with e2 | e2
    · rw [e2] at hj; exact h.hne j hj
    · rw [e2] at hj; injection hj with hj
      have := hx.lt
      omega
end
set_option maxRecDepth 100000 in
set_option maxHeartbeats 16000000 in
theorem parts_v (a0 : Option Addr) (len0 cap0 : Nat) (rs : List BRow) (ds : List Nat) (w : World) (hr : RIn w a0 len0 cap0 rs) (hl : ds.length = 32) (hb : ∀ x ∈ ds, x < 256) :
    Calls Try.prog 7 #[.slice a0 len0 cap0, .agg (ds.map fun x : Nat => Value.int .u8 (x : Int)).toArray] w fun e w' => e = .returned (.bool true) ∧ Below w.heap.size w w' := by
  have HR := Lib.hid hr.1
  have hcm : len0 ≤ 9223372036854775807 := by have h1 := hr.2.1; have h2 := hr.2.2; unfold maxLen at h2; omega
  have HRL := Lib.hid (show ∀ r ∈ rs, r.2.2.2.length = r.2.1 from fun r h => (hr.1.rows r h).1.len)
  have HLN := Lib.hid hr.1.len
  have HDL := Lib.hid hl
  have HDB := Lib.hid hb
  have HSZ := Lib.hid (show (ds.map fun x : Nat => Value.int .u8 (x : Int)).toArray.size = 32 by simp [hl])
  have HI9 := Lib.hid (show (Try.prog.info? 29).map (·.size) = some 32 by kernel_rfl)
  have D0 := Lib.hid (show Arr .u8 29 (w.alloc (.cells (ds.map fun x : Nat => Value.int .u8 (x : Int)).toArray 29)) w.heap.size ds from Arr.new w _ _ rfl)
  have B0 := Lib.hid ((Below.refl w.heap.size w).alloc (Nat.le_refl _) (.cells (ds.map fun x : Nat => Value.int .u8 (x : Int)).toArray 29))
  clear hr hl hb
  go_enter Try.func7, Try.ntmps7
  go_wp2_with fail
  refine (lives_v _).mono ?_
  rintro e w1 ⟨rfl, hb1⟩
  have D1 := Lib.hid (D0.out.below hb1)
  have B1 := Lib.hid (B0.out.trans (hb1.mono B0.out.size))
  clear hb1 D0 B0
  go_wp2
  go_loopw [5, 6] (fun n i wr => ∃ k : Nat, k ≤ len0 ∧ sumM rs k ≤ 6001 ∧ n = .int .i64 ((sumM rs k : Nat) : Int) ∧ i = .int .i64 (k : Int) ∧ wr = w1) (fun _ i _ => len0 - (intOf i).toNat)
  case atStart => exact ⟨0, Nat.zero_le _, Nat.zero_le _, rfl, rfl, rfl⟩
  case round =>
    obtain ⟨k, hk, hs, rfl, rfl, hw⟩ := hrel
    subst hw
    obtain ⟨m, hm⟩ : ∃ m, sumM rs k = m := ⟨_, rfl⟩
    have HM := Lib.hid hm
    rw [hm] at hs ⊢
    clear hm
    by_cases h1 : k < len0
    · have d1 := dec_lt h1
      by_cases h2 : k ≤ 200
      · have d2 : decide ((k : Int) ≤ 200) = true := by simp; omega
        by_cases h3 : m ≤ 3000
        · have d3 : decide ((m : Int) ≤ 3000) = true := by simp; omega
          obtain ⟨ad, ra, ln, cp, lb, rfl, hx, hC, hrc, hrm⟩ := RowsIn.at4 HR.out h1
          have HS := Lib.hid (sumM_succ hx)
          have hc := (hC.out _ B1.out).1
          obtain ⟨q, hq⟩ : ∃ q, min ln 3001 = q := ⟨_, rfl⟩
          have HQ := Lib.hid hq
          have e1 : min (ln : Int) 3001 = (q : Int) := by omega
          have e2 : min 3001 (ln : Int) = (q : Int) := by omega
          have hqb : q ≤ 3001 := by omega
          clear hx hC hq hrc hrm
          go_wp2
          go_roundw
          case rel => exact ⟨k + 1, h1, by rw [HS.out, HM.out, HQ.out]; omega, by rw [HS.out, HM.out, HQ.out]; go_num, by go_num, trivial⟩
          case measure => simp [intOf]; omega
        · have d3 : decide ((m : Int) ≤ 3000) = false := by simp; omega
          have d4 : decide ((3000 : Int) < (m : Int)) = true := by simp; omega
          go_wp2
          go_ret
          exact ⟨rfl, B1.out⟩
      · have d2 : decide ((k : Int) ≤ 200) = false := by simp; omega
        have d5 : decide ((200 : Int) < (len0 : Int)) = true := by simp; omega
        by_cases h3 : m ≤ 3000
        · have d4 : decide ((3000 : Int) < (m : Int)) = false := by simp; omega
          go_wp2
          go_ret
          exact ⟨rfl, B1.out⟩
        · have d4 : decide ((3000 : Int) < (m : Int)) = true := by simp; omega
          go_wp2
          go_ret
          exact ⟨rfl, B1.out⟩
    · obtain rfl : k = len0 := by omega
      have d1 := dec_nlt (Nat.lt_irrefl k)
      by_cases h3 : m ≤ 3000
      · have d4 : decide ((3000 : Int) < (m : Int)) = false := by simp; omega
        by_cases h2 : k ≤ 200
        · have d5 : decide ((200 : Int) < (k : Int)) = false := by simp; omega
          have HTL := Lib.hid (show ∀ j, j ≤ k → (allB rs j).length ≤ 3000 from fun j hj => by
            have hm : sumM rs rs.length = m := by rw [HLN.out]; exact HM.out
            have e := allB_len HRL.out (by omega) j (by rw [HLN.out]; exact hj)
            have e2 := sumM_le (rs := rs) (rs.length - j) j (by rw [HLN.out]; omega)
            rw [show j + (rs.length - j) = rs.length by rw [HLN.out]; omega] at e2
            omega)
          clear HM HRL hs
          go_wp2_with fail
          refine (hnew_v wr).mono ?_
          rintro e w2 ⟨rfl, hh, hb2⟩
          obtain ⟨A1, n1, c1, hc1, ho1, hn1⟩ := hh.row
          obtain rfl : n1 = 0 := ho1.len.symm
          have K0 := Lib.hid (show StP w wr.heap.size wr.heap.size ds 0 (allB rs 0) none 0 0 (allB rs 0) w2 from
            ⟨B1.out.trans (hb2.mono B1.out.size), D1.out.below hb2, ⟨A1, c1, ⟨hc1, hh.fr, ho1, hn1, hh.lt, hh.hb⟩, fun j _ => by simp [Value.ownBlock]⟩, BOwn.nil_ _ _, fun j hj => by simp [Value.ownBlock] at hj, D1.out.lt, hb2.size⟩)
          clear hh hb2 hc1 ho1 hn1 B1 D1
          generalize wr.heap.size = gh at *
          go_wp2
          go_loopw [8, 9] (fun a i wr => ∃ (j N : Nat) (A : Option Addr) (c : Nat), j ≤ k ∧ a = .slice A N c ∧ i = .int .i64 (j : Int) ∧ StP w gh gh ds N (allB rs j) A N c (allB rs j) wr) (fun _ i _ => k - (intOf i).toNat)
          case atStart => exact ⟨0, 0, none, 0, Nat.zero_le _, rfl, rfl, K0.out⟩
          case round =>
            clear K0
            obtain ⟨j, N, A, c, hj, rfl, rfl, hK⟩ := hrel
            have K := Lib.hid hK
            clear hK
            have hN : (allB rs j).length = N := K.out.ha.len
            by_cases hlt : j < k
            · have d1 := dec_lt hlt
              obtain ⟨ad, ra, ln, cp, lb, rfl, hx, hC, hrc, hrm⟩ := RowsIn.at4 HR.out hlt
              have HS := Lib.hid (show allB rs (j + 1) = allB rs j ++ lb from allB_succ hx)
              have hLL := HTL.out (j + 1) hlt
              have hc := (hC.out _ K.out.hb).1
              have hrl := (hC.out _ K.out.hb).2.len
              have HC := Lib.hid hC.out
              clear hC hx
              obtain ⟨L', hL'⟩ : ∃ L', allB rs (j + 1) = L' := ⟨_, rfl⟩
              have HL' := Lib.hid hL'
              rw [hL'] at HS hLL
              obtain ⟨L, hL⟩ : ∃ L, allB rs j = L := ⟨_, rfl⟩
              rw [hL] at HS K hN
              have hNb : N + ln ≤ 3000 := by have := HS.out; rw [this, List.length_append] at hLL; omega
              clear hL hL' hLL
              go_wp2_with fail
              refine (own_any w.heap.size ra ln cp lb wr (HC.out _ K.out.hb).2 K.out.hb.size (by omega)).mono ?_
              rintro e wa ⟨Ax, cx, rfl, hox, hba⟩
              have K1 := Lib.hid (K.out.below hba)
              have OX := Lib.hid hox.reads
              clear hba hox K hc
              go_wp2_with fail
              obtain ⟨A1, c1, hH, hdj⟩ := K1.out.hh
              refine (hwrite_x gh gh A1 N c1 L _ Ax ln cx lb wa hH OX.out (by omega)).mono ?_
              rintro e wb ⟨A2, c2, rfl, hH2, hbb, hat, hkp⟩
              have K2 := Lib.hid (K1.out.write hdj hH2 hbb hat hkp)
              rw [← HS.out] at K2
              clear hH hdj hH2 hbb hat hkp K1 OX
              have hc := (HC.out _ K2.out.hb).1
              by_cases h8 : j % 8 = 0
              · have t1 : ((j : Int) % 8 == 0) = true := by rw [beq_iff_eq]; omega
                go_wp2_with (first
                  | (at_builtin
                     refine wpList_app rfl (.tmp 61) (.tmp 65) rfl gh A N c L rfl K2.out.ha w.heap.size ra ln cp lb rfl (HC.out _ K2.out.hb).2 (N + ln) L' rfl HS.out.symm (by omega) K2.out.h3 ?_
                     intro A3 c3 wc ho3 hg3 hat3
                     have K3 := Lib.hid (K2.out.app ho3 hg3 hat3)
                     clear ho3 hg3 hat3 hc)
                  | fail)
                refine (hsum_v gh gh L' wc K3.out.hsh (by have := K3.out.ha.len; omega)).mono ?_
                rintro e wd ⟨rfl, hbd⟩
                have K4 := Lib.hid (K3.out.below hbd)
                clear hbd K3 K2
                obtain ⟨dq, hdq⟩ : ∃ dq, sha (L'.map UInt8.toNat) = dq := ⟨_, rfl⟩
                have HDQ := Lib.hid hdq
                have hneq := neq_dig dq (by rw [← hdq]; rfl)
                rw [hdq]
                clear hdq
                go_wp2_with fail
                refine (own_any wd.heap.size A3 (N + ln) c3 L' wd K4.out.ha.reads (Nat.le_refl _) (by omega)).mono ?_
                rintro e we ⟨Ay, cy, rfl, hoy, hby⟩
                have K5 := Lib.hid (K4.out.below hby)
                have OY := Lib.hid hoy.reads
                clear hoy hby K4
                go_wp2_with fail
                have OF := of_v Ay (N + ln) cy L' we OY.out (by omega)
                rw [HDQ.out] at OF
                refine OF.mono ?_
                clear OF
                rintro e wf ⟨rfl, hbf⟩
                have K6 := Lib.hid (K5.out.below hbf)
                clear hbf K5 OY
                go_wp2
                go_roundw
                case rel => exact ⟨j + 1, N + ln, A3, c3, hlt, rfl, by go_num, by rw [HL'.out]; exact K6.out⟩
                case measure => simp [intOf]; omega
              · have t1 : ((j : Int) % 8 == 0) = false := by rw [beq_eq_false_iff_ne]; omega
                go_wp2_with (first
                  | (at_builtin
                     refine wpList_app rfl (.tmp 61) (.tmp 65) rfl gh A N c L rfl K2.out.ha w.heap.size ra ln cp lb rfl (HC.out _ K2.out.hb).2 (N + ln) L' rfl HS.out.symm (by omega) K2.out.h3 ?_
                     intro A3 c3 wc ho3 hg3 hat3
                     have K3 := Lib.hid (K2.out.app ho3 hg3 hat3)
                     clear ho3 hg3 hat3 hc)
                  | fail)
                go_roundw
                case rel => exact ⟨j + 1, N + ln, A3, c3, hlt, rfl, by go_num, by rw [HL'.out]; exact K3.out⟩
                case measure => simp [intOf]; omega
            · obtain rfl : j = k := by omega
              have d1 := dec_nlt (Nat.lt_irrefl j)
              have hNb : N ≤ 3000 := by have := HTL.out j (Nat.le_refl _); omega
              obtain ⟨L, hL⟩ : ∃ L, allB rs j = L := ⟨_, rfl⟩
              rw [hL] at K hN
              clear hL HTL HLN HR
              have PV := pad_v (N : Int) wr (by omega) (by omega)
              simp only [Int.toNat_natCast] at PV
              obtain ⟨p, hp⟩ : ∃ p, (padL N).length = p := ⟨_, rfl⟩
              rw [hp] at PV
              have HP := Lib.hid hp
              have hpb : p ≤ 72 := by rw [← hp, pad_len]; unfold zerosN; omega
              have hp9 : 9 ≤ p := by rw [← hp, pad_len]; omega
              have hW : (N + p) % 64 = 0 := by rw [← hp]; exact whole_len N
              clear hp
              go_wp2_with fail
              refine PV.mono ?_
              clear PV
              rintro e wp ⟨AP, cp, rfl, hop, hbp⟩
              have K1 := Lib.hid (K.out.below hbp)
              have OP := Lib.hid hop.reads
              have P0 := Lib.hid (show ∃ ad, AP = some ad ∧ ad.block < wp.heap.size ∧ wp.cell? (ad.add 0) = some (.int .u8 128) by
                obtain ⟨ad, cb, e, hb, hc, hx, _⟩ := BReads.at_ OP.out (show 0 < p by omega)
                refine ⟨ad, e, hb, ?_⟩
                rw [hc]
                have := hx.out
                rw [show (toB (padL N))[0]? = some 128 from rfl] at this
                injection this with this
                subst this
                rfl)
              clear hop hbp K
              obtain ⟨q, hq⟩ : ∃ q, q + 8 = p := ⟨p - 8, by omega⟩
              have e1 : (p : Int) - 8 = (q : Int) := by omega
              go_wp2
              go_loopw [11, 12] (fun m i wr => ∃ t : Nat, t ≤ 8 ∧ m = .int .i64 ((mAt N t : Nat) : Int) ∧ i = .int .i64 ((q + t : Nat) : Int) ∧ wr = wp) (fun _ i _ => p + 8 - (intOf i).toNat)
              case atStart => exact ⟨0, Nat.zero_le _, by rw [mAt_0 N hNb]; rfl, rfl, rfl⟩
              case round =>
                obtain ⟨t, ht, rfl, rfl, hw⟩ := hrel
                subst hw
                have hmb := mAt_le N t
                obtain ⟨mv, hmv⟩ : ∃ mv, mAt N t = mv := ⟨_, rfl⟩
                have HMV := Lib.hid hmv
                rw [hmv] at hmb ⊢
                clear hmv
                obtain ⟨s, hs⟩ : ∃ s, q + t = s := ⟨_, rfl⟩
                rw [hs]
                have f1 : decide ((s : Int) < 0) = false := by simp
                by_cases hlt : t < 8
                · have d1 := dec_lt (show s < p by omega)
                  obtain ⟨x, hx, hpx, hms⟩ := mAt_step N t hlt
                  rw [HP.out, show p - 8 + t = s by omega] at hpx
                  obtain ⟨ad, cb, rfl, had, hc, hcx, _⟩ := BReads.at_ OP.out (show s < p by omega)
                  have hcb : (cb.toNat : Int) = (x : Int) := by
                    have := hcx.out
                    rw [toB, List.getElem?_map, hpx] at this
                    injection this with this
                    subst this
                    simp [Nat.mod_eq_of_lt hx]
                  rw [hcb] at hc
                  have HMS := Lib.hid hms
                  clear hcx hcb hpx hms had
                  go_wp2
                  go_roundw
                  case rel => exact ⟨t + 1, hlt, by rw [HMS.out, HMV.out]; go_num, by rw [← Nat.add_assoc, hs]; go_num, trivial⟩
                  case measure => simp [intOf]; omega
                · obtain rfl : t = 8 := by omega
                  have d1 := dec_nlt (show ¬ s < p by omega)
                  have hmv8 : (mv : Int) = 8 * (N : Int) := by have := HMV.out; rw [mAt_8] at this; omega
                  clear HMV hmb hlt ht
                  obtain ⟨ad, rfl, hadb, hc0⟩ := P0.out
                  clear P0 OP HP f1 e1 hs hq
                  have hLN : L.length = N := K1.out.ha.len
                  obtain ⟨dq, hdq⟩ : ∃ dq, sha (L.map UInt8.toNat) = dq := ⟨_, rfl⟩
                  have HDQ := Lib.hid hdq
                  have heq1 := eq_dig dq (by rw [← hdq]; rfl)
                  have heq2 := eq_dig ds HDL.out
                  have t1 : (((N : Int) + (p : Int)) % 64 == 0) = true := by rw [beq_iff_eq]; omega
                  have t2 : ((mv : Int) == 8 * (N : Int)) = true := by rw [beq_iff_eq]; exact hmv8
                  have HPZ := parse_hex HDL.out HDB.out
                  have TX := text_v ds wr HDL.out HDB.out
                  clear hdq hmv8
                  go_wp2_with (first
                    | (refine wpList_load_row rfl 29 (.tmp 3) rfl w.heap.size rfl 29 (ds.map fun x : Nat => Value.int .u8 (x : Int)).toArray (0, 0) _ K1.out.hd Try.underlying29 rfl (HI9.out.trans (by rw [HSZ.out])) ?_)
                    | fail)
                  refine TX.mono ?_
                  clear TX
                  rintro e wx ⟨rfl, hbx⟩
                  have K2 := Lib.hid (K1.out.below hbx)
                  have hc1 := (hbx.cell (p := ad.add 0) (by rw [block_of_add]; exact hadb)).trans hc0
                  have hadb1 := Nat.lt_of_lt_of_le hadb hbx.size
                  clear hbx K1 hc0 hadb
                  have PV := parse_v ⟨(hexL ds).toArray⟩ wx (by show (hexL ds).toArray.size = 64; simp [hexL_len, HDL.out])
                  rw [show (⟨(hexL ds).toArray⟩ : ByteArray).data.toList = hexL ds from rfl, HPZ] at PV
                  dsimp only at PV
                  go_wp2_with fail
                  refine PV.mono ?_
                  clear PV HPZ
                  rintro e wy ⟨rfl, hby⟩
                  have K3 := Lib.hid (K2.out.below hby)
                  have hc2 := (hby.cell (p := ad.add 0) (by rw [block_of_add]; exact hadb1)).trans hc1
                  have hadb2 := Nat.lt_of_lt_of_le hadb1 hby.size
                  clear hby K2 hc1 hadb1
                  have X0 := Lib.hid (show Arr .u8 29 (wy.alloc (.cells #[Value.int .u8 0, Value.int .u8 0, Value.int .u8 0, Value.int .u8 0, Value.int .u8 0, Value.int .u8 0, Value.int .u8 0, Value.int .u8 0, Value.int .u8 0, Value.int .u8 0, Value.int .u8 0, Value.int .u8 0, Value.int .u8 0, Value.int .u8 0, Value.int .u8 0, Value.int .u8 0, Value.int .u8 0, Value.int .u8 0, Value.int .u8 0, Value.int .u8 0, Value.int .u8 0, Value.int .u8 0, Value.int .u8 0, Value.int .u8 0, Value.int .u8 0, Value.int .u8 0, Value.int .u8 0, Value.int .u8 0, Value.int .u8 0, Value.int .u8 0, Value.int .u8 0, Value.int .u8 0] 29)) wy.heap.size (List.replicate 32 0) from Arr.new wy _ _ rfl)
                  have X1 := Lib.hid (setRow_heap _ wy.heap.size _ (ds.map fun x : Nat => Value.int .u8 (x : Int)).toArray _ _ X0.out)
                  have BX := Lib.hid (below_setRow ((Below.refl wy.heap.size wy).alloc (Nat.le_refl _) (.cells #[Value.int .u8 0, Value.int .u8 0, Value.int .u8 0, Value.int .u8 0, Value.int .u8 0, Value.int .u8 0, Value.int .u8 0, Value.int .u8 0, Value.int .u8 0, Value.int .u8 0, Value.int .u8 0, Value.int .u8 0, Value.int .u8 0, Value.int .u8 0, Value.int .u8 0, Value.int .u8 0, Value.int .u8 0, Value.int .u8 0, Value.int .u8 0, Value.int .u8 0, Value.int .u8 0, Value.int .u8 0, Value.int .u8 0, Value.int .u8 0, Value.int .u8 0, Value.int .u8 0, Value.int .u8 0, Value.int .u8 0, Value.int .u8 0, Value.int .u8 0, Value.int .u8 0, Value.int .u8 0] 29)) (Nat.le_refl _) (ds.map fun x : Nat => Value.int .u8 (x : Int)).toArray)
                  have K4 := Lib.hid (K3.out.below BX.out)
                  have hc3 := (BX.out.cell (p := ad.add 0) (by rw [block_of_add]; exact hadb2)).trans hc2
                  have hadb3 := Nat.lt_of_lt_of_le hadb2 BX.out.size
                  clear BX K3 hc2 hadb2
                  go_wp2_with (first
                    | (refine wpList_store_row rfl 29 (.tmp 13) (.tmp 104) rfl wy.heap.size (ds.map fun x : Nat => Value.int .u8 (x : Int)).toArray rfl rfl 29 _ X0.out (HI9.out.trans (by rw [HSZ.out])) (by rw [HSZ.out]; rfl) (by simp [Value.oneCell']) ?_)
                    | fail)
                  clear X0
                  generalize (wy.alloc (.cells #[Value.int .u8 0, Value.int .u8 0, Value.int .u8 0, Value.int .u8 0, Value.int .u8 0, Value.int .u8 0, Value.int .u8 0, Value.int .u8 0, Value.int .u8 0, Value.int .u8 0, Value.int .u8 0, Value.int .u8 0, Value.int .u8 0, Value.int .u8 0, Value.int .u8 0, Value.int .u8 0, Value.int .u8 0, Value.int .u8 0, Value.int .u8 0, Value.int .u8 0, Value.int .u8 0, Value.int .u8 0, Value.int .u8 0, Value.int .u8 0, Value.int .u8 0, Value.int .u8 0, Value.int .u8 0, Value.int .u8 0, Value.int .u8 0, Value.int .u8 0, Value.int .u8 0, Value.int .u8 0] 29)).setRow wy.heap.size (ds.map fun x : Nat => Value.int .u8 (x : Int)).toArray = wz at *
                  generalize wy.heap.size = gx at *
                  have hXl : gx < wz.heap.size := (Array.getElem?_eq_some_iff.1 X1.out).1
                  refine (hsize_v gh gh L wz K4.out.hsh).mono ?_
                  rw [hLN]
                  rintro e _ ⟨rfl, rfl⟩
                  go_wp2_with fail
                  refine (hsum_v gh gh L wz K4.out.hsh (by omega)).mono ?_
                  rw [HDQ.out]
                  rintro e v1 ⟨rfl, hb1⟩
                  have K5 := Lib.hid (K4.out.below hb1)
                  have X2 := Lib.hid ((hb1.block gx hXl).trans X1.out)
                  have hc4 := (hb1.cell (p := ad.add 0) (by rw [block_of_add]; exact hadb3)).trans hc3
                  have hz1 := hb1.size
                  clear hb1 K4 X1 hc3
                  go_wp2_with fail
                  refine (own_any v1.heap.size A N c L v1 K5.out.ha.reads (Nat.le_refl _) (by omega)).mono ?_
                  rintro e v2 ⟨Ay, cy, rfl, hoy, hb1⟩
                  have K6 := Lib.hid (K5.out.below hb1)
                  have OY := Lib.hid hoy.reads
                  have X3 := Lib.hid ((hb1.block gx (by omega)).trans X2.out)
                  have hc5 := (hb1.cell (p := ad.add 0) (by rw [block_of_add]; omega)).trans hc4
                  have hz2 := hb1.size
                  clear hb1 K5 X2 hc4 hoy
                  have OF := of_v Ay N cy L v2 OY.out (by omega)
                  rw [HDQ.out] at OF
                  go_wp2_with fail
                  refine OF.mono ?_
                  clear OF
                  rintro e v3 ⟨rfl, hb1⟩
                  have K7 := Lib.hid (K6.out.below hb1)
                  have X4 := Lib.hid ((hb1.block gx (by omega)).trans X3.out)
                  have hc6 := (hb1.cell (p := ad.add 0) (by rw [block_of_add]; omega)).trans hc5
                  have hz3 := hb1.size
                  clear hb1 K6 X3 hc5 OY
                  go_wp2_with fail
                  refine (hsum_v gh gh L v3 K7.out.hsh (by omega)).mono ?_
                  rw [HDQ.out]
                  rintro e v4 ⟨rfl, hb1⟩
                  have K8 := Lib.hid (K7.out.below hb1)
                  have X5 := Lib.hid ((hb1.block gx (by omega)).trans X4.out)
                  have hc7 := (hb1.cell (p := ad.add 0) (by rw [block_of_add]; omega)).trans hc6
                  have hz4 := hb1.size
                  clear hb1 K7 X4 hc6
                  go_wp2_with fail
                  refine (hsum_v gh gh L v4 K8.out.hsh (by omega)).mono ?_
                  rw [HDQ.out]
                  rintro e v5 ⟨rfl, hb1⟩
                  have K9 := Lib.hid (K8.out.below hb1)
                  have X6 := Lib.hid ((hb1.block gx (by omega)).trans X5.out)
                  have hc8 := (hb1.cell (p := ad.add 0) (by rw [block_of_add]; omega)).trans hc7
                  have hc9 : v5.cell? ad = some (.int .u8 128) := by rw [← hc8, add_zero]
                  clear hb1 K8 X5 hc7
                  go_wp2_with (first
                    | (refine wpList_load_row_g rfl 29 (.tmp 13) rfl gx rfl 29 (ds.map fun x : Nat => Value.int .u8 (x : Int)).toArray (0, 0) _ X6.out Try.underlying29 rfl (HI9.out.trans (by rw [HSZ.out])) ?_)
                    | (refine wpList_load_row_g rfl 29 (.tmp 3) rfl w.heap.size rfl 29 (ds.map fun x : Nat => Value.int .u8 (x : Int)).toArray (0, 0) _ K9.out.hd Try.underlying29 rfl (HI9.out.trans (by rw [HSZ.out])) ?_)
                    | fail)
                  go_ret
                  exact ⟨rfl, K9.out.hb⟩
        · have d5 : decide ((200 : Int) < (k : Int)) = true := by simp; omega
          go_wp2
          go_ret
          exact ⟨rfl, B1.out⟩
      · have d4 : decide ((3000 : Int) < (m : Int)) = true := by simp; omega
        go_wp2
        go_ret
        exact ⟨rfl, B1.out⟩
end Go.Proofs.Ytlbiinkidecfbaa
