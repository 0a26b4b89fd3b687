/-
  Matrices: the reference's Check.
-/
import Derived.Test.YtikegnnlmfidfaaMatB
import Derived.Deep.Cut
import Derived.Deep.CutBlock
namespace Go.Proofs.Ytikegnnlmfidfaa
open Go.RowKit
theorem klt_emp {s : ByteArray} (h : 1 ≤ s.size) : klt emp s = true := by
  unfold klt
  have e1 : emp.toList = [] := by rw [ByteArray.toList_eq]; rfl
  rw [e1, ByteArray.toList_eq]
  have h2 : s.data.toList ≠ [] := by
    intro e
    have : s.data.toList.length = 0 := by rw [e]; rfl
    rw [Array.length_toList] at this
    have : s.size = s.data.size := rfl
    omega
  cases hq : s.data.toList with
  | nil => exact absurd hq h2
  | cons b y => rfl
set_option maxRecDepth 100000 in
set_option maxHeartbeats 8000000 in
theorem rcheck_v (own : Int) (A : Option Addr) (n c B : Nat) (rs : List Rw) (w : World) (hr : RowsR w B A n rs) (hB : B ≤ w.heap.size) (hn : n ≤ 9223372036854775807) :
    Calls Try.prog 28 #[.agg #[.int .i64 own, .slice A n c]] w fun e w' => e = .returned (.int .i64 (chkM (own, rs.map Rw.p) : Int)) ∧ Below w.heap.size w w' := by
  have HR := Lib.hid hr
  have HLN := Lib.hid hr.len
  have B0 := Lib.hid ((Below.refl w.heap.size w).alloc (Nat.le_refl _) (.cells #[.int .i64 own, .slice A n c] 27))
  have X0 := Lib.hid (heap_alloc_new w (.cells #[.int .i64 own, .slice A n c] 27))
  have hz0 : (w.alloc (.cells #[.int .i64 own, .slice A n c] 27)).heap.size = w.heap.size + 1 := by simp
  clear hr
  go_enter Try.func28, Try.ntmps28
  by_cases h8 : 8 < n
  · have HC := Lib.hid (show chkM (own, rs.map Rw.p) = 3 by unfold chkM; rw [if_pos (by simp only [List.length_map]; rw [HLN.out]; exact h8)])
    have d1 : decide (8 < (n : Int)) = true := decide_eq_true (by omega)
    have d2 : decide (8 < n) = true := decide_eq_true h8
    go_wp2_with fail
    go_ret
    exact ⟨by rw [HC.out]; rfl, B0.out⟩
  have d1 : decide (8 < (n : Int)) = false := decide_eq_false (by omega)
  have d2 : decide (8 < n) = false := decide_eq_false h8
  go_wp2_with fail
  refine (rdev_v own _).mono ?_
  rintro e _ ⟨rfl, rfl⟩
  cases hd : dev own with
  | false =>
    have HC := Lib.hid (show chkM (own, rs.map Rw.p) = 2 by unfold chkM; rw [if_neg (by simp only [List.length_map]; rw [HLN.out]; exact h8), if_pos hd])
    clear hd
    go_wp2_with fail
    go_ret
    exact ⟨by rw [HC.out]; rfl, B0.out⟩
  | true =>
  have HC := Lib.hid (show chkM (own, rs.map Rw.p) = if rowsOk own emp (rs.map Rw.p) then 0 else 2 by unfold chkM; rw [if_neg (by simp only [List.length_map]; rw [HLN.out]; exact h8), if_neg (by rw [hd]; simp)])
  clear hd d1 d2
  go_wp2_with fail
  generalize w.alloc (.cells #[.int .i64 own, .slice A n c] 27) = w0 at *
  generalize hg : w.heap.size = g at *
  go_loopw [3] (fun i wr => ∃ (k : Nat) (last : ByteArray), k ≤ n ∧ i = .int .i64 (k : Int) ∧ (k = 0 → last = emp) ∧ (0 < k → ∃ r, rs[k - 1]? = some r ∧ r.f = last) ∧ rowsOk own last ((rs.map Rw.p).drop k) = rowsOk own emp (rs.map Rw.p) ∧ Below w0.heap.size w0 wr) (fun i _ => n - (intOf i).toNat)
  case atStart => exact ⟨0, emp, Nat.zero_le _, rfl, fun _ => rfl, fun h => absurd h (Nat.lt_irrefl _), rfl, Below.refl _ _⟩
  case round =>
    obtain ⟨k, last, hk, rfl, hl0, hl1, hok, hb⟩ := hrel
    have HO := Lib.hid hok
    have HB := Lib.hid hb
    have hzb := hb.size
    have XR := Lib.hid ((hb.block g (by omega)).trans X0.out)
    have B1 := Lib.hid (B0.out.trans (hb.mono (by omega)))
    have c00 : wr.cell? ⟨g, 0, none⟩ = some (.int .i64 own) := by rw [cell_of_row _ _ 0 _ _ _ XR.out]; rfl
    have c01 : wr.cell? ⟨g, 1, none⟩ = some (.slice A n c) := by rw [cell_of_row _ _ 1 _ _ _ XR.out]; rfl
    clear hok hb
    by_cases hlt : k < n
    · obtain ⟨ad, rf, ra, rn, rc, ds, rfl, hx, ⟨hri, hrn, hrc, hfs⟩, hcs, hc2⟩ := HR.out.at_ hlt
      have HX := Lib.hid hx
      have HRI := Lib.hid (show IReads wr B ra rn ds from Reads.below hri (B1.out.mono hB))
      have HRD := Lib.hid hri.len
      have HRI0 := Lib.hid hri
      obtain ⟨q0, q1⟩ := hc2 wr (B1.out.mono hB)
      have hst := rows_step (own := own) (last := last) (p_at hx)
      rw [HO.out] at hst
      have HST := Lib.hid hst
      have k0 : (0 : Int) ≤ (k : Int) := by omega
      have FV := Lib.hid (fun V => rfolder_v rf V hfs)
      clear hx hri hcs hc2 hst
      cases hf : folderP rf with
      | false =>
        have HE := Lib.hid (show chkM (own, rs.map Rw.p) = 2 by rw [HC.out, HST.out, hf]; rfl)
        rw [hf] at FV
        clear hf hl0 hl1
        go_upto_region 9 with fail
        go_quiet ((go_at_call 30; exact quiet_left (FV.out _)))
        go_wp2_with fail
        go_ret
        exact ⟨by rw [HE.out]; rfl, hg ▸ below_drewN B1.out _⟩
      | true =>
      rw [hf] at FV
      by_cases hk0 : k = 0
      · have hle := hl0 hk0
        subst hle
        have g3 : decide (0 < k) = false := decide_eq_false (by omega)
        have hl : klt emp rf = true := klt_emp ((folderP_iff rf).1 hf).1
        have HS2 := Lib.hid (show rowsOk own emp (rs.map Rw.p) = (withOk own 0 ds && rowsOk own rf ((rs.map Rw.p).drop (k + 1))) by rw [HST.out, hf, hl]; rfl)
        clear hf hl HST HO hl0 hl1 hk0
        have HBQ := Lib.hid (fun q => below_drewN HB.out q)
        go_upto_region 9 with fail
        go_quiet ((go_at_call 30; exact quiet_left (FV.out _)))
        go_wp2_with fail
        go_loopw [5] (fun j wr => ∃ (i : Nat) (pr : Int), i ≤ rn ∧ j = .int .i64 (i : Int) ∧ (i = 0 → pr = 0) ∧ (0 < i → ds[i - 1]? = some pr) ∧ withOk own pr (ds.drop i) = withOk own 0 ds ∧ Below w0.heap.size w0 wr) (fun j _ => rn - (intOf j).toNat)
        case atStart => exact ⟨0, 0, Nat.zero_le _, rfl, fun _ => rfl, fun h => absurd h (Nat.lt_irrefl _), rfl, HBQ.out _⟩
        case round =>
          obtain ⟨i, pr, hi, rfl, hp0, hp1, hwo, hbs⟩ := hrel
          have HW := Lib.hid hwo
          have HBS := Lib.hid hbs
          have XS := Lib.hid ((hbs.block g (by omega)).trans X0.out)
          have BS := Lib.hid (B0.out.trans (hbs.mono (by omega)))
          have c00 : wr.cell? ⟨g, 0, none⟩ = some (.int .i64 own) := by rw [cell_of_row _ _ 0 _ _ _ XS.out]; rfl
          have c01 : wr.cell? ⟨g, 1, none⟩ = some (.slice (some ad) n c) := by rw [cell_of_row _ _ 1 _ _ _ XS.out]; rfl
          clear hwo hbs
          by_cases hin : i < rn
          · have HRI2 := show IReads wr B ra rn ds from Reads.below HRI0.out (BS.out.mono hB)
            obtain ⟨ai, d, hai, hd, hdc⟩ := HRI2.at_ hin
            have i0 : (0 : Int) ≤ (i : Int) := by omega
            have hdc2 := hdc wr (Below.refl _ _)
            have hst := with_step (own := own) (n := pr) hd
            rw [HW.out] at hst
            have HST := Lib.hid hst
            have HD := Lib.hid hd
            have HV := Lib.hid (fun V => rdev_v d V)
            have HPC := Lib.hid (show 0 < i → wr.cell? (ai.add (i - 1)) = some (.int .i64 pr) from fun h0 => by
              obtain ⟨ai', d', h1, h2, h3⟩ := HRI2.at_ (show i - 1 < rn by omega)
              rw [hai] at h1
              injection h1 with h1
              rw [hp1 h0] at h2
              injection h2 with h2
              rw [h1, h2]
              exact h3 wr (Below.refl _ _))
            clear hdc hd hst HRI2 hp1
            subst hai
            cases hdd : dev d with
            | false =>
              have HE := Lib.hid (show chkM (own, rs.map Rw.p) = 2 by rw [HC.out, HS2.out, HST.out, hdd]; rfl)
              rw [hdd] at HV
              clear hdd hp0
              go_upto_region 14 with fail
              go_quiet ((go_at_call 52; exact quiet_left (HV.out _)))
              go_wp2_with fail
              go_ret
              exact ⟨by rw [HE.out]; rfl, hg ▸ below_drewN BS.out _⟩
            | true =>
            rw [hdd] at HV
            by_cases ho : d = own
            · have HE := Lib.hid (show chkM (own, rs.map Rw.p) = 2 by rw [HC.out, HS2.out, HST.out, hdd, ho]; simp)
              have g1 : (d == own) = true := beq_iff_eq.2 ho
              clear hdd ho hp0
              go_upto_region 14 with fail
              go_quiet ((go_at_call 52; exact quiet_left (HV.out _)))
              go_wp2_with fail
              go_ret
              exact ⟨by rw [HE.out]; rfl, hg ▸ below_drewN BS.out _⟩
            have g1 : (d == own) = false := beq_eq_false_iff_ne.2 ho
            by_cases hi0 : 0 < i
            · have g3 : decide (0 < i) = true := decide_eq_true hi0
              have q2 := HPC.out hi0
              have hm3 : (1 : Int) ≤ (i : Int) := by omega
              have hm0 : (0 : Int) ≤ (i : Int) - 1 := by omega
              have hm1 : (i : Int) - 1 < (rn : Int) := by omega
              have hm2 : ((i : Int) - 1).toNat = i - 1 := by omega
              have hwr : IntKind.i64.wrap ((i : Int) - 1) = (i : Int) - 1 := IntWalk.i64_in _ (by omega)
              by_cases hp : pr < d
              case neg =>
                have HE := Lib.hid (show chkM (own, rs.map Rw.p) = 2 by rw [HC.out, HS2.out, HST.out, hdd, decide_eq_false hp]; simp)
                have g2 : decide (d ≤ pr) = true := decide_eq_true (by omega)
                clear hdd ho hp hp0
                go_upto_region 14 with fail
                go_quiet ((go_at_call 52; exact quiet_left (HV.out _)))
                go_wp2_with fail
                go_ret
                exact ⟨by rw [HE.out]; rfl, hg ▸ below_drewN BS.out _⟩
              have g2 : decide (d ≤ pr) = false := decide_eq_false (by omega)
              have HN := Lib.hid (show withOk own d (ds.drop (i + 1)) = withOk own 0 ds by rw [HST.out, hdd, decide_eq_false ho, decide_eq_true hp]; simp)
              clear hdd ho hp hp0
              go_upto_region 14 with fail
              go_quiet ((go_at_call 52; exact quiet_left (HV.out _)))
              go_wp2_with fail
              go_roundw
              case rel => exact ⟨i + 1, d, hin, by go_num, fun h => by omega, fun _ => HD.out, HN.out, below_drewN HBS.out _⟩
              case measure => simp [intOf]; omega
            · have g3 : decide (0 < i) = false := decide_eq_false hi0
              have hpz : pr = 0 := hp0 (by omega)
              have hp : pr < d := by have := (dev_iff.1 hdd).1; omega
              have HN := Lib.hid (show withOk own d (ds.drop (i + 1)) = withOk own 0 ds by rw [HST.out, hdd, decide_eq_false ho, decide_eq_true hp]; simp)
              clear hdd ho hp hp0 hpz
              go_upto_region 14 with fail
              go_quiet ((go_at_call 52; exact quiet_left (HV.out _)))
              go_wp2_with fail
              go_roundw
              case rel => exact ⟨i + 1, d, hin, by go_num, fun h => by omega, fun _ => HD.out, HN.out, below_drewN HBS.out _⟩
              case measure => simp [intOf]; omega
          · obtain rfl : i = rn := by omega
            have HN := Lib.hid (show rowsOk own rf ((rs.map Rw.p).drop (k + 1)) = rowsOk own emp (rs.map Rw.p) by
              have h1 : withOk own 0 ds = true := by rw [← HW.out, List.drop_of_length_le (by rw [HRD.out]; exact Nat.le_refl _)]; rfl
              rw [HS2.out, h1]
              rfl)
            clear hp0 hp1
            go_wp2_with fail
            go_roundw
            case rel => exact ⟨k + 1, rf, hlt, by go_num, fun h => by omega, fun _ => ⟨_, HX.out, rfl⟩, HN.out, HBS.out⟩
            case measure => simp [intOf]; omega
      · obtain ⟨r', hr', hrl⟩ := hl1 (by omega)
        have hkp : 0 < k := by omega
        clear hk0
        obtain ⟨ad', rf', ra', rn', rc', ds', had, hx', _, _, hc2'⟩ := HR.out.at_ (show k - 1 < n by omega)
        injection had with had
        subst had
        rw [hr'] at hx'
        obtain rfl := Option.some.inj hx'
        obtain rfl : rf' = last := hrl
        have q2 := (hc2' wr (B1.out.mono hB)).1
        have g3 : decide (0 < k) = true := decide_eq_true (by omega)
        have hm3 : (1 : Int) ≤ (k : Int) := by omega
        have hm0 : (0 : Int) ≤ (k : Int) - 1 := by omega
        have hm1 : (k : Int) - 1 < (n : Int) := by omega
        have hm2 : ((k : Int) - 1).toNat = k - 1 := by omega
        have hwr : IntKind.i64.wrap ((k : Int) - 1) = (k : Int) - 1 := IntWalk.i64_in _ (by omega)
        clear hr' hx' hc2' hl0 hl1
        cases hl : klt rf' rf with
        | false =>
          have HE := Lib.hid (show chkM (own, rs.map Rw.p) = 2 by rw [HC.out, HST.out, hl]; simp)
          have g4 : Op.bytesLess rf'.toList rf.toList = false := hl
          clear hf hl
          go_upto_region 9 with fail
          go_quiet ((go_at_call 30; exact quiet_left (FV.out _)))
          go_wp2_with fail
          go_ret
          exact ⟨by rw [HE.out]; rfl, hg ▸ below_drewN B1.out _⟩
        | true =>
          have HS2 := Lib.hid (show rowsOk own emp (rs.map Rw.p) = (withOk own 0 ds && rowsOk own rf ((rs.map Rw.p).drop (k + 1))) by rw [HST.out, hf, hl]; rfl)
          have g4 : Op.bytesLess rf'.toList rf.toList = true := hl
          clear hf hl HST HO
          have HBQ := Lib.hid (fun q => below_drewN HB.out q)
          go_upto_region 9 with fail
          go_quiet ((go_at_call 30; exact quiet_left (FV.out _)))
          clear q2 g3 hm3 hm0 hm1 hm2 hwr g4
          go_wp2_with fail
          go_loopw [5] (fun j wr => ∃ (i : Nat) (pr : Int), i ≤ rn ∧ j = .int .i64 (i : Int) ∧ (i = 0 → pr = 0) ∧ (0 < i → ds[i - 1]? = some pr) ∧ withOk own pr (ds.drop i) = withOk own 0 ds ∧ Below w0.heap.size w0 wr) (fun j _ => rn - (intOf j).toNat)
          case atStart => exact ⟨0, 0, Nat.zero_le _, rfl, fun _ => rfl, fun h => absurd h (Nat.lt_irrefl _), rfl, HBQ.out _⟩
          case round =>
            obtain ⟨i, pr, hi, rfl, hp0, hp1, hwo, hbs⟩ := hrel
            have HW := Lib.hid hwo
            have HBS := Lib.hid hbs
            have XS := Lib.hid ((hbs.block g (by omega)).trans X0.out)
            have BS := Lib.hid (B0.out.trans (hbs.mono (by omega)))
            have c00 : wr.cell? ⟨g, 0, none⟩ = some (.int .i64 own) := by rw [cell_of_row _ _ 0 _ _ _ XS.out]; rfl
            have c01 : wr.cell? ⟨g, 1, none⟩ = some (.slice (some ad) n c) := by rw [cell_of_row _ _ 1 _ _ _ XS.out]; rfl
            clear hwo hbs
            by_cases hin : i < rn
            · have HRI2 := show IReads wr B ra rn ds from Reads.below HRI0.out (BS.out.mono hB)
              obtain ⟨ai, d, hai, hd, hdc⟩ := HRI2.at_ hin
              have i0 : (0 : Int) ≤ (i : Int) := by omega
              have hdc2 := hdc wr (Below.refl _ _)
              have hst := with_step (own := own) (n := pr) hd
              rw [HW.out] at hst
              have HST := Lib.hid hst
              have HD := Lib.hid hd
              have HV := Lib.hid (fun V => rdev_v d V)
              have HPC := Lib.hid (show 0 < i → wr.cell? (ai.add (i - 1)) = some (.int .i64 pr) from fun h0 => by
                obtain ⟨ai', d', h1, h2, h3⟩ := HRI2.at_ (show i - 1 < rn by omega)
                rw [hai] at h1
                injection h1 with h1
                rw [hp1 h0] at h2
                injection h2 with h2
                rw [h1, h2]
                exact h3 wr (Below.refl _ _))
              clear hdc hd hst HRI2 hp1
              subst hai
              cases hdd : dev d with
              | false =>
                have HE := Lib.hid (show chkM (own, rs.map Rw.p) = 2 by rw [HC.out, HS2.out, HST.out, hdd]; rfl)
                rw [hdd] at HV
                clear hdd hp0
                go_upto_region 14 with fail
                go_quiet ((go_at_call 52; exact quiet_left (HV.out _)))
                go_wp2_with fail
                go_ret
                exact ⟨by rw [HE.out]; rfl, hg ▸ below_drewN BS.out _⟩
              | true =>
              rw [hdd] at HV
              by_cases ho : d = own
              · have HE := Lib.hid (show chkM (own, rs.map Rw.p) = 2 by rw [HC.out, HS2.out, HST.out, hdd, ho]; simp)
                have g1 : (d == own) = true := beq_iff_eq.2 ho
                clear hdd ho hp0
                go_upto_region 14 with fail
                go_quiet ((go_at_call 52; exact quiet_left (HV.out _)))
                go_wp2_with fail
                go_ret
                exact ⟨by rw [HE.out]; rfl, hg ▸ below_drewN BS.out _⟩
              have g1 : (d == own) = false := beq_eq_false_iff_ne.2 ho
              by_cases hi0 : 0 < i
              · have g3 : decide (0 < i) = true := decide_eq_true hi0
                have q2 := HPC.out hi0
                have hm3 : (1 : Int) ≤ (i : Int) := by omega
                have hm0 : (0 : Int) ≤ (i : Int) - 1 := by omega
                have hm1 : (i : Int) - 1 < (rn : Int) := by omega
                have hm2 : ((i : Int) - 1).toNat = i - 1 := by omega
                have hwr : IntKind.i64.wrap ((i : Int) - 1) = (i : Int) - 1 := IntWalk.i64_in _ (by omega)
                by_cases hp : pr < d
                case neg =>
                  have HE := Lib.hid (show chkM (own, rs.map Rw.p) = 2 by rw [HC.out, HS2.out, HST.out, hdd, decide_eq_false hp]; simp)
                  have g2 : decide (d ≤ pr) = true := decide_eq_true (by omega)
                  clear hdd ho hp hp0
                  go_upto_region 14 with fail
                  go_quiet ((go_at_call 52; exact quiet_left (HV.out _)))
                  go_wp2_with fail
                  go_ret
                  exact ⟨by rw [HE.out]; rfl, hg ▸ below_drewN BS.out _⟩
                have g2 : decide (d ≤ pr) = false := decide_eq_false (by omega)
                have HN := Lib.hid (show withOk own d (ds.drop (i + 1)) = withOk own 0 ds by rw [HST.out, hdd, decide_eq_false ho, decide_eq_true hp]; simp)
                clear hdd ho hp hp0
                go_upto_region 14 with fail
                go_quiet ((go_at_call 52; exact quiet_left (HV.out _)))
                go_wp2_with fail
                go_roundw
                case rel => exact ⟨i + 1, d, hin, by go_num, fun h => by omega, fun _ => HD.out, HN.out, below_drewN HBS.out _⟩
                case measure => simp [intOf]; omega
              · have g3 : decide (0 < i) = false := decide_eq_false hi0
                have hpz : pr = 0 := hp0 (by omega)
                have hp : pr < d := by have := (dev_iff.1 hdd).1; omega
                have HN := Lib.hid (show withOk own d (ds.drop (i + 1)) = withOk own 0 ds by rw [HST.out, hdd, decide_eq_false ho, decide_eq_true hp]; simp)
                clear hdd ho hp hp0 hpz
                go_upto_region 14 with fail
                go_quiet ((go_at_call 52; exact quiet_left (HV.out _)))
                go_wp2_with fail
                go_roundw
                case rel => exact ⟨i + 1, d, hin, by go_num, fun h => by omega, fun _ => HD.out, HN.out, below_drewN HBS.out _⟩
                case measure => simp [intOf]; omega
            · obtain rfl : i = rn := by omega
              have HN := Lib.hid (show rowsOk own rf ((rs.map Rw.p).drop (k + 1)) = rowsOk own emp (rs.map Rw.p) by
                have h1 : withOk own 0 ds = true := by rw [← HW.out, List.drop_of_length_le (by rw [HRD.out]; exact Nat.le_refl _)]; rfl
                rw [HS2.out, h1]
                rfl)
              clear hp0 hp1
              go_wp2_with fail
              go_roundw
              case rel => exact ⟨k + 1, rf, hlt, by go_num, fun h => by omega, fun _ => ⟨_, HX.out, rfl⟩, HN.out, HBS.out⟩
              case measure => simp [intOf]; omega
    · obtain rfl : k = n := by omega
      have HE := Lib.hid (show chkM (own, rs.map Rw.p) = 0 by
        rw [HC.out, ← HO.out, List.drop_of_length_le (by rw [List.length_map, HLN.out]; exact Nat.le_refl _)]
        rfl)
      clear hl0 hl1
      go_wp2_with fail
      go_ret
      exact ⟨by rw [HE.out]; rfl, hg ▸ B1.out⟩
end Go.Proofs.Ytikegnnlmfidfaa
