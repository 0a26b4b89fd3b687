/-
  Matrices: Parts.
-/
import Derived.Test.YtikegnnlmfidfaaMatQ
namespace Go.Proofs.Ytikegnnlmfidfaa
open Go.RowKit
set_option maxRecDepth 100000 in
set_option maxHeartbeats 16000000 in
theorem parts_v (A : Option Addr) (n c B : Nat) (ms : List Mx) (f : ByteArray) (w : World) (hr : MatsR w B A n ms) (hB : B ≤ w.heap.size) (hn : n ≤ 9223372036854775807) :
    Calls Try.prog 12 #[.slice A n c, .string f] w fun e w' => ∃ A' n' c' ls, e = .returned (.slice A' n' c') ∧ (∃ base, w.heap.size ≤ base ∧ OwnL w' base A' n' c' ls) ∧ ls.map Il.ds = partsU (ms.map Mx.p) f ∧ n' ≤ 17 ∧ (∀ l ∈ ls, l.n ≤ 17) ∧ Below w.heap.size w w' := by
  have HIM := Lib.hid (show (Try.prog.info? 27).map (·.size) = some 2 by kernel_rfl)
  have HR := Lib.hid hr
  have HLN := Lib.hid hr.len
  clear hr
  go_enter Try.func12, Try.ntmps12
  go_upto_region 3 with fail
  generalize hg : w.heap.size = g at *
  have HX0 : Hid (∀ w5, w5 = (w.alloc (.cells (ptrL A (ofI (([] : List PM)))).toArray 60)).alloc (.cells ((usL (ofI (([] : List PM)))).map fun x : Nat => Value.int .i64 (x : Int)).toArray 61) → VArr 60 w5 g (ptrL A (ofI (([] : List PM)))) ∧ UArr w5 (g + 1) (usL (ofI (([] : List PM)))) ∧ Below g w w5 ∧ w5.heap.size = g + 2) := Lib.hid fun w5 e => by
    subst e
    refine ⟨?_, ?_, ?_, by simp [hg]⟩
    · have h := heap_alloc_new w (.cells (ptrL A (ofI (([] : List PM)))).toArray 60)
      rw [hg] at h
      exact (Below.heap_alloc _ _ _ (by simp; omega)).trans h
    · have h := heap_alloc_new (w.alloc (.cells (ptrL A (ofI (([] : List PM)))).toArray 60)) (.cells ((usL (ofI (([] : List PM)))).map fun x : Nat => Value.int .i64 (x : Int)).toArray 61)
      rw [show (w.alloc (.cells (ptrL A (ofI (([] : List PM)))).toArray 60)).heap.size = g + 1 by simp [hg]] at h
      exact h
    · exact ((Below.refl g w).alloc (by omega) _).alloc (by simp; omega) _
  obtain ⟨x5, y5, b5, hz5⟩ := HX0.out ((w.alloc (.cells #[.pointer none, .pointer none, .pointer none, .pointer none, .pointer none, .pointer none, .pointer none, .pointer none, .pointer none, .pointer none, .pointer none, .pointer none, .pointer none, .pointer none, .pointer none, .pointer none, .pointer none] 60)).alloc (.cells #[.int .i64 0, .int .i64 0, .int .i64 0, .int .i64 0, .int .i64 0, .int .i64 0, .int .i64 0, .int .i64 0, .int .i64 0, .int .i64 0, .int .i64 0, .int .i64 0, .int .i64 0, .int .i64 0, .int .i64 0, .int .i64 0, .int .i64 0] 61)) rfl
  generalize (w.alloc (.cells #[.pointer none, .pointer none, .pointer none, .pointer none, .pointer none, .pointer none, .pointer none, .pointer none, .pointer none, .pointer none, .pointer none, .pointer none, .pointer none, .pointer none, .pointer none, .pointer none, .pointer none] 60)).alloc (.cells #[.int .i64 0, .int .i64 0, .int .i64 0, .int .i64 0, .int .i64 0, .int .i64 0, .int .i64 0, .int .i64 0, .int .i64 0, .int .i64 0, .int .i64 0, .int .i64 0, .int .i64 0, .int .i64 0, .int .i64 0, .int .i64 0, .int .i64 0] 61) = w5 at *
  have X5 := Lib.hid x5
  have Y5 := Lib.hid y5
  have B5 := Lib.hid b5
  clear x5 y5 b5 HX0
  go_wp2_with fail
  go_loopw [22] (fun i wr => ∃ k : Nat, k ≤ n ∧ i = .int .i64 (k : Int) ∧ Below g w wr ∧ VArr 60 wr g (ptrL A (ofI ((ms.map Mx.p).take k))) ∧ UArr wr (g + 1) (usL (ofI ((ms.map Mx.p).take k)))) (fun i _ => n - (intOf i).toNat)
  case atStart => exact ⟨0, Nat.zero_le _, rfl, B5.out, X5.out, Y5.out⟩
  case round =>
    obtain ⟨k, hk, rfl, hb, hx, hy⟩ := hrel
    have HB := Lib.hid hb
    have HX := Lib.hid hx
    have HY := Lib.hid hy
    have hzr : g + 2 ≤ wr.heap.size := by have := hy.lt; omega
    clear hb hx hy X5 Y5 B5
    by_cases hlt : k < n
    · obtain ⟨ad, own, ra, rn, rc, rs, rfl, hx, hri, hrn, hcs, hc2⟩ := HR.out.at_ hlt
      have HMX := Lib.hid hx
      have HRI := Lib.hid hri
      have HCS := Lib.hid (hcs wr (HB.out.mono hB))
      have c0 := hc2 wr (HB.out.mono hB)
      have HST := Lib.hid (ofI_step (ms := ms.map Mx.p) (k := k) (m := (own, rs.map Rw.p)) (by rw [List.getElem?_map, hx]; rfl))
      have k0 : (0 : Int) ≤ (k : Int) := by omega
      clear hx hri hcs hc2
      go_upto_region 7 with fail
      go_wp2_with (first
        | (refine wpList_load_slot rfl 27 (.tmp 32) rfl (ad.add (k * 2)) rfl [.int .i64 own, .slice ra rn rc] _ HCS.out Try.underlying27 rfl HIM.out ?_)
        | fail)
      have CV := check_v own ra rn rc B rs wr (HRI.out.below (HB.out.mono hB)) (by omega) hrn
      obtain ⟨ck, hck⟩ : ∃ ck, chkM (own, rs.map Rw.p) = ck := ⟨_, rfl⟩
      have HCK := Lib.hid hck
      rw [hck] at CV
      clear hck
      refine CV.mono ?_
      rintro e w1 ⟨rfl, b1⟩
      have HB1 := Lib.hid (HB.out.trans (b1.mono (by omega)))
      have HX1 := Lib.hid (HX.out.below b1)
      have HY1 := Lib.hid (HY.out.below b1)
      have hz1 := b1.size
      clear b1 CV c0 HCS HX HY HB
      by_cases h0 : ck = 0
      case neg =>
        have d1 : ((ck : Int) == 0) = false := beq_eq_false_iff_ne.2 (by omega)
        have HS2 := Lib.hid (show ofI ((ms.map Mx.p).take (k + 1)) = ofI ((ms.map Mx.p).take k) from funext fun j => by
          rw [HST.out]
          unfold okAt
          rw [HCK.out, decide_eq_false h0]
          simp)
        clear h0
        go_wp2_with fail
        go_roundw
        case rel => exact ⟨k + 1, hlt, by go_num, HB1.out, by rw [HS2.out]; exact HX1.out, by rw [HS2.out]; exact HY1.out⟩
        case measure => simp [intOf]; omega
      subst h0
      obtain ⟨q, hq, rfl⟩ : ∃ q : Nat, q < 17 ∧ own = (q : Int) := by
        have h1 := dev_iff.1 (chk_ok HCK.out).2.1
        exact ⟨own.toNat, by simp only at h1; omega, by simp only at h1; omega⟩
      have q0 : (0 : Int) ≤ (q : Int) := by omega
      have q1 : (q : Int) < 17 := by omega
      have d1 : (((0 : Nat) : Int) == 0) = true := rfl
      obtain ⟨o, ho⟩ : ∃ o, ofI ((ms.map Mx.p).take k) q = o := ⟨_, rfl⟩
      have HOK := Lib.hid (show ∀ j, okAt ((q : Int), rs.map Rw.p) j = decide (q = j) from fun j => by
        unfold okAt
        rw [HCK.out]
        simp only [decide_true, Bool.true_and]
        by_cases h : q = j
        · subst h; simp
        · rw [decide_eq_false h]; simp; omega)
      have c1 := VArr.cell HX1.out (ptrL_at (A := some ad) (os := ofI ((ms.map Mx.p).take k)) hq)
      rw [ho] at c1
      have HO := Lib.hid ho
      clear ho
      cases o with
      | some i0 =>
        have HS2 := Lib.hid (show ofI ((ms.map Mx.p).take (k + 1)) = ofI ((ms.map Mx.p).take k) from funext fun j => by
          rw [HST.out, HOK.out]
          by_cases h : q = j
          · subst h; rw [HO.out]; rfl
          · rw [decide_eq_false h]; simp)
        simp only [Option.bind_some, Option.map_some] at c1
        go_wp2_with fail
        go_roundw
        case rel => exact ⟨k + 1, hlt, by go_num, HB1.out, by rw [HS2.out]; exact HX1.out, by rw [HS2.out]; exact HY1.out⟩
        case measure => simp [intOf]; omega
      | none =>
        simp only [Option.bind_none] at c1
        have f0 := VArr.frozen HX1.out q
        have f1 := VArr.frozen (VArr.setOther HY1.out (p := ⟨g, q, none⟩) (by simp) (.pointer (some (ad.add (k * 2))))) q
        have c2 := VArr.cell (VArr.setOther HY1.out (p := ⟨g, q, none⟩) (by simp) (.pointer (some (ad.add (k * 2))))) (j := q) (x := .int .i64 0) (by
          unfold usL
          rw [List.map_map, List.getElem?_map, List.getElem?_range hq]
          simp only [Function.comp, Option.map_some]
          rw [HO.out]
          rfl)
        have HX2 := Lib.hid (VArr.set_ HX1.out q (.pointer (some (ad.add (k * 2)))))
        have HY2 := Lib.hid (VArr.set_ (VArr.setOther HY1.out (p := ⟨g, q, none⟩) (by simp) (.pointer (some (ad.add (k * 2))))) q (.int .i64 (q : Int)))
        have HX3 := Lib.hid (VArr.setOther HX2.out (p := ⟨g + 1, q, none⟩) (by simp) (.int .i64 (q : Int)))
        have HB2 := Lib.hid ((HB1.out.setCell (p := ⟨g, q, none⟩) (Nat.le_refl _) (.pointer (some (ad.add (k * 2))))).setCell (p := ⟨g + 1, q, none⟩) (show g ≤ g + 1 by omega) (.int .i64 (q : Int)))
        have HXS := Lib.hid (show (ptrL (some ad) (ofI ((ms.map Mx.p).take k))).set q (.pointer (some (ad.add (k * 2)))) = ptrL (some ad) (ofI ((ms.map Mx.p).take (k + 1))) from range_set (by rw [HST.out, HOK.out, HO.out]; simp) (fun j hj => by rw [HST.out, HOK.out, decide_eq_false (fun e => hj e.symm)]; simp))
        have HYS := Lib.hid (show ((usL (ofI ((ms.map Mx.p).take k))).map fun x : Nat => Value.int .i64 (x : Int)).set q (.int .i64 (q : Int)) = (usL (ofI ((ms.map Mx.p).take (k + 1)))).map fun x : Nat => Value.int .i64 (x : Int) by
          unfold usL
          rw [List.map_map, List.map_map]
          refine range_set ?_ (fun j hj => ?_)
          · simp only [Function.comp]
            rw [HST.out, HOK.out, HO.out]
            simp
          · simp only [Function.comp]
            rw [HST.out, HOK.out, decide_eq_false (fun e => hj e.symm)]
            simp)
        go_wp2_with fail
        go_roundw
        case rel => exact ⟨k + 1, hlt, by go_num, HB2.out, by rw [← HXS.out]; exact HX3.out, by unfold UArr; rw [← HYS.out]; exact HY2.out⟩
        case measure => simp [intOf]; omega
    · obtain rfl : k = n := by omega
      have HX2 := Lib.hid (show VArr 60 wr g (ptrL A (ofI (ms.map Mx.p))) by have h := HX.out; rwa [List.take_of_length_le (by rw [List.length_map, HLN.out]; exact Nat.le_refl _)] at h)
      have HY2 := Lib.hid (show UArr wr (g + 1) (usL (ofI (ms.map Mx.p))) by have h := HY.out; rwa [List.take_of_length_le (by rw [List.length_map, HLN.out]; exact Nat.le_refl _)] at h)
      have HU0 := Lib.hid (show UOk (usL (ofI (ms.map Mx.p))) from ⟨usL_len _, usL_le _⟩)
      obtain ⟨us0, hus0⟩ : ∃ us0, usL (ofI (ms.map Mx.p)) = us0 := ⟨_, rfl⟩
      have HUS := Lib.hid hus0
      rw [hus0] at HY2 HU0
      clear hus0 HX HY
      obtain ⟨both, hbo⟩ : ∃ both, bothI (ms.map Mx.p) f = both := ⟨_, rfl⟩
      have HBO := Lib.hid hbo
      clear hbo
      go_wp2_with fail
      go_loopw [51] (fun i V => ∃ a : Nat, a ≤ 17 ∧ i = .int .i64 (a : Int) ∧ Below g w V ∧ VArr 60 V g (ptrL A (ofI (ms.map Mx.p))) ∧ UArr V (g + 1) (outerU both us0 a)) (fun i _ => 17 - (intOf i).toNat)
      case atStart => exact ⟨0, by omega, rfl, HB.out, HX2.out, HY2.out⟩
      case round =>
        clear HB HX2 HY2
        obtain ⟨a, ha, rfl, hb, hx, hy⟩ := hrel
        have HB := Lib.hid hb
        have HX := Lib.hid hx
        have HY := Lib.hid hy
        clear hb hx hy hzr
        by_cases ha2 : a < 17
        · have a0 : (0 : Int) ≤ (a : Int) := by omega
          have a1 : (a : Int) < 17 := by omega
          have HU1 := Lib.hid (HU0.out.outer both a)
          obtain ⟨us1, hus1⟩ : ∃ us1, outerU both us0 a = us1 := ⟨_, rfl⟩
          have HUS1 := Lib.hid hus1
          rw [hus1] at HY HU1
          clear hus1
          go_wp2_with fail
          go_loopw [55] (fun i V => ∃ b : Nat, b ≤ a ∧ i = .int .i64 (b : Int) ∧ Below g w V ∧ VArr 60 V g (ptrL A (ofI (ms.map Mx.p))) ∧ UArr V (g + 1) (innerU both us1 a b)) (fun i _ => a - (intOf i).toNat)
          case atStart => exact ⟨0, by omega, rfl, HB.out, HX.out, HY.out⟩
          case round =>
            clear HB HX HY
            obtain ⟨b, hb2, rfl, hb, hx, hy⟩ := hrel
            have HB := Lib.hid hb
            have HX := Lib.hid hx
            have HY := Lib.hid hy
            clear hb hx hy
            by_cases hb3 : b < a
            · have b0 : (0 : Int) ≤ (b : Int) := by omega
              have b1 : (b : Int) < 17 := by omega
              have b2 : (b : Int) < (a : Int) := by omega
              have HU2 := Lib.hid (HU1.out.inner both a b)
              have HST := Lib.hid (innerU_succ both us1 a b)
              obtain ⟨us2, hus2⟩ : ∃ us2, innerU both us1 a b = us2 := ⟨_, rfl⟩
              rw [hus2] at HY HU2 HST
              clear hus2
              have hzr : g + 2 ≤ wr.heap.size := by have := HY.out.lt; omega
              have c0 := VArr.cell HX.out (ptrL_at (A := A) (os := ofI (ms.map Mx.p)) ha2)
              have c1 := VArr.cell HX.out (ptrL_at (A := A) (os := ofI (ms.map Mx.p)) (show b < 17 by omega))
              have hbv : both a b = bothI (ms.map Mx.p) f a b := by rw [HBO.out]
              unfold bothI at hbv
              obtain ⟨oa, hoa⟩ : ∃ o, ofI (ms.map Mx.p) a = o := ⟨_, rfl⟩
              obtain ⟨ob, hob⟩ : ∃ o, ofI (ms.map Mx.p) b = o := ⟨_, rfl⟩
              rw [hoa] at c0 hbv
              rw [hob] at c1 hbv
              have HOA := Lib.hid hoa
              have HOB := Lib.hid hob
              have HBV := Lib.hid hbv
              clear hoa hob hbv
              go_upto_region 16 with fail
              cases oa with
              | none =>
                have HN := Lib.hid (show innerU both us1 a (b + 1) = us2 by rw [HST.out]; unfold stepU; rw [HBV.out]; rfl)
                simp only [Option.bind_none] at c0
                go_quiet (fail)
                go_wp2_with fail
                go_roundw
                case rel => exact ⟨b + 1, by omega, by go_num, below_drewN HB.out _, HX.out, by rw [HN.out]; exact HY.out⟩
                case measure => simp [intOf]; omega
              | some i1 =>
              obtain ⟨ad, own, ra, rn, rc, rs, rfl, hx, hri, hrn, hcs, hc2⟩ := HR.out.at_ (show i1 < k by rw [← HLN.out]; exact ofI_lt HOA.out)
              simp only [Option.bind_some, Option.map_some] at c0
              cases ob with
              | none =>
                have HN := Lib.hid (show innerU both us1 a (b + 1) = us2 by rw [HST.out]; unfold stepU; rw [HBV.out]; rfl)
                clear hx hri hcs hc2
                simp only [Option.bind_none] at c1
                go_quiet (fail)
                go_wp2_with fail
                go_roundw
                case rel => exact ⟨b + 1, by omega, by go_num, below_drewN HB.out _, HX.out, by rw [HN.out]; exact HY.out⟩
                case measure => simp [intOf]; omega
              | some i2 =>
              obtain ⟨ad', own', ra', rn', rc', rs', hA, hx', hri', hrn', hcs', hc2'⟩ := HR.out.at_ (show i2 < k by rw [← HLN.out]; exact ofI_lt HOB.out)
              obtain rfl := Option.some.inj hA
              simp only [Option.bind_some, Option.map_some] at c1
              have HBV2 := Lib.hid (show both a b = bothP (own, rs.map Rw.p) (own', rs'.map Rw.p) f by
                rw [HBV.out]
                simp only
                rw [getD_p hx, getD_p hx']
                rfl)
              have HRI := Lib.hid hri
              have HRI' := Lib.hid hri'
              have hS : wr.drew.cell? ⟨g, a, none⟩ = some (.pointer (some (ad.add (i1 * 2)))) ∧ wr.drew.cell? ⟨g, b, none⟩ = some (.pointer (some (ad.add (i2 * 2)))) ∧ wr.drew.cell? (ad.add (i1 * 2)) = some (.int .i64 own) ∧ wr.drew.cell? ⟨(ad.add (i1 * 2)).block, (ad.add (i1 * 2)).off + 1, none⟩ = some (.slice ra rn rc) ∧ wr.drew.cell? (ad.add (i2 * 2)) = some (.int .i64 own') ∧ wr.drew.cell? ⟨(ad.add (i2 * 2)).block, (ad.add (i2 * 2)).off + 1, none⟩ = some (.slice ra' rn' rc') :=
                ⟨c0, c1, hc2 wr (HB.out.mono hB), hcs wr (HB.out.mono hB) 1 _ rfl, hc2' wr (HB.out.mono hB), hcs' wr (HB.out.mono hB) 1 _ rfl⟩
              clear c0 c1 hx hx' hri hri' hcs hcs' hc2 hc2'
              refine wp_region_text [(0, false), (1, false), (2, false), (3, false), (4, false), (5, false), (6, false), (7, false), (8, false), (9, false), (10, false), (11, false), (12, false), (13, false), (14, false), (15, false), (16, false), (17, false), (18, false), (19, false), (20, false), (21, false), (22, true), (23, false)] (fun V => V.cell? ⟨g, a, none⟩ = some (.pointer (some (ad.add (i1 * 2)))) ∧ V.cell? ⟨g, b, none⟩ = some (.pointer (some (ad.add (i2 * 2)))) ∧ V.cell? (ad.add (i1 * 2)) = some (.int .i64 own) ∧ V.cell? ⟨(ad.add (i1 * 2)).block, (ad.add (i1 * 2)).off + 1, none⟩ = some (.slice ra rn rc) ∧ V.cell? (ad.add (i2 * 2)) = some (.int .i64 own') ∧ V.cell? ⟨(ad.add (i2 * 2)).block, (ad.add (i2 * 2)).off + 1, none⟩ = some (.slice ra' rn' rc')) (by kernel_rfl) (by kernel_rfl) (by kernel_rfl) (by kernel_rfl) (by kernel_rfl) (fun d => ?_)
              simp only [outOf, List.getElem?_cons_zero, List.getElem?_cons_succ, Option.getD_some]
              have HB1 := Lib.hid (HB.out.drew)
              have HX1 := Lib.hid (show VArr 60 wr.drew g _ from HX.out)
              have HY1 := Lib.hid (show UArr wr.drew (g + 1) us2 from HY.out)
              have hzr1 : g + 2 ≤ wr.drew.heap.size := hzr
              clear HB HX HY hzr
              generalize wr.drew = w1 at *
              iterate 22 ((first | (refine TW.val2 (v := ?_) ?_ ?_ ?_ ?_ ?_; rotate_left; (focus rfl); (focus (intro W hSW; (try dsimp only at hSW); (try (obtain ⟨hS1, hSW⟩ := hSW)); (try (obtain ⟨hS2, hSW⟩ := hSW)); (try (obtain ⟨hS3, hSW⟩ := hSW)); (try (obtain ⟨hS4, hSW⟩ := hSW)); (try (obtain ⟨hS5, hSW⟩ := hSW)); (try (obtain ⟨hS6, hSW⟩ := hSW)); (try (obtain ⟨hS7, hSW⟩ := hSW)); (try (obtain ⟨hS8, hSW⟩ := hSW)); go_simp; (try with_reducible rfl); done)); (focus exact fun _ _ _ h => h); (focus assumption)) | (refine TW.skip (e := false) ?_ ?_ ?_ ?_; (focus rfl); (focus exact fun _ _ _ h => h); (focus assumption))); simp only [Act.put, List.setIfInBounds_toArray, List.set_cons_zero, List.set_cons_succ])
              refine TW.eff (by rfl) (fun K hK => ?_); go_simp
              refine (both_v own own' ra ra' rn rc rn' rc' B rs rs' f w1 (HRI.out.below (HB1.out.mono hB)) (HRI'.out.below (HB1.out.mono hB)) (by omega) hrn hrn').mono ?_
              rintro e w2 ⟨rfl, b5⟩
              have hS2 := (⟨keepc b5 hS.1, keepc b5 hS.2.1, keepc b5 hS.2.2.1, keepc b5 hS.2.2.2.1, keepc b5 hS.2.2.2.2.1, keepc b5 hS.2.2.2.2.2⟩ : w2.cell? ⟨g, a, none⟩ = some (.pointer (some (ad.add (i1 * 2)))) ∧ w2.cell? ⟨g, b, none⟩ = some (.pointer (some (ad.add (i2 * 2)))) ∧ w2.cell? (ad.add (i1 * 2)) = some (.int .i64 own) ∧ w2.cell? ⟨(ad.add (i1 * 2)).block, (ad.add (i1 * 2)).off + 1, none⟩ = some (.slice ra rn rc) ∧ w2.cell? (ad.add (i2 * 2)) = some (.int .i64 own') ∧ w2.cell? ⟨(ad.add (i2 * 2)).block, (ad.add (i2 * 2)).off + 1, none⟩ = some (.slice ra' rn' rc'))
              have HB2 := Lib.hid (HB1.out.trans (b5.mono (by omega)))
              have HX2 := Lib.hid (HX1.out.below b5)
              have HY2 := Lib.hid (HY1.out.below b5)
              clear hS b5 HB1 HX1 HY1
              go_wp2_with fail; refine hK.out _ _ hS2 ?_; clear hK; (try simp only [Act.put, List.setIfInBounds_toArray, List.set_cons_zero, List.set_cons_succ])
              iterate 1 ((first | (refine TW.val2 (v := ?_) ?_ ?_ ?_ ?_ ?_; rotate_left; (focus rfl); (focus (intro W hSW; (try dsimp only at hSW); (try (obtain ⟨hS1, hSW⟩ := hSW)); (try (obtain ⟨hS2, hSW⟩ := hSW)); (try (obtain ⟨hS3, hSW⟩ := hSW)); (try (obtain ⟨hS4, hSW⟩ := hSW)); (try (obtain ⟨hS5, hSW⟩ := hSW)); (try (obtain ⟨hS6, hSW⟩ := hSW)); (try (obtain ⟨hS7, hSW⟩ := hSW)); (try (obtain ⟨hS8, hSW⟩ := hSW)); go_simp; (try with_reducible rfl); done)); (focus exact fun _ _ _ h => h); (focus assumption)) | (refine TW.skip (e := false) ?_ ?_ ?_ ?_; (focus rfl); (focus exact fun _ _ _ h => h); (focus assumption))); simp only [Act.put, List.setIfInBounds_toArray, List.set_cons_zero, List.set_cons_succ])
              refine TW.done ?_
              clear hS2
              cases hbp : bothP (own, rs.map Rw.p) (own', rs'.map Rw.p) f with
              | false =>
                have HN := Lib.hid (show innerU both us1 a (b + 1) = us2 by rw [HST.out]; unfold stepU; rw [HBV2.out, hbp]; rfl)
                clear hbp
                go_wp2_with fail
                go_roundw
                case rel => exact ⟨b + 1, by omega, by go_num, HB2.out, HX2.out, by rw [HN.out]; exact HY2.out⟩
                case measure => simp [intOf]; omega
              | true =>
                obtain ⟨x, hx⟩ : ∃ x, rootU us2 a = x := ⟨_, rfl⟩
                obtain ⟨y, hy⟩ : ∃ y, rootU us2 b = y := ⟨_, rfl⟩
                have HN := Lib.hid (show innerU both us1 a (b + 1) = us2.set (max x y) (min x y) by rw [HST.out]; unfold stepU; rw [HBV2.out, hbp, hx, hy]; rfl)
                have R1 := root_v us2 (g + 1) w2 HU2.out.1 HY2.out HU2.out.2 a ha2
                have R2 := root_v us2 (g + 1) w2 HU2.out.1 HY2.out HU2.out.2 b (by omega)
                have hxa := rootU_le us2 a
                have hyb := rootU_le us2 b
                rw [hx] at R1 hxa
                rw [hy] at R2 hyb
                clear hbp hx hy
                go_wp2_with fail
                refine R1.mono ?_
                rintro e _ ⟨rfl, rfl⟩
                go_wp2_with fail
                refine R2.mono ?_
                rintro e _ ⟨rfl, rfl⟩
                clear R1 R2
                go_upto_region 18 with fail
                rcases Nat.lt_trichotomy x y with hxy | hxy | hxy
                · skip
                  have HN2 := Lib.hid (show innerU both us1 a (b + 1) = us2.set y x by rw [HN.out, Nat.max_eq_right (by omega), Nat.min_eq_left (by omega)])
                  have o0 : (x : Int) < (y : Int) := by omega
                  have o1 : (x : Int) ≤ (y : Int) := by omega
                  have o2 : ¬ (y : Int) < (x : Int) := by omega
                  have o3 : ¬ (y : Int) ≤ (x : Int) := by omega
                  obtain ⟨z, hz⟩ : ∃ z, us2[y]? = some z := ⟨_, List.getElem?_eq_getElem (by have := HU2.out.1; omega)⟩
                  have c5 := UArr.at_ HY2.out hz
                  have f5 := VArr.frozen HY2.out y
                  have m0 : (0 : Int) ≤ (y : Int) := by omega
                  have m1 : (y : Int) < 17 := by omega
                  clear hz
                  have HX3 := Lib.hid (VArr.setOther HX2.out (p := ⟨g + 1, y, none⟩) (by simp) (.int .i64 (x : Int)))
                  have HB3 := Lib.hid (HB2.out.setCell (p := ⟨g + 1, y, none⟩) (show g ≤ g + 1 by omega) (.int .i64 (x : Int)))
                  have HY3 := Lib.hid (show UArr (w2.setCell ⟨g + 1, y, none⟩ (.int .i64 (x : Int))) (g + 1) (us2.set y x) by
                    have h := VArr.set_ HY2.out y (.int .i64 (x : Int))
                    unfold UArr
                    rw [List.map_set]
                    exact h)
                  go_wp2_with fail
                  go_roundw
                  case rel => exact ⟨b + 1, by omega, by go_num, HB3.out, HX3.out, by rw [HN2.out]; exact HY3.out⟩
                  case measure => simp [intOf]; omega
                · subst hxy
                  have HN2 := Lib.hid (show innerU both us1 a (b + 1) = us2.set x x by rw [HN.out, Nat.max_self, Nat.min_self])
                  have o0 : ¬ (x : Int) < (x : Int) := by omega
                  have o1 : (x : Int) ≤ (x : Int) := by omega
                  obtain ⟨z, hz⟩ : ∃ z, us2[x]? = some z := ⟨_, List.getElem?_eq_getElem (by have := HU2.out.1; omega)⟩
                  have c5 := UArr.at_ HY2.out hz
                  have f5 := VArr.frozen HY2.out x
                  have m0 : (0 : Int) ≤ (x : Int) := by omega
                  have m1 : (x : Int) < 17 := by omega
                  clear hz
                  have HX3 := Lib.hid (VArr.setOther HX2.out (p := ⟨g + 1, x, none⟩) (by simp) (.int .i64 (x : Int)))
                  have HB3 := Lib.hid (HB2.out.setCell (p := ⟨g + 1, x, none⟩) (show g ≤ g + 1 by omega) (.int .i64 (x : Int)))
                  have HY3 := Lib.hid (show UArr (w2.setCell ⟨g + 1, x, none⟩ (.int .i64 (x : Int))) (g + 1) (us2.set x x) by
                    have h := VArr.set_ HY2.out x (.int .i64 (x : Int))
                    unfold UArr
                    rw [List.map_set]
                    exact h)
                  go_wp2_with fail
                  go_roundw
                  case rel => exact ⟨b + 1, by omega, by go_num, HB3.out, HX3.out, by rw [HN2.out]; exact HY3.out⟩
                  case measure => simp [intOf]; omega
                · skip
                  have HN2 := Lib.hid (show innerU both us1 a (b + 1) = us2.set x y by rw [HN.out, Nat.max_eq_left (by omega), Nat.min_eq_right (by omega)])
                  have o0 : (y : Int) < (x : Int) := by omega
                  have o1 : (y : Int) ≤ (x : Int) := by omega
                  have o2 : ¬ (x : Int) < (y : Int) := by omega
                  have o3 : ¬ (x : Int) ≤ (y : Int) := by omega
                  obtain ⟨z, hz⟩ : ∃ z, us2[x]? = some z := ⟨_, List.getElem?_eq_getElem (by have := HU2.out.1; omega)⟩
                  have c5 := UArr.at_ HY2.out hz
                  have f5 := VArr.frozen HY2.out x
                  have m0 : (0 : Int) ≤ (x : Int) := by omega
                  have m1 : (x : Int) < 17 := by omega
                  clear hz
                  have HX3 := Lib.hid (VArr.setOther HX2.out (p := ⟨g + 1, x, none⟩) (by simp) (.int .i64 (y : Int)))
                  have HB3 := Lib.hid (HB2.out.setCell (p := ⟨g + 1, x, none⟩) (show g ≤ g + 1 by omega) (.int .i64 (y : Int)))
                  have HY3 := Lib.hid (show UArr (w2.setCell ⟨g + 1, x, none⟩ (.int .i64 (y : Int))) (g + 1) (us2.set x y) by
                    have h := VArr.set_ HY2.out x (.int .i64 (y : Int))
                    unfold UArr
                    rw [List.map_set]
                    exact h)
                  go_wp2_with fail
                  go_roundw
                  case rel => exact ⟨b + 1, by omega, by go_num, HB3.out, HX3.out, by rw [HN2.out]; exact HY3.out⟩
                  case measure => simp [intOf]; omega
            · obtain rfl : b = a := by omega
              have HN := Lib.hid (show outerU both us0 (b + 1) = innerU both us1 b b by rw [outerU_succ, HUS1.out])
              go_wp2_with fail
              go_roundw
              case rel => exact ⟨b + 1, by omega, by go_num, HB.out, HX.out, by rw [HN.out]; exact HY.out⟩
              case measure => simp [intOf]; omega
        · obtain rfl : a = 17 := by omega
          have HUF := Lib.hid (HU0.out.outer both 17)
          obtain ⟨us, hus⟩ : ∃ us, outerU both us0 17 = us := ⟨_, rfl⟩
          have HUS2 := Lib.hid (show outerU (bothI (ms.map Mx.p) f) (usL (ofI (ms.map Mx.p))) 17 = us by rw [HUS.out, HBO.out, hus])
          rw [hus] at HY HUF
          clear hus HU0 HUS HBO
          obtain ⟨has, hhas⟩ : ∃ has, hasI (ms.map Mx.p) f = has := ⟨_, rfl⟩
          have HHS := Lib.hid hhas
          clear hhas
          obtain ⟨vs, hvs⟩ : ∃ vs, ptrL A (ofI (ms.map Mx.p)) = vs := ⟨_, rfl⟩
          have HVS := Lib.hid hvs
          have HVL := Lib.hid (show vs.length = 17 by rw [← hvs]; unfold ptrL; simp)
          rw [hvs] at HX
          clear hvs
          have hgl := HY.out.lt
          have hmk := run_makeMap (P := Try.prog) 34 wr
          go_upto_region 23 with fail
          clear hmk
          have HXA := Lib.hid (HX.out.alloc (.map #[] 0))
          have HMA := Lib.hid (show IMap (wr.alloc (.map #[] 0)) wr.heap.size [] from MapIs.made wr)
          have BA := Lib.hid ((Below.refl wr.heap.size wr).alloc (Nat.le_refl _) (.map #[] 0))
          have hza : (wr.alloc (.map #[] 0)).heap.size = wr.heap.size + 1 := by simp
          have HCS := Lib.hid (show ∀ (j : Nat) (u : Value), vs[j]? = some u → (wr.alloc (.map #[] 0)).cell? ((⟨g, 0, none⟩ : Addr).add j) = some u from fun j u hu => by
            have h := VArr.cell HXA.out hu
            rw [show (⟨g, 0, none⟩ : Addr).add j = ⟨g, j, none⟩ by simp [Addr.add]; omega]
            exact h)
          generalize wr.alloc (.map #[] 0) = wa at *
          generalize hgm : wr.heap.size = gm at *
          go_upto_region 24 with (first
            | (refine wpList_load_slot rfl 60 (.tmp 5) rfl ⟨g, 0, none⟩ rfl vs _ HCS.out Try.underlying60 rfl (by rw [HVL.out]; exact info_ptrs) ?_)
            | fail)
          go_wp2_with fail
          go_loopw [13, 97] (fun o i V => ∃ (q m c' : Nat) (A' : Option Addr) (ls : List Il), q ≤ 17 ∧ i = .int .i64 (q : Int) ∧ o = .slice A' m c' ∧ OwnL V (gm + 1) A' m c' ls ∧ ls.map Il.ds = (groupG has (rootU us) q).2 ∧ IMap V gm (groupG has (rootU us) q).1 ∧ Below gm wr V) (fun _ i _ => 17 - (intOf i).toNat)
          case atStart => exact ⟨0, 0, 0, none, [], by omega, rfl, rfl, OwnL.nil_ _ _, rfl, HMA.out, BA.out⟩
          case round =>
            obtain ⟨q, m, c', A', ls, hq, rfl, rfl, ho, hds, hm, hb⟩ := hrel
            have HOV := Lib.hid ho
            have HDS := Lib.hid hds
            have HMV := Lib.hid hm
            have HBV := Lib.hid hb
            have hzv : gm + 1 ≤ wr.heap.size := hm.lt
            have HGK := Lib.hid (groupG_ok has (rootU us) q)
            have HST := Lib.hid (groupG_succ has (rootU us) q)
            obtain ⟨⟨E, out⟩, hEO⟩ : ∃ s, groupG has (rootU us) q = s := ⟨_, rfl⟩
            rw [hEO] at HDS HMV HGK HST
            simp only at HDS HMV
            have hml : m ≤ q := by
              have h1 := ho.len
              have h2 := HGK.out.len
              have h3 := congrArg List.length HDS.out
              rw [List.length_map] at h3
              simp only at h2
              omega
            have HOL := Lib.hid (show out.length = m by rw [← HDS.out, List.length_map, ho.len])
            have HLN2 := Lib.hid HGK.out.each
            simp only at HLN2
            clear ho hds hm hb HMA HXA BA
            by_cases hq2 : q < 17
            · have q0 : (0 : Int) ≤ (q : Int) := by omega
              have q1 : (q : Int) < 17 := by omega
              have hvq := ptrL_at (A := A) (os := ofI (ms.map Mx.p)) hq2
              rw [HVS.out] at hvq
              have hhq : has q = hasI (ms.map Mx.p) f q := by rw [HHS.out]
              unfold hasI at hhq
              obtain ⟨oq, hoq⟩ : ∃ o, ofI (ms.map Mx.p) q = o := ⟨_, rfl⟩
              rw [hoq] at hvq hhq
              have HOQ := Lib.hid hoq
              have HHQ := Lib.hid hhq
              have hix := run_index_ptrs wr vs q _ hq2 hvq
              clear hvq hoq hhq
              cases oq with
              | none =>
                have HN := Lib.hid (show groupG has (rootU us) (q + 1) = (E, out) by rw [HST.out]; unfold stepG; rw [HHQ.out]; rfl)
                simp only [Option.bind_none] at hix
                go_wp2_with fail
                go_roundw
                case rel => exact ⟨q + 1, m, c', A', ls, by omega, by go_num, rfl, HOV.out, by rw [HN.out]; exact HDS.out, by rw [HN.out]; exact HMV.out, HBV.out⟩
                case measure => simp [intOf]; omega
              | some i1 =>
              obtain ⟨ad, own, ra, rn, rc, rs, rfl, hx, hri, hrn, hcs, hc2⟩ := HR.out.at_ (show i1 < k by rw [← HLN.out]; exact ofI_lt HOQ.out)
              simp only [Option.bind_some, Option.map_some] at hix
              have HRB := Lib.hid (HB.out.trans (HBV.out.mono (show g ≤ gm by omega)))
              have HRI := Lib.hid hri
              have HKS := Lib.hid (hcs wr (HRB.out.mono hB))
              have hs0 := hc2 wr (HRB.out.mono hB)
              have hs1 : wr.cell? ⟨(ad.add (i1 * 2)).block, (ad.add (i1 * 2)).off + 1, none⟩ = some (.slice ra rn rc) := hcs wr (HRB.out.mono hB) 1 _ rfl
              have HHQ2 := Lib.hid (show has q = hasP (own, rs.map Rw.p) f by
                rw [HHQ.out]
                simp only
                rw [getD_p hx]
                rfl)
              clear hx hri hcs hc2
              go_wp2_with fail
              refine (has_v own ra rn rc B rs f wr (HRI.out.below (HRB.out.mono hB)) (by have := HRB.out.size; omega) hrn).mono ?_
              rintro e w1 ⟨rfl, b1⟩
              have HO1 := Lib.hid (HOV.out.below b1)
              have HM1 := Lib.hid (HMV.out.keep (b1.block gm (by omega)))
              have HB1 := Lib.hid (HBV.out.trans (b1.mono (by omega)))
              have HY1 := Lib.hid (HY.out.keep ((HB1.out.block (g + 1) (by omega))))
              have hz1 := b1.size
              clear b1 hs0 hs1 hix HKS
              cases hh : hasP (own, rs.map Rw.p) f with
              | false =>
                have HN := Lib.hid (show groupG has (rootU us) (q + 1) = (E, out) by rw [HST.out]; unfold stepG; rw [HHQ2.out, hh]; rfl)
                clear hh
                go_wp2_with fail
                go_roundw
                case rel => exact ⟨q + 1, m, c', A', ls, by omega, by go_num, rfl, HO1.out, by rw [HN.out]; exact HDS.out, by rw [HN.out]; exact HM1.out, HB1.out⟩
                case measure => simp [intOf]; omega
              | true =>
                have hhq : has q = true := by rw [HHQ2.out, hh]
                clear hh
                obtain ⟨r, hr⟩ : ∃ r, rootU us q = r := ⟨_, rfl⟩
                have RV := root_v us (g + 1) w1 HUF.out.1 HY1.out HUF.out.2 q hq2
                have hrq := rootU_le us q
                rw [hr] at RV hrq
                go_wp2_with fail
                refine RV.mono ?_
                rintro e _ ⟨rfl, rfl⟩
                clear RV
                have hlk := IMap.look_ HM1.out r (by omega)
                cases ha : aget r E with
                | some i2 =>
                  rw [ha] at hlk
                  simp only [Option.getD_some, Option.isSome_some] at hlk
                  have him : i2 < m := by rw [← HOL.out]; exact HGK.out.at_ r i2 ha
                  have HN := Lib.hid (show groupG has (rootU us) (q + 1) = (E, out.set i2 (out.getD i2 [] ++ [(q : Int)])) by rw [HST.out]; unfold stepG; rw [hhq, if_pos rfl, hr]; simp only; rw [ha])
                  have HOX := HO1
                  have HMX := HM1
                  have HBX := HB1
                  have HDS2 := HDS
                  have HLN3 := HLN2
                  clear ha hhq hr HO1 HM1 HB1
                  go_upto_region 33 with fail
                  clear hlk
                  obtain ⟨⟨la, ln, lc, ld⟩, hli⟩ : ∃ li, (ls)[i2]? = some li := ⟨_, List.getElem?_eq_getElem (by rw [HOX.out.len]; omega)⟩
                  have HLI := Lib.hid hli
                  have HLO := Lib.hid (HOX.out.each _ (List.mem_of_getElem? hli))
                  simp only at HLO
                  obtain ⟨g1, rfl⟩ := own_some HOX.out.row (by omega)
                  have cl : w1.cell? ⟨g1, i2, none⟩ = some (.slice la ln lc) := by
                    rw [HOX.out.row.cellAt i2 (by omega), List.getElem?_map, hli]
                    rfl
                  have HLD := Lib.hid (show (out)[i2]? = some ld by rw [← HDS2.out, List.getElem?_map, hli]; rfl)
                  have hln : ln ≤ 17 := by
                    have h1 := HLO.out.len
                    have h2 := HLN3.out ld (List.mem_of_getElem? HLD.out)
                    omega
                  have x0 : (0 : Int) ≤ (i2 : Int) := by omega
                  have x1 : (i2 : Int) < (m : Nat) := by omega
                  clear hli
                  have HSO := Lib.hid (show IReads (w1.alloc (.cells #[.int .i64 (q : Int)] 3)) (w1.heap.size + 1) (some ⟨w1.heap.size, 0, none⟩) 1 [(q : Int)] from Reads.one_ 3 w1 _)
                  have HLOA := Lib.hid (HLO.out.alloc (.cells #[.int .i64 (q : Int)] 3))
                  have HBA := Lib.hid (HBX.out.alloc (show gm ≤ w1.heap.size by omega) (.cells #[.int .i64 (q : Int)] 3))
                  have HMA := Lib.hid (HMX.out.keep (Below.heap_alloc w1 (.cells #[.int .i64 (q : Int)] 3) gm (by omega)))
                  have hblk := HLO.out.lt
                  go_wp2_with (first
                    | (at_builtin; go_loud (refine wpList_appI rfl (.tmp 134) (.tmp 136) rfl (gm + 1) la ln lc ld rfl HLOA.out (w1.heap.size + 1) (some ⟨w1.heap.size, 0, none⟩) 1 1 [(q : Int)] rfl HSO.out (ln + 1) _ rfl rfl (by omega) (by simp; omega) ?_); intro A8 c8 w8 ho8 hg8 hat8; obtain ⟨hp1, hp2, hp3, hp4, hp5⟩ := OwnL.put (HOX.out.alloc (.cells #[.int .i64 (q : Int)] 3)) HLI.out ho8 hg8 hat8 g1 rfl)
                    | fail)
                  have HP1 := Lib.hid hp1
                  have HM8 := Lib.hid (HMA.out.keep (hg8.block gm (by simp; omega) (fun e => by have := (hblk gm e.symm).1; omega)))
                  have HMS := Lib.hid (HM8.out.keep (Below.heap_setCell w8 ⟨g1, i2, none⟩ (.slice A8 (ln + 1) c8) gm (by show gm ≠ g1; omega)))
                  have HB8 := Lib.hid ((HBA.out.grown hg8 (by simp; omega) (fun j e => by have := (hblk j e).1; omega)).setCell (p := ⟨g1, i2, none⟩) (show gm ≤ g1 by omega) (.slice A8 (ln + 1) c8))
                  have HDN := Lib.hid (show ((ls).set i2 ⟨A8, ln + 1, c8, ld ++ [(q : Int)]⟩).map Il.ds = out.set i2 (out.getD i2 [] ++ [(q : Int)]) by
                    rw [List.map_set, HDS2.out]
                    rw [List.getD_eq_getElem?_getD, HLD.out]; rfl)
                  go_roundw
                  case rel => exact ⟨q + 1, m, c', some ⟨g1, 0, none⟩, (ls).set i2 ⟨A8, ln + 1, c8, ld ++ [(q : Int)]⟩, by omega, by go_num, rfl, HP1.out, by rw [HN.out]; exact HDN.out, by rw [HN.out]; exact HMS.out, HB8.out⟩
                  case measure => simp [intOf]; omega
                | none =>
                  rw [ha] at hlk
                  simp only [Option.getD_none, Option.isSome_none] at hlk
                  have HN := Lib.hid (show groupG has (rootU us) (q + 1) = (aput r m E, out ++ [[(q : Int)]]) by rw [HST.out]; unfold stepG; rw [hhq, if_pos rfl, hr]; simp only; rw [ha]; simp only; rw [HOL.out])
                  obtain ⟨w2, hrun, hm2, hg2, hz2⟩ := IMap.store_ HM1.out r m (by omega)
                  have HM2 := Lib.hid hm2
                  have HO2 := Lib.hid (HO1.out.keep (V' := w2) (fun j h1 h2 => hg2.block j h2 (fun e => by have := Option.some.inj e; omega)))
                  have HB2 := Lib.hid (HB1.out.grown hg2 (by omega) (fun j e => by have := Option.some.inj e; omega))
                  have hz2b : w1.heap.size ≤ w2.heap.size := by omega
                  clear ha hhq hr hm2 hg2 hz2
                  have HSN := Lib.hid (show Reads (w2.alloc (.cells #[.slice none 0 0] 35)) (w2.heap.size + 1) 1 (some ⟨w2.heap.size, 0, none⟩) 1 [.slice none 0 0] from Reads.one_ 35 w2 _)
                  have HO3 := Lib.hid (HO2.out.alloc (.cells #[.slice none 0 0] 35))
                  have HB3 := Lib.hid (HB2.out.alloc (show gm ≤ w2.heap.size by omega) (.cells #[.slice none 0 0] 35))
                  have HM3 := Lib.hid (HM2.out.keep (Below.heap_alloc w2 (.cells #[.slice none 0 0] 35) gm (by omega)))
                  have hblo := HO2.out.row.lt
                  go_upto_region 33 with (first
                    | (at_builtin; go_loud (refine wpList_appL rfl (.tmp 126) (.tmp 127) rfl (gm + 1) A' m c' ls rfl HO3.out (w2.heap.size + 1) (some ⟨w2.heap.size, 0, none⟩) rfl HSN.out (by omega) (by simp; omega) ?_); intro A7 c7 w7 ho7 hg7)
                    | fail)
                  have HOX := Lib.hid ho7
                  have HMX := Lib.hid (HM3.out.keep (hg7.block gm (by simp; omega) (fun e => by have := (hblo gm e.symm).1; omega)))
                  have HBX := Lib.hid (HB3.out.grown hg7 (by simp; omega) (fun j e => by have := (hblo j e).1; omega))
                  have hz7 := hg7.size
                  have hz8 : gm + 1 ≤ w7.heap.size := by simp at hz7; omega
                  have HDS2 := Lib.hid (show (ls ++ [(⟨none, 0, 0, []⟩ : Il)]).map Il.ds = out ++ [[]] by rw [List.map_append, HDS.out]; rfl)
                  have HLN3 := Lib.hid (show ∀ l ∈ out ++ [([] : List Int)], l.length ≤ q from fun l hl => by
                    rcases List.mem_append.1 hl with hl | hl
                    · exact HLN2.out l hl
                    · obtain rfl := List.mem_singleton.1 hl
                      exact Nat.zero_le _)
                  clear hlk hrun ho7 hg7 hblo HO1 HM1 HB1 HO2 HB2 HM2 HO3 HB3 HM3 HSN
                  obtain ⟨⟨la, ln, lc, ld⟩, hli⟩ : ∃ li, (ls ++ [(⟨none, 0, 0, []⟩ : Il)])[m]? = some li := ⟨_, List.getElem?_eq_getElem (by rw [HOX.out.len]; omega)⟩
                  have HLI := Lib.hid hli
                  have HLO := Lib.hid (HOX.out.each _ (List.mem_of_getElem? hli))
                  simp only at HLO
                  obtain ⟨g1, rfl⟩ := own_some HOX.out.row (by omega)
                  have cl : w7.cell? ⟨g1, m, none⟩ = some (.slice la ln lc) := by
                    rw [HOX.out.row.cellAt m (by omega), List.getElem?_map, hli]
                    rfl
                  have HLD := Lib.hid (show (out ++ [([] : List Int)])[m]? = some ld by rw [← HDS2.out, List.getElem?_map, hli]; rfl)
                  have hln : ln ≤ 17 := by
                    have h1 := HLO.out.len
                    have h2 := HLN3.out ld (List.mem_of_getElem? HLD.out)
                    omega
                  have x0 : (0 : Int) ≤ (m : Int) := by omega
                  have x1 : (m : Int) < ((m + 1) : Nat) := by omega
                  clear hli
                  have HSO := Lib.hid (show IReads (w7.alloc (.cells #[.int .i64 (q : Int)] 3)) (w7.heap.size + 1) (some ⟨w7.heap.size, 0, none⟩) 1 [(q : Int)] from Reads.one_ 3 w7 _)
                  have HLOA := Lib.hid (HLO.out.alloc (.cells #[.int .i64 (q : Int)] 3))
                  have HBA := Lib.hid (HBX.out.alloc (show gm ≤ w7.heap.size by omega) (.cells #[.int .i64 (q : Int)] 3))
                  have HMA := Lib.hid (HMX.out.keep (Below.heap_alloc w7 (.cells #[.int .i64 (q : Int)] 3) gm (by omega)))
                  have hblk := HLO.out.lt
                  go_wp2_with (first
                    | (at_builtin; go_loud (refine wpList_appI rfl (.tmp 134) (.tmp 136) rfl (gm + 1) la ln lc ld rfl HLOA.out (w7.heap.size + 1) (some ⟨w7.heap.size, 0, none⟩) 1 1 [(q : Int)] rfl HSO.out (ln + 1) _ rfl rfl (by omega) (by simp; omega) ?_); intro A8 c8 w8 ho8 hg8 hat8; obtain ⟨hp1, hp2, hp3, hp4, hp5⟩ := OwnL.put (HOX.out.alloc (.cells #[.int .i64 (q : Int)] 3)) HLI.out ho8 hg8 hat8 g1 rfl)
                    | fail)
                  have HP1 := Lib.hid hp1
                  have HM8 := Lib.hid (HMA.out.keep (hg8.block gm (by simp; omega) (fun e => by have := (hblk gm e.symm).1; omega)))
                  have HMS := Lib.hid (HM8.out.keep (Below.heap_setCell w8 ⟨g1, m, none⟩ (.slice A8 (ln + 1) c8) gm (by show gm ≠ g1; omega)))
                  have HB8 := Lib.hid ((HBA.out.grown hg8 (by simp; omega) (fun j e => by have := (hblk j e).1; omega)).setCell (p := ⟨g1, m, none⟩) (show gm ≤ g1 by omega) (.slice A8 (ln + 1) c8))
                  have HDN := Lib.hid (show ((ls ++ [(⟨none, 0, 0, []⟩ : Il)]).set m ⟨A8, ln + 1, c8, ld ++ [(q : Int)]⟩).map Il.ds = out ++ [[(q : Int)]] by
                    rw [List.map_set, HDS2.out]
                    have hld := HLD.out
                    rw [List.getElem?_append_right (by rw [HOL.out]; exact Nat.le_refl _), HOL.out, Nat.sub_self] at hld
                    obtain rfl := Option.some.inj hld
                    rw [List.set_append_right _ _ (by rw [HOL.out]; exact Nat.le_refl _), HOL.out, Nat.sub_self]
                    rfl)
                  go_roundw
                  case rel => exact ⟨q + 1, (m + 1), c7, some ⟨g1, 0, none⟩, (ls ++ [(⟨none, 0, 0, []⟩ : Il)]).set m ⟨A8, ln + 1, c8, ld ++ [(q : Int)]⟩, by omega, by go_num, rfl, HP1.out, by rw [HN.out]; exact HDN.out, by rw [HN.out]; exact HMS.out, HB8.out⟩
                  case measure => simp [intOf]; omega
            · obtain rfl : q = 17 := by omega
              have HPU := Lib.hid (show ls.map Il.ds = partsU (ms.map Mx.p) f by
                unfold partsU
                rw [HUS2.out, HHS.out, hEO]
                exact HDS.out)
              have HLL := Lib.hid (show ∀ l ∈ ls, l.n ≤ 17 from fun l hl => by
                have h1 := (HOV.out.each l hl).len
                have h2 := HLN2.out l.ds (by rw [← HDS.out]; exact List.mem_map.2 ⟨_, hl, rfl⟩)
                omega)
              have HRB := Lib.hid (HB.out.trans (HBV.out.mono (show g ≤ gm by omega)))
              go_wp2_with fail
              go_ret
              exact ⟨A', m, c', ls, rfl, ⟨gm + 1, by omega, HOV.out⟩, HPU.out, hml, HLL.out, hg ▸ HRB.out⟩
end Go.Proofs.Ytikegnnlmfidfaa
