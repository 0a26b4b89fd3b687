/-
  MatrixLinks: sharing between two devices is symmetric; devices that share are in one part.
-/
import Derived.Test.YtikegnnlmfidfaaMatLe
import Derived.Test.YtikegnnlmfidfaaMatR
import Derived.Test.YtikegnnlmfidfaaMatV
namespace Go.Proofs.Ytikegnnlmfidfaa
open Go.RowKit
/-- The first k matrices may be, and are of different devices. -/
def ApartTo (ms : List PM) (k : Nat) : Prop := (∀ m ∈ ms.take k, chkM m = 0) ∧ ∀ (i j : Nat) (a b : PM), i < j → j < k → ms[i]? = some a → ms[j]? = some b → a.1 ≠ b.1
theorem ApartTo.succ {ms : List PM} {k : Nat} {m : PM} (h : ApartTo ms k) (hm : ms[k]? = some m) (hk : chkM m = 0) (hd : ∀ (i : Nat) (a : PM), i < k → ms[i]? = some a → a.1 ≠ m.1) : ApartTo ms (k + 1) := by
  refine ⟨fun x hx => ?_, fun i j a b hij hjk ha hb => ?_⟩
  · rw [List.take_add_one, hm] at hx
    rcases List.mem_append.1 hx with hx | hx
    · exact h.1 x hx
    · obtain rfl : x = m := by simpa using hx
      exact hk
  · rcases Nat.lt_succ_iff_lt_or_eq.1 hjk with hj | rfl
    · exact h.2 i j a b hij hj ha hb
    · rw [hm] at hb
      obtain rfl := Option.some.inj hb
      exact hd i a hij ha
theorem ApartTo.all {ms : List PM} (h : ApartTo ms ms.length) : Apart ms := by
  refine ⟨fun m hm => h.1 m (by rwa [List.take_length]), fun i j a b ha hb e => ?_⟩
  rcases Nat.lt_trichotomy i j with hlt | rfl | hlt
  · exact absurd e (h.2 i j a b hlt (List.getElem?_eq_some_iff.1 hb).1 ha hb)
  · rfl
  · exact absurd e.symm (h.2 j i b a hlt (List.getElem?_eq_some_iff.1 ha).1 hb ha)
set_option maxRecDepth 100000 in
set_option maxHeartbeats 16000000 in
theorem links_v (A : Option Addr) (n c B : Nat) (ms : List Mx) (f : ByteArray) (w : World) (hr : MatsR w B A n ms) (hB : B ≤ w.heap.size) (hn : n ≤ 9223372036854775807) (hfs : f.size ≤ 9223372036854775807) :
    Calls Try.prog 4 #[.slice A n c, .string f] w fun e w' => e = .returned (.bool true) ∧ Below w.heap.size w w' := by
  have HIM := Lib.hid (show (Try.prog.info? 27).map (·.size) = some 2 by kernel_rfl)
  have HM := Lib.hid hr
  have HML := Lib.hid (show (ms.map Mx.p).length = n by rw [List.length_map]; exact hr.len)
  have HP := Lib.hid (partsU_ok (ms.map Mx.p) f)
  have HSZ := Lib.hid (show ∀ V, Below w.heap.size w V → w.heap.size ≤ V.heap.size from fun V h => h.size)
  clear hr
  go_enter Try.func4, Try.ntmps4
  go_wp2_with fail
  refine (lives_v w).mono ?_
  rintro e w1 ⟨rfl, b1⟩
  have T1 := Lib.hid b1
  clear b1
  generalize hg : w.heap.size = g at *
  have HG := Lib.hid hg
  clear hg
  by_cases h20 : n ≤ 20
  case neg =>
    go_wp2_with fail
    go_ret
    exact ⟨rfl, HG.out ▸ T1.out⟩
  by_cases hf100 : f.size ≤ 100
  case neg =>
    go_wp2_with fail
    go_ret
    exact ⟨rfl, HG.out ▸ T1.out⟩
  go_wp2_with fail
  go_loopw [5, 6] (fun i _ V => ∃ k : Nat, k ≤ n ∧ i = .int .i64 (k : Int) ∧ ApartTo (ms.map Mx.p) k ∧ Below g w V) (fun i _ _ => n - (intOf i).toNat)
  case atStart => exact ⟨0, Nat.zero_le _, rfl, ⟨by simp, fun i j a b _ h => absurd h (Nat.not_lt_zero _)⟩, T1.out⟩
  case round =>
    obtain ⟨i, hi, rfl, hap, hb⟩ := hrel
    have HA := Lib.hid hap
    have T2 := Lib.hid hb
    clear hap hb T1
    by_cases hlt : i < n
    · obtain ⟨ad, oi, ai, mi, qi, ri, rfl, hxi, hri, hmi, hcsi, hci⟩ := HM.out.at_ hlt
      have HXI := Lib.hid (show (ms.map Mx.p)[i]? = some (oi, ri.map Rw.p) by rw [List.getElem?_map, hxi]; rfl)
      have HCI := Lib.hid (show ∀ V, Below g w V → V.cell? (ad.add (i * 2)) = some (.int .i64 oi) ∧ V.cell? ⟨(ad.add (i * 2)).block, (ad.add (i * 2)).off + 1, none⟩ = some (.slice ai mi qi) from fun V h => ⟨hci V (h.mono hB), hcsi V (h.mono hB) 1 _ rfl⟩)
      have HCS := Lib.hid (hcsi wr (T2.out.mono hB))
      have HRI := Lib.hid hri
      have i0 : (0 : Int) ≤ (i : Int) := by omega
      have i1 : (i : Int) < (n : Int) := by omega
      clear hxi hri hcsi hci
      have LV := light_v oi ai mi qi B 100 ri wr (HRI.out.below (T2.out.mono hB)) (Nat.le_trans hB (HSZ.out _ T2.out)) hmi (by omega)
      go_wp2_with (first
        | (refine wpList_load_slot rfl 27 (.tmp 32) rfl (ad.add (i * 2)) rfl [.int .i64 oi, .slice ai mi qi] _ HCS.out Try.underlying27 rfl HIM.out ?_)
        | fail)
      cases hl : lightM ri 100 with
      | false =>
        rw [hl] at LV
        refine LV.mono ?_
        rintro e w2 ⟨rfl, b2⟩
        have T3 := Lib.hid (T2.out.trans (b2.mono (HSZ.out _ T2.out)))
        clear b2 LV hl T2 HCS
        go_wp2_with fail
        go_ret
        exact ⟨rfl, HG.out ▸ T3.out⟩
      | true =>
      rw [hl] at LV
      refine LV.mono ?_
      rintro e w2 ⟨rfl, b2⟩
      have T3 := Lib.hid (T2.out.trans (b2.mono (HSZ.out _ T2.out)))
      clear b2 LV hl T2 HCS
      have c0 := (HCI.out _ T3.out).1
      have c1 := (HCI.out _ T3.out).2
      have CV := check_v oi ai mi qi B ri w2 (HRI.out.below (T3.out.mono hB)) (Nat.le_trans hB (HSZ.out _ T3.out)) hmi
      obtain ⟨ck, hck⟩ : ∃ ck, chkM (oi, ri.map Rw.p) = ck := ⟨_, rfl⟩
      have HCK := Lib.hid hck
      rw [hck] at CV
      clear hck
      go_wp2_with fail
      refine CV.mono ?_
      rintro e w3 ⟨rfl, b3⟩
      have T4 := Lib.hid (T3.out.trans (b3.mono (HSZ.out _ T3.out)))
      clear b3 CV c0 c1 T3
      by_cases hk0 : ck = 0
      case neg =>
        have d1 : ((ck : Int) != 0) = true := by simp; omega
        clear hk0
        go_wp2_with fail
        go_ret
        exact ⟨rfl, HG.out ▸ T4.out⟩
      subst hk0
      have d1 : (((0 : Nat) : Int) != 0) = false := rfl
      go_wp2_with fail
      go_loopw [6] (fun j V => ∃ q : Nat, q ≤ i ∧ j = .int .i64 (q : Int) ∧ (∀ (s : Nat) (a : PM), s < q → (ms.map Mx.p)[s]? = some a → a.1 ≠ oi) ∧ Below g w V) (fun j _ => i - (intOf j).toNat)
      case atStart => exact ⟨0, Nat.zero_le _, rfl, fun s a h => absurd h (Nat.not_lt_zero _), T4.out⟩
      case round =>
        obtain ⟨k, hk, rfl, hne, hb⟩ := hrel
        have HNE := Lib.hid hne
        have T5 := Lib.hid hb
        clear hne hb T4
        by_cases hlt2 : k < i
        · obtain ⟨adk, ok, ak, mk, qk, rk, hA, hxk, hrk, hmk, hcsk, hck⟩ := HM.out.at_ (show k < n by omega)
          obtain rfl := Option.some.inj hA
          have HXK := Lib.hid (show (ms.map Mx.p)[k]? = some (ok, rk.map Rw.p) by rw [List.getElem?_map, hxk]; rfl)
          have k0 : (0 : Int) ≤ (k : Int) := by omega
          have k1 : (k : Int) < (n : Int) := by omega
          have k2 : (k : Int) < (i : Int) := by omega
          have c0 := (HCI.out _ T5.out).1
          have c2 := hck wr (T5.out.mono hB)
          clear hxk hrk hcsk hck hA
          go_upto_region 13 with fail
          by_cases ho : ok = oi
          · have d2 : (ok == oi) = true := beq_iff_eq.2 ho
            clear ho
            go_quiet (fail)
            go_wp2_with fail
            go_ret
            exact ⟨rfl, HG.out ▸ below_drewN T5.out _⟩
          · have d2 : (ok == oi) = false := beq_eq_false_iff_ne.2 ho
            have HN2 := Lib.hid (show ∀ (s : Nat) (a : PM), s < k + 1 → (ms.map Mx.p)[s]? = some a → a.1 ≠ oi from fun s a hs ha => by
              rcases Nat.lt_succ_iff_lt_or_eq.1 hs with hs | rfl
              · exact HNE.out s a hs ha
              · rw [HXK.out] at ha
                obtain rfl := Option.some.inj ha
                exact ho)
            clear ho
            go_quiet (fail)
            go_wp2_with fail
            go_roundw
            case rel => exact ⟨k + 1, hlt2, by go_num, HN2.out, below_drewN T5.out _⟩
            case measure => simp [intOf]; omega
        · obtain rfl : i = k := by omega
          have HA2 := Lib.hid (HA.out.succ HXI.out HCK.out HNE.out)
          clear hlt2
          go_wp2_with fail
          go_roundw
          case rel => exact ⟨i + 1, hlt, by go_num, HA2.out, T5.out⟩
          case measure => simp [intOf]; omega
    · obtain rfl : n = i := by omega
      clear hlt
      have HAP := Lib.hid (show Apart (ms.map Mx.p) from ApartTo.all (by rw [HML.out]; exact HA.out))
      clear HA
      have PV := parts_v A n c B ms f wr (HM.out.below (T2.out.mono hB)) (Nat.le_trans hB (HSZ.out _ T2.out)) hn
      go_wp2_with fail
      refine PV.mono ?_
      rintro e w7 ⟨A8, n8, c8, ls, rfl, ⟨base, _, ho⟩, hls, hn8, hl17, b8⟩
      have T7 := Lib.hid (T2.out.trans (b8.mono (HSZ.out _ T2.out)))
      have L8 := Lib.hid (ho.reads fun l hl => Nat.le_trans (hl17 l hl) (by omega))
      have H17 := Lib.hid hl17
      have HLS := Lib.hid hls
      clear ho hls hl17 b8 PV T2
      have HPL := Lib.hid (show (partsU (ms.map Mx.p) f).length = n8 by rw [← HLS.out, List.length_map]; exact L8.out.len)
      have hmk := run_makeMap (P := Try.prog) 34 w7
      go_upto_region 17 with fail
      clear hmk
      have M8 := Lib.hid (show IMap (w7.alloc (.map #[] 0)) w7.heap.size [] from MapIs.made w7)
      have hgz : w7.heap.size < (w7.alloc (.map #[] 0)).heap.size := by simp
      have B8 := Lib.hid ((Below.refl w7.heap.size w7).alloc (Nat.le_refl _) (.map #[] 0))
      have hg7 := HSZ.out _ T7.out
      have HGB := Lib.hid (show ∀ V : World, Below w7.heap.size w7 V → Below g w V from fun V h => T7.out.trans (h.mono (HSZ.out _ T7.out)))
      clear T7
      generalize w7.alloc (.map #[] 0) = w8 at *
      generalize w7.heap.size = g8 at *
      have hBg : B ≤ g8 := by omega
      go_wp2_with fail
      go_loopw [9, 10] (fun i _ V => ∃ (k : Nat) (E : List (Nat × Nat)), k ≤ n8 ∧ i = .int .i64 (k : Int) ∧ Below g8 w7 V ∧ g8 < V.heap.size ∧ IMap V g8 E ∧ MpOk (partsU (ms.map Mx.p) f) k 0 E) (fun i _ _ => n8 - (intOf i).toNat)
      case atStart => exact ⟨0, [], Nat.zero_le _, rfl, B8.out, hgz, M8.out, MpOk.start _⟩
      case round =>
        obtain ⟨k, E, hk, rfl, hb, hz, hm, ho⟩ := hrel
        have HB := Lib.hid hb
        have HMP := Lib.hid hm
        have HO := Lib.hid ho
        clear hb hm ho M8 B8 hgz
        by_cases hlt : k < n8
        · obtain ⟨ad, a, m, q, ds, rfl, hx, ⟨hri, hm⟩, hc⟩ := L8.out.at_ hlt
          have hm17 : m ≤ 17 := H17.out _ (List.mem_of_getElem? hx)
          have HX := Lib.hid (show (partsU (ms.map Mx.p) f)[k]? = some ds by rw [← HLS.out, List.getElem?_map, hx]; rfl)
          have HRI := Lib.hid hri
          have HDL := Lib.hid hri.len
          have HC := Lib.hid hc
          clear hx hri hc
          go_wp2_with fail
          go_loopw [10] (fun j V => ∃ (s : Nat) (E : List (Nat × Nat)), s ≤ m ∧ j = .int .i64 (s : Int) ∧ Below g8 w7 V ∧ g8 < V.heap.size ∧ IMap V g8 E ∧ MpOk (partsU (ms.map Mx.p) f) k s E) (fun j _ => m - (intOf j).toNat)
          case atStart => exact ⟨0, E, Nat.zero_le _, rfl, HB.out, hz, HMP.out, HO.out⟩
          case round =>
            obtain ⟨s, E2, hs, rfl, hb, hz2, hm2, ho2⟩ := hrel
            have HB2 := Lib.hid hb
            have HM2 := Lib.hid hm2
            have HO2 := Lib.hid ho2
            clear hb hm2 ho2 HB HMP HO
            have c0 := HC.out wr HB2.out
            by_cases hlt2 : s < m
            · obtain ⟨ad2, d2, rfl, hd2, hcd⟩ := HRI.out.at_ hlt2
              have c1 := hcd wr HB2.out
              obtain ⟨y, rfl, hy1, hy16, ho3⟩ := HO2.out.step HP.out HX.out hd2
              have HO3 := Lib.hid ho3
              obtain ⟨w9, hrun, hm9, hg9, hz9⟩ := IMap.store_ HM2.out y (k + 1) (by omega)
              have hrun2 : (Instr.mapUpdate 34 (.map (some g8)) (.int .i64 (y : Int)) (.int .i64 ((k : Int) + 1))).run Try.prog wr = .ok () w9 := hrun
              have HM9 := Lib.hid hm9
              have HB9 := Lib.hid (HB2.out.grown hg9 (by omega) (fun j e => by have := Option.some.inj e; omega))
              have hz3 : g8 < w9.heap.size := by omega
              clear hd2 hcd ho3 hrun hm9 hg9 hz9 HB2 HM2 HO2
              go_wp2_with fail
              go_roundw
              case rel => exact ⟨s + 1, _, hlt2, by go_num, HB9.out, hz3, HM9.out, HO3.out⟩
              case measure => simp [intOf]; omega
            · obtain rfl : s = m := by omega
              have HN := Lib.hid (MpOk.next (HDL.out.symm ▸ HO2.out) HX.out)
              clear hlt2
              go_wp2_with fail
              go_roundw
              case rel => exact ⟨k + 1, E2, hlt, by go_num, HB2.out, hz2, HM2.out, HN.out⟩
              case measure => simp [intOf]; omega
        · obtain rfl : k = n8 := by omega
          clear hlt
          have HPE := Lib.hid (show MpOk (partsU (ms.map Mx.p) f) (partsU (ms.map Mx.p) f).length 0 E by rw [HPL.out]; exact HO.out)
          clear HO HPL L8 H17 HLS
          have HKP := Lib.hid (show ∀ V V' : World, g8 < V.heap.size → IMap V g8 E → Below V.heap.size V V' → IMap V' g8 E ∧ g8 < V'.heap.size from fun V V' h1 h2 h3 => ⟨h2.keep (h3.block g8 h1), Nat.lt_of_lt_of_le h1 h3.size⟩)
          go_wp2_with fail
          go_loopw [11, 12, 13] (fun i _ _ V => ∃ k : Nat, k ≤ n ∧ i = .int .i64 (k : Int) ∧ Below g8 w7 V ∧ g8 < V.heap.size ∧ IMap V g8 E) (fun i _ _ _ => n - (intOf i).toNat)
          case atStart => exact ⟨0, Nat.zero_le _, rfl, HB.out, hz, HMP.out⟩
          case round =>
            obtain ⟨i, hi2, rfl, hb, hz1, hm1⟩ := hrel
            have E0 := Lib.hid hb
            have P0 := Lib.hid hm1
            clear hb hm1 HB HMP
            by_cases hlt : i < n
            case neg =>
              go_wp2_with fail
              go_ret
              exact ⟨rfl, HG.out ▸ HGB.out _ E0.out⟩
            obtain ⟨ad, oi, ai, mi, qi, ri, rfl, hxi, hri, hmi, hcsi, hci⟩ := HM.out.at_ hlt
            have hxp : (ms.map Mx.p)[i]? = some (oi, ri.map Rw.p) := by rw [List.getElem?_map, hxi]; rfl
            obtain ⟨x, rfl, hx1, hx16, hox⟩ := of_apart HAP.out hxp
            have HXI := Lib.hid hxp
            have HOX := Lib.hid hox
            have HCI := Lib.hid (show ∀ V, Below g8 w7 V → V.cell? (ad.add (i * 2)) = some (.int .i64 (x : Int)) ∧ V.cell? ⟨(ad.add (i * 2)).block, (ad.add (i * 2)).off + 1, none⟩ = some (.slice ai mi qi) from fun V h => ⟨hci V ((HGB.out V h).mono hB), hcsi V ((HGB.out V h).mono hB) 1 _ rfl⟩)
            have HRI := Lib.hid hri
            have i0 : (0 : Int) ≤ (i : Int) := by omega
            have i1 : (i : Int) < (n : Int) := by omega
            clear hxi hri hcsi hci hxp hox
            obtain ⟨vx, hvx⟩ : ∃ vx, (aget x E).getD 0 = vx := ⟨_, rfl⟩
            have HVX := Lib.hid hvx
            have HLX := Lib.hid (show ∀ V, IMap V g8 E → (Instr.lookup 34 (.map (some g8)) (.int .i64 (x : Int)) false).run Try.prog V = .ok (.int .i64 (vx : Int)) V from fun V h => by have := h.look0_ x (by omega); rwa [hvx] at this)
            obtain ⟨bb, hbb⟩ : ∃ bb, hasP ((x : Int), ri.map Rw.p) f = bb := ⟨_, rfl⟩
            have HBB := Lib.hid hbb
            have dv : decide ((0 : Int) < (vx : Int)) = bb := by
              rw [← hbb, has_part f HPE.out HXI.out HOX.out, hvx]
              exact decide_eq_decide.2 (by omega)
            have dv2 : decide (0 < vx) = bb := by
              rw [← hbb, has_part f HPE.out HXI.out HOX.out, hvx]
            have dq : (bb != bb) = false := by simp
            clear hbb hvx
            go_upto_region 27 with fail
            have E1 := Lib.hid (show Below g8 w7 wr.drew from E0.out.drew)
            have P1 := Lib.hid (show IMap wr.drew g8 E from P0.out)
            have hzd : g8 < wr.drew.heap.size := hz1
            have hS : wr.drew.cell? (ad.add (i * 2)) = some (.int .i64 (x : Int)) ∧ wr.drew.cell? ⟨(ad.add (i * 2)).block, (ad.add (i * 2)).off + 1, none⟩ = some (.slice ai mi qi) ∧ (Instr.lookup 34 (.map (some g8)) (.int .i64 (x : Int)) false).run Try.prog wr.drew = .ok (.int .i64 (vx : Int)) wr.drew := ⟨(HCI.out _ E1.out).1, (HCI.out _ E1.out).2, HLX.out _ P1.out⟩
            refine wp_region_text [(0, false), (1, false), (2, false), (3, false), (4, false), (5, false), (6, false), (7, false), (8, false), (9, false), (10, false), (11, false), (12, false), (13, true), (14, false)] (fun V => V.cell? (ad.add (i * 2)) = some (.int .i64 (x : Int)) ∧ V.cell? ⟨(ad.add (i * 2)).block, (ad.add (i * 2)).off + 1, none⟩ = some (.slice ai mi qi) ∧ (Instr.lookup 34 (.map (some g8)) (.int .i64 (x : Int)) false).run Try.prog V = .ok (.int .i64 (vx : Int)) V) (by kernel_rfl) (by kernel_rfl) (by kernel_rfl) (by kernel_rfl) (by kernel_rfl) (fun _ => ?_)
            simp only [outOf, List.getElem?_cons_zero, List.getElem?_cons_succ, Option.getD_some]
            generalize wr.drew = w10 at *
            clear E0 P0 hz1
            iterate 13 ((first | (refine TW.val2 (v := ?_) ?_ ?_ ?_ ?_ ?_; rotate_left; (focus rfl); (focus (intro W hSW; (try dsimp only at hSW); (try (obtain ⟨hS1, hSW⟩ := hSW)); (try (obtain ⟨hS2, hSW⟩ := hSW)); (try (obtain ⟨hS3, hSW⟩ := hSW)); (try (obtain ⟨hS4, hSW⟩ := hSW)); (try (obtain ⟨hS5, hSW⟩ := hSW)); (try (obtain ⟨hS6, hSW⟩ := hSW)); (try (obtain ⟨hS7, hSW⟩ := hSW)); (try (obtain ⟨hS8, hSW⟩ := hSW)); go_simp; (try with_reducible rfl); done)); (focus exact fun _ _ _ h => h); (focus assumption)) | (refine TW.skip (e := false) ?_ ?_ ?_ ?_; (focus rfl); (focus exact fun _ _ _ h => h); (focus assumption))); simp only [Act.put, List.setIfInBounds_toArray, List.set_cons_zero, List.set_cons_succ])
            refine TW.eff (by rfl) (fun K hK => ?_); go_simp
            have HV := has_v (x : Int) ai mi qi B ri f w10 (HRI.out.below ((HGB.out _ E1.out).mono hB)) (by omega) hmi
            rw [HBB.out] at HV
            refine HV.mono ?_
            rintro e w11 ⟨rfl, b5⟩
            have E2 := Lib.hid (E1.out.trans (b5.mono (Nat.le_of_lt hzd)))
            have P2 := Lib.hid (HKP.out _ _ hzd P1.out b5).1
            have hz2 := (HKP.out _ _ hzd P1.out b5).2
            have hS2 : w11.cell? (ad.add (i * 2)) = some (.int .i64 (x : Int)) ∧ w11.cell? ⟨(ad.add (i * 2)).block, (ad.add (i * 2)).off + 1, none⟩ = some (.slice ai mi qi) ∧ (Instr.lookup 34 (.map (some g8)) (.int .i64 (x : Int)) false).run Try.prog w11 = .ok (.int .i64 (vx : Int)) w11 := ⟨(HCI.out _ E2.out).1, (HCI.out _ E2.out).2, HLX.out _ P2.out⟩
            clear hS b5 HV E1 P1 hzd
            go_wp2_with fail; refine hK.out _ _ hS2 ?_; clear hK; (try simp only [Act.put, List.setIfInBounds_toArray, List.set_cons_zero, List.set_cons_succ])
            iterate 1 ((first | (refine TW.val2 (v := ?_) ?_ ?_ ?_ ?_ ?_; rotate_left; (focus rfl); (focus (intro W hSW; (try dsimp only at hSW); (try (obtain ⟨hS1, hSW⟩ := hSW)); (try (obtain ⟨hS2, hSW⟩ := hSW)); (try (obtain ⟨hS3, hSW⟩ := hSW)); (try (obtain ⟨hS4, hSW⟩ := hSW)); (try (obtain ⟨hS5, hSW⟩ := hSW)); (try (obtain ⟨hS6, hSW⟩ := hSW)); (try (obtain ⟨hS7, hSW⟩ := hSW)); (try (obtain ⟨hS8, hSW⟩ := hSW)); go_simp; (try with_reducible rfl); done)); (focus exact fun _ _ _ h => h); (focus assumption)) | (refine TW.skip (e := false) ?_ ?_ ?_ ?_; (focus rfl); (focus exact fun _ _ _ h => h); (focus assumption))); simp only [Act.put, List.setIfInBounds_toArray, List.set_cons_zero, List.set_cons_succ])
            refine TW.done ?_
            clear hS2
            go_wp2_with fail
            clear dv dv2 dq
            go_loopw [12, 13] (fun j _ V => ∃ k : Nat, k ≤ n ∧ j = .int .i64 (k : Int) ∧ Below g8 w7 V ∧ g8 < V.heap.size ∧ IMap V g8 E) (fun j _ _ => n - (intOf j).toNat)
            case atStart => exact ⟨0, Nat.zero_le _, rfl, E2.out, hz2, P2.out⟩
            case round =>
              obtain ⟨k, hk2, rfl, hb, hz3, hm3⟩ := hrel
              have F0 := Lib.hid hb
              have Q0 := Lib.hid hm3
              clear hb hm3 E2 P2 hz2
              by_cases hlt2 : k < n
              case neg =>
                obtain rfl : n = k := by omega
                clear hlt2
                go_wp2_with fail
                go_roundw
                case rel => exact ⟨i + 1, hlt, by go_num, F0.out, hz3, Q0.out⟩
                case measure => simp [intOf]; omega
              obtain ⟨adk, ok, ak, mk, qk, rk, hA, hxk, hrk, hmk, hcsk, hck⟩ := HM.out.at_ hlt2
              obtain rfl := Option.some.inj hA
              have hxp : (ms.map Mx.p)[k]? = some (ok, rk.map Rw.p) := by rw [List.getElem?_map, hxk]; rfl
              obtain ⟨y, rfl, hy1, hy16, hoy⟩ := of_apart HAP.out hxp
              have HXK := Lib.hid hxp
              have HOY := Lib.hid hoy
              have HCK := Lib.hid (show ∀ V, Below g8 w7 V → V.cell? (ad.add (k * 2)) = some (.int .i64 (y : Int)) ∧ V.cell? ⟨(ad.add (k * 2)).block, (ad.add (k * 2)).off + 1, none⟩ = some (.slice ak mk qk) from fun V h => ⟨hck V ((HGB.out V h).mono hB), hcsk V ((HGB.out V h).mono hB) 1 _ rfl⟩)
              have HRK := Lib.hid hrk
              have k0 : (0 : Int) ≤ (k : Int) := by omega
              have k1 : (k : Int) < (n : Int) := by omega
              clear hxk hrk hcsk hck hxp hoy hA
              have HIK := Lib.hid (show i ≠ k ↔ (x : Int) ≠ (y : Int) from ⟨fun h e => h (HAP.out.2 i k _ _ HXI.out HXK.out e), fun h e => h (by
                have h1 := HXI.out
                rw [e, HXK.out] at h1
                exact (congrArg Prod.fst (Option.some.inj h1)).symm)⟩)
              have HC4 := Lib.hid (show ∀ V, Below g8 w7 V → V.cell? (ad.add (i * 2)) = some (.int .i64 (x : Int)) ∧ V.cell? ⟨(ad.add (i * 2)).block, (ad.add (i * 2)).off + 1, none⟩ = some (.slice ai mi qi) ∧ V.cell? (ad.add (k * 2)) = some (.int .i64 (y : Int)) ∧ V.cell? ⟨(ad.add (k * 2)).block, (ad.add (k * 2)).off + 1, none⟩ = some (.slice ak mk qk) from fun V h => ⟨(HCI.out V h).1, (HCI.out V h).2, (HCK.out V h).1, (HCK.out V h).2⟩)
              obtain ⟨s1, hs1⟩ : ∃ s1, sharesP ((x : Int), ri.map Rw.p) f (y : Int) = s1 := ⟨_, rfl⟩
              obtain ⟨s2, hs2⟩ : ∃ s2, sharesP ((y : Int), rk.map Rw.p) f (x : Int) = s2 := ⟨_, rfl⟩
              have HBO0 := Lib.hid (show bothP ((x : Int), ri.map Rw.p) ((y : Int), rk.map Rw.p) f = (!decide ((x : Int) = (y : Int)) && (s1 && s2)) by rw [← hs1, ← hs2]; rfl)
              have HS1 := Lib.hid hs1
              have HS2 := Lib.hid hs2
              clear hs1 hs2
              go_upto_region 32 with fail
              go_cut [13] from 110 to 204 (fun b wx => b = .bool (s1 && s2) ∧ Below g8 w7 wx ∧ g8 < wx.heap.size ∧ IMap wx g8 E)
              case first =>
                have F1 := Lib.hid (show Below g8 w7 wr.drew from F0.out.drew)
                have Q1 := Lib.hid (show IMap wr.drew g8 E from Q0.out)
                have hzd : g8 < wr.drew.heap.size := hz3
                have hS : wr.drew.cell? (ad.add (i * 2)) = some (.int .i64 (x : Int)) ∧ wr.drew.cell? ⟨(ad.add (i * 2)).block, (ad.add (i * 2)).off + 1, none⟩ = some (.slice ai mi qi) ∧ wr.drew.cell? (ad.add (k * 2)) = some (.int .i64 (y : Int)) ∧ wr.drew.cell? ⟨(ad.add (k * 2)).block, (ad.add (k * 2)).off + 1, none⟩ = some (.slice ak mk qk) := HC4.out _ F1.out
                refine wp_region_text [(0, false), (1, false), (2, false), (3, false), (4, false), (5, false), (6, false), (7, false), (8, false), (9, false), (10, true), (11, false), (12, false), (13, false), (14, false), (15, false), (16, false), (17, false), (18, false), (19, false), (20, false), (21, false), (22, true), (23, false), (24, false)] (fun V => V.cell? (ad.add (i * 2)) = some (.int .i64 (x : Int)) ∧ V.cell? ⟨(ad.add (i * 2)).block, (ad.add (i * 2)).off + 1, none⟩ = some (.slice ai mi qi) ∧ V.cell? (ad.add (k * 2)) = some (.int .i64 (y : Int)) ∧ V.cell? ⟨(ad.add (k * 2)).block, (ad.add (k * 2)).off + 1, none⟩ = some (.slice ak mk qk)) (by kernel_rfl) (by kernel_rfl) (by kernel_rfl) (by kernel_rfl) (by kernel_rfl) (fun _ => ?_)
                simp only [outOf, List.getElem?_cons_zero, List.getElem?_cons_succ, Option.getD_some]
                generalize wr.drew = w10 at *
                clear F0 Q0 hz3
                iterate 10 ((first | (refine TW.val2 (v := ?_) ?_ ?_ ?_ ?_ ?_; rotate_left; (focus rfl); (focus (intro W hSW; (try dsimp only at hSW); (try (obtain ⟨hS1, hSW⟩ := hSW)); (try (obtain ⟨hS2, hSW⟩ := hSW)); (try (obtain ⟨hS3, hSW⟩ := hSW)); (try (obtain ⟨hS4, hSW⟩ := hSW)); (try (obtain ⟨hS5, hSW⟩ := hSW)); (try (obtain ⟨hS6, hSW⟩ := hSW)); (try (obtain ⟨hS7, hSW⟩ := hSW)); (try (obtain ⟨hS8, hSW⟩ := hSW)); go_simp; (try with_reducible rfl); done)); (focus exact fun _ _ _ h => h); (focus assumption)) | (refine TW.skip (e := false) ?_ ?_ ?_ ?_; (focus rfl); (focus exact fun _ _ _ h => h); (focus assumption))); simp only [Act.put, List.setIfInBounds_toArray, List.set_cons_zero, List.set_cons_succ])
                refine TW.eff (by rfl) (fun K hK => ?_); go_simp
                have SV := shares_v (x : Int) ai mi qi B ri f (y : Int) w10 (HRI.out.below ((HGB.out _ F1.out).mono hB)) (by omega) hmi
                rw [HS1.out] at SV
                refine SV.mono ?_
                rintro e w11 ⟨rfl, b5⟩
                have F2 := Lib.hid (F1.out.trans (b5.mono (Nat.le_of_lt hzd)))
                have Q2 := Lib.hid (HKP.out _ _ hzd Q1.out b5).1
                have hz2 := (HKP.out _ _ hzd Q1.out b5).2
                have hS2 : w11.cell? (ad.add (i * 2)) = some (.int .i64 (x : Int)) ∧ w11.cell? ⟨(ad.add (i * 2)).block, (ad.add (i * 2)).off + 1, none⟩ = some (.slice ai mi qi) ∧ w11.cell? (ad.add (k * 2)) = some (.int .i64 (y : Int)) ∧ w11.cell? ⟨(ad.add (k * 2)).block, (ad.add (k * 2)).off + 1, none⟩ = some (.slice ak mk qk) := HC4.out _ F2.out
                clear hS b5 SV F1 Q1 hzd
                go_wp2_with fail; refine hK.out _ _ hS2 ?_; clear hK; (try simp only [Act.put, List.setIfInBounds_toArray, List.set_cons_zero, List.set_cons_succ])
                cases s1 with
                | false =>
                  iterate 14 ((first | (refine TW.val2 (v := ?_) ?_ ?_ ?_ ?_ ?_; rotate_left; (focus rfl); (focus (intro W hSW; (try dsimp only at hSW); (try (obtain ⟨hS1, hSW⟩ := hSW)); (try (obtain ⟨hS2, hSW⟩ := hSW)); (try (obtain ⟨hS3, hSW⟩ := hSW)); (try (obtain ⟨hS4, hSW⟩ := hSW)); (try (obtain ⟨hS5, hSW⟩ := hSW)); (try (obtain ⟨hS6, hSW⟩ := hSW)); (try (obtain ⟨hS7, hSW⟩ := hSW)); (try (obtain ⟨hS8, hSW⟩ := hSW)); go_simp; (try with_reducible rfl); done)); (focus exact fun _ _ _ h => h); (focus assumption)) | (refine TW.skip (e := false) ?_ ?_ ?_ ?_; (focus rfl); (focus exact fun _ _ _ h => h); (focus assumption)) | (refine TW.skip (e := true) ?_ ?_ ?_ ?_; (focus rfl); (focus exact fun _ _ _ h => h); (focus assumption))); simp only [Act.put, List.setIfInBounds_toArray, List.set_cons_zero, List.set_cons_succ])
                  refine TW.done ?_
                  clear hS2
                  go_wp2_with fail
                  go_meet
                  exact ⟨rfl, F2.out, hz2, Q2.out⟩
                | true =>
                  iterate 11 ((first | (refine TW.val2 (v := ?_) ?_ ?_ ?_ ?_ ?_; rotate_left; (focus rfl); (focus (intro W hSW; (try dsimp only at hSW); (try (obtain ⟨hS1, hSW⟩ := hSW)); (try (obtain ⟨hS2, hSW⟩ := hSW)); (try (obtain ⟨hS3, hSW⟩ := hSW)); (try (obtain ⟨hS4, hSW⟩ := hSW)); (try (obtain ⟨hS5, hSW⟩ := hSW)); (try (obtain ⟨hS6, hSW⟩ := hSW)); (try (obtain ⟨hS7, hSW⟩ := hSW)); (try (obtain ⟨hS8, hSW⟩ := hSW)); go_simp; (try with_reducible rfl); done)); (focus exact fun _ _ _ h => h); (focus assumption)) | (refine TW.skip (e := false) ?_ ?_ ?_ ?_; (focus rfl); (focus exact fun _ _ _ h => h); (focus assumption))); simp only [Act.put, List.setIfInBounds_toArray, List.set_cons_zero, List.set_cons_succ])
                  refine TW.eff (by rfl) (fun K hK => ?_); go_simp
                  have SV := shares_v (y : Int) ak mk qk B rk f (x : Int) w11 (HRK.out.below ((HGB.out _ F2.out).mono hB)) (by omega) hmk
                  rw [HS2.out] at SV
                  refine SV.mono ?_
                  rintro e w12 ⟨rfl, b5⟩
                  have F3 := Lib.hid (F2.out.trans (b5.mono (Nat.le_of_lt hz2)))
                  have Q3 := Lib.hid (HKP.out _ _ hz2 Q2.out b5).1
                  have hz4 := (HKP.out _ _ hz2 Q2.out b5).2
                  have hS : w12.cell? (ad.add (i * 2)) = some (.int .i64 (x : Int)) ∧ w12.cell? ⟨(ad.add (i * 2)).block, (ad.add (i * 2)).off + 1, none⟩ = some (.slice ai mi qi) ∧ w12.cell? (ad.add (k * 2)) = some (.int .i64 (y : Int)) ∧ w12.cell? ⟨(ad.add (k * 2)).block, (ad.add (k * 2)).off + 1, none⟩ = some (.slice ak mk qk) := HC4.out _ F3.out
                  clear hS2 b5 SV F2 Q2 hz2
                  go_wp2_with fail; refine hK.out _ _ hS ?_; clear hK; (try simp only [Act.put, List.setIfInBounds_toArray, List.set_cons_zero, List.set_cons_succ])
                  iterate 2 ((first | (refine TW.val2 (v := ?_) ?_ ?_ ?_ ?_ ?_; rotate_left; (focus rfl); (focus (intro W hSW; (try dsimp only at hSW); (try (obtain ⟨hS1, hSW⟩ := hSW)); (try (obtain ⟨hS2, hSW⟩ := hSW)); (try (obtain ⟨hS3, hSW⟩ := hSW)); (try (obtain ⟨hS4, hSW⟩ := hSW)); (try (obtain ⟨hS5, hSW⟩ := hSW)); (try (obtain ⟨hS6, hSW⟩ := hSW)); (try (obtain ⟨hS7, hSW⟩ := hSW)); (try (obtain ⟨hS8, hSW⟩ := hSW)); go_simp; (try with_reducible rfl); done)); (focus exact fun _ _ _ h => h); (focus assumption)) | (refine TW.skip (e := false) ?_ ?_ ?_ ?_; (focus rfl); (focus exact fun _ _ _ h => h); (focus assumption))); simp only [Act.put, List.setIfInBounds_toArray, List.set_cons_zero, List.set_cons_succ])
                  refine TW.done ?_
                  clear hS
                  go_wp2_with fail
                  go_meet
                  exact ⟨rfl, F3.out, hz4, Q3.out⟩
              case rest =>
                obtain ⟨rfl, hF, hz4, hQ⟩ := hcut
                have F0 := Lib.hid hF
                have Q0 := Lib.hid hQ
                clear hF hQ hz3
                go_upto_region 33 with fail
                dsimp only [List.append]
                obtain ⟨vy, hvy⟩ : ∃ vy, (aget y E).getD 0 = vy := ⟨_, rfl⟩
                have HVY := Lib.hid hvy
                have HLY := Lib.hid (show ∀ V, IMap V g8 E → (Instr.lookup 34 (.map (some g8)) (.int .i64 (y : Int)) false).run Try.prog V = .ok (.int .i64 (vy : Int)) V from fun V h => by have := h.look0_ y (by omega); rwa [hvy] at this)
                clear hvy
                obtain ⟨bv, hbv⟩ : ∃ bv, bothP ((x : Int), ri.map Rw.p) ((y : Int), rk.map Rw.p) f = bv := ⟨_, rfl⟩
                have HBV := Lib.hid hbv
                have HBO := Lib.hid (HBV.out.symm.trans HBO0.out)
                clear hbv HBO0
                have F1 := Lib.hid (show Below g8 w7 wc.drew from F0.out.drew)
                have Q1 := Lib.hid (show IMap wc.drew g8 E from Q0.out)
                have hzd : g8 < wc.drew.heap.size := hz4
                have hS : wc.drew.cell? (ad.add (i * 2)) = some (.int .i64 (x : Int)) ∧ wc.drew.cell? ⟨(ad.add (i * 2)).block, (ad.add (i * 2)).off + 1, none⟩ = some (.slice ai mi qi) ∧ wc.drew.cell? (ad.add (k * 2)) = some (.int .i64 (y : Int)) ∧ wc.drew.cell? ⟨(ad.add (k * 2)).block, (ad.add (k * 2)).off + 1, none⟩ = some (.slice ak mk qk) ∧ (Instr.lookup 34 (.map (some g8)) (.int .i64 (x : Int)) false).run Try.prog wc.drew = .ok (.int .i64 (vx : Int)) wc.drew ∧ (Instr.lookup 34 (.map (some g8)) (.int .i64 (y : Int)) false).run Try.prog wc.drew = .ok (.int .i64 (vy : Int)) wc.drew := ⟨(HC4.out _ F1.out).1, (HC4.out _ F1.out).2.1, (HC4.out _ F1.out).2.2.1, (HC4.out _ F1.out).2.2.2, HLX.out _ Q1.out, HLY.out _ Q1.out⟩
                refine wp_region_text [(0, false), (1, false), (2, false), (3, false), (4, false), (5, false), (6, false), (7, false), (8, false), (10, false), (9, true), (11, false), (12, false), (13, false), (14, false), (15, false), (16, false), (17, false), (18, false), (19, false), (20, false), (21, false), (22, false), (23, false), (24, false), (25, false), (26, false), (28, false), (29, false), (30, false), (31, false), (32, false), (33, false), (34, false), (35, false), (36, false), (27, true), (37, true), (38, false), (39, false), (40, false), (41, false), (42, false), (43, false), (44, false), (45, false), (46, false), (47, false), (48, false), (49, false), (50, false), (51, false), (52, false), (53, false), (54, false), (55, false), (56, false), (57, false), (58, false), (59, false), (60, false), (61, false), (62, false), (63, false), (64, false)] (fun V => V.cell? (ad.add (i * 2)) = some (.int .i64 (x : Int)) ∧ V.cell? ⟨(ad.add (i * 2)).block, (ad.add (i * 2)).off + 1, none⟩ = some (.slice ai mi qi) ∧ V.cell? (ad.add (k * 2)) = some (.int .i64 (y : Int)) ∧ V.cell? ⟨(ad.add (k * 2)).block, (ad.add (k * 2)).off + 1, none⟩ = some (.slice ak mk qk) ∧ (Instr.lookup 34 (.map (some g8)) (.int .i64 (x : Int)) false).run Try.prog V = .ok (.int .i64 (vx : Int)) V ∧ (Instr.lookup 34 (.map (some g8)) (.int .i64 (y : Int)) false).run Try.prog V = .ok (.int .i64 (vy : Int)) V) (by kernel_rfl) (by kernel_rfl) (by kernel_rfl) (by kernel_rfl) (by kernel_rfl) (fun _ => ?_)
                simp only [outOf, List.getElem?_cons_zero, List.getElem?_cons_succ, Option.getD_some]
                generalize wc.drew = w10 at *
                clear F0 Q0 hz4
                iterate 10 ((first | (refine TW.val2 (v := ?_) ?_ ?_ ?_ ?_ ?_; rotate_left; (focus rfl); (focus (intro W hSW; (try dsimp only at hSW); (try (obtain ⟨hS1, hSW⟩ := hSW)); (try (obtain ⟨hS2, hSW⟩ := hSW)); (try (obtain ⟨hS3, hSW⟩ := hSW)); (try (obtain ⟨hS4, hSW⟩ := hSW)); (try (obtain ⟨hS5, hSW⟩ := hSW)); (try (obtain ⟨hS6, hSW⟩ := hSW)); (try (obtain ⟨hS7, hSW⟩ := hSW)); (try (obtain ⟨hS8, hSW⟩ := hSW)); go_simp; (try with_reducible rfl); done)); (focus exact fun _ _ _ h => h); (focus assumption)) | (refine TW.skip (e := false) ?_ ?_ ?_ ?_; (focus rfl); (focus exact fun _ _ _ h => h); (focus assumption))); simp only [Act.put, List.setIfInBounds_toArray, List.set_cons_zero, List.set_cons_succ])
                refine TW.eff (by rfl) (fun K hK => ?_); go_simp
                have BV := both_v (x : Int) (y : Int) ai ak mi qi mk qk B ri rk f w10 (HRI.out.below ((HGB.out _ F1.out).mono hB)) (HRK.out.below ((HGB.out _ F1.out).mono hB)) (by omega) hmi hmk
                rw [HBV.out] at BV
                refine BV.mono ?_
                rintro e w11 ⟨rfl, b5⟩
                have F2 := Lib.hid (F1.out.trans (b5.mono (Nat.le_of_lt hzd)))
                have Q2 := Lib.hid (HKP.out _ _ hzd Q1.out b5).1
                have hz5 := (HKP.out _ _ hzd Q1.out b5).2
                have hS2 : w11.cell? (ad.add (i * 2)) = some (.int .i64 (x : Int)) ∧ w11.cell? ⟨(ad.add (i * 2)).block, (ad.add (i * 2)).off + 1, none⟩ = some (.slice ai mi qi) ∧ w11.cell? (ad.add (k * 2)) = some (.int .i64 (y : Int)) ∧ w11.cell? ⟨(ad.add (k * 2)).block, (ad.add (k * 2)).off + 1, none⟩ = some (.slice ak mk qk) ∧ (Instr.lookup 34 (.map (some g8)) (.int .i64 (x : Int)) false).run Try.prog w11 = .ok (.int .i64 (vx : Int)) w11 ∧ (Instr.lookup 34 (.map (some g8)) (.int .i64 (y : Int)) false).run Try.prog w11 = .ok (.int .i64 (vy : Int)) w11 := ⟨(HC4.out _ F2.out).1, (HC4.out _ F2.out).2.1, (HC4.out _ F2.out).2.2.1, (HC4.out _ F2.out).2.2.2, HLX.out _ Q2.out, HLY.out _ Q2.out⟩
                clear hS b5 BV F1 Q1 hzd
                go_wp2_with fail; refine hK.out _ _ hS2 ?_; clear hK; (try simp only [Act.put, List.setIfInBounds_toArray, List.set_cons_zero, List.set_cons_succ])
                cases hbo : (s1 && s2) with
                | false =>
                  obtain rfl : bv = false := by rw [HBO.out, hbo, Bool.and_false]
                  clear hbo HBO
                  as_aux_lemma =>
                    iterate 25 ((first | (refine TW.val2 (v := ?_) ?_ ?_ ?_ ?_ ?_; rotate_left; (focus rfl); (focus (intro W hSW; (try dsimp only at hSW); (try (obtain ⟨hS1, hSW⟩ := hSW)); (try (obtain ⟨hS2, hSW⟩ := hSW)); (try (obtain ⟨hS3, hSW⟩ := hSW)); (try (obtain ⟨hS4, hSW⟩ := hSW)); (try (obtain ⟨hS5, hSW⟩ := hSW)); (try (obtain ⟨hS6, hSW⟩ := hSW)); (try (obtain ⟨hS7, hSW⟩ := hSW)); (try (obtain ⟨hS8, hSW⟩ := hSW)); go_simp; (try with_reducible rfl); done)); (focus exact fun _ _ _ h => h); (focus assumption)) | (refine TW.skip (e := false) ?_ ?_ ?_ ?_; (focus rfl); (focus exact fun _ _ _ h => h); (focus assumption)) | (refine TW.skip (e := true) ?_ ?_ ?_ ?_; (focus rfl); (focus exact fun _ _ _ h => h); (focus assumption))); simp only [Act.put, List.setIfInBounds_toArray, List.set_cons_zero, List.set_cons_succ])
                    refine TW.eff (by rfl) (fun K hK => ?_); go_simp
                    have BV := both_v (x : Int) (y : Int) ai ak mi qi mk qk B ri rk f w11 (HRI.out.below ((HGB.out _ F2.out).mono hB)) (HRK.out.below ((HGB.out _ F2.out).mono hB)) (by omega) hmi hmk
                    rw [HBV.out] at BV
                    refine BV.mono ?_
                    rintro e w12 ⟨rfl, b5⟩
                    have F3 := Lib.hid (F2.out.trans (b5.mono (Nat.le_of_lt hz5)))
                    have Q3 := Lib.hid (HKP.out _ _ hz5 Q2.out b5).1
                    have hz6 := (HKP.out _ _ hz5 Q2.out b5).2
                    have hS : w12.cell? (ad.add (i * 2)) = some (.int .i64 (x : Int)) ∧ w12.cell? ⟨(ad.add (i * 2)).block, (ad.add (i * 2)).off + 1, none⟩ = some (.slice ai mi qi) ∧ w12.cell? (ad.add (k * 2)) = some (.int .i64 (y : Int)) ∧ w12.cell? ⟨(ad.add (k * 2)).block, (ad.add (k * 2)).off + 1, none⟩ = some (.slice ak mk qk) ∧ (Instr.lookup 34 (.map (some g8)) (.int .i64 (x : Int)) false).run Try.prog w12 = .ok (.int .i64 (vx : Int)) w12 ∧ (Instr.lookup 34 (.map (some g8)) (.int .i64 (y : Int)) false).run Try.prog w12 = .ok (.int .i64 (vy : Int)) w12 := ⟨(HC4.out _ F3.out).1, (HC4.out _ F3.out).2.1, (HC4.out _ F3.out).2.2.1, (HC4.out _ F3.out).2.2.2, HLX.out _ Q3.out, HLY.out _ Q3.out⟩
                    clear hS2 b5 BV F2 Q2 hz5
                    go_wp2_with fail; refine hK.out _ _ hS ?_; clear hK; (try simp only [Act.put, List.setIfInBounds_toArray, List.set_cons_zero, List.set_cons_succ])
                    refine TW.eff (by rfl) (fun K hK => ?_); go_simp
                    have BV := both_v (y : Int) (x : Int) ak ai mk qk mi qi B rk ri f w12 (HRK.out.below ((HGB.out _ F3.out).mono hB)) (HRI.out.below ((HGB.out _ F3.out).mono hB)) (by omega) hmk hmi
                    rw [bothP_comm, HBV.out] at BV
                    refine BV.mono ?_
                    rintro e w13 ⟨rfl, b5⟩
                    have F4 := Lib.hid (F3.out.trans (b5.mono (Nat.le_of_lt hz6)))
                    have Q4 := Lib.hid (HKP.out _ _ hz6 Q3.out b5).1
                    have hz7 := (HKP.out _ _ hz6 Q3.out b5).2
                    have hS2 : w13.cell? (ad.add (i * 2)) = some (.int .i64 (x : Int)) ∧ w13.cell? ⟨(ad.add (i * 2)).block, (ad.add (i * 2)).off + 1, none⟩ = some (.slice ai mi qi) ∧ w13.cell? (ad.add (k * 2)) = some (.int .i64 (y : Int)) ∧ w13.cell? ⟨(ad.add (k * 2)).block, (ad.add (k * 2)).off + 1, none⟩ = some (.slice ak mk qk) ∧ (Instr.lookup 34 (.map (some g8)) (.int .i64 (x : Int)) false).run Try.prog w13 = .ok (.int .i64 (vx : Int)) w13 ∧ (Instr.lookup 34 (.map (some g8)) (.int .i64 (y : Int)) false).run Try.prog w13 = .ok (.int .i64 (vy : Int)) w13 := ⟨(HC4.out _ F4.out).1, (HC4.out _ F4.out).2.1, (HC4.out _ F4.out).2.2.1, (HC4.out _ F4.out).2.2.2, HLX.out _ Q4.out, HLY.out _ Q4.out⟩
                    clear hS b5 BV F3 Q3 hz6
                    go_wp2_with fail; refine hK.out _ _ hS2 ?_; clear hK; (try simp only [Act.put, List.setIfInBounds_toArray, List.set_cons_zero, List.set_cons_succ])
                    iterate 27 ((first | (refine TW.val2 (v := ?_) ?_ ?_ ?_ ?_ ?_; rotate_left; (focus rfl); (focus (intro W hSW; (try dsimp only at hSW); (try (obtain ⟨hS1, hSW⟩ := hSW)); (try (obtain ⟨hS2, hSW⟩ := hSW)); (try (obtain ⟨hS3, hSW⟩ := hSW)); (try (obtain ⟨hS4, hSW⟩ := hSW)); (try (obtain ⟨hS5, hSW⟩ := hSW)); (try (obtain ⟨hS6, hSW⟩ := hSW)); (try (obtain ⟨hS7, hSW⟩ := hSW)); (try (obtain ⟨hS8, hSW⟩ := hSW)); go_simp; (try with_reducible rfl); done)); (focus exact fun _ _ _ h => h); (focus assumption)) | (refine TW.skip (e := false) ?_ ?_ ?_ ?_; (focus rfl); (focus exact fun _ _ _ h => h); (focus assumption)) | (refine TW.skip (e := true) ?_ ?_ ?_ ?_; (focus rfl); (focus exact fun _ _ _ h => h); (focus assumption))); simp only [Act.put, List.setIfInBounds_toArray, List.set_cons_zero, List.set_cons_succ])
                    refine TW.done ?_
                    clear hS2
                    go_wp2_with fail
                    go_roundw
                    case rel => exact ⟨k + 1, hlt2, by go_num, F4.out, hz7, Q4.out⟩
                    case measure => simp [intOf]; omega
                | true =>
                by_cases hik : i = k
                · obtain rfl : bv = false := by
                    rw [HBO.out, decide_eq_true (Classical.byContradiction fun h => HIK.out.2 h hik)]; rfl
                  have dik : ((i : Int) != (k : Int)) = false := by simp; omega
                  clear hbo HBO hik
                  as_aux_lemma =>
                    iterate 25 ((first | (refine TW.val2 (v := ?_) ?_ ?_ ?_ ?_ ?_; rotate_left; (focus rfl); (focus (intro W hSW; (try dsimp only at hSW); (try (obtain ⟨hS1, hSW⟩ := hSW)); (try (obtain ⟨hS2, hSW⟩ := hSW)); (try (obtain ⟨hS3, hSW⟩ := hSW)); (try (obtain ⟨hS4, hSW⟩ := hSW)); (try (obtain ⟨hS5, hSW⟩ := hSW)); (try (obtain ⟨hS6, hSW⟩ := hSW)); (try (obtain ⟨hS7, hSW⟩ := hSW)); (try (obtain ⟨hS8, hSW⟩ := hSW)); go_simp; (try with_reducible rfl); done)); (focus exact fun _ _ _ h => h); (focus assumption)) | (refine TW.skip (e := false) ?_ ?_ ?_ ?_; (focus rfl); (focus exact fun _ _ _ h => h); (focus assumption)) | (refine TW.skip (e := true) ?_ ?_ ?_ ?_; (focus rfl); (focus exact fun _ _ _ h => h); (focus assumption))); simp only [Act.put, List.setIfInBounds_toArray, List.set_cons_zero, List.set_cons_succ])
                    refine TW.eff (by rfl) (fun K hK => ?_); go_simp
                    have BV := both_v (x : Int) (y : Int) ai ak mi qi mk qk B ri rk f w11 (HRI.out.below ((HGB.out _ F2.out).mono hB)) (HRK.out.below ((HGB.out _ F2.out).mono hB)) (by omega) hmi hmk
                    rw [HBV.out] at BV
                    refine BV.mono ?_
                    rintro e w12 ⟨rfl, b5⟩
                    have F3 := Lib.hid (F2.out.trans (b5.mono (Nat.le_of_lt hz5)))
                    have Q3 := Lib.hid (HKP.out _ _ hz5 Q2.out b5).1
                    have hz6 := (HKP.out _ _ hz5 Q2.out b5).2
                    have hS : w12.cell? (ad.add (i * 2)) = some (.int .i64 (x : Int)) ∧ w12.cell? ⟨(ad.add (i * 2)).block, (ad.add (i * 2)).off + 1, none⟩ = some (.slice ai mi qi) ∧ w12.cell? (ad.add (k * 2)) = some (.int .i64 (y : Int)) ∧ w12.cell? ⟨(ad.add (k * 2)).block, (ad.add (k * 2)).off + 1, none⟩ = some (.slice ak mk qk) ∧ (Instr.lookup 34 (.map (some g8)) (.int .i64 (x : Int)) false).run Try.prog w12 = .ok (.int .i64 (vx : Int)) w12 ∧ (Instr.lookup 34 (.map (some g8)) (.int .i64 (y : Int)) false).run Try.prog w12 = .ok (.int .i64 (vy : Int)) w12 := ⟨(HC4.out _ F3.out).1, (HC4.out _ F3.out).2.1, (HC4.out _ F3.out).2.2.1, (HC4.out _ F3.out).2.2.2, HLX.out _ Q3.out, HLY.out _ Q3.out⟩
                    clear hS2 b5 BV F2 Q2 hz5
                    go_wp2_with fail; refine hK.out _ _ hS ?_; clear hK; (try simp only [Act.put, List.setIfInBounds_toArray, List.set_cons_zero, List.set_cons_succ])
                    refine TW.eff (by rfl) (fun K hK => ?_); go_simp
                    have BV := both_v (y : Int) (x : Int) ak ai mk qk mi qi B rk ri f w12 (HRK.out.below ((HGB.out _ F3.out).mono hB)) (HRI.out.below ((HGB.out _ F3.out).mono hB)) (by omega) hmk hmi
                    rw [bothP_comm, HBV.out] at BV
                    refine BV.mono ?_
                    rintro e w13 ⟨rfl, b5⟩
                    have F4 := Lib.hid (F3.out.trans (b5.mono (Nat.le_of_lt hz6)))
                    have Q4 := Lib.hid (HKP.out _ _ hz6 Q3.out b5).1
                    have hz7 := (HKP.out _ _ hz6 Q3.out b5).2
                    have hS2 : w13.cell? (ad.add (i * 2)) = some (.int .i64 (x : Int)) ∧ w13.cell? ⟨(ad.add (i * 2)).block, (ad.add (i * 2)).off + 1, none⟩ = some (.slice ai mi qi) ∧ w13.cell? (ad.add (k * 2)) = some (.int .i64 (y : Int)) ∧ w13.cell? ⟨(ad.add (k * 2)).block, (ad.add (k * 2)).off + 1, none⟩ = some (.slice ak mk qk) ∧ (Instr.lookup 34 (.map (some g8)) (.int .i64 (x : Int)) false).run Try.prog w13 = .ok (.int .i64 (vx : Int)) w13 ∧ (Instr.lookup 34 (.map (some g8)) (.int .i64 (y : Int)) false).run Try.prog w13 = .ok (.int .i64 (vy : Int)) w13 := ⟨(HC4.out _ F4.out).1, (HC4.out _ F4.out).2.1, (HC4.out _ F4.out).2.2.1, (HC4.out _ F4.out).2.2.2, HLX.out _ Q4.out, HLY.out _ Q4.out⟩
                    clear hS b5 BV F3 Q3 hz6
                    go_wp2_with fail; refine hK.out _ _ hS2 ?_; clear hK; (try simp only [Act.put, List.setIfInBounds_toArray, List.set_cons_zero, List.set_cons_succ])
                    iterate 27 ((first | (refine TW.val2 (v := ?_) ?_ ?_ ?_ ?_ ?_; rotate_left; (focus rfl); (focus (intro W hSW; (try dsimp only at hSW); (try (obtain ⟨hS1, hSW⟩ := hSW)); (try (obtain ⟨hS2, hSW⟩ := hSW)); (try (obtain ⟨hS3, hSW⟩ := hSW)); (try (obtain ⟨hS4, hSW⟩ := hSW)); (try (obtain ⟨hS5, hSW⟩ := hSW)); (try (obtain ⟨hS6, hSW⟩ := hSW)); (try (obtain ⟨hS7, hSW⟩ := hSW)); (try (obtain ⟨hS8, hSW⟩ := hSW)); go_simp; (try with_reducible rfl); done)); (focus exact fun _ _ _ h => h); (focus assumption)) | (refine TW.skip (e := false) ?_ ?_ ?_ ?_; (focus rfl); (focus exact fun _ _ _ h => h); (focus assumption)) | (refine TW.skip (e := true) ?_ ?_ ?_ ?_; (focus rfl); (focus exact fun _ _ _ h => h); (focus assumption))); simp only [Act.put, List.setIfInBounds_toArray, List.set_cons_zero, List.set_cons_succ])
                    refine TW.done ?_
                    clear hS2
                    go_wp2_with fail
                    go_roundw
                    case rel => exact ⟨k + 1, hlt2, by go_num, F4.out, hz7, Q4.out⟩
                    case measure => simp [intOf]; omega
                · obtain rfl : bv = true := by
                    rw [HBO.out, hbo, decide_eq_false (HIK.out.1 hik)]; rfl
                  have dik : ((i : Int) != (k : Int)) = true := by simp; omega
                  obtain rfl : vx = vy := by rw [← HVX.out, ← HVY.out]; exact both_part f HPE.out HXI.out HXK.out HOX.out HOY.out HBV.out
                  have dvv : ((vx : Int) != (vx : Int)) = false := by simp
                  clear hbo HBO hik
                  as_aux_lemma =>
                    iterate 25 ((first | (refine TW.val2 (v := ?_) ?_ ?_ ?_ ?_ ?_; rotate_left; (focus rfl); (focus (intro W hSW; (try dsimp only at hSW); (try (obtain ⟨hS1, hSW⟩ := hSW)); (try (obtain ⟨hS2, hSW⟩ := hSW)); (try (obtain ⟨hS3, hSW⟩ := hSW)); (try (obtain ⟨hS4, hSW⟩ := hSW)); (try (obtain ⟨hS5, hSW⟩ := hSW)); (try (obtain ⟨hS6, hSW⟩ := hSW)); (try (obtain ⟨hS7, hSW⟩ := hSW)); (try (obtain ⟨hS8, hSW⟩ := hSW)); go_simp; (try with_reducible rfl); done)); (focus exact fun _ _ _ h => h); (focus assumption)) | (refine TW.skip (e := false) ?_ ?_ ?_ ?_; (focus rfl); (focus exact fun _ _ _ h => h); (focus assumption))); simp only [Act.put, List.setIfInBounds_toArray, List.set_cons_zero, List.set_cons_succ])
                    refine TW.eff (by rfl) (fun K hK => ?_); go_simp
                    have BV := both_v (x : Int) (y : Int) ai ak mi qi mk qk B ri rk f w11 (HRI.out.below ((HGB.out _ F2.out).mono hB)) (HRK.out.below ((HGB.out _ F2.out).mono hB)) (by omega) hmi hmk
                    rw [HBV.out] at BV
                    refine BV.mono ?_
                    rintro e w12 ⟨rfl, b5⟩
                    have F3 := Lib.hid (F2.out.trans (b5.mono (Nat.le_of_lt hz5)))
                    have Q3 := Lib.hid (HKP.out _ _ hz5 Q2.out b5).1
                    have hz6 := (HKP.out _ _ hz5 Q2.out b5).2
                    have hS : w12.cell? (ad.add (i * 2)) = some (.int .i64 (x : Int)) ∧ w12.cell? ⟨(ad.add (i * 2)).block, (ad.add (i * 2)).off + 1, none⟩ = some (.slice ai mi qi) ∧ w12.cell? (ad.add (k * 2)) = some (.int .i64 (y : Int)) ∧ w12.cell? ⟨(ad.add (k * 2)).block, (ad.add (k * 2)).off + 1, none⟩ = some (.slice ak mk qk) ∧ (Instr.lookup 34 (.map (some g8)) (.int .i64 (x : Int)) false).run Try.prog w12 = .ok (.int .i64 (vx : Int)) w12 ∧ (Instr.lookup 34 (.map (some g8)) (.int .i64 (y : Int)) false).run Try.prog w12 = .ok (.int .i64 (vx : Int)) w12 := ⟨(HC4.out _ F3.out).1, (HC4.out _ F3.out).2.1, (HC4.out _ F3.out).2.2.1, (HC4.out _ F3.out).2.2.2, HLX.out _ Q3.out, HLY.out _ Q3.out⟩
                    clear hS2 b5 BV F2 Q2 hz5
                    go_wp2_with fail; refine hK.out _ _ hS ?_; clear hK; (try simp only [Act.put, List.setIfInBounds_toArray, List.set_cons_zero, List.set_cons_succ])
                    refine TW.eff (by rfl) (fun K hK => ?_); go_simp
                    have BV := both_v (y : Int) (x : Int) ak ai mk qk mi qi B rk ri f w12 (HRK.out.below ((HGB.out _ F3.out).mono hB)) (HRI.out.below ((HGB.out _ F3.out).mono hB)) (by omega) hmk hmi
                    rw [bothP_comm, HBV.out] at BV
                    refine BV.mono ?_
                    rintro e w13 ⟨rfl, b5⟩
                    have F4 := Lib.hid (F3.out.trans (b5.mono (Nat.le_of_lt hz6)))
                    have Q4 := Lib.hid (HKP.out _ _ hz6 Q3.out b5).1
                    have hz7 := (HKP.out _ _ hz6 Q3.out b5).2
                    have hS2 : w13.cell? (ad.add (i * 2)) = some (.int .i64 (x : Int)) ∧ w13.cell? ⟨(ad.add (i * 2)).block, (ad.add (i * 2)).off + 1, none⟩ = some (.slice ai mi qi) ∧ w13.cell? (ad.add (k * 2)) = some (.int .i64 (y : Int)) ∧ w13.cell? ⟨(ad.add (k * 2)).block, (ad.add (k * 2)).off + 1, none⟩ = some (.slice ak mk qk) ∧ (Instr.lookup 34 (.map (some g8)) (.int .i64 (x : Int)) false).run Try.prog w13 = .ok (.int .i64 (vx : Int)) w13 ∧ (Instr.lookup 34 (.map (some g8)) (.int .i64 (y : Int)) false).run Try.prog w13 = .ok (.int .i64 (vx : Int)) w13 := ⟨(HC4.out _ F4.out).1, (HC4.out _ F4.out).2.1, (HC4.out _ F4.out).2.2.1, (HC4.out _ F4.out).2.2.2, HLX.out _ Q4.out, HLY.out _ Q4.out⟩
                    clear hS b5 BV F3 Q3 hz6
                    go_wp2_with fail; refine hK.out _ _ hS2 ?_; clear hK; (try simp only [Act.put, List.setIfInBounds_toArray, List.set_cons_zero, List.set_cons_succ])
                    iterate 27 ((first | (refine TW.val2 (v := ?_) ?_ ?_ ?_ ?_ ?_; rotate_left; (focus rfl); (focus (intro W hSW; (try dsimp only at hSW); (try (obtain ⟨hS1, hSW⟩ := hSW)); (try (obtain ⟨hS2, hSW⟩ := hSW)); (try (obtain ⟨hS3, hSW⟩ := hSW)); (try (obtain ⟨hS4, hSW⟩ := hSW)); (try (obtain ⟨hS5, hSW⟩ := hSW)); (try (obtain ⟨hS6, hSW⟩ := hSW)); (try (obtain ⟨hS7, hSW⟩ := hSW)); (try (obtain ⟨hS8, hSW⟩ := hSW)); go_simp; (try with_reducible rfl); done)); (focus exact fun _ _ _ h => h); (focus assumption)) | (refine TW.skip (e := false) ?_ ?_ ?_ ?_; (focus rfl); (focus exact fun _ _ _ h => h); (focus assumption))); simp only [Act.put, List.setIfInBounds_toArray, List.set_cons_zero, List.set_cons_succ])
                    refine TW.done ?_
                    clear hS2
                    go_wp2_with fail
                    go_roundw
                    case rel => exact ⟨k + 1, hlt2, by go_num, F4.out, hz7, Q4.out⟩
                    case measure => simp [intOf]; omega
end Go.Proofs.Ytikegnnlmfidfaa
