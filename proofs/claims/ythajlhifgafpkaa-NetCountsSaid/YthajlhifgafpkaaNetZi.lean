/-
  Nets: NetCounts, walked.
-/
import Derived.Test.YthajlhifgafpkaaNetZc
import Derived.Test.YthajlhifgafpkaaNetZd
import Derived.Test.YthajlhifgafpkaaNetZg
import Derived.Test.YthajlhifgafpkaaNetZh
import Derived.Deep.DeepCutAuto
import Derived.Deep.CutBlock
namespace Go.Proofs.Ythajlhifgafpkaa
open Go.RowKit Go.Shelf
theorem wf_nonneg_u64' (z : Int) (h : (Lit.int .u64 z).wf = true) : 0 ≤ z := by
  exact (Go.bounds_u64 h).1
theorem small_bl {xs : List ActV} {k : Nat} {x : ActV} (h : smallL xs = true) (hx : xs[k]? = some x) : x.bl ≤ 2000 := by
  simp only [smallL, Bool.and_eq_true, decide_eq_true_eq] at h
  have hm : x ∈ xs := List.mem_of_getElem? hx
  have : x.bl ≤ (xs.map (·.bl)).sum := by
    clear h hx
    induction xs with
    | nil => cases hm
    | cons y l ih =>
      simp only [List.map_cons, List.sum_cons]
      rcases List.mem_cons.1 hm with rfl | hm
      · omega
      · have := ih hm; omega
  omega
theorem okDev_I64 {a b : Int} (h : okDev a b = true) : I64 a ∧ I64 b := by
  simp only [okDev, decide_eq_true_eq] at h
  have hw : ∀ x : Int, 1 ≤ x → x ≤ 16 → I64 x := fun x h1 h2 => by
    obtain ⟨n, rfl⟩ := Int.eq_ofNat_of_zero_le (show 0 ≤ x by omega)
    have hn : n < 17 := by omega
    clear h h1 h2
    revert hn
    revert n
    decide
  exact ⟨hw a h.1 h.2.1, hw b h.2.2.1 h.2.2.2.1⟩
theorem NS.good.asc_at {s : NS} (h : s.good) {i j : Nat} {p q : Pk} (hp : s.fl[i]? = some p) (hq : s.fl[j]? = some q) (hij : i < j) : p.num < q.num := by
  obtain ⟨h1, e1⟩ := List.getElem?_eq_some_iff.1 hp
  obtain ⟨h2, e2⟩ := List.getElem?_eq_some_iff.1 hq
  have := List.pairwise_iff_getElem.1 h.asc i j h1 h2 hij
  rwa [e1, e2] at this
theorem filt_take {α : Type} {l : List α} {f : α → Bool} {j : Nat} {p : α} (hp : l[j]? = some p) : ((l.take (j + 1)).filter f).length = ((l.take j).filter f).length + (if f p then 1 else 0) := by
  rw [List.take_add_one, hp, List.filter_append]
  cases h : f p <;> simp [h]
set_option maxRecDepth 100000 in
set_option maxHeartbeats 16000000 in
theorem counts_v (A0 : Option Addr) (len0 cap0 : Nat) (xs : List ActV) (w : World) (h : AReads w w.heap.size A0 len0 xs) (hn : len0 ≤ 9223372036854775807) :
    Calls Try.prog 6 #[.slice A0 len0 cap0] w fun e w' => e = .returned (.bool true) ∧ Below w.heap.size w w' := by
  have HX := Lib.hid h
  have HXL := Lib.hid h.len
  have HIA := Lib.hid (show (Try.prog.info? 43).map (·.size) = some 5 by kernel_rfl)
  have HIN := Lib.hid (show (Try.prog.info? 47).map (·.size) = some 7 by kernel_rfl)
  clear h
  go_enter Try.func6, Try.ntmps6
  go_wp2_with fail
  refine (lives_v w).mono ?_
  rintro e w1 ⟨rfl, b1⟩
  have B1 := Lib.hid b1
  have hz1 := b1.size
  clear b1
  go_wp2_with fail
  refine (small_v A0 len0 cap0 w.heap.size xs w1 (HX.out.below B1.out) hn hz1).mono ?_
  rintro e w2 ⟨rfl, b2⟩
  have B2 := Lib.hid (B1.out.trans (b2.mono hz1))
  have hz2 := B2.out.size
  clear b2
  cases hsm : smallL xs
  · clear hsm
    go_wp2_with fail
    go_ret
    exact ⟨rfl, B2.out⟩
  have HSM := Lib.hid hsm
  have hl200 : len0 ≤ 200 := by
    have h1 := HXL.out
    simp [smallL] at hsm
    omega
  clear hsm
  go_wp2_with fail
  refine (new_v w2).mono ?_
  rintro e w3 ⟨g, mb, rfl, h3, b3⟩
  have H3 := Lib.hid h3
  have B3 := Lib.hid (B2.out.trans (b3.mono hz2))
  clear h3 b3
  go_wp2_with fail
  go_loopw [4, 5] (fun many i wr => ∃ (k n c : Nat) (A : Option Addr) (vs : List PkV) (s : NS), k ≤ len0 ∧ i = .int .i64 (k : Int) ∧ many = .int .i64 (s.fl.length : Int) ∧ NetIs wr w2.heap.size g mb A n c vs s ∧ s.good ∧ s.small k ∧ Below w.heap.size w wr) (fun _ i _ => len0 - (intOf i).toNat)
  case atStart => exact ⟨0, 0, 0, none, [], NS.new, Nat.zero_le _, rfl, rfl, H3.out, NS.good.new, NS.small.new, B3.out⟩
  case round =>
    obtain ⟨k, n, c, A, vs, s, hk, rfl, rfl, h4, hg, hs, b4⟩ := hrel
    have H4 := Lib.hid h4
    have B4 := Lib.hid b4
    have HG := Lib.hid hg
    have HS := Lib.hid hs
    have hn4 : n ≤ 4096 := by rw [← h4.len]; exact hs.fl
    have hz4 := b4.size
    have HFL := Lib.hid h4.len
    clear h4 b4 hg hs
    by_cases hlt : k < len0
    · go_wp2_with fail
      refine (flight_is wr H4.out hn4).mono ?_
      rintro e w5 ⟨A5, c5, rfl, hf5, b5⟩
      have F5 := Lib.hid hf5
      have H5 := Lib.hid (H4.out.below b5)
      have B5 := Lib.hid (B4.out.trans (b5.mono hz4))
      have hz5 := b5.size
      clear hf5 b5
      obtain ⟨ad, ⟨xk, xa, xb, xn, xba, xbl, xbc, xbs⟩, rfl, hx, hin, hc⟩ := HX.out.at_ hlt
      have HXK := Lib.hid hx
      have HIN5 := Lib.hid (hin.below B5.out)
      have HC := Lib.hid hc
      have HC5 := Lib.hid (hc w5 B5.out)
      have k0 : (0 : Int) ≤ (k : Int) := by omega
      clear hx hin hc
      obtain ⟨xm, hxm⟩ := Int.eq_ofNat_of_zero_le (wf_nonneg_u64' xn HIN5.out.n)
      try dsimp only at hxm
      subst hxm
      go_wp2_with (first
        | (refine wpList_load_slot rfl 43 (.tmp 31) rfl (ad.add (k * 5)) rfl [.int .i64 xk, .int .i64 xa, .int .i64 xb, .int .u64 (xm : Int), .slice xba xbl xbc] _ HC5.out Try.underlying43 rfl HIA.out ?_)
        | fail)
      refine (call_v xk xa xb xm xba xbl xbc w.heap.size k xbs w5 H5.out HIN5.out.a HIN5.out.b HIN5.out.r B5.out.size (by have := small_bl HSM.out HXK.out; dsimp only at this; omega) HS.out (by omega)).mono ?_
      rintro e w6 ⟨A6, m6, c6, v6, va, vl, vc, rfl, _, h6, b6, n6⟩
      have F6 := Lib.hid (F5.out.keep (W' := w6) (fun j hj => by
        obtain ⟨ys, hy, _⟩ := F5.out
        have hl := hy.lt j hj
        have h1 := H4.out.lt
        have h2 := H4.out.mlt
        exact n6.blk j hl.2 (by omega) (by omega) (fun e => by have := (H4.out.hf.base_le j e).2; omega)))
      have H6 := Lib.hid h6
      have B6 := Lib.hid (B5.out.trans (b6.mono hz2))
      clear h6 b6 n6
      obtain ⟨an, han⟩ : ∃ an, s.call xk xa xb xm xbs = an := ⟨_, rfl⟩
      have HAN := Lib.hid han
      rw [han] at H6 ⊢
      clear han
      have hz6 := B6.out.size
      have BA := Lib.hid ((Below.refl w6.heap.size w6).alloc (Nat.le_refl _) (.cells #[.int .u64 (an.1.num : Int), .int .u64 (an.1.pk.num : Int), .int .i64 an.1.pk.frm, .int .i64 an.1.pk.too, .int .u64 (an.1.pk.run : Int), .slice va vl vc, .int .i64 (an.1.err : Int)] 47))
      have X7 := Lib.hid (heap_alloc_new w6 (.cells #[.int .u64 (an.1.num : Int), .int .u64 (an.1.pk.num : Int), .int .i64 an.1.pk.frm, .int .i64 an.1.pk.too, .int .u64 (an.1.pk.run : Int), .slice va vl vc, .int .i64 (an.1.err : Int)] 47))
      have H7 := Lib.hid (H6.out.below BA.out)
      have F7 := Lib.hid (F6.out.below BA.out)
      have B7 := Lib.hid (B6.out.alloc hz6 (.cells #[.int .u64 (an.1.num : Int), .int .u64 (an.1.pk.num : Int), .int .i64 an.1.pk.frm, .int .i64 an.1.pk.too, .int .u64 (an.1.pk.run : Int), .slice va vl vc, .int .i64 (an.1.err : Int)] 47))
      have cK : (w6.alloc (.cells #[.int .u64 (an.1.num : Int), .int .u64 (an.1.pk.num : Int), .int .i64 an.1.pk.frm, .int .i64 an.1.pk.too, .int .u64 (an.1.pk.run : Int), .slice va vl vc, .int .i64 (an.1.err : Int)] 47)).cell? (ad.add (k * 5)) = some (.int .i64 xk) := HC.out _ B7.out 0 _ rfl
      clear BA H6 F6 B6
      go_wp2_with fail
      generalize w6.alloc (.cells #[.int .u64 (an.1.num : Int), .int .u64 (an.1.pk.num : Int), .int .i64 an.1.pk.frm, .int .i64 an.1.pk.too, .int .u64 (an.1.pk.run : Int), .slice va vl vc, .int .i64 (an.1.err : Int)] 47) = w7 at *
      generalize w6.heap.size = q7 at *
      refine (pick_any xk 6 w7 (by omega) (by omega)).mono ?_
      rintro e _ ⟨rfl, rfl⟩
      have hq0 := Int.emod_nonneg xk (show ((6 : Nat) : Int) ≠ 0 by omega)
      have hq1 := Int.emod_lt_of_pos xk (show (0 : Int) < ((6 : Nat) : Int) by omega)
      obtain ⟨z, hzq⟩ : ∃ z : Int, xk % ((6 : Nat) : Int) = z := ⟨_, rfl⟩
      rw [hzq] at hq0 hq1 ⊢
      have HZ := Lib.hid (show xk % 6 = z from hzq)
      clear hzq cK
      have e6 : w7.cell? ⟨q7, 6, none⟩ = some (.int .i64 (an.1.err : Int)) := by rw [cell_of_row _ _ 6 _ _ _ X7.out]; rfl
      go_upto_block 2 with fail
      go_cut [4] from 40 to 123 (fun many wx => many = .int .i64 (an.2.fl.length : Int) ∧ Below w7.heap.size w7 wx)
      case first =>
        by_cases herr : an.1.err = 0
        · have d1 : ((an.1.err : Int) != 0) = false := by rw [herr]; rfl
          have d2 : ((an.1.err : Int) == 0) = true := by rw [herr]; rfl
          by_cases hz0 : z = 0
          · subst hz0
            have HL := Lib.hid (show an.2.fl = s.fl by
              rw [← HAN.out]
              unfold NS.call
              rw [HZ.out, if_pos rfl]
              exact (up_fl s xa xb).1)
            go_wp2_with fail
            go_meet
            exact ⟨by rw [HL.out], Below.refl _ _⟩
          · by_cases hz1 : z = 1
            · subst hz1
              have HD := Lib.hid (show (s.down xa xb).1 = 0 ∧ an.2.fl.length = (s.down xa xb).2.fl.length by
                have e := HAN.out
                unfold NS.call at e
                rw [HZ.out, if_neg (by decide), if_pos rfl] at e
                rw [← e] at herr ⊢
                exact ⟨herr, rfl⟩)
              have HDL := Lib.hid (down_ok HD.out.1)
              go_wp2_with fail
              go_loopw [4, 9] (fun many i wr => ∃ j m : Nat, j ≤ n ∧ i = .int .i64 (j : Int) ∧ many = .int .i64 (m : Int) ∧ m + ((s.fl.take j).filter (btw xa xb)).length = s.fl.length ∧ Below w7.heap.size w7 wr) (fun _ i _ => n - (intOf i).toNat)
              case atStart => exact ⟨0, s.fl.length, Nat.zero_le _, rfl, rfl, by simp, Below.refl _ _⟩
              case round =>
                obtain ⟨j, m, hj, rfl, rfl, hm, bb⟩ := hrel
                have HM := Lib.hid hm
                have BB := Lib.hid bb
                clear hm bb
                by_cases hlt2 : j < n
                · obtain ⟨gf, cf, p, hv5, _, hgf, hp, hcell⟩ := F7.out.at_ hlt2
                  have hv6 := hv5
                  injection hv6 with hv6 hv7 hv8
                  subst hv6
                  obtain ⟨_, p1, p2, _⟩ := hcell wr (BB.out.block gf hgf)
                  have a1 : wr.cell? ⟨(ad.add (k * 5)).block, (ad.add (k * 5)).off + 1, none⟩ = some (.int .i64 xa) := HC.out wr (B7.out.trans (BB.out.mono B7.out.size)) 1 _ rfl
                  have a2 : wr.cell? ⟨(ad.add (k * 5)).block, (ad.add (k * 5)).off + 2, none⟩ = some (.int .i64 xb) := HC.out wr (B7.out.trans (BB.out.mono B7.out.size)) 2 _ rfl
                  have HP := Lib.hid hp
                  have FT := Lib.hid (filt_take (f := btw xa xb) hp)
                  have d0 : decide (j < n) = true := by simpa using hlt2
                  have j0 : (0 : Int) ≤ (j : Int) := by omega
                  have hm1 : m ≤ 4096 := by have := HM.out; have := HFL.out; omega
                  have hm2 : 1 ≤ m := by
                    have h1 := HM.out
                    have h2 := HFL.out
                    have h3 : ((s.fl.take j).filter (btw xa xb)).length ≤ j := Nat.le_trans (List.length_filter_le _ _) (by simp; omega)
                    omega
                  clear hp hcell hv5
                  have HBT := Lib.hid (show btw xa xb p = ((p.frm == xa && p.too == xb) || (p.frm == xb && p.too == xa)) by rw [Bool.eq_iff_iff]; simp [btw])
                  by_cases h1 : p.frm = xa
                  · have e1 : (p.frm == xa) = true := by simpa using h1
                    by_cases h2 : p.too = xb
                    · have e2 : (p.too == xb) = true := by simpa using h2
                      clear h1 h2
                      have HQ := Lib.hid (show btw xa xb p = true by rw [HBT.out, e1, e2]; rfl)
                      have FT2 := Lib.hid (show ((s.fl.take (j + 1)).filter (btw xa xb)).length = ((s.fl.take j).filter (btw xa xb)).length + 1 by rw [FT.out, HQ.out]; rfl)
                      as_aux_lemma =>
                        go_upto_region 18 with fail
                        go_quiet (fail)
                        obtain ⟨m', rfl⟩ : ∃ m', m = m' + 1 := ⟨m - 1, by omega⟩
                        go_wp2_with fail
                        go_roundw
                        case rel => exact ⟨j + 1, m', hlt2, by go_num, by first | rfl | go_num, by have := HM.out; have := FT2.out; omega, BB.out.trans (below_drewN (Below.refl _ wr) _)⟩
                        case measure => simp [intOf]; omega
                    · have e2 : (p.too == xb) = false := by simpa using h2
                      by_cases h3 : p.frm = xb
                      · have e3 : (p.frm == xb) = true := by simpa using h3
                        by_cases h4 : p.too = xa
                        · have e4 : (p.too == xa) = true := by simpa using h4
                          clear h1 h2 h3 h4
                          have HQ := Lib.hid (show btw xa xb p = true by rw [HBT.out, e1, e2, e3, e4]; rfl)
                          have FT2 := Lib.hid (show ((s.fl.take (j + 1)).filter (btw xa xb)).length = ((s.fl.take j).filter (btw xa xb)).length + 1 by rw [FT.out, HQ.out]; rfl)
                          as_aux_lemma =>
                            go_upto_region 18 with fail
                            go_quiet (fail)
                            obtain ⟨m', rfl⟩ : ∃ m', m = m' + 1 := ⟨m - 1, by omega⟩
                            go_wp2_with fail
                            go_roundw
                            case rel => exact ⟨j + 1, m', hlt2, by go_num, by first | rfl | go_num, by have := HM.out; have := FT2.out; omega, BB.out.trans (below_drewN (Below.refl _ wr) _)⟩
                            case measure => simp [intOf]; omega
                        · have e4 : (p.too == xa) = false := by simpa using h4
                          clear h1 h2 h3 h4
                          have HQ := Lib.hid (show btw xa xb p = false by rw [HBT.out, e1, e2, e3, e4]; rfl)
                          have FT2 := Lib.hid (show ((s.fl.take (j + 1)).filter (btw xa xb)).length = ((s.fl.take j).filter (btw xa xb)).length + 0 by rw [FT.out, HQ.out]; rfl)
                          as_aux_lemma =>
                            go_upto_region 18 with fail
                            go_quiet (fail)
                            go_wp2_with fail
                            go_roundw
                            case rel => exact ⟨j + 1, m, hlt2, by go_num, by first | rfl | go_num, by have := HM.out; have := FT2.out; omega, BB.out.trans (below_drewN (Below.refl _ wr) _)⟩
                            case measure => simp [intOf]; omega
                      · have e3 : (p.frm == xb) = false := by simpa using h3
                        clear h1 h2 h3
                        have HQ := Lib.hid (show btw xa xb p = false by rw [HBT.out, e1, e2, e3]; rfl)
                        have FT2 := Lib.hid (show ((s.fl.take (j + 1)).filter (btw xa xb)).length = ((s.fl.take j).filter (btw xa xb)).length + 0 by rw [FT.out, HQ.out]; rfl)
                        as_aux_lemma =>
                          go_upto_region 18 with fail
                          go_quiet (fail)
                          go_wp2_with fail
                          go_roundw
                          case rel => exact ⟨j + 1, m, hlt2, by go_num, by first | rfl | go_num, by have := HM.out; have := FT2.out; omega, BB.out.trans (below_drewN (Below.refl _ wr) _)⟩
                          case measure => simp [intOf]; omega
                  · have e1 : (p.frm == xa) = false := by simpa using h1
                    by_cases h3 : p.frm = xb
                    · have e3 : (p.frm == xb) = true := by simpa using h3
                      by_cases h4 : p.too = xa
                      · have e4 : (p.too == xa) = true := by simpa using h4
                        clear h1 h3 h4
                        have HQ := Lib.hid (show btw xa xb p = true by rw [HBT.out, e1, e3, e4]; rfl)
                        have FT2 := Lib.hid (show ((s.fl.take (j + 1)).filter (btw xa xb)).length = ((s.fl.take j).filter (btw xa xb)).length + 1 by rw [FT.out, HQ.out]; rfl)
                        as_aux_lemma =>
                          go_upto_region 18 with fail
                          go_quiet (fail)
                          obtain ⟨m', rfl⟩ : ∃ m', m = m' + 1 := ⟨m - 1, by omega⟩
                          go_wp2_with fail
                          go_roundw
                          case rel => exact ⟨j + 1, m', hlt2, by go_num, by first | rfl | go_num, by have := HM.out; have := FT2.out; omega, BB.out.trans (below_drewN (Below.refl _ wr) _)⟩
                          case measure => simp [intOf]; omega
                      · have e4 : (p.too == xa) = false := by simpa using h4
                        clear h1 h3 h4
                        have HQ := Lib.hid (show btw xa xb p = false by rw [HBT.out, e1, e3, e4]; rfl)
                        have FT2 := Lib.hid (show ((s.fl.take (j + 1)).filter (btw xa xb)).length = ((s.fl.take j).filter (btw xa xb)).length + 0 by rw [FT.out, HQ.out]; rfl)
                        as_aux_lemma =>
                          go_upto_region 18 with fail
                          go_quiet (fail)
                          go_wp2_with fail
                          go_roundw
                          case rel => exact ⟨j + 1, m, hlt2, by go_num, by first | rfl | go_num, by have := HM.out; have := FT2.out; omega, BB.out.trans (below_drewN (Below.refl _ wr) _)⟩
                          case measure => simp [intOf]; omega
                    · have e3 : (p.frm == xb) = false := by simpa using h3
                      clear h1 h3
                      have HQ := Lib.hid (show btw xa xb p = false by rw [HBT.out, e1, e3]; rfl)
                      have FT2 := Lib.hid (show ((s.fl.take (j + 1)).filter (btw xa xb)).length = ((s.fl.take j).filter (btw xa xb)).length + 0 by rw [FT.out, HQ.out]; rfl)
                      as_aux_lemma =>
                        go_upto_region 18 with fail
                        go_quiet (fail)
                        go_wp2_with fail
                        go_roundw
                        case rel => exact ⟨j + 1, m, hlt2, by go_num, by first | rfl | go_num, by have := HM.out; have := FT2.out; omega, BB.out.trans (below_drewN (Below.refl _ wr) _)⟩
                        case measure => simp [intOf]; omega
                · obtain rfl : j = n := by omega
                  have HE := Lib.hid (show m = an.2.fl.length by
                    have h1 := HM.out
                    rw [List.take_of_length_le (by rw [HFL.out]; exact Nat.le_refl _)] at h1
                    have h2 := HDL.out
                    have h3 := HD.out.2
                    omega)
                  go_wp2_with fail
                  go_meet
                  exact ⟨by rw [HE.out], BB.out⟩
            · by_cases hz2 : z = 2 ∨ z = 3
              · have HL := Lib.hid (show s.fl.length = an.2.fl.length + 1 by
                  have e := HAN.out
                  unfold NS.call at e
                  rcases hz2 with rfl | rfl
                  · rw [HZ.out, if_neg (by decide), if_neg (by decide), if_pos rfl] at e
                    rw [← e] at herr ⊢
                    exact (take_ok herr).symm
                  · rw [HZ.out, if_neg (by decide), if_neg (by decide), if_neg (by decide), if_pos rfl] at e
                    rw [← e] at herr ⊢
                    exact (take_ok herr).symm)
                have hq4 : an.2.fl.length + 1 ≤ 4096 := by have := HL.out; have := HFL.out; omega
                rw [HL.out]
                generalize an.2.fl.length = q at *
                rcases hz2 with rfl | rfl
                · go_wp2_with fail
                  go_meet
                  exact ⟨by first | rfl | go_num, Below.refl _ _⟩
                · go_wp2_with fail
                  go_meet
                  exact ⟨by first | rfl | go_num, Below.refl _ _⟩
              · have HL := Lib.hid (show an.2.fl.length = s.fl.length + 1 ∧ an.1.num = an.2.last by
                  have e := HAN.out
                  unfold NS.call at e
                  rw [HZ.out, if_neg hz0, if_neg hz1, if_neg (fun h => hz2 (.inl h)), if_neg (fun h => hz2 (.inr h))] at e
                  split at e
                  · rw [← e] at herr ⊢
                    exact twice_ok herr
                  · rw [← e] at herr ⊢
                    exact send_ok herr)
                have d3 : (z == 1) = false := by simpa using hz1
                have d4 : (z == 2) = false := by simpa using fun h => hz2 (.inl h)
                have d5 : (z == 3) = false := by simpa using fun h => hz2 (.inr h)
                have d6 : decide (4 ≤ z) = true := by simp; omega
                have e0 : w7.cell? ⟨q7, 0, none⟩ = some (.int .u64 (an.2.last : Int)) := by rw [cell_of_row _ _ 0 _ _ _ X7.out, ← HL.out.2]; rfl
                have hq4 : s.fl.length ≤ 4096 := by have := HFL.out; omega
                clear herr
                go_upto_region 24 with fail
                refine wp_region_tree (SK.one 0 false <| .one 1 false <| .one 2 false <| .one 3 true <| .one 4 false .done) (fun V => V.cell? ⟨q7, 0, none⟩ = some (.int .u64 (an.2.last : Int))) (by kernel_rfl) (by kernel_rfl) (by kernel_rfl) (by kernel_rfl) ?_
                have hS : w7.drew.cell? ⟨q7, 0, none⟩ = some (.int .u64 (an.2.last : Int)) := e0
                ((first | (refine TR.val2 (v := ?_) _ (by simp only [List.getElem?_toArray, List.getElem?_cons_zero]; rfl) ?_ ?_ ?_ ?_ ?_; rotate_left; (focus rfl); (focus (intro W hSW; (try dsimp only at hSW); go_simp; (try with_reducible rfl); done)); (focus exact fun _ _ _ h => h); (focus assumption)) | (refine TR.skip _ (by simp only [List.getElem?_toArray, List.getElem?_cons_zero]; rfl) ?_ ?_ ?_ ?_; (focus rfl); (focus exact fun _ _ _ h => h); (focus assumption))); simp only [Act.put, List.setIfInBounds_toArray, List.set_cons_zero, List.set_cons_succ])
                iterate 2 ((first | (refine TR.val2 (v := ?_) _ (by simp only [List.getElem?_toArray, List.getElem?_cons_succ, List.getElem?_cons_zero]; rfl) ?_ ?_ ?_ ?_ ?_; rotate_left; (focus rfl); (focus (intro W hSW; (try dsimp only at hSW); go_simp; (try with_reducible rfl); done)); (focus exact fun _ _ _ h => h); (focus assumption)) | (refine TR.skip _ (by simp only [List.getElem?_toArray, List.getElem?_cons_succ, List.getElem?_cons_zero]; rfl) ?_ ?_ ?_ ?_; (focus rfl); (focus exact fun _ _ _ h => h); (focus assumption))); simp only [Act.put, List.setIfInBounds_toArray, List.set_cons_zero, List.set_cons_succ])
                refine TR.eff _ (by simp only [List.getElem?_toArray, List.getElem?_cons_succ, List.getElem?_cons_zero]; rfl) (by rfl) (fun K hK => ?_); go_simp
                refine (last_v _ H7.out.drew).mono ?_
                rintro e _ ⟨rfl, rfl⟩
                refine hK.out _ _ hS ?_
                clear hK
                (try simp only [Act.put, List.setIfInBounds_toArray, List.set_cons_zero, List.set_cons_succ])
                iterate 1 ((first | (refine TR.val2 (v := ?_) _ (by simp only [List.getElem?_toArray, List.getElem?_cons_succ, List.getElem?_cons_zero]; rfl) ?_ ?_ ?_ ?_ ?_; rotate_left; (focus rfl); (focus (intro W hSW; (try dsimp only at hSW); go_simp; (try with_reducible rfl); done)); (focus exact fun _ _ _ h => h); (focus assumption)) | (refine TR.skip _ (by simp only [List.getElem?_toArray, List.getElem?_cons_succ, List.getElem?_cons_zero]; rfl) ?_ ?_ ?_ ?_; (focus rfl); (focus exact fun _ _ _ h => h); (focus assumption))); simp only [Act.put, List.setIfInBounds_toArray, List.set_cons_zero, List.set_cons_succ])
                refine TR.done ?_
                go_wp2_with fail
                go_meet
                exact ⟨by rw [HL.out.1]; first | rfl | go_num, (Below.refl _ w7).drew⟩
        · have d1 : ((an.1.err : Int) != 0) = true := by rw [bne_iff_ne]; omega
          have d2 : ((an.1.err : Int) == 0) = false := by rw [beq_eq_false_iff_ne]; omega
          have HS2 := Lib.hid (show an.2 = s by rw [← HAN.out]; exact call_err (by rw [HAN.out]; exact herr))
          go_wp2_with fail
          go_meet
          exact ⟨by rw [HS2.out], Below.refl _ _⟩
      case rest =>
        obtain ⟨rfl, b8⟩ := hcut
        have H8 := Lib.hid (H7.out.below b8)
        have B8 := Lib.hid (B7.out.trans (b8.mono B7.out.size))
        have G8 := Lib.hid (show an.2.good by rw [← HAN.out]; exact HG.out.call _ _ _ _ _)
        have S8 := Lib.hid (show an.2.small (k + 1) by rw [← HAN.out]; exact HS.out.call _ _ _ _ _)
        have hn8 : m6 ≤ 4096 := by rw [← H8.out.len]; exact S8.out.fl
        have hla : an.2.last ≤ 1000 := by have := S8.out.last; omega
        have HFL8 := Lib.hid H8.out.len
        clear H7 F7 X7 B7 e6 b8 H5 F5 HIN5 HC5 HC B5 HAN HG HS
        go_wp2_with fail
        refine (flight_is wc H8.out hn8).mono ?_
        rintro e w9 ⟨A9, c9, rfl, hf9, b9⟩
        have F9 := Lib.hid hf9
        have H9 := Lib.hid (H8.out.below b9)
        have B9 := Lib.hid (B8.out.trans (b9.mono B8.out.size))
        have hz9 := b9.size
        clear hf9 b9 H8 B8
        rw [HFL8.out]
        go_wp2_with fail
        go_loopw [11] (fun i wr => ∃ j : Nat, j ≤ m6 ∧ i = .int .i64 (j : Int) ∧ Below w9.heap.size w9 wr) (fun i _ => m6 - (intOf i).toNat)
        case atStart => exact ⟨0, Nat.zero_le _, rfl, Below.refl _ _⟩
        case round =>
          obtain ⟨j, hj, rfl, bb⟩ := hrel
          have BB := Lib.hid bb
          clear bb
          by_cases hlt2 : j < m6
          · obtain ⟨gf, cf, p, hv5, _, hgf, hp, hcell⟩ := F9.out.at_ hlt2
            have hv6 := hv5
            injection hv6 with hv6 hv7 hv8
            subst hv6
            subst hv8
            have HP := Lib.hid hp
            have hpm : p ∈ an.2.fl := List.mem_of_getElem? hp
            have IS := Lib.hid (G8.out.is_ hpm)
            have OL := Lib.hid (G8.out.oldest_ hpm)
            have RG := Lib.hid (G8.out.rng p hpm)
            have HI1 := Lib.hid (okDev_I64 (G8.out.lk p hpm).1)
            have HCE := Lib.hid hcell
            have HPREV := Lib.hid (show ∃ (j' : Nat) (pp : Pk), j' ≤ j ∧ (0 < j → j = j' + 1) ∧ (0 < j → pp.num < p.num) ∧ (∀ W' : World, W'.heap[gf]? = w9.heap[gf]? → W'.cell? ⟨gf, j' * 5, none⟩ = some (.int .u64 (pp.num : Int))) by
              cases j with
              | zero => exact ⟨0, p, Nat.le_refl _, fun h => absurd h (Nat.lt_irrefl _), fun h => absurd h (Nat.lt_irrefl _), fun W' h => (hcell W' h).1⟩
              | succ q =>
                obtain ⟨g2, c2, p2, hw5, _, _, hp2, hcell2⟩ := F9.out.at_ (show q < m6 by omega)
                injection hw5 with hw6 hw7 hw8
                injection hw6 with hw6
                injection hw6 with hw6 _ _
                subst hw6
                refine ⟨q, p2, by omega, fun _ => rfl, fun _ => ?_, fun W' h => (hcell2 W' h).1⟩
                exact G8.out.asc_at hp2 hp (by omega))
            clear hp hcell hv5 hpm
            have d0 : decide (j < m6) = true := by simpa using hlt2
            have j0 : (0 : Int) ≤ (j : Int) := by omega
            go_upto_region 32 with fail
            refine wp_region_tree (SK.one 0 false <| .one 1 false <| .one 2 false <| .one 3 false <| .one 4 false <| .one 5 false <| .one 6 false <| .one 7 false <| .one 8 false <| .one 9 false <| .one 10 false <| .one 11 true <| .one 12 false <| .one 13 false <| .one 14 false <| .one 15 false <| .one 16 false .done) (fun V => V.cell? ⟨gf, j * 5 + 1, none⟩ = some (.int .i64 p.frm) ∧ V.cell? ⟨gf, j * 5 + 2, none⟩ = some (.int .i64 p.too)) (by kernel_rfl) (by kernel_rfl) (by kernel_rfl) (by kernel_rfl) ?_
            have hS : wr.drew.cell? ⟨gf, j * 5 + 1, none⟩ = some (.int .i64 p.frm) ∧ wr.drew.cell? ⟨gf, j * 5 + 2, none⟩ = some (.int .i64 p.too) := ⟨(HCE.out wr.drew (BB.out.drew.block gf hgf)).2.1, (HCE.out wr.drew (BB.out.drew.block gf hgf)).2.2.1⟩
            have H10 := Lib.hid ((H9.out.below BB.out).drew)
            have B10 := Lib.hid BB.out.drew
            generalize wr.drew = w10 at *
            ((first | (refine TR.val2 (v := ?_) _ (by simp only [List.getElem?_toArray, List.getElem?_cons_zero]; rfl) ?_ ?_ ?_ ?_ ?_; rotate_left; (focus rfl); (focus (intro W hSW; (try dsimp only at hSW); (try (obtain ⟨hS1, hSW⟩ := hSW)); (try (obtain ⟨hS2, hSW⟩ := hSW)); (try (obtain ⟨hS3, hSW⟩ := hSW)); (try (obtain ⟨hS4, hSW⟩ := hSW)); (try (obtain ⟨hS5, hSW⟩ := hSW)); go_simp; (try with_reducible rfl); done)); (focus exact fun _ _ _ h => h); (focus assumption)) | (refine TR.skip _ (by simp only [List.getElem?_toArray, List.getElem?_cons_zero]; rfl) ?_ ?_ ?_ ?_; (focus rfl); (focus exact fun _ _ _ h => h); (focus assumption))); simp only [Act.put, List.setIfInBounds_toArray, List.set_cons_zero, List.set_cons_succ])
            iterate 10 ((first | (refine TR.val2 (v := ?_) _ (by simp only [List.getElem?_toArray, List.getElem?_cons_succ, List.getElem?_cons_zero]; rfl) ?_ ?_ ?_ ?_ ?_; rotate_left; (focus rfl); (focus (intro W hSW; (try dsimp only at hSW); (try (obtain ⟨hS1, hSW⟩ := hSW)); (try (obtain ⟨hS2, hSW⟩ := hSW)); (try (obtain ⟨hS3, hSW⟩ := hSW)); (try (obtain ⟨hS4, hSW⟩ := hSW)); (try (obtain ⟨hS5, hSW⟩ := hSW)); go_simp; (try with_reducible rfl); done)); (focus exact fun _ _ _ h => h); (focus assumption)) | (refine TR.skip _ (by simp only [List.getElem?_toArray, List.getElem?_cons_succ, List.getElem?_cons_zero]; rfl) ?_ ?_ ?_ ?_; (focus rfl); (focus exact fun _ _ _ h => h); (focus assumption))); simp only [Act.put, List.setIfInBounds_toArray, List.set_cons_zero, List.set_cons_succ])
            refine TR.eff _ (by simp only [List.getElem?_toArray, List.getElem?_cons_succ, List.getElem?_cons_zero]; rfl) (by rfl) (fun K hK => ?_); go_simp
            refine (is_v p.frm p.too w10 H10.out HI1.out.1 HI1.out.2).mono ?_
            rw [IS.out]
            rintro e w11 ⟨rfl, b11⟩
            have B11 := Lib.hid (B10.out.trans (b11.mono B10.out.size))
            have H11 := Lib.hid (H10.out.below b11)
            have hS2 : w11.cell? ⟨gf, j * 5 + 1, none⟩ = some (.int .i64 p.frm) ∧ w11.cell? ⟨gf, j * 5 + 2, none⟩ = some (.int .i64 p.too) := ⟨(HCE.out w11 (B11.out.block gf hgf)).2.1, (HCE.out w11 (B11.out.block gf hgf)).2.2.1⟩
            refine hK.out _ _ hS2 ?_
            clear hK hS H10 B10
            have hS := hS2
            clear hS2 b11
            iterate 5 ((first | (refine TR.val2 (v := ?_) _ (by simp only [List.getElem?_toArray, List.getElem?_cons_succ, List.getElem?_cons_zero]; rfl) ?_ ?_ ?_ ?_ ?_; rotate_left; (focus rfl); (focus (intro W hSW; (try dsimp only at hSW); (try (obtain ⟨hS1, hSW⟩ := hSW)); (try (obtain ⟨hS2, hSW⟩ := hSW)); (try (obtain ⟨hS3, hSW⟩ := hSW)); (try (obtain ⟨hS4, hSW⟩ := hSW)); (try (obtain ⟨hS5, hSW⟩ := hSW)); go_simp; (try with_reducible rfl); done)); (focus exact fun _ _ _ h => h); (focus assumption)) | (refine TR.skip _ (by simp only [List.getElem?_toArray, List.getElem?_cons_succ, List.getElem?_cons_zero]; rfl) ?_ ?_ ?_ ?_; (focus rfl); (focus exact fun _ _ _ h => h); (focus assumption))); simp only [Act.put, List.setIfInBounds_toArray, List.set_cons_zero, List.set_cons_succ])
            refine TR.done ?_
            clear hS
            go_upto_region 33 with fail
            obtain ⟨j', pp, hjj, hj1, hj2, hj3⟩ := HPREV.out
            have HCV := Lib.hid (show ∀ V : World, V.heap[gf]? = w9.heap[gf]? → V.cell? ⟨gf, j * 5, none⟩ = some (.int .u64 (p.num : Int)) ∧ V.cell? ⟨gf, j * 5 + 1, none⟩ = some (.int .i64 p.frm) ∧ V.cell? ⟨gf, j * 5 + 2, none⟩ = some (.int .i64 p.too) ∧ V.cell? ⟨gf, j * 5 + 3, none⟩ = some (.int .u64 (p.run : Int)) ∧ V.cell? ⟨gf, j' * 5, none⟩ = some (.int .u64 (pp.num : Int)) from fun V hV => ⟨(HCE.out V hV).1, (HCE.out V hV).2.1, (HCE.out V hV).2.2.1, (HCE.out V hV).2.2.2, hj3 V hV⟩)
            clear HPREV hj3
            have d1 : decide (an.2.last < p.num) = false := by have := RG.out.2; simp; omega
            have d2 : ((p.num : Int) == 0) = false := by have := RG.out.1; rw [beq_eq_false_iff_ne]; omega
            have d4 : decide (p.num < an.2.oldest p.frm p.too) = false := by have := OL.out.1; simp; omega
            have d5 : ((an.2.oldest p.frm p.too : Int) == 0) = false := by have := OL.out.2; rw [beq_eq_false_iff_ne]; omega
            have VO := Lib.hid (fun (W : World) (h : NetIs W w2.heap.size g mb A6 m6 c6 v6 an.2) => oldest_v p.frm p.too W h hn8)
            obtain ⟨o, ho⟩ : ∃ o, an.2.oldest p.frm p.too = o := ⟨_, rfl⟩
            rw [ho] at VO d4 d5
            clear ho OL RG
            by_cases hj0 : 0 < j
            · have d3 : decide (0 < j) = true := by simpa using hj0
              have d6 : decide (p.num ≤ pp.num) = false := by have := hj2 hj0; simp; omega
              have d7 : IntKind.i64.wrap ((j : Int) - 1) = (j' : Int) := by rw [IntWalk.i64_in _ ⟨by omega, by omega⟩]; have := hj1 hj0; omega
              have d8 : decide (j' < m6) = true := by simp; omega
              have d9 : (0 : Int) ≤ (j' : Int) := by omega
              have d10 : j' < m6 := by omega
              clear hj0 hj1 hj2
              as_aux_lemma =>
                refine wp_region_tree (SK.one 0 false <| .one 1 false <| .one 2 false <| .one 3 false <| .one 4 false <| .one 5 false <| .one 6 false <| .one 7 false <| .one 8 false <| .one 9 false <| .one 10 false <| .one 11 false <| .one 12 false <| .one 13 false <| .one 14 false <| .one 15 false <| .one 16 false <| .one 17 false <| .one 18 true <| .one 19 false <| .one 20 false <| .one 21 false <| .one 22 false <| .one 23 false <| .one 24 false <| .one 25 false <| .one 26 false <| .one 27 false <| .one 28 false <| .one 29 false <| .one 30 false <| .one 31 false <| .one 32 false <| .one 33 false <| .one 34 false <| .one 35 false <| .one 36 false <| .one 37 false <| .one 38 false <| .one 39 false <| .one 40 false <| .one 41 false <| .one 42 false <| .one 43 false <| .one 44 false <| .one 45 false <| .one 46 false <| .one 47 false <| .one 48 false <| .one 49 false <| .one 50 false <| .one 51 false <| .one 52 false <| .one 53 false <| .one 54 false <| .one 55 false <| .one 56 false <| .one 57 false <| .one 58 false <| .one 60 false <| .one 61 false <| .one 62 false <| .one 63 false <| .one 64 false <| .one 59 true <| .one 65 false <| .one 66 false <| .one 67 false <| .one 68 false <| .one 69 false <| .one 70 false <| .one 71 false <| .one 72 false <| .one 73 false <| .one 74 false <| .one 75 false <| .one 76 false <| .one 77 false <| .one 78 false <| .one 79 true <| .one 80 false <| .one 81 false .done) (fun V => V.cell? ⟨gf, j * 5, none⟩ = some (.int .u64 (p.num : Int)) ∧ V.cell? ⟨gf, j * 5 + 1, none⟩ = some (.int .i64 p.frm) ∧ V.cell? ⟨gf, j * 5 + 2, none⟩ = some (.int .i64 p.too) ∧ V.cell? ⟨gf, j * 5 + 3, none⟩ = some (.int .u64 (p.run : Int)) ∧ V.cell? ⟨gf, j' * 5, none⟩ = some (.int .u64 (pp.num : Int))) (by kernel_rfl) (by kernel_rfl) (by kernel_rfl) (by kernel_rfl) ?_
                have hS : w11.drew.cell? ⟨gf, j * 5, none⟩ = some (.int .u64 (p.num : Int)) ∧ w11.drew.cell? ⟨gf, j * 5 + 1, none⟩ = some (.int .i64 p.frm) ∧ w11.drew.cell? ⟨gf, j * 5 + 2, none⟩ = some (.int .i64 p.too) ∧ w11.drew.cell? ⟨gf, j * 5 + 3, none⟩ = some (.int .u64 (p.run : Int)) ∧ w11.drew.cell? ⟨gf, j' * 5, none⟩ = some (.int .u64 (pp.num : Int)) := HCV.out w11.drew (B11.out.drew.block gf hgf)
                have H12 := Lib.hid H11.out.drew
                have B12 := Lib.hid B11.out.drew
                clear H11 B11
                generalize w11.drew = w12 at *
                iterate 1 ((first | (refine TR.val2 (v := ?_) _ (by simp only [List.getElem?_toArray]; rfl) ?_ ?_ ?_ ?_ ?_; rotate_left; (focus rfl); (focus (intro W hSW; (try dsimp only at hSW); (try (obtain ⟨hS1, hSW⟩ := hSW)); (try (obtain ⟨hS2, hSW⟩ := hSW)); (try (obtain ⟨hS3, hSW⟩ := hSW)); (try (obtain ⟨hS4, hSW⟩ := hSW)); (try (obtain ⟨hS5, hSW⟩ := hSW)); go_simp; (try with_reducible rfl); done)); (focus exact fun _ _ _ h => h); (focus assumption)) | (refine TR.skip _ (by simp only [List.getElem?_toArray]; rfl) ?_ ?_ ?_ ?_; (focus rfl); (focus exact fun _ _ _ h => h); (focus assumption))); simp only [Act.put, List.setIfInBounds_toArray, List.set_cons_zero, List.set_cons_succ])
                iterate 17 ((first | (refine TR.val2 (v := ?_) _ (by simp only [List.getElem?_toArray]; rfl) ?_ ?_ ?_ ?_ ?_; rotate_left; (focus rfl); (focus (intro W hSW; (try dsimp only at hSW); (try (obtain ⟨hS1, hSW⟩ := hSW)); (try (obtain ⟨hS2, hSW⟩ := hSW)); (try (obtain ⟨hS3, hSW⟩ := hSW)); (try (obtain ⟨hS4, hSW⟩ := hSW)); (try (obtain ⟨hS5, hSW⟩ := hSW)); go_simp; (try with_reducible rfl); done)); (focus exact fun _ _ _ h => h); (focus assumption)) | (refine TR.skip _ (by simp only [List.getElem?_toArray]; rfl) ?_ ?_ ?_ ?_; (focus rfl); (focus exact fun _ _ _ h => h); (focus assumption))); simp only [Act.put, List.setIfInBounds_toArray, List.set_cons_zero, List.set_cons_succ])
                refine TR.eff _ (by simp only [List.getElem?_toArray]; rfl) (by rfl) (fun K hK => ?_); go_simp
                refine (last_v w12 H12.out).mono ?_
                rintro e _ ⟨rfl, rfl⟩
                refine hK.out _ _ hS ?_
                clear hK
                (try simp only [Act.put, List.setIfInBounds_toArray, List.set_cons_zero, List.set_cons_succ])
                iterate 40 ((first | (refine TR.val2 (v := ?_) _ (by simp only [List.getElem?_toArray]; rfl) ?_ ?_ ?_ ?_ ?_; rotate_left; (focus rfl); (focus (intro W hSW; (try dsimp only at hSW); (try (obtain ⟨hS1, hSW⟩ := hSW)); (try (obtain ⟨hS2, hSW⟩ := hSW)); (try (obtain ⟨hS3, hSW⟩ := hSW)); (try (obtain ⟨hS4, hSW⟩ := hSW)); (try (obtain ⟨hS5, hSW⟩ := hSW)); go_simp; (try with_reducible rfl); done)); (focus exact fun _ _ _ h => h); (focus assumption)) | (refine TR.skip _ (by simp only [List.getElem?_toArray]; rfl) ?_ ?_ ?_ ?_; (focus rfl); (focus exact fun _ _ _ h => h); (focus assumption))); simp only [Act.put, List.setIfInBounds_toArray, List.set_cons_zero, List.set_cons_succ])
                iterate 5 ((first | (refine TR.val2 (v := ?_) _ (by simp only [List.getElem?_toArray]; rfl) ?_ ?_ ?_ ?_ ?_; rotate_left; (focus rfl); (focus (intro W hSW; (try dsimp only at hSW); (try (obtain ⟨hS1, hSW⟩ := hSW)); (try (obtain ⟨hS2, hSW⟩ := hSW)); (try (obtain ⟨hS3, hSW⟩ := hSW)); (try (obtain ⟨hS4, hSW⟩ := hSW)); (try (obtain ⟨hS5, hSW⟩ := hSW)); go_simp; (try with_reducible rfl); done)); (focus exact fun _ _ _ h => h); (focus assumption)) | (refine TR.skip _ (by simp only [List.getElem?_toArray]; rfl) ?_ ?_ ?_ ?_; (focus rfl); (focus exact fun _ _ _ h => h); (focus assumption))); simp only [Act.put, List.setIfInBounds_toArray, List.set_cons_zero, List.set_cons_succ])
                refine TR.eff _ (by simp only [List.getElem?_toArray]; rfl) (by rfl) (fun K hK => ?_); go_simp
                refine (VO.out w12 H12.out).mono ?_
                rintro e w13 ⟨rfl, b13⟩
                have B13 := Lib.hid (B12.out.trans (b13.mono B12.out.size))
                have H13 := Lib.hid (H12.out.below b13)
                have hS2 := HCV.out w13 (B13.out.block gf hgf)
                refine hK.out _ _ hS2 ?_
                clear hK hS H12 B12
                have hS := hS2
                clear hS2 b13
                (try simp only [Act.put, List.setIfInBounds_toArray, List.set_cons_zero, List.set_cons_succ])
                iterate 14 ((first | (refine TR.val2 (v := ?_) _ (by simp only [List.getElem?_toArray]; rfl) ?_ ?_ ?_ ?_ ?_; rotate_left; (focus rfl); (focus (intro W hSW; (try dsimp only at hSW); (try (obtain ⟨hS1, hSW⟩ := hSW)); (try (obtain ⟨hS2, hSW⟩ := hSW)); (try (obtain ⟨hS3, hSW⟩ := hSW)); (try (obtain ⟨hS4, hSW⟩ := hSW)); (try (obtain ⟨hS5, hSW⟩ := hSW)); go_simp; (try with_reducible rfl); done)); (focus exact fun _ _ _ h => h); (focus assumption)) | (refine TR.skip _ (by simp only [List.getElem?_toArray]; rfl) ?_ ?_ ?_ ?_; (focus rfl); (focus exact fun _ _ _ h => h); (focus assumption))); simp only [Act.put, List.setIfInBounds_toArray, List.set_cons_zero, List.set_cons_succ])
                refine TR.eff _ (by simp only [List.getElem?_toArray]; rfl) (by rfl) (fun K hK => ?_); go_simp
                refine (VO.out w13 H13.out).mono ?_
                rintro e w14 ⟨rfl, b14⟩
                have B14 := Lib.hid (B13.out.trans (b14.mono B13.out.size))
                have H14 := Lib.hid (H13.out.below b14)
                have hS2 := HCV.out w14 (B14.out.block gf hgf)
                refine hK.out _ _ hS2 ?_
                clear hK hS H13 B13
                have hS := hS2
                clear hS2 b14
                (try simp only [Act.put, List.setIfInBounds_toArray, List.set_cons_zero, List.set_cons_succ])
                iterate 2 ((first | (refine TR.val2 (v := ?_) _ (by simp only [List.getElem?_toArray]; rfl) ?_ ?_ ?_ ?_ ?_; rotate_left; (focus rfl); (focus (intro W hSW; (try dsimp only at hSW); (try (obtain ⟨hS1, hSW⟩ := hSW)); (try (obtain ⟨hS2, hSW⟩ := hSW)); (try (obtain ⟨hS3, hSW⟩ := hSW)); (try (obtain ⟨hS4, hSW⟩ := hSW)); (try (obtain ⟨hS5, hSW⟩ := hSW)); go_simp; (try with_reducible rfl); done)); (focus exact fun _ _ _ h => h); (focus assumption)) | (refine TR.skip _ (by simp only [List.getElem?_toArray]; rfl) ?_ ?_ ?_ ?_; (focus rfl); (focus exact fun _ _ _ h => h); (focus assumption))); simp only [Act.put, List.setIfInBounds_toArray, List.set_cons_zero, List.set_cons_succ])
                refine TR.done ?_
                clear hS
                go_wp2_with fail
                go_roundw
                case rel => exact ⟨j + 1, hlt2, by go_num, B14.out⟩
                case measure => simp [intOf]; omega
            · have d3 : decide (0 < j) = false := by simpa using hj0
              clear hj0 hj1 hj2
              as_aux_lemma =>
                refine wp_region_tree (SK.one 0 false <| .one 1 false <| .one 2 false <| .one 3 false <| .one 4 false <| .one 5 false <| .one 6 false <| .one 7 false <| .one 8 false <| .one 9 false <| .one 10 false <| .one 11 false <| .one 12 false <| .one 13 false <| .one 14 false <| .one 15 false <| .one 16 false <| .one 17 false <| .one 18 true <| .one 19 false <| .one 20 false <| .one 21 false <| .one 22 false <| .one 23 false <| .one 24 false <| .one 25 false <| .one 26 false <| .one 27 false <| .one 28 false <| .one 29 false <| .one 30 false <| .one 31 false <| .one 32 false <| .one 33 false <| .one 34 false <| .one 35 false <| .one 36 false <| .one 37 false <| .one 38 false <| .one 39 false <| .one 40 false <| .one 41 false <| .one 42 false <| .one 43 false <| .one 44 false <| .one 45 false <| .one 46 false <| .one 47 false <| .one 48 false <| .one 49 false <| .one 50 false <| .one 51 false <| .one 52 false <| .one 53 false <| .one 54 false <| .one 55 false <| .one 56 false <| .one 57 false <| .one 58 false <| .one 60 false <| .one 61 false <| .one 62 false <| .one 63 false <| .one 64 false <| .one 59 true <| .one 65 false <| .one 66 false <| .one 67 false <| .one 68 false <| .one 69 false <| .one 70 false <| .one 71 false <| .one 72 false <| .one 73 false <| .one 74 false <| .one 75 false <| .one 76 false <| .one 77 false <| .one 78 false <| .one 79 true <| .one 80 false <| .one 81 false .done) (fun V => V.cell? ⟨gf, j * 5, none⟩ = some (.int .u64 (p.num : Int)) ∧ V.cell? ⟨gf, j * 5 + 1, none⟩ = some (.int .i64 p.frm) ∧ V.cell? ⟨gf, j * 5 + 2, none⟩ = some (.int .i64 p.too) ∧ V.cell? ⟨gf, j * 5 + 3, none⟩ = some (.int .u64 (p.run : Int)) ∧ V.cell? ⟨gf, j' * 5, none⟩ = some (.int .u64 (pp.num : Int))) (by kernel_rfl) (by kernel_rfl) (by kernel_rfl) (by kernel_rfl) ?_
                have hS : w11.drew.cell? ⟨gf, j * 5, none⟩ = some (.int .u64 (p.num : Int)) ∧ w11.drew.cell? ⟨gf, j * 5 + 1, none⟩ = some (.int .i64 p.frm) ∧ w11.drew.cell? ⟨gf, j * 5 + 2, none⟩ = some (.int .i64 p.too) ∧ w11.drew.cell? ⟨gf, j * 5 + 3, none⟩ = some (.int .u64 (p.run : Int)) ∧ w11.drew.cell? ⟨gf, j' * 5, none⟩ = some (.int .u64 (pp.num : Int)) := HCV.out w11.drew (B11.out.drew.block gf hgf)
                have H12 := Lib.hid H11.out.drew
                have B12 := Lib.hid B11.out.drew
                clear H11 B11
                generalize w11.drew = w12 at *
                iterate 1 ((first | (refine TR.val2 (v := ?_) _ (by simp only [List.getElem?_toArray]; rfl) ?_ ?_ ?_ ?_ ?_; rotate_left; (focus rfl); (focus (intro W hSW; (try dsimp only at hSW); (try (obtain ⟨hS1, hSW⟩ := hSW)); (try (obtain ⟨hS2, hSW⟩ := hSW)); (try (obtain ⟨hS3, hSW⟩ := hSW)); (try (obtain ⟨hS4, hSW⟩ := hSW)); (try (obtain ⟨hS5, hSW⟩ := hSW)); go_simp; (try with_reducible rfl); done)); (focus exact fun _ _ _ h => h); (focus assumption)) | (refine TR.skip _ (by simp only [List.getElem?_toArray]; rfl) ?_ ?_ ?_ ?_; (focus rfl); (focus exact fun _ _ _ h => h); (focus assumption))); simp only [Act.put, List.setIfInBounds_toArray, List.set_cons_zero, List.set_cons_succ])
                iterate 17 ((first | (refine TR.val2 (v := ?_) _ (by simp only [List.getElem?_toArray]; rfl) ?_ ?_ ?_ ?_ ?_; rotate_left; (focus rfl); (focus (intro W hSW; (try dsimp only at hSW); (try (obtain ⟨hS1, hSW⟩ := hSW)); (try (obtain ⟨hS2, hSW⟩ := hSW)); (try (obtain ⟨hS3, hSW⟩ := hSW)); (try (obtain ⟨hS4, hSW⟩ := hSW)); (try (obtain ⟨hS5, hSW⟩ := hSW)); go_simp; (try with_reducible rfl); done)); (focus exact fun _ _ _ h => h); (focus assumption)) | (refine TR.skip _ (by simp only [List.getElem?_toArray]; rfl) ?_ ?_ ?_ ?_; (focus rfl); (focus exact fun _ _ _ h => h); (focus assumption))); simp only [Act.put, List.setIfInBounds_toArray, List.set_cons_zero, List.set_cons_succ])
                refine TR.eff _ (by simp only [List.getElem?_toArray]; rfl) (by rfl) (fun K hK => ?_); go_simp
                refine (last_v w12 H12.out).mono ?_
                rintro e _ ⟨rfl, rfl⟩
                refine hK.out _ _ hS ?_
                clear hK
                (try simp only [Act.put, List.setIfInBounds_toArray, List.set_cons_zero, List.set_cons_succ])
                iterate 40 ((first | (refine TR.val2 (v := ?_) _ (by simp only [List.getElem?_toArray]; rfl) ?_ ?_ ?_ ?_ ?_; rotate_left; (focus rfl); (focus (intro W hSW; (try dsimp only at hSW); (try (obtain ⟨hS1, hSW⟩ := hSW)); (try (obtain ⟨hS2, hSW⟩ := hSW)); (try (obtain ⟨hS3, hSW⟩ := hSW)); (try (obtain ⟨hS4, hSW⟩ := hSW)); (try (obtain ⟨hS5, hSW⟩ := hSW)); go_simp; (try with_reducible rfl); done)); (focus exact fun _ _ _ h => h); (focus assumption)) | (refine TR.skip _ (by simp only [List.getElem?_toArray]; rfl) ?_ ?_ ?_ ?_; (focus rfl); (focus exact fun _ _ _ h => h); (focus assumption))); simp only [Act.put, List.setIfInBounds_toArray, List.set_cons_zero, List.set_cons_succ])
                iterate 5 ((first | (refine TR.val2 (v := ?_) _ (by simp only [List.getElem?_toArray]; rfl) ?_ ?_ ?_ ?_ ?_; rotate_left; (focus rfl); (focus (intro W hSW; (try dsimp only at hSW); (try (obtain ⟨hS1, hSW⟩ := hSW)); (try (obtain ⟨hS2, hSW⟩ := hSW)); (try (obtain ⟨hS3, hSW⟩ := hSW)); (try (obtain ⟨hS4, hSW⟩ := hSW)); (try (obtain ⟨hS5, hSW⟩ := hSW)); go_simp; (try with_reducible rfl); done)); (focus exact fun _ _ _ h => h); (focus assumption)) | (refine TR.skip _ (by simp only [List.getElem?_toArray]; rfl) ?_ ?_ ?_ ?_; (focus rfl); (focus exact fun _ _ _ h => h); (focus assumption))); simp only [Act.put, List.setIfInBounds_toArray, List.set_cons_zero, List.set_cons_succ])
                refine TR.eff _ (by simp only [List.getElem?_toArray]; rfl) (by rfl) (fun K hK => ?_); go_simp
                refine (VO.out w12 H12.out).mono ?_
                rintro e w13 ⟨rfl, b13⟩
                have B13 := Lib.hid (B12.out.trans (b13.mono B12.out.size))
                have H13 := Lib.hid (H12.out.below b13)
                have hS2 := HCV.out w13 (B13.out.block gf hgf)
                refine hK.out _ _ hS2 ?_
                clear hK hS H12 B12
                have hS := hS2
                clear hS2 b13
                (try simp only [Act.put, List.setIfInBounds_toArray, List.set_cons_zero, List.set_cons_succ])
                iterate 14 ((first | (refine TR.val2 (v := ?_) _ (by simp only [List.getElem?_toArray]; rfl) ?_ ?_ ?_ ?_ ?_; rotate_left; (focus rfl); (focus (intro W hSW; (try dsimp only at hSW); (try (obtain ⟨hS1, hSW⟩ := hSW)); (try (obtain ⟨hS2, hSW⟩ := hSW)); (try (obtain ⟨hS3, hSW⟩ := hSW)); (try (obtain ⟨hS4, hSW⟩ := hSW)); (try (obtain ⟨hS5, hSW⟩ := hSW)); go_simp; (try with_reducible rfl); done)); (focus exact fun _ _ _ h => h); (focus assumption)) | (refine TR.skip _ (by simp only [List.getElem?_toArray]; rfl) ?_ ?_ ?_ ?_; (focus rfl); (focus exact fun _ _ _ h => h); (focus assumption))); simp only [Act.put, List.setIfInBounds_toArray, List.set_cons_zero, List.set_cons_succ])
                refine TR.eff _ (by simp only [List.getElem?_toArray]; rfl) (by rfl) (fun K hK => ?_); go_simp
                refine (VO.out w13 H13.out).mono ?_
                rintro e w14 ⟨rfl, b14⟩
                have B14 := Lib.hid (B13.out.trans (b14.mono B13.out.size))
                have H14 := Lib.hid (H13.out.below b14)
                have hS2 := HCV.out w14 (B14.out.block gf hgf)
                refine hK.out _ _ hS2 ?_
                clear hK hS H13 B13
                have hS := hS2
                clear hS2 b14
                (try simp only [Act.put, List.setIfInBounds_toArray, List.set_cons_zero, List.set_cons_succ])
                iterate 2 ((first | (refine TR.val2 (v := ?_) _ (by simp only [List.getElem?_toArray]; rfl) ?_ ?_ ?_ ?_ ?_; rotate_left; (focus rfl); (focus (intro W hSW; (try dsimp only at hSW); (try (obtain ⟨hS1, hSW⟩ := hSW)); (try (obtain ⟨hS2, hSW⟩ := hSW)); (try (obtain ⟨hS3, hSW⟩ := hSW)); (try (obtain ⟨hS4, hSW⟩ := hSW)); (try (obtain ⟨hS5, hSW⟩ := hSW)); go_simp; (try with_reducible rfl); done)); (focus exact fun _ _ _ h => h); (focus assumption)) | (refine TR.skip _ (by simp only [List.getElem?_toArray]; rfl) ?_ ?_ ?_ ?_; (focus rfl); (focus exact fun _ _ _ h => h); (focus assumption))); simp only [Act.put, List.setIfInBounds_toArray, List.set_cons_zero, List.set_cons_succ])
                refine TR.done ?_
                clear hS
                go_wp2_with fail
                go_roundw
                case rel => exact ⟨j + 1, hlt2, by go_num, B14.out⟩
                case measure => simp [intOf]; omega
          · obtain rfl : j = m6 := by omega
            go_wp2_with fail
            go_roundw
            case rel => exact ⟨k + 1, _, _, _, _, an.2, hlt, by go_num, by rw [HFL8.out], H9.out.below BB.out, G8.out, S8.out, B9.out.trans (BB.out.mono B9.out.size)⟩
            case measure => simp [intOf]; omega
    · obtain rfl : k = len0 := by omega
      go_wp2
      go_ret
      exact ⟨rfl, B4.out⟩
end Go.Proofs.Ythajlhifgafpkaa
