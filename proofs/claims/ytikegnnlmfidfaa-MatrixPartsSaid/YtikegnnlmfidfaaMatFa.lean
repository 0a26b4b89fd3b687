/-
  Matrices: the first of a device.
-/
import Derived.Test.YtikegnnlmfidfaaMatV
namespace Go.Proofs.Ytikegnnlmfidfaa
open Go.RowKit
/-- Whether a matrix may be, and is the first such of its device. -/
def firstP (ms : List PM) (i : Nat) : Bool := decide (chkM (ms.getD i (0, [])) = 0) && (ms.take i).all fun m => !(decide (m.1 = (ms.getD i (0, [])).1) && decide (chkM m = 0))
set_option maxRecDepth 100000 in
set_option maxHeartbeats 8000000 in
theorem first_v (A : Option Addr) (n c B i : Nat) (ms : List Mx) (w : World) (hr : MatsR w B A n ms) (hB : B ≤ w.heap.size) (hi : i < n) (hn : n ≤ 1000000) :
    Calls Try.prog 25 #[.slice A n c, .int .i64 (i : Int)] w fun e w' => e = .returned (.bool (firstP (ms.map Mx.p) i)) ∧ Below w.heap.size w w' := by
  have HIM := Lib.hid (show (Try.prog.info? 27).map (·.size) = some 2 by kernel_rfl)
  have HR := Lib.hid hr
  obtain ⟨ad, oi, ai, mi, qi, ri, rfl, hxi, hri, hmi, hcsi, hci⟩ := hr.at_ hi
  have HXI := Lib.hid hxi
  have HRI := Lib.hid hri
  have HCI := Lib.hid hci
  have HCSI := Lib.hid hcsi
  have HGI := Lib.hid (show (ms.map Mx.p).getD i (0, []) = (oi, ri.map Rw.p) from getD_p hxi)
  have i0 : (0 : Int) ≤ (i : Int) := by omega
  have i1 : (i : Int) < (n : Int) := by omega
  clear hr hxi hri hcsi hci
  go_enter Try.func25, Try.ntmps25
  go_wp2_with fail
  go_loopw [5] (fun j wr => ∃ k : Nat, k ≤ i ∧ j = .int .i64 (k : Int) ∧ (∀ m ∈ (ms.map Mx.p).take k, ¬ (m.1 = oi ∧ chkM m = 0)) ∧ Below w.heap.size w wr) (fun j _ => i - (intOf j).toNat)
  case atStart => exact ⟨0, Nat.zero_le _, rfl, by simp, Below.refl _ _⟩
  case round =>
    obtain ⟨k, hk, rfl, ht, hb⟩ := hrel
    have HT := Lib.hid ht
    have HB := Lib.hid hb
    clear ht hb
    by_cases hlt : k < i
    · obtain ⟨ad2, ow, a, m, q, rs, hA, hx, hrr, hm, hcs, hc⟩ := HR.out.at_ (show k < n by omega)
      obtain rfl := Option.some.inj hA
      have HX := Lib.hid (show (ms.map Mx.p)[k]? = some (ow, rs.map Rw.p) by rw [List.getElem?_map, hx]; rfl)
      have HRR := Lib.hid hrr
      have k0 : (0 : Int) ≤ (k : Int) := by omega
      have k1 : (k : Int) < (n : Int) := by omega
      have k2 : (k : Int) < (i : Int) := by omega
      have c0 := hc wr (HB.out.mono hB)
      have c1 : wr.cell? ⟨(ad.add (k * 2)).block, (ad.add (k * 2)).off + 1, none⟩ = some (.slice a m q) := hcs wr (HB.out.mono hB) 1 _ rfl
      have c2 := HCI.out wr (HB.out.mono hB)
      clear hx hrr hcs hc
      go_upto_region 4 with fail
      by_cases ho : ow = oi
      · have d1 : (ow == oi) = true := beq_iff_eq.2 ho
        have HO := Lib.hid ho
        clear ho
        have hS : wr.drew.cell? (ad.add (k * 2)) = some (.int .i64 ow) ∧ wr.drew.cell? ⟨(ad.add (k * 2)).block, (ad.add (k * 2)).off + 1, none⟩ = some (.slice a m q) ∧ wr.drew.cell? (ad.add (i * 2)) = some (.int .i64 oi) := ⟨c0, c1, c2⟩
        have HB1 := Lib.hid HB.out.drew
        clear c0 c1 c2 HB
        refine wp_region_text [(0, false), (1, false), (2, false), (3, false), (4, false), (5, false), (6, false), (7, false), (8, false), (9, false), (10, false), (11, false), (12, false), (13, false), (14, false), (15, false), (16, true), (17, false), (18, false)] (fun V => V.cell? (ad.add (k * 2)) = some (.int .i64 ow) ∧ V.cell? ⟨(ad.add (k * 2)).block, (ad.add (k * 2)).off + 1, none⟩ = some (.slice a m q) ∧ V.cell? (ad.add (i * 2)) = some (.int .i64 oi)) (by kernel_rfl) (by kernel_rfl) (by kernel_rfl) (by kernel_rfl) (by kernel_rfl) (fun _ => ?_)
        simp only [outOf, List.getElem?_cons_zero, List.getElem?_cons_succ, Option.getD_some]
        generalize wr.drew = w1 at *
        iterate 16 ((first | (refine TW.val2 (v := ?_) ?_ ?_ ?_ ?_ ?_; rotate_left; (focus rfl); (focus (intro W hSW; (try dsimp only at hSW); (try (obtain ⟨hS1, hSW⟩ := hSW)); (try (obtain ⟨hS2, hSW⟩ := hSW)); (try (obtain ⟨hS3, hSW⟩ := hSW)); (try (obtain ⟨hS4, hSW⟩ := hSW)); (try (obtain ⟨hS5, hSW⟩ := hSW)); (try (obtain ⟨hS6, hSW⟩ := hSW)); (try (obtain ⟨hS7, hSW⟩ := hSW)); (try (obtain ⟨hS8, hSW⟩ := hSW)); go_simp; (try with_reducible rfl); done)); (focus exact fun _ _ _ h => h); (focus assumption)) | (refine TW.skip (e := false) ?_ ?_ ?_ ?_; (focus rfl); (focus exact fun _ _ _ h => h); (focus assumption))); simp only [Act.put, List.setIfInBounds_toArray, List.set_cons_zero, List.set_cons_succ])
        refine TW.eff (by rfl) (fun K hK => ?_); go_simp
        have CV := check_v ow a m q B rs w1 (HRR.out.below (HB1.out.mono hB)) (by have := HB1.out.size; omega) hm
        obtain ⟨ck, hck⟩ : ∃ ck, chkM (ow, rs.map Rw.p) = ck := ⟨_, rfl⟩
        have HCK := Lib.hid hck
        rw [hck] at CV
        clear hck
        refine CV.mono ?_
        rintro e w2 ⟨rfl, b5⟩
        have HB2 := Lib.hid (HB1.out.trans (b5.mono HB1.out.size))
        have hS2 := (⟨keepc b5 hS.1, keepc b5 hS.2.1, keepc b5 hS.2.2⟩ : w2.cell? (ad.add (k * 2)) = some (.int .i64 ow) ∧ w2.cell? ⟨(ad.add (k * 2)).block, (ad.add (k * 2)).off + 1, none⟩ = some (.slice a m q) ∧ w2.cell? (ad.add (i * 2)) = some (.int .i64 oi))
        clear hS b5 HB1 CV
        go_wp2_with fail; refine hK.out _ _ hS2 ?_; clear hK; (try simp only [Act.put, List.setIfInBounds_toArray, List.set_cons_zero, List.set_cons_succ])
        by_cases h0 : ck = 0
        · subst h0
          have d2 : (((0 : Nat) : Int) == 0) = true := rfl
          have HE := Lib.hid (show firstP (ms.map Mx.p) i = false by
            unfold firstP
            rw [HGI.out]
            have : ((ms.map Mx.p).take i).all (fun m => !(decide (m.1 = (oi, ri.map Rw.p).1) && decide (chkM m = 0))) = false := by
              rw [List.all_eq_false]
              refine ⟨(ow, rs.map Rw.p), List.mem_of_getElem? (i := k) (by rw [List.getElem?_take, if_pos hlt]; exact HX.out), ?_⟩
              simp [HO.out]; exact HO.out ▸ HCK.out
            rw [this, Bool.and_false])
          iterate 2 ((first | (refine TW.val2 (v := ?_) ?_ ?_ ?_ ?_ ?_; rotate_left; (focus rfl); (focus (intro W hSW; (try dsimp only at hSW); (try (obtain ⟨hS1, hSW⟩ := hSW)); (try (obtain ⟨hS2, hSW⟩ := hSW)); (try (obtain ⟨hS3, hSW⟩ := hSW)); (try (obtain ⟨hS4, hSW⟩ := hSW)); (try (obtain ⟨hS5, hSW⟩ := hSW)); (try (obtain ⟨hS6, hSW⟩ := hSW)); (try (obtain ⟨hS7, hSW⟩ := hSW)); (try (obtain ⟨hS8, hSW⟩ := hSW)); go_simp; (try with_reducible rfl); done)); (focus exact fun _ _ _ h => h); (focus assumption)) | (refine TW.skip (e := false) ?_ ?_ ?_ ?_; (focus rfl); (focus exact fun _ _ _ h => h); (focus assumption))); simp only [Act.put, List.setIfInBounds_toArray, List.set_cons_zero, List.set_cons_succ])
          refine TW.done ?_
          clear hS2
          go_wp2_with fail
          go_ret
          exact ⟨by rw [HE.out]; rfl, HB2.out⟩
        · have d2 : ((ck : Int) == 0) = false := beq_eq_false_iff_ne.2 (by omega)
          have HN := Lib.hid (show ∀ m ∈ (ms.map Mx.p).take (k + 1), ¬ (m.1 = oi ∧ chkM m = 0) from fun y hy => by
            rw [List.take_add_one, HX.out] at hy
            rcases List.mem_append.1 hy with hy | hy
            · exact HT.out y hy
            · obtain rfl : y = (ow, rs.map Rw.p) := by simpa using hy
              exact fun h => h0 (HCK.out.symm.trans h.2))
          clear h0
          iterate 2 ((first | (refine TW.val2 (v := ?_) ?_ ?_ ?_ ?_ ?_; rotate_left; (focus rfl); (focus (intro W hSW; (try dsimp only at hSW); (try (obtain ⟨hS1, hSW⟩ := hSW)); (try (obtain ⟨hS2, hSW⟩ := hSW)); (try (obtain ⟨hS3, hSW⟩ := hSW)); (try (obtain ⟨hS4, hSW⟩ := hSW)); (try (obtain ⟨hS5, hSW⟩ := hSW)); (try (obtain ⟨hS6, hSW⟩ := hSW)); (try (obtain ⟨hS7, hSW⟩ := hSW)); (try (obtain ⟨hS8, hSW⟩ := hSW)); go_simp; (try with_reducible rfl); done)); (focus exact fun _ _ _ h => h); (focus assumption)) | (refine TW.skip (e := false) ?_ ?_ ?_ ?_; (focus rfl); (focus exact fun _ _ _ h => h); (focus assumption))); simp only [Act.put, List.setIfInBounds_toArray, List.set_cons_zero, List.set_cons_succ])
          refine TW.done ?_
          clear hS2
          go_wp2_with fail
          go_roundw
          case rel => exact ⟨k + 1, hlt, by go_num, HN.out, HB2.out⟩
          case measure => simp [intOf]; omega
      · have d1 : (ow == oi) = false := beq_eq_false_iff_ne.2 ho
        have HN := Lib.hid (show ∀ m ∈ (ms.map Mx.p).take (k + 1), ¬ (m.1 = oi ∧ chkM m = 0) from fun y hy => by
          rw [List.take_add_one, HX.out] at hy
          rcases List.mem_append.1 hy with hy | hy
          · exact HT.out y hy
          · obtain rfl : y = (ow, rs.map Rw.p) := by simpa using hy
            exact fun h => ho h.1)
        clear ho
        go_quiet (fail)
        go_wp2_with fail
        go_roundw
        case rel => exact ⟨k + 1, hlt, by go_num, HN.out, below_drewN HB.out _⟩
        case measure => simp [intOf]; omega
    · obtain rfl : k = i := by omega
      have HE := Lib.hid (show firstP (ms.map Mx.p) k = decide (chkM (oi, ri.map Rw.p) = 0) by
        unfold firstP
        rw [HGI.out]
        have : ((ms.map Mx.p).take k).all (fun m => !(decide (m.1 = (oi, ri.map Rw.p).1) && decide (chkM m = 0))) = true := List.all_eq_true.2 fun y hy => by
          have h := HT.out y hy
          simp only [Bool.not_eq_true', Bool.and_eq_false_iff, decide_eq_false_iff_not]
          by_cases e : y.1 = oi
          · exact .inr fun e2 => h ⟨e, e2⟩
          · exact .inl e
        rw [this, Bool.and_true])
      have HKS := Lib.hid (HCSI.out wr (HB.out.mono hB))
      go_upto_region 6 with fail
      go_wp2_with (first
        | (refine wpList_load_slot rfl 27 (.tmp 32) rfl (ad.add (k * 2)) rfl [.int .i64 oi, .slice ai mi qi] _ HKS.out Try.underlying27 rfl HIM.out ?_)
        | fail)
      have CV := check_v oi ai mi qi B ri wr (HRI.out.below (HB.out.mono hB)) (by have := HB.out.size; omega) hmi
      obtain ⟨ck, hck⟩ : ∃ ck, chkM (oi, ri.map Rw.p) = ck := ⟨_, rfl⟩
      have HE2 := Lib.hid (show firstP (ms.map Mx.p) k = decide (ck = 0) by rw [HE.out, hck])
      rw [hck] at CV
      clear hck
      refine CV.mono ?_
      rintro e w2 ⟨rfl, b5⟩
      have HB2 := Lib.hid (HB.out.trans (b5.mono HB.out.size))
      clear b5 CV
      by_cases h0 : ck = 0
      · subst h0
        have d2 : (((0 : Nat) : Int) == 0) = true := rfl
        go_wp2_with fail
        go_ret
        exact ⟨by rw [HE2.out]; rfl, HB2.out⟩
      · have d2 : ((ck : Int) == 0) = false := beq_eq_false_iff_ne.2 (by omega)
        have HE3 := Lib.hid (show firstP (ms.map Mx.p) k = false by rw [HE2.out, decide_eq_false h0])
        clear h0
        go_wp2_with fail
        go_ret
        exact ⟨by rw [HE3.out]; rfl, HB2.out⟩
end Go.Proofs.Ytikegnnlmfidfaa
