/-
  The walk of TableRanks.
-/
import Derived.Test.YtohcdnbchidjeaaTabSt
import Derived.Test.YtohcdnbchidjeaaTabOp
import Derived.Test.YtohcdnbchidjeaaTabM2
namespace Go.Proofs.Ytohcdnbchidjeaa
open Go.RowKit
theorem smallK_of {n M : Nat} {l : List P3} (hM : M ≤ 100000) (h : lightB n M l = true) : smallK l := fun x hx => by have := (lightB_spec h).2 x hx; omega
/-- All keys of a table that puts and drops made are among those that were put. -/
theorem keys_done {M : Nat} : ∀ (l : List P3) (t : List KV), (∀ x ∈ t, x.1.size ≤ M) → (∀ x ∈ l, x.1.size ≤ M) → ∀ x ∈ doneL t l, x.1.size ≤ M
  | [], t, h, _ => h
  | y :: l, t, h, hl => by
    refine keys_done l (doneStepL t y) (fun x hx => ?_) fun x hx => hl x (List.mem_cons_of_mem _ hx)
    unfold doneStepL at hx
    split at hx
    · unfold dropL restL at hx
      split at hx
      · rcases List.mem_append.1 hx with hx | hx
        · exact h x (mem_lo.1 hx).1
        · exact h x (mem_gt.1 hx).1
      · exact h x hx
    · rcases mem_putL.1 hx with rfl | hx
      · exact hl y List.mem_cons_self
      · exact h x hx.1
theorem smallK_pvs {l : List KV} {M : Nat} (hM : M ≤ 140737488355328) (h : ∀ x ∈ l, x.1.size ≤ M) : smallK (pvs l) := fun x hx => by
  obtain ⟨y, hy, rfl⟩ := List.mem_map.1 hx
  have := h y hy
  show y.1.size ≤ _
  omega
set_option maxHeartbeats 4000000 in
set_option maxRecDepth 100000 in
theorem ranks_in (A : Option Addr) (n c : Nat) (l : List P3) (w : World) (hin : PIn w A n c l) :
    Calls Try.prog 4 #[.slice A n c] w fun e w' => e = .returned (.bool true) ∧ Below w.heap.size w w' := by
  obtain ⟨hr, hnc, hcm⟩ := hin
  unfold maxLen at hcm
  have HR := Lib.hid hr
  have HLN := Lib.hid hr.len
  clear hr
  cases hlight : lightB 400 300 l
  · have HLT := Lib.hid hlight
    clear hlight
    go_enter Try.func4, Try.ntmps4
    go_wp2_with fail
    refine (lives_v w).mono ?_
    rintro e w1 ⟨rfl, hb1⟩
    go_wp2_with fail
    refine (light_v w.heap.size A n c 400 300 l w1 (Reads.below HR.out hb1) hb1.size (by omega) (by omega)).mono ?_
    rw [HLT.out]
    rintro e w2 ⟨rfl, hb2⟩
    have HB2 := Lib.hid (btwo hb1 hb2)
    clear hb1 hb2
    go_wp2
    go_ret
    exact ⟨rfl, HB2.out⟩
  · have HLT := Lib.hid hlight
    have hn4 : n ≤ 400 := by rw [← HLN.out]; exact (lightB_spec hlight).1
    have HSK := Lib.hid (smallK_of (by omega) hlight)
    have HG := Lib.hid (doneT_good l good_nil)
    have HC : Hid ((doneT .nil l).cnt ≤ 400) := Lib.hid (by have := cnt_done l .nil; have h2 := (lightB_spec hlight).1; simp only [Tr.cnt] at this; unfold doneT; omega)
    have HKS : Hid (∀ x ∈ (doneT .nil l).flat, x.1.size ≤ 300) := Lib.hid (by rw [(doneT_good l good_nil).2]; exact keys_done l [] (fun x hx => by simp at hx) fun x hx => ((lightB_spec hlight).2 x hx).1)
    clear hlight
    generalize hT : doneT .nil l = T at *
    have HT := Lib.hid hT
    clear hT
    have HPL := Lib.hid (pre_len T)
    have HFL := Lib.hid (flat_len T)
    have HPV := Lib.hid (pvs_len T.pre)
    go_enter Try.func4, Try.ntmps4
    go_wp2_with fail
    refine (lives_v w).mono ?_
    rintro e w1 ⟨rfl, hb1⟩
    go_wp2_with fail
    refine (light_v w.heap.size A n c 400 300 l w1 (Reads.below HR.out hb1) hb1.size (by omega) (by omega)).mono ?_
    rw [HLT.out]
    rintro e w2 ⟨rfl, hb2⟩
    have HB2 := Lib.hid (btwo hb1 hb2)
    clear hb1 hb2
    have T3 := Lib.hid (TCell.new w2)
    have HB3 := Lib.hid (HB2.out.alloc HB2.out.size (.cells #[.pointer none] 24))
    have HR3 := Lib.hid (Reads.below HR.out HB3.out)
    go_wp2_with fail
    generalize hw3 : w2.alloc (.cells #[.pointer none] 24) = w3 at *
    clear hw3
    refine (done_v w3.heap.size .nil none A n c l w3 T3.out.2.2.2.1 (Reads.more HR3.out HB3.out.size) (Nat.le_refl _) (by omega) (by simp [Tr.cnt]) HSK.out).mono ?_
    rw [HT.out]
    rintro e w4 ⟨p4, rfl, r4, hb4⟩
    have T4 := Lib.hid (T3.out.below hb4)
    have HB4 := Lib.hid (btrans HB3.out hb4 HB3.out.size)
    have R4 := Lib.hid r4
    have c4 := T4.out.1
    have f4 := T4.out.2.1
    clear hb4 r4 T3 HR3 HB3
    have T5 := Lib.hid (T4.out.store R4.out)
    have HB5 := Lib.hid (HB4.out.setCell (p := ⟨w2.heap.size, 0, none⟩) HB2.out.size (.pointer p4))
    have c5 := T5.out.1
    go_wp2_with fail
    generalize w4.setCell ⟨w2.heap.size, 0, none⟩ (.pointer p4) = w5 at *
    clear c4 f4 T4 R4
    refine (nodes_v T w5.heap.size p4 w5 T5.out.2.2.2.1 (Nat.le_refl _) (by have := HC.out; omega)).mono ?_
    rintro e w6 ⟨A6, c6, he, ho6, hb6⟩
    rw [HPV.out, HPL.out] at he ho6
    subst he
    have HO6 := Lib.hid ho6
    have T6 := Lib.hid (T5.out.below hb6)
    have HB6 := Lib.hid (btrans HB5.out hb6 HB5.out.size)
    have HC6 : Hid (T.cnt ≤ c6) := Lib.hid ho6.2
    have hcm6 : Hid (c6 ≤ 9223372036854775807) := Lib.hid (by
      rcases ho6.1.2 with ⟨hv, _⟩ | ⟨g, cap, cur, hv, _, _, _, hcap, _⟩
      · injection hv with _ _ e; omega
      · injection hv with _ _ e; unfold maxLen at hcap; omega)
    have c6' := T6.out.1
    clear ho6 hb6 T5 c5
    generalize hcn : T.cnt = N at *
    have hN : N ≤ 400 := HC.out
    go_wp2_with fail
    refine (size_v T w6.heap.size p4 w6 T6.out.2.2.2.1 (Nat.le_refl _)).mono ?_
    rw [hcn]
    rintro e w7 ⟨rfl, hb7⟩
    have T7 := Lib.hid (T6.out.below hb7)
    have HB7 := Lib.hid (btrans HB6.out hb7 HB6.out.size)
    have HO7 := Lib.hid (HO6.out.below hb7)
    clear hb7 T6 HO6 c6'
    have HCN := Lib.hid hcn
    clear hcn
    go_wp2_with fail
    refine (stands_v T HG.out.1 (fun x hx => by have := HKS.out x hx; omega) w7.heap.size A6 N c6 w7 HO7.out.reads (Nat.le_refl _) HC6.out hcm6.out).mono ?_
    rintro e w8 ⟨rfl, hb8⟩
    have T8 := Lib.hid (T7.out.below hb8)
    have HB8 := Lib.hid (btrans HB7.out hb8 HB7.out.size)
    have HO8 := Lib.hid (HO7.out.below hb8)
    clear hb8 T7 HO7
    go_wp2_with fail
    go_loopw [5] (fun i wr => ∃ k : Nat, k ≤ N ∧ i = .int .i64 (k : Int) ∧ TCell wr w2.heap.size T p4 ∧ POwn wr w5.heap.size A6 N c6 (pvs T.pre) ∧ Below w.heap.size w wr) (fun i _ => N - (intOf i).toNat)
    case atStart => exact ⟨0, Nat.zero_le _, rfl, T8.out, HO8.out, HB8.out⟩
    case round =>
      obtain ⟨k, hk, rfl, ht, ho, hb⟩ := hrel
      have TT := Lib.hid ht
      have HO := Lib.hid ho
      have HB := Lib.hid hb
      clear ht ho hb T8 HO8 HB8
      by_cases hlt : k < N
      · obtain ⟨ad, x, hA, had, hx, d0, d1, d2⟩ := PReads.at_ HO.out.reads hlt
        subst hA
        obtain ⟨y, hy, rfl⟩ := pvs_at hx
        have HGY := Lib.hid (get_mem HG.out.1 ((mem_pre T y).1 (List.mem_of_getElem? hy)))
        have hk0 : (0 : Int) ≤ (k : Int) := by omega
        have hk1 : (k : Int) < (N : Int) := by omega
        have hadb : (ad.add (k * 3)).block < wr.heap.size := by rw [block_of_add]; exact had
        have q0 : ∀ V, Below wr.heap.size wr V → V.cell? ⟨w2.heap.size, 0, none⟩ = some (.pointer p4) := fun V h => keepC h TT.out.1 TT.out.2.2.2.2
        have q1 : ∀ V, Below wr.heap.size wr V → V.cell? (ad.add (k * 3)) = some (.string y.1) := fun V h => (h.cell hadb).trans d0
        have D1 := Lib.hid d1
        have D2 := Lib.hid d2
        clear hx hy d0 d1 d2
        go_wp2_with fail
        refine wp_region_text [(0, false), (1, false), (2, false), (3, false), (4, false), (5, false), (6, true), (7, false), (8, false), (9, false), (10, false), (11, false)] (fun V => Below wr.heap.size wr V) (by kernel_rfl) (by kernel_rfl) (by kernel_rfl) (by kernel_rfl) (by kernel_rfl) (fun _ => ?_)
        simp only [outOf, List.getElem?_cons_zero, List.getElem?_cons_succ, Option.getD_some]
        have hS := (Below.refl wr.heap.size wr).drew
        iterate 6 ((first | (refine TW.val2 (v := ?_) ?_ ?_ ?_ ?_ ?_; rotate_left; (focus rfl); (focus (intro W hSW; (try dsimp only at hSW); go_simp; (try with_reducible rfl); done)); (focus exact fun _ _ _ h => h); (focus assumption)) | (refine TW.skip (e := false) ?_ ?_ ?_ ?_; (focus rfl); (focus exact fun _ _ _ h => h); (focus assumption))); simp only [Act.put, List.setIfInBounds_toArray, List.set_cons_zero, List.set_cons_succ])
        refine TW.eff (by rfl) (fun K hK => ?_); go_simp
        refine (get_v y.1 T wr.drew.heap.size p4 wr.drew TT.out.2.2.2.1.drew (Nat.le_refl _)).mono ?_
        rw [HGY.out, show getR (some y.2) = .tuple #[.string y.2, .bool true] from rfl]
        rintro e w9 ⟨rfl, hb9⟩
        have hS9 : Below wr.heap.size wr w9 := hS.trans hb9
        have TT9 := Lib.hid (TT.out.below hS9)
        have HO9 := Lib.hid (HO.out.below hS9)
        have HB9 := Lib.hid (btrans HB.out hS9 HB.out.size)
        have k1 : w9.cell? ⟨(ad.add (k * 3)).block, (ad.add (k * 3)).off + 1, none⟩ = some (.string y.2) := keepC hS9 D1.out hadb
        have k2 : w9.cell? ⟨(ad.add (k * 3)).block, (ad.add (k * 3)).off + 2, none⟩ = some (.bool false) := keepC hS9 D2.out hadb
        clear hb9
        go_wp2_with fail; refine hK.out _ _ hS9 ?_; clear hK; (try simp only [Act.put, List.setIfInBounds_toArray, List.set_cons_zero, List.set_cons_succ])
        iterate 5 ((first | (refine TW.val2 (v := ?_) ?_ ?_ ?_ ?_ ?_; rotate_left; (focus rfl); (focus (intro W hSW; (try dsimp only at hSW); go_simp; (try with_reducible rfl); done)); (focus exact fun _ _ _ h => h); (focus assumption)) | (refine TW.skip (e := false) ?_ ?_ ?_ ?_; (focus rfl); (focus exact fun _ _ _ h => h); (focus assumption))); simp only [Act.put, List.setIfInBounds_toArray, List.set_cons_zero, List.set_cons_succ])
        refine TW.done ?_
        clear q0 q1 hS hS9
        go_wp2
        go_roundw
        case rel => exact ⟨k + 1, by omega, by go_num, TT9.out, HO9.out, HB9.out⟩
        case measure => simp [intOf]; omega
      · obtain rfl : k = N := by omega
        go_wp2_with fail
        refine (of_v wr.heap.size A6 k c6 (pvs T.pre) wr HO.out.reads (Nat.le_refl _) (by omega) (smallK_pvs (by omega) fun x hx => HKS.out x ((mem_pre T x).1 hx))).mono ?_
        rintro e w10 ⟨p10, rfl, r10, hb10⟩
        rw [show ofT (pvs T.pre) = T from of_pre HG.out.1] at r10
        have R10 := Lib.hid r10
        have HO10 := Lib.hid (HO.out.below hb10)
        have HB10 := Lib.hid (btrans HB.out hb10 HB.out.size)
        clear r10 hb10 HO
        go_wp2_with fail
        refine (nodes_v T w10.heap.size p10 w10 R10.out (Nat.le_refl _) (by have := HC.out; have := HCN.out; omega)).mono ?_
        rintro e w11 ⟨A11, c11, he, ho11, hb11⟩
        rw [HPV.out, HPL.out] at he ho11
        subst he
        have HO11 := Lib.hid ho11
        have HO12 := Lib.hid (HO10.out.below hb11)
        have HB11 := Lib.hid (btrans HB10.out hb11 HB10.out.size)
        clear ho11 hb11
        go_wp2_with fail
        refine (pairs_v w11.heap.size w11.heap.size A11 A6 k k c11 c6 (pvs T.pre) w11 HO11.out.reads HO12.out.reads (Nat.le_refl _) (Nat.le_refl _) (by omega)).mono ?_
        rintro e w12 ⟨rfl, hb12⟩
        have HB12 := Lib.hid (btrans HB11.out hb12 HB11.out.size)
        clear hb12
        go_wp2
        go_ret
        exact ⟨rfl, HB12.out⟩
end Go.Proofs.Ytohcdnbchidjeaa
