/-
  The walk of WireBack.
-/
import Derived.Test.YtclgnfgafcbhhaaBackM2
import Derived.Test.YtclgnfgafcbhhaaRdrB
import Derived.Test.YtclgnfgafcbhhaaCallsW
import Derived.Test.YtclgnfgafcbhhaaIntRows
import Derived.Deep.CutRange
namespace Go.Proofs.Ytclgnfgafcbhhaa
open Go.RowKit
theorem take_succ_of {α : Type} {l : List α} {k : Nat} {x : α} (h : l[k]? = some x) : l.take (k + 1) = l.take k ++ [x] := by
  obtain ⟨hk, he⟩ := List.getElem?_eq_some_iff.1 h
  rw [List.take_succ_eq_append_getElem hk, he]
theorem BReads.take {w : World} {B n k : Nat} {A : Option Addr} {l : List UInt8} (h : BReads w B A n l) (hk : k ≤ n) : BReads w B A k (l.take k) := by
  have := Reads.take h hk
  rwa [← List.map_take] at this
theorem drop_of {α : Type} {l : List α} {k : Nat} {x : α} (h : l[k]? = some x) : l.drop k = x :: l.drop (k + 1) := by
  obtain ⟨hk, he⟩ := List.getElem?_eq_some_iff.1 h
  rw [List.drop_eq_getElem_cons hk, he]
set_option maxHeartbeats 4000000 in
set_option maxRecDepth 100000 in
theorem back_in (A : Option Addr) (n c : Nat) (xs : List Nat) (p q : ByteArray) (A3 : Option Addr) (n3 c3 : Nat) (l : List UInt8) (at_ : Int) (tn : UInt8) (w : World) (hx : NReads .u64 w w.heap.size A n xs) (hnc : n ≤ c) (hn : n ≤ 200)
    (hx64 : ∀ x ∈ xs, x < 18446744073709551616) (hpq : p.size + q.size ≤ 5000) (hr : BReads w w.heap.size A3 n3 l) (hn3 : n3 ≤ 5000) (hnc3 : n3 ≤ c3) :
    Calls Try.prog 5 #[.slice A n c, .string p, .string q, .slice A3 n3 c3, .int .i64 at_, .int .u8 (tn.toNat : Int)] w fun e w' => e = .returned (.bool true) ∧ Below w.heap.size w w' := by
  have HXL := Lib.hid hx.len
  have HX64 := Lib.hid hx64
  clear hx64
  have g1 : decide ((200 : Int) < (n : Int)) = false := by simp; omega
  have g2 : decide ((5000 : Int) < (p.size : Int) + (q.size : Int)) = false := by simp; omega
  have g3 : decide ((5000 : Int) < (n3 : Int)) = false := by simp; omega
  go_enter Try.func5, Try.ntmps5
  go_wp2_with fail
  refine (lives_any w).mono ?_
  rintro e w1 ⟨rfl, hb1⟩
  have x1 := Lib.hid (Reads.below (show Reads w w.heap.size 1 A n _ from hx) hb1)
  have r1 := Reads.below hr hb1
  go_wp2_with fail
  go_loopw [13, 14] (fun out i wr => ∃ (k m c' : Nat) (A' : Option Addr), k ≤ n ∧ i = .int .i64 (k : Int) ∧ out = .slice A' m c' ∧ m ≤ 10 * k ∧ BReads wr wr.heap.size A' m (nums (xs.take k)) ∧ Below w.heap.size w wr) (fun _ i _ => n - (intOf i).toNat)
  case atStart => exact ⟨0, 0, 0, none, Nat.zero_le _, rfl, rfl, Nat.zero_le _, Reads.none_, hb1⟩
  case round =>
    obtain ⟨k, m, c', A', hk, rfl, rfl, hm, hrd, hbw⟩ := hrel
    have HRD := Lib.hid hrd; clear hrd
    have HX := Lib.hid (show NReads .u64 wr w.heap.size A n xs from Reads.below (show Reads w w.heap.size 1 A n _ from hx) hbw)
    by_cases hlt : k < n
    · obtain ⟨ad, x, he, _, hxk, hc⟩ := HX.out.at_ hlt
      subst he
      have HXK := Lib.hid hxk; clear hxk
      have hx1 : x < 18446744073709551616 := HX64.out x (List.mem_of_getElem? HXK.out)
      have hnl := num_len x
      go_wp2_with fail
      refine (number_any wr.heap.size A' m c' _ x wr HRD.out (Nat.le_refl _) (by omega) hx1).mono ?_
      rintro e w2 ⟨A2, c2, rfl, ho2, hb2⟩
      have hrel2 : Hid (∃ (k' m2 c' : Nat) (A' : Option Addr), k' ≤ n ∧ Value.int .i64 ((k : Int) + 1) = .int .i64 (k' : Int) ∧ Value.slice A2 (m + (num x).length) c2 = .slice A' m2 c' ∧ m2 ≤ 10 * k' ∧ BReads w2 w2.heap.size A' m2 (nums (xs.take k')) ∧ Below w.heap.size w w2) :=
        Lib.hid ⟨k + 1, m + (num x).length, c2, A2, hlt, by go_num, rfl, by omega, by rw [take_succ_of HXK.out, nums_snoc]; exact ho2.reads, hbw.trans (hb2.mono hbw.size)⟩
      clear ho2 hb2
      go_wp2
      go_roundw
      case rel => exact hrel2.out
      case measure => simp [intOf]; omega
    · obtain rfl : k = n := by omega
      have HALL := Lib.hid (show BReads wr wr.heap.size A' m (nums xs) by have := HRD.out; rwa [List.take_of_length_le (by rw [HXL.out]; exact Nat.le_refl _)] at this)
      clear HRD
      go_wp2_with fail
      refine (piece_yes wr.heap.size A' m c' (nums xs) p wr HALL.out (Nat.le_refl _) (by omega) (by omega)).mono ?_
      rintro e w2 ⟨A2, c2, rfl, ho2, hb2⟩
      have hnl := num_len p.size
      go_wp2_with fail
      refine (new_any w2.heap.size A2 _ c2 _ w2 ho2.reads (Nat.le_refl _) (by omega)).mono ?_
      rintro e w3 ⟨gp, gr, A3', c3', rfl, hgp, hR, hb3⟩
      have hb3' : Below w.heap.size w w3 := hbw.trans ((hb2.trans (hb3.mono hb2.size)).mono hbw.size)
      have hgpw : w.heap.size ≤ gp := Nat.le_trans hbw.size (Nat.le_trans hb2.size hgp)
      have HR := Lib.hid hR
      clear hR ho2 hb2 hb3 hgp hbw
      go_wp2_with fail
      go_loopw [17] (fun i wr => ∃ (k' n' c' : Nat) (A' : Option Addr), k' ≤ k ∧ i = .int .i64 (k' : Int) ∧ Rdr w2.heap.size wr gp gr A' n' c' (nums (xs.drop k') ++ (num p.size ++ p.data.toList)) 0 ∧ Below w.heap.size w wr) (fun i _ => k - (intOf i).toNat)
      case atStart => exact ⟨0, _, _, _, Nat.zero_le _, rfl, by rw [List.drop_zero, ← List.append_assoc]; exact HR.out, hb3'⟩
      case round =>
        clear HX
        obtain ⟨k', n', c', A', hk', rfl, hR4, hb4⟩ := hrel
        have HR4 := Lib.hid hR4; clear hR4
        have HX := Lib.hid (show NReads .u64 wr w.heap.size A k xs from Reads.below (show Reads w w.heap.size 1 A k _ from hx) hb4)
        by_cases hlt : k' < k
        · obtain ⟨ad, x, he, hadb, hxk, hc⟩ := HX.out.at_ hlt
          subst he
          have HXK := Lib.hid hxk; clear hxk
          have hx1 : x < 18446744073709551616 := HX64.out x (List.mem_of_getElem? HXK.out)
          have HRN := Lib.hid (rdNum_num x hx1 (nums (xs.drop (k' + 1)) ++ (num p.size ++ p.data.toList)))
          have HL := Lib.hid (show nums (xs.drop k') ++ (num p.size ++ p.data.toList) = num x ++ (nums (xs.drop (k' + 1)) ++ (num p.size ++ p.data.toList)) by rw [drop_of HXK.out, nums_cons, List.append_assoc])
          go_wp2_with fail
          refine wp_region_text [(0, false), (2, false), (3, false), (4, false), (5, false), (1, true), (6, false)] (fun W => W.cell? (ad.add k') = some (.int .u64 (x : Int))) (by kernel_rfl) (by kernel_rfl) (by kernel_rfl) (by kernel_rfl) (by kernel_rfl) (fun d => ?_)
          simp only [outOf, List.getElem?_cons_zero, List.getElem?_cons_succ, Option.getD_some]
          have hS : wr.drew.cell? (ad.add k') = some (.int .u64 (x : Int)) := hc
          iterate 5 ((first | (refine TW.skip (by rfl) (fun _ _ _ h => h) (by assumption) ?_) | (refine TW.val (v := ?_) (fun _ _ _ h => h) (Or.inl ⟨by rfl, ?_⟩) (by assumption) ?_; rotate_left; (focus (intro W hSW; (try dsimp only at hSW); go_simp; (try with_reducible rfl))))); simp only [Act.put, List.setIfInBounds_toArray, List.set_cons_zero, List.set_cons_succ])
          refine TW.eff (by rfl) (fun K hK => ?_); go_simp
          refine (rnum_any wr.drew gp gr n' c' A' _ 0 HR4.out.drew).mono ?_
          rw [HL.out, HRN.out]
          rintro e w5 ⟨rfl, ⟨A5, n5, c5, hR5⟩, hg5⟩
          have hb5 : Below w.heap.size w w5 := below_gb hb4.drew hg5 hb4.size hgpw
          have hc5 : w5.cell? (ad.add k') = some (.int .u64 (x : Int)) := by rw [World.cell?_of_block (hg5.block _ (by rw [block_of_add]; exact Nat.lt_of_lt_of_le hadb hb4.size) (by rw [block_of_add]; intro h; injection h with h; omega))]; exact hc
          have HR5 := Lib.hid hR5; clear hR5 hg5
          go_wp2_with fail; refine hK.out _ _ hc5 ?_; clear hK; (try simp only [Act.put, List.setIfInBounds_toArray, List.set_cons_zero, List.set_cons_succ])
          iterate 1 ((first | (refine TW.skip (by rfl) (fun _ _ _ h => h) (by assumption) ?_) | (refine TW.val (v := ?_) (fun _ _ _ h => h) (Or.inl ⟨by rfl, ?_⟩) (by assumption) ?_; rotate_left; (focus (intro W hSW; (try dsimp only at hSW); go_simp; (try with_reducible rfl))))); simp only [Act.put, List.setIfInBounds_toArray, List.set_cons_zero, List.set_cons_succ])
          refine TW.done ?_
          go_wp2
          go_roundw
          case rel => exact ⟨k' + 1, _, _, _, hlt, by go_num, HR5.out, hb5⟩
          case measure => simp [intOf]; omega
        · obtain rfl : k' = k := by omega
          have HP := Lib.hid (show nums (xs.drop k') ++ (num p.size ++ p.data.toList) = num p.size ++ p.data.toList by rw [List.drop_of_length_le (by rw [HXL.out]; exact Nat.le_refl _)]; rfl)
          have HPP := Lib.hid (show rdPiece (num p.size ++ p.data.toList, 0) = (p.data.toList, ([], 0)) by have := rdPiece_piece p.data.toList (by rw [bsize]; omega); rwa [bsize] at this)
          go_wp2_with fail
          refine (rpc_any wr gp gr n' c' A' _ 0 HR4.out).mono ?_
          rw [HP.out, HPP.out]
          rintro e w5 ⟨he, ⟨A5, n5, c5, hR5⟩, hg5⟩
          obtain rfl : e = .returned (.string p) := by rw [he]
          have hb5 : Below w.heap.size w w5 := below_gb hb4 hg5 hb4.size hgpw
          have HR5 := Lib.hid hR5
          clear hR5 hg5 hb4 hb3' HR4 HX he
          go_wp2_with fail
          refine (end_any w5 gp gr n5 c5 A5 [] 0 HR5.out).mono ?_
          rw [show rdEnd (([] : List UInt8), 0) = 0 from rfl]
          rintro e _ ⟨rfl, rfl⟩
          have HB3 := Lib.hid (Reads.below hr hb5)
          go_wp2_with fail
          refine (own_any w.heap.size A3 n3 c3 l w5 HB3.out hb5.size (by omega)).mono ?_
          rintro e w6 ⟨A6, c6, rfl, ho6, hb6⟩
          go_wp2_with fail
          refine (new_any w6.heap.size A6 n3 c6 l w6 ho6.reads (Nat.le_refl _) (by omega)).mono ?_
          rintro e w7 ⟨gq, gs, Aq, cq, rfl, hgq, hRq, hb7⟩
          have hb7' : Below w.heap.size w w7 := hb5.trans ((btwo hb6 hb7).mono hb5.size)
          have hgqw : w.heap.size ≤ gq := Nat.le_trans hb5.size (Nat.le_trans hb6.size hgq)
          have HRQ := Lib.hid hRq
          clear hRq ho6 hb6 hb7 hgq hb5
          go_wp2_with fail
          refine (rnum_any w7 gq gs n3 cq Aq l 0 HRQ.out).mono ?_
          obtain ⟨x0, hx0⟩ : ∃ x0, (rdNum (l, 0)).1 = x0 := ⟨_, rfl⟩
          rw [hx0]
          rintro e w8 ⟨rfl, ⟨A8, n8, c8, hR8⟩, hg8⟩
          have HX0 := Lib.hid hx0
          clear hx0
          have hb8 : Below w.heap.size w w8 := below_gb hb7' hg8 hb7'.size hgqw
          have HR8 := Lib.hid hR8
          clear hR8 hg8 hb7'
          go_upto_region 21 with fail
          go_cut [111] from 95 to 111 (fun v wx => v = .bool false ∧ Below w8.heap.size w8 wx)
          case first =>
            have HN := Lib.hid (numR_bd l)
            have HB8 : Hid (BReads w8 w8.heap.size A3 n3 l) := Lib.hid (Reads.more (Reads.below hr hb8) hb8.size)
            by_cases hk : (numR l).2.2 = 0
            · have hx2 : (numR l).1 = x0 := by rw [← HX0.out, rdNum_ok l hk]
              rw [rdNum_ok l hk] at HR8
              have HC := Lib.hid (show num x0 = l.take (numR l).2.1 by rw [← hx2]; exact numR_canon l hk)
              have hx1 : x0 < 18446744073709551616 := by rw [← hx2]; exact HN.out.1
              have hmn : (numR l).2.1 ≤ n3 := by have := HN.out.2.1 hk; rwa [HB8.out.len] at this
              generalize hm : (numR l).2.1 = m at *
              have hn8 : n8 + m = n3 := by have := HR8.out.reads.len; simp only [List.length_drop] at this; rw [HB8.out.len] at this; omega
              have hmc : m ≤ c3 := by omega
              have HE8 := Lib.hid (show (n3 : Int) - (n8 : Int) = (m : Int) by omega)
              have HN8 := Lib.hid hn8
              clear hx2 hm hk hn8
              try dsimp only [List.append]
              refine wp_region_text [(0, false), (1, true), (2, false), (3, false), (4, false), (7, false), (8, false), (9, false), (10, false), (5, true), (6, false), (11, true), (12, false), (13, false), (14, false), (15, false), (16, false)] (fun W => Below w8.heap.size w8 W) (by kernel_rfl) (by kernel_rfl) (by kernel_rfl) (by kernel_rfl) (by kernel_rfl) (fun d => ?_)
              simp only [outOf, List.getElem?_cons_zero, List.getElem?_cons_succ, Option.getD_some]
              have hS := (Below.refl w8.heap.size w8).drew
              iterate 1 ((first | (refine TW.skip (by rfl) (fun _ _ _ h => h) (by assumption) ?_) | (refine TW.val (v := ?_) (fun _ _ _ h => h) (Or.inl ⟨by rfl, ?_⟩) (by assumption) ?_; rotate_left; (focus (intro W hSW; (try dsimp only at hSW); go_simp; (try with_reducible rfl))))); simp only [Act.put, List.setIfInBounds_toArray, List.set_cons_zero, List.set_cons_succ])
              refine TW.eff (by rfl) (fun K hK => ?_); go_simp
              refine (err_any w8.drew gq gs n8 c8 A8 _ 0 HR8.out.drew).mono ?_
              rintro e _ ⟨rfl, rfl⟩
              go_wp2_with fail; refine hK.out _ _ hS ?_; clear hK; (try simp only [Act.put, List.setIfInBounds_toArray, List.set_cons_zero, List.set_cons_succ])
              iterate 7 ((first | (refine TW.skip (by rfl) (fun _ _ _ h => h) (by assumption) ?_) | (refine TW.val (v := ?_) (fun _ _ _ h => h) (Or.inl ⟨by rfl, ?_⟩) (by assumption) ?_; rotate_left; (focus (intro W hSW; (try dsimp only at hSW); go_simp; (try with_reducible rfl))))); simp only [Act.put, List.setIfInBounds_toArray, List.set_cons_zero, List.set_cons_succ])
              refine TW.eff (by rfl) (fun K hK => ?_); go_simp
              have hnum := number_any 0 none 0 0 [] x0 w8.drew Reads.none_ (Nat.zero_le _) (by omega) hx1
              rw [Nat.zero_add, List.nil_append] at hnum
              refine hnum.mono ?_
              clear hnum
              rintro e w9 ⟨A9, c9, rfl, ho9, hb9⟩
              have s9 : Below w8.heap.size w8 w9 := hS.trans hb9
              have q9 : ∀ W, Below w9.heap.size w9 W → (convert 22 9 (.slice A9 (num x0).length c9)).run Try.prog W = .ok (.string ⟨(l.take m).toArray⟩) W := fun W h => by rw [← HC.out]; exact run_str (Reads.below ho9.reads h)
              have q3 : ∀ W, Below w9.heap.size w9 W → (convert 22 9 (.slice A3 m c3)).run Try.prog W = .ok (.string ⟨(l.take m).toArray⟩) W := fun W h => run_str (BReads.take (Reads.below (show Reads w8 w8.heap.size 1 A3 n3 _ from HB8.out) (btwo s9 h)) hmn)
              have HR9 := Lib.hid (HR8.out.below s9 HR8.out.grlt)
              clear ho9 hb9
              go_wp2_with fail; refine hK.out _ _ s9 ?_; clear hK; (try simp only [Act.put, List.setIfInBounds_toArray, List.set_cons_zero, List.set_cons_succ])
              have hT := Below.refl w9.heap.size w9
              refine TW.now (fun W => Below w9.heap.size w9 W) (fun W h => btwo s9 h) ?_
              iterate 1 ((first | (refine TW.skip (by rfl) (fun _ _ _ h => h) (by assumption) ?_) | (refine TW.val (v := ?_) (fun _ _ _ h => h) (Or.inl ⟨by rfl, ?_⟩) (by assumption) ?_; rotate_left; (focus (intro W hSW; (try dsimp only at hSW); go_simp; (try with_reducible rfl))))); simp only [Act.put, List.setIfInBounds_toArray, List.set_cons_zero, List.set_cons_succ])
              refine TW.eff (by rfl) (fun K hK => ?_); go_simp
              refine (left_any w9 gq gs n8 c8 A8 _ 0 HR9.out).mono ?_
              rintro e _ ⟨rfl, rfl⟩
              go_wp2_with fail; refine hK.out _ _ hT ?_; clear hK; (try simp only [Act.put, List.setIfInBounds_toArray, List.set_cons_zero, List.set_cons_succ])
              have e8 : IntKind.i64.wrap (m : Int) = (m : Int) := by rw [IntKind.wrap_i64]; omega
              have e9 := HE8.out
              iterate 5 ((first | (refine TW.skip (by rfl) (fun _ _ _ h => h) (by assumption) ?_) | (refine TW.val (v := ?_) (fun _ _ _ h => h) (Or.inl ⟨by rfl, ?_⟩) (by assumption) ?_; rotate_left; (focus (intro W hSW; (try dsimp only at hSW); go_simp; (try with_reducible rfl))))); simp only [Act.put, List.setIfInBounds_toArray, List.set_cons_zero, List.set_cons_succ])
              refine TW.done ?_
              go_wp2_with fail
              go_meet
              case rel => exact ⟨rfl, s9⟩
            · rw [rdNum_bad l hk] at HR8
              generalize hke : (numR l).2.2 = ke at *
              have gb : (ke == 0) = false := by rw [beq_eq_false_iff_ne]; exact hk
              clear HN hke hk
              try dsimp only [List.append]
              refine wp_region_text [(0, false), (1, true), (2, false), (3, false), (4, false), (7, false), (8, false), (9, false), (10, false), (5, true), (6, false), (11, true), (12, false), (13, false), (14, false), (15, false), (16, false)] (fun W => Below w8.heap.size w8 W) (by kernel_rfl) (by kernel_rfl) (by kernel_rfl) (by kernel_rfl) (by kernel_rfl) (fun d => ?_)
              simp only [outOf, List.getElem?_cons_zero, List.getElem?_cons_succ, Option.getD_some]
              have hS := (Below.refl w8.heap.size w8).drew
              iterate 1 ((first | (refine TW.skip (by rfl) (fun _ _ _ h => h) (by assumption) ?_) | (refine TW.val (v := ?_) (fun _ _ _ h => h) (Or.inl ⟨by rfl, ?_⟩) (by assumption) ?_; rotate_left; (focus (intro W hSW; (try dsimp only at hSW); go_simp; (try with_reducible rfl))))); simp only [Act.put, List.setIfInBounds_toArray, List.set_cons_zero, List.set_cons_succ])
              refine TW.eff (by rfl) (fun K hK => ?_); go_simp
              refine (err_any w8.drew gq gs n8 c8 A8 _ ke HR8.out.drew).mono ?_
              rintro e _ ⟨rfl, rfl⟩
              go_wp2_with fail; refine hK.out _ _ hS ?_; clear hK; (try simp only [Act.put, List.setIfInBounds_toArray, List.set_cons_zero, List.set_cons_succ])
              iterate 15 ((first | (refine TW.skip (by rfl) (fun _ _ _ h => h) (by assumption) ?_) | (refine TW.val (v := ?_) (fun _ _ _ h => h) (Or.inl ⟨by rfl, ?_⟩) (by assumption) ?_; rotate_left; (focus (intro W hSW; (try dsimp only at hSW); go_simp; (try with_reducible rfl))))); simp only [Act.put, List.setIfInBounds_toArray, List.set_cons_zero, List.set_cons_succ])
              refine TW.done ?_
              go_wp2_with fail
              go_meet
              case rel => exact ⟨rfl, hS⟩
          case rest =>
            obtain ⟨rfl, hbc⟩ := hcut
            have hb9 : Below w.heap.size w wc := hb8.trans (hbc.mono hb8.size)
            clear hbc hb8 HR8
            have HLP := Lib.hid (bsize p)
            have HLQ := Lib.hid (bsize q)
            obtain ⟨k1, w1a, hcv1, hr1a, hb1a, hz1a⟩ := conv_bytes p wc
            go_wp2_with fail
            refine (sum_any _ _ p.size k1 _ w1a hr1a (by omega)).mono ?_
            rintro e _ ⟨rfl, rfl⟩
            obtain ⟨k2, w1b, hcv2, hr1b, hb1b, hz1b⟩ := conv_bytes q w1a
            clear hcv1
            go_wp2_with fail
            refine (sum_any _ _ q.size k2 _ w1b hr1b (by omega)).mono ?_
            rintro e _ ⟨rfl, rfl⟩
            have hbb := btwo hb1a hb1b
            have HJ := Lib.hid (join_sums p.data.toList q.data.toList)
            clear hcv2 hr1a hr1b hz1a hz1b hb1a hb1b
            go_wp2_with fail
            refine (join_yes (sumN p.data.toList) (sumN q.data.toList) q.size w1b (sumN_lt _) (sumN_lt _) (by omega) (joinOk_sums _ _ _ (by omega))).mono ?_
            rw [← HLQ.out, HJ.out]
            rintro e _ ⟨rfl, rfl⟩
            obtain ⟨k3, w1c, hcv3, hr1c, hb1c, hz1c⟩ := conv_bytes (p ++ q) w1b
            have hsz : (p ++ q).size = p.size + q.size := by simp
            have hpq2 : (p ++ q).data.toList = p.data.toList ++ q.data.toList := by simp
            rw [hsz] at hcv3 hr1c
            rw [hpq2] at hr1c
            clear hsz hpq2
            go_wp2_with fail
            refine (sum_any _ _ (p.size + q.size) k3 _ w1c hr1c (by omega)).mono ?_
            rintro e _ ⟨rfl, rfl⟩
            have hb10 : Below w.heap.size w w1c := hb9.trans ((btwo hbb hb1c).mono hb9.size)
            clear hcv3 hr1c hz1c hb9 hbb hb1c
            go_wp2_with fail
            refine (frame_yes p w1c (by omega)).mono ?_
            rintro e w10 ⟨A10, c10, rfl, ho10, hb11⟩
            have hb12 : Below w.heap.size w w10 := hb10.trans (hb11.mono hb10.size)
            by_cases h0 : tn = 0
            · subst h0
              have ht : (((0 : UInt8).toNat : Int) == 0) = true := by decide
              go_wp2
              go_ret
              exact ⟨rfl, hb12⟩
            · have ht : ((tn.toNat : Int) == 0) = false := by
                rw [beq_eq_false_iff_ne]
                intro h
                apply h0
                apply UInt8.toNat_inj.1
                show tn.toNat = 0
                omega
              obtain ⟨g, rfl, hgb, hgl⟩ := ho10.addr (by omega)
              go_wp2_with fail
              have hm0 : 0 ≤ at_ % ((p.size + 4 : Nat) : Int) := Int.emod_nonneg _ (by omega)
              have hm1 : at_ % ((p.size + 4 : Nat) : Int) < ((p.size + 4 : Nat) : Int) := Int.emod_lt_of_pos _ (by omega)
              rw [show (p.size : Int) + 8 - 4 = ((p.size + 4 : Nat) : Int) by omega]
              refine (pick_any at_ (p.size + 4) w10 (by omega) (by omega)).mono ?_
              obtain ⟨kk, hkk⟩ := Int.eq_ofNat_of_zero_le hm0
              rw [hkk] at hm0 hm1 ⊢
              rintro e _ ⟨rfl, rfl⟩
              clear hm0 hkk
              have hkl : 4 + kk < p.size + 8 := by omega
              obtain ⟨b, hb⟩ : ∃ b, (frame p.data.toList)[4 + kk]? = some b := ⟨_, List.getElem?_eq_getElem (by rw [frame_len, bsize]; exact hkl)⟩
              have hcell := ho10.cell hb
              have hfree := ho10.free (4 + kk)
              have hset := ho10.set_ (4 + kk) (b ^^^ tn)
              have hxor := xor_u8 b tn
              have hun := unf_turned p.data.toList (4 + kk) b (b ^^^ tn) (by rw [bsize]; omega) (by omega) hb (xor_ne _ _ h0)
              have HUN := Lib.hid hun
              have HST := Lib.hid hset
              clear hun hset hb
              go_wp2_with fail
              rw [← UInt8.toNat_xor]
              have hR : unfR ((frame p.data.toList).set (4 + kk) (b ^^^ tn)) = .tuple #[.string ⟨#[]⟩, .int .i64 0, .int .i64 4] := by unfold unfR; rw [HUN.out]; rfl
              have hb13 : Below w.heap.size w (w10.setCell ⟨g, 4 + kk, none⟩ (.int .u8 ((b ^^^ tn).toNat : Int))) := hb12.setCell (Nat.le_trans hb10.size hgb) _
              refine (unframe_any _ _ (p.size + 8) c10 _ _ HST.out.reads (by omega) HST.out.2).mono ?_
              rw [hR]
              rintro e w11 ⟨rfl, hb14⟩
              have hb15 := hb13.trans (hb14.mono hb13.size)
              clear hR hb13 hb14
              go_wp2
              go_ret
              exact ⟨rfl, hb15⟩
set_option maxHeartbeats 1000000 in
set_option maxRecDepth 100000 in
theorem back_all (A : Option Addr) (n c : Nat) (xs : List Nat) (p q : ByteArray) (A3 : Option Addr) (n3 c3 : Nat) (l : List UInt8) (at_ : Int) (tn : UInt8) (w : World) (hx : NReads .u64 w w.heap.size A n xs) (hnc : n ≤ c) (_hcm : c ≤ 9223372036854775807)
    (hx64 : ∀ x ∈ xs, x < 18446744073709551616) (hp : p.size ≤ 140737488355328) (hq : q.size ≤ 140737488355328) (hr : BReads w w.heap.size A3 n3 l) (hnc3 : n3 ≤ c3) (_hcm3 : c3 ≤ 9223372036854775807) :
    Calls Try.prog 5 #[.slice A n c, .string p, .string q, .slice A3 n3 c3, .int .i64 at_, .int .u8 (tn.toNat : Int)] w fun e w' => e = .returned (.bool true) ∧ Below w.heap.size w w' := by
  by_cases hn : n ≤ 200
  · by_cases hpq : p.size + q.size ≤ 5000
    · by_cases hn3 : n3 ≤ 5000
      · exact back_in A n c xs p q A3 n3 c3 l at_ tn w hx hnc hn hx64 hpq hr hn3 hnc3
      · have g1 : decide ((200 : Int) < (n : Int)) = false := by simp; omega
        have g2 : decide ((5000 : Int) < (p.size : Int) + (q.size : Int)) = false := by simp; omega
        have g3 : decide ((5000 : Int) < (n3 : Int)) = true := by simp; omega
        clear hx hx64 hr
        go_enter Try.func5, Try.ntmps5
        go_wp2_with fail
        refine (lives_any w).mono ?_
        rintro e w1 ⟨rfl, hb1⟩
        go_wp2
        go_ret
        exact ⟨rfl, hb1⟩
    · have g1 : decide ((200 : Int) < (n : Int)) = false := by simp; omega
      have g2 : decide ((5000 : Int) < (p.size : Int) + (q.size : Int)) = true := by simp; omega
      clear hx hx64 hr
      go_enter Try.func5, Try.ntmps5
      go_wp2_with fail
      refine (lives_any w).mono ?_
      rintro e w1 ⟨rfl, hb1⟩
      go_wp2
      go_ret
      exact ⟨rfl, hb1⟩
  · have g1 : decide ((200 : Int) < (n : Int)) = true := by simp; omega
    clear hx hx64 hr
    go_enter Try.func5, Try.ntmps5
    go_wp2_with fail
    refine (lives_any w).mono ?_
    rintro e w1 ⟨rfl, hb1⟩
    go_wp2
    go_ret
    exact ⟨rfl, hb1⟩
end Go.Proofs.Ytclgnfgafcbhhaa
