/-
  The walk of WireRuns.
-/
import Derived.Test.YtclgnfgafcbhhaaBackM2
import Derived.Test.YtclgnfgafcbhhaaRdrB
import Derived.Test.YtclgnfgafcbhhaaCallsW
import Derived.Test.YtclgnfgafcbhhaaBackW
namespace Go.Proofs.Ytclgnfgafcbhhaa
open Go.RowKit
/-- A reader while another row turns. -/
theorem Rdr.other {lo gp gr n c g : Nat} {w w' : World} {A : Option Addr} {l : List UInt8} {e : Int} (h : Rdr lo w gp gr A n c l e) (hg : w.grownBy w' (some g)) (hlo : g < lo) (hgp : g < gp) : Rdr lo w' gp gr A n c l e := by
  refine ⟨h.lt, (hg.block gr h.grlt (by intro q; injection q with q; have := h.lt; omega)).trans h.top, (hg.block gp h.gplt (by intro q; injection q with q; omega)).trans h.at_, ⟨h.reads.1, fun hn => ?_⟩, h.cap, h.small, h.low⟩
  obtain ⟨ad, e1, hb, hc⟩ := h.reads.2 hn
  refine ⟨ad, e1, hb, fun j u hu => ?_⟩
  have h1 := h.low ad e1
  rw [World.cell?_of_block (hg.block _ (by rw [block_of_add]; exact Nat.lt_trans hb h.gplt) (by rw [block_of_add]; intro q; injection q with q; omega))]
  exact hc j u hu
theorem join_any (p q L : List UInt8) (n : Nat) (w : World) (hn : q.length = n) (hL : p ++ q = L) (hb : n ≤ 140737488355328) :
    Calls Try.prog 12 #[.int .u32 (sumN p : Int), .int .u32 (sumN q : Int), .int .i64 (n : Int)] w fun e w' => e = .returned (.tuple #[.int .u32 (sumN L : Int), .int .i64 0]) ∧ w = w' := by
  subst hn hL
  have h := join_yes (sumN p) (sumN q) q.length w (sumN_lt _) (sumN_lt _) (by omega) (joinOk_sums p q _ (by omega))
  rw [join_sums] at h
  exact h
theorem rdNum_drop (L : List UInt8) (m : Nat) (hm : m ≤ L.length) (e : Int) : ∃ m' e', m' ≤ L.length ∧ (rdNum (L.drop m, e)).2 = (L.drop m', e') := by
  by_cases h : e = 0
  · subst h
    by_cases hk : (numR (L.drop m)).2.2 = 0
    · rw [rdNum_ok _ hk, List.drop_drop]
      refine ⟨_, _, ?_, rfl⟩
      have := (numR_bd (L.drop m)).2.1 hk
      rw [List.length_drop] at this
      omega
    · rw [rdNum_bad _ hk]
      exact ⟨m, _, hm, rfl⟩
  · rw [rdNum_err _ _ h]
    exact ⟨m, _, hm, rfl⟩
set_option maxHeartbeats 4000000 in
set_option maxRecDepth 100000 in
theorem runs_in (A1 A2 A3 : Option Addr) (n1 n2 n3 c1 c2 c3 : Nat) (l1 l2 l3 : List UInt8) (n : Int) (w : World) (h1 : BReads w w.heap.size A1 n1 l1) (h2 : BReads w w.heap.size A2 n2 l2) (h3 : BReads w w.heap.size A3 n3 l3)
    (hn1 : n1 ≤ 2000) (hn2 : n2 ≤ 2000) (hn3 : n3 ≤ 2000) :
    Calls Try.prog 6 #[.slice A1 n1 c1, .slice A2 n2 c2, .slice A3 n3 c3, .int .i64 n] w fun e w' => e = .returned (.bool true) ∧ Below w.heap.size w w' := by
  have g1 : decide ((2000 : Int) < (n1 : Int)) = false := by simp; omega
  have g2 : decide ((2000 : Int) < (n2 : Int)) = false := by simp; omega
  have g3 : decide ((2000 : Int) < (n3 : Int)) = false := by simp; omega
  have L2 := Lib.hid h2.len
  have L3 := Lib.hid h3.len
  obtain ⟨L, hL⟩ : ∃ L, l1 ++ l2 ++ l3 = L := ⟨_, rfl⟩
  obtain ⟨N, hN⟩ : ∃ N, n1 + n2 + n3 = N := ⟨_, rfl⟩
  have HLL := Lib.hid hL
  have HNN := Lib.hid hN
  have hN6 : N ≤ 6000 := by omega
  clear hL hN
  go_enter Try.func6, Try.ntmps6
  go_wp2_with fail
  refine (lives_any w).mono ?_
  rintro e w1 ⟨rfl, hb1⟩
  have r1 := Lib.hid (Reads.below (show Reads w w.heap.size 1 A1 n1 _ from h1) hb1)
  have r2 := Lib.hid (Reads.below (show Reads w w.heap.size 1 A2 n2 _ from h2) hb1)
  have r3 := Lib.hid (Reads.below (show Reads w w.heap.size 1 A3 n3 _ from h3) hb1)
  go_wp2_with (first
    | (at_builtin; refine wpList_app rfl (.tmp 41) (.tmp 42) rfl w1.heap.size (some ⟨w1.heap.size, 0, none⟩) 0 0 [] rfl (BOwn.empty w1) w.heap.size A1 n1 c1 l1 rfl (Reads.alloc r1.out hb1.size _) n1 l1 (by omega) rfl (by omega) (by simp) ?_; intro B1 d1 w2 ho2 hg2 _
       have hb2 : Below w1.heap.size w1 w2 := below_app ((Below.refl _ _).alloc (Nat.le_refl _) _) hg2 (BOwn.empty w1) (Nat.le_refl _) (by simp))
    | (at_builtin; refine wpList_app rfl (.tmp 43) (.tmp 44) rfl w1.heap.size B1 n1 d1 l1 rfl ho2 w.heap.size A2 n2 c2 l2 rfl (Reads.below r2.out (hb2.mono hb1.size)) (n1 + n2) (l1 ++ l2) rfl rfl (by omega) hb2.size ?_; intro B2 d2 w3 ho3 hg3 _
       have hb3 : Below w1.heap.size w1 w3 := below_app hb2 hg3 ho2 (Nat.le_refl _) hb2.size)
    | (at_builtin; refine wpList_app rfl (.tmp 45) (.tmp 46) rfl w1.heap.size B2 (n1 + n2) d2 (l1 ++ l2) rfl ho3 w.heap.size A3 n3 c3 l3 rfl (Reads.below r3.out (hb3.mono hb1.size)) N L HNN.out HLL.out (by omega) hb3.size ?_; intro B4 d4 w4 ho4 hg4 _
       have hb4 : Below w1.heap.size w1 w4 := below_app hb3 hg4 ho3 (Nat.le_refl _) hb3.size)
    | fail)
  have s4 : Below w.heap.size w w4 := hb1.trans (hb4.mono hb1.size)
  have HO := Lib.hid ho4
  clear hg2 hb2 ho2 hg3 hb3 ho3 hg4 hb4 ho4 hb1 r1 r2 r3
  refine (own_any w4.heap.size A1 n1 c1 l1 w4 (Reads.more (Reads.below (show Reads w w.heap.size 1 A1 n1 _ from h1) s4) s4.size) (Nat.le_refl _) (by omega)).mono ?_
  rintro e w5 ⟨A5, c5, rfl, ho5, hb5⟩
  go_wp2_with fail
  refine (sum_any w5.heap.size A5 n1 c5 l1 w5 ho5.reads (by omega)).mono ?_
  rintro e _ ⟨rfl, rfl⟩
  have s5 := s4.trans (hb5.mono s4.size)
  have t5 := hb5
  clear ho5 hb5
  go_wp2_with fail
  refine (own_any w5.heap.size A2 n2 c2 l2 w5 (Reads.more (Reads.below (show Reads w w.heap.size 1 A2 n2 _ from h2) s5) s5.size) (Nat.le_refl _) (by omega)).mono ?_
  rintro e w6 ⟨A6, c6, rfl, ho6, hb6⟩
  go_wp2_with fail
  refine (sum_any w6.heap.size A6 n2 c6 l2 w6 ho6.reads (by omega)).mono ?_
  rintro e _ ⟨rfl, rfl⟩
  have s6 := s5.trans (hb6.mono s5.size)
  have t6 := btwo t5 hb6
  clear ho6 hb6 s5 t5
  go_wp2_with fail
  refine (own_any w6.heap.size A3 n3 c3 l3 w6 (Reads.more (Reads.below (show Reads w w.heap.size 1 A3 n3 _ from h3) s6) s6.size) (Nat.le_refl _) (by omega)).mono ?_
  rintro e w7 ⟨A7, c7, rfl, ho7, hb7⟩
  go_wp2_with fail
  refine (sum_any w7.heap.size A7 n3 c7 l3 w7 ho7.reads (by omega)).mono ?_
  rintro e _ ⟨rfl, rfl⟩
  have s7 := s6.trans (hb7.mono s6.size)
  have t7 := btwo t6 hb7
  clear ho7 hb7 s6 t6
  go_wp2_with fail
  refine (join_any l1 l2 (l1 ++ l2) n2 w7 L2.out rfl (by omega)).mono ?_
  rintro e _ ⟨rfl, rfl⟩
  go_wp2_with fail
  refine (join_any (l1 ++ l2) l3 L n3 w7 L3.out HLL.out (by omega)).mono ?_
  rintro e _ ⟨rfl, rfl⟩
  go_wp2_with fail
  refine (join_any l2 l3 (l2 ++ l3) n3 w7 L3.out rfl (by omega)).mono ?_
  rintro e _ ⟨rfl, rfl⟩
  go_wp2_with fail
  rw [show (n2 : Int) + (n3 : Int) = ((n2 + n3 : Nat) : Int) by omega]
  refine (join_any l1 (l2 ++ l3) L (n2 + n3) w7 (by rw [List.length_append, L2.out, L3.out]) (by rw [← List.append_assoc]; exact HLL.out) (by omega)).mono ?_
  rintro e _ ⟨rfl, rfl⟩
  have RL : Hid (BReads w7 w7.heap.size B4 N L) := Lib.hid (Reads.more (Reads.below HO.out.reads t7) t7.size)
  go_wp2_with fail
  refine (own_any w7.heap.size B4 N d4 L w7 RL.out (Nat.le_refl _) (by omega)).mono ?_
  rintro e w8 ⟨A8, c8, rfl, ho8, hb8⟩
  go_wp2_with fail
  refine (sum_any w8.heap.size A8 N c8 L w8 ho8.reads (by omega)).mono ?_
  rintro e _ ⟨rfl, rfl⟩
  have RL8 : Hid (BReads w8 w8.heap.size B4 N L) := Lib.hid (BReads.step RL.out hb8)
  have s8 := s7.trans (hb8.mono s7.size)
  clear ho8 hb8 RL s7 t7
  go_wp2_with fail
  refine (own_any w8.heap.size B4 N d4 L w8 RL8.out (Nat.le_refl _) (by omega)).mono ?_
  rintro e w9 ⟨A9, c9, rfl, ho9, hb9⟩
  go_wp2_with fail
  refine (new_any w9.heap.size A9 N c9 L w9 ho9.reads (Nat.le_refl _) (by omega)).mono ?_
  rintro e w10 ⟨gp, gr, Ar, cr, rfl, hgp, hR, hb10⟩
  have t10 : Below w8.heap.size w8 w10 := btwo hb9 hb10
  have s10 := s8.trans (t10.mono s8.size)
  have hgp8 : w8.heap.size ≤ gp := Nat.le_trans hb9.size hgp
  have HR := Lib.hid hR
  clear ho9 hb9 hb10 hR hgp
  have hm0 : 0 ≤ n % ((20 : Nat) : Int) := Int.emod_nonneg _ (by omega)
  have hm1 : n % ((20 : Nat) : Int) < ((20 : Nat) : Int) := Int.emod_lt_of_pos _ (by omega)
  obtain ⟨r, hr⟩ := Int.eq_ofNat_of_zero_le hm0
  have hr20 : r < 20 := by omega
  have HPK := Lib.hid (fun W : World => pick_any n 20 W (by omega) (by omega))
  rw [hr] at HPK
  clear hm0 hm1 hr
  go_wp2_with fail
  go_loopw [20] (fun i wr => ∃ (k n' c' m : Nat) (A' : Option Addr) (e : Int), k ≤ 20 ∧ i = .int .i64 (k : Int) ∧ m ≤ L.length ∧ Rdr w9.heap.size wr gp gr A' n' c' (L.drop m) e ∧ Below w8.heap.size w8 wr) (fun i _ => 20 - (intOf i).toNat)
  case atStart => exact ⟨0, _, _, 0, _, _, Nat.zero_le _, rfl, Nat.zero_le _, HR.out, t10⟩
  case round =>
    obtain ⟨k, n', c', m, A', e, hk, rfl, hm, hR, hbw⟩ := hrel
    have HRK := Lib.hid hR
    clear hR
    go_wp2_with fail
    refine (HPK.out wr).mono ?_
    rintro e2 _ ⟨rfl, rfl⟩
    by_cases hlt : k < r
    · go_wp2_with fail
      refine (rnum_any wr gp gr n' c' A' _ e HRK.out).mono ?_
      rintro e3 w11 ⟨rfl, ⟨A11, n11, c11, hR11⟩, hg11⟩
      obtain ⟨m', e', hm', he'⟩ := rdNum_drop L m hm e
      rw [he'] at hR11
      have HR11 := Lib.hid hR11
      have hb11 := below_gb hbw hg11 hbw.size hgp8
      clear he' hR11 hg11
      go_wp2
      go_roundw
      case rel => exact ⟨k + 1, _, _, m', _, e', by omega, by go_num, hm', HR11.out, hb11⟩
      case measure => simp [intOf]; omega
    · go_wp2_with fail
      refine (err_any wr gp gr n' c' A' _ e HRK.out).mono ?_
      rintro e3 _ ⟨rfl, rfl⟩
      have sw := s8.trans (hbw.mono s8.size)
      have hgw : w.heap.size ≤ gp := Nat.le_trans s8.size hgp8
      by_cases he : e = 0
      · subst he
        go_wp2_with fail
        refine (left_any wr gp gr n' c' A' _ 0 HRK.out).mono ?_
        rintro e3 _ ⟨rfl, rfl⟩
        have RLr : Hid (BReads wr wr.heap.size B4 N L) := Lib.hid (Reads.more (Reads.below RL8.out hbw) hbw.size)
        have hN : L.length = N := RLr.out.len
        have hn' : n' + m = N := by have := HRK.out.reads.len; rw [List.length_drop] at this; omega
        have HNM := Lib.hid hn'
        have hmN : m ≤ N := by omega
        have hNd : N ≤ d4 := HO.out.2
        have hcut := Reads.cut RLr.out (k := m) (cap := d4) hmN hNd
        rw [← List.map_drop] at hcut
        simp only [Nat.mul_one] at hcut
        obtain ⟨A2', hif⟩ : ∃ A2', (if d4 = m then B4 else Option.map (fun x => x.add m) B4) = A2' := ⟨_, rfl⟩
        rw [hif] at hcut
        have HC := Lib.hid hcut
        have hNm : N - m ≤ 6000 := by omega
        have hn2 : N - m = n' := by omega
        have HN2 := Lib.hid hn2
        have e8 : IntKind.i64.wrap (m : Int) = (m : Int) := by rw [IntKind.wrap_i64]; omega
        have e9 : (N : Int) - (n' : Int) = (m : Int) := by omega
        clear hcut hN hn' hn2
        go_wp2_with fail
        refine (own_any wr.heap.size A2' (N - m) (d4 - m) (L.drop m) wr HC.out (Nat.le_refl _) (by omega)).mono ?_
        rintro e3 w11 ⟨A11, c11, rfl, ho11, hb11⟩
        clear e8 e9
        go_wp2_with fail
        refine (new_any w11.heap.size A11 (N - m) c11 (L.drop m) w11 ho11.reads (Nat.le_refl _) (by omega)).mono ?_
        rintro e3 w12 ⟨gq, gs, Aq, cq, rfl, hgq, hRq, hb12⟩
        have t12 : Below wr.heap.size wr w12 := btwo hb11 hb12
        have s12 := sw.trans (t12.mono sw.size)
        have HR12 := Lib.hid (HRK.out.below t12 HRK.out.grlt)
        have HQ12 := Lib.hid hRq
        have hpr : gp < gr := HRK.out.lt
        have hrlt : gr < wr.heap.size := HRK.out.grlt
        have hlo : gr < w11.heap.size := Nat.lt_of_lt_of_le hrlt hb11.size
        have hgqw : w.heap.size ≤ gq := Nat.le_trans sw.size (Nat.le_trans hb11.size hgq)
        have hrq : gr < gq := Nat.lt_of_lt_of_le hlo hgq
        clear ho11 hb11 hb12 hRq t12 hgq
        obtain ⟨pl, lb, eb, hpc⟩ : ∃ pl lb eb, rdPiece (L.drop m, 0) = (pl, (lb, eb)) := ⟨_, _, _, rfl⟩
        obtain ⟨xv, lc, ec, hnm⟩ : ∃ xv lc ec, rdNum (lb, eb) = (xv, (lc, ec)) := ⟨_, _, _, rfl⟩
        have HPC := Lib.hid hpc
        have HNM2 := Lib.hid hnm
        clear hpc hnm
        go_wp2_with fail
        refine (rpc_any w12 gp gr n' c' A' _ 0 HR12.out).mono ?_
        rw [HPC.out]
        rintro e3 w13 ⟨rfl, ⟨A13, n13, c13, hR13⟩, hg13⟩
        have HR13 := Lib.hid hR13
        have HQ13 := Lib.hid (HQ12.out.other hg13 (by omega) (by omega))
        have s13 := below_gb s12 hg13 s12.size hgw
        clear hR13 hg13 s12
        go_wp2_with fail
        refine (rpc_any w13 gq gs (N - m) cq Aq _ 0 HQ13.out).mono ?_
        rw [HPC.out]
        rintro e3 w14 ⟨rfl, ⟨A14, n14, c14, hR14⟩, hg14⟩
        have HQ14 := Lib.hid hR14
        have HR14 := Lib.hid (HR13.out.below (below_gb (Below.refl gq w13) hg14 (Nat.le_of_lt HQ13.out.gplt) (Nat.le_refl _)) hrq)
        have s14 := below_gb s13 hg14 s13.size hgqw
        clear hR14 hg14 s13
        go_wp2_with fail
        refine (rnum_any w14 gp gr n13 c13 A13 _ eb HR14.out).mono ?_
        rw [HNM2.out]
        rintro e3 w15 ⟨rfl, ⟨A15, n15, c15, hR15⟩, hg15⟩
        have HR15 := Lib.hid hR15
        have HQ15 := Lib.hid (HQ14.out.other hg15 (by omega) (by omega))
        have s15 := below_gb s14 hg15 s14.size hgw
        clear hR15 hg15 s14
        go_wp2_with fail
        refine (rnum_any w15 gq gs n14 c14 A14 _ eb HQ15.out).mono ?_
        rw [HNM2.out]
        rintro e3 w16 ⟨rfl, ⟨A16, n16, c16, hR16⟩, hg16⟩
        have HQ16 := Lib.hid hR16
        have HR16 := Lib.hid (HR15.out.below (below_gb (Below.refl gq w15) hg16 (Nat.le_of_lt HQ15.out.gplt) (Nat.le_refl _)) hrq)
        have s16 := below_gb s15 hg16 s15.size hgqw
        obtain rfl : n16 = n15 := by rw [← HQ16.out.reads.len, ← HR16.out.reads.len]
        clear hR16 hg16 s15
        go_wp2_with fail
        refine (err_any w16 gp gr n16 c15 A15 lc ec HR16.out).mono ?_
        rintro e3 _ ⟨rfl, rfl⟩
        go_wp2_with fail
        refine (err_any w16 gq gs n16 c16 A16 lc ec HQ16.out).mono ?_
        rintro e3 _ ⟨rfl, rfl⟩
        go_wp2_with fail
        refine (left_any w16 gp gr n16 c15 A15 lc ec HR16.out).mono ?_
        rintro e3 _ ⟨rfl, rfl⟩
        go_wp2_with fail
        refine (left_any w16 gq gs n16 c16 A16 lc ec HQ16.out).mono ?_
        rintro e3 _ ⟨rfl, rfl⟩
        go_wp2_with fail
        refine (end_any w16 gp gr n16 c15 A15 lc ec HR16.out).mono ?_
        rintro e3 _ ⟨rfl, rfl⟩
        go_wp2_with fail
        refine (end_any w16 gq gs n16 c16 A16 lc ec HQ16.out).mono ?_
        rintro e3 _ ⟨rfl, rfl⟩
        go_wp2
        go_ret
        exact ⟨rfl, s16⟩
      · have hb : (e != 0) = true := by rw [bne_iff_ne]; exact he
        go_wp2_with fail
        refine (rnum_any wr gp gr n' c' A' _ e HRK.out).mono ?_
        rw [rdNum_err _ _ he]
        rintro e3 w11 ⟨rfl, ⟨A11, n11, c11, hR11⟩, hg11⟩
        have s11 := below_gb sw hg11 sw.size hgw
        have HR11 := Lib.hid hR11
        have HE := Lib.hid he
        clear hR11 hg11 he hb
        go_wp2_with fail
        refine (rpc_any w11 gp gr n11 c11 A11 _ e HR11.out).mono ?_
        rw [rdPiece_err _ _ HE.out]
        rintro e3 w12 ⟨rfl, _, hg12⟩
        have s12 := below_gb s11 hg12 s11.size hgw
        clear hg12
        go_wp2
        go_ret
        exact ⟨rfl, s12⟩
set_option maxHeartbeats 1000000 in
set_option maxRecDepth 100000 in
theorem runs_all (A1 A2 A3 : Option Addr) (n1 n2 n3 c1 c2 c3 : Nat) (l1 l2 l3 : List UInt8) (n : Int) (w : World) (h1 : BReads w w.heap.size A1 n1 l1) (h2 : BReads w w.heap.size A2 n2 l2) (h3 : BReads w w.heap.size A3 n3 l3) :
    Calls Try.prog 6 #[.slice A1 n1 c1, .slice A2 n2 c2, .slice A3 n3 c3, .int .i64 n] w fun e w' => e = .returned (.bool true) ∧ Below w.heap.size w w' := by
  by_cases x1 : n1 ≤ 2000
  · by_cases x2 : n2 ≤ 2000
    · by_cases x3 : n3 ≤ 2000
      · exact runs_in A1 A2 A3 n1 n2 n3 c1 c2 c3 l1 l2 l3 n w h1 h2 h3 x1 x2 x3
      · have g1 : decide ((2000 : Int) < (n1 : Int)) = false := by simp; omega
        have g2 : decide ((2000 : Int) < (n2 : Int)) = false := by simp; omega
        have g3 : decide ((2000 : Int) < (n3 : Int)) = true := by simp; omega
        clear h1 h2 h3
        go_enter Try.func6, Try.ntmps6
        go_wp2_with fail
        refine (lives_any w).mono ?_
        rintro e w1 ⟨rfl, hb1⟩
        go_wp2
        go_ret
        exact ⟨rfl, hb1⟩
    · have g1 : decide ((2000 : Int) < (n1 : Int)) = false := by simp; omega
      have g2 : decide ((2000 : Int) < (n2 : Int)) = true := by simp; omega
      clear h1 h2 h3
      go_enter Try.func6, Try.ntmps6
      go_wp2_with fail
      refine (lives_any w).mono ?_
      rintro e w1 ⟨rfl, hb1⟩
      go_wp2
      go_ret
      exact ⟨rfl, hb1⟩
  · have g1 : decide ((2000 : Int) < (n1 : Int)) = true := by simp; omega
    clear h1 h2 h3
    go_enter Try.func6, Try.ntmps6
    go_wp2_with fail
    refine (lives_any w).mono ?_
    rintro e w1 ⟨rfl, hb1⟩
    go_wp2
    go_ret
    exact ⟨rfl, hb1⟩
end Go.Proofs.Ytclgnfgafcbhhaa
