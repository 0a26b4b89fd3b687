/-
  The walk of TableCalls (light lists, short keys).
-/
import Derived.Test.YtohcdnbchidjeaaTabQf
import Derived.Test.YtohcdnbchidjeaaTabOr
import Derived.Test.YtohcdnbchidjeaaTextS
namespace Go.Proofs.Ytohcdnbchidjeaa
open Go.RowKit
/-- A pair in a block of its own. -/
structure PCell (w : World) (g : Nat) (k v : ByteArray) : Prop where
  a : w.cell? ⟨g, 0, none⟩ = some (.string k)
  b : w.cell? ⟨g, 1, none⟩ = some (.string v)
  c : w.cell? ⟨g, 2, none⟩ = some (.bool false)
  z : g < w.heap.size
theorem PCell.below {w w' : World} {g : Nat} {k v : ByteArray} (h : PCell w g k v) (hb : Below w.heap.size w w') : PCell w' g k v := ⟨keepC hb h.a h.z, keepC hb h.b h.z, keepC hb h.c h.z, Nat.lt_of_lt_of_le h.z hb.size⟩
theorem PCell.new (w : World) (k v : ByteArray) : PCell (w.alloc (.cells #[.string k, .string v, .bool false] 39)) w.heap.size k v :=
  ⟨by rw [World.cell?_alloc_at _ _ _ _ rfl]; rfl, by rw [World.cell?_alloc_at _ _ _ _ rfl]; rfl, by rw [World.cell?_alloc_at _ _ _ _ rfl]; rfl, by simp⟩
theorem RCell.box (w : World) {L : List KV} {A : Option Addr} {n c : Nat} (h : RTab w w.heap.size A n c L) : RCell (w.alloc (.cells #[.slice A n c] 44)) w.heap.size L A n c :=
  ⟨box1 w _ _, World.frozen?_alloc_at _ _ _ _ rfl, OneC.new w _ _, h.step ((Below.refl _ _).alloc (Nat.le_refl _) _), by simp⟩
theorem get_tuple (g : Option ByteArray) : ∃ v is, getR g = .tuple #[.string v, .bool is] := by cases g <;> exact ⟨_, _, rfl⟩
theorem next_tuple (l : List KV) : ∃ k v is, nextR l = .tuple #[.agg #[.string k, .string v, .bool false], .bool is] := by cases l <;> exact ⟨_, _, _, rfl⟩
theorem keys_of {M : Nat} : ∀ (l : List P3) (t : List KV), (∀ x ∈ t, x.1.size ≤ M) → (∀ x ∈ l, x.1.size ≤ M) → ∀ x ∈ l.foldl (fun t x => putL x.1 x.2.1 t) t, x.1.size ≤ M
  | [], t, h, _ => h
  | y :: l, t, h, hl => keys_of l _ (fun x hx => by
      rcases mem_putL.1 hx with rfl | hx
      · exact hl y List.mem_cons_self
      · exact h x hx.1) fun x hx => hl x (List.mem_cons_of_mem _ hx)
theorem rangeL_len (fr tt : ByteArray) (most : Int) (l : List KV) : (rangeL fr tt most l).length ≤ l.length := by
  unfold rangeL
  rw [List.length_take]
  have h1 : ((hi fr l).takeWhile (upto tt)).length ≤ (hi fr l).length := (List.takeWhile_sublist _).length_le
  have h2 : (hi fr l).length ≤ l.length := List.length_filter_le _ _
  omega
set_option maxHeartbeats 16000000 in
set_option maxRecDepth 100000 in
theorem calls_in2 (A A' : Option Addr) (n c n' c' : Nat) (l o : List P3) (fr tt : ByteArray) (mo : Int) (w : World) (hin : PIn w A n c l) (hin' : PIn w A' n' c' o) (hl : lightB 200 5000 l = true) (ho : lightB 200 5000 o = true) (hfr : fr.size ≤ 5000) (htt : tt.size ≤ 5000) :
    Calls Try.prog 8 #[.slice A n c, .slice A' n' c', .string fr, .string tt, .int .i64 mo] w fun e w' => e = .returned (.bool true) ∧ Below w.heap.size w w' := by
  obtain ⟨hr, hnc, hcm⟩ := hin
  obtain ⟨hr', hnc', hcm'⟩ := hin'
  unfold maxLen at hcm hcm'
  have HR := Lib.hid hr
  have HR' := Lib.hid hr'
  have hn4 : n ≤ 200 := by rw [← hr.len]; exact (lightB_spec hl).1
  have hn4' : n' ≤ 200 := by rw [← hr'.len]; exact (lightB_spec ho).1
  have HLT := Lib.hid hl
  have HLT' := Lib.hid ho
  have HSK := Lib.hid (smallK_of (by omega) hl)
  have HSK' := Lib.hid (smallK_of (by omega) ho)
  have M1 := Lib.hid (made_of (by omega) hl)
  have M2 := Lib.hid (made_of (by omega) ho)
  have HOG := Lib.hid (ofT_good l)
  have HOC := Lib.hid (show (ofT l).cnt ≤ 200 by have := cnt_of l .nil; have h2 := (lightB_spec hl).1; simp only [Tr.cnt] at this; unfold ofT; omega)
  have HOK := Lib.hid (show ∀ x ∈ (ofT l).flat, x.1.size ≤ 5000 by rw [(ofT_good l).2]; exact keys_of l [] (fun x hx => by simp at hx) fun x hx => ((lightB_spec hl).2 x hx).1)
  clear hr hr' hl ho
  obtain ⟨NP, hNP⟩ : ∃ NP, NP = pvs (doneT .nil l).pre := ⟨_, rfl⟩
  have HNPn : NP.length ≤ 1000000 := by rw [hNP, pvs_len, pre_len]; have := M1.out.2.1; omega
  have HNP := Lib.hid hNP
  obtain ⟨NL, hNL⟩ : ∃ NL, NL = pvs ((doneT .nil l).cut fr).1.pre := ⟨_, rfl⟩
  have HNLn : NL.length ≤ 1000000 := by rw [hNL, pvs_len, pre_len]; have := M1.out.2.1; have := cut_cnt (doneT .nil l) fr; omega
  have HNL := Lib.hid hNL
  obtain ⟨NH, hNH⟩ : ∃ NH, NH = pvs ((doneT .nil l).cut fr).2.pre := ⟨_, rfl⟩
  have HNHn : NH.length ≤ 1000000 := by rw [hNH, pvs_len, pre_len]; have := M1.out.2.1; have := cut_cnt (doneT .nil l) fr; omega
  have HNH := Lib.hid hNH
  obtain ⟨OP, hOP⟩ : ∃ OP, OP = pvs (ofT l).pre := ⟨_, rfl⟩
  have HOPn : OP.length ≤ 1000000 := by rw [hOP, pvs_len, pre_len]; have := HOC.out; omega
  have HOP := Lib.hid hOP
  clear hNP hNL hNH hOP
  generalize hT : doneT .nil l = T at *
  have HT := Lib.hid hT
  clear hT
  generalize hU : doneT .nil o = U at *
  have HU := Lib.hid hU
  clear hU
  generalize hN : T.cnt = N at *
  have HN := Lib.hid hN
  have hN4 : N ≤ 400 := by rw [← hN]; exact M1.out.2.1
  clear hN
  obtain ⟨gv, gis, hgt⟩ := get_tuple (T.get fr)
  have HGT := Lib.hid hgt
  have HGT' := Lib.hid (show getR (getL fr T.flat) = .tuple #[.string gv, .bool gis] by rw [← get_flat T fr M1.out.1.1]; exact hgt)
  obtain ⟨nk, nv, nis, hnx⟩ := next_tuple (nextL T fr)
  have HNX := Lib.hid hnx
  have HNX' := Lib.hid (show nextR ((gt fr T.flat).take 1) = .tuple #[.agg #[.string nk, .string nv, .bool false], .bool nis] by rw [← next_of M1.out.1]; exact hnx)
  clear hgt hnx
  obtain ⟨m, hm⟩ : ∃ m, m = (lo fr T.flat).length := ⟨_, rfl⟩
  have HM := Lib.hid hm
  clear hm
  obtain ⟨RL, hRL⟩ : ∃ RL, RL = pvs (rangeL fr tt mo T.flat) := ⟨_, rfl⟩
  have HRL := Lib.hid hRL
  have HRLn : RL.length ≤ 1000000 := by rw [hRL, pvs_len]; have := rangeL_len fr tt mo T.flat; rw [flat_len, HN.out] at this; omega
  clear hRL
  obtain ⟨CH, hCH⟩ : ∃ CH, CH = chg T.flat U.flat := ⟨_, rfl⟩
  have HCH := Lib.hid hCH
  have HCHn : CH.length ≤ 1000000 := by rw [hCH]; have := (made_chg M1.out M2.out (by omega)).1; omega
  clear hCH
  have hkd : decide (5000 < fr.size) = false := by simp; omega
  have hkd' : decide ((5000 : Int) < (fr.size : Int)) = false := by simp; omega
  have hke : decide (5000 < tt.size) = false := by simp; omega
  have hke' : decide ((5000 : Int) < (tt.size : Int)) = false := by simp; omega
  go_enter Try.func8, Try.ntmps8
  go_wp2_with fail
  refine (lives_v w).mono ?_
  rintro e w1 ⟨rfl, hb1⟩
  go_wp2_with fail
  refine (light_v w.heap.size A n c 200 5000 l w1 (Reads.below HR.out hb1) hb1.size (by omega) (by omega)).mono ?_
  rw [HLT.out]
  rintro e w2 ⟨rfl, hb2⟩
  have HB2 := Lib.hid (btwo hb1 hb2)
  clear hb1 hb2
  go_wp2_with fail
  refine (light_v w.heap.size A' n' c' 200 5000 o w2 (Reads.below HR'.out HB2.out) HB2.out.size (by omega) (by omega)).mono ?_
  rw [HLT'.out]
  rintro e w3 ⟨rfl, hb3⟩
  have HB3 := Lib.hid (btrans HB2.out hb3 HB2.out.size)
  clear hb3 HB2
  go_wp2_with fail
  refine (made_v w.heap.size A n c l w3 (Reads.below HR.out HB3.out) HB3.out.size (by omega) HSK.out).mono ?_
  rw [HT.out]
  rintro e w4 ⟨q, A3, n3, c3, rfl, r4, rr4, hb4⟩
  have hbx : Below w3.heap.size w3 ((w4.alloc (.cells #[.pointer q] 24)).alloc (.cells #[.slice A3 n3 c3] 44)) := (hb4.alloc hb4.size _).alloc (Nat.le_trans hb4.size (by simp)) _
  have TT5 : Hid (TCell ((w4.alloc (.cells #[.pointer q] 24)).alloc (.cells #[.slice A3 n3 c3] 44)) w4.heap.size T q) := Lib.hid ((TCell.box w4 r4).alloc _)
  have RT5 : Hid (RCell ((w4.alloc (.cells #[.pointer q] 24)).alloc (.cells #[.slice A3 n3 c3] 44)) (w4.heap.size + 1) T.flat A3 n3 c3) := Lib.hid (by have := RCell.box (w4.alloc (.cells #[.pointer q] 24)) (RTab.step rr4 ((Below.refl _ _).alloc (Nat.le_refl _) (.cells #[.pointer q] 24))); rwa [World.size_alloc] at this)
  have HB5 := Lib.hid (btrans HB3.out hbx HB3.out.size)
  clear HB3
  clear hbx hb4 r4 rr4
  go_wp2_with fail
  generalize ((w4.alloc (.cells #[.pointer q] 24)).alloc (.cells #[.slice A3 n3 c3] 44)) = w5 at *
  generalize w4.heap.size = ga at *
  refine (made_v w.heap.size A' n' c' o w5 (Reads.below HR'.out HB5.out) HB5.out.size (by omega) HSK'.out).mono ?_
  rw [HU.out]
  rintro e w6 ⟨p, A4, n4, c4, rfl, r6, rr6, hb6⟩
  have hbx : Below w5.heap.size w5 ((w6.alloc (.cells #[.pointer p] 24)).alloc (.cells #[.slice A4 n4 c4] 44)) := (hb6.alloc hb6.size _).alloc (Nat.le_trans hb6.size (by simp)) _
  have UU7 : Hid (TCell ((w6.alloc (.cells #[.pointer p] 24)).alloc (.cells #[.slice A4 n4 c4] 44)) w6.heap.size U p) := Lib.hid ((TCell.box w6 r6).alloc _)
  have SS7 : Hid (RCell ((w6.alloc (.cells #[.pointer p] 24)).alloc (.cells #[.slice A4 n4 c4] 44)) (w6.heap.size + 1) U.flat A4 n4 c4) := Lib.hid (by have := RCell.box (w6.alloc (.cells #[.pointer p] 24)) (RTab.step rr6 ((Below.refl _ _).alloc (Nat.le_refl _) (.cells #[.pointer p] 24))); rwa [World.size_alloc] at this)
  have HB7 := Lib.hid (btrans HB5.out hbx HB5.out.size)
  have TT7 := Lib.hid (TT5.out.below hbx)
  have RT7 := Lib.hid (RT5.out.below hbx)
  clear HB5 TT5 RT5
  clear hbx hb6 r6 rr6
  have ct := TT7.out.1
  go_wp2_with fail
  generalize ((w6.alloc (.cells #[.pointer p] 24)).alloc (.cells #[.slice A4 n4 c4] 44)) = w7 at *
  generalize w6.heap.size = gu at *
  have hn3 : Hid (n3 = N) := Lib.hid (by have := RT7.out.2.2.2.1.1.len; rw [pvs_len, flat_len, HN.out] at this; exact this.symm)
  obtain rfl := hn3.out
  clear hn3
  have hn4x : n4 ≤ 400 := by have := SS7.out.2.2.2.1.1.len; rw [pvs_len, flat_len] at this; have := M2.out.2.1; omega
  refine (get_v fr T w7.heap.size q w7 TT7.out.2.2.2.1 (Nat.le_refl _)).mono ?_
  rw [HGT.out]
  rintro e w8 ⟨rfl, hb8⟩
  have HB8 := Lib.hid (btrans HB7.out hb8 HB7.out.size)
  have TT8 := Lib.hid (TT7.out.below hb8)
  have RT8 := Lib.hid (RT7.out.below hb8)
  have UU8 := Lib.hid (UU7.out.below hb8)
  have SS8 := Lib.hid (SS7.out.below hb8)
  clear HB7 TT7 RT7 UU7 SS7
  clear hb8
  clear ct
  have ct := RT8.out.1
  go_wp2_with fail
  refine (rget_v fr T.flat w8.heap.size A3 n3 c3 w8 RT8.out.2.2.2.1.1 (Nat.le_refl _) M1.out.1.1 (by omega)).mono ?_
  rw [HGT'.out]
  rintro e w9 ⟨rfl, hb9⟩
  have HB9 := Lib.hid (btrans HB8.out hb9 HB8.out.size)
  have TT9 := Lib.hid (TT8.out.below hb9)
  have RT9 := Lib.hid (RT8.out.below hb9)
  have UU9 := Lib.hid (UU8.out.below hb9)
  have SS9 := Lib.hid (SS8.out.below hb9)
  clear HB8 TT8 RT8 UU8 SS8
  clear hb9
  clear ct
  have ct := TT9.out.1
  go_wp2_with fail
  refine (next_v fr T w9.heap.size q w9 TT9.out.2.2.2.1 (Nat.le_refl _) (by rw [HN.out]; omega) (by omega)).mono ?_
  rw [HNX.out]
  rintro e w10 ⟨rfl, hb10⟩
  have PC11 := Lib.hid (PCell.new w10 nk nv)
  have hbx : Below w9.heap.size w9 (w10.alloc (.cells #[.string nk, .string nv, .bool false] 39)) := hb10.alloc hb10.size _
  have HB11 := Lib.hid (btrans HB9.out hbx HB9.out.size)
  have TT11 := Lib.hid (TT9.out.below hbx)
  have RT11 := Lib.hid (RT9.out.below hbx)
  have UU11 := Lib.hid (UU9.out.below hbx)
  have SS11 := Lib.hid (SS9.out.below hbx)
  clear HB9 TT9 RT9 UU9 SS9
  clear hbx hb10 ct
  have ct := RT11.out.1
  go_wp2_with fail
  generalize (w10.alloc (.cells #[.string nk, .string nv, .bool false] 39)) = w11 at *
  generalize w10.heap.size = gc at *
  refine (rnext_v fr T.flat w11.heap.size A3 n3 c3 w11 RT11.out.2.2.2.1.1 (Nat.le_refl _) (by omega)).mono ?_
  rw [HNX'.out]
  rintro e w12 ⟨rfl, hb12⟩
  have PD13 := Lib.hid (PCell.new w12 nk nv)
  have hbx : Below w11.heap.size w11 (w12.alloc (.cells #[.string nk, .string nv, .bool false] 39)) := hb12.alloc hb12.size _
  have HB13 := Lib.hid (btrans HB11.out hbx HB11.out.size)
  have TT13 := Lib.hid (TT11.out.below hbx)
  have RT13 := Lib.hid (RT11.out.below hbx)
  have UU13 := Lib.hid (UU11.out.below hbx)
  have SS13 := Lib.hid (SS11.out.below hbx)
  have PC13 := Lib.hid (PC11.out.below hbx)
  clear HB11 TT11 RT11 UU11 SS11 PC11
  clear hbx hb12 ct
  have ct := TT13.out.1
  go_wp2_with fail
  generalize (w12.alloc (.cells #[.string nk, .string nv, .bool false] 39)) = w13 at *
  generalize w12.heap.size = gd at *
  refine (cutT_v fr T w13.heap.size q w13 TT13.out.2.2.2.1 (Nat.le_refl _) (by rw [HN.out]; omega)).mono ?_
  rintro e w14 ⟨ql, qh, rfl, rl, rh, hb14⟩
  have hbx : Below w13.heap.size w13 ((w14.alloc (.cells #[.pointer ql] 24)).alloc (.cells #[.pointer qh] 24)) := (hb14.alloc hb14.size _).alloc (Nat.le_trans hb14.size (by simp)) _
  have LO15 : Hid (TCell ((w14.alloc (.cells #[.pointer ql] 24)).alloc (.cells #[.pointer qh] 24)) w14.heap.size (T.cut fr).1 ql) := Lib.hid ((TCell.box w14 rl).alloc _)
  have HI15 : Hid (TCell ((w14.alloc (.cells #[.pointer ql] 24)).alloc (.cells #[.pointer qh] 24)) (w14.heap.size + 1) (T.cut fr).2 qh) := Lib.hid (by have := TCell.box (w14.alloc (.cells #[.pointer ql] 24)) (Rep.step rh ((Below.refl _ _).alloc (Nat.le_refl _) (.cells #[.pointer ql] 24))); rwa [World.size_alloc] at this)
  have HB15 := Lib.hid (btrans HB13.out hbx HB13.out.size)
  have TT15 := Lib.hid (TT13.out.below hbx)
  have RT15 := Lib.hid (RT13.out.below hbx)
  have UU15 := Lib.hid (UU13.out.below hbx)
  have SS15 := Lib.hid (SS13.out.below hbx)
  have PC15 := Lib.hid (PC13.out.below hbx)
  have PD15 := Lib.hid (PD13.out.below hbx)
  clear HB13 TT13 RT13 UU13 SS13 PC13 PD13
  clear hbx hb14 rl rh ct
  have ct := RT15.out.1
  go_wp2_with fail
  generalize ((w14.alloc (.cells #[.pointer ql] 24)).alloc (.cells #[.pointer qh] 24)) = w15 at *
  generalize w14.heap.size = gl at *
  refine (rcut_v fr T.flat w15.heap.size A3 n3 c3 w15 RT15.out.2.2.2.1 (Nat.le_refl _) M1.out.1.1 (by omega)).mono ?_
  rintro e w16 ⟨Ae, ne, ce, Af, nf, cf, rfl, re, rf, hb16⟩
  have hbx : Below w15.heap.size w15 ((w16.alloc (.cells #[.slice Ae ne ce] 44)).alloc (.cells #[.slice Af nf cf] 44)) := (hb16.alloc hb16.size _).alloc (Nat.le_trans hb16.size (by simp)) _
  have LE17 : Hid (RCell ((w16.alloc (.cells #[.slice Ae ne ce] 44)).alloc (.cells #[.slice Af nf cf] 44)) w16.heap.size (lo fr T.flat) Ae ne ce) := Lib.hid ((RCell.box w16 re).alloc _)
  have MO17 : Hid (RCell ((w16.alloc (.cells #[.slice Ae ne ce] 44)).alloc (.cells #[.slice Af nf cf] 44)) (w16.heap.size + 1) (hi fr T.flat) Af nf cf) := Lib.hid (by have := RCell.box (w16.alloc (.cells #[.slice Ae ne ce] 44)) (RTab.step rf ((Below.refl _ _).alloc (Nat.le_refl _) (.cells #[.slice Ae ne ce] 44))); rwa [World.size_alloc] at this)
  have hne : ne ≤ 400 := by have := re.1.len; rw [pvs_len] at this; have h2 := lo_len fr T.flat; rw [flat_len, HN.out] at h2; omega
  have hnf : nf ≤ 400 := by have := rf.1.len; rw [pvs_len] at this; have h2 : (hi fr T.flat).length ≤ T.flat.length := List.length_filter_le _ _; rw [flat_len, HN.out] at h2; omega
  have HB17 := Lib.hid (btrans HB15.out hbx HB15.out.size)
  have TT17 := Lib.hid (TT15.out.below hbx)
  have RT17 := Lib.hid (RT15.out.below hbx)
  have UU17 := Lib.hid (UU15.out.below hbx)
  have SS17 := Lib.hid (SS15.out.below hbx)
  have PC17 := Lib.hid (PC15.out.below hbx)
  have PD17 := Lib.hid (PD15.out.below hbx)
  have LO17 := Lib.hid (LO15.out.below hbx)
  have HI17 := Lib.hid (HI15.out.below hbx)
  clear HB15 TT15 RT15 UU15 SS15 PC15 PD15 LO15 HI15
  clear hbx hb16 re rf ct
  go_wp2_with fail
  generalize ((w16.alloc (.cells #[.slice Ae ne ce] 44)).alloc (.cells #[.slice Af nf cf] 44)) = w17 at *
  generalize w16.heap.size = ge at *
  have q1 : ∀ V, Below w17.heap.size w17 V → V.cell? ⟨ga, 0, none⟩ = some (.pointer q) := fun V h => keepC h TT17.out.1 TT17.out.2.2.2.2
  have q2 : ∀ V, Below w17.heap.size w17 V → V.cell? ⟨ga + 1, 0, none⟩ = some (.slice A3 n3 c3) := fun V h => keepC h RT17.out.1 RT17.out.2.2.2.2
  have q3 : ∀ V, Below w17.heap.size w17 V → V.cell? ⟨gu, 0, none⟩ = some (.pointer p) := fun V h => keepC h UU17.out.1 UU17.out.2.2.2.2
  have q4 : ∀ V, Below w17.heap.size w17 V → V.cell? ⟨gu + 1, 0, none⟩ = some (.slice A4 n4 c4) := fun V h => keepC h SS17.out.1 SS17.out.2.2.2.2
  have q5 : ∀ V, Below w17.heap.size w17 V → V.cell? ⟨gl, 0, none⟩ = some (.pointer ql) := fun V h => keepC h LO17.out.1 LO17.out.2.2.2.2
  have q6 : ∀ V, Below w17.heap.size w17 V → V.cell? ⟨gl + 1, 0, none⟩ = some (.pointer qh) := fun V h => keepC h HI17.out.1 HI17.out.2.2.2.2
  have q7 : ∀ V, Below w17.heap.size w17 V → V.cell? ⟨ge, 0, none⟩ = some (.slice Ae ne ce) := fun V h => keepC h LE17.out.1 LE17.out.2.2.2.2
  have q8 : ∀ V, Below w17.heap.size w17 V → V.cell? ⟨ge + 1, 0, none⟩ = some (.slice Af nf cf) := fun V h => keepC h MO17.out.1 MO17.out.2.2.2.2
  have c0 : ∀ V, Below w17.heap.size w17 V → V.cell? ⟨gc, 0, none⟩ = some (.string nk) := fun V h => keepC h PC17.out.a PC17.out.z
  have c1 : ∀ V, Below w17.heap.size w17 V → V.cell? ⟨gc, 1, none⟩ = some (.string nv) := fun V h => keepC h PC17.out.b PC17.out.z
  have c2 : ∀ V, Below w17.heap.size w17 V → V.cell? ⟨gc, 2, none⟩ = some (.bool false) := fun V h => keepC h PC17.out.c PC17.out.z
  have d0 : ∀ V, Below w17.heap.size w17 V → V.cell? ⟨gd, 0, none⟩ = some (.string nk) := fun V h => keepC h PD17.out.a PD17.out.z
  have d1 : ∀ V, Below w17.heap.size w17 V → V.cell? ⟨gd, 1, none⟩ = some (.string nv) := fun V h => keepC h PD17.out.b PD17.out.z
  have d2 : ∀ V, Below w17.heap.size w17 V → V.cell? ⟨gd, 2, none⟩ = some (.bool false) := fun V h => keepC h PD17.out.c PD17.out.z
  have K20 : Hid (∀ V, Below w17.heap.size w17 V → Calls Try.prog 13 #[.agg #[.pointer q]] V (fun e w' => e = .returned (.int .i64 (n3 : Int)) ∧ Below V.heap.size V w')) := Lib.hid fun V h => by
    have := size_v T V.heap.size q V (TT17.out.below h).2.2.2.1 (Nat.le_refl _)
    rwa [HN.out] at this
  have K31 : Hid (∀ V, Below w17.heap.size w17 V → Calls Try.prog 22 #[.agg #[.pointer q], .string fr, .string tt, .int .i64 mo] V (SlPost V RL)) := Lib.hid fun V h => by
    rw [HRL.out]
    exact range_f M1.out.1 fr tt mo V.heap.size q V (TT17.out.below h).2.2.2.1 (Nat.le_refl _) (by rw [HN.out]; omega)
  have K36 : Hid (∀ V, Below w17.heap.size w17 V → Calls Try.prog 32 #[.agg #[.slice A3 n3 c3], .string fr, .string tt, .int .i64 mo] V (SlPost V RL)) := Lib.hid fun V h => by
    rw [HRL.out]
    exact rrange_v fr tt mo T.flat V.heap.size A3 n3 c3 V (RT17.out.below h).2.2.2.1.1 (Nat.le_refl _) M1.out.1.1 (by omega)
  have K42 : Hid (∀ V, Below w17.heap.size w17 V → Calls Try.prog 26 #[.agg #[.pointer q], .string fr] V (fun e w' => e = .returned (.int .i64 (m : Int)) ∧ Below V.heap.size V w')) := Lib.hid fun V h => by
    have := place_v fr T V.heap.size q V (TT17.out.below h).2.2.2.1 (Nat.le_refl _) (by rw [HN.out]; omega)
    rwa [place_of M1.out.1, ← HM.out] at this
  have K45 : Hid (∀ V, Below w17.heap.size w17 V → Calls Try.prog 33 #[.agg #[.slice A3 n3 c3], .string fr] V (fun e w' => e = .returned (.int .i64 (m : Int)) ∧ Below V.heap.size V w')) := Lib.hid fun V h => by
    have := rplace_v fr T.flat V.heap.size A3 n3 c3 V (RT17.out.below h).2.2.2.1.1 (Nat.le_refl _) M1.out.1.1 (by omega)
    rwa [← HM.out] at this
  have K51 : Hid (∀ V, Below w17.heap.size w17 V → Calls Try.prog 24 #[.agg #[.pointer q], .agg #[.pointer p]] V (SlPost V CH)) := Lib.hid fun V h => by
    rw [HCH.out]
    exact changes_v T U V.heap.size q p V (TT17.out.below h).2.2.2.1 (UU17.out.below h).2.2.2.1 (Nat.le_refl _) M1.out.1.1 (by rw [HN.out]; omega) (by have := M2.out.2.1; omega)
  have K54 : Hid (∀ V, Below w17.heap.size w17 V → Calls Try.prog 34 #[.agg #[.slice A3 n3 c3], .agg #[.slice A4 n4 c4]] V (SlPost V CH)) := Lib.hid fun V h => by
    rw [HCH.out]
    exact rchanges_v T.flat U.flat V.heap.size A3 A4 n3 c3 n4 c4 V (RT17.out.below h).2.2.2.1.1 (SS17.out.below h).2.2.2.1.1 (Nat.le_refl _) (by omega) (by omega)
  have K59 : Hid (∀ V, Below w17.heap.size w17 V → Calls Try.prog 17 #[.agg #[.pointer q]] V (SlPost V NP)) := Lib.hid fun V h => by
    rw [HNP.out]
    exact nodes_v T V.heap.size q V (TT17.out.below h).2.2.2.1 (Nat.le_refl _) (by rw [HN.out]; omega)
  have K61 : Hid (∀ V, Below w17.heap.size w17 V → Calls Try.prog 35 #[.agg #[.slice A3 n3 c3]] V (SlPost V NP)) := Lib.hid fun V h => by
    rw [HNP.out]
    exact rnodesT_v T V.heap.size A3 n3 c3 V M1.out.1 (fun x hx => by have := M1.out.2.2 x hx; omega) (RT17.out.below h).2.2.2.1 (Nat.le_refl _) (by omega)
  have K66 : Hid (∀ V, Below w17.heap.size w17 V → Calls Try.prog 17 #[.agg #[.pointer ql]] V (SlPost V NL)) := Lib.hid fun V h => by
    rw [HNL.out]
    exact nodes_v (T.cut fr).1 V.heap.size ql V (LO17.out.below h).2.2.2.1 (Nat.le_refl _) (by have := cut_cnt T fr; rw [HN.out] at this; omega)
  have K68 : Hid (∀ V, Below w17.heap.size w17 V → Calls Try.prog 35 #[.agg #[.slice Ae ne ce]] V (SlPost V NL)) := Lib.hid fun V h => by
    rw [HNL.out]
    exact rnodesT_v (T.cut fr).1 V.heap.size Ae ne ce V (good_cut M1.out.1 fr).1 (fun x hx => by have := M1.out.2.2 x ((cut_mem T fr).1 x hx); omega) (by rw [(cut_flat T fr M1.out.1.1).1]; exact (LE17.out.below h).2.2.2.1) (Nat.le_refl _) (by omega)
  have K73 : Hid (∀ V, Below w17.heap.size w17 V → Calls Try.prog 17 #[.agg #[.pointer qh]] V (SlPost V NH)) := Lib.hid fun V h => by
    rw [HNH.out]
    exact nodes_v (T.cut fr).2 V.heap.size qh V (HI17.out.below h).2.2.2.1 (Nat.le_refl _) (by have := cut_cnt T fr; rw [HN.out] at this; omega)
  have K75 : Hid (∀ V, Below w17.heap.size w17 V → Calls Try.prog 35 #[.agg #[.slice Af nf cf]] V (SlPost V NH)) := Lib.hid fun V h => by
    rw [HNH.out]
    exact rnodesT_v (T.cut fr).2 V.heap.size Af nf cf V (good_cut M1.out.1 fr).2 (fun x hx => by have := M1.out.2.2 x ((cut_mem T fr).2 x hx); omega) (by rw [(cut_flat T fr M1.out.1.1).2]; exact (MO17.out.below h).2.2.2.1) (Nat.le_refl _) (by omega)
  have K80 := Lib.hid (fun W => rank_v fr W (by unfold maxLen; omega))
  have K82 := Lib.hid (fun W => rrank_v fr W (by unfold maxLen; omega))
  have BW : Hid (∀ V, Below w17.heap.size w17 V → Below w.heap.size w V) := Lib.hid fun V h => btrans HB17.out h HB17.out.size
  have hwz : w.heap.size ≤ w17.heap.size := HB17.out.size
  clear TT17 RT17 UU17 SS17 PC17 PD17 LO17 HI17 LE17 MO17 HB17
  (try dsimp only [List.append])
  refine wp_region_swift [(0, false), (1, false), (2, false), (3, false), (4, false), (5, false), (6, false), (7, false), (8, false), (9, false), (10, false), (11, false), (12, false), (13, false), (14, false), (15, false), (16, false), (17, false), (18, false), (19, false), (21, false), (22, false), (23, false), (20, true), (24, false), (25, false), (26, false), (27, false), (28, false), (29, false), (30, false), (32, false), (33, false), (34, false), (35, false), (31, true), (36, true), (37, true), (38, false), (39, false), (40, false), (41, false), (43, false), (44, false), (42, true), (45, true), (46, false), (47, false), (48, false), (49, false), (50, false), (52, false), (53, false), (51, true), (54, true), (55, true), (56, false), (57, false), (58, false), (60, false), (59, true), (61, true), (62, true), (63, false), (64, false), (65, false), (67, false), (66, true), (68, true), (69, true), (70, false), (71, false), (72, false), (74, false), (73, true), (75, true), (76, true), (77, false), (78, false), (79, false), (81, false), (80, true), (82, true), (83, false), (84, false), (85, false), (87, false), (91, false), (86, true), (88, true), (89, true), (90, true), (92, true), (93, true), (94, true), (95, false), (96, false)] [⟨0, 9903520314283042199192993792, 32768⟩, ⟨0, 19807040628566084398385987584, 131072⟩, ⟨3, 39614081257132168796771975168, 29710560942849126597578981376⟩, ⟨4, 79228162514264337593543950336, 39614081257132168796771975168⟩, ⟨8, 158456325028528675187087900672, 79228162514264337593544015872⟩, ⟨8, 316912650057057350374175801344, 79228162514264337593544212480⟩, ⟨56, 633825300114114700748351602688, 554597137599850363154807652352⟩, ⟨72, 1267650600228229401496703205376, 713053462628379038341895553024⟩, ⟨136, 2535301200456458802993406410752, 1267650600228229401496703205376⟩, ⟨256, 5070602400912917605986812821504, 2535301200456458802993406935040⟩, ⟨256, 10141204801825835211973625643008, 2535301200456458802993408507904⟩, ⟨1792, 20282409603651670423947251286016, 17747108403195211620953844875264⟩, ⟨2304, 40564819207303340847894502572032, 22817710804108129226940657696768⟩, ⟨4352, 81129638414606681695789005144064, 40564819207303340847894502572032⟩, ⟨8192, 162259276829213363391578010288128, 81129638414606681695789006192640⟩, ⟨8192, 324518553658426726783156020576256, 81129638414606681695789009338368⟩, ⟨57344, 649037107316853453566312041152512, 567907468902246771870523036008448⟩, ⟨73728, 1298074214633706907132624082305024, 730166745731460135262101046296576⟩, ⟨139264, 2596148429267413814265248164610048, 1298074214633706907132624082305024⟩, ⟨262144, 5192296858534827628530496329220096, 2596148429267413814265248164612096⟩, ⟨786432, 10384593717069655257060992658440192, 7788445287802241442795744493830144⟩, ⟨262144, 20769187434139310514121985316880384, 2596148429267413814265248164614144⟩, ⟨2359296, 41538374868278621028243970633760768, 23365335863406724328387233481490432⟩, ⟨4456448, 83076749736557242056487941267521536, 44134523297546034842509218798370816⟩, ⟨9699328, 166153499473114484112975882535043072, 96057491882894311127814182090571776⟩, ⟨17039360, 332306998946228968225951765070086144, 168749647902381897927241130699653120⟩, ⟨34603008, 664613997892457936451903530140172288, 332306998946228968225951765070086144⟩, ⟨67108864, 1329227995784915872903807060280344576, 664613997892457936451903530140174336⟩, ⟨67108864, 2658455991569831745807614120560689152, 664613997892457936451903530140172292⟩, ⟨67108864, 5316911983139663491615228241121378304, 664613997892457936451903530140172296⟩, ⟨67108864, 10633823966279326983230456482242756608, 664613997892457936451903530140172304⟩, ⟨2080374784, 21267647932558653966460912964485513216, 20603033934666196030009009434345340928⟩, ⟨67108864, 42535295865117307932921825928971026432, 664613997892457936451903530140176384⟩, ⟨67108864, 85070591730234615865843651857942052864, 664613997892457936451903530140172292⟩, ⟨67108864, 170141183460469231731687303715884105728, 664613997892457936451903530140172296⟩, ⟨67108864, 340282366920938463463374607431768211456, 664613997892457936451903530140172304⟩, ⟨66639101952, 680564733841876926926749214863536422912, 638694051974652076930279292464705568768⟩, ⟨70934069248, 1361129467683753853853498429727072845824, 702496995772328038829662031358162108416⟩, ⟨137506062336, 2722258935367507707706996859454145691648, 1361794081681646311789950333257213018112⟩, ⟨412316860416, 5444517870735015415413993718908291383296, 2722258935367507707706996859454145691648⟩, ⟨549755813888, 10889035741470030830827987437816582766592, 5444517870735015415413993718908291385344⟩, ⟨549755813888, 21778071482940061661655974875633165533184, 5444517870735015415413993718908291383300⟩, ⟨3848290697216, 43556142965880123323311949751266331066368, 38111625095145107907897956032358039683072⟩, ⟨549755813888, 87112285931760246646623899502532662132736, 5444517870735015415413993718908291387392⟩, ⟨549755813888, 174224571863520493293247799005065324265472, 5444517870735015415413993718908291383300⟩, ⟨31336081391616, 348449143727040986586495598010130648530944, 266781375666015755355285692226506277781504⟩, ⟨40132174413824, 696898287454081973172991196020261297061888, 397449804563656125325221541480305270980608⟩, ⟨70918499991552, 1393796574908163946345982392040522594123776, 702342805324816988588405189739169588445184⟩, ⟨175921860444160, 2787593149816327892691964784081045188247552, 1393796574908163946345982392040522594123776⟩, ⟨281474976710656, 5575186299632655785383929568162090376495104, 2787593149816327892691964784081045188249600⟩, ⟨281474976710656, 11150372599265311570767859136324180752990208, 2787593149816327892691964784081045188255744⟩, ⟨1970324836974592, 22300745198530623141535718272648361505980416, 19513152048714295248843753488567316317732864⟩, ⟨281474976710656, 44601490397061246283071436545296723011960832, 2787593149816327892691964784081045188251648⟩, ⟨281474976710656, 89202980794122492566142873090593446023921664, 2787593149816327892691964784081045188263936⟩, ⟨16044073672507392, 178405961588244985132285746181186892047843328, 136592064341000066741906274419971214224130048⟩, ⟨20547673299877888, 356811923176489970264571492362373784095686656, 203494299936591936166513429237916298742071296⟩, ⟨36310271995674624, 713623846352979940529142984724747568191373312, 359599516326306298157263457146454829283934208⟩, ⟨108086391056891904, 1427247692705959881058285969449495136382746624, 713623846352979940529142984724747568191373312⟩, ⟨144115188075855872, 2854495385411919762116571938898990272765493248, 1427247692705959881058285969449495136382748672⟩, ⟨432345564227567616, 5708990770823839524233143877797980545530986496, 4281743078117879643174857908348485409148239872⟩, ⟨144115188075855872, 11417981541647679048466287755595961091061972992, 1427247692705959881058285969449495136382750720⟩, ⟨1873497444986126336, 22835963083295358096932575511191922182123945984, 12845229234353638929524573725045456227444719616⟩, ⟨3026418949592973312, 45671926166590716193865151022383844364247891968, 29972201546825157502224005358439397864037679104⟩, ⟨4755801206503243776, 91343852333181432387730302044767688728495783936, 47099173859296676074923436991833339500630638592⟩, ⟨13835058055282163712, 182687704666362864775460604089535377456991567872, 91343852333181432387730302044767688728495783936⟩, ⟨18446744073709551616, 365375409332725729550921208179070754913983135744, 182687704666362864775460604089535377456999956480⟩, ⟨55340232221128654848, 730750818665451459101842416358141509827966271488, 548063113999088594326381812268606132370974703616⟩, ⟨18446744073709551616, 1461501637330902918203684832716283019655932542976, 182687704666362864775460604089535377457025122304⟩, ⟨239807672958224171008, 2923003274661805836407369665432566039311865085952, 1644189341997265782979145436805818397112924110848⟩, ⟨387381625547900583936, 5846006549323611672814739330865132078623730171904, 3836441797993620160284672685880242926596822925312⟩, ⟨608742554432415203328, 11692013098647223345629478661730264157247460343808, 6028694253989974537590199934954667456080721739776⟩, ⟨1770887431076116955136, 23384026197294446691258957323460528314494920687616, 11692013098647223345629478661730264157247460343808⟩, ⟨2361183241434822606848, 46768052394588893382517914646921056628989841375232, 23384026197294446691258957323460528314494937464832⟩, ⟨7083549724304467820544, 93536104789177786765035829293842113257979682750464, 70152078591883340073776871970381584943484762062848⟩, ⟨2361183241434822606848, 187072209578355573530071658587684226515959365500928, 23384026197294446691258957323460528314494987796480⟩, ⟨30695382138652693889024, 374144419156711147060143317175368453031918731001856, 210456235775650020221330615911144754830454286188544⟩, ⟨49584848070131274743808, 748288838313422294120286634350736906063837462003712, 491064550143183380516438103792671094604393334439936⟩, ⟨77919046967349146025984, 1496577676626844588240573268701473812127674924007424, 771672864510716740811545591674197434378332382691328⟩, ⟨226673591177742970257408, 2993155353253689176481146537402947624255349848014848, 1496577676626844588240573268701473812127674924007424⟩, ⟨302231454903657293676544, 5986310706507378352962293074805895248510699696029696, 2993155353253689176481146537402947624255349848014852⟩, ⟨906694364710971881029632, 11972621413014756705924586149611790497021399392059392, 8979466059761067529443439612208842872766049544044544⟩, ⟨302231454903657293676544, 23945242826029513411849172299223580994042798784118784, 2993155353253689176481146537402947624255349848014852⟩, ⟨3929008913747544817795072, 47890485652059026823698344598447161988085597568237568, 26938398179283202588330318836626528618298148632133632⟩, ⟨6346860552976803167207424, 95780971304118053647396689196894323976171195136475136, 62856262418327472706104077285461900109362346808311808⟩, ⟨9973638011820690691325952, 191561942608236107294793378393788647952342390272950272, 98774126657371742823877835734297271600426544984489984⟩, ⟨24178516392292583494123520, 383123885216472214589586756787577295904684780545900544, 191561942608236107294793378393788647952342390272950272⟩, ⟨38685626227668133590597632, 766247770432944429179173513575154591809369561091801088, 383123885216472214589586756787577295904684780545900544⟩, ⟨38685626227668133590597632, 1532495540865888858358347027150309183618739122183602176, 383123885216472214589586756787577295904684780545900545⟩, ⟨270799383593676935134183424, 3064991081731777716716694054300618367237478244367204352, 2681867196515305502127107297513041071332793463821303808⟩, ⟨348170636049013202315378688, 6129982163463555433433388108601236734474956488734408704, 3448114966948249931306280811088195663142163024913104896⟩, ⟨657655645870358271040159744, 12259964326927110866866776217202473468949912977468817408, 6513106048680027648022974865388814030379641269280309248⟩, ⟨38685626227668133590597632, 24519928653854221733733552434404946937899825954937634816, 383123885216472214589586756787577295904684780545900545⟩, ⟨3752505744083808958287970304, 49039857307708443467467104868809893875799651909875269632, 24903052539070693948323139191192524233804510735483535360⟩, ⟨4990445783369189233187094528, 98079714615416886934934209737619787751599303819750539264, 49422981192924915682056691625597471171704336690421170176⟩, ⟨11180145979796090607682715648, 196159429230833773869868419475239575503198607639501078528, 110722802827560470016390572711609838516453901577765257216⟩, ⟨19845726254793752531976585216, 392318858461667547739736838950479151006397215279002157056, 196542553116050246084458006232027152799103292420046979072⟩, ⟨79228162514264337593543950335, 1024, 392318858461667547739736838950479151006397215279002157056⟩] (fun V => Below w17.heap.size w17 V) (by kernel_rfl) (by kernel_rfl) (by kernel_rfl) (by kernel_rfl) (by kernel_rfl) (by kernel_rfl) (fun _ => ?_)
  simp only [outOf, List.getElem?_cons_zero, List.getElem?_cons_succ, Option.getD_some]
  have hS := (Below.refl w17.heap.size w17).drew
  iterate 23 ((first | (refine TW.val2 (v := ?_) ?_ ?_ ?_ ?_ ?_; rotate_left; (focus rfl); (focus (intro W hSW; (try dsimp only at hSW); go_simp; (try with_reducible rfl); done)); (focus exact fun _ _ _ h => h); (focus assumption)) | (refine TW.skip (e := false) ?_ ?_ ?_ ?_; (focus rfl); (focus exact fun _ _ _ h => h); (focus assumption))); simp only [Act.put, List.setIfInBounds_toArray, List.set_cons_zero, List.set_cons_succ])
  refine TW.eff (by rfl) (fun K hK => ?_); go_simp
  refine (K20.out _ hS).mono ?_
  rintro e v20 ⟨rfl, hb⟩
  have hS20 := btwo hS hb
  clear hb
  go_wp2_with fail; refine hK.out _ _ hS20 ?_; clear hK; (try simp only [Act.put, List.setIfInBounds_toArray, List.set_cons_zero, List.set_cons_succ])
  iterate 11 ((first | (refine TW.val2 (v := ?_) ?_ ?_ ?_ ?_ ?_; rotate_left; (focus rfl); (focus (intro W hSW; (try dsimp only at hSW); go_simp; (try with_reducible rfl); done)); (focus exact fun _ _ _ h => h); (focus assumption)) | (refine TW.skip (e := false) ?_ ?_ ?_ ?_; (focus rfl); (focus exact fun _ _ _ h => h); (focus assumption))); simp only [Act.put, List.setIfInBounds_toArray, List.set_cons_zero, List.set_cons_succ])
  refine TW.eff (by rfl) (fun K hK => ?_); go_simp
  refine (K31.out _ hS20).mono ?_
  rintro e v31 ⟨X31, x31, rfl, ho, hb⟩
  have hS31 := btwo hS20 hb
  have O31 := Lib.hid ho
  clear hb ho
  go_wp2_with fail; refine hK.out _ _ hS31 ?_; clear hK; (try simp only [Act.put, List.setIfInBounds_toArray, List.set_cons_zero, List.set_cons_succ])
  refine TW.eff (by rfl) (fun K hK => ?_); go_simp
  refine (K36.out _ hS31).mono ?_
  rintro e v36 ⟨X36, x36, rfl, ho, hb⟩
  have hS36 := btwo hS31 hb
  replace O31 := Lib.hid (O31.out.below hb)
  have O36 := Lib.hid ho
  clear hb ho
  go_wp2_with fail; refine hK.out _ _ hS36 ?_; clear hK; (try simp only [Act.put, List.setIfInBounds_toArray, List.set_cons_zero, List.set_cons_succ])
  refine TW.eff (by rfl) (fun K hK => ?_); go_simp
  refine (pairs_v v36.heap.size v36.heap.size X31 X36 RL.length RL.length x31 x36 RL v36 O31.out.reads O36.out.reads (Nat.le_refl _) (Nat.le_refl _) (by omega)).mono ?_
  rintro e v37 ⟨rfl, hb⟩
  have hS37 := btwo hS36 hb
  clear hb O31 O36
  go_wp2_with fail; refine hK.out _ _ hS37 ?_; clear hK; (try simp only [Act.put, List.setIfInBounds_toArray, List.set_cons_zero, List.set_cons_succ])
  iterate 6 ((first | (refine TW.val2 (v := ?_) ?_ ?_ ?_ ?_ ?_; rotate_left; (focus rfl); (focus (intro W hSW; (try dsimp only at hSW); go_simp; (try with_reducible rfl); done)); (focus exact fun _ _ _ h => h); (focus assumption)) | (refine TW.skip (e := false) ?_ ?_ ?_ ?_; (focus rfl); (focus exact fun _ _ _ h => h); (focus assumption))); simp only [Act.put, List.setIfInBounds_toArray, List.set_cons_zero, List.set_cons_succ])
  refine TW.eff (by rfl) (fun K hK => ?_); go_simp
  refine (K42.out _ hS37).mono ?_
  rintro e v42 ⟨rfl, hb⟩
  have hS42 := btwo hS37 hb
  clear hb
  go_wp2_with fail; refine hK.out _ _ hS42 ?_; clear hK; (try simp only [Act.put, List.setIfInBounds_toArray, List.set_cons_zero, List.set_cons_succ])
  refine TW.eff (by rfl) (fun K hK => ?_); go_simp
  refine (K45.out _ hS42).mono ?_
  rintro e v45 ⟨rfl, hb⟩
  have hS45 := btwo hS42 hb
  clear hb
  go_wp2_with fail; refine hK.out _ _ hS45 ?_; clear hK; (try simp only [Act.put, List.setIfInBounds_toArray, List.set_cons_zero, List.set_cons_succ])
  iterate 7 ((first | (refine TW.val2 (v := ?_) ?_ ?_ ?_ ?_ ?_; rotate_left; (focus rfl); (focus (intro W hSW; (try dsimp only at hSW); go_simp; (try with_reducible rfl); done)); (focus exact fun _ _ _ h => h); (focus assumption)) | (refine TW.skip (e := false) ?_ ?_ ?_ ?_; (focus rfl); (focus exact fun _ _ _ h => h); (focus assumption))); simp only [Act.put, List.setIfInBounds_toArray, List.set_cons_zero, List.set_cons_succ])
  refine TW.eff (by rfl) (fun K hK => ?_); go_simp
  refine (K51.out _ hS45).mono ?_
  rintro e v51 ⟨X51, x51, rfl, ho, hb⟩
  have hS51 := btwo hS45 hb
  have O51 := Lib.hid ho
  clear hb ho
  go_wp2_with fail; refine hK.out _ _ hS51 ?_; clear hK; (try simp only [Act.put, List.setIfInBounds_toArray, List.set_cons_zero, List.set_cons_succ])
  refine TW.eff (by rfl) (fun K hK => ?_); go_simp
  refine (K54.out _ hS51).mono ?_
  rintro e v54 ⟨X54, x54, rfl, ho, hb⟩
  have hS54 := btwo hS51 hb
  replace O51 := Lib.hid (O51.out.below hb)
  have O54 := Lib.hid ho
  clear hb ho
  go_wp2_with fail; refine hK.out _ _ hS54 ?_; clear hK; (try simp only [Act.put, List.setIfInBounds_toArray, List.set_cons_zero, List.set_cons_succ])
  refine TW.eff (by rfl) (fun K hK => ?_); go_simp
  refine (pairs_v v54.heap.size v54.heap.size X51 X54 CH.length CH.length x51 x54 CH v54 O51.out.reads O54.out.reads (Nat.le_refl _) (Nat.le_refl _) (by omega)).mono ?_
  rintro e v55 ⟨rfl, hb⟩
  have hS55 := btwo hS54 hb
  clear hb O51 O54
  go_wp2_with fail; refine hK.out _ _ hS55 ?_; clear hK; (try simp only [Act.put, List.setIfInBounds_toArray, List.set_cons_zero, List.set_cons_succ])
  iterate 4 ((first | (refine TW.val2 (v := ?_) ?_ ?_ ?_ ?_ ?_; rotate_left; (focus rfl); (focus (intro W hSW; (try dsimp only at hSW); go_simp; (try with_reducible rfl); done)); (focus exact fun _ _ _ h => h); (focus assumption)) | (refine TW.skip (e := false) ?_ ?_ ?_ ?_; (focus rfl); (focus exact fun _ _ _ h => h); (focus assumption))); simp only [Act.put, List.setIfInBounds_toArray, List.set_cons_zero, List.set_cons_succ])
  refine TW.eff (by rfl) (fun K hK => ?_); go_simp
  refine (K59.out _ hS55).mono ?_
  rintro e v59 ⟨X59, x59, rfl, ho, hb⟩
  have hS59 := btwo hS55 hb
  have O59 := Lib.hid ho
  clear hb ho
  go_wp2_with fail; refine hK.out _ _ hS59 ?_; clear hK; (try simp only [Act.put, List.setIfInBounds_toArray, List.set_cons_zero, List.set_cons_succ])
  refine TW.eff (by rfl) (fun K hK => ?_); go_simp
  refine (K61.out _ hS59).mono ?_
  rintro e v61 ⟨X61, x61, rfl, ho, hb⟩
  have hS61 := btwo hS59 hb
  replace O59 := Lib.hid (O59.out.below hb)
  have O61 := Lib.hid ho
  clear hb ho
  go_wp2_with fail; refine hK.out _ _ hS61 ?_; clear hK; (try simp only [Act.put, List.setIfInBounds_toArray, List.set_cons_zero, List.set_cons_succ])
  refine TW.eff (by rfl) (fun K hK => ?_); go_simp
  refine (pairs_v v61.heap.size v61.heap.size X59 X61 NP.length NP.length x59 x61 NP v61 O59.out.reads O61.out.reads (Nat.le_refl _) (Nat.le_refl _) (by omega)).mono ?_
  rintro e v62 ⟨rfl, hb⟩
  have hS62 := btwo hS61 hb
  clear hb O59 O61
  go_wp2_with fail; refine hK.out _ _ hS62 ?_; clear hK; (try simp only [Act.put, List.setIfInBounds_toArray, List.set_cons_zero, List.set_cons_succ])
  iterate 4 ((first | (refine TW.val2 (v := ?_) ?_ ?_ ?_ ?_ ?_; rotate_left; (focus rfl); (focus (intro W hSW; (try dsimp only at hSW); go_simp; (try with_reducible rfl); done)); (focus exact fun _ _ _ h => h); (focus assumption)) | (refine TW.skip (e := false) ?_ ?_ ?_ ?_; (focus rfl); (focus exact fun _ _ _ h => h); (focus assumption))); simp only [Act.put, List.setIfInBounds_toArray, List.set_cons_zero, List.set_cons_succ])
  refine TW.eff (by rfl) (fun K hK => ?_); go_simp
  refine (K66.out _ hS62).mono ?_
  rintro e v66 ⟨X66, x66, rfl, ho, hb⟩
  have hS66 := btwo hS62 hb
  have O66 := Lib.hid ho
  clear hb ho
  go_wp2_with fail; refine hK.out _ _ hS66 ?_; clear hK; (try simp only [Act.put, List.setIfInBounds_toArray, List.set_cons_zero, List.set_cons_succ])
  refine TW.eff (by rfl) (fun K hK => ?_); go_simp
  refine (K68.out _ hS66).mono ?_
  rintro e v68 ⟨X68, x68, rfl, ho, hb⟩
  have hS68 := btwo hS66 hb
  replace O66 := Lib.hid (O66.out.below hb)
  have O68 := Lib.hid ho
  clear hb ho
  go_wp2_with fail; refine hK.out _ _ hS68 ?_; clear hK; (try simp only [Act.put, List.setIfInBounds_toArray, List.set_cons_zero, List.set_cons_succ])
  refine TW.eff (by rfl) (fun K hK => ?_); go_simp
  refine (pairs_v v68.heap.size v68.heap.size X66 X68 NL.length NL.length x66 x68 NL v68 O66.out.reads O68.out.reads (Nat.le_refl _) (Nat.le_refl _) (by omega)).mono ?_
  rintro e v69 ⟨rfl, hb⟩
  have hS69 := btwo hS68 hb
  clear hb O66 O68
  go_wp2_with fail; refine hK.out _ _ hS69 ?_; clear hK; (try simp only [Act.put, List.setIfInBounds_toArray, List.set_cons_zero, List.set_cons_succ])
  iterate 4 ((first | (refine TW.val2 (v := ?_) ?_ ?_ ?_ ?_ ?_; rotate_left; (focus rfl); (focus (intro W hSW; (try dsimp only at hSW); go_simp; (try with_reducible rfl); done)); (focus exact fun _ _ _ h => h); (focus assumption)) | (refine TW.skip (e := false) ?_ ?_ ?_ ?_; (focus rfl); (focus exact fun _ _ _ h => h); (focus assumption))); simp only [Act.put, List.setIfInBounds_toArray, List.set_cons_zero, List.set_cons_succ])
  refine TW.eff (by rfl) (fun K hK => ?_); go_simp
  refine (K73.out _ hS69).mono ?_
  rintro e v73 ⟨X73, x73, rfl, ho, hb⟩
  have hS73 := btwo hS69 hb
  have O73 := Lib.hid ho
  clear hb ho
  go_wp2_with fail; refine hK.out _ _ hS73 ?_; clear hK; (try simp only [Act.put, List.setIfInBounds_toArray, List.set_cons_zero, List.set_cons_succ])
  refine TW.eff (by rfl) (fun K hK => ?_); go_simp
  refine (K75.out _ hS73).mono ?_
  rintro e v75 ⟨X75, x75, rfl, ho, hb⟩
  have hS75 := btwo hS73 hb
  replace O73 := Lib.hid (O73.out.below hb)
  have O75 := Lib.hid ho
  clear hb ho
  go_wp2_with fail; refine hK.out _ _ hS75 ?_; clear hK; (try simp only [Act.put, List.setIfInBounds_toArray, List.set_cons_zero, List.set_cons_succ])
  refine TW.eff (by rfl) (fun K hK => ?_); go_simp
  refine (pairs_v v75.heap.size v75.heap.size X73 X75 NH.length NH.length x73 x75 NH v75 O73.out.reads O75.out.reads (Nat.le_refl _) (Nat.le_refl _) (by omega)).mono ?_
  rintro e v76 ⟨rfl, hb⟩
  have hS76 := btwo hS75 hb
  clear hb O73 O75
  go_wp2_with fail; refine hK.out _ _ hS76 ?_; clear hK; (try simp only [Act.put, List.setIfInBounds_toArray, List.set_cons_zero, List.set_cons_succ])
  iterate 4 ((first | (refine TW.val2 (v := ?_) ?_ ?_ ?_ ?_ ?_; rotate_left; (focus rfl); (focus (intro W hSW; (try dsimp only at hSW); go_simp; (try with_reducible rfl); done)); (focus exact fun _ _ _ h => h); (focus assumption)) | (refine TW.skip (e := false) ?_ ?_ ?_ ?_; (focus rfl); (focus exact fun _ _ _ h => h); (focus assumption))); simp only [Act.put, List.setIfInBounds_toArray, List.set_cons_zero, List.set_cons_succ])
  refine TW.eff (by rfl) (fun K hK => ?_); go_simp
  refine (K80.out _).mono ?_
  rintro e _ ⟨rfl, rfl⟩
  go_wp2_with fail; refine hK.out _ _ hS76 ?_; clear hK; (try simp only [Act.put, List.setIfInBounds_toArray, List.set_cons_zero, List.set_cons_succ])
  refine TW.eff (by rfl) (fun K hK => ?_); go_simp
  refine (K82.out _).mono ?_
  rintro e _ ⟨rfl, rfl⟩
  go_wp2_with fail; refine hK.out _ _ hS76 ?_; clear hK; (try simp only [Act.put, List.setIfInBounds_toArray, List.set_cons_zero, List.set_cons_succ])
  iterate 5 ((first | (refine TW.val2 (v := ?_) ?_ ?_ ?_ ?_ ?_; rotate_left; (focus rfl); (focus (intro W hSW; (try dsimp only at hSW); go_simp; (try with_reducible rfl); done)); (focus exact fun _ _ _ h => h); (focus assumption)) | (refine TW.skip (e := false) ?_ ?_ ?_ ?_; (focus rfl); (focus exact fun _ _ _ h => h); (focus assumption))); simp only [Act.put, List.setIfInBounds_toArray, List.set_cons_zero, List.set_cons_succ])
  refine TW.eff (by rfl) (fun K hK => ?_); go_simp
  have hS86 := hS76.alloc hS76.size (.cells #[] 39)
  refine hK.out _ _ hS86 ?_
  clear hK
  (try simp only [Act.put, List.setIfInBounds_toArray, List.set_cons_zero, List.set_cons_succ])
  have E86 := Lib.hid (POwn.empty v76)
  have hz86 : w17.heap.size ≤ v76.heap.size := hS76.size
  refine TW.eff (by rfl) (fun K hK => ?_)
  refine wp_papp (.tmp 179) (.tmp 180) rfl v76.heap.size (some ⟨v76.heap.size, 0, none⟩) 0 0 [] rfl E86.out w.heap.size A n c l rfl (Reads.below HR.out (BW.out _ hS86)) (by omega) (by simp) ?_
  intro X88 x88 v88 ho hg
  have hS88 := below_papp hS86 hg E86.out hz86 hS86.size
  rw [Nat.zero_add, List.nil_append] at ho
  have O88 := Lib.hid ho
  refine hK.out _ _ hS88 ?_
  clear hK ho hg E86
  (try simp only [Act.put, List.setIfInBounds_toArray, List.set_cons_zero, List.set_cons_succ, Nat.zero_add])
  refine TW.eff (by rfl) (fun K hK => ?_); go_simp
  refine (of_v v88.heap.size X88 n x88 l v88 O88.out.reads (Nat.le_refl _) (by omega) HSK.out).mono ?_
  rintro e v89 ⟨po, rfl, ro, hb⟩
  have hS89 := btwo hS88 hb
  have RO := Lib.hid ro
  clear hb ro O88
  go_wp2_with fail; refine hK.out _ _ hS89 ?_; clear hK; (try simp only [Act.put, List.setIfInBounds_toArray, List.set_cons_zero, List.set_cons_succ])
  refine TW.eff (by rfl) (fun K hK => ?_); go_simp
  refine (by rw [HOP.out]; exact nodes_v (ofT l) v89.heap.size po v89 RO.out (Nat.le_refl _) (by have := HOC.out; omega) : Calls Try.prog 17 #[.agg #[.pointer po]] v89 (SlPost v89 OP)).mono ?_
  rintro e v90 ⟨X90, x90, rfl, ho, hb⟩
  have hS90 := btwo hS89 hb
  have O90 := Lib.hid ho
  clear hb ho
  go_wp2_with fail; refine hK.out _ _ hS90 ?_; clear hK; (try simp only [Act.put, List.setIfInBounds_toArray, List.set_cons_zero, List.set_cons_succ])
  refine TW.eff (by rfl) (fun K hK => ?_); go_simp
  refine (rof_v w.heap.size A n c l v90 (Reads.below HR.out (BW.out _ hS90)) (BW.out _ hS90).size (by omega)).mono ?_
  rintro e v92 ⟨Xo, no, xo, rfl, rto, hb⟩
  have hS92 := btwo hS90 hb
  replace O90 := Lib.hid (O90.out.below hb)
  have RR := Lib.hid rto
  have hno : no ≤ 200 := by have := rto.1.len; rw [pvs_len, ← HOG.out.2, flat_len] at this; have := HOC.out; omega
  clear hb rto
  go_wp2_with fail; refine hK.out _ _ hS92 ?_; clear hK; (try simp only [Act.put, List.setIfInBounds_toArray, List.set_cons_zero, List.set_cons_succ])
  refine TW.eff (by rfl) (fun K hK => ?_); go_simp
  refine (by rw [HOP.out]; exact rnodesT_v (ofT l) v92.heap.size Xo no xo v92 HOG.out.1 (fun x hx => by have := HOK.out x hx; omega) (by rw [HOG.out.2]; exact RR.out) (Nat.le_refl _) (by omega) : Calls Try.prog 35 #[.agg #[.slice Xo no xo]] v92 (SlPost v92 OP)).mono ?_
  rintro e v93 ⟨X93, x93, rfl, ho, hb⟩
  have hS93 := btwo hS92 hb
  replace O90 := Lib.hid (O90.out.below hb)
  have O93 := Lib.hid ho
  clear hb ho
  go_wp2_with fail; refine hK.out _ _ hS93 ?_; clear hK; (try simp only [Act.put, List.setIfInBounds_toArray, List.set_cons_zero, List.set_cons_succ])
  refine TW.eff (by rfl) (fun K hK => ?_); go_simp
  refine (pairs_v v93.heap.size v93.heap.size X90 X93 OP.length OP.length x90 x93 OP v93 O90.out.reads O93.out.reads (Nat.le_refl _) (Nat.le_refl _) (by omega)).mono ?_
  rintro e v94 ⟨rfl, hb⟩
  have hS94 := btwo hS93 hb
  clear hb O90 O93
  go_wp2_with fail; refine hK.out _ _ hS94 ?_; clear hK; (try simp only [Act.put, List.setIfInBounds_toArray, List.set_cons_zero, List.set_cons_succ])
  iterate 2 ((first | (refine TW.val2 (v := ?_) ?_ ?_ ?_ ?_ ?_; rotate_left; (focus rfl); (focus (intro W hSW; (try dsimp only at hSW); go_simp; (try with_reducible rfl); done)); (focus exact fun _ _ _ h => h); (focus assumption)) | (refine TW.skip (e := false) ?_ ?_ ?_ ?_; (focus rfl); (focus exact fun _ _ _ h => h); (focus assumption))); simp only [Act.put, List.setIfInBounds_toArray, List.set_cons_zero, List.set_cons_succ])
  refine TW.done ?_
  have HB94 := Lib.hid (BW.out _ hS94)
  clear q1 q2 q3 q4 q5 q6 q7 q8 c0 c1 c2 d0 d1 d2
  go_wp2
  go_ret
  exact ⟨rfl, HB94.out⟩
end Go.Proofs.Ytohcdnbchidjeaa
