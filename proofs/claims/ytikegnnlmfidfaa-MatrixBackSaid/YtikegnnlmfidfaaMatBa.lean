/-
  MatrixBack: a change that is undone restores the matrix; parts are disjoint, and devices that share are in the same one.
-/
import Derived.Test.YtikegnnlmfidfaaMatLc
import Derived.Test.YtikegnnlmfidfaaMatR
namespace Go.Proofs.Ytikegnnlmfidfaa
open Go.RowKit
/-- A block holds a matrix, and what lay there before is as before. -/
structure BkI (g : Nat) (w V : World) (own : Int) (A : Option Addr) (n c : Nat) : Prop where
  b : Below g w V
  x : V.heap[g]? = some (.cells #[.int .i64 own, .slice A n c] 27 (0, 0))
section
variable {g : Nat} {w V V' : World} {own : Int} {A : Option Addr} {n c : Nat}
theorem BkI.start (w : World) (own : Int) (A : Option Addr) (n c : Nat) : BkI w.heap.size w (w.alloc (.cells #[.int .i64 own, .slice A n c] 27)) own A n c := ⟨(Below.refl _ _).alloc (Nat.le_refl _) _, heap_alloc_new w _⟩
theorem BkI.lt (h : BkI g w V own A n c) : g < V.heap.size := (Array.getElem?_eq_some_iff.1 h.x).1
theorem BkI.next (h : BkI g w V own A n c) (hb : Below V.heap.size V V') : BkI g w V' own A n c := ⟨h.b.trans (hb.mono (Nat.le_of_lt h.lt)), (hb.block g h.lt).trans h.x⟩
theorem BkI.alloc (h : BkI g w V own A n c) (o : Obj) : BkI g w (V.alloc o) own A n c := h.next ((Below.refl _ _).alloc (Nat.le_refl _) o)
theorem BkI.c0 (h : BkI g w V own A n c) : V.cell? ⟨g, 0, none⟩ = some (.int .i64 own) := by rw [cell_of_row _ _ 0 _ _ _ h.x]; rfl
theorem BkI.c1 (h : BkI g w V own A n c) : V.cell? ⟨g, 1, none⟩ = some (.slice A n c) := by rw [cell_of_row _ _ 1 _ _ _ h.x]; rfl
theorem BkI.setRow (h : BkI g w V own A n c) {k : Nat} (hk : g < k) (cs : Array Value) : BkI g w (V.setRow k cs) own A n c := ⟨below_setRow h.b (Nat.le_of_lt hk) cs, (setRow_other _ _ _ _ (by omega)).trans h.x⟩
theorem BkI.put (h : BkI g w V own A n c) (cs : Array Value) : (V.setRow g cs).heap[g]? = some (.cells cs 27 (0, 0)) := setRow_heap _ _ _ _ _ _ h.x
theorem BkI.le (h : BkI g w V own A n c) {B : Nat} (hB : B ≤ g) : B ≤ V.heap.size := Nat.le_trans hB (Nat.le_of_lt h.lt)
end
/-- Apply, with what is kept. -/
theorem apply_k (own : Int) (A : Option Addr) (n c B : Nat) (rs : List Rw) (kind : Int) (f : ByteArray) (d : Int) (w : World) (hr : RowsR w B A n rs) (hB : B ≤ w.heap.size) (hn : n ≤ 9223372036854775807) (hfs : f.size ≤ 9223372036854775807) (m : PM) (e0 : Nat) (ha : applyP (own, rs.map Rw.p) (kind, f, d) = (m, e0)) :
    Calls Try.prog 21 #[.agg #[.int .i64 own, .slice A n c], .agg #[.int .i64 kind, .string f, .int .i64 d]] w fun e w' => ∃ A' n' c' rs', e = .returned (.tuple #[.agg #[.int .i64 m.1, .slice A' n' c'], .int .i64 (e0 : Int)]) ∧ KeepR w.heap.size w' A' n' rs' ∧ rs'.map Rw.p = m.2 ∧ n' ≤ 8 ∧ Below w.heap.size w w' := by
  have h := apply_v own A n c B rs kind f d w hr hB hn hfs
  rw [ha] at h
  refine h.mono ?_
  rintro e w' ⟨A', n', c', rs', h1, _, h2, h3, _, h4, _, h5⟩
  exact ⟨A', n', c', rs', h1, h2, h3, h4, h5⟩
theorem same_of {m x : PM} (hm : chkM m = 0) (h : x = m) : sameM x m = true := by
  subst h
  unfold sameM
  rw [hm]
  simp
set_option maxRecDepth 100000 in
set_option maxHeartbeats 16000000 in
theorem back_v (own : Int) (A A2 : Option Addr) (n c n2 c2 B : Nat) (rs : List Rw) (ms : List Mx) (f : ByteArray) (d : Int) (w : World) (hr : RowsR w B A n rs) (hrm : MatsR w B A2 n2 ms) (hB : B ≤ w.heap.size) (hn : n ≤ 9223372036854775807) (hn2 : n2 ≤ 9223372036854775807) (hfs : f.size ≤ 9223372036854775807) :
    Calls Try.prog 6 #[.agg #[.int .i64 own, .slice A n c], .slice A2 n2 c2, .string f, .int .i64 d] w fun e w' => e = .returned (.bool true) ∧ Below w.heap.size w w' := by
  have HIM := Lib.hid (show (Try.prog.info? 27).map (·.size) = some 2 by kernel_rfl)
  have HR := Lib.hid hr
  have HM := Lib.hid hrm
  have HML := Lib.hid hrm.len
  have HP := Lib.hid (partsU_ok (ms.map Mx.p) f)
  have G0 := Lib.hid (BkI.start w own A n c)
  clear hr hrm
  go_enter Try.func6, Try.ntmps6
  go_upto_region 1 with fail
  generalize w.alloc (.cells #[.int .i64 own, .slice A n c] 27) = w0 at *
  generalize hg : w.heap.size = g at *
  have HG := Lib.hid hg
  clear hg
  go_wp2_with fail
  refine (lives_v w0).mono ?_
  rintro e w1 ⟨rfl, b1⟩
  have G1 := Lib.hid (G0.out.next b1)
  clear b1 G0
  have c0 := G1.out.c0
  have c1 := G1.out.c1
  go_wp2_with fail
  have LV := light_v own A n c B 40 rs w1 (HR.out.below (G1.out.b.mono hB)) (G1.out.le hB) hn (by omega)
  cases hl : lightM rs 40 with
  | false =>
    rw [hl] at LV
    refine LV.mono ?_
    rintro e w2 ⟨rfl, b2⟩
    have G2 := Lib.hid (G1.out.next b2)
    clear b2 LV hl c0 c1 G1
    go_wp2_with fail
    go_ret
    exact ⟨rfl, HG.out ▸ G2.out.b⟩
  | true =>
  rw [hl] at LV
  refine LV.mono ?_
  rintro e w2 ⟨rfl, b2⟩
  have G2 := Lib.hid (G1.out.next b2)
  clear b2 LV hl c0 c1 G1
  by_cases hf40 : f.size ≤ 40
  case neg =>
    go_wp2_with fail
    go_ret
    exact ⟨rfl, HG.out ▸ G2.out.b⟩
  by_cases h20 : n2 ≤ 20
  case neg =>
    go_wp2_with fail
    go_ret
    exact ⟨rfl, HG.out ▸ G2.out.b⟩
  go_wp2_with fail
  go_loopw [9] (fun i V => ∃ k : Nat, k ≤ n2 ∧ i = .int .i64 (k : Int) ∧ BkI g w V own A n c) (fun i _ => n2 - (intOf i).toNat)
  case atStart => exact ⟨0, Nat.zero_le _, rfl, G2.out⟩
  case round =>
    obtain ⟨k, hk, rfl, hG⟩ := hrel
    have G3 := Lib.hid hG
    clear hG G2
    by_cases hlt : k < n2
    · obtain ⟨ad, ow, a, m, q, ri, rfl, hx, hrr, hm, hcs, hc⟩ := HM.out.at_ hlt
      have HCS := Lib.hid (hcs wr (G3.out.b.mono hB))
      have LV := light_v ow a m q B 40 ri wr (hrr.below (G3.out.b.mono hB)) (G3.out.le hB) hm (by omega)
      clear hx hrr hcs hc
      go_wp2_with (first
        | (refine wpList_load_slot rfl 27 (.tmp 46) rfl (ad.add (k * 2)) rfl [.int .i64 ow, .slice a m q] _ HCS.out Try.underlying27 rfl HIM.out ?_)
        | fail)
      cases hl : lightM ri 40 with
      | false =>
        rw [hl] at LV
        refine LV.mono ?_
        rintro e w2 ⟨rfl, b2⟩
        have G4 := Lib.hid (G3.out.next b2)
        clear b2 LV hl G3 HCS
        go_wp2_with fail
        go_ret
        exact ⟨rfl, HG.out ▸ G4.out.b⟩
      | true =>
        rw [hl] at LV
        refine LV.mono ?_
        rintro e w2 ⟨rfl, b2⟩
        have G4 := Lib.hid (G3.out.next b2)
        clear b2 LV hl G3 HCS
        go_wp2_with fail
        go_roundw
        case rel => exact ⟨k + 1, hlt, by go_num, G4.out⟩
        case measure => simp [intOf]; omega
    · obtain rfl : n2 = k := by omega
      clear hlt
      have c0 := G3.out.c0
      have c1 := G3.out.c1
      obtain ⟨⟨⟨o4, l4⟩, e4⟩, hap4⟩ : ∃ r, applyP (own, rs.map Rw.p) (3, f, d) = r := ⟨_, rfl⟩
      have AV := apply_k own A n c B rs 3 f d wr (HR.out.below (G3.out.b.mono hB)) (G3.out.le hB) hn hfs (o4, l4) e4 hap4
      have HA4 := Lib.hid hap4
      clear hap4
      go_wp2_with fail
      refine AV.mono ?_
      rintro e w4 ⟨A4, n4, c4, rs4, rfl, hk4, hp4, hn4, b4⟩
      have G4 := Lib.hid (G3.out.next b4)
      have K4 := Lib.hid hk4
      have HP4 := Lib.hid hp4
      have hz4 := b4.size
      clear AV b4 hk4 hp4 c0 c1 G3
      go_upto_region 11 with fail
      have G5 := Lib.hid (G4.out.alloc (.cells #[.int .i64 o4, .slice A4 n4 c4] 27))
      have X5 := Lib.hid (BkI.start w4 o4 A4 n4 c4)
      have K5 := Lib.hid (K4.out.up (V' := w4.alloc (.cells #[.int .i64 o4, .slice A4 n4 c4] 27)) (Nat.le_refl _) X5.out.b.size (fun j _ h => X5.out.b.block j h))
      have hz5 := X5.out.lt
      have hg5 := G4.out.lt
      clear K4 G4
      generalize w4.alloc (.cells #[.int .i64 o4, .slice A4 n4 c4] 27) = w5 at *
      generalize w4.heap.size = g5 at *
      go_upto_if 59 with fail
      go_cut [12, 13] from 60 (fun _ _ wx => Below w5.heap.size w5 wx)
      case first =>
        by_cases he : e4 = 0
        case neg =>
          have d1 : ((e4 : Int) == 0) = false := beq_eq_false_iff_ne.2 (by omega)
          clear he
          go_wp2_with fail
          go_meet
          exact Below.refl _ _
        subst he
        have d1 : (((0 : Nat) : Int) == 0) = true := rfl
        have c0 := X5.out.c0
        have c1 := X5.out.c1
        have HB5 := Lib.hid (back_share HA4.out)
        have HV5 := Lib.hid (apply_valid HA4.out)
        have HK5 := Lib.hid (apply_own HA4.out).1
        have HS5 := Lib.hid (share_between HA4.out)
        have AV := apply_k o4 A4 n4 c4 w5.heap.size rs4 4 f d w5 K5.out.rows (Nat.le_refl _) (by omega) hfs (own, rs.map Rw.p) 0 (by rw [HP4.out]; exact HB5.out)
        go_wp2_with fail
        refine AV.mono ?_
        rintro e w6 ⟨A6, n6, c6, rs6, rfl, hk6, hp6, hn6, b6⟩
        have B6 := Lib.hid b6
        have K6 := Lib.hid hk6
        have HP6 := Lib.hid hp6
        have hz6 := b6.size
        clear AV b6 hk6 hp6 c0 c1
        go_upto_region 13 with fail
        have Y7 := Lib.hid (BkI.start w6 own A6 n6 c6)
        have B7 := Lib.hid (B6.out.trans (Y7.out.b.mono hz6))
        have K7 := Lib.hid (K6.out.up (V' := w6.alloc (.cells #[.int .i64 own, .slice A6 n6 c6] 27)) (Nat.le_refl _) Y7.out.b.size (fun j _ h => Y7.out.b.block j h))
        have hz7 := Y7.out.lt
        clear K6 B6
        generalize w6.alloc (.cells #[.int .i64 own, .slice A6 n6 c6] 27) = w7 at *
        generalize w6.heap.size = g7 at *
        have d2 : (((0 : Nat) : Int) != 0) = false := rfl
        have c0 := Y7.out.c0
        have c1 := Y7.out.c1
        have G7 := Lib.hid (G5.out.next B7.out)
        have X7 := Lib.hid (X5.out.next B7.out)
        have c2 := G7.out.c0
        have c3 := G7.out.c1
        have SV := same_v own own A6 A n6 c6 n c w7.heap.size rs6 rs w7 K7.out.rows ((HR.out.below (G7.out.b.mono hB)).more (G7.out.le hB)) (Nat.le_refl _) (by omega) hn
        rw [HP6.out, same_of HK5.out rfl] at SV
        go_wp2_with fail
        refine SV.mono ?_
        rintro e w8 ⟨rfl, b8⟩
        have B8 := Lib.hid (B7.out.trans (b8.mono B7.out.size))
        have X8 := Lib.hid (X7.out.next b8)
        have c0 := X8.out.c0
        have c1 := X8.out.c1
        have CV := check_v o4 A4 n4 c4 w5.heap.size rs4 w8 (K5.out.rows.below B8.out) B8.out.size (by omega)
        rw [HP4.out, HV5.out] at CV
        clear b8 SV
        go_wp2_with fail
        refine CV.mono ?_
        rintro e w9 ⟨rfl, b9⟩
        have B9 := Lib.hid (B8.out.trans (b9.mono B8.out.size))
        have X9 := Lib.hid (X8.out.next b9)
        have c0 := X9.out.c0
        have c1 := X9.out.c1
        have SV := shares_v o4 A4 n4 c4 w5.heap.size rs4 f d w9 (K5.out.rows.below B9.out) B9.out.size (by omega)
        rw [HP4.out, HS5.out.1] at SV
        clear b9 CV
        go_wp2_with fail
        refine SV.mono ?_
        rintro e wa ⟨rfl, ba⟩
        have Ba := Lib.hid (B9.out.trans (ba.mono B9.out.size))
        have Ga := Lib.hid (G5.out.next Ba.out)
        have c0 := Ga.out.c0
        have c1 := Ga.out.c1
        have SV := shares_v own A n c B rs f d wa (HR.out.below (Ga.out.b.mono hB)) (Ga.out.le hB) hn
        rw [HS5.out.2] at SV
        clear ba
        go_wp2_with fail
        refine SV.mono ?_
        rintro e wb ⟨rfl, bb⟩
        have Bb := Lib.hid (Ba.out.trans (bb.mono Ba.out.size))
        clear bb SV c0 c1
        go_wp2_with fail
        go_meet
        exact Bb.out
      case rest =>
        have Gc := Lib.hid (G5.out.next hcut)
        have Xc := Lib.hid (X5.out.next hcut)
        have hz6 := hcut.size
        have c0 := Gc.out.c0
        have c1 := Gc.out.c1
        clear hcut G5 X5 K5 HA4
        generalize w5.heap.size = z5 at *
        obtain ⟨⟨⟨o6, l6⟩, e6⟩, hap6⟩ : ∃ r, applyP (own, rs.map Rw.p) (1, f, 0) = r := ⟨_, rfl⟩
        have AV := apply_k own A n c B rs 1 f 0 wc (HR.out.below (Gc.out.b.mono hB)) (Gc.out.le hB) hn hfs (o6, l6) e6 hap6
        have HA6 := Lib.hid hap6
        clear hap6
        go_wp2_with fail
        refine AV.mono ?_
        rintro e w6 ⟨A6, n6, c6, rs6, rfl, hk6, hp6, hn6, b6⟩
        have G6 := Lib.hid (Gc.out.next b6)
        have X6 := Lib.hid (Xc.out.next b6)
        have K6 := Lib.hid hk6
        have HP6 := Lib.hid hp6
        have hz7 := b6.size
        have hgc := Xc.out.lt
        clear AV b6 hk6 hp6 c0 c1 Gc Xc
        go_upto_region 16 with (first
          | (refine wpList_store_row rfl 27 (.tmp 10) (.tmp 99) rfl g5 #[.int .i64 o6, .slice A6 n6 c6] rfl rfl 27 _ X6.out.x HIM.out rfl (by simp [Value.oneCell']) ?_)
          | fail)
        have G7 := Lib.hid (G6.out.setRow (show g < g5 by omega) #[.int .i64 o6, .slice A6 n6 c6])
        have X7 := Lib.hid (show BkI g5 (w6.setRow g5 #[.int .i64 o6, .slice A6 n6 c6]) (w6.setRow g5 #[.int .i64 o6, .slice A6 n6 c6]) o6 A6 n6 c6 from ⟨Below.refl _ _, X6.out.put _⟩)
        have hz8 : (w6.setRow g5 #[.int .i64 o6, .slice A6 n6 c6]).heap.size = w6.heap.size := by simp [World.setRow]
        have K7 := Lib.hid (K6.out.up (b' := wc.heap.size) (V' := w6.setRow g5 #[.int .i64 o6, .slice A6 n6 c6]) (Nat.le_refl _) (Nat.le_of_eq hz8.symm) (fun j h1 _ => setRow_other _ _ _ _ (by omega)))
        have hz9 : w6.heap.size ≤ (w6.setRow g5 #[.int .i64 o6, .slice A6 n6 c6]).heap.size := Nat.le_of_eq hz8.symm
        clear G6 X6 K6 hz8
        generalize w6.setRow g5 #[.int .i64 o6, .slice A6 n6 c6] = w7 at *
        go_upto_if 102 with fail
        go_cut [14, 15] from 103 (fun _ _ wx => Below w7.heap.size w7 wx)
        case first =>
          by_cases he : e6 = 0
          case neg =>
            have d1 : ((e6 : Int) == 0) = false := beq_eq_false_iff_ne.2 (by omega)
            clear he
            go_wp2_with fail
            go_meet
            exact Below.refl _ _
          subst he
          have d1 : (((0 : Nat) : Int) == 0) = true := rfl
          have c0 := X7.out.c0
          have c1 := X7.out.c1
          have HB5 := Lib.hid (back_add HA6.out)
          have HV5 := Lib.hid (apply_valid HA6.out)
          have HK5 := Lib.hid (apply_own HA6.out).1
          have AV := apply_k o6 A6 n6 c6 w7.heap.size rs6 2 f 0 w7 K7.out.rows (Nat.le_refl _) (by omega) hfs (own, rs.map Rw.p) 0 (by rw [HP6.out]; exact HB5.out.1)
          go_wp2_with fail
          refine AV.mono ?_
          rintro e w8 ⟨A8, n8, c8, rs8, rfl, hk8, hp8, hn8, b8⟩
          have B8 := Lib.hid b8
          have K8 := Lib.hid hk8
          have HP8 := Lib.hid hp8
          have hza := b8.size
          clear AV b8 hk8 hp8 c0 c1
          go_upto_region 18 with fail
          have Y9 := Lib.hid (BkI.start w8 own A8 n8 c8)
          have B9 := Lib.hid (B8.out.trans (Y9.out.b.mono hza))
          have K9 := Lib.hid (K8.out.up (V' := w8.alloc (.cells #[.int .i64 own, .slice A8 n8 c8] 27)) (Nat.le_refl _) Y9.out.b.size (fun j _ h => Y9.out.b.block j h))
          have hzb := Y9.out.lt
          clear K8 B8
          generalize w8.alloc (.cells #[.int .i64 own, .slice A8 n8 c8] 27) = w9 at *
          generalize w8.heap.size = g9 at *
          have d2 : (((0 : Nat) : Int) != 0) = false := rfl
          have c0 := Y9.out.c0
          have c1 := Y9.out.c1
          have G9 := Lib.hid (G7.out.next B9.out)
          have X9 := Lib.hid (X7.out.next B9.out)
          have c2 := G9.out.c0
          have c3 := G9.out.c1
          have SV := same_v own own A8 A n8 c8 n c w9.heap.size rs8 rs w9 K9.out.rows ((HR.out.below (G9.out.b.mono hB)).more (G9.out.le hB)) (Nat.le_refl _) (by omega) hn
          rw [HP8.out, same_of HK5.out rfl] at SV
          go_wp2_with fail
          refine SV.mono ?_
          rintro e wa ⟨rfl, ba⟩
          have Ba := Lib.hid (B9.out.trans (ba.mono B9.out.size))
          have Xa := Lib.hid (X9.out.next ba)
          have c0 := Xa.out.c0
          have c1 := Xa.out.c1
          have CV := check_v o6 A6 n6 c6 w7.heap.size rs6 wa (K7.out.rows.below Ba.out) Ba.out.size (by omega)
          rw [HP6.out, HV5.out] at CV
          clear ba SV
          go_wp2_with fail
          refine CV.mono ?_
          rintro e wb ⟨rfl, bb⟩
          have Bb := Lib.hid (Ba.out.trans (bb.mono Ba.out.size))
          have Xb := Lib.hid (Xa.out.next bb)
          have c0 := Xb.out.c0
          have c1 := Xb.out.c1
          have SV := has_v o6 A6 n6 c6 w7.heap.size rs6 f wb (K7.out.rows.below Bb.out) Bb.out.size (by omega)
          rw [HP6.out, HB5.out.2.1] at SV
          clear bb CV
          go_wp2_with fail
          refine SV.mono ?_
          rintro e wd ⟨rfl, bd⟩
          have Bd := Lib.hid (Bb.out.trans (bd.mono Bb.out.size))
          have Gd := Lib.hid (G7.out.next Bd.out)
          have c0 := Gd.out.c0
          have c1 := Gd.out.c1
          have SV := has_v own A n c B rs f wd (HR.out.below (Gd.out.b.mono hB)) (Gd.out.le hB) hn
          rw [HB5.out.2.2] at SV
          clear bd
          go_wp2_with fail
          refine SV.mono ?_
          rintro e we ⟨rfl, be⟩
          have Be := Lib.hid (Bd.out.trans (be.mono Bd.out.size))
          clear be SV c0 c1
          go_wp2_with fail
          go_meet
          exact Be.out
        case rest =>
          have Gd := Lib.hid (G7.out.next hcut)
          clear hcut G7 X7 K7 HA6
          have PV := parts_v A2 n2 c2 B ms f wc (HM.out.below (Gd.out.b.mono hB)) (Gd.out.le hB) hn2
          go_wp2_with fail
          refine PV.mono ?_
          rintro e w8 ⟨A8, n8, c8, ls, rfl, ⟨base, _, ho⟩, hls, hn8, hl17, b8⟩
          have G8 := Lib.hid (Gd.out.next b8)
          have L8 := Lib.hid (ho.reads fun l hl => Nat.le_trans (hl17 l hl) (by omega))
          have H17 := Lib.hid hl17
          have HLS := Lib.hid hls
          clear ho hls hl17 b8 PV Gd
          have HLN := Lib.hid L8.out.len
          go_upto_region 22 with fail
          have V9 := Lib.hid (show VArr 50 (w8.alloc (.cells #[.int .i64 0, .int .i64 0, .int .i64 0, .int .i64 0, .int .i64 0, .int .i64 0, .int .i64 0, .int .i64 0, .int .i64 0, .int .i64 0, .int .i64 0, .int .i64 0, .int .i64 0, .int .i64 0, .int .i64 0, .int .i64 0, .int .i64 0] 50)) w8.heap.size ((List.replicate 17 0).map fun x : Nat => Value.int .i64 (x : Int)) from heap_alloc_new w8 _)
          have B9 := Lib.hid ((Below.refl w8.heap.size w8).alloc (Nat.le_refl _) (.cells #[.int .i64 0, .int .i64 0, .int .i64 0, .int .i64 0, .int .i64 0, .int .i64 0, .int .i64 0, .int .i64 0, .int .i64 0, .int .i64 0, .int .i64 0, .int .i64 0, .int .i64 0, .int .i64 0, .int .i64 0, .int .i64 0, .int .i64 0] 50))
          generalize w8.alloc (.cells #[.int .i64 0, .int .i64 0, .int .i64 0, .int .i64 0, .int .i64 0, .int .i64 0, .int .i64 0, .int .i64 0, .int .i64 0, .int .i64 0, .int .i64 0, .int .i64 0, .int .i64 0, .int .i64 0, .int .i64 0, .int .i64 0, .int .i64 0] 50) = w9 at *
          have hg8 := G8.out.lt
          have HSZ := Lib.hid (show ∀ V : World, Below w8.heap.size w8 V → w8.heap.size ≤ V.heap.size from fun V h => h.size)
          have HGB := Lib.hid (show ∀ V : World, Below w8.heap.size w8 V → Below g w V from fun V h => G8.out.b.trans (h.mono (Nat.le_of_lt hg8)))
          clear G8
          generalize w8.heap.size = g8 at *
          have hBg : B ≤ g8 := by omega
          go_wp2_with fail
          go_loopw [18, 19, 20] (fun i _ _ V => ∃ (k : Nat) (ins : List Nat), k ≤ n8 ∧ i = .int .i64 (k : Int) ∧ Below g8 w8 V ∧ VArr 50 V g8 (ins.map fun x : Nat => Value.int .i64 (x : Int)) ∧ InOk (partsU (ms.map Mx.p) f) k 0 ins) (fun i _ _ _ => n8 - (intOf i).toNat)
          case atStart => exact ⟨0, _, Nat.zero_le _, rfl, B9.out, V9.out, InOk.start _⟩
          case round =>
            obtain ⟨k, ins, hk, rfl, hb, hv, hi⟩ := hrel
            have HB := Lib.hid hb
            have HV := Lib.hid hv
            have HI := Lib.hid hi
            clear hb hv hi V9 B9
            by_cases hlt : k < n8
            · obtain ⟨ad, a, m, q, ds, rfl, hx, ⟨hri, hm⟩, hc⟩ := L8.out.at_ hlt
              have hm17 : m ≤ 17 := H17.out _ (List.mem_of_getElem? hx)
              have HX := Lib.hid (show (partsU (ms.map Mx.p) f)[k]? = some ds by rw [← HLS.out, List.getElem?_map, hx]; rfl)
              have HRI := Lib.hid hri
              have HDL := Lib.hid hri.len
              have HC := Lib.hid hc
              clear hx hri hc
              go_wp2_with fail
              go_loopw [19, 20] (fun j _ V => ∃ (s : Nat) (ins : List Nat), s ≤ m ∧ j = .int .i64 (s : Int) ∧ Below g8 w8 V ∧ VArr 50 V g8 (ins.map fun x : Nat => Value.int .i64 (x : Int)) ∧ InOk (partsU (ms.map Mx.p) f) k s ins) (fun j _ _ => m - (intOf j).toNat)
              case atStart => exact ⟨0, ins, Nat.zero_le _, rfl, HB.out, HV.out, HI.out⟩
              case round =>
                obtain ⟨s, ins2, hs, rfl, hb, hv, hi⟩ := hrel
                have HB2 := Lib.hid hb
                have HV2 := Lib.hid hv
                have HI2 := Lib.hid hi
                clear hb hv hi HB HV HI
                have c0 := HC.out wr HB2.out
                by_cases hlt2 : s < m
                · obtain ⟨ad2, d2, rfl, hd2, hcd⟩ := HRI.out.at_ hlt2
                  have c1 := hcd wr HB2.out
                  obtain ⟨y, rfl, hy1, hy16, hy0, hi2⟩ := HI2.out.step HP.out HX.out hd2
                  have HI3 := Lib.hid hi2
                  have c2 : wr.cell? ⟨g8, y, none⟩ = some (.int .i64 0) := HV2.out.cell (by rw [List.getElem?_map, hy0]; rfl)
                  have f2 := HV2.out.frozen y
                  have HV3 := Lib.hid (show VArr 50 (wr.setCell ⟨g8, y, none⟩ (.int .i64 ((k : Int) + 1))) g8 ((ins2.set y (k + 1)).map fun x : Nat => Value.int .i64 (x : Int)) from by
                    have h := HV2.out.set_ y (.int .i64 ((k : Int) + 1))
                    rw [List.map_set]
                    exact h)
                  have HB3 := Lib.hid (HB2.out.setCell (p := ⟨g8, y, none⟩) (Nat.le_refl _) (.int .i64 ((k : Int) + 1)))
                  clear hd2 hcd hy0 hi2 HB2 HV2 HI2
                  go_wp2_with fail
                  go_roundw
                  case rel => exact ⟨s + 1, _, hlt2, by go_num, HB3.out, HV3.out, HI3.out⟩
                  case measure => simp [intOf]; omega
                · obtain rfl : s = m := by omega
                  have HN := Lib.hid (InOk.next (HDL.out.symm ▸ HI2.out) HX.out)
                  clear hlt2
                  go_wp2_with fail
                  go_roundw
                  case rel => exact ⟨k + 1, ins2, hlt, by go_num, HB2.out, HV2.out, HN.out⟩
                  case measure => simp [intOf]; omega
            · obtain rfl : k = n8 := by omega
              clear hlt
              have HPL := Lib.hid (show (partsU (ms.map Mx.p) f).length = k by rw [← HLS.out, List.length_map]; exact HLN.out)
              go_wp2_with fail
              go_loopw [21, 22] (fun i _ V => ∃ k : Nat, k ≤ n2 ∧ i = .int .i64 (k : Int) ∧ Below g8 w8 V ∧ VArr 50 V g8 (ins.map fun x : Nat => Value.int .i64 (x : Int))) (fun i _ _ => n2 - (intOf i).toNat)
              case atStart => exact ⟨0, Nat.zero_le _, rfl, HB.out, HV.out⟩
              case round =>
                obtain ⟨i, hi, rfl, hb, hv⟩ := hrel
                have HB2 := Lib.hid hb
                have HV2 := Lib.hid hv
                clear hb hv HB HV
                by_cases hlt : i < n2
                · go_wp2_with fail
                  go_loopw [22] (fun j V => ∃ k : Nat, k ≤ n2 ∧ j = .int .i64 (k : Int) ∧ Below g8 w8 V ∧ VArr 50 V g8 (ins.map fun x : Nat => Value.int .i64 (x : Int))) (fun j _ => n2 - (intOf j).toNat)
                  case atStart => exact ⟨0, Nat.zero_le _, rfl, HB2.out, HV2.out⟩
                  case round =>
                    obtain ⟨k, hk, rfl, hb, hv⟩ := hrel
                    have HB3 := Lib.hid hb
                    have HV3 := Lib.hid hv
                    clear hb hv HB2 HV2
                    by_cases hlt2 : k < n2
                    · obtain ⟨adi, oi, ai, mi, qi, ri, rfl, hxi, hri, hmi, hcsi, hci⟩ := HM.out.at_ hlt
                      obtain ⟨adk, ok, ak, mk, qk, rk, hA, hxk, hrk, hmk, hcsk, hck⟩ := HM.out.at_ hlt2
                      obtain rfl := Option.some.inj hA
                      have i0 : (0 : Int) ≤ (i : Int) := by omega
                      have i1 : (i : Int) < (n2 : Int) := by omega
                      have k0 : (0 : Int) ≤ (k : Int) := by omega
                      have k1 : (k : Int) < (n2 : Int) := by omega
                      have HXI := Lib.hid (show (ms.map Mx.p)[i]? = some (oi, ri.map Rw.p) by rw [List.getElem?_map, hxi]; rfl)
                      have HXK := Lib.hid (show (ms.map Mx.p)[k]? = some (ok, rk.map Rw.p) by rw [List.getElem?_map, hxk]; rfl)
                      have HRI := Lib.hid hri
                      have HRK := Lib.hid hrk
                      have D0 := Lib.hid HB3.out.drew
                      have DV := Lib.hid (show VArr 50 wr.drew g8 (ins.map fun x : Nat => Value.int .i64 (x : Int)) from HV3.out)
                      have HCI := Lib.hid (show ∀ V, Below g8 w8 V → V.cell? (adi.add (i * 2)) = some (.int .i64 oi) ∧ V.cell? ⟨(adi.add (i * 2)).block, (adi.add (i * 2)).off + 1, none⟩ = some (.slice ai mi qi) from fun V h => ⟨hci V ((HGB.out V h).mono hB), hcsi V ((HGB.out V h).mono hB) 1 _ rfl⟩)
                      have HCK := Lib.hid (show ∀ V, Below g8 w8 V → V.cell? (adi.add (k * 2)) = some (.int .i64 ok) ∧ V.cell? ⟨(adi.add (k * 2)).block, (adi.add (k * 2)).off + 1, none⟩ = some (.slice ak mk qk) from fun V h => ⟨hck V ((HGB.out V h).mono hB), hcsk V ((HGB.out V h).mono hB) 1 _ rfl⟩)
                      clear hxi hri hcsi hci hxk hrk hcsk hck HB3 HV3
                      go_upto_region 38 with fail
                      cases hfi : firstP (ms.map Mx.p) i with
                      | false =>
                        have HFI := Lib.hid hfi
                        clear hfi
                        refine wp_region_text [(0, false), (1, false), (2, true), (3, false), (4, false), (5, false), (6, true), (7, false), (8, false), (9, false), (10, false), (11, false), (12, false), (13, false), (14, false), (15, false), (16, false), (17, false), (18, true), (19, false), (20, false), (21, false), (22, false), (23, false), (24, false), (25, false), (26, false), (27, false), (28, false), (29, false), (30, false), (31, false), (32, false), (33, false), (34, false), (35, false), (36, false)] (fun V => V.cell? (adi.add (i * 2)) = some (.int .i64 oi) ∧ V.cell? (adi.add (k * 2)) = some (.int .i64 ok)) (by kernel_rfl) (by kernel_rfl) (by kernel_rfl) (by kernel_rfl) (by kernel_rfl) (fun _ => ?_)
                        simp only [outOf, List.getElem?_cons_zero, List.getElem?_cons_succ, Option.getD_some]
                        have hS : wr.drew.cell? (adi.add (i * 2)) = some (.int .i64 oi) ∧ wr.drew.cell? (adi.add (k * 2)) = some (.int .i64 ok) := ⟨(HCI.out _ D0.out).1, (HCK.out _ D0.out).1⟩
                        generalize wr.drew = w1 at *
                        iterate 2 ((first | (refine TW.val2 (v := ?_) ?_ ?_ ?_ ?_ ?_; rotate_left; (focus rfl); (focus (intro W hSW; (try dsimp only at hSW); (try (obtain ⟨hS1, hSW⟩ := hSW)); (try (obtain ⟨hS2, hSW⟩ := hSW)); (try (obtain ⟨hS3, hSW⟩ := hSW)); (try (obtain ⟨hS4, hSW⟩ := hSW)); (try (obtain ⟨hS5, hSW⟩ := hSW)); go_simp; (try with_reducible rfl); done)); (focus exact fun _ _ _ h => h); (focus assumption)) | (refine TW.skip (e := false) ?_ ?_ ?_ ?_; (focus rfl); (focus exact fun _ _ _ h => h); (focus assumption))); simp only [Act.put, List.setIfInBounds_toArray, List.set_cons_zero, List.set_cons_succ])
                        refine TW.eff (by rfl) (fun K hK => ?_); go_simp
                        have FV := first_v (some adi) n2 c2 B i ms w1 (HM.out.below ((HGB.out _ D0.out).mono hB)) (by have := (HSZ.out _ D0.out); omega) hlt (by omega)
                        rw [HFI.out] at FV
                        refine FV.mono ?_
                        rintro e wf ⟨rfl, b5⟩
                        have D1 := Lib.hid (D0.out.trans (b5.mono (HSZ.out _ D0.out)))
                        have DV1 := Lib.hid (DV.out.below b5)
                        have hS2 := (⟨keepc b5 hS.1, keepc b5 hS.2⟩ : wf.cell? (adi.add (i * 2)) = some (.int .i64 oi) ∧ wf.cell? (adi.add (k * 2)) = some (.int .i64 ok))
                        clear hS b5 D0 DV FV
                        go_wp2_with fail; refine hK.out _ _ hS2 ?_; clear hK; (try simp only [Act.put, List.setIfInBounds_toArray, List.set_cons_zero, List.set_cons_succ])
                        iterate 34 ((first | (refine TW.val2 (v := ?_) ?_ ?_ ?_ ?_ ?_; rotate_left; (focus rfl); (focus (intro W hSW; (try dsimp only at hSW); (try (obtain ⟨hS1, hSW⟩ := hSW)); (try (obtain ⟨hS2, hSW⟩ := hSW)); (try (obtain ⟨hS3, hSW⟩ := hSW)); (try (obtain ⟨hS4, hSW⟩ := hSW)); (try (obtain ⟨hS5, hSW⟩ := hSW)); go_simp; (try with_reducible rfl); done)); (focus exact fun _ _ _ h => h); (focus assumption)) | (refine TW.skip (e := false) ?_ ?_ ?_ ?_; (focus rfl); (focus exact fun _ _ _ h => h); (focus assumption)) | (refine TW.skip (e := true) ?_ ?_ ?_ ?_; (focus rfl); (focus exact fun _ _ _ h => h); (focus assumption))); simp only [Act.put, List.setIfInBounds_toArray, List.set_cons_zero, List.set_cons_succ])
                        refine TW.done ?_
                        clear hS2
                        go_wp2_with fail
                        go_roundw
                        case rel => exact ⟨k + 1, hlt2, by go_num, D1.out, DV1.out⟩
                        case measure => simp [intOf]; omega
                      | true =>
                      have HFI := Lib.hid hfi
                      clear hfi
                      cases hfk : firstP (ms.map Mx.p) k with
                      | false =>
                        have HFK := Lib.hid hfk
                        clear hfk
                        refine wp_region_text [(0, false), (1, false), (2, true), (3, false), (4, false), (5, false), (6, true), (7, false), (8, false), (9, false), (10, false), (11, false), (12, false), (13, false), (14, false), (15, false), (16, false), (17, false), (18, true), (19, false), (20, false), (21, false), (22, false), (23, false), (24, false), (25, false), (26, false), (27, false), (28, false), (29, false), (30, false), (31, false), (32, false), (33, false), (34, false), (35, false), (36, false)] (fun V => V.cell? (adi.add (i * 2)) = some (.int .i64 oi) ∧ V.cell? (adi.add (k * 2)) = some (.int .i64 ok)) (by kernel_rfl) (by kernel_rfl) (by kernel_rfl) (by kernel_rfl) (by kernel_rfl) (fun _ => ?_)
                        simp only [outOf, List.getElem?_cons_zero, List.getElem?_cons_succ, Option.getD_some]
                        have hS : wr.drew.cell? (adi.add (i * 2)) = some (.int .i64 oi) ∧ wr.drew.cell? (adi.add (k * 2)) = some (.int .i64 ok) := ⟨(HCI.out _ D0.out).1, (HCK.out _ D0.out).1⟩
                        generalize wr.drew = w1 at *
                        iterate 2 ((first | (refine TW.val2 (v := ?_) ?_ ?_ ?_ ?_ ?_; rotate_left; (focus rfl); (focus (intro W hSW; (try dsimp only at hSW); (try (obtain ⟨hS1, hSW⟩ := hSW)); (try (obtain ⟨hS2, hSW⟩ := hSW)); (try (obtain ⟨hS3, hSW⟩ := hSW)); (try (obtain ⟨hS4, hSW⟩ := hSW)); (try (obtain ⟨hS5, hSW⟩ := hSW)); go_simp; (try with_reducible rfl); done)); (focus exact fun _ _ _ h => h); (focus assumption)) | (refine TW.skip (e := false) ?_ ?_ ?_ ?_; (focus rfl); (focus exact fun _ _ _ h => h); (focus assumption))); simp only [Act.put, List.setIfInBounds_toArray, List.set_cons_zero, List.set_cons_succ])
                        refine TW.eff (by rfl) (fun K hK => ?_); go_simp
                        have FV := first_v (some adi) n2 c2 B i ms w1 (HM.out.below ((HGB.out _ D0.out).mono hB)) (by have := (HSZ.out _ D0.out); omega) hlt (by omega)
                        rw [HFI.out] at FV
                        refine FV.mono ?_
                        rintro e wf ⟨rfl, b5⟩
                        have D1 := Lib.hid (D0.out.trans (b5.mono (HSZ.out _ D0.out)))
                        have DV1 := Lib.hid (DV.out.below b5)
                        have hS2 := (⟨keepc b5 hS.1, keepc b5 hS.2⟩ : wf.cell? (adi.add (i * 2)) = some (.int .i64 oi) ∧ wf.cell? (adi.add (k * 2)) = some (.int .i64 ok))
                        clear hS b5 D0 DV FV
                        go_wp2_with fail; refine hK.out _ _ hS2 ?_; clear hK; (try simp only [Act.put, List.setIfInBounds_toArray, List.set_cons_zero, List.set_cons_succ])
                        iterate 3 ((first | (refine TW.val2 (v := ?_) ?_ ?_ ?_ ?_ ?_; rotate_left; (focus rfl); (focus (intro W hSW; (try dsimp only at hSW); (try (obtain ⟨hS1, hSW⟩ := hSW)); (try (obtain ⟨hS2, hSW⟩ := hSW)); (try (obtain ⟨hS3, hSW⟩ := hSW)); (try (obtain ⟨hS4, hSW⟩ := hSW)); (try (obtain ⟨hS5, hSW⟩ := hSW)); go_simp; (try with_reducible rfl); done)); (focus exact fun _ _ _ h => h); (focus assumption)) | (refine TW.skip (e := false) ?_ ?_ ?_ ?_; (focus rfl); (focus exact fun _ _ _ h => h); (focus assumption))); simp only [Act.put, List.setIfInBounds_toArray, List.set_cons_zero, List.set_cons_succ])
                        refine TW.eff (by rfl) (fun K hK => ?_); go_simp
                        have FV := first_v (some adi) n2 c2 B k ms wf (HM.out.below ((HGB.out _ D1.out).mono hB)) (by have := (HSZ.out _ D1.out); omega) hlt2 (by omega)
                        rw [HFK.out] at FV
                        refine FV.mono ?_
                        rintro e wg ⟨rfl, b5⟩
                        have D2 := Lib.hid (D1.out.trans (b5.mono (HSZ.out _ D1.out)))
                        have DV2 := Lib.hid (DV1.out.below b5)
                        have hS := (⟨keepc b5 hS2.1, keepc b5 hS2.2⟩ : wg.cell? (adi.add (i * 2)) = some (.int .i64 oi) ∧ wg.cell? (adi.add (k * 2)) = some (.int .i64 ok))
                        clear hS2 b5 D1 DV1 FV
                        go_wp2_with fail; refine hK.out _ _ hS ?_; clear hK; (try simp only [Act.put, List.setIfInBounds_toArray, List.set_cons_zero, List.set_cons_succ])
                        iterate 30 ((first | (refine TW.val2 (v := ?_) ?_ ?_ ?_ ?_ ?_; rotate_left; (focus rfl); (focus (intro W hSW; (try dsimp only at hSW); (try (obtain ⟨hS1, hSW⟩ := hSW)); (try (obtain ⟨hS2, hSW⟩ := hSW)); (try (obtain ⟨hS3, hSW⟩ := hSW)); (try (obtain ⟨hS4, hSW⟩ := hSW)); (try (obtain ⟨hS5, hSW⟩ := hSW)); go_simp; (try with_reducible rfl); done)); (focus exact fun _ _ _ h => h); (focus assumption)) | (refine TW.skip (e := false) ?_ ?_ ?_ ?_; (focus rfl); (focus exact fun _ _ _ h => h); (focus assumption)) | (refine TW.skip (e := true) ?_ ?_ ?_ ?_; (focus rfl); (focus exact fun _ _ _ h => h); (focus assumption))); simp only [Act.put, List.setIfInBounds_toArray, List.set_cons_zero, List.set_cons_succ])
                        refine TW.done ?_
                        clear hS
                        go_wp2_with fail
                        go_roundw
                        case rel => exact ⟨k + 1, hlt2, by go_num, D2.out, DV2.out⟩
                        case measure => simp [intOf]; omega
                      | true =>
                      have HFK := Lib.hid hfk
                      clear hfk
                      obtain ⟨x, e1, hx1, hx16, hkx, hox⟩ := first_of HXI.out HFI.out
                      obtain ⟨y, e2, hy1, hy16, hky, hoy⟩ := first_of HXK.out HFK.out
                      simp only at e1 e2
                      subst e1 e2
                      have x0 : (0 : Int) ≤ (x : Int) := by omega
                      have x1 : (x : Int) < 17 := by omega
                      have y0 : (0 : Int) ≤ (y : Int) := by omega
                      have y1 : (y : Int) < 17 := by omega
                      have hl17 : ins.length = 17 := HI.out.len
                      obtain ⟨zx, hzx⟩ : ∃ zx, ins[x]? = some zx := ⟨_, List.getElem?_eq_getElem (by omega)⟩
                      obtain ⟨zy, hzy⟩ : ∃ zy, ins[y]? = some zy := ⟨_, List.getElem?_eq_getElem (by omega)⟩
                      have HZ := Lib.hid (show bothP ((x : Int), ri.map Rw.p) ((y : Int), rk.map Rw.p) f = true → zx = zy from fun hb => by
                        obtain ⟨q, l, hq, hxl, hyl⟩ := same_part HXI.out HXK.out hox hoy hb
                        have hin : InOk (partsU (ms.map Mx.p) f) (partsU (ms.map Mx.p) f).length 0 ins := by rw [HPL.out]; exact HI.out
                        have h1 := hin.at_ HP.out hq hxl
                        have h2 := hin.at_ HP.out hq hyl
                        rw [hzx] at h1
                        rw [hzy] at h2
                        rw [Option.some.inj h1, Option.some.inj h2])
                      have HZX := Lib.hid hzx
                      have HZY := Lib.hid hzy
                      clear hzx hzy hkx hox hky hoy hl17
                      refine wp_region_text [(0, false), (1, false), (2, true), (3, false), (4, false), (5, false), (6, true), (7, false), (8, false), (9, false), (10, false), (11, false), (12, false), (13, false), (14, false), (15, false), (16, false), (17, false), (18, true), (19, false), (20, false), (21, false), (22, false), (23, false), (24, false), (25, false), (26, false), (27, false), (28, false), (29, false), (30, false), (31, false), (32, false), (33, false), (34, false), (35, false), (36, false)] (fun V => V.cell? (adi.add (i * 2)) = some (.int .i64 (x : Int)) ∧ V.cell? ⟨(adi.add (i * 2)).block, (adi.add (i * 2)).off + 1, none⟩ = some (.slice ai mi qi) ∧ V.cell? (adi.add (k * 2)) = some (.int .i64 (y : Int)) ∧ V.cell? ⟨(adi.add (k * 2)).block, (adi.add (k * 2)).off + 1, none⟩ = some (.slice ak mk qk) ∧ V.cell? ⟨g8, x, none⟩ = some (.int .i64 (zx : Int)) ∧ V.cell? ⟨g8, y, none⟩ = some (.int .i64 (zy : Int))) (by kernel_rfl) (by kernel_rfl) (by kernel_rfl) (by kernel_rfl) (by kernel_rfl) (fun _ => ?_)
                      simp only [outOf, List.getElem?_cons_zero, List.getElem?_cons_succ, Option.getD_some]
                      have hS : wr.drew.cell? (adi.add (i * 2)) = some (.int .i64 (x : Int)) ∧ wr.drew.cell? ⟨(adi.add (i * 2)).block, (adi.add (i * 2)).off + 1, none⟩ = some (.slice ai mi qi) ∧ wr.drew.cell? (adi.add (k * 2)) = some (.int .i64 (y : Int)) ∧ wr.drew.cell? ⟨(adi.add (k * 2)).block, (adi.add (k * 2)).off + 1, none⟩ = some (.slice ak mk qk) ∧ wr.drew.cell? ⟨g8, x, none⟩ = some (.int .i64 (zx : Int)) ∧ wr.drew.cell? ⟨g8, y, none⟩ = some (.int .i64 (zy : Int)) := ⟨(HCI.out _ D0.out).1, (HCI.out _ D0.out).2, (HCK.out _ D0.out).1, (HCK.out _ D0.out).2, DV.out.cell (by rw [List.getElem?_map, HZX.out]; rfl), DV.out.cell (by rw [List.getElem?_map, HZY.out]; rfl)⟩
                      generalize wr.drew = w1 at *
                      iterate 2 ((first | (refine TW.val2 (v := ?_) ?_ ?_ ?_ ?_ ?_; rotate_left; (focus rfl); (focus (intro W hSW; (try dsimp only at hSW); (try (obtain ⟨hS1, hSW⟩ := hSW)); (try (obtain ⟨hS2, hSW⟩ := hSW)); (try (obtain ⟨hS3, hSW⟩ := hSW)); (try (obtain ⟨hS4, hSW⟩ := hSW)); (try (obtain ⟨hS5, hSW⟩ := hSW)); go_simp; (try with_reducible rfl); done)); (focus exact fun _ _ _ h => h); (focus assumption)) | (refine TW.skip (e := false) ?_ ?_ ?_ ?_; (focus rfl); (focus exact fun _ _ _ h => h); (focus assumption))); simp only [Act.put, List.setIfInBounds_toArray, List.set_cons_zero, List.set_cons_succ])
                      refine TW.eff (by rfl) (fun K hK => ?_); go_simp
                      have FV := first_v (some adi) n2 c2 B i ms w1 (HM.out.below ((HGB.out _ D0.out).mono hB)) (by have := (HSZ.out _ D0.out); omega) hlt (by omega)
                      rw [HFI.out] at FV
                      refine FV.mono ?_
                      rintro e wf ⟨rfl, b5⟩
                      have D1 := Lib.hid (D0.out.trans (b5.mono (HSZ.out _ D0.out)))
                      have DV1 := Lib.hid (DV.out.below b5)
                      have hS2 := (⟨keepc b5 hS.1, keepc b5 hS.2.1, keepc b5 hS.2.2.1, keepc b5 hS.2.2.2.1, keepc b5 hS.2.2.2.2.1, keepc b5 hS.2.2.2.2.2⟩ : wf.cell? (adi.add (i * 2)) = some (.int .i64 (x : Int)) ∧ wf.cell? ⟨(adi.add (i * 2)).block, (adi.add (i * 2)).off + 1, none⟩ = some (.slice ai mi qi) ∧ wf.cell? (adi.add (k * 2)) = some (.int .i64 (y : Int)) ∧ wf.cell? ⟨(adi.add (k * 2)).block, (adi.add (k * 2)).off + 1, none⟩ = some (.slice ak mk qk) ∧ wf.cell? ⟨g8, x, none⟩ = some (.int .i64 (zx : Int)) ∧ wf.cell? ⟨g8, y, none⟩ = some (.int .i64 (zy : Int)))
                      clear hS b5 D0 DV FV
                      go_wp2_with fail; refine hK.out _ _ hS2 ?_; clear hK; (try simp only [Act.put, List.setIfInBounds_toArray, List.set_cons_zero, List.set_cons_succ])
                      iterate 3 ((first | (refine TW.val2 (v := ?_) ?_ ?_ ?_ ?_ ?_; rotate_left; (focus rfl); (focus (intro W hSW; (try dsimp only at hSW); (try (obtain ⟨hS1, hSW⟩ := hSW)); (try (obtain ⟨hS2, hSW⟩ := hSW)); (try (obtain ⟨hS3, hSW⟩ := hSW)); (try (obtain ⟨hS4, hSW⟩ := hSW)); (try (obtain ⟨hS5, hSW⟩ := hSW)); go_simp; (try with_reducible rfl); done)); (focus exact fun _ _ _ h => h); (focus assumption)) | (refine TW.skip (e := false) ?_ ?_ ?_ ?_; (focus rfl); (focus exact fun _ _ _ h => h); (focus assumption))); simp only [Act.put, List.setIfInBounds_toArray, List.set_cons_zero, List.set_cons_succ])
                      refine TW.eff (by rfl) (fun K hK => ?_); go_simp
                      have FV := first_v (some adi) n2 c2 B k ms wf (HM.out.below ((HGB.out _ D1.out).mono hB)) (by have := (HSZ.out _ D1.out); omega) hlt2 (by omega)
                      rw [HFK.out] at FV
                      refine FV.mono ?_
                      rintro e wg ⟨rfl, b5⟩
                      have D2 := Lib.hid (D1.out.trans (b5.mono (HSZ.out _ D1.out)))
                      have DV2 := Lib.hid (DV1.out.below b5)
                      have hS := (⟨keepc b5 hS2.1, keepc b5 hS2.2.1, keepc b5 hS2.2.2.1, keepc b5 hS2.2.2.2.1, keepc b5 hS2.2.2.2.2.1, keepc b5 hS2.2.2.2.2.2⟩ : wg.cell? (adi.add (i * 2)) = some (.int .i64 (x : Int)) ∧ wg.cell? ⟨(adi.add (i * 2)).block, (adi.add (i * 2)).off + 1, none⟩ = some (.slice ai mi qi) ∧ wg.cell? (adi.add (k * 2)) = some (.int .i64 (y : Int)) ∧ wg.cell? ⟨(adi.add (k * 2)).block, (adi.add (k * 2)).off + 1, none⟩ = some (.slice ak mk qk) ∧ wg.cell? ⟨g8, x, none⟩ = some (.int .i64 (zx : Int)) ∧ wg.cell? ⟨g8, y, none⟩ = some (.int .i64 (zy : Int)))
                      clear hS2 b5 D1 DV1 FV
                      go_wp2_with fail; refine hK.out _ _ hS ?_; clear hK; (try simp only [Act.put, List.setIfInBounds_toArray, List.set_cons_zero, List.set_cons_succ])
                      iterate 11 ((first | (refine TW.val2 (v := ?_) ?_ ?_ ?_ ?_ ?_; rotate_left; (focus rfl); (focus (intro W hSW; (try dsimp only at hSW); (try (obtain ⟨hS1, hSW⟩ := hSW)); (try (obtain ⟨hS2, hSW⟩ := hSW)); (try (obtain ⟨hS3, hSW⟩ := hSW)); (try (obtain ⟨hS4, hSW⟩ := hSW)); (try (obtain ⟨hS5, hSW⟩ := hSW)); go_simp; (try with_reducible rfl); done)); (focus exact fun _ _ _ h => h); (focus assumption)) | (refine TW.skip (e := false) ?_ ?_ ?_ ?_; (focus rfl); (focus exact fun _ _ _ h => h); (focus assumption))); simp only [Act.put, List.setIfInBounds_toArray, List.set_cons_zero, List.set_cons_succ])
                      refine TW.eff (by rfl) (fun K hK => ?_); go_simp
                      have BV := both_v (x : Int) (y : Int) ai ak mi qi mk qk B ri rk f wg (HRI.out.below ((HGB.out _ D2.out).mono hB)) (HRK.out.below ((HGB.out _ D2.out).mono hB)) (by have := (HSZ.out _ D2.out); omega) hmi hmk
                      cases hbo : bothP ((x : Int), ri.map Rw.p) ((y : Int), rk.map Rw.p) f with
                      | false =>
                        rw [hbo] at BV
                        clear hbo
                        refine BV.mono ?_
                        rintro e wh ⟨rfl, b5⟩
                        have D3 := Lib.hid (D2.out.trans (b5.mono (HSZ.out _ D2.out)))
                        have DV3 := Lib.hid (DV2.out.below b5)
                        have hS2 := (⟨keepc b5 hS.1, keepc b5 hS.2.1, keepc b5 hS.2.2.1, keepc b5 hS.2.2.2.1, keepc b5 hS.2.2.2.2.1, keepc b5 hS.2.2.2.2.2⟩ : wh.cell? (adi.add (i * 2)) = some (.int .i64 (x : Int)) ∧ wh.cell? ⟨(adi.add (i * 2)).block, (adi.add (i * 2)).off + 1, none⟩ = some (.slice ai mi qi) ∧ wh.cell? (adi.add (k * 2)) = some (.int .i64 (y : Int)) ∧ wh.cell? ⟨(adi.add (k * 2)).block, (adi.add (k * 2)).off + 1, none⟩ = some (.slice ak mk qk) ∧ wh.cell? ⟨g8, x, none⟩ = some (.int .i64 (zx : Int)) ∧ wh.cell? ⟨g8, y, none⟩ = some (.int .i64 (zy : Int)))
                        clear hS b5 D2 DV2 BV
                        go_wp2_with fail; refine hK.out _ _ hS2 ?_; clear hK; (try simp only [Act.put, List.setIfInBounds_toArray, List.set_cons_zero, List.set_cons_succ])
                        iterate 18 ((first | (refine TW.val2 (v := ?_) ?_ ?_ ?_ ?_ ?_; rotate_left; (focus rfl); (focus (intro W hSW; (try dsimp only at hSW); (try (obtain ⟨hS1, hSW⟩ := hSW)); (try (obtain ⟨hS2, hSW⟩ := hSW)); (try (obtain ⟨hS3, hSW⟩ := hSW)); (try (obtain ⟨hS4, hSW⟩ := hSW)); (try (obtain ⟨hS5, hSW⟩ := hSW)); go_simp; (try with_reducible rfl); done)); (focus exact fun _ _ _ h => h); (focus assumption)) | (refine TW.skip (e := false) ?_ ?_ ?_ ?_; (focus rfl); (focus exact fun _ _ _ h => h); (focus assumption)) | (refine TW.skip (e := true) ?_ ?_ ?_ ?_; (focus rfl); (focus exact fun _ _ _ h => h); (focus assumption))); simp only [Act.put, List.setIfInBounds_toArray, List.set_cons_zero, List.set_cons_succ])
                        refine TW.done ?_
                        clear hS2
                        go_wp2_with fail
                        go_roundw
                        case rel => exact ⟨k + 1, hlt2, by go_num, D3.out, DV3.out⟩
                        case measure => simp [intOf]; omega
                      | true =>
                        rw [hbo] at BV
                        have hzz := HZ.out hbo
                        subst hzz
                        clear hbo HZ
                        refine BV.mono ?_
                        rintro e wh ⟨rfl, b5⟩
                        have D3 := Lib.hid (D2.out.trans (b5.mono (HSZ.out _ D2.out)))
                        have DV3 := Lib.hid (DV2.out.below b5)
                        have hS2 := (⟨keepc b5 hS.1, keepc b5 hS.2.1, keepc b5 hS.2.2.1, keepc b5 hS.2.2.2.1, keepc b5 hS.2.2.2.2.1, keepc b5 hS.2.2.2.2.2⟩ : wh.cell? (adi.add (i * 2)) = some (.int .i64 (x : Int)) ∧ wh.cell? ⟨(adi.add (i * 2)).block, (adi.add (i * 2)).off + 1, none⟩ = some (.slice ai mi qi) ∧ wh.cell? (adi.add (k * 2)) = some (.int .i64 (y : Int)) ∧ wh.cell? ⟨(adi.add (k * 2)).block, (adi.add (k * 2)).off + 1, none⟩ = some (.slice ak mk qk) ∧ wh.cell? ⟨g8, x, none⟩ = some (.int .i64 (zx : Int)) ∧ wh.cell? ⟨g8, y, none⟩ = some (.int .i64 (zx : Int)))
                        have dz : ((zx : Int) != (zx : Int)) = false := by simp
                        clear hS b5 D2 DV2 BV
                        go_wp2_with fail; refine hK.out _ _ hS2 ?_; clear hK; (try simp only [Act.put, List.setIfInBounds_toArray, List.set_cons_zero, List.set_cons_succ])
                        iterate 18 ((first | (refine TW.val2 (v := ?_) ?_ ?_ ?_ ?_ ?_; rotate_left; (focus rfl); (focus (intro W hSW; (try dsimp only at hSW); (try (obtain ⟨hS1, hSW⟩ := hSW)); (try (obtain ⟨hS2, hSW⟩ := hSW)); (try (obtain ⟨hS3, hSW⟩ := hSW)); (try (obtain ⟨hS4, hSW⟩ := hSW)); (try (obtain ⟨hS5, hSW⟩ := hSW)); go_simp; (try with_reducible rfl); done)); (focus exact fun _ _ _ h => h); (focus assumption)) | (refine TW.skip (e := false) ?_ ?_ ?_ ?_; (focus rfl); (focus exact fun _ _ _ h => h); (focus assumption))); simp only [Act.put, List.setIfInBounds_toArray, List.set_cons_zero, List.set_cons_succ])
                        refine TW.done ?_
                        clear hS2
                        go_wp2_with fail
                        go_roundw
                        case rel => exact ⟨k + 1, hlt2, by go_num, D3.out, DV3.out⟩
                        case measure => simp [intOf]; omega
                    · obtain rfl : k = n2 := by omega
                      clear hlt2
                      go_wp2_with fail
                      go_roundw
                      case rel => exact ⟨i + 1, hlt, by go_num, HB3.out, HV3.out⟩
                      case measure => simp [intOf]; omega
                · obtain rfl : i = n2 := by omega
                  clear hlt
                  go_wp2_with fail
                  go_ret
                  exact ⟨rfl, HG.out ▸ HGB.out _ HB2.out⟩
end Go.Proofs.Ytikegnnlmfidfaa
