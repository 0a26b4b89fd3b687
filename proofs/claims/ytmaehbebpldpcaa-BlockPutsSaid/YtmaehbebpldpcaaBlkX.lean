/-
  Blocks: Put.
-/
import Derived.Test.YtmaehbebpldpcaaBlkQ
import Derived.Test.YtmaehbebpldpcaaRowsOpen
import Derived.Test.YtmaehbebpldpcaaConcat
namespace Go.Proofs.Ytmaehbebpldpcaa
open Go.RowKit Go.Shelf
/-- The bytes of the first k rows. -/
def catB (rs : List BRow) (k : Nat) : List UInt8 := (rs.take k).flatMap fun r : BRow => r.2.2.2
theorem catB_succ {rs : List BRow} {k : Nat} {r : BRow} (h : rs[k]? = some r) : catB rs (k + 1) = catB rs k ++ r.2.2.2 := by
  unfold catB
  rw [List.take_add_one, h, List.flatMap_append]
  simp
theorem catB_le {rs : List BRow} (h : ∀ r ∈ rs, r.2.2.2.length ≤ 1000000) : ∀ k, (catB rs k).length ≤ k * 1000000
  | 0 => Nat.zero_le _
  | k + 1 => by
    have h2 := catB_le h k
    cases hr : rs[k]? with
    | none =>
      have e : catB rs (k + 1) = catB rs k := by unfold catB; rw [List.take_add_one, hr]; simp
      rw [e]
      exact Nat.le_trans h2 (Nat.mul_le_mul_right _ (Nat.le_succ _))
    | some r =>
      rw [catB_succ hr, List.length_append]
      rw [Nat.succ_mul]
      exact Nat.add_le_add h2 (h r (List.mem_of_getElem? hr))
set_option maxRecDepth 100000 in
set_option maxHeartbeats 4000000 in
theorem concat_v (A : Option Addr) (m c B : Nat) (rs : List BRow) (w : World) (hr : RowsIn w B A m rs) (hB : B ≤ w.heap.size) (hm : m ≤ 100000) (hb : ∀ r ∈ rs, r.2.1 ≤ 1000000) :
    Calls Try.prog 44 #[.slice A m c] w fun e w' => ∃ A' c', e = .returned (.slice A' (catB rs m).length c') ∧ BOwn w' w.heap.size A' (catB rs m).length c' (catB rs m) ∧ Below w.heap.size w w' := by
  have HR := Lib.hid hr
  have HLE := Lib.hid (catB_le (rs := rs) (fun r hx => by rw [(hr.rows r hx).1.len]; exact hb r hx))
  clear hr hb
  go_enter Try.func44, Try.ntmps44
  go_wp2
  go_loop [3, 11] (fun s i => ∃ k a : Nat, k ≤ m ∧ i = .int .i64 (k : Int) ∧ s = .int .i64 (a : Int) ∧ (catB rs k).length = a) (fun _ i => m - (intOf i).toNat)
  case atStart => exact ⟨0, 0, Nat.zero_le _, rfl, rfl, rfl⟩
  case round =>
    obtain ⟨k, a, hk, rfl, rfl, ha⟩ := hrel
    have ha2 : a ≤ k * 1000000 := by rw [← ha]; exact HLE.out k
    have HA := Lib.hid ha
    clear ha
    by_cases hlt : k < m
    · obtain ⟨ad, r, rfl, hx, hc, hbr, h1, h2⟩ := HR.out.at_ hlt
      have k0 : (0 : Int) ≤ (k : Int) := by omega
      have HN := Lib.hid (show (catB rs (k + 1)).length = a + r.2.1 by rw [catB_succ hx, List.length_append, HA.out, hbr.len])
      have ha3 := HLE.out (k + 1)
      rw [HN.out] at ha3
      clear hx hbr h1 h2
      go_wp2
      go_round
      case rel => exact ⟨k + 1, a + r.2.1, hlt, by go_num, by go_num, HN.out⟩
      case measure => simp [intOf]; omega
    · obtain rfl : k = m := by omega
      go_wp2_with fail
      refine (grow_any a w (by omega)).mono ?_
      rintro e w1 ⟨A3, c3, rfl, hown3, hb3⟩
      have HB3 := Lib.hid hb3
      have hz3 := hb3.size
      have HR3 := Lib.hid (HR.out.below (hb3.mono hB))
      clear hb3
      go_wp2_with fail
      go_loopw [6, 27] (fun o i wr => ∃ (k2 b : Nat) (A4 : Option Addr) (c4 : Nat), k2 ≤ k ∧ i = .int .i64 (k2 : Int) ∧ (catB rs k2).length = b ∧ o = .slice A4 b c4 ∧ BOwn wr w.heap.size A4 b c4 (catB rs k2) ∧ Below w.heap.size w1 wr) (fun _ i _ => k - (intOf i).toNat)
      case atStart => exact ⟨0, 0, A3, c3, Nat.zero_le _, rfl, rfl, rfl, hown3, Below.refl _ _⟩
      case round =>
        obtain ⟨k2, b, A4, c4, hk2, rfl, hbl, rfl, ho, hb⟩ := hrel
        have HO := Lib.hid ho
        have HB := Lib.hid hb
        have HBL := Lib.hid hbl
        have hzb := hb.size
        have hb2 : b ≤ k2 * 1000000 := by rw [← hbl]; exact HLE.out k2
        clear ho hb hbl
        by_cases hlt2 : k2 < k
        · obtain ⟨ad, r, rfl, hx, hc, hbr, h1, h2⟩ := (HR3.out.below (HB.out.mono hB)).at_ hlt2
          have HBR := Lib.hid hbr
          have HX := Lib.hid (catB_succ hx)
          have k0 : (0 : Int) ≤ (k2 : Int) := by omega
          have HN := Lib.hid (show (catB rs (k2 + 1)).length = b + r.2.1 by rw [HX.out, List.length_append, HBL.out, hbr.len])
          have hb3 := HLE.out (k2 + 1)
          rw [HN.out] at hb3
          clear hx hbr h1 h2
          go_wp2_with (first
            | (at_builtin; refine wpList_app rfl (.tmp 31) (.tmp 32) rfl w.heap.size A4 b c4 (catB rs k2) rfl HO.out B r.1 r.2.1 r.2.2.1 r.2.2.2 rfl HBR.out (b + r.2.1) (catB rs (k2 + 1)) rfl HX.out.symm (by omega) (by omega) ?_; intro A5 c5 w5 ho5 hg5 _)
            | fail)
          have HB5 := Lib.hid (below_app HB.out hg5 HO.out (Nat.le_refl _) (by omega))
          have HO5 := Lib.hid ho5
          clear ho5 hg5
          go_roundw
          case rel => exact ⟨k2 + 1, b + r.2.1, A5, c5, hlt2, by go_num, HN.out, rfl, HO5.out, HB5.out⟩
          case measure => simp [intOf]; omega
        · obtain rfl : k2 = k := by omega
          obtain rfl : b = a := by rw [← HBL.out, HA.out]
          have HOE := HO.out
          rw [← HA.out] at HOE
          have HOF := Lib.hid HOE
          go_wp2_with fail
          go_ret
          exact ⟨A4, c4, by rw [HA.out]; rfl, HOF.out, HB3.out.trans (HB.out)⟩
/-- The first error. -/
def firstE : List Nat → Nat
  | [] => 0
  | e :: es => if e = 0 then firstE es else e
theorem firstE_zero : ∀ {es : List Nat}, (∀ e ∈ es, e = 0) → firstE es = 0
  | [], _ => rfl
  | e :: es, h => by
    unfold firstE
    rw [if_pos (h e List.mem_cons_self)]
    exact firstE_zero fun y hy => h y (List.mem_cons_of_mem _ hy)
theorem firstE_at : ∀ {es : List Nat} {k : Nat} {e : Nat}, (∀ y ∈ es.take k, y = 0) → es[k]? = some e → e ≠ 0 → firstE es = e
  | [], _, _, _, h, _ => by simp at h
  | y :: es, 0, e, _, h, he => by
    obtain rfl : y = e := by simpa using h
    unfold firstE
    rw [if_neg he]
  | y :: es, k + 1, e, hy, h, he => by
    unfold firstE
    rw [if_pos (hy y (by simp))]
    exact firstE_at (k := k) (fun z hz => hy z (by rw [List.take_succ_cons]; exact List.mem_cons_of_mem _ hz)) (by simpa using h) he
/-- What each part of a file is worth. -/
def fitsL (sl ll : Int) (dl : List Dg) (rs : List BRow) : List Nat := (List.range rs.length).map fun k : Nat => fitsP sl ll dl (k : Int) (gD rs k).2.2.2
theorem fitsL_at {sl ll : Int} {dl : List Dg} {rs : List BRow} {k : Nat} {r : BRow} (h : rs[k]? = some r) : (fitsL sl ll dl rs)[k]? = some (fitsP sl ll dl (k : Int) r.2.2.2) := by
  have hk := (List.getElem?_eq_some_iff.1 h).1
  have e := gD_some hk
  rw [h] at e
  unfold fitsL
  rw [List.getElem?_map, List.getElem?_range hk, Option.map_some, ← Option.some.inj e]
theorem fitsL_len (sl ll : Int) (dl : List Dg) (rs : List BRow) : (fitsL sl ll dl rs).length = rs.length := by simp [fitsL]
/-- Put's answer. -/
def putP (sl ll : Int) (dl : List Dg) (rs : List BRow) : Nat × List UInt8 :=
  if chk sl ll dl.length ≠ 0 then (chk sl ll dl.length, []) else if rs.length ≠ dl.length then (6, []) else if firstE (fitsL sl ll dl rs) ≠ 0 then (firstE (fitsL sl ll dl rs), []) else (0, catB rs rs.length)
set_option maxRecDepth 100000 in
set_option maxHeartbeats 8000000 in
theorem put_v (sl ll : Int) (al : Option Addr) (nl cl : Nat) (dl : List Dg) (rs : List BRow) (A : Option Addr) (m c B : Nat) (w : World)
    (hd : DReads w B al nl dl) (hr : RowsIn w B A m rs) (hB : B ≤ w.heap.size) (hnl : nl ≤ 9007199254740992) (hm : m ≤ 100000) (hb : ∀ r ∈ rs, r.2.1 ≤ 1000000) :
    Calls Try.prog 29 #[.agg #[.int .i64 sl, .int .i64 ll, .slice al nl cl], .slice A m c] w fun e w' => ∃ A' c', e = .returned (.tuple #[.slice A' (putP sl ll dl rs).2.length c', .int .i64 ((putP sl ll dl rs).1 : Int)]) ∧ BOwn w' w.heap.size A' (putP sl ll dl rs).2.length c' (putP sl ll dl rs).2 ∧ Below w.heap.size w w' := by
  have HI := Lib.hid (show (Try.prog.info? 24).map (·.size) = some 3 by kernel_rfl)
  have HD := Lib.hid hd
  have HR := Lib.hid hr
  have HBB := Lib.hid hb
  have HLD := Lib.hid hd.len
  have HLR := Lib.hid hr.len
  have B0 := Lib.hid ((Below.refl w.heap.size w).alloc (Nat.le_refl _) (.cells #[.int .i64 sl, .int .i64 ll, .slice al nl cl] 24))
  have X0 := Lib.hid (heap_alloc_new w (.cells #[.int .i64 sl, .int .i64 ll, .slice al nl cl] 24))
  have hz0 : (w.alloc (.cells #[.int .i64 sl, .int .i64 ll, .slice al nl cl] 24)).heap.size = w.heap.size + 1 := by simp
  clear hd hr hb
  go_enter Try.func29, Try.ntmps29
  go_wp2_with (first
    | (refine wpList_load_row rfl 24 (.tmp 2) rfl w.heap.size rfl 24 _ (0, 0) _ X0.out Try.underlying24 rfl HI.out ?_)
    | fail)
  generalize w.alloc (.cells #[.int .i64 sl, .int .i64 ll, .slice al nl cl] 24) = w0 at *
  refine (check_v sl ll al nl cl w0 hnl).mono ?_
  rintro e w1 ⟨rfl, b1⟩
  have X1 := Lib.hid ((b1.block w.heap.size (by omega)).trans X0.out)
  have B1 := Lib.hid (B0.out.trans (b1.mono (by omega)))
  have hz1 : w.heap.size + 1 ≤ w1.heap.size := by have := b1.size; omega
  have c2 : w1.cell? ⟨w.heap.size, 2, none⟩ = some (.slice al nl cl) := by rw [cell_of_row _ _ 2 _ _ _ X1.out]; rfl
  clear b1 X0 B0
  by_cases hck : chk sl ll nl = 0
  case neg =>
    have HP := Lib.hid (show putP sl ll dl rs = (chk sl ll nl, []) by unfold putP; rw [HLD.out, if_pos hck])
    obtain ⟨q, hq⟩ : ∃ q, chk sl ll nl = q := ⟨_, rfl⟩
    rw [hq] at HP hck ⊢
    have d2 : ((q : Int) != 0) = true := by simp; omega
    clear hq hck
    go_wp2_with fail
    exact bodyPost_ret (results_two rfl _ _) rfl ⟨none, 0, by rw [HP.out]; rfl, by rw [HP.out]; exact BOwn.nil_ _ _, B1.out⟩
  have HCK := Lib.hid hck
  rw [hck, show ((0 : Nat) : Int) = (0 : Int) from rfl]
  clear hck
  by_cases hmn : m = nl
  case neg =>
    have d1 : ((m : Int) != (nl : Int)) = true := by rw [bne_iff_ne]; omega
    have HP := Lib.hid (show putP sl ll dl rs = (6, []) by unfold putP; rw [HLD.out, if_neg (fun h => h HCK.out), HLR.out, if_pos hmn])
    go_wp2_with fail
    exact bodyPost_ret (results_two rfl _ _) rfl ⟨none, 0, by rw [HP.out]; rfl, by rw [HP.out]; exact BOwn.nil_ _ _, B1.out⟩
  subst hmn
  have HPU := Lib.hid (show putP sl ll dl rs = if firstE (fitsL sl ll dl rs) ≠ 0 then (firstE (fitsL sl ll dl rs), []) else (0, catB rs m) by unfold putP; rw [HLD.out, if_neg (fun h => h HCK.out), HLR.out, if_neg (fun h => h rfl)])
  go_wp2_with fail
  go_loopw [23] (fun i wr => ∃ k : Nat, k ≤ m ∧ i = .int .i64 (k : Int) ∧ (∀ y ∈ (fitsL sl ll dl rs).take k, y = 0) ∧ Below w1.heap.size w1 wr) (fun i _ => m - (intOf i).toNat)
  case atStart => exact ⟨0, Nat.zero_le _, rfl, by simp, Below.refl _ _⟩
  case round =>
    obtain ⟨k, hk, rfl, hz, hb⟩ := hrel
    have HZ := Lib.hid hz
    have HB := Lib.hid hb
    have hzb := hb.size
    clear hz hb
    have X2 := Lib.hid ((HB.out.block w.heap.size (by omega)).trans X1.out)
    have B2 := Lib.hid (B1.out.trans (HB.out.mono (by omega)))
    by_cases hlt : k < m
    · obtain ⟨ad, r, rfl, hx, hc, hbr, h1, h2⟩ := (HR.out.below (B2.out.mono hB)).at_ hlt
      have HX := Lib.hid (fitsL_at (sl := sl) (ll := ll) (dl := dl) hx)
      have HBR := Lib.hid hbr
      have hrl := HBB.out r (List.mem_of_getElem? hx)
      have k0 : (0 : Int) ≤ (k : Int) := by omega
      clear hx hbr h1 h2
      go_wp2_with (first
        | (refine wpList_load_row rfl 24 (.tmp 2) rfl w.heap.size rfl 24 _ (0, 0) _ X2.out Try.underlying24 rfl HI.out ?_)
        | fail)
      refine (fits_v sl ll (k : Int) al r.1 m cl r.2.1 r.2.2.1 B dl r.2.2.2 wr (HD.out.below (B2.out.mono hB)) HBR.out (by omega) hnl hrl).mono ?_
      rintro e w2 ⟨rfl, b2⟩
      have HB2 := Lib.hid (HB.out.trans (b2.mono hzb))
      obtain ⟨q, hq⟩ : ∃ q, fitsP sl ll dl (k : Int) r.2.2.2 = q := ⟨_, rfl⟩
      rw [hq] at HX ⊢
      clear b2 hq hc
      by_cases hq0 : q = 0
      · subst hq0
        have HN := Lib.hid (show ∀ y ∈ (fitsL sl ll dl rs).take (k + 1), y = 0 by
          intro y hy
          rw [List.take_add_one, HX.out] at hy
          rcases List.mem_append.1 hy with hy | hy
          · exact HZ.out y hy
          · simpa using hy)
        rw [show ((0 : Nat) : Int) = (0 : Int) from rfl]
        go_wp2_with fail
        go_roundw
        case rel => exact ⟨k + 1, hlt, by go_num, HN.out, HB2.out⟩
        case measure => simp [intOf]; omega
      · have HE := Lib.hid (firstE_at HZ.out HX.out hq0)
        have HP := Lib.hid (show putP sl ll dl rs = (q, []) by rw [HPU.out, HE.out, if_pos hq0])
        have d2 : ((q : Int) != 0) = true := by simp; omega
        have HB3 := Lib.hid (B1.out.trans (HB2.out.mono (by omega)))
        clear hq0
        go_wp2_with fail
        exact bodyPost_ret (results_two rfl _ _) rfl ⟨none, 0, by rw [HP.out]; rfl, by rw [HP.out]; exact BOwn.nil_ _ _, HB3.out⟩
    · obtain rfl : k = m := by omega
      have HE := Lib.hid (show firstE (fitsL sl ll dl rs) = 0 from firstE_zero (by have h := HZ.out; rwa [List.take_of_length_le (by rw [fitsL_len, HLR.out]; exact Nat.le_refl _)] at h))
      have HP := Lib.hid (show putP sl ll dl rs = (0, catB rs k) by rw [HPU.out, HE.out, if_neg (fun h => h rfl)])
      go_wp2_with fail
      refine (concat_v A k c B rs wr (HR.out.below (B2.out.mono hB)) (by omega) hm HBB.out).mono ?_
      rintro e w2 ⟨A4, c4, rfl, ho, b2⟩
      have HO := Lib.hid (ho.down (show w.heap.size ≤ wr.heap.size by omega))
      have B4 := Lib.hid (B2.out.trans (b2.mono (by omega)))
      clear ho b2
      go_wp2_with fail
      exact bodyPost_ret (results_two rfl _ _) rfl ⟨A4, c4, by rw [HP.out]; rfl, by rw [HP.out]; exact HO.out, B4.out⟩
set_option maxRecDepth 100000 in
set_option maxHeartbeats 8000000 in
theorem rput_v (sl ll : Int) (al : Option Addr) (nl cl : Nat) (dl : List Dg) (rs : List BRow) (A : Option Addr) (m c B : Nat) (w : World)
    (hd : DReads w B al nl dl) (hr : RowsIn w B A m rs) (hB : B ≤ w.heap.size) (hnl : nl ≤ 9007199254740992) (hm : m ≤ 100000) (hb : ∀ r ∈ rs, r.2.1 ≤ 1000000) :
    Calls Try.prog 30 #[.agg #[.int .i64 sl, .int .i64 ll, .slice al nl cl], .slice A m c] w fun e w' => ∃ A' c', e = .returned (.tuple #[.slice A' (putP sl ll dl rs).2.length c', .int .i64 ((putP sl ll dl rs).1 : Int)]) ∧ BOwn w' w.heap.size A' (putP sl ll dl rs).2.length c' (putP sl ll dl rs).2 ∧ Below w.heap.size w w' := by
  have HI := Lib.hid (show (Try.prog.info? 24).map (·.size) = some 3 by kernel_rfl)
  have HD := Lib.hid hd
  have HR := Lib.hid hr
  have HBB := Lib.hid hb
  have HLD := Lib.hid hd.len
  have HLR := Lib.hid hr.len
  have B0 := Lib.hid ((Below.refl w.heap.size w).alloc (Nat.le_refl _) (.cells #[.int .i64 sl, .int .i64 ll, .slice al nl cl] 24))
  have X0 := Lib.hid (heap_alloc_new w (.cells #[.int .i64 sl, .int .i64 ll, .slice al nl cl] 24))
  have hz0 : (w.alloc (.cells #[.int .i64 sl, .int .i64 ll, .slice al nl cl] 24)).heap.size = w.heap.size + 1 := by simp
  have HLE := Lib.hid (catB_le (rs := rs) (fun r hx => by rw [(hr.rows r hx).1.len]; exact hb r hx))
  clear hd hr hb
  go_enter Try.func30, Try.ntmps30
  go_wp2_with (first
    | (refine wpList_load_row rfl 24 (.tmp 2) rfl w.heap.size rfl 24 _ (0, 0) _ X0.out Try.underlying24 rfl HI.out ?_)
    | fail)
  generalize w.alloc (.cells #[.int .i64 sl, .int .i64 ll, .slice al nl cl] 24) = w0 at *
  refine (rcheck_v sl ll al nl cl w0 hnl).mono ?_
  rintro e w1 ⟨rfl, b1⟩
  have X1 := Lib.hid ((b1.block w.heap.size (by omega)).trans X0.out)
  have B1 := Lib.hid (B0.out.trans (b1.mono (by omega)))
  have hz1 : w.heap.size + 1 ≤ w1.heap.size := by have := b1.size; omega
  have c2 : w1.cell? ⟨w.heap.size, 2, none⟩ = some (.slice al nl cl) := by rw [cell_of_row _ _ 2 _ _ _ X1.out]; rfl
  clear b1 X0 B0
  by_cases hck : chk sl ll nl = 0
  case neg =>
    have HP := Lib.hid (show putP sl ll dl rs = (chk sl ll nl, []) by unfold putP; rw [HLD.out, if_pos hck])
    obtain ⟨q, hq⟩ : ∃ q, chk sl ll nl = q := ⟨_, rfl⟩
    rw [hq] at HP hck ⊢
    have d2 : ((q : Int) != 0) = true := by simp; omega
    clear hq hck
    go_wp2_with fail
    exact bodyPost_ret (results_two rfl _ _) rfl ⟨none, 0, by rw [HP.out]; rfl, by rw [HP.out]; exact BOwn.nil_ _ _, B1.out⟩
  have HCK := Lib.hid hck
  rw [hck, show ((0 : Nat) : Int) = (0 : Int) from rfl]
  clear hck
  by_cases hmn : m = nl
  case neg =>
    have d1 : ((m : Int) != (nl : Int)) = true := by rw [bne_iff_ne]; omega
    have HP := Lib.hid (show putP sl ll dl rs = (6, []) by unfold putP; rw [HLD.out, if_neg (fun h => h HCK.out), HLR.out, if_pos hmn])
    go_wp2_with fail
    exact bodyPost_ret (results_two rfl _ _) rfl ⟨none, 0, by rw [HP.out]; rfl, by rw [HP.out]; exact BOwn.nil_ _ _, B1.out⟩
  subst hmn
  have HPU := Lib.hid (show putP sl ll dl rs = if firstE (fitsL sl ll dl rs) ≠ 0 then (firstE (fitsL sl ll dl rs), []) else (0, catB rs m) by unfold putP; rw [HLD.out, if_neg (fun h => h HCK.out), HLR.out, if_neg (fun h => h rfl)])
  go_wp2_with fail
  go_loopw [7, 8] (fun o i wr => ∃ (k b : Nat) (A4 : Option Addr) (c4 : Nat), k ≤ m ∧ i = .int .i64 (k : Int) ∧ (catB rs k).length = b ∧ o = .slice A4 b c4 ∧ BOwn wr w1.heap.size A4 b c4 (catB rs k) ∧ (∀ y ∈ (fitsL sl ll dl rs).take k, y = 0) ∧ Below w1.heap.size w1 wr) (fun _ i _ => m - (intOf i).toNat)
  case atStart => exact ⟨0, 0, none, 0, Nat.zero_le _, rfl, rfl, rfl, BOwn.nil_ _ _, by simp, Below.refl _ _⟩
  case round =>
    obtain ⟨k, b, A4, c4, hk, rfl, hbl, rfl, ho, hz, hb⟩ := hrel
    have HO := Lib.hid ho
    have HBL := Lib.hid hbl
    have HZ := Lib.hid hz
    have HB := Lib.hid hb
    have hzb := hb.size
    have hb2 : b ≤ k * 1000000 := by rw [← hbl]; exact HLE.out k
    clear hz hb ho hbl
    have X2 := Lib.hid ((HB.out.block w.heap.size (by omega)).trans X1.out)
    have B2 := Lib.hid (B1.out.trans (HB.out.mono (by omega)))
    by_cases hlt : k < m
    · obtain ⟨ad, r, rfl, hx, hc, hbr, h1, h2⟩ := (HR.out.below (B2.out.mono hB)).at_ hlt
      have HX := Lib.hid (fitsL_at (sl := sl) (ll := ll) (dl := dl) hx)
      have HXC := Lib.hid (catB_succ hx)
      have HBR := Lib.hid hbr
      have hrl := HBB.out r (List.mem_of_getElem? hx)
      have k0 : (0 : Int) ≤ (k : Int) := by omega
      have hmem := List.mem_of_getElem? hx
      have hadb : ad.block < w.heap.size := by
        obtain ⟨ad', e, hbl', _⟩ := HR.out.outer.2 (by omega)
        obtain rfl := Option.some.inj e
        omega
      have HN := Lib.hid (show (catB rs (k + 1)).length = b + r.2.1 by rw [HXC.out, List.length_append, HBL.out, hbr.len])
      have hb3 := HLE.out (k + 1)
      rw [HN.out] at hb3
      clear hx hbr h1 h2
      go_upto_region 10 with fail
      refine wp_region_tree (SK.one 0 false <| .one 1 false <| .one 2 false <| .one 3 false <| .one 4 false <| .one 5 false <| .one 6 true <| .one 7 false .done) (fun V => V.heap[w.heap.size]? = some (.cells #[.int .i64 sl, .int .i64 ll, .slice al m cl] 24 (0, 0)) ∧ V.cell? (ad.add k) = some (.slice r.1 r.2.1 r.2.2.1)) (by kernel_rfl) (by kernel_rfl) (by kernel_rfl) (by kernel_rfl) ?_
      have hS : wr.drew.heap[w.heap.size]? = some (.cells #[.int .i64 sl, .int .i64 ll, .slice al m cl] 24 (0, 0)) ∧ wr.drew.cell? (ad.add k) = some (.slice r.1 r.2.1 r.2.2.1) := ⟨X2.out, hc⟩
      have HC := Lib.hid hc
      clear hc
      refine TR.val2 (v := .agg #[.int .i64 sl, .int .i64 ll, .slice al m cl]) _ (by simp only [List.getElem?_toArray, List.getElem?_cons_zero]; rfl) ?_ ?_ ?_ ?_ ?_
      (focus rfl)
      (focus exact fun V hV => exec_load_slot 24 (.tmp 2) rfl ⟨w.heap.size, 0, none⟩ rfl [.int .i64 sl, .int .i64 ll, .slice al m cl] _ (row_cells hV.1) Try.underlying24 rfl HI.out)
      (focus exact fun _ _ _ h => h)
      (focus exact hS)
      simp only [Act.put, List.setIfInBounds_toArray, List.set_cons_zero, List.set_cons_succ]
      iterate 5 ((first | (refine TR.val2 (v := ?_) _ (by simp only [List.getElem?_toArray, List.getElem?_cons_succ, List.getElem?_cons_zero]; rfl) ?_ ?_ ?_ ?_ ?_; rotate_left; (focus rfl); (focus (intro W hSW; (try dsimp only at hSW); (try (obtain ⟨hS1, hSW⟩ := hSW)); (try (obtain ⟨hS2, hSW⟩ := hSW)); (try (obtain ⟨hS3, hSW⟩ := hSW)); (try (obtain ⟨hS4, hSW⟩ := hSW)); (try (obtain ⟨hS5, hSW⟩ := hSW)); go_simp; (try with_reducible rfl); done)); (focus exact fun _ _ _ h => h); (focus assumption)) | (refine TR.skip _ (by simp only [List.getElem?_toArray, List.getElem?_cons_succ, List.getElem?_cons_zero]; rfl) ?_ ?_ ?_ ?_; (focus rfl); (focus exact fun _ _ _ h => h); (focus assumption))); simp only [Act.put, List.setIfInBounds_toArray, List.set_cons_zero, List.set_cons_succ])
      refine TR.eff _ (by simp only [List.getElem?_toArray, List.getElem?_cons_succ, List.getElem?_cons_zero]; rfl) (by rfl) (fun K hK => ?_); go_simp
      have HB0 := Lib.hid (show Below w1.heap.size w1 wr.drew from HB.out.drew)
      have B3 := Lib.hid (show Below w.heap.size w wr.drew from B2.out.drew)
      have HOD := Lib.hid (show BOwn wr.drew w1.heap.size A4 b c4 (catB rs k) from HO.out.drew)
      have hzd : wr.drew.heap.size = wr.heap.size := rfl
      generalize wr.drew = wd at *
      refine (rfits_v sl ll (k : Int) al r.1 m cl r.2.1 r.2.2.1 B dl r.2.2.2 wd (HD.out.below (B3.out.mono hB)) (Reads.below (HR.out.rows r hmem).1 (B3.out.mono hB)) (by omega) hnl hrl).mono ?_
      rintro e w2 ⟨rfl, b2⟩
      have HB2 := Lib.hid (HB0.out.trans (b2.mono (by omega)))
      have B4 := Lib.hid (B3.out.trans (b2.mono (by omega)))
      have HO2 := Lib.hid (HOD.out.below b2)
      have hS2 : w2.heap[w.heap.size]? = some (.cells #[.int .i64 sl, .int .i64 ll, .slice al m cl] 24 (0, 0)) ∧ w2.cell? (ad.add k) = some (.slice r.1 r.2.1 r.2.2.1) := ⟨(b2.block w.heap.size (by omega)).trans hS.1, (b2.cell (by rw [block_of_add]; omega)).trans hS.2⟩
      refine hK.out _ _ hS2 ?_
      have hc4 := hS2.2
      clear hK hS b2 HOD HB0 HO
      have hS := hS2
      clear hS2
      (try simp only [Act.put, List.setIfInBounds_toArray, List.set_cons_zero, List.set_cons_succ])
      obtain ⟨q, hq⟩ : ∃ q, fitsP sl ll dl (k : Int) r.2.2.2 = q := ⟨_, rfl⟩
      rw [hq] at HX ⊢
      clear hq
      iterate 1 ((first | (refine TR.val2 (v := ?_) _ (by simp only [List.getElem?_toArray, List.getElem?_cons_succ, List.getElem?_cons_zero]; rfl) ?_ ?_ ?_ ?_ ?_; rotate_left; (focus rfl); (focus (intro W hSW; (try dsimp only at hSW); (try (obtain ⟨hS1, hSW⟩ := hSW)); (try (obtain ⟨hS2, hSW⟩ := hSW)); (try (obtain ⟨hS3, hSW⟩ := hSW)); (try (obtain ⟨hS4, hSW⟩ := hSW)); (try (obtain ⟨hS5, hSW⟩ := hSW)); go_simp; (try with_reducible rfl); done)); (focus exact fun _ _ _ h => h); (focus assumption)) | (refine TR.skip _ (by simp only [List.getElem?_toArray, List.getElem?_cons_succ, List.getElem?_cons_zero]; rfl) ?_ ?_ ?_ ?_; (focus rfl); (focus exact fun _ _ _ h => h); (focus assumption))); simp only [Act.put, List.setIfInBounds_toArray, List.set_cons_zero, List.set_cons_succ])
      refine TR.done ?_
      clear hS
      have HBR4 := Lib.hid (Reads.below (HR.out.rows r hmem).1 (B4.out.mono hB))
      by_cases hq0 : q = 0
      · subst hq0
        have HN2 := Lib.hid (show ∀ y ∈ (fitsL sl ll dl rs).take (k + 1), y = 0 by
          intro y hy
          rw [List.take_add_one, HX.out] at hy
          rcases List.mem_append.1 hy with hy | hy
          · exact HZ.out y hy
          · simpa using hy)
        rw [show ((0 : Nat) : Int) = (0 : Int) from rfl]
        have hz4 := HB2.out.size
        go_wp2_with (first
          | (at_builtin; refine wpList_app rfl (.tmp 36) (.tmp 40) rfl w1.heap.size A4 b c4 (catB rs k) rfl HO2.out B r.1 r.2.1 r.2.2.1 r.2.2.2 rfl HBR4.out (b + r.2.1) (catB rs (k + 1)) rfl HXC.out.symm (by omega) (by omega) ?_; intro A5 c5 w5 ho5 hg5 _)
          | fail)
        have HB5 := Lib.hid (below_app HB2.out hg5 HO2.out (Nat.le_refl _) (by omega))
        have HO5 := Lib.hid ho5
        clear ho5 hg5
        go_roundw
        case rel => exact ⟨k + 1, b + r.2.1, A5, c5, hlt, by go_num, HN.out, rfl, HO5.out, HN2.out, HB5.out⟩
        case measure => simp [intOf]; omega
      · have HE := Lib.hid (firstE_at HZ.out HX.out hq0)
        have HP := Lib.hid (show putP sl ll dl rs = (q, []) by rw [HPU.out, HE.out, if_pos hq0])
        have d2 : ((q : Int) != 0) = true := by simp; omega
        clear hq0
        go_wp2_with fail
        exact bodyPost_ret (results_two rfl _ _) rfl ⟨none, 0, by rw [HP.out]; rfl, by rw [HP.out]; exact BOwn.nil_ _ _, B4.out⟩
    · obtain rfl : k = m := by omega
      have HE := Lib.hid (show firstE (fitsL sl ll dl rs) = 0 from firstE_zero (by have h := HZ.out; rwa [List.take_of_length_le (by rw [fitsL_len, HLR.out]; exact Nat.le_refl _)] at h))
      have HP := Lib.hid (show putP sl ll dl rs = (0, catB rs k) by rw [HPU.out, HE.out, if_neg (fun h => h rfl)])
      have HOE := HO.out.down (show w.heap.size ≤ w1.heap.size by omega)
      rw [← HBL.out] at HOE
      have HOF := Lib.hid HOE
      clear HOE
      go_wp2_with fail
      exact bodyPost_ret (results_two rfl _ _) rfl ⟨A4, c4, by rw [HP.out, HBL.out]; rfl, by rw [HP.out]; exact HOF.out, B2.out⟩
end Go.Proofs.Ytmaehbebpldpcaa
