/-
  Blocks: BlockPuts, walked.
-/
import Derived.Test.YtmaehbebpldpcaaPutA
import Derived.Test.YtmaehbebpldpcaaPutC
namespace Go.Proofs.Ytmaehbebpldpcaa
open Go.RowKit Go.Shelf
/-- A list that Cut made: its digests' row is the call's own. -/
structure CutX (V : World) (base : Nat) (Z : Nat) (r : BRow) (x : LX) : Prop where
  own : V.ownsRow base 59 32 (.slice x.v.a x.v.n x.v.c) x.v.n (x.ds.flatMap Dg.cells)
  sz : x.v.sz = (Z : Int)
  ln : x.v.ln = (r.2.2.2.length : Int)
  ds : x.ds = cutL r.2.2.2 Z
/-- The lists of the others: a row of the call's own. -/
structure CutRows (V : World) (base : Nat) (Z : Nat) (A : Option Addr) (n c : Nat) (rs : List BRow) (hv : List LX) : Prop where
  row : V.ownsRow base 24 3 (.slice A n c) n (hv.flatMap LX.cells)
  len : hv.length = n
  each : ∀ (j : Nat) (x : LX), hv[j]? = some x → ∃ r, rs[j]? = some r ∧ CutX V base Z r x
theorem CutX.keep {V V' : World} {base Z : Nat} {r : BRow} {x : LX} (h : CutX V base Z r x) (hk : ∀ j, (Value.slice x.v.a x.v.n x.v.c).ownBlock = some j → V'.heap[j]? = V.heap[j]?) : CutX V' base Z r x := ⟨own_keep' h.own hk, h.sz, h.ln, h.ds⟩
theorem CutRows.below {V V' : World} {base Z n c : Nat} {A : Option Addr} {rs : List BRow} {hv : List LX} (h : CutRows V base Z A n c rs hv) (hb : Below V.heap.size V V') : CutRows V' base Z A n c rs hv :=
  ⟨own_keep' h.row (fun j hj => hb.block j (h.row.lt j hj).2), h.len, fun j x hx => by
    obtain ⟨r, h1, h2⟩ := h.each j x hx
    exact ⟨r, h1, h2.keep (fun j hj => hb.block j (h2.own.lt j hj).2)⟩⟩
theorem CutRows.snoc {V V' : World} {base Z n c c' : Nat} {A A' : Option Addr} {rs : List BRow} {hv : List LX} {r : BRow} {x : LX} (h : CutRows V base Z A n c rs hv) (hx : CutX V base Z r x) (hr : rs[n]? = some r)
    (ho : V'.ownsRow base 24 3 (.slice A' (n + 1) c') (n + 1) (hv.flatMap LX.cells ++ x.cells)) (hg : V.grownBy V' (Value.slice A n c).ownBlock) : CutRows V' base Z A' (n + 1) c' rs (hv ++ [x]) := by
  have key : ∀ {r : BRow} {y : LX}, CutX V base Z r y → CutX V' base Z r y := fun hy => hy.keep (fun j hj => hg.block j (hy.own.lt j hj).2 (fun e => by
    obtain ⟨c1, f1, e1⟩ := own_isCells hy.own hj
    obtain ⟨c2, f2, e2⟩ := own_isCells h.row e.symm
    have e3 := Option.some.inj (e1.symm.trans e2)
    injection e3 with _ e4 _
    exact absurd e4 (by decide)))
  refine ⟨by rw [List.flatMap_append]; simpa using ho, by rw [List.length_append, h.len]; rfl, fun j y hy => ?_⟩
  rcases Nat.lt_or_ge j hv.length with hj | hj
  · rw [List.getElem?_append_left hj] at hy
    obtain ⟨r', h1, h2⟩ := h.each j y hy
    exact ⟨r', h1, key h2⟩
  · rw [List.getElem?_append_right hj] at hy
    have hj2 : j - hv.length = 0 := by
      rcases Nat.eq_zero_or_pos (j - hv.length) with h0 | h0
      · exact h0
      · rw [List.getElem?_eq_none (by simp; omega)] at hy; cases hy
    rw [hj2] at hy
    obtain rfl : x = y := by simpa using hy
    have hjn : j = n := by have := h.len; omega
    subst hjn
    exact ⟨r, hr, key hx⟩
set_option maxRecDepth 100000 in
set_option maxHeartbeats 16000000 in
theorem puts_v (A : Option Addr) (m c : Nat) (L : List UInt8) (rs : List BRow) (R : Option Addr) (mr cr : Nat) (sz : Int) (w : World)
    (hr : BReads w w.heap.size A m L) (hmc : m ≤ c) (hc : c ≤ 9223372036854775807) (hR : RowsIn w w.heap.size R mr rs) (hmr : mr ≤ 9223372036854775807) :
    Calls Try.prog 7 #[.slice A m c, .slice R mr cr, .int .i64 sz] w fun e w' => e = .returned (.bool true) ∧ Below w.heap.size w w' := by
  have HI := Lib.hid (show (Try.prog.info? 24).map (·.size) = some 3 by kernel_rfl)
  have HA := Lib.hid hr
  have HLL := Lib.hid hr.len
  have HR := Lib.hid hR
  clear hr hR
  go_enter Try.func7, Try.ntmps7
  go_wp2_with fail
  refine (lives_v w).mono ?_
  rintro e w1 ⟨rfl, b1⟩
  have B1 := Lib.hid b1
  have hz1 := b1.size
  generalize hg : w.heap.size = g at *
  clear b1
  go_wp2_with fail
  refine (pick_any sz 64 w1 (by omega) (by omega)).mono ?_
  rintro e _ ⟨rfl, rfl⟩
  have hp0 := Int.emod_nonneg sz (show ((64 : Nat) : Int) ≠ 0 by omega)
  have hp1 := Int.emod_lt_of_pos sz (show (0 : Int) < ((64 : Nat) : Int) by omega)
  obtain ⟨Z, hZ1, hZ2, hZ3⟩ : ∃ Z : Nat, sz % ((64 : Nat) : Int) = (Z : Int) - 1 ∧ 0 < Z ∧ Z ≤ 64 := ⟨(sz % ((64 : Nat) : Int)).toNat + 1, by omega, by omega, by omega⟩
  rw [hZ1]
  clear hp0 hp1 hZ1
  have hw0 : IntKind.i64.wrap ((Z : Int) - 1 + 1) = (Z : Int) := by rw [IntWalk.i64_in _ ⟨by omega, by omega⟩]; omega
  have hw0' : (Z : Int) - 1 + 1 = (Z : Int) := by omega
  go_upto_block 0 with fail
  go_cut [7] from 28 (fun n wx => ∃ a : Nat, n = .int .i64 (a : Int) ∧ (a ≤ 2000 → mr ≤ 10 → ∀ r ∈ rs, r.2.1 ≤ a) ∧ m ≤ a ∧ a ≤ 9223372036854775807 ∧ w1 = wx)
  case first =>
    go_wp2_with fail
    go_loopw [7, 8] (fun n i wr => ∃ (k a : Nat), k ≤ mr ∧ m ≤ a ∧ a ≤ 9223372036854775807 ∧ n = .int .i64 (a : Int) ∧ i = .int .i64 (k : Int) ∧ (∀ r ∈ rs.take k, min r.2.1 2001 ≤ a) ∧ w1 = wr) (fun _ i _ => mr - (intOf i).toNat)
    case atStart => exact ⟨0, m, Nat.zero_le _, Nat.le_refl _, by omega, rfl, rfl, by simp, rfl⟩
    case round =>
      obtain ⟨k, a, hk, hma, ha, rfl, rfl, hmin, rfl⟩ := hrel
      have HM := Lib.hid hmin
      clear hmin
      by_cases c1 : k < mr
      · have d1 : decide (k < mr) = true := by simpa using c1
        by_cases c2 : k ≤ 10
        · have d2 : decide (k ≤ 10) = true := by simpa using c2
          by_cases c3 : a ≤ 2000
          · have d3 : decide (a ≤ 2000) = true := by simpa using c3
            obtain ⟨ad, r, rfl, hx, hc, hbr, h1, h2⟩ := (HR.out.below B1.out).at_ c1
            have k0 : (0 : Int) ≤ (k : Int) := by omega
            obtain ⟨q, hq⟩ : ∃ q, min r.2.1 2001 = q := ⟨_, rfl⟩
            have hq1 : q ≤ 2001 := by omega
            have HN := Lib.hid (show ∀ y ∈ rs.take (k + 1), min y.2.1 2001 ≤ a + q by
              intro y hy
              rw [List.take_add_one, hx] at hy
              rcases List.mem_append.1 hy with hy | hy
              · have := HM.out y hy; omega
              · obtain rfl : y = r := by simpa using hy
                omega)
            obtain ⟨rl, hrl⟩ : ∃ rl, r.2.1 = rl := ⟨_, rfl⟩
            rw [hrl] at hq hc h1
            have e1 : min (rl : Int) 2001 = (q : Int) := by omega
            have e2 : min 2001 (rl : Int) = (q : Int) := by omega
            have e3 : (if (2001 : Int) < (rl : Int) then (2001 : Int) else (rl : Int)) = (q : Int) := by split <;> omega
            have HE3 := Lib.hid e3
            clear hx hbr h2 hrl hq e3
            go_wp2_with fail
            go_roundw
            case rel => exact ⟨k + 1, a + q, c1, by omega, by omega, by rw [HE3.out]; go_num, by go_num, HN.out, by trivial⟩
            case measure => simp [intOf]; omega
          · have d3 : decide (a ≤ 2000) = false := by simpa using c3
            go_wp2_with fail
            go_meet
            exact ⟨a, rfl, fun h => absurd h c3, hma, ha, rfl⟩
        · have d2 : decide (k ≤ 10) = false := by simpa using c2
          go_wp2_with fail
          go_meet
          exact ⟨a, rfl, fun _ h => absurd h (by omega), hma, ha, rfl⟩
      · have d1 : decide (k < mr) = false := by simpa using c1
        have HQ := Lib.hid (show a ≤ 2000 → mr ≤ 10 → ∀ r ∈ rs, r.2.1 ≤ a by
          intro h1 _ r hx
          have h2 := HM.out r (by rw [List.take_of_length_le (by rw [HR.out.len]; omega)]; exact hx)
          omega)
        go_wp2_with fail
        go_meet
        exact ⟨a, rfl, HQ.out, hma, ha, rfl⟩
  obtain ⟨a, rfl, hfa, hma, ha, rfl⟩ := hcut
  have HFA := Lib.hid hfa
  clear hfa
  by_cases k1 : 2000 < a
  · have d1 : decide (2000 < a) = true := by simpa using k1
    go_wp2_with fail
    all_goals (go_ret; exact ⟨rfl, hg ▸ B1.out⟩)
  have d1 : decide (2000 < a) = false := by simpa using k1
  by_cases k2 : 10 < mr
  · have d2 : decide (10 < mr) = true := by simpa using k2
    go_wp2_with fail
    all_goals (go_ret; exact ⟨rfl, hg ▸ B1.out⟩)
  have d2 : decide (10 < mr) = false := by simpa using k2
  obtain ⟨Q, hQ1, hQ2, hQ3⟩ : ∃ Q : Nat, (a : Int).tdiv (Z : Int) = (Q : Int) ∧ (a : Int) / (Z : Int) = (Q : Int) ∧ a / Z = Q := ⟨a / Z, by rw [Int.tdiv_eq_ediv_of_nonneg (by omega)]; rfl, rfl, rfl⟩
  have hQa : Q ≤ a := by rw [← hQ3]; exact Nat.div_le_self _ _
  have hzn : (Z : Int) ≠ 0 := by omega
  have hzm : (Z : Int) ≠ -1 := by omega
  by_cases k3 : 200 < Q
  · have d3 : decide (200 < Q) = true := by simpa using k3
    go_wp2_with fail
    all_goals (go_ret; exact ⟨rfl, hg ▸ B1.out⟩)
  have d3 : decide (200 < Q) = false := by simpa using k3
  have HCA := Lib.hid (show ∀ m, m ≤ a → chunkN m Z ≤ 1024 from fun m hma => by
    rcases Nat.lt_or_ge 1024 (chunkN m Z) with h | h
    · have h1 := (chunk_lt (n := m) (k := 1024) hZ2).1 h
      have h2 : a / Z * Z + Z > a := by have := Nat.div_add_mod a Z; have := Nat.mod_lt a hZ2; rw [Nat.mul_comm]; omega
      rw [hQ3] at h2
      have h3 : Q * Z ≤ 200 * Z := Nat.mul_le_mul_right Z (by omega)
      omega
    · exact h)
  have hcn := HCA.out m hma
  have hm2 : m ≤ 2000 := by omega
  obtain ⟨N, hN⟩ : ∃ N, chunkN m Z = N := ⟨_, rfl⟩
  have HNN := Lib.hid hN
  have HCP := Lib.hid (show cutP L (Z : Int) = (0, (Z : Int), (m : Int), cutL L Z) by
    have h := cutP_of HLL.out hZ2 (show Z ≤ 65536 by omega) (show m ≤ 4194304 by omega)
    rwa [if_neg (by omega)] at h)
  have HCN := Lib.hid hcn
  rw [hN] at hcn
  have hgg : g ≤ w1.heap.size := hz1
  have HRL := Lib.hid (HFA.out (by omega) (by omega))
  go_wp2_with fail
  clear hQ1 hQ2 hQ3 hQa d1 d2 d3 hw0 hw0' hzn hzm hN k3
  refine (own_any g A m c L w1 (Reads.below HA.out B1.out) hgg (by omega)).mono ?_
  rintro e w2 ⟨A2, c2, rfl, ho2, b2⟩
  have B2 := Lib.hid (B1.out.trans (b2.mono hgg))
  have O2 := Lib.hid ho2.reads
  have hc2 := ho2.2
  have hz2 := b2.size
  clear b2 ho2
  go_wp2_with fail
  refine (cut_is O2.out (by omega) hc2 0 N 0 (Z : Int) (m : Int) (cutL L Z) HCP.out (by rw [cutL_len HLL.out, HNN.out]) rfl).mono ?_
  rintro e w3 ⟨A3, c3, rfl, d3, b3⟩
  have hz3 := b3.size
  have B3 := Lib.hid (B2.out.trans (b3.mono (by omega)))
  have BA := (Below.refl w3.heap.size w3).alloc (Nat.le_refl _) (.cells #[.int .i64 (Z : Int), .int .i64 (m : Int), .slice A3 N c3] 24)
  have B4 := Lib.hid (B3.out.trans (BA.mono (by omega)))
  have X4 := Lib.hid (heap_alloc_new w3 (.cells #[.int .i64 (Z : Int), .int .i64 (m : Int), .slice A3 N c3] 24))
  have D4 := Lib.hid (d3.below BA)
  have hz4 : (w3.alloc (.cells #[.int .i64 (Z : Int), .int .i64 (m : Int), .slice A3 N c3] 24)).heap.size = w3.heap.size + 1 := by simp
  clear b3 d3 BA O2
  go_upto_region 12 with fail
  generalize w3.alloc (.cells #[.int .i64 (Z : Int), .int .i64 (m : Int), .slice A3 N c3] 24) = w4 at *
  generalize w3.heap.size = g9 at *
  refine wp_region_tree (SK.one 0 false <| .one 1 false <| .one 2 false <| .one 3 false <| .one 4 false <| .one 5 true <| .one 6 true <| .one 7 false <| .one 8 false .done) (fun V => Below w4.heap.size w4 V) (by kernel_rfl) (by kernel_rfl) (by kernel_rfl) (by kernel_rfl) ?_
  have hS : Below w4.heap.size w4 w4.drew := (Below.refl _ _).drew
  have T0 := Lib.hid hS
  generalize w4.drew = v0 at *
  ((first | (refine TR.val2 (v := ?_) _ (by simp only [List.getElem?_toArray, List.getElem?_cons_zero]; rfl) ?_ ?_ ?_ ?_ ?_; rotate_left; (focus rfl); (focus (intro W hSW; (try dsimp only at hSW); (try (obtain ⟨hS1, hSW⟩ := hSW)); (try (obtain ⟨hS2, hSW⟩ := hSW)); (try (obtain ⟨hS3, hSW⟩ := hSW)); (try (obtain ⟨hS4, hSW⟩ := hSW)); (try (obtain ⟨hS5, hSW⟩ := hSW)); go_simp; (try with_reducible rfl); done)); (focus exact fun _ _ _ h => h); (focus assumption)) | (refine TR.skip _ (by simp only [List.getElem?_toArray, List.getElem?_cons_zero]; rfl) ?_ ?_ ?_ ?_; (focus rfl); (focus exact fun _ _ _ h => h); (focus assumption))); simp only [Act.put, List.setIfInBounds_toArray, List.set_cons_zero, List.set_cons_succ])
  iterate 2 ((first | (refine TR.val2 (v := ?_) _ (by simp only [List.getElem?_toArray, List.getElem?_cons_succ, List.getElem?_cons_zero]; rfl) ?_ ?_ ?_ ?_ ?_; rotate_left; (focus rfl); (focus (intro W hSW; (try dsimp only at hSW); (try (obtain ⟨hS1, hSW⟩ := hSW)); (try (obtain ⟨hS2, hSW⟩ := hSW)); (try (obtain ⟨hS3, hSW⟩ := hSW)); (try (obtain ⟨hS4, hSW⟩ := hSW)); (try (obtain ⟨hS5, hSW⟩ := hSW)); go_simp; (try with_reducible rfl); done)); (focus exact fun _ _ _ h => h); (focus assumption)) | (refine TR.skip _ (by simp only [List.getElem?_toArray, List.getElem?_cons_succ, List.getElem?_cons_zero]; rfl) ?_ ?_ ?_ ?_; (focus rfl); (focus exact fun _ _ _ h => h); (focus assumption))); simp only [Act.put, List.setIfInBounds_toArray, List.set_cons_zero, List.set_cons_succ])
  refine TR.val2 (v := .agg #[.int .i64 (Z : Int), .int .i64 (m : Int), .slice A3 N c3]) _ (by simp only [List.getElem?_toArray, List.getElem?_cons_succ, List.getElem?_cons_zero]; rfl) ?_ ?_ ?_ ?_ ?_
  (focus rfl)
  (focus exact fun V hV => exec_load_slot 24 (.tmp 9) rfl ⟨g9, 0, none⟩ rfl [.int .i64 (Z : Int), .int .i64 (m : Int), .slice A3 N c3] _ (row_cells ((hV.block g9 (by omega)).trans X4.out)) Try.underlying24 rfl HI.out)
  (focus exact fun _ _ _ h => h)
  (focus exact hS)
  simp only [Act.put, List.setIfInBounds_toArray, List.set_cons_zero, List.set_cons_succ]
  iterate 1 ((first | (refine TR.val2 (v := ?_) _ (by simp only [List.getElem?_toArray, List.getElem?_cons_succ, List.getElem?_cons_zero]; rfl) ?_ ?_ ?_ ?_ ?_; rotate_left; (focus rfl); (focus (intro W hSW; (try dsimp only at hSW); (try (obtain ⟨hS1, hSW⟩ := hSW)); (try (obtain ⟨hS2, hSW⟩ := hSW)); (try (obtain ⟨hS3, hSW⟩ := hSW)); (try (obtain ⟨hS4, hSW⟩ := hSW)); (try (obtain ⟨hS5, hSW⟩ := hSW)); go_simp; (try with_reducible rfl); done)); (focus exact fun _ _ _ h => h); (focus assumption)) | (refine TR.skip _ (by simp only [List.getElem?_toArray, List.getElem?_cons_succ, List.getElem?_cons_zero]; rfl) ?_ ?_ ?_ ?_; (focus rfl); (focus exact fun _ _ _ h => h); (focus assumption))); simp only [Act.put, List.setIfInBounds_toArray, List.set_cons_zero, List.set_cons_succ])
  refine TR.eff _ (by simp only [List.getElem?_toArray, List.getElem?_cons_succ, List.getElem?_cons_zero]; rfl) (by rfl) (fun K hK => ?_); go_simp
  refine (own_any g A m c L v0 (Reads.below HA.out (B4.out.trans (T0.out.mono (by omega)))) (by have := T0.out.size; omega) (by omega)).mono ?_
  rintro e v1 ⟨A5, c5, rfl, ho5, b5⟩
  have T1 := Lib.hid (T0.out.trans (b5.mono T0.out.size))
  have O5 := Lib.hid ho5.reads
  have hc5 := ho5.2
  clear b5 ho5
  have hS2 := T1.out
  refine hK.out _ _ hS2 ?_
  clear hK hS
  have hS := hS2
  clear hS2
  (try simp only [Act.put, List.setIfInBounds_toArray, List.set_cons_zero, List.set_cons_succ])
  refine TR.eff _ (by simp only [List.getElem?_toArray, List.getElem?_cons_succ, List.getElem?_cons_zero]; rfl) (by rfl) (fun K hK => ?_); go_simp
  refine (whole_v (Z : Int) (m : Int) A3 A5 N c3 m c5 v1.heap.size (cutL L Z) L v1 (Reads.more (D4.out.below (T1.out.mono (by omega))) (by have := T1.out.size; omega)) O5.out (Nat.le_refl _) (by omega) (by omega) hc5).mono ?_
  rw [whole_cut HLL.out hZ2 (show Z ≤ 65536 by omega) (show m ≤ 4194304 by omega) HCN.out]
  rintro e v2 ⟨rfl, b6⟩
  have T2 := Lib.hid (T1.out.trans (b6.mono T1.out.size))
  clear b6 O5
  have hS2 := T2.out
  refine hK.out _ _ hS2 ?_
  clear hK hS
  have hS := hS2
  clear hS2
  (try simp only [Act.put, List.setIfInBounds_toArray, List.set_cons_zero, List.set_cons_succ])
  iterate 2 ((first | (refine TR.val2 (v := ?_) _ (by simp only [List.getElem?_toArray, List.getElem?_cons_succ, List.getElem?_cons_zero]; rfl) ?_ ?_ ?_ ?_ ?_; rotate_left; (focus rfl); (focus (intro W hSW; (try dsimp only at hSW); (try (obtain ⟨hS1, hSW⟩ := hSW)); (try (obtain ⟨hS2, hSW⟩ := hSW)); (try (obtain ⟨hS3, hSW⟩ := hSW)); (try (obtain ⟨hS4, hSW⟩ := hSW)); (try (obtain ⟨hS5, hSW⟩ := hSW)); go_simp; (try with_reducible rfl); done)); (focus exact fun _ _ _ h => h); (focus assumption)) | (refine TR.skip _ (by simp only [List.getElem?_toArray, List.getElem?_cons_succ, List.getElem?_cons_zero]; rfl) ?_ ?_ ?_ ?_; (focus rfl); (focus exact fun _ _ _ h => h); (focus assumption))); simp only [Act.put, List.setIfInBounds_toArray, List.set_cons_zero, List.set_cons_succ])
  refine TR.done ?_
  clear hS
  have X5 := Lib.hid ((T2.out.block g9 (by omega)).trans X4.out)
  have B5 := Lib.hid (B4.out.trans (T2.out.mono (by omega)))
  have D5 := Lib.hid (D4.out.below (T2.out.mono (by omega)))
  have hz5 := T2.out.size
  clear T0 T1 T2 X4 B4 D4 B3 B2
  go_wp2_with fail
  go_loopw [11, 12] (fun o i wr => ∃ (k : Nat) (A' : Option Addr) (c' : Nat) (hv : List LX), k ≤ mr ∧ i = .int .i64 (k : Int) ∧ o = .slice A' k c' ∧ CutRows wr v2.heap.size Z A' k c' rs hv ∧ Below v2.heap.size v2 wr) (fun _ i _ => mr - (intOf i).toNat)
  case atStart => exact ⟨0, none, 0, [], Nat.zero_le _, rfl, rfl, ⟨World.ownsRow_nil _ _ _ 3, rfl, fun j x h => by simp at h⟩, Below.refl _ _⟩
  case round =>
    obtain ⟨k, A', c', hv, hk, rfl, rfl, ho, hb⟩ := hrel
    have HO := Lib.hid ho
    have HB := Lib.hid hb
    have hzb := hb.size
    clear ho hb
    have hgv : g ≤ v2.heap.size := by omega
    have B6 := Lib.hid (B5.out.trans (HB.out.mono hgv))
    by_cases hlt : k < mr
    · obtain ⟨ad, r, rfl, hx, hc', hbr, h1, h2⟩ := (HR.out.below B6.out).at_ hlt
      have HX := Lib.hid hx
      have hra := HRL.out r (List.mem_of_getElem? hx)
      have HBR := Lib.hid hbr
      have HBL := Lib.hid hbr.len
      have k0 : (0 : Int) ≤ (k : Int) := by omega
      have HCR := Lib.hid (show cutP r.2.2.2 (Z : Int) = (0, (Z : Int), (r.2.1 : Int), cutL r.2.2.2 Z) by
        have h := cutP_of HBL.out hZ2 (show Z ≤ 65536 by omega) (show r.2.1 ≤ 4194304 by omega)
        rwa [if_neg (by have := HCA.out r.2.1 hra; omega)] at h)
      clear hx hbr h1 h2
      go_wp2_with fail
      refine (own_any g r.1 r.2.1 r.2.2.1 r.2.2.2 wr HBR.out (by omega) (by omega)).mono ?_
      rintro e w8 ⟨A8, c8, rfl, o8, b8⟩
      have O8 := Lib.hid o8.reads
      have hc8 := o8.2
      have hz8 := b8.size
      have R8 := Lib.hid (HO.out.below b8)
      have HB8 := Lib.hid (HB.out.trans (b8.mono hzb))
      clear o8 b8 hc'
      go_wp2_with fail
      refine (cut_v A8 r.2.1 c8 r.2.2.2 (Z : Int) w8 O8.out (by omega) hc8).mono ?_
      rw [HCR.out]
      rintro e w9 ⟨A9, c9, rfl, o9, b9⟩
      obtain ⟨N9, hN9⟩ : ∃ N9, (cutL r.2.2.2 Z).length = N9 := ⟨_, rfl⟩
      have o9' := o9
      simp only [hN9] at o9' ⊢
      have hz9 := b9.size
      have CX := Lib.hid (show CutX w9 v2.heap.size Z r ⟨⟨(Z : Int), (r.2.1 : Int), A9, N9, c9⟩, cutL r.2.2.2 Z⟩ from ⟨own_down' o9' (by omega), rfl, by rw [HBL.out], rfl⟩)
      have R9 := Lib.hid (R8.out.below b9)
      have HB9 := Lib.hid (HB8.out.trans (b9.mono (by omega)))
      clear o9 o9' b9 O8 R8 HB8 hN9
      have a1 := (Below.refl w9.heap.size w9).alloc (Nat.le_refl _) (.cells #[.int .i64 (Z : Int), .int .i64 (r.2.1 : Int), .slice A9 N9 c9] 24)
      have X9 := Lib.hid (heap_alloc_new w9 (.cells #[.int .i64 (Z : Int), .int .i64 (r.2.1 : Int), .slice A9 N9 c9] 24))
      obtain ⟨Wq, hWq⟩ : ∃ Wq, (w9.alloc (.cells #[.int .i64 (Z : Int), .int .i64 (r.2.1 : Int), .slice A9 N9 c9] 24)).alloc (.cells #[.int .i64 (Z : Int), .int .i64 (r.2.1 : Int), .slice A9 N9 c9] 24) = Wq := ⟨_, rfl⟩
      have a2 := Lib.hid (show Below w9.heap.size w9 Wq by rw [← hWq]; exact a1.alloc (by simp) _)
      have RD := Lib.hid (show Reads Wq (w9.heap.size + 2) 3 (some ⟨w9.heap.size + 1, 0, none⟩) 1 [.int .i64 (Z : Int), .int .i64 (r.2.1 : Int), .slice A9 N9 c9] by
        rw [← hWq]
        refine ⟨rfl, fun _ => ⟨_, rfl, Nat.lt_succ_self _, fun j u hu => ?_⟩⟩
        rw [add_head]
        have h := cell_new (w9.alloc (.cells #[.int .i64 (Z : Int), .int .i64 (r.2.1 : Int), .slice A9 N9 c9] 24)) #[.int .i64 (Z : Int), .int .i64 (r.2.1 : Int), .slice A9 N9 c9] 24 j
        rw [show (w9.alloc (.cells #[.int .i64 (Z : Int), .int .i64 (r.2.1 : Int), .slice A9 N9 c9] 24)).heap.size = w9.heap.size + 1 by simp] at h
        rw [h]
        simpa using hu)
      have RQ := Lib.hid (R9.out.below a2.out)
      have CQ := Lib.hid (CX.out.keep (fun j hj => a2.out.block j (CX.out.own.lt j hj).2))
      have HBQ := Lib.hid (HB9.out.trans (a2.out.mono (by omega)))
      have HWQ := Lib.hid hWq
      have hzq := HBQ.out.size
      clear a1 hWq R9 CX HB9
      obtain ⟨i0, hi, hy0, hy1, hy2⟩ := info_parts info_lst
      go_wp2_with (first
        | (refine wpList_load_row rfl 24 (.tmp 13) rfl w9.heap.size rfl 24 _ (0, 0) _ X9.out Try.underlying24 rfl HI.out ?_)
        | (rw [HWQ.out]; refine wpList_append_any Wq rfl (.tmp 104) (.tmp 106) 45 rfl v2.heap.size 24 i0 _ 3 40 Try.underlying45 hi hy0 hy1 hy2 rfl (by decide) (.slice A' k c') k (hv.flatMap LX.cells) rfl RQ.out.row (w9.heap.size + 2) (some ⟨w9.heap.size + 1, 0, none⟩) 1 1 [.int .i64 (Z : Int), .int .i64 (r.2.1 : Int), .slice A9 N9 c9] rfl RD.out (by intro u hu; simp only [List.mem_cons, List.not_mem_nil, or_false] at hu; rcases hu with rfl | rfl | rfl <;> rfl) (by simp only [maxLen]; omega) (by omega) hzq ?_
           intro v' w11 ho11 hg11 _
           obtain ⟨A11, c11, rfl, _⟩ := own_shape ho11)
        | fail)
      have RN := Lib.hid (RQ.out.snoc CQ.out HX.out ho11 hg11)
      have HBN := Lib.hid (HBQ.out.grown hg11 hzq (fun j hj => (RQ.out.row.lt j hj).1))
      clear ho11 hg11
      go_roundw
      case rel => exact ⟨k + 1, A11, c11, _, hlt, by go_num, rfl, RN.out, HBN.out⟩
      case measure => simp [intOf]; omega
    · obtain rfl : k = mr := by omega
      have X6 := Lib.hid ((HB.out.block g9 (by omega)).trans X5.out)
      have D6 := Lib.hid (D5.out.below (HB.out.mono (by omega)))
      have HCX := Lib.hid (show ∀ x ∈ hv, ∃ r ∈ rs, CutX wr v2.heap.size Z r x from fun x hx => by
        obtain ⟨j, hj, rfl⟩ := List.getElem_of_mem hx
        obtain ⟨r, h1, h2⟩ := HO.out.each j _ (List.getElem?_eq_getElem hj)
        exact ⟨r, List.mem_of_getElem? h1, h2⟩)
      have HNX := Lib.hid (show ∀ x ∈ hv, x.v.n ≤ 1024 from fun x hx => by
        obtain ⟨r, hr, cx⟩ := HCX.out x hx
        have h1 := (DReads.of_own cx.own).len
        have h2 := (HR.out.rows r hr).1.len
        rw [cx.ds, cutL_len h2] at h1
        have h3 := HCA.out r.2.1 (HRL.out r hr)
        omega)
      have HXX := Lib.hid (show ∀ x ∈ hv, DReads wr wr.heap.size x.v.a x.v.n x.ds ∧ x.v.n ≤ 1100 ∧ ∀ d ∈ x.ds, DgW d from fun x hx => by
        obtain ⟨r, hr, cx⟩ := HCX.out x hx
        exact ⟨DReads.of_own cx.own, by have := HNX.out x hx; omega, by rw [cx.ds]; exact cutL_w _ _⟩)
      have hkc : k ≤ c' := by
        rcases HO.out.row.2 with ⟨hn, _⟩ | ⟨_, _, _, ev, _, _, h1, _⟩
        · simp only [Value.slice.injEq] at hn; omega
        · simp only [Value.slice.injEq] at ev; omega
      go_wp2_with (first
        | (refine wpList_load_row rfl 24 (.tmp 9) rfl g9 rfl 24 _ (0, 0) _ X6.out Try.underlying24 rfl HI.out ?_)
        | fail)
      have PV := plan_v (Z : Int) (m : Int) A3 N c3 (cutL L Z) hv A' k c' wr (Reads.more D6.out (by omega)) (cutL_w L Z) (by omega) (Reads.of_own HO.out.row) (by omega) hkc HXX.out
      refine PV.mono ?_
      rintro e w8 ⟨A8, n8, c8, rfl, o8, b8⟩
      have HE := Lib.hid (show errP (⟨⟨(Z : Int), (m : Int), A3, N, c3⟩, cutL L Z⟩ :: hv) = 0 from errP_zero fun x hx => by
        rcases List.mem_cons.1 hx with rfl | hx
        · show Proofs.Ytmaehbebpldpcaa.chk (Z : Int) (m : Int) N = 0
          rw [← HNN.out]
          exact chk_of hZ2 (by omega) (by omega) HCN.out
        · obtain ⟨r, hr, cx⟩ := HCX.out x hx
          have h1 := (DReads.of_own cx.own).len
          have h2 := (HR.out.rows r hr).1.len
          have h3 := HCA.out r.2.1 (HRL.out r hr)
          have h4 := HRL.out r hr
          rw [cx.ds, cutL_len h2] at h1
          show Proofs.Ytmaehbebpldpcaa.chk x.v.sz x.v.ln x.v.n = 0
          rw [cx.sz, cx.ln, h2, ← h1]
          exact chk_of hZ2 (by omega) (by omega) h3)
      have HPP := Lib.hid (show planP ⟨⟨(Z : Int), (m : Int), A3, N, c3⟩, cutL L Z⟩ hv = srcP ⟨⟨(Z : Int), (m : Int), A3, N, c3⟩, cutL L Z⟩ hv by unfold planP; rw [if_pos HE.out])
      have hn8 : n8 = N := by
        have h := o8.1
        rw [flat_len srcC_len, HPP.out] at h
        have h2 : (srcP ⟨⟨(Z : Int), (m : Int), A3, N, c3⟩, cutL L Z⟩ hv).length = N := by simp [srcP]
        omega
      subst hn8
      rw [HE.out, show ((0 : Nat) : Int) = (0 : Int) from rfl]
      have B8 := Lib.hid (B6.out.trans (b8.mono (by omega)))
      have X8 := Lib.hid ((b8.block g9 (by omega)).trans X6.out)
      have D8 := Lib.hid (D6.out.below (b8.mono (by omega)))
      have S8 := Lib.hid (show SReads w8 w8.heap.size A8 n8 (srcP ⟨⟨(Z : Int), (m : Int), A3, n8, c3⟩, cutL L Z⟩ hv) by rw [← HPP.out]; exact Reads.of_own o8)
      have R8 := Lib.hid (HO.out.below b8)
      have hz8 := b8.size
      have c92 : w8.cell? ⟨g9, 2, none⟩ = some (.slice A3 n8 c3) := by rw [cell_of_row _ _ 2 _ _ _ X8.out]; rfl
      clear b8 o8 PV HPP HXX X6 D6 HB HO B6
      obtain ⟨ps, hps⟩ : ∃ ps, srcP ⟨⟨(Z : Int), (m : Int), A3, n8, c3⟩, cutL L Z⟩ hv = ps := ⟨_, rfl⟩
      have HSA := Lib.hid (show ∀ j, j < n8 → ∃ p, ps[j]? = some p ∧ (p = (-1, 0) ∨ ∃ f k2 : Nat, p = ((f : Int), (k2 : Int)) ∧ f < hv.length ∧ k2 < (gD hv f).v.n ∧ lenP (gD hv f) k2 = lenP ⟨⟨(Z : Int), (m : Int), A3, n8, c3⟩, cutL L Z⟩ j) from fun j hj => by
        obtain ⟨p, h1, h2⟩ := src_at ⟨⟨(Z : Int), (m : Int), A3, n8, c3⟩, cutL L Z⟩ hv (k := j) hj
        rw [hps] at h1
        refine ⟨p, h1, ?_⟩
        rcases h2 with h2 | ⟨f, k2, h2, h3, h4, _, h5⟩
        · exact .inl h2
        · exact .inr ⟨f, k2, h2, h3, h4, h5⟩)
      rw [hps] at S8
      have HPL := Lib.hid (show ps.length = n8 by rw [← hps]; simp [srcP])
      have HSZ := Lib.hid (show ∀ (f : Nat) (r : LX), hv[f]? = some r → ∃ b, rs[f]? = some b ∧ r.v.sz = (Z : Int) ∧ r.v.ln = (b.2.1 : Int) ∧ r.v.n = chunkN b.2.1 Z ∧ b.2.1 ≤ a from fun f r hr => by
        obtain ⟨b, h1, cx⟩ := R8.out.each f r hr
        have h2 := (HR.out.rows b (List.mem_of_getElem? h1)).1.len
        have h3 := (DReads.of_own cx.own).len
        rw [cx.ds, cutL_len h2] at h3
        exact ⟨b, h1, cx.sz, by rw [cx.ln, h2], h3.symm, HRL.out b (List.mem_of_getElem? h1)⟩)
      clear hps HCX HNX HE
      go_wp2_with fail
      go_loopw [16, 17, 18, 19] (fun ow ou la i wr => ∃ (j q n2 : Nat) (A1 : Option Addr) (c1 : Nat) (rs1 : List BRow) (A2 : Option Addr) (c2 : Nat) (rs2 : List BRow), j ≤ n8 ∧ i = .int .i64 (j : Int) ∧ la = .int .i64 (q : Int) ∧ ow = .slice A1 j c1 ∧ ou = .slice A2 n2 c2 ∧ PutI wr w8.heap.size Z L ps j j q n2 A1 c1 rs1 A2 c2 rs2 ∧ Below w8.heap.size w8 wr) (fun _ _ _ i _ => n8 - (intOf i).toNat)
      case atStart => exact ⟨0, 0, 0, none, 0, [], none, 0, [], Nat.zero_le _, rfl, rfl, rfl, rfl, PutI.start _ _ _ _ _, Below.refl _ _⟩
      case round =>
        obtain ⟨j, q, n2, A1, c1, rs1, A2, c2, rs2, hj, rfl, rfl, rfl, rfl, hpi, hb⟩ := hrel
        have HPI := Lib.hid hpi
        have HB := Lib.hid hb
        have hn2 := hpi.n2k
        have hqj := hpi.qk
        have hzb := hb.size
        have XR := Lib.hid ((hb.block g9 (by omega)).trans X8.out)
        clear hpi hb
        have BR := Lib.hid (B8.out.trans (HB.out.mono (by omega)))
        by_cases hlt : j < n8
        · have hkN : j < chunkN m Z := by rw [HNN.out]; exact hlt
          have hkz := (chunk_lt hZ2).1 hkN
          have AP := Lib.hid (atP_of hZ2 (show Z ≤ 65536 by omega) (show m ≤ 4194304 by omega) (by rw [HNN.out]; omega) hkN)
          rw [HNN.out] at AP
          obtain ⟨p, hp, hpc⟩ := HSA.out j hlt
          obtain ⟨ap, p', rfl, hp', hpcell⟩ := S8.out.at_ hlt
          obtain rfl : p = p' := by rw [hp] at hp'; exact Option.some.inj hp'
          have HP := Lib.hid hp
          have HPC := Lib.hid hpc
          have HPX := Lib.hid (fun W (hW : Below w8.heap.size w8 W) => (⟨by have h := hpcell W hW 0 _ rfl; rwa [add_zero] at h, hpcell W hW 1 _ rfl⟩ : W.cell? (ap.add (j * 2)) = some (.int .i64 p.1) ∧ W.cell? ⟨(ap.add (j * 2)).block, (ap.add (j * 2)).off + 1, none⟩ = some (.int .i64 p.2)))
          clear hp hp' hpc hpcell
          go_wp2_with (first
            | (refine wpList_load_row rfl 24 (.tmp 9) rfl g9 rfl 24 _ (0, 0) _ XR.out Try.underlying24 rfl HI.out ?_)
            | fail)
          refine (at_v (Z : Int) (m : Int) (j : Int) A3 n8 c3 wr (by omega)).mono ?_
          rw [AP.out]
          rintro e w9 ⟨rfl, b9⟩
          have HB9 := Lib.hid (HB.out.trans (b9.mono hzb))
          have PI9 := Lib.hid (HPI.out.below b9)
          have hz9 := HB9.out.size
          have B9 := Lib.hid (B8.out.trans (HB9.out.mono (by omega)))
          clear b9
          have RDV := Lib.hid (show ∀ V, Below g w V → BReads V V.heap.size (A.map (·.add (j * Z))) (chunkL m Z j) (chunkB L Z j) from fun V hV => by
            have h := Reads.below HA.out hV
            obtain ⟨ad, hA, _⟩ := h.2 (by omega)
            subst hA
            exact chunkB_reads h (by have := hV.size; rw [hg] at this; exact this) hkz)
          have RD := Lib.hid (RDV.out w9 B9.out)
          have HCL := Lib.hid (show (chunkB L Z j).length = chunkL m Z j from RD.out.len)
          have HRR : min m ((j + 1) * Z) = min m (j * Z + Z) := by rw [Nat.succ_mul]
          rw [HRR]
          have HLP := Lib.hid (show lenP ⟨⟨(Z : Int), (m : Int), A3, n8, c3⟩, cutL L Z⟩ j = ((min m (j * Z + Z) : Nat) : Int) - ((j * Z : Nat) : Int) by
            unfold lenP
            rw [show toP (Z : Int) (m : Int) (j : Int) = ((min m ((j + 1) * Z) : Nat) : Int) from toP_nat m Z j, HRR, Int.natCast_mul])
          obtain ⟨fr, hfr⟩ : ∃ fr, j * Z = fr := ⟨_, rfl⟩
          obtain ⟨tq, htq⟩ : ∃ tq, min m (fr + Z) = tq := ⟨_, rfl⟩
          have HC2 : chunkL m Z j = tq - fr := by unfold chunkL; omega
          rw [HC2, hfr] at RD RDV
          rw [HC2] at HCL
          rw [hfr, htq] at HLP
          rw [hfr] at hkz ⊢
          rw [htq]
          have u1 : (0 : Int) ≤ (fr : Int) := by omega
          have u2 : fr ≤ m := by omega
          have u3 : ¬ (c = fr) := by omega
          have u6 : fr ≤ tq := by omega
          have u7 : tq ≤ c := by omega
          have u8 : ¬ (tq = fr) := by omega
          have htq2 : tq ≤ 2000 := by omega
          clear HRR hfr htq HC2 hkN AP
          go_wp2_with fail
          refine (own_any w9.heap.size _ _ _ (chunkB L Z j) w9 RD.out (Nat.le_refl _) (by omega)).mono ?_
          rintro e w10 ⟨A10, c10, rfl, o10, b10⟩
          have O10 := Lib.hid (o10.down hz9)
          have HB10 := Lib.hid (HB9.out.trans (b10.mono hz9))
          have PI10 := Lib.hid (PI9.out.below b10)
          have hz10 := b10.size
          have hzw10 : w8.heap.size ≤ w10.heap.size := by omega
          clear o10 b10 PI9 RD HB9 HB HPI
          obtain ⟨ln, hln⟩ : ∃ ln, tq - fr = ln := ⟨_, rfl⟩
          rw [hln] at O10 HCL RDV ⊢
          obtain ⟨i1, hi1, hx0, hx1, hx2⟩ := info_parts info_sl
          have PIa := Lib.hid (PI10.out.alloc (.cells #[.slice A10 ln c10] 25))
          have Oa := Lib.hid (O10.out.alloc (.cells #[.slice A10 ln c10] 25))
          have HBa := Lib.hid (HB10.out.alloc hzw10 (.cells #[.slice A10 ln c10] 25))
          have RDa := Lib.hid (show Reads (w10.alloc (.cells #[.slice A10 ln c10] 25)) (w10.heap.size + 1) 1 (some ⟨w10.heap.size, 0, none⟩) 1 [.slice A10 ln c10] from
            ⟨rfl, fun _ => ⟨_, rfl, Nat.lt_succ_self _, fun j u hu => by rw [add_head, cell_new]; simpa using hu⟩⟩)
          go_upto_region 32 with (first
            | (refine wpList_append_any (w10.alloc (.cells #[.slice A10 ln c10] 25)) rfl (.tmp 137) (.tmp 143) 49 rfl w8.heap.size 25 i1 _ 1 24 Try.underlying49 hi1 hx0 hx1 hx2 rfl (by decide) (.slice A1 j c1) j (rs1.map fun r : BRow => Value.slice r.1 r.2.1 r.2.2.1) rfl PIa.out.own.row (w10.heap.size + 1) (some ⟨w10.heap.size, 0, none⟩) 1 1 [.slice A10 ln c10] rfl RDa.out (by intro u hu; obtain rfl := List.mem_singleton.1 hu; rfl) (by simp only [maxLen]; omega) (by omega) (by simp; omega) ?_
               intro v' w11 ho11 hg11 hw11
               obtain ⟨A11, c11, rfl, _⟩ := own_shape ho11)
            | fail)
          have PI11 := Lib.hid (PIa.out.snoc1 (r := (A10, ln, c10, chunkB L Z j)) Oa.out rfl ho11 hg11 hw11)
          have HB11 := Lib.hid (HBa.out.grown hg11 (by simp; omega) (fun jj hjj => (PIa.out.own.row.lt jj hjj).1))
          have hz11 := HB11.out.size
          have h110 := (HPX.out w11 HB11.out).1
          have h111 := (HPX.out w11 HB11.out).2
          clear ho11 hg11 hw11 PIa Oa HBa RDa O10 PI10 HB10
          rcases HPC.out with hpz | ⟨f, k2, hpz, hf, hk2, hle⟩
          · rw [hpz] at h110 h111
            have HPZ := Lib.hid hpz
            clear hpz
            go_wp2_with fail
            go_roundw
            case rel => exact ⟨j + 1, q + 1, n2, A11, c11, _, A2, c2, _, hlt, by go_num, by go_num, rfl, rfl, PI11.out.skip HP.out (by rw [HPZ.out]), HB11.out⟩
            case measure => simp [intOf]; omega
          · rw [hpz] at h110 h111
            have HPZ := Lib.hid hpz
            have hx := gD_some hf
            obtain ⟨⟨ba, bl, bc, bb⟩, hbf, hxs, hxl, hxn, hba⟩ := HSZ.out f _ hx
            obtain ⟨X, hX⟩ : ∃ X, gD hv f = X := ⟨_, rfl⟩
            rw [hX] at hx hxs hxl hxn hk2 hle
            obtain ⟨⟨xz, xl, xa, xn, xc⟩, xds⟩ := X
            simp only at hxs hxl hxn hk2 hba
            subst hxs hxl hxn
            have hfk : f < k := by have := R8.out.len; omega
            obtain ⟨ah, hA', _, hcl⟩ := (Reads.of_own R8.out.row).2 (show 0 < k by omega)
            have HCL3 := Lib.hid (show ∀ V, Below w8.heap.size w8 V → ∀ i u, ([.int .i64 (Z : Int), .int .i64 (bl : Int), .slice xa (chunkN bl Z) xc] : List Value)[i]? = some u → V.cell? ((ah.add (f * 3)).add i) = some u from fun V hV i u hu => by
              have hi : i < 3 := (List.getElem?_eq_some_iff.1 hu).1
              have h1 := (flat_at LX.cells_len hv hx hi).trans hu
              have h2 := hcl (f * 3 + i) u h1
              rw [add_of_add]
              exact (hV.cell (World.block_lt_of_cell? w8 _ h2)).trans h2)
            subst hA'
            obtain ⟨ar, r', rfl, hr', hrc, hrb, hrm, _⟩ := (HR.out.below B8.out).at_ hfk
            obtain rfl : (ba, bl, bc, bb) = r' := by rw [hbf] at hr'; exact Option.some.inj hr'
            have HRC := Lib.hid (show ∀ V, Below g w8 V → V.cell? (ar.add f) = some (.slice ba bl bc) from fun V hV => (((HR.out.below B8.out).below hV).at_ hfk).elim fun _ h => by
              obtain ⟨r', h1, h2, h3, _⟩ := h
              obtain rfl : (ba, bl, bc, bb) = r' := by rw [hbf] at h2; exact Option.some.inj h2
              injection h1 with h1
              subst h1
              exact h3)
            have HRB := Lib.hid hrb
            have hrm2 : bl ≤ bc := hrm
            have hfx := (chunk_lt hZ2).1 hk2
            have hcb := HCA.out bl hba
            have AP2 := Lib.hid (atP_of hZ2 (show Z ≤ 65536 by omega) (show bl ≤ 4194304 by omega) hcb hk2)
            have HRR2 : min bl ((k2 + 1) * Z) = min bl (k2 * Z + Z) := by rw [Nat.succ_mul]
            have HLL2 : lenP ⟨⟨(Z : Int), (bl : Int), xa, chunkN bl Z, xc⟩, xds⟩ k2 = ((min bl (k2 * Z + Z) : Nat) : Int) - ((k2 * Z : Nat) : Int) := by
              unfold lenP
              rw [show toP (Z : Int) (bl : Int) (k2 : Int) = ((min bl ((k2 + 1) * Z) : Nat) : Int) from toP_nat bl Z k2, HRR2, Int.natCast_mul]
            rw [HLL2, HLP.out] at hle
            obtain ⟨CN, hCN⟩ : ∃ CN, chunkN bl Z = CN := ⟨_, rfl⟩
            rw [hCN] at AP2 HCL3 hcb
            have HRD := Lib.hid (show ∀ V, Below g w8 V → BReads V V.heap.size (ba.map (·.add (k2 * Z))) (chunkL bl Z k2) (chunkB bb Z k2) from fun V hV => by
              obtain ⟨ad, hA, _⟩ := (Reads.below hrb hV).2 (show 0 < bl by omega)
              have h := Reads.below hrb hV
              subst hA
              exact chunkB_reads h (by have := B8.out.size; have := hV.size; omega) hfx)
            rw [HRR2] at AP2
            obtain ⟨fx, hfx2⟩ : ∃ fx, k2 * Z = fx := ⟨_, rfl⟩
            rw [hfx2] at AP2 HRD hfx hle
            obtain ⟨tx, htx⟩ : ∃ tx, min bl (fx + Z) = tx := ⟨_, rfl⟩
            have HC3 : chunkL bl Z k2 = tx - fx := by unfold chunkL; omega
            rw [HC3] at HRD
            rw [htx] at AP2 hle
            have hln2 : tx - fx = ln := by omega
            rw [hln2] at HRD
            have v1' : (0 : Int) ≤ (fx : Int) := by omega
            have v2' : fx ≤ bl := by omega
            have v3' : ¬ (bc = fx) := by omega
            have v6' : fx ≤ tx := by omega
            have v7' : tx ≤ bc := by omega
            have v8' : ¬ (tx = fx) := by omega
            have f0 : decide ((f : Int) < 0) = false := decide_eq_false (by omega)
            have f1 : (0 : Int) ≤ (f : Int) := by omega
            have hwt : IntKind.i64.wrap ((tx : Int) - (fx : Int)) = (ln : Int) := by rw [IntWalk.i64_in _ ⟨by omega, by omega⟩]; omega
            have hwq : IntKind.i64.wrap ((tq : Int) - (fr : Int)) = (ln : Int) := by rw [IntWalk.i64_in _ ⟨by omega, by omega⟩]; omega
            clear hpz hx hX hle hcl hr' hrc hrb HRR2 HLL2 hfx2 htx HC3 hk2 hCN
            go_upto_region 34 with fail
            refine wp_region_tree (SK.one 0 false <| .one 1 false <| .one 2 false <| .one 3 false <| .one 4 false <| .one 5 false <| .one 6 false <| .one 7 false <| .one 8 false <| .one 9 false <| .one 10 false <| .one 11 false <| .one 12 false <| .one 13 true <| .one 14 false <| .one 15 false <| .one 16 false <| .one 17 false <| .one 18 false <| .one 19 false <| .one 20 false .done) (fun V => V.cell? (ap.add (j * 2)) = some (.int .i64 (f : Int)) ∧ V.cell? ⟨(ap.add (j * 2)).block, (ap.add (j * 2)).off + 1, none⟩ = some (.int .i64 (k2 : Int)) ∧ Below w11.heap.size w11 V) (by kernel_rfl) (by kernel_rfl) (by kernel_rfl) (by kernel_rfl) ?_
            have hS : w11.drew.cell? (ap.add (j * 2)) = some (.int .i64 (f : Int)) ∧ w11.drew.cell? ⟨(ap.add (j * 2)).block, (ap.add (j * 2)).off + 1, none⟩ = some (.int .i64 (k2 : Int)) ∧ Below w11.heap.size w11 w11.drew := ⟨h110, h111, (Below.refl _ _).drew⟩
            generalize w11.drew = v0 at *
            ((first | (refine TR.val2 (v := ?_) _ (by simp only [List.getElem?_toArray, List.getElem?_cons_zero]; rfl) ?_ ?_ ?_ ?_ ?_; rotate_left; (focus rfl); (focus (intro W hSW; (try dsimp only at hSW); (try (obtain ⟨hS1, hSW⟩ := hSW)); (try (obtain ⟨hS2, hSW⟩ := hSW)); (try (obtain ⟨hS3, hSW⟩ := hSW)); (try (obtain ⟨hS4, hSW⟩ := hSW)); (try (obtain ⟨hS5, hSW⟩ := hSW)); go_simp; (try with_reducible rfl); done)); (focus exact fun _ _ _ h => h); (focus assumption)) | (refine TR.skip _ (by simp only [List.getElem?_toArray, List.getElem?_cons_zero]; rfl) ?_ ?_ ?_ ?_; (focus rfl); (focus exact fun _ _ _ h => h); (focus assumption))); simp only [Act.put, List.setIfInBounds_toArray, List.set_cons_zero, List.set_cons_succ])
            iterate 6 ((first | (refine TR.val2 (v := ?_) _ (by simp only [List.getElem?_toArray, List.getElem?_cons_succ, List.getElem?_cons_zero]; rfl) ?_ ?_ ?_ ?_ ?_; rotate_left; (focus rfl); (focus (intro W hSW; (try dsimp only at hSW); (try (obtain ⟨hS1, hSW⟩ := hSW)); (try (obtain ⟨hS2, hSW⟩ := hSW)); (try (obtain ⟨hS3, hSW⟩ := hSW)); (try (obtain ⟨hS4, hSW⟩ := hSW)); (try (obtain ⟨hS5, hSW⟩ := hSW)); go_simp; (try with_reducible rfl); done)); (focus exact fun _ _ _ h => h); (focus assumption)) | (refine TR.skip _ (by simp only [List.getElem?_toArray, List.getElem?_cons_succ, List.getElem?_cons_zero]; rfl) ?_ ?_ ?_ ?_; (focus rfl); (focus exact fun _ _ _ h => h); (focus assumption))); simp only [Act.put, List.setIfInBounds_toArray, List.set_cons_zero, List.set_cons_succ])
            refine TR.val2 (v := .agg #[.int .i64 (Z : Int), .int .i64 (bl : Int), .slice xa CN xc]) _ (by simp only [List.getElem?_toArray, List.getElem?_cons_succ, List.getElem?_cons_zero]; rfl) ?_ ?_ ?_ ?_ ?_
            (focus rfl)
            (focus exact fun V hV => exec_load_slot 24 (.tmp 160) rfl (ah.add (f * 3)) rfl [.int .i64 (Z : Int), .int .i64 (bl : Int), .slice xa CN xc] _ (HCL3.out V (HB11.out.trans (hV.2.2.mono hz11))) Try.underlying24 rfl HI.out)
            (focus exact fun _ _ _ h => h)
            (focus exact hS)
            simp only [Act.put, List.setIfInBounds_toArray, List.set_cons_zero, List.set_cons_succ]
            iterate 5 ((first | (refine TR.val2 (v := ?_) _ (by simp only [List.getElem?_toArray, List.getElem?_cons_succ, List.getElem?_cons_zero]; rfl) ?_ ?_ ?_ ?_ ?_; rotate_left; (focus rfl); (focus (intro W hSW; (try dsimp only at hSW); (try (obtain ⟨hS1, hSW⟩ := hSW)); (try (obtain ⟨hS2, hSW⟩ := hSW)); (try (obtain ⟨hS3, hSW⟩ := hSW)); (try (obtain ⟨hS4, hSW⟩ := hSW)); (try (obtain ⟨hS5, hSW⟩ := hSW)); go_simp; (try with_reducible rfl); done)); (focus exact fun _ _ _ h => h); (focus assumption)) | (refine TR.skip _ (by simp only [List.getElem?_toArray, List.getElem?_cons_succ, List.getElem?_cons_zero]; rfl) ?_ ?_ ?_ ?_; (focus rfl); (focus exact fun _ _ _ h => h); (focus assumption))); simp only [Act.put, List.setIfInBounds_toArray, List.set_cons_zero, List.set_cons_succ])
            refine TR.eff _ (by simp only [List.getElem?_toArray, List.getElem?_cons_succ, List.getElem?_cons_zero]; rfl) (by rfl) (fun K hK => ?_); go_simp
            refine (at_v (Z : Int) (bl : Int) (k2 : Int) xa CN xc v0 (by omega)).mono ?_
            rw [AP2.out]
            rintro e v1 ⟨rfl, b5⟩
            have T1 := Lib.hid (hS.2.2.trans (b5.mono hS.2.2.size))
            have hS2 : v1.cell? (ap.add (j * 2)) = some (.int .i64 (f : Int)) ∧ v1.cell? ⟨(ap.add (j * 2)).block, (ap.add (j * 2)).off + 1, none⟩ = some (.int .i64 (k2 : Int)) ∧ Below w11.heap.size w11 v1 := by
              have h := HPX.out v1 (HB11.out.trans (T1.out.mono hz11))
              rw [HPZ.out] at h
              exact ⟨h.1, h.2, T1.out⟩
            refine hK.out _ _ hS2 ?_
            clear hK hS b5
            have hS := hS2
            clear hS2
            (try simp only [Act.put, List.setIfInBounds_toArray, List.set_cons_zero, List.set_cons_succ])
            iterate 7 ((first | (refine TR.val2 (v := ?_) _ (by simp only [List.getElem?_toArray, List.getElem?_cons_succ, List.getElem?_cons_zero]; rfl) ?_ ?_ ?_ ?_ ?_; rotate_left; (focus rfl); (focus (intro W hSW; (try dsimp only at hSW); (try (obtain ⟨hS1, hSW⟩ := hSW)); (try (obtain ⟨hS2, hSW⟩ := hSW)); (try (obtain ⟨hS3, hSW⟩ := hSW)); (try (obtain ⟨hS4, hSW⟩ := hSW)); (try (obtain ⟨hS5, hSW⟩ := hSW)); go_simp; (try with_reducible rfl); done)); (focus exact fun _ _ _ h => h); (focus assumption)) | (refine TR.skip _ (by simp only [List.getElem?_toArray, List.getElem?_cons_succ, List.getElem?_cons_zero]; rfl) ?_ ?_ ?_ ?_; (focus rfl); (focus exact fun _ _ _ h => h); (focus assumption))); simp only [Act.put, List.setIfInBounds_toArray, List.set_cons_zero, List.set_cons_succ])
            refine TR.done ?_
            have PI12 := Lib.hid (PI11.out.below T1.out)
            have HB12 := Lib.hid (HB11.out.trans (T1.out.mono hz11))
            have hz12 := T1.out.size
            have h120 := hS.1
            clear hS T1 PI11 HB11 h110 h111
            have h121 := HRC.out v1 (HB12.out.mono (by omega))
            have HR1 := Lib.hid (HRD.out v1 (HB12.out.mono (by omega)))
            have HR2 := Lib.hid (RDV.out v1 (B8.out.trans (HB12.out.mono (by omega))))
            go_upto_region 37 with fail
            refine wp_region_tree (SK.one 0 false <| .one 1 false <| .one 2 false <| .one 3 false <| .one 4 false <| .one 5 false <| .one 6 false <| .one 7 false <| .one 8 false <| .one 9 false <| .one 10 false <| .one 11 false <| .one 12 false <| .one 13 false <| .one 14 false <| .one 15 false <| .one 16 false <| .one 17 false <| .one 18 false <| .one 19 false <| .one 20 false <| .one 21 false <| .one 22 false <| .one 23 false <| .one 24 false <| .one 25 false <| .one 26 false .done) (fun V => V.cell? (ap.add (j * 2)) = some (.int .i64 (f : Int)) ∧ V.cell? (ar.add f) = some (.slice ba bl bc) ∧ Below v1.heap.size v1 V) (by kernel_rfl) (by kernel_rfl) (by kernel_rfl) (by kernel_rfl) ?_
            have hS : v1.drew.cell? (ap.add (j * 2)) = some (.int .i64 (f : Int)) ∧ v1.drew.cell? (ar.add f) = some (.slice ba bl bc) ∧ Below v1.heap.size v1 v1.drew := ⟨h120, h121, (Below.refl _ _).drew⟩
            generalize v1.drew = v2 at *
            ((first | (refine TR.val2 (v := ?_) _ (by simp only [List.getElem?_toArray, List.getElem?_cons_zero]; rfl) ?_ ?_ ?_ ?_ ?_; rotate_left; (focus rfl); (focus (intro W hSW; (try dsimp only at hSW); (try (obtain ⟨hS1, hSW⟩ := hSW)); (try (obtain ⟨hS2, hSW⟩ := hSW)); (try (obtain ⟨hS3, hSW⟩ := hSW)); (try (obtain ⟨hS4, hSW⟩ := hSW)); (try (obtain ⟨hS5, hSW⟩ := hSW)); go_simp; (try with_reducible rfl); done)); (focus exact fun _ _ _ h => h); (focus assumption)) | (refine TR.skip _ (by simp only [List.getElem?_toArray, List.getElem?_cons_zero]; rfl) ?_ ?_ ?_ ?_; (focus rfl); (focus exact fun _ _ _ h => h); (focus assumption))); simp only [Act.put, List.setIfInBounds_toArray, List.set_cons_zero, List.set_cons_succ])
            iterate 18 ((first | (refine TR.val2 (v := ?_) _ (by simp only [List.getElem?_toArray, List.getElem?_cons_succ, List.getElem?_cons_zero]; rfl) ?_ ?_ ?_ ?_ ?_; rotate_left; (focus rfl); (focus (intro W hSW; (try dsimp only at hSW); (try (obtain ⟨hS1, hSW⟩ := hSW)); (try (obtain ⟨hS2, hSW⟩ := hSW)); (try (obtain ⟨hS3, hSW⟩ := hSW)); (try (obtain ⟨hS4, hSW⟩ := hSW)); (try (obtain ⟨hS5, hSW⟩ := hSW)); go_simp; (try with_reducible rfl); done)); (focus exact fun _ _ _ h => h); (focus assumption)) | (refine TR.skip _ (by simp only [List.getElem?_toArray, List.getElem?_cons_succ, List.getElem?_cons_zero]; rfl) ?_ ?_ ?_ ?_; (focus rfl); (focus exact fun _ _ _ h => h); (focus assumption))); simp only [Act.put, List.setIfInBounds_toArray, List.set_cons_zero, List.set_cons_succ])
            refine TR.val2 (v := .string ⟨(chunkB bb Z k2).toArray⟩) _ (by simp only [List.getElem?_toArray, List.getElem?_cons_succ, List.getElem?_cons_zero]; rfl) ?_ ?_ ?_ ?_ ?_
            (focus rfl)
            (focus (intro V hV; have q8 := run_str (c := bc - fx) (Reads.below HR1.out hV.2.2); go_simp))
            (focus exact fun _ _ _ h => h)
            (focus exact hS)
            simp only [Act.put, List.setIfInBounds_toArray, List.set_cons_zero, List.set_cons_succ]
            iterate 4 ((first | (refine TR.val2 (v := ?_) _ (by simp only [List.getElem?_toArray, List.getElem?_cons_succ, List.getElem?_cons_zero]; rfl) ?_ ?_ ?_ ?_ ?_; rotate_left; (focus rfl); (focus (intro W hSW; (try dsimp only at hSW); (try (obtain ⟨hS1, hSW⟩ := hSW)); (try (obtain ⟨hS2, hSW⟩ := hSW)); (try (obtain ⟨hS3, hSW⟩ := hSW)); (try (obtain ⟨hS4, hSW⟩ := hSW)); (try (obtain ⟨hS5, hSW⟩ := hSW)); go_simp; (try with_reducible rfl); done)); (focus exact fun _ _ _ h => h); (focus assumption)) | (refine TR.skip _ (by simp only [List.getElem?_toArray, List.getElem?_cons_succ, List.getElem?_cons_zero]; rfl) ?_ ?_ ?_ ?_; (focus rfl); (focus exact fun _ _ _ h => h); (focus assumption))); simp only [Act.put, List.setIfInBounds_toArray, List.set_cons_zero, List.set_cons_succ])
            refine TR.val2 (v := .string ⟨(chunkB L Z j).toArray⟩) _ (by simp only [List.getElem?_toArray, List.getElem?_cons_succ, List.getElem?_cons_zero]; rfl) ?_ ?_ ?_ ?_ ?_
            (focus rfl)
            (focus (intro V hV; have q8 := run_str (c := c - fr) (Reads.below HR2.out hV.2.2); go_simp))
            (focus exact fun _ _ _ h => h)
            (focus exact hS)
            simp only [Act.put, List.setIfInBounds_toArray, List.set_cons_zero, List.set_cons_succ]
            have PI13 := Lib.hid (PI12.out.below hS.2.2)
            have HB13 := Lib.hid (HB12.out.trans (hS.2.2.mono (by omega)))
            have hz13 := HB13.out.size
            by_cases hbb : chunkB bb Z k2 = chunkB L Z j
            case neg =>
              have hne : ¬ (⟨(chunkB bb Z k2).toArray⟩ : ByteArray) = ⟨(chunkB L Z j).toArray⟩ := fun e => hbb (by injection e with e; injection e)
              refine TR.val2 (v := .bool true) _ (by simp only [List.getElem?_toArray, List.getElem?_cons_succ, List.getElem?_cons_zero]; rfl) ?_ ?_ ?_ ?_ ?_
              (focus rfl)
              (focus (intro V hV; go_simp))
              (focus exact fun _ _ _ h => h)
              (focus exact hS)
              simp only [Act.put, List.setIfInBounds_toArray, List.set_cons_zero, List.set_cons_succ]
              iterate 1 ((first | (refine TR.val2 (v := ?_) _ (by simp only [List.getElem?_toArray, List.getElem?_cons_succ, List.getElem?_cons_zero]; rfl) ?_ ?_ ?_ ?_ ?_; rotate_left; (focus rfl); (focus (intro W hSW; (try dsimp only at hSW); (try (obtain ⟨hS1, hSW⟩ := hSW)); (try (obtain ⟨hS2, hSW⟩ := hSW)); (try (obtain ⟨hS3, hSW⟩ := hSW)); (try (obtain ⟨hS4, hSW⟩ := hSW)); (try (obtain ⟨hS5, hSW⟩ := hSW)); go_simp; (try with_reducible rfl); done)); (focus exact fun _ _ _ h => h); (focus assumption)) | (refine TR.skip _ (by simp only [List.getElem?_toArray, List.getElem?_cons_succ, List.getElem?_cons_zero]; rfl) ?_ ?_ ?_ ?_; (focus rfl); (focus exact fun _ _ _ h => h); (focus assumption))); simp only [Act.put, List.setIfInBounds_toArray, List.set_cons_zero, List.set_cons_succ])
              refine TR.done ?_
              clear hS hne hbb
              go_wp2_with fail
              go_ret
              exact ⟨rfl, hg ▸ (B8.out.trans (HB13.out.mono (by omega)))⟩
            rw [hbb]
            iterate 2 ((first | (refine TR.val2 (v := ?_) _ (by simp only [List.getElem?_toArray, List.getElem?_cons_succ, List.getElem?_cons_zero]; rfl) ?_ ?_ ?_ ?_ ?_; rotate_left; (focus rfl); (focus (intro W hSW; (try dsimp only at hSW); (try (obtain ⟨hS1, hSW⟩ := hSW)); (try (obtain ⟨hS2, hSW⟩ := hSW)); (try (obtain ⟨hS3, hSW⟩ := hSW)); (try (obtain ⟨hS4, hSW⟩ := hSW)); (try (obtain ⟨hS5, hSW⟩ := hSW)); go_simp; (try with_reducible rfl); done)); (focus exact fun _ _ _ h => h); (focus assumption)) | (refine TR.skip _ (by simp only [List.getElem?_toArray, List.getElem?_cons_succ, List.getElem?_cons_zero]; rfl) ?_ ?_ ?_ ?_; (focus rfl); (focus exact fun _ _ _ h => h); (focus assumption))); simp only [Act.put, List.setIfInBounds_toArray, List.set_cons_zero, List.set_cons_succ])
            refine TR.done ?_
            have h130 := hS.1
            have h131 := hS.2.1
            have HR3 := Lib.hid (show BReads v2 v2.heap.size (ba.map (·.add fx)) ln (chunkB L Z j) by rw [← hbb]; exact Reads.more (Reads.below HR1.out hS.2.2) hS.2.2.size)
            clear hS hbb PI12 HB12 h120 h121 HR1 HR2
            go_wp2_with fail
            refine (own_any v2.heap.size _ _ _ (chunkB L Z j) v2 HR3.out (Nat.le_refl _) (by omega)).mono ?_
            rintro e w14 ⟨A14, c14, rfl, o14, b14⟩
            have O14 := Lib.hid (o14.down hz13)
            have HB14 := Lib.hid (HB13.out.trans (b14.mono hz13))
            have PI14 := Lib.hid (PI13.out.below b14)
            have hz14 := HB14.out.size
            clear o14 b14 PI13 HB13 h130 h131 HR3
            have PIb := Lib.hid (PI14.out.alloc (.cells #[.slice A14 ln c14] 25))
            have Ob := Lib.hid (O14.out.alloc (.cells #[.slice A14 ln c14] 25))
            have HBb := Lib.hid (HB14.out.alloc hz14 (.cells #[.slice A14 ln c14] 25))
            have RDb := Lib.hid (show Reads (w14.alloc (.cells #[.slice A14 ln c14] 25)) (w14.heap.size + 1) 1 (some ⟨w14.heap.size, 0, none⟩) 1 [.slice A14 ln c14] from
              ⟨rfl, fun _ => ⟨_, rfl, Nat.lt_succ_self _, fun j u hu => by rw [add_head, cell_new]; simpa using hu⟩⟩)
            have hpm : p.1 ≠ -1 := by rw [HPZ.out]; simp only; omega
            go_wp2_with (first
              | (refine wpList_append_any (w14.alloc (.cells #[.slice A14 ln c14] 25)) rfl (.tmp 200) (.tmp 213) 49 rfl w8.heap.size 25 i1 _ 1 24 Try.underlying49 hi1 hx0 hx1 hx2 rfl (by decide) (.slice A2 n2 c2) n2 (rs2.map fun r : BRow => Value.slice r.1 r.2.1 r.2.2.1) rfl PIb.out.out.row (w14.heap.size + 1) (some ⟨w14.heap.size, 0, none⟩) 1 1 [.slice A14 ln c14] rfl RDb.out (by intro u hu; obtain rfl := List.mem_singleton.1 hu; rfl) (by simp only [maxLen]; omega) (by omega) (by simp; omega) ?_
                 intro v' w15 ho15 hg15 hw15
                 obtain ⟨A15, c15, rfl, _⟩ := own_shape ho15)
              | fail)
            have PI15 := Lib.hid (PIb.out.snoc2 (r := (A14, ln, c14, chunkB L Z j)) HP.out hpm Ob.out rfl ho15 hg15 hw15)
            have HB15 := Lib.hid (HBb.out.grown hg15 (by simp; omega) (fun jj hjj => (PIb.out.out.row.lt jj hjj).1))
            clear ho15 hg15 hw15 PIb Ob HBb RDb O14 PI14 HB14 hpm
            go_roundw
            case rel => exact ⟨j + 1, q, n2 + 1, A11, c11, _, A15, c15, _, hlt, by go_num, rfl, rfl, rfl, PI15.out, HB15.out⟩
            case measure => simp [intOf]; omega
        · obtain rfl : j = n8 := by omega
          have HCN2 := Lib.hid (show chunkN m Z ≤ 1024 by rw [HNN.out]; exact hcn)
          have D9 := Lib.hid (D8.out.below (HB.out.mono (by omega)))
          have PV := put_v (Z : Int) (m : Int) A3 j c3 (cutL L Z) rs1 A1 j c1 wr.heap.size wr (Reads.more D9.out (by omega)) (RowsIn.of_ownRows HPI.out.own) (Nat.le_refl _) (by omega) (by omega) (fun r hr => Nat.le_trans (PutI.small HPI.out.own HPI.out.b1 r hr) (by omega))
          rw [putP_blocks HLL.out hZ2 (show Z ≤ 65536 by omega) (show m ≤ 4194304 by omega) HCN2.out (by rw [HPI.out.own.len, HNN.out]) (by rw [HNN.out]; exact HPI.out.b1)] at PV
          simp only [HLL.out] at PV
          go_wp2_with (first
            | (refine wpList_load_row rfl 24 (.tmp 9) rfl g9 rfl 24 _ (0, 0) _ XR.out Try.underlying24 rfl HI.out ?_)
            | fail)
          refine PV.mono ?_
          rintro e w9 ⟨A9, c9, rfl, o9, b9⟩
          have HB9 := Lib.hid (HB.out.trans (b9.mono hzb))
          have PI9 := Lib.hid (HPI.out.below b9)
          have hz9 := HB9.out.size
          have X9 := Lib.hid ((b9.block g9 (by omega)).trans XR.out)
          have B9 := Lib.hid (B8.out.trans (HB9.out.mono (by omega)))
          have D10 := Lib.hid (D9.out.below (b9.mono (by omega)))
          have c90 : w9.cell? ⟨g9, 0, none⟩ = some (.int .i64 (Z : Int)) := by rw [cell_of_row _ _ 0 _ _ _ X9.out]; rfl
          have c91 : w9.cell? ⟨g9, 1, none⟩ = some (.int .i64 (m : Int)) := by rw [cell_of_row _ _ 1 _ _ _ X9.out]; rfl
          have c92 : w9.cell? ⟨g9, 2, none⟩ = some (.slice A3 j c3) := by rw [cell_of_row _ _ 2 _ _ _ X9.out]; rfl
          have q8 := run_str (c := c9) o9.reads
          have q9 := run_str (c := c) (Reads.below HA.out B9.out)
          have S9 := Lib.hid (S8.out.below HB9.out)
          have WV := wanted_v (Z : Int) (m : Int) A3 j c3 (cutL L Z) ps A8 j c8 w9.heap.size w9 (Reads.more S9.out hz9) (Reads.more D10.out (by omega)) (Nat.le_refl _) (by omega) (by omega)
          obtain ⟨wn, hwn⟩ : ∃ wn, (wantP ps (cutL L Z)).length = wn := ⟨_, rfl⟩
          have HWN := Lib.hid (show wn = 0 ↔ q = 0 from by
            have h1 := want_nil (ps.zip (cutL L Z)).length (ps.zip (cutL L Z)) rfl
            have h2 : wantP ps (cutL L Z) = wantF (ps.zip (cutL L Z)) := by unfold wantP; rw [if_pos (by rw [HPL.out, cutL_len HLL.out, HNN.out])]
            rw [h2] at hwn
            have h3 := HPI.out.qz
            rw [List.take_of_length_le (by rw [HPL.out]; exact Nat.le_refl _)] at h3
            rw [h3, ← hwn, List.length_eq_zero_iff, h1]
            constructor
            · intro h y hy
              obtain ⟨i, hi, rfl⟩ := List.getElem_of_mem hy
              have hic : i < (cutL L Z).length := by rw [cutL_len HLL.out, HNN.out, ← HPL.out]; exact hi
              exact h (ps[i], (cutL L Z)[i]) (List.mem_iff_getElem.2 ⟨i, by rw [List.length_zip]; omega, by rw [List.getElem_zip]⟩)
            · intro h y hy
              exact h y.1 (List.of_mem_zip hy).1)
          simp only [hwn] at WV
          clear b9 PV hwn HPI HB XR D9
          have HO9 := Lib.hid o9
          clear o9
          by_cases hq : q = 0
          · have hwq : wn = 0 := HWN.out.2 hq
            obtain ⟨hnj, hb2⟩ := PI9.out.b2 hq
            have HB2 := Lib.hid hb2
            subst hq hwq hnj
            clear hb2 HWN
            go_wp2_with fail
            refine WV.mono ?_
            rintro e w10 ⟨A10, c10, rfl, _, b10⟩
            have HB10 := Lib.hid (HB9.out.trans (b10.mono hz9))
            have PI10 := Lib.hid (PI9.out.below b10)
            have hz10 := b10.size
            have X10 := Lib.hid ((b10.block g9 (by omega)).trans X9.out)
            have B10 := Lib.hid (B8.out.trans (HB10.out.mono (by omega)))
            have PV2 := put_v (Z : Int) (m : Int) A3 n2 c3 (cutL L Z) rs2 A2 n2 c2 w10.heap.size w10 (Reads.more (D10.out.below (b10.mono (by omega))) (by omega)) (RowsIn.of_ownRows PI10.out.out) (Nat.le_refl _) (by omega) (by omega) (fun r hr => Nat.le_trans (PutI.small PI10.out.out HB2.out r hr) (by omega))
            rw [putP_blocks HLL.out hZ2 (show Z ≤ 65536 by omega) (show m ≤ 4194304 by omega) HCN2.out (by rw [PI10.out.out.len, HNN.out]) (by rw [HNN.out]; exact HB2.out)] at PV2
            simp only [HLL.out] at PV2
            clear b10 WV q8 q9 c90 c91 c92
            go_wp2_with (first
              | (refine wpList_load_row rfl 24 (.tmp 9) rfl g9 rfl 24 _ (0, 0) _ X10.out Try.underlying24 rfl HI.out ?_)
              | fail)
            refine PV2.mono ?_
            rintro e w11 ⟨A11, c11, rfl, o11, b11⟩
            have B11 := Lib.hid (B10.out.trans (b11.mono (by omega)))
            have q8 := run_str (c := c11) o11.reads
            have q9 := run_str (c := c) (Reads.below HA.out B11.out)
            clear b11 o11 PV2
            go_wp2_with fail
            go_ret
            exact ⟨rfl, hg ▸ B11.out⟩
          · have hwq : ¬ wn = 0 := fun h => hq (HWN.out.1 h)
            have d1 : ((q : Int) == 0) = false := beq_eq_false_iff_ne.2 (by omega)
            have d2 : ((wn : Int) == 0) = false := beq_eq_false_iff_ne.2 (by omega)
            have d5 : decide (0 < q) = true := decide_eq_true (by omega)
            clear HWN
            go_wp2_with fail
            refine WV.mono ?_
            rintro e w10 ⟨A10, c10, rfl, _, b10⟩
            have B10 := Lib.hid (B9.out.trans (b10.mono (by omega)))
            clear b10 WV q8 q9 c90 c91 c92
            go_wp2_with fail
            go_ret
            exact ⟨rfl, hg ▸ B10.out⟩
end Go.Proofs.Ytmaehbebpldpcaa
