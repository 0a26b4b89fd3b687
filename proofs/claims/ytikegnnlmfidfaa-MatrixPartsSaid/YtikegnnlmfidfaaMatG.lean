/-
  Matrices: rows of integers compared; Same; LightMatrix.
-/
import Derived.Test.YtikegnnlmfidfaaMatF
namespace Go.Proofs.Ytikegnnlmfidfaa
open Go.RowKit
set_option maxRecDepth 100000 in
set_option maxHeartbeats 4000000 in
theorem ints_v (A A' : Option Addr) (n c n' c' B : Nat) (l l' : List Int) (w : World) (hr : IReads w B A n l) (hr' : IReads w B A' n' l') (hn : n ≤ 9223372036854775807) (hn' : n' ≤ 9223372036854775807) :
    Calls Try.prog 36 #[.slice A n c, .slice A' n' c'] w fun e w' => e = .returned (.bool (decide (l = l'))) ∧ Below w.heap.size w w' := by
  have HR := Lib.hid hr
  have HR' := Lib.hid hr'
  have HL := Lib.hid hr.len
  have HL' := Lib.hid hr'.len
  clear hr hr'
  go_enter Try.func36, Try.ntmps36
  by_cases hnn : n = n'
  case neg =>
    have d1 : ((n : Int) != (n' : Int)) = true := by simp; omega
    have HE := Lib.hid (show decide (l = l') = false from decide_eq_false fun e => hnn (by rw [← HL.out, ← HL'.out, e]))
    clear hnn
    go_wp2_with fail
    go_ret
    exact ⟨by rw [HE.out]; rfl, Below.refl _ _⟩
  subst hnn
  go_wp2_with fail
  go_loopw [5] (fun i wr => ∃ k : Nat, k ≤ n ∧ i = .int .i64 (k : Int) ∧ l.take k = l'.take k ∧ Below w.heap.size w wr) (fun i _ => n - (intOf i).toNat)
  case atStart => exact ⟨0, Nat.zero_le _, rfl, by simp, Below.refl _ _⟩
  case round =>
    obtain ⟨k, hk, rfl, ht, hb⟩ := hrel
    have HT := Lib.hid ht
    have HB := Lib.hid hb
    clear ht hb
    by_cases hlt : k < n
    · obtain ⟨ad, x, rfl, hx, hc⟩ := HR.out.at_ hlt
      obtain ⟨ad', x', rfl, hx', hc'⟩ := HR'.out.at_ hlt
      have HX := Lib.hid hx
      have HX' := Lib.hid hx'
      have k0 : (0 : Int) ≤ (k : Int) := by omega
      have q0 : wr.cell? (ad.add k) = some (.int .i64 x) := by
        have h1 := hc w (Below.refl _ _)
        exact (HB.out.cell (World.block_lt_of_cell? w _ h1)).trans h1
      have q1 : wr.cell? (ad'.add k) = some (.int .i64 x') := by
        have h1 := hc' w (Below.refl _ _)
        exact (HB.out.cell (World.block_lt_of_cell? w _ h1)).trans h1
      clear hx hx' hc hc'
      by_cases hd : x = x'
      · have d1 : (x != x') = false := by simpa using hd
        have HN := Lib.hid (show l.take (k + 1) = l'.take (k + 1) by rw [List.take_add_one, List.take_add_one, HT.out, HX.out, HX'.out, hd])
        clear hd
        go_upto_region 6 with fail
        go_quiet (fail)
        go_wp2_with fail
        go_roundw
        case rel => exact ⟨k + 1, hlt, by go_num, HN.out, below_drewN HB.out _⟩
        case measure => simp [intOf]; omega
      · have d1 : (x != x') = true := by simpa using hd
        have HN := Lib.hid (show decide (l = l') = false from decide_eq_false fun e => by
          have h1 := HX.out
          rw [e, HX'.out] at h1
          exact hd (Option.some.inj h1).symm)
        clear hd
        go_upto_region 6 with fail
        go_quiet (fail)
        go_wp2_with fail
        go_ret
        exact ⟨by rw [HN.out]; rfl, below_drewN HB.out _⟩
    · obtain rfl : k = n := by omega
      have HN := Lib.hid (show decide (l = l') = true from decide_eq_true (by
        have h1 := HT.out
        rwa [List.take_of_length_le (by rw [HL.out]; exact Nat.le_refl _), List.take_of_length_le (by rw [HL'.out]; exact Nat.le_refl _)] at h1))
      go_wp2_with fail
      go_ret
      exact ⟨by rw [HN.out]; rfl, HB.out⟩
set_option maxRecDepth 100000 in
set_option maxHeartbeats 4000000 in
theorem eqInts_v (A A' : Option Addr) (n c n' c' B : Nat) (l l' : List Int) (w : World) (hr : IReads w B A n l) (hr' : IReads w B A' n' l') (hn : n ≤ 9223372036854775807) (hn' : n' ≤ 9223372036854775807) :
    Calls Try.prog 51 #[.slice A n c, .slice A' n' c'] w fun e w' => e = .returned (.bool (decide (l = l'))) ∧ Below w.heap.size w w' := by
  have HR := Lib.hid hr
  have HR' := Lib.hid hr'
  have HL := Lib.hid hr.len
  have HL' := Lib.hid hr'.len
  clear hr hr'
  go_enter Try.func51, Try.ntmps51
  by_cases hnn : n = n'
  case neg =>
    have d1 : ((n : Int) != (n' : Int)) = true := by simp; omega
    have HE := Lib.hid (show decide (l = l') = false from decide_eq_false fun e => hnn (by rw [← HL.out, ← HL'.out, e]))
    clear hnn
    go_wp2_with fail
    go_ret
    exact ⟨by rw [HE.out]; rfl, Below.refl _ _⟩
  subst hnn
  go_wp2_with fail
  go_loopw [13] (fun i wr => ∃ k : Nat, k ≤ n ∧ i = .int .i64 (k : Int) ∧ l.take k = l'.take k ∧ Below w.heap.size w wr) (fun i _ => n - (intOf i).toNat)
  case atStart => exact ⟨0, Nat.zero_le _, rfl, by simp, Below.refl _ _⟩
  case round =>
    obtain ⟨k, hk, rfl, ht, hb⟩ := hrel
    have HT := Lib.hid ht
    have HB := Lib.hid hb
    clear ht hb
    by_cases hlt : k < n
    · obtain ⟨ad, x, rfl, hx, hc⟩ := HR.out.at_ hlt
      obtain ⟨ad', x', rfl, hx', hc'⟩ := HR'.out.at_ hlt
      have HX := Lib.hid hx
      have HX' := Lib.hid hx'
      have k0 : (0 : Int) ≤ (k : Int) := by omega
      have q0 : wr.cell? (ad.add k) = some (.int .i64 x) := by
        have h1 := hc w (Below.refl _ _)
        exact (HB.out.cell (World.block_lt_of_cell? w _ h1)).trans h1
      have q1 : wr.cell? (ad'.add k) = some (.int .i64 x') := by
        have h1 := hc' w (Below.refl _ _)
        exact (HB.out.cell (World.block_lt_of_cell? w _ h1)).trans h1
      clear hx hx' hc hc'
      by_cases hd : x = x'
      · have d1 : (x != x') = false := by simpa using hd
        have HN := Lib.hid (show l.take (k + 1) = l'.take (k + 1) by rw [List.take_add_one, List.take_add_one, HT.out, HX.out, HX'.out, hd])
        clear hd
        go_upto_region 6 with fail
        go_quiet (fail)
        go_wp2_with fail
        go_roundw
        case rel => exact ⟨k + 1, hlt, by go_num, HN.out, below_drewN HB.out _⟩
        case measure => simp [intOf]; omega
      · have d1 : (x != x') = true := by simpa using hd
        have HN := Lib.hid (show decide (l = l') = false from decide_eq_false fun e => by
          have h1 := HX.out
          rw [e, HX'.out] at h1
          exact hd (Option.some.inj h1).symm)
        clear hd
        go_upto_region 6 with fail
        go_quiet (fail)
        go_wp2_with fail
        go_ret
        exact ⟨by rw [HN.out]; rfl, below_drewN HB.out _⟩
    · obtain rfl : k = n := by omega
      have HN := Lib.hid (show decide (l = l') = true from decide_eq_true (by
        have h1 := HT.out
        rwa [List.take_of_length_le (by rw [HL.out]; exact Nat.le_refl _), List.take_of_length_le (by rw [HL'.out]; exact Nat.le_refl _)] at h1))
      go_wp2_with fail
      go_ret
      exact ⟨by rw [HN.out]; rfl, HB.out⟩
set_option maxRecDepth 100000 in
set_option maxHeartbeats 4000000 in
theorem same1_v (rf rf' : ByteArray) (ra ra' : Option Addr) (rn rc rn' rc' B : Nat) (ds ds' : List Int) (w : World) (hr : IReads w B ra rn ds) (hr' : IReads w B ra' rn' ds') (hB : B ≤ w.heap.size) (hn : rn ≤ 9223372036854775807) (hn' : rn' ≤ 9223372036854775807) :
    Calls Try.prog 50 #[.agg #[.string rf, .slice ra rn rc], .agg #[.string rf', .slice ra' rn' rc']] w fun e w' => e = .returned (.bool (decide ((rf, ds) = (rf', ds')))) ∧ Below w.heap.size w w' := by
  have HR := Lib.hid hr
  have HR' := Lib.hid hr'
  have B0 := Lib.hid (((Below.refl w.heap.size w).alloc (Nat.le_refl _) (.cells #[.string rf, .slice ra rn rc] 56)).alloc (by simp) (.cells #[.string rf', .slice ra' rn' rc'] 56))
  clear hr hr'
  go_enter Try.func50, Try.ntmps50
  by_cases hf : rf = rf'
  · have d1 : (rf.toList == rf'.toList) = true := (kbeq_iff rf rf').2 hf
    have HE := Lib.hid (show decide ((rf, ds) = (rf', ds')) = decide (ds = ds') from decide_eq_decide.2 ⟨fun h => congrArg Prod.snd h, fun h => by rw [hf, h]⟩)
    clear hf
    go_wp2_with fail
    refine (eqInts_v ra ra' rn rc rn' rc' B ds ds' _ (HR.out.below (B0.out.mono hB)) (HR'.out.below (B0.out.mono hB)) hn hn').mono ?_
    rintro e w1 ⟨rfl, b1⟩
    have B1 := Lib.hid (B0.out.trans (b1.mono (by simp; omega)))
    clear b1
    go_wp2_with fail
    go_ret
    exact ⟨by rw [HE.out]; rfl, B1.out⟩
  · have d1 : (rf.toList == rf'.toList) = false := (kbeq_false rf rf').2 hf
    have HE := Lib.hid (show decide ((rf, ds) = (rf', ds')) = false from decide_eq_false fun h => hf (congrArg Prod.fst h))
    clear hf
    go_wp2_with fail
    go_ret
    exact ⟨by rw [HE.out]; rfl, B0.out⟩
set_option maxRecDepth 100000 in
set_option maxHeartbeats 8000000 in
theorem eqFunc_v (A A' : Option Addr) (n c n' c' B : Nat) (rs rs' : List Rw) (w : World) (hr : RowsR w B A n rs) (hr' : RowsR w B A' n' rs') (hB : B ≤ w.heap.size) (hn : n ≤ 9223372036854775807) (hn' : n' ≤ 9223372036854775807) :
    Calls Try.prog 49 #[.slice A n c, .slice A' n' c', .func (.func 50) #[] #[]] w fun e w' => e = .returned (.bool (decide (rs.map Rw.p = rs'.map Rw.p))) ∧ Below w.heap.size w w' := by
  have HI := Lib.hid (show (Try.prog.info? 56).map (·.size) = some 2 by kernel_rfl)
  have HR := Lib.hid hr
  have HR' := Lib.hid hr'
  have HL := Lib.hid hr.len
  have HL' := Lib.hid hr'.len
  clear hr hr'
  go_enter Try.func49, Try.ntmps49
  by_cases hnn : n = n'
  case neg =>
    have d1 : ((n : Int) != (n' : Int)) = true := by simp; omega
    have HE := Lib.hid (show decide (rs.map Rw.p = rs'.map Rw.p) = false from decide_eq_false fun e => hnn (by have := congrArg List.length e; rw [List.length_map, List.length_map, HL.out, HL'.out] at this; exact this))
    clear hnn
    go_wp2_with fail
    go_ret
    exact ⟨by rw [HE.out]; rfl, Below.refl _ _⟩
  subst hnn
  go_wp2_with fail
  go_loopw [17] (fun i wr => ∃ k : Nat, k ≤ n ∧ i = .int .i64 (k : Int) ∧ (rs.map Rw.p).take k = (rs'.map Rw.p).take k ∧ Below w.heap.size w wr) (fun i _ => n - (intOf i).toNat)
  case atStart => exact ⟨0, Nat.zero_le _, rfl, by simp, Below.refl _ _⟩
  case round =>
    obtain ⟨k, hk, rfl, ht, hb⟩ := hrel
    have HT := Lib.hid ht
    have HB := Lib.hid hb
    clear ht hb
    by_cases hlt : k < n
    · obtain ⟨ad, rf, ra, rn, rc, ds, rfl, hx, ⟨hri, hrn, hrc, _⟩, hcs, _⟩ := HR.out.at_ hlt
      obtain ⟨ad', rf', ra', rn', rc', ds', rfl, hx', ⟨hri', hrn', hrc', _⟩, hcs', _⟩ := HR'.out.at_ hlt
      have HX := Lib.hid (p_at hx)
      have HX' := Lib.hid (p_at hx')
      have k0 : (0 : Int) ≤ (k : Int) := by omega
      have B1 := Lib.hid (HB.out.alloc HB.out.size (.cells #[.string rf, .slice ra rn rc] 56))
      have B2 := Lib.hid (B1.out.alloc B1.out.size (.cells #[.string rf', .slice ra' rn' rc'] 56))
      have HCS := Lib.hid (hcs wr (HB.out.mono hB))
      have HCS' := Lib.hid (hcs' (wr.alloc (.cells #[.string rf, .slice ra rn rc] 56)) (B1.out.mono hB))
      have SV := same1_v rf rf' ra ra' rn rc rn' rc' B ds ds' ((wr.alloc (.cells #[.string rf, .slice ra rn rc] 56)).alloc (.cells #[.string rf', .slice ra' rn' rc'] 56)) (hri.below (B2.out.mono hB)) (hri'.below (B2.out.mono hB)) (Nat.le_trans hB B2.out.size) (by omega) (by omega)
      have HSV := Lib.hid SV
      clear hx hx' hcs hcs' hri hri' SV
      go_wp2_with (first
        | (refine wpList_load_slot rfl 56 (.tmp 20) rfl (ad.add (k * 2)) rfl [.string rf, .slice ra rn rc] _ HCS.out Try.underlying56 rfl HI.out ?_)
        | (refine wpList_load_slot rfl 56 (.tmp 24) rfl (ad'.add (k * 2)) rfl [.string rf', .slice ra' rn' rc'] _ HCS'.out Try.underlying56 rfl HI.out ?_)
        | fail)
      refine HSV.out.mono ?_
      rintro e w1 ⟨rfl, b1⟩
      have HB1 := Lib.hid (B2.out.trans (b1.mono B2.out.size))
      clear b1
      by_cases hd : (rf, ds) = (rf', ds')
      · rw [decide_eq_true hd]
        have HN := Lib.hid (show (rs.map Rw.p).take (k + 1) = (rs'.map Rw.p).take (k + 1) by rw [List.take_add_one, List.take_add_one, HT.out, HX.out, HX'.out, hd])
        clear hd
        go_wp2_with fail
        go_roundw
        case rel => exact ⟨k + 1, hlt, by go_num, HN.out, HB1.out⟩
        case measure => simp [intOf]; omega
      · rw [decide_eq_false hd]
        have HN := Lib.hid (show decide (rs.map Rw.p = rs'.map Rw.p) = false from decide_eq_false fun e => by
          have h1 := HX.out
          rw [e, HX'.out] at h1
          exact hd (Option.some.inj h1).symm)
        clear hd
        go_wp2_with fail
        go_ret
        exact ⟨by rw [HN.out]; rfl, HB1.out⟩
    · obtain rfl : k = n := by omega
      have HN := Lib.hid (show decide (rs.map Rw.p = rs'.map Rw.p) = true from decide_eq_true (by
        have h1 := HT.out
        rwa [List.take_of_length_le (by rw [List.length_map, HL.out]; exact Nat.le_refl _), List.take_of_length_le (by rw [List.length_map, HL'.out]; exact Nat.le_refl _)] at h1))
      go_wp2_with fail
      go_ret
      exact ⟨by rw [HN.out]; rfl, HB.out⟩
set_option maxRecDepth 100000 in
set_option maxHeartbeats 8000000 in
theorem same_v (oa ob : Int) (A A' : Option Addr) (n c n' c' B : Nat) (rs rs' : List Rw) (w : World) (hr : RowsR w B A n rs) (hr' : RowsR w B A' n' rs') (hB : B ≤ w.heap.size) (hn : n ≤ 9223372036854775807) (hn' : n' ≤ 9223372036854775807) :
    Calls Try.prog 24 #[.agg #[.int .i64 oa, .slice A n c], .agg #[.int .i64 ob, .slice A' n' c']] w fun e w' => e = .returned (.bool (sameM (oa, rs.map Rw.p) (ob, rs'.map Rw.p))) ∧ Below w.heap.size w w' := by
  have HR := Lib.hid hr
  have HR' := Lib.hid hr'
  have B0 := Lib.hid (((Below.refl w.heap.size w).alloc (Nat.le_refl _) (.cells #[.int .i64 oa, .slice A n c] 27)).alloc (by simp) (.cells #[.int .i64 ob, .slice A' n' c'] 27))
  have X0 := Lib.hid (show ((w.alloc (.cells #[.int .i64 oa, .slice A n c] 27)).alloc (.cells #[.int .i64 ob, .slice A' n' c'] 27)).heap[w.heap.size]? = some (.cells #[.int .i64 oa, .slice A n c] 27 (0, 0)) from (Below.heap_alloc _ _ _ (by simp)).trans (heap_alloc_new w _))
  have Y0 := Lib.hid (show ((w.alloc (.cells #[.int .i64 oa, .slice A n c] 27)).alloc (.cells #[.int .i64 ob, .slice A' n' c'] 27)).heap[w.heap.size + 1]? = some (.cells #[.int .i64 ob, .slice A' n' c'] 27 (0, 0)) from by
    have h := heap_alloc_new (w.alloc (.cells #[.int .i64 oa, .slice A n c] 27)) (.cells #[.int .i64 ob, .slice A' n' c'] 27)
    simpa using h)
  have hz0 : ((w.alloc (.cells #[.int .i64 oa, .slice A n c] 27)).alloc (.cells #[.int .i64 ob, .slice A' n' c'] 27)).heap.size = w.heap.size + 2 := by simp
  clear hr hr'
  go_enter Try.func24, Try.ntmps24
  go_upto_region 1 with fail
  generalize (w.alloc (.cells #[.int .i64 oa, .slice A n c] 27)).alloc (.cells #[.int .i64 ob, .slice A' n' c'] 27) = w0 at *
  generalize hg : w.heap.size = g at *
  have KC : Hid (∀ V, Below w0.heap.size w0 V → V.cell? ⟨g, 0, none⟩ = some (.int .i64 oa) ∧ V.cell? ⟨g, 1, none⟩ = some (.slice A n c) ∧ V.cell? ⟨g + 1, 0, none⟩ = some (.int .i64 ob) ∧ V.cell? ⟨g + 1, 1, none⟩ = some (.slice A' n' c')) := Lib.hid fun V hV => by
    have h1 := (hV.block g (by omega)).trans X0.out
    have h2 := (hV.block (g + 1) (by omega)).trans Y0.out
    exact ⟨by rw [cell_of_row _ _ 0 _ _ _ h1]; rfl, by rw [cell_of_row _ _ 1 _ _ _ h1]; rfl, by rw [cell_of_row _ _ 0 _ _ _ h2]; rfl, by rw [cell_of_row _ _ 1 _ _ _ h2]; rfl⟩
  obtain ⟨c00, c01, c02, c03⟩ := KC.out w0 (Below.refl _ _)
  go_wp2_with fail
  have CV := check_v oa A n c B rs w0 (HR.out.below (B0.out.mono hB)) (by omega) hn
  obtain ⟨ck, hck⟩ : ∃ ck, chkM (oa, rs.map Rw.p) = ck := ⟨_, rfl⟩
  have HCK := Lib.hid hck
  rw [hck] at CV
  clear hck
  refine CV.mono ?_
  rintro e w1 ⟨rfl, b1⟩
  have B1 := Lib.hid (B0.out.trans (b1.mono (by omega)))
  have BB1 := Lib.hid b1
  have hz1 := b1.size
  clear b1 CV c00 c01 c02 c03
  by_cases h0 : ck = 0
  case neg =>
    have d1 : ((ck : Int) == 0) = false := beq_eq_false_iff_ne.2 (by omega)
    have HE := Lib.hid (show sameM (oa, rs.map Rw.p) (ob, rs'.map Rw.p) = false by unfold sameM; rw [HCK.out, decide_eq_false h0]; rfl)
    clear h0
    go_wp2_with fail
    go_ret
    exact ⟨by rw [HE.out]; rfl, hg ▸ B1.out⟩
  subst h0
  obtain ⟨c10, c11, c12, c13⟩ := KC.out w1 BB1.out
  go_wp2_with fail
  have CV := check_v ob A' n' c' B rs' w1 (HR'.out.below (B1.out.mono hB)) (by omega) hn'
  obtain ⟨ck, hck⟩ : ∃ ck, chkM (ob, rs'.map Rw.p) = ck := ⟨_, rfl⟩
  have HCK' := Lib.hid hck
  rw [hck] at CV
  clear hck
  refine CV.mono ?_
  rintro e w2 ⟨rfl, b2⟩
  have B2 := Lib.hid (B1.out.trans (b2.mono (by omega)))
  have BB2 := Lib.hid (BB1.out.trans (b2.mono (by omega)))
  have hz2 := b2.size
  clear b2 CV c10 c11 c12 c13
  by_cases h0 : ck = 0
  case neg =>
    have d1 : ((ck : Int) == 0) = false := beq_eq_false_iff_ne.2 (by omega)
    have HE := Lib.hid (show sameM (oa, rs.map Rw.p) (ob, rs'.map Rw.p) = false by unfold sameM; rw [HCK'.out, decide_eq_false h0]; simp)
    clear h0
    go_wp2_with fail
    go_ret
    exact ⟨by rw [HE.out]; rfl, hg ▸ B2.out⟩
  subst h0
  obtain ⟨c20, c21, c22, c23⟩ := KC.out w2 BB2.out
  by_cases ho : oa = ob
  case neg =>
    have d1 : (oa == ob) = false := beq_eq_false_iff_ne.2 ho
    have HE := Lib.hid (show sameM (oa, rs.map Rw.p) (ob, rs'.map Rw.p) = false by unfold sameM; rw [decide_eq_false ho]; simp)
    clear ho
    go_wp2_with fail
    go_ret
    exact ⟨by rw [HE.out]; rfl, hg ▸ B2.out⟩
  have d1 : (oa == ob) = true := beq_iff_eq.2 ho
  have HE := Lib.hid (show sameM (oa, rs.map Rw.p) (ob, rs'.map Rw.p) = decide (rs.map Rw.p = rs'.map Rw.p) by unfold sameM; rw [HCK.out, HCK'.out, decide_eq_true ho]; rfl)
  clear ho
  go_wp2_with fail
  refine (eqFunc_v A A' n c n' c' B rs rs' w2 (HR.out.below (B2.out.mono hB)) (HR'.out.below (B2.out.mono hB)) (by omega) hn hn').mono ?_
  rintro e w3 ⟨rfl, b3⟩
  have B3 := Lib.hid (B2.out.trans (b3.mono (by omega)))
  clear b3 c20 c21 c22 c23 d1
  go_wp2_with fail
  go_ret
  exact ⟨by rw [HE.out]; rfl, hg ▸ B3.out⟩
def lightM (rs : List Rw) (m : Nat) : Bool := (rs.all fun r => decide (r.f.size ≤ m) && decide (r.n ≤ m)) && decide (rs.length ≤ m)
set_option maxRecDepth 100000 in
set_option maxHeartbeats 8000000 in
theorem light_v (own : Int) (A : Option Addr) (n c B m : Nat) (rs : List Rw) (w : World) (hr : RowsR w B A n rs) (hB : B ≤ w.heap.size) (hn : n ≤ 9223372036854775807) (hm : m ≤ 1000000) :
    Calls Try.prog 10 #[.agg #[.int .i64 own, .slice A n c], .int .i64 (m : Int)] w fun e w' => e = .returned (.bool (lightM rs m)) ∧ Below w.heap.size w w' := by
  have HR := Lib.hid hr
  have HLN := Lib.hid hr.len
  have B0 := Lib.hid ((Below.refl w.heap.size w).alloc (Nat.le_refl _) (.cells #[.int .i64 own, .slice A n c] 27))
  have X0 := Lib.hid (heap_alloc_new w (.cells #[.int .i64 own, .slice A n c] 27))
  have hz0 : (w.alloc (.cells #[.int .i64 own, .slice A n c] 27)).heap.size = w.heap.size + 1 := by simp
  clear hr
  go_enter Try.func10, Try.ntmps10
  go_wp2_with fail
  generalize w.alloc (.cells #[.int .i64 own, .slice A n c] 27) = w0 at *
  generalize hg : w.heap.size = g at *
  have c00 : w0.cell? ⟨g, 0, none⟩ = some (.int .i64 own) := by rw [cell_of_row _ _ 0 _ _ _ X0.out]; rfl
  have c01 : w0.cell? ⟨g, 1, none⟩ = some (.slice A n c) := by rw [cell_of_row _ _ 1 _ _ _ X0.out]; rfl
  go_loopw [5] (fun i wr => ∃ k : Nat, k ≤ n ∧ i = .int .i64 (k : Int) ∧ (∀ r ∈ rs.take k, r.f.size ≤ m ∧ r.n ≤ m) ∧ w0 = wr) (fun i _ => n - (intOf i).toNat)
  case atStart => exact ⟨0, Nat.zero_le _, rfl, by simp, rfl⟩
  case round =>
    obtain ⟨k, hk, rfl, ht, rfl⟩ := hrel
    have HT := Lib.hid ht
    clear ht
    by_cases hlt : k < n
    · have e1 : decide (k < n) = true := decide_eq_true hlt
      by_cases hkm : k ≤ m
      · have e2 : decide (k ≤ m) = true := decide_eq_true hkm
        obtain ⟨ad, rf, ra, rn, rc, ds, rfl, hx, ⟨_, hrn, hrc, hfs⟩, _, hc⟩ := HR.out.at_ hlt
        obtain ⟨q0, q1⟩ := hc w0 (B0.out.mono hB)
        have HX := Lib.hid hx
        have k0 : (0 : Int) ≤ (k : Int) := by omega
        clear hx hc
        by_cases h1 : m < rf.size
        · have d1 : decide (m < rf.size) = true := decide_eq_true h1
          have HE := Lib.hid (show lightM rs m = false by
            unfold lightM
            rw [Bool.and_eq_false_iff]
            left
            rw [List.all_eq_false]
            exact ⟨_, List.mem_of_getElem? HX.out, by simp; omega⟩)
          go_wp2_with fail
          go_ret
          exact ⟨by rw [HE.out]; rfl, hg ▸ B0.out⟩
        have d1 : decide (m < rf.size) = false := decide_eq_false h1
        by_cases h2 : m < rn
        · have d2 : decide (m < rn) = true := decide_eq_true h2
          have HE := Lib.hid (show lightM rs m = false by
            unfold lightM
            rw [Bool.and_eq_false_iff]
            left
            rw [List.all_eq_false]
            exact ⟨_, List.mem_of_getElem? HX.out, by simp; omega⟩)
          go_wp2_with fail
          go_ret
          exact ⟨by rw [HE.out]; rfl, hg ▸ B0.out⟩
        have d2 : decide (m < rn) = false := decide_eq_false h2
        have HN := Lib.hid (show ∀ r ∈ rs.take (k + 1), r.f.size ≤ m ∧ r.n ≤ m from fun y hy => by
          rw [List.take_add_one, HX.out] at hy
          rcases List.mem_append.1 hy with hy | hy
          · exact HT.out y hy
          · obtain rfl : y = ⟨rf, ra, rn, rc, ds⟩ := by simpa using hy
            exact ⟨by simp only; omega, by simp only; omega⟩)
        go_wp2_with fail
        go_roundw
        case rel => exact ⟨k + 1, hlt, by go_num, HN.out, by trivial⟩
        case measure => simp [intOf]; omega
      · have e2 : decide (k ≤ m) = false := decide_eq_false hkm
        have e3 : decide (n ≤ m) = false := decide_eq_false (by omega)
        have HE := Lib.hid (show lightM rs m = false by unfold lightM; rw [HLN.out, e3]; simp)
        go_wp2_with fail
        go_ret
        exact ⟨by rw [HE.out]; rfl, hg ▸ B0.out⟩
    · obtain rfl : k = n := by omega
      have HE := Lib.hid (show lightM rs m = decide (k ≤ m) by
        unfold lightM
        rw [HLN.out, List.all_eq_true.2, Bool.true_and]
        intro r hr
        have h1 := HT.out
        rw [List.take_of_length_le (by rw [HLN.out]; exact Nat.le_refl _)] at h1
        have h2 := h1 r hr
        simp [h2.1, h2.2])
      go_wp2_with fail
      go_ret
      exact ⟨by rw [HE.out]; rfl, hg ▸ B0.out⟩
end Go.Proofs.Ytikegnnlmfidfaa
