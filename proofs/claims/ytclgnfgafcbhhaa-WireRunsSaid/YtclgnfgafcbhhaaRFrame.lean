/-
  The walks of the reference's Frame, of both Unframes.
-/
import Derived.Test.YtclgnfgafcbhhaaFrame
namespace Go.Proofs.Ytclgnfgafcbhhaa
open Go.RowKit
theorem frame_no (p : ByteArray) (w : World) (hp : 1048576 < p.size) (hp2 : p.size ≤ 9223372036854775807) :
    Calls Try.prog 14 #[.string p] w fun e w' => e = .returned (.tuple #[.slice none 0 0, .int .i64 3]) ∧ w = w' := by
  go_enter Try.func14, Try.ntmps14
  go_wp2_with fail
  refine (piece_no none 0 0 p w hp hp2).mono ?_
  rintro e _ ⟨rfl, rfl⟩
  go_wp2
  go_ret2
  exact ⟨rfl, rfl⟩
theorem rframe_no (p : ByteArray) (w : World) (hp : 1048576 < p.size) (hp2 : p.size ≤ 9223372036854775807) :
    Calls Try.prog 15 #[.string p] w fun e w' => e = .returned (.tuple #[.slice none 0 0, .int .i64 3]) ∧ w = w' := by
  go_enter Try.func15, Try.ntmps15
  go_wp2_with fail
  go_ret2
  exact ⟨rfl, rfl⟩
set_option maxHeartbeats 1000000 in
theorem rframe_yes (p : ByteArray) (w : World) (hp : p.size ≤ 1048576) :
    Calls Try.prog 15 #[.string p] w fun e w' => ∃ A' c', e = .returned (.tuple #[.slice A' (p.size + 8) c', .int .i64 0]) ∧ BOwn w' w.heap.size A' (p.size + 8) c' (frame p.data.toList) ∧ Below w.heap.size w w' := by
  have HL := Lib.hid (bsize p)
  go_enter Try.func15, Try.ntmps15
  go_wp2_with fail
  refine (word_any w.heap.size none 0 0 [] p.size w (BOwn.nil_ _ _) (Nat.le_refl _) (by omega) (by omega)).mono ?_
  rintro e w1 ⟨A1, c1, rfl, ho1, hb1⟩
  go_wp2_with (first
    | (at_builtin; refine wpList_app_str rfl (.tmp 11) (.tmp 12) rfl w.heap.size A1 _ c1 _ rfl ho1 p rfl (p.size + 4) (be4 p.size ++ p.data.toList) (by omega) rfl (by omega) hb1.size ?_; intro A2 c2 w2 ho2 hg2)
    | fail)
  have hb2 : Below w.heap.size w w2 := below_app hb1 hg2 ho1 (Nat.le_refl _) hb1.size
  refine (rsum_any w2.heap.size A2 _ c2 _ w2 ho2.reads (by omega)).mono ?_
  rintro e _ ⟨rfl, rfl⟩
  go_wp2_with fail
  refine (word_any w.heap.size A2 _ c2 _ _ w2 ho2 hb2.size (by omega) (sumN_lt _)).mono ?_
  rintro e w3 ⟨A3, c3, rfl, ho3, hb3⟩
  go_wp2
  go_ret2
  have hfr : frame p.data.toList = be4 p.size ++ p.data.toList ++ be4 (sumN (be4 p.size ++ p.data.toList)) := by unfold frame body; rw [HL.out]
  rw [hfr]
  exact ⟨A3, c3, rfl, ho3, hb2.trans hb3⟩
/-- What the beginning of some bytes is read as. -/
def unfV (l : List UInt8) : List UInt8 × Nat × Int :=
  if l.length < 4 then ([], 0, 5) else if 1048576 < tld l then ([], 0, 4) else if l.length < tld l + 8 then ([], 0, 5)
  else if tld (l.drop (tld l + 4)) ≠ sumN (l.take (tld l + 4)) then ([], 0, 4) else ((l.drop 4).take (tld l), tld l + 8, 0)
def unfR (l : List UInt8) : Value := .tuple #[.string ⟨(unfV l).1.toArray⟩, .int .i64 ((unfV l).2.1 : Int), .int .i64 (unfV l).2.2]
theorem unf_short {l : List UInt8} (h : l.length < 4) : unfV l = ([], 0, 5) := by rw [unfV, if_pos h]
theorem unf_bad {l : List UInt8} (h : 4 ≤ l.length) (h2 : 1048576 < tld l) : unfV l = ([], 0, 4) := by rw [unfV, if_neg (by omega), if_pos h2]
theorem unf_more {l : List UInt8} (h : 4 ≤ l.length) (h2 : tld l ≤ 1048576) (h3 : l.length < tld l + 8) : unfV l = ([], 0, 5) := by rw [unfV, if_neg (by omega), if_neg (by omega), if_pos h3]
theorem unf_sum {l : List UInt8} (h : 4 ≤ l.length) (h2 : tld l ≤ 1048576) (h3 : tld l + 8 ≤ l.length) (h4 : tld (l.drop (tld l + 4)) ≠ sumN (l.take (tld l + 4))) : unfV l = ([], 0, 4) := by
  rw [unfV, if_neg (by omega), if_neg (by omega), if_neg (by omega), if_pos h4]
theorem unf_ok {l : List UInt8} (h : 4 ≤ l.length) (h2 : tld l ≤ 1048576) (h3 : tld l + 8 ≤ l.length) (h4 : tld (l.drop (tld l + 4)) = sumN (l.take (tld l + 4))) : unfV l = ((l.drop 4).take (tld l), tld l + 8, 0) := by
  rw [unfV, if_neg (by omega), if_neg (by omega), if_neg (by omega), if_neg (by simp [h4])]
theorem Below.drewNx (w : World) (k : Nat) : Below w.heap.size w (w.drewN k) := below_drewN (Below.refl _ _) k
set_option maxHeartbeats 1000000 in
theorem unframe_any (B : Nat) (A : Option Addr) (n c : Nat) (l : List UInt8) (w : World) (hr : BReads w B A n l) (hn : n ≤ 140737488355328) (hnc : n ≤ c) :
    Calls Try.prog 16 #[.slice A n c] w fun e w' => e = .returned (unfR l) ∧ Below w.heap.size w w' := by
  have hl := hr.len
  by_cases h4 : n < 4
  · have hv := Lib.hid (unf_short (l := l) (by omega))
    clear hl
    go_enter Try.func16, Try.ntmps16
    go_wp2_with fail
    go_ret3
    exact ⟨by unfold unfR; rw [hv.out]; rfl, Below.refl _ _⟩
  · have HL := Lib.hid hl; clear hl
    have htl := tld_lt l
    go_enter Try.func16, Try.ntmps16
    go_wp2_with fail
    refine (told_any B A n c l w hr (by omega) hn).mono ?_
    rintro e w1 ⟨rfl, k, hw1⟩
    have hr1 : BReads w1 B A n l := by rw [hw1]; exact Reads.drewN hr k
    have hb1 : Below w.heap.size w w1 := by rw [hw1]; exact Below.drewNx w k
    clear hw1 hr
    by_cases hs : 1048576 < tld l
    · have hv := Lib.hid (unf_bad (l := l) (by rw [HL.out]; omega) hs)
      go_wp2_with fail
      go_ret3
      exact ⟨by unfold unfR; rw [hv.out]; rfl, hb1⟩
    · by_cases hm : n < tld l + 8
      · have hv := Lib.hid (unf_more (l := l) (by rw [HL.out]; omega) (by omega) (by rw [HL.out]; exact hm))
        go_wp2_with fail
        go_ret3
        exact ⟨by unfold unfR; rw [hv.out]; rfl, hb1⟩
      · generalize hts : tld l = ts at *
        have HT := Lib.hid hts; clear hts
        obtain ⟨m, hm4⟩ : ∃ m, m = ts + 4 := ⟨_, rfl⟩
        have e1 : IntKind.i64.wrap ((ts : Int) + 8 - 4) = (m : Int) := by rw [IntKind.wrap_i64]; omega
        have hmn : m ≤ n := by omega
        have hmc : m ≤ c := by omega
        have hcut := hr1.cut (k := m) (cap := c) hmn hnc
        have htk := Reads.take hr1 hmn
        rw [← List.map_take] at htk
        rw [← List.map_drop] at hcut
        simp only [Nat.mul_one] at hcut
        have hq : 4 ≤ n - m := by omega
        have hqn : n - m ≤ 140737488355328 := by omega
        have hqm : m ≤ 140737488355328 := by omega
        have hm44 : 4 ≤ m := by omega
        have hc4 := Reads.cut (Reads.take hr1 hmn) (k := 4) (cap := c) hm44 hmc
        rw [← List.map_take, ← List.map_drop] at hc4
        rw [show (fun x : Addr => x.add (4 * 1)) = (fun x : Addr => (⟨x.block, x.off + 4, none⟩ : Addr)) from funext fun x => add_pos x 4 (by decide), if_neg (by omega)] at hc4
        have hstr : ∀ k, (convert 22 9 (.slice (Option.map (fun x : Addr => (⟨x.block, x.off + 4, none⟩ : Addr)) A) (m - 4) (c - 4))).run Try.prog (w1.drewN k) = .ok (.string ⟨((l.take m).drop 4).toArray⟩) (w1.drewN k) :=
          fun k => run_str (Reads.drewN hc4 k)
        by_cases h5 : tld (l.drop m) = sumN (l.take m)
        · have hb5 : ((tld (l.drop m) : Int) != (sumN (l.take m) : Int)) = false := by rw [h5]; simp
          have hv : Hid (unfR l = .tuple #[.string ⟨((l.take m).drop 4).toArray⟩, .int .i64 ((ts : Int) + 8), .int .i64 0]) := by
            have := unf_ok (l := l) (by rw [HL.out]; omega) (by rw [HT.out]; omega) (by rw [HT.out, HL.out]; omega) (by rw [HT.out, ← hm4]; exact h5)
            show unfR l = _
            unfold unfR
            rw [this, HT.out, List.drop_take, hm4, Nat.add_sub_cancel]
            rfl
          have HM := Lib.hid hm4; clear hm4 h5
          go_wp2_with fail
          go_quiet ((first | (go_at_call 33; exact Calls.quiet_of (told_any B _ _ _ (l.drop m) _ (Reads.drewN hcut _) hq hqn)) | (go_at_call 20; exact quiet_left (sum_any B _ _ _ (l.take m) _ (Reads.drewN htk _) hqm))))
          have hstr2 := hstr nq
          go_wp2
          go_ret3
          exact ⟨by rw [hv.out]; rfl, below_drewN hb1 _⟩
        · have hb5 : ((tld (l.drop m) : Int) != (sumN (l.take m) : Int)) = true := by simp; omega
          have hv : Hid (unfR l = .tuple #[.string ⟨#[]⟩, .int .i64 0, .int .i64 4]) := by
            have := unf_sum (l := l) (by rw [HL.out]; omega) (by rw [HT.out]; omega) (by rw [HT.out, HL.out]; omega) (by rw [HT.out, ← hm4]; exact h5)
            show unfR l = _
            unfold unfR
            rw [this]
            rfl
          have HM := Lib.hid hm4; clear hm4 h5
          go_wp2_with fail
          go_quiet ((first | (go_at_call 33; exact Calls.quiet_of (told_any B _ _ _ (l.drop m) _ (Reads.drewN hcut _) hq hqn)) | (go_at_call 20; exact quiet_left (sum_any B _ _ _ (l.take m) _ (Reads.drewN htk _) hqm))))
          go_wp2
          go_ret3
          exact ⟨by rw [hv.out]; rfl, below_drewN hb1 _⟩
set_option maxHeartbeats 1000000 in
theorem runframe_any (B : Nat) (A : Option Addr) (n c : Nat) (l : List UInt8) (w : World) (hr : BReads w B A n l) (hn : n ≤ 140737488355328) (hnc : n ≤ c) :
    Calls Try.prog 17 #[.slice A n c] w fun e w' => e = .returned (unfR l) ∧ Below w.heap.size w w' := by
  have hl := hr.len
  by_cases h4 : n < 4
  · have hv := Lib.hid (unf_short (l := l) (by omega))
    clear hl
    go_enter Try.func17, Try.ntmps17
    go_wp2_with fail
    go_ret3
    exact ⟨by unfold unfR; rw [hv.out]; rfl, Below.refl _ _⟩
  · have HL := Lib.hid hl; clear hl
    have htl := tld_lt l
    go_enter Try.func17, Try.ntmps17
    go_wp2_with fail
    refine (rtold_any B A n c l w hr (by omega) hn).mono ?_
    rintro e w1 ⟨rfl, k, hw1⟩
    have hr1 : BReads w1 B A n l := by rw [hw1]; exact Reads.drewN hr k
    have hb1 : Below w.heap.size w w1 := by rw [hw1]; exact Below.drewNx w k
    clear hw1 hr
    by_cases hs : 1048576 < tld l
    · have hv := Lib.hid (unf_bad (l := l) (by rw [HL.out]; omega) hs)
      go_wp2_with fail
      go_ret3
      exact ⟨by unfold unfR; rw [hv.out]; rfl, hb1⟩
    · by_cases hm : n < tld l + 8
      · have hv := Lib.hid (unf_more (l := l) (by rw [HL.out]; omega) (by omega) (by rw [HL.out]; exact hm))
        go_wp2_with fail
        go_ret3
        exact ⟨by unfold unfR; rw [hv.out]; rfl, hb1⟩
      · generalize hts : tld l = ts at *
        have HT := Lib.hid hts; clear hts
        obtain ⟨m, hm4⟩ : ∃ m, m = ts + 4 := ⟨_, rfl⟩
        have e1 : (4 : Int) + (ts : Int) = (m : Int) := by omega
        have hmn : m ≤ n := by omega
        have hmc : m ≤ c := by omega
        have hcut := hr1.cut (k := m) (cap := c) hmn hnc
        have htk := Reads.take hr1 hmn
        rw [← List.map_take] at htk
        rw [← List.map_drop] at hcut
        simp only [Nat.mul_one] at hcut
        have hq : 4 ≤ n - m := by omega
        have hqn : n - m ≤ 140737488355328 := by omega
        have hqm : m ≤ 140737488355328 := by omega
        have hm44 : 4 ≤ m := by omega
        have hc4 := Reads.cut (Reads.take hr1 hmn) (k := 4) (cap := c) hm44 hmc
        rw [← List.map_take, ← List.map_drop] at hc4
        rw [show (fun x : Addr => x.add (4 * 1)) = (fun x : Addr => (⟨x.block, x.off + 4, none⟩ : Addr)) from funext fun x => add_pos x 4 (by decide), if_neg (by omega)] at hc4
        have hstr : ∀ k, (convert 22 9 (.slice (Option.map (fun x : Addr => (⟨x.block, x.off + 4, none⟩ : Addr)) A) (m - 4) (c - 4))).run Try.prog (w1.drewN k) = .ok (.string ⟨((l.take m).drop 4).toArray⟩) (w1.drewN k) :=
          fun k => run_str (Reads.drewN hc4 k)
        by_cases h5 : tld (l.drop m) = sumN (l.take m)
        · have hb5 : ((tld (l.drop m) : Int) != (sumN (l.take m) : Int)) = false := by rw [h5]; simp
          have hv : Hid (unfR l = .tuple #[.string ⟨((l.take m).drop 4).toArray⟩, .int .i64 ((m : Int) + 4), .int .i64 0]) := by
            have := unf_ok (l := l) (by rw [HL.out]; omega) (by rw [HT.out]; omega) (by rw [HT.out, HL.out]; omega) (by rw [HT.out, ← hm4]; exact h5)
            show unfR l = _
            unfold unfR
            rw [this, HT.out, List.drop_take, hm4, Nat.add_sub_cancel]
            show Value.tuple #[_, .int .i64 ((ts + 8 : Nat) : Int), _] = _
            rw [show ((ts + 8 : Nat) : Int) = ((ts + 4 : Nat) : Int) + 4 by omega]
          have HM := Lib.hid hm4; clear hm4 h5
          go_wp2_with fail
          go_quiet ((first | (go_at_call 34; exact Calls.quiet_of (rtold_any B _ _ _ (l.drop m) _ (Reads.drewN hcut _) hq hqn)) | (go_at_call 21; exact quiet_left (rsum_any B _ _ _ (l.take m) _ (Reads.drewN htk _) hqm))))
          have hstr2 := hstr nq
          go_wp2
          go_ret3
          exact ⟨by rw [hv.out]; rfl, below_drewN hb1 _⟩
        · have hb5 : ((tld (l.drop m) : Int) != (sumN (l.take m) : Int)) = true := by simp; omega
          have hv : Hid (unfR l = .tuple #[.string ⟨#[]⟩, .int .i64 0, .int .i64 4]) := by
            have := unf_sum (l := l) (by rw [HL.out]; omega) (by rw [HT.out]; omega) (by rw [HT.out, HL.out]; omega) (by rw [HT.out, ← hm4]; exact h5)
            show unfR l = _
            unfold unfR
            rw [this]
            rfl
          have HM := Lib.hid hm4; clear hm4 h5
          go_wp2_with fail
          go_quiet ((first | (go_at_call 34; exact Calls.quiet_of (rtold_any B _ _ _ (l.drop m) _ (Reads.drewN hcut _) hq hqn)) | (go_at_call 21; exact quiet_left (rsum_any B _ _ _ (l.take m) _ (Reads.drewN htk _) hqm))))
          go_wp2
          go_ret3
          exact ⟨by rw [hv.out]; rfl, below_drewN hb1 _⟩
end Go.Proofs.Ytclgnfgafcbhhaa
