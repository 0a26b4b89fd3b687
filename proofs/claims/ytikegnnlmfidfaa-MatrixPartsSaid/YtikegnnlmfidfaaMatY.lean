/-
  Matrices: the reference's with and without.
-/
import Derived.Test.YtikegnnlmfidfaaMatX
namespace Go.Proofs.Ytikegnnlmfidfaa
open Go.RowKit
theorem iown_app {w w' : World} {base n c : Nat} {A : Option Addr} {xs : List Int} {a : World} {B : Nat} (h : Below B a w) (hg : w.grownBy w' (Value.slice A n c).ownBlock) (ho : IOwn w base A n c xs) (hB : B ≤ base) (hs : B ≤ w.heap.size) : Below B a w' :=
  h.grown hg hs fun g hg2 => Nat.le_trans hB (ho.lt g hg2).1
def insR (d : Int) (l : List Int) : List Int := (l.takeWhile fun x => decide (x ≤ d)) ++ d :: l.dropWhile fun x => decide (x ≤ d)
theorem insR_all {d : Int} : ∀ {l : List Int}, (∀ x ∈ l, x ≤ d) → insR d l = l ++ [d]
  | [], _ => rfl
  | y :: l, h => by
    have h1 : y ≤ d := h y List.mem_cons_self
    have ih := insR_all (l := l) fun x hx => h x (List.mem_cons_of_mem _ hx)
    unfold insR at ih ⊢
    rw [List.takeWhile_cons, List.dropWhile_cons, if_pos (by simpa using h1), if_pos (by simpa using h1), List.cons_append, ih]
    rfl
theorem insR_at {d x : Int} : ∀ {l : List Int} {k : Nat}, (∀ y ∈ l.take k, y ≤ d) → l[k]? = some x → d < x → insR d l = l.take k ++ d :: x :: l.drop (k + 1)
  | [], k, _, hx, _ => by simp at hx
  | y :: l, 0, _, hx, hd => by
    obtain rfl : y = x := by simpa using hx
    unfold insR
    rw [List.takeWhile_cons, List.dropWhile_cons, if_neg (by simp; omega), if_neg (by simp; omega)]
    rfl
  | y :: l, k + 1, h, hx, hd => by
    have h1 : y ≤ d := h y (by simp)
    have ih := insR_at (l := l) (k := k) (fun z hz => h z (by rw [List.take_succ_cons]; exact List.mem_cons_of_mem _ hz)) (by simpa using hx) hd
    unfold insR at ih ⊢
    rw [List.takeWhile_cons, List.dropWhile_cons, if_pos (by simpa using h1), if_pos (by simpa using h1), List.cons_append, ih]
    rfl
set_option maxRecDepth 100000 in
set_option maxHeartbeats 8000000 in
theorem rwithout_v (A : Option Addr) (n c B : Nat) (l : List Int) (d : Int) (w : World) (hr : IReads w B A n l) (hB : B ≤ w.heap.size) (hn : n ≤ 100000) :
    Calls Try.prog 55 #[.slice A n c, .int .i64 d] w fun e w' => ∃ A' n' c', e = .returned (.slice A' n' c') ∧ IOwn w' w.heap.size A' n' c' (l.filter fun x => !decide (x = d)) ∧ Below w.heap.size w w' := by
  have HR := Lib.hid hr
  have HLN := Lib.hid hr.len
  clear hr
  go_enter Try.func55, Try.ntmps55
  go_wp2_with fail
  go_loopw [5, 6] (fun o i wr => ∃ (k m c' : Nat) (A' : Option Addr), k ≤ n ∧ m ≤ k ∧ i = .int .i64 (k : Int) ∧ o = .slice A' m c' ∧ IOwn wr w.heap.size A' m c' ((l.take k).filter fun x => !decide (x = d)) ∧ Below w.heap.size w wr) (fun _ i _ => n - (intOf i).toNat)
  case atStart => exact ⟨0, 0, 0, none, Nat.zero_le _, Nat.le_refl _, rfl, rfl, by simpa using IOwn.nil_ w _, Below.refl _ _⟩
  case round =>
    obtain ⟨k, m, c', A', hk, hm, rfl, rfl, ho, hb⟩ := hrel
    have HO := Lib.hid ho
    have HB := Lib.hid hb
    have hzb := hb.size
    clear ho hb
    by_cases hlt : k < n
    · obtain ⟨ad, x, rfl, hx, hc⟩ := HR.out.at_ hlt
      have q0 := hc wr (HB.out.mono hB)
      have k0 : (0 : Int) ≤ (k : Int) := by omega
      have HT := Lib.hid (show (l.take (k + 1)).filter (fun x => !decide (x = d)) = (l.take k).filter (fun x => !decide (x = d)) ++ if (!decide (x = d)) = true then [x] else [] from take_filter hx)
      clear hx hc
      by_cases hd : x = d
      · have d1 : (x != d) = false := by simp [hd]
        have HN := Lib.hid (show (l.take (k + 1)).filter (fun x => !decide (x = d)) = (l.take k).filter (fun x => !decide (x = d)) by rw [HT.out, hd]; simp)
        clear hd
        go_wp2_with fail
        go_roundw
        case rel => exact ⟨k + 1, m, c', A', hlt, by omega, by go_num, rfl, by rw [HN.out]; exact HO.out, HB.out⟩
        case measure => simp [intOf]; omega
      · have d1 : (x != d) = true := by simp [hd]
        have HN := Lib.hid (show (l.take (k + 1)).filter (fun x => !decide (x = d)) = (l.take k).filter (fun x => !decide (x = d)) ++ [x] by rw [HT.out]; simp [hd])
        clear hd
        have HSO7 := Lib.hid (show IReads (wr.alloc (.cells #[.int .i64 x] 3)) (wr.heap.size + 1) (some ⟨wr.heap.size, 0, none⟩) 1 [x] from Reads.one_ 3 wr _)
        have HOA7 := Lib.hid (HO.out.alloc (.cells #[.int .i64 x] 3))
        go_upto_region 4 with (first
          | (at_builtin; go_loud (refine wpList_appI rfl (.tmp 19) (.tmp 24) rfl w.heap.size A' m c' _ rfl HOA7.out (wr.heap.size + 1) (some ⟨wr.heap.size, 0, none⟩) 1 1 [x] rfl HSO7.out _ _ rfl rfl (by omega) (by simp; omega) ?_); intro A7 c7 w7 ho hg7 _)
          | fail)
        have HB7 := Lib.hid (iown_app (HB.out.alloc (by omega) (.cells #[.int .i64 x] 3)) hg7 HOA7.out (Nat.le_refl _) (by simp; omega))
        have HO7 := Lib.hid ho
        have hz7 : w.heap.size ≤ w7.heap.size := HB7.out.size
        clear ho hg7 HSO7 HOA7
        go_wp2_with fail
        go_roundw
        case rel => exact ⟨k + 1, m + 1, c7, A7, hlt, by omega, by go_num, rfl, by rw [HN.out]; exact HO7.out, HB7.out⟩
        case measure => simp [intOf]; omega
    · obtain rfl : k = n := by omega
      have HE := Lib.hid (show (l.take k).filter (fun x => !decide (x = d)) = l.filter (fun x => !decide (x = d)) by rw [List.take_of_length_le (by rw [HLN.out]; exact Nat.le_refl _)])
      go_wp2_with fail
      go_ret
      exact ⟨A', m, c', rfl, by rw [← HE.out]; exact HO.out, HB.out⟩
set_option maxRecDepth 100000 in
set_option maxHeartbeats 8000000 in
theorem rwithd_v (A : Option Addr) (n c B : Nat) (l : List Int) (d : Int) (w : World) (hr : IReads w B A n l) (hB : B ≤ w.heap.size) (hn : n ≤ 100000) :
    Calls Try.prog 38 #[.slice A n c, .int .i64 d] w fun e w' => ∃ A' n' c', e = .returned (.slice A' n' c') ∧ IOwn w' w.heap.size A' n' c' (insR d l) ∧ Below w.heap.size w w' := by
  have HR := Lib.hid hr
  have HLN := Lib.hid hr.len
  clear hr
  go_enter Try.func38, Try.ntmps38
  go_wp2_with fail
  go_loopw [5, 6, 7] (fun o b i wr => ∃ (k m c' : Nat) (A' : Option Addr) (bo : Bool) (out : List Int), k ≤ n ∧ m ≤ k + 1 ∧ i = .int .i64 (k : Int) ∧ b = .bool bo ∧ o = .slice A' m c' ∧ IOwn wr w.heap.size A' m c' out ∧ (bo = false → out = l.take k ∧ ∀ x ∈ l.take k, x ≤ d) ∧ (bo = true → out ++ l.drop k = insR d l) ∧ Below w.heap.size w wr) (fun _ _ i _ => n - (intOf i).toNat)
  case atStart => exact ⟨0, 0, 0, none, false, [], Nat.zero_le _, by omega, rfl, rfl, rfl, IOwn.nil_ w _, by simp, by simp, Below.refl _ _⟩
  case round =>
    obtain ⟨k, m, c', A', bo, out, hk, hm, rfl, rfl, rfl, ho, h1, h2, hb⟩ := hrel
    have HO := Lib.hid ho
    have HB := Lib.hid hb
    have H1 := Lib.hid h1
    have H2 := Lib.hid h2
    have hzb := hb.size
    clear ho hb h1 h2
    by_cases hlt : k < n
    · obtain ⟨ad, x, rfl, hx, hc⟩ := HR.out.at_ hlt
      have q0 := hc wr (HB.out.mono hB)
      have k0 : (0 : Int) ≤ (k : Int) := by omega
      have HX := Lib.hid hx
      have HQ := Lib.hid (show ∀ V, Below w.heap.size w V → V.cell? (ad.add k) = some (.int .i64 x) from fun V hV => hc V (hV.mono hB))
      clear hx hc
      cases bo with
      | true =>
        have HN := Lib.hid (show (out ++ [x]) ++ l.drop (k + 1) = insR d l by rw [← H2.out rfl, drop_at HX.out, List.append_assoc]; rfl)
        have HSO7 := Lib.hid (show IReads (wr.alloc (.cells #[.int .i64 x] 3)) (wr.heap.size + 1) (some ⟨wr.heap.size, 0, none⟩) 1 [x] from Reads.one_ 3 wr _)
        have HOA7 := Lib.hid (HO.out.alloc (.cells #[.int .i64 x] 3))
        go_upto_region 5 with (first
          | (at_builtin; go_loud (refine wpList_appI rfl (.tmp 28) (.tmp 33) rfl w.heap.size A' m c' _ rfl HOA7.out (wr.heap.size + 1) (some ⟨wr.heap.size, 0, none⟩) 1 1 [x] rfl HSO7.out _ _ rfl rfl (by omega) (by simp; omega) ?_); intro A7 c7 w7 ho hg7 _)
          | fail)
        have HB7 := Lib.hid (iown_app (HB.out.alloc (by omega) (.cells #[.int .i64 x] 3)) hg7 HOA7.out (Nat.le_refl _) (by simp; omega))
        have HO7 := Lib.hid ho
        have hz7 : w.heap.size ≤ w7.heap.size := HB7.out.size
        clear ho hg7 HSO7 HOA7
        go_wp2_with fail
        go_roundw
        case rel => exact ⟨k + 1, m + 1, c7, A7, true, _, hlt, by omega, by go_num, rfl, rfl, HO7.out, fun h => (by cases h), fun _ => HN.out, HB7.out⟩
        case measure => simp [intOf]; omega
      | false =>
        obtain ⟨h3, h4⟩ := H1.out rfl
        have H3 := Lib.hid h3
        have H4 := Lib.hid h4
        clear h3 h4
        have hm2 : m ≤ k := by
          have h5 := HO.out.len
          rw [H3.out, List.length_take, HLN.out] at h5
          omega
        by_cases hd : d < x
        · have d1 : decide (d < x) = true := decide_eq_true hd
          have HN := Lib.hid (show ((out ++ [d]) ++ [x]) ++ l.drop (k + 1) = insR d l by rw [insR_at H4.out HX.out hd, H3.out, List.append_assoc, List.append_assoc]; rfl)
          clear hd
          have HSO7 := Lib.hid (show IReads (wr.alloc (.cells #[.int .i64 d] 3)) (wr.heap.size + 1) (some ⟨wr.heap.size, 0, none⟩) 1 [d] from Reads.one_ 3 wr _)
          have HOA7 := Lib.hid (HO.out.alloc (.cells #[.int .i64 d] 3))
          go_upto_region 8 with (first
            | (at_builtin; go_loud (refine wpList_appI rfl (.tmp 24) (.tmp 26) rfl w.heap.size A' m c' _ rfl HOA7.out (wr.heap.size + 1) (some ⟨wr.heap.size, 0, none⟩) 1 1 [d] rfl HSO7.out _ _ rfl rfl (by omega) (by simp; omega) ?_); intro A7 c7 w7 ho hg7 _)
            | fail)
          have HB7 := Lib.hid (iown_app (HB.out.alloc (by omega) (.cells #[.int .i64 d] 3)) hg7 HOA7.out (Nat.le_refl _) (by simp; omega))
          have HO7 := Lib.hid ho
          have hz7 : w.heap.size ≤ w7.heap.size := HB7.out.size
          clear ho hg7 HSO7 HOA7
          have q1 := HQ.out w7 HB7.out
          clear q0
          have HSO8 := Lib.hid (show IReads (w7.alloc (.cells #[.int .i64 x] 3)) (w7.heap.size + 1) (some ⟨w7.heap.size, 0, none⟩) 1 [x] from Reads.one_ 3 w7 _)
          have HOA8 := Lib.hid (HO7.out.alloc (.cells #[.int .i64 x] 3))
          go_upto_region 5 with (first
            | (at_builtin; go_loud (refine wpList_appI rfl (.tmp 28) (.tmp 33) rfl w.heap.size A7 (m + 1) c7 _ rfl HOA8.out (w7.heap.size + 1) (some ⟨w7.heap.size, 0, none⟩) 1 1 [x] rfl HSO8.out _ _ rfl rfl (by omega) (by simp; omega) ?_); intro A8 c8 w8 ho hg8 _)
            | fail)
          have HB8 := Lib.hid (iown_app (HB7.out.alloc (by omega) (.cells #[.int .i64 x] 3)) hg8 HOA8.out (Nat.le_refl _) (by simp; omega))
          have HO8 := Lib.hid ho
          have hz8 : w.heap.size ≤ w8.heap.size := HB8.out.size
          clear ho hg8 HSO8 HOA8
          go_wp2_with fail
          go_roundw
          case rel => exact ⟨k + 1, m + 1 + 1, c8, A8, true, _, hlt, by omega, by go_num, rfl, rfl, HO8.out, fun h => (by cases h), fun _ => HN.out, HB8.out⟩
          case measure => simp [intOf]; omega
        · have d1 : decide (d < x) = false := decide_eq_false hd
          have HN := Lib.hid (show out ++ [x] = l.take (k + 1) ∧ ∀ y ∈ l.take (k + 1), y ≤ d from ⟨by rw [List.take_add_one, HX.out, H3.out]; rfl, fun y hy => by
            rw [List.take_add_one, HX.out] at hy
            rcases List.mem_append.1 hy with hy | hy
            · exact H4.out y hy
            · obtain rfl : y = x := by simpa using hy
              omega⟩)
          clear hd
          have HSO7 := Lib.hid (show IReads (wr.alloc (.cells #[.int .i64 x] 3)) (wr.heap.size + 1) (some ⟨wr.heap.size, 0, none⟩) 1 [x] from Reads.one_ 3 wr _)
          have HOA7 := Lib.hid (HO.out.alloc (.cells #[.int .i64 x] 3))
          go_upto_region 5 with (first
            | (at_builtin; go_loud (refine wpList_appI rfl (.tmp 28) (.tmp 33) rfl w.heap.size A' m c' _ rfl HOA7.out (wr.heap.size + 1) (some ⟨wr.heap.size, 0, none⟩) 1 1 [x] rfl HSO7.out _ _ rfl rfl (by omega) (by simp; omega) ?_); intro A7 c7 w7 ho hg7 _)
            | fail)
          have HB7 := Lib.hid (iown_app (HB.out.alloc (by omega) (.cells #[.int .i64 x] 3)) hg7 HOA7.out (Nat.le_refl _) (by simp; omega))
          have HO7 := Lib.hid ho
          have hz7 : w.heap.size ≤ w7.heap.size := HB7.out.size
          clear ho hg7 HSO7 HOA7
          go_wp2_with fail
          go_roundw
          case rel => exact ⟨k + 1, m + 1, c7, A7, false, _, hlt, by omega, by go_num, rfl, rfl, HO7.out, fun _ => HN.out, fun h => (by cases h), HB7.out⟩
          case measure => simp [intOf]; omega
    · obtain rfl : k = n := by omega
      have HTL := Lib.hid (show l.take k = l from List.take_of_length_le (by rw [HLN.out]; exact Nat.le_refl _))
      cases bo with
      | true =>
        have HE := Lib.hid (show out = insR d l by have h := H2.out rfl; rwa [List.drop_of_length_le (by rw [HLN.out]; exact Nat.le_refl _), List.append_nil] at h)
        go_wp2_with fail
        go_ret
        exact ⟨A', m, c', rfl, by rw [← HE.out]; exact HO.out, HB.out⟩
      | false =>
        have HE := Lib.hid (show out ++ [d] = insR d l by
          obtain ⟨h3, h4⟩ := H1.out rfl
          rw [HTL.out] at h3 h4
          rw [insR_all h4, h3])
        have HSO7 := Lib.hid (show IReads (wr.alloc (.cells #[.int .i64 d] 3)) (wr.heap.size + 1) (some ⟨wr.heap.size, 0, none⟩) 1 [d] from Reads.one_ 3 wr _)
        have HOA7 := Lib.hid (HO.out.alloc (.cells #[.int .i64 d] 3))
        go_upto_region 11 with (first
          | (at_builtin; go_loud (refine wpList_appI rfl (.tmp 37) (.tmp 39) rfl w.heap.size A' m c' _ rfl HOA7.out (wr.heap.size + 1) (some ⟨wr.heap.size, 0, none⟩) 1 1 [d] rfl HSO7.out _ _ rfl rfl (by omega) (by simp; omega) ?_); intro A7 c7 w7 ho hg7 _)
          | fail)
        have HB7 := Lib.hid (iown_app (HB.out.alloc (by omega) (.cells #[.int .i64 d] 3)) hg7 HOA7.out (Nat.le_refl _) (by simp; omega))
        have HO7 := Lib.hid ho
        have hz7 : w.heap.size ≤ w7.heap.size := HB7.out.size
        clear ho hg7 HSO7 HOA7
        go_wp2_with fail
        go_ret
        exact ⟨A7, m + 1, c7, rfl, by rw [← HE.out]; exact HO7.out, HB7.out⟩
end Go.Proofs.Ytikegnnlmfidfaa
