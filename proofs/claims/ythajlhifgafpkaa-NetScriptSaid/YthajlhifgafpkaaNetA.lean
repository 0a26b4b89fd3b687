/-
  Nets: New, links, Is, Up.
-/
import Derived.Test.YthajlhifgafpkaaNetR
import Derived.Carry
import Derived.Laws.CopyOwn
namespace Go.Proofs.Ythajlhifgafpkaa
open Go.RowKit
abbrev I64 (a : Int) : Prop := (Lit.int .i64 a).wf = true
set_option maxHeartbeats 1000000 in
theorem new_v (w : World) : Calls Try.prog 10 #[] w fun e w' => ∃ g mb, e = .returned (.pointer (some ⟨g, 0, none⟩)) ∧ NetIs w' w.heap.size g mb none 0 0 [] NS.new ∧ Below w.heap.size w w' := by
  have hmk := run_makeMap (P := Try.prog) 64 w
  go_enter Try.func10, Try.ntmps10
  go_wp2
  go_ret
  refine ⟨w.heap.size + 1, w.heap.size, rfl, ⟨heap_alloc2_new w _ _, ⟨[], (MapIs.made w).keep (heap_alloc2_old w _ _ |>.trans (heap_alloc_new w _).symm), fun k => rfl⟩, PkRow.nil_ _ _, rfl, Nat.le_succ _, Nat.le_refl _⟩, ((Below.refl _ _).alloc (Nat.le_refl _) _).alloc (by simp) _⟩
set_option maxHeartbeats 1000000 in
theorem device_v (a : Int) (w : World) : Calls Try.prog 55 #[.int .i64 a] w fun e w' => e = .returned (.bool (decide (1 ≤ a) && decide (a ≤ 16))) ∧ w = w' := by
  by_cases h1 : 1 ≤ a
  · have d1 : decide (1 ≤ a) = true := by simpa using h1
    by_cases h2 : a ≤ 16
    · have d2 : decide (a ≤ 16) = true := by simpa using h2
      rw [d1, d2]
      go_enter Try.func55, Try.ntmps55
      go_wp2
      go_ret
      exact ⟨rfl, rfl⟩
    · have d2 : decide (a ≤ 16) = false := by simpa using h2
      rw [d1, d2]
      go_enter Try.func55, Try.ntmps55
      go_wp2
      go_ret
      exact ⟨rfl, rfl⟩
  · have d1 : decide (1 ≤ a) = false := by simpa using h1
    rw [d1]
    go_enter Try.func55, Try.ntmps55
    go_wp2
    go_ret
    exact ⟨rfl, rfl⟩
theorem okDev_false {a b : Int} : okDev a b = (((decide (1 ≤ a) && decide (a ≤ 16)) && (decide (1 ≤ b) && decide (b ≤ 16))) && (a != b)) := by
  rw [Bool.eq_iff_iff]
  simp [okDev]
  omega
theorem results_row_tmp {P : Program} {fn : Func} {p q : Tmp} {ty : TypeId} (h : fn.results = #[.cell p ty, .tmp q]) (tmps : Array Value) (w : World) (g : Nat) (t : TypeId) (cs : Array Value) (fr : Nat × Nat) (d : TypeDesc)
    (hp : tmps.getD p undef = .pointer (some ⟨g, 0, none⟩)) (hg : w.heap[g]? = some (.cells cs t fr))
    (hu : P.underlying ty = some d) (hd : (match d with | .struct _ | .array _ _ => true | _ => false) = true) (hi : (P.info? ty).map (·.size) = some cs.size) :
    (results fn tmps).run P w = .ok (.tuple #[.agg cs, tmps.getD q undef]) w := by
  have hp' : tmps[p]?.getD undef = .pointer (some ⟨g, 0, none⟩) := by simpa using hp
  simp [results, h, hp', asAddr, run_loadVar_row w g t ty cs fr d hg hu hd hi]
set_option maxHeartbeats 2000000 in
theorem key_v (a b : Int) (w : World) : Calls Try.prog 36 #[.int .i64 a, .int .i64 b] w fun e w' => e = .returned (.tuple #[ekL (keyI a b), .bool (okDev a b)]) ∧ Below w.heap.size w w' := by
  have HO := Lib.hid (okDev_false (a := a) (b := b))
  have HD1 := Lib.hid (device_v a)
  have HD2 := Lib.hid (device_v b)
  generalize (decide (1 ≤ a) && decide (a ≤ 16)) = p at *
  generalize (decide (1 ≤ b) && decide (b ≤ 16)) = q at *
  have HI := Lib.hid (show (Try.prog.info? 67).map (·.size) = some 2 by kernel_rfl)
  rcases Int.lt_trichotomy a b with h | h | h
  · have HK := Lib.hid (show keyI a b = (a, b) by rw [keyI, Int.min_eq_left (by omega), Int.max_eq_right (by omega)])
    have HN := Lib.hid (show (a != b) = true by rw [bne_iff_ne]; omega)
    have hn := HN.out
    go_enter Try.func36, Try.ntmps36
    go_wp2_with fail
    refine (HD1.out _).mono ?_
    rintro e _ ⟨rfl, rfl⟩
    have W1 := Lib.hid (heap_alloc_new w (.cells #[.int .i64 a, .int .i64 b] 67))
    have B2 := Lib.hid ((Below.refl w.heap.size w).alloc (Nat.le_refl _) (.cells #[.int .i64 a, .int .i64 b] 67))
    cases p
    · go_wp2
      exact bodyPost_ret (results_row_tmp Try.results36 _ _ w.heap.size _ #[.int .i64 a, .int .i64 b] _ _ rfl W1.out Try.underlying67 rfl HI.out) rfl ⟨by rw [HO.out, HK.out]; rfl, B2.out⟩
    · go_wp2_with fail
      refine (HD2.out _).mono ?_
      rintro e _ ⟨rfl, rfl⟩
      cases q
      · go_wp2
        exact bodyPost_ret (results_row_tmp Try.results36 _ _ w.heap.size _ #[.int .i64 a, .int .i64 b] _ _ rfl W1.out Try.underlying67 rfl HI.out) rfl ⟨by rw [HO.out, HK.out]; rfl, B2.out⟩
      · go_wp2
        exact bodyPost_ret (results_row_tmp Try.results36 _ _ w.heap.size _ #[.int .i64 a, .int .i64 b] _ _ rfl W1.out Try.underlying67 rfl HI.out) rfl ⟨by rw [HO.out, HK.out]; rw [HN.out]; rfl, B2.out⟩
  · subst h
    have HK := Lib.hid (show keyI a a = (a, a) by rw [keyI, Int.min_eq_left (by omega), Int.max_eq_right (by omega)])
    have HN := Lib.hid (show (a != a) = false by rw [bne_eq_false_iff_eq])
    have hn := HN.out
    go_enter Try.func36, Try.ntmps36
    go_wp2_with fail
    refine (HD1.out _).mono ?_
    rintro e _ ⟨rfl, rfl⟩
    have W1 := Lib.hid (heap_alloc_new w (.cells #[.int .i64 a, .int .i64 a] 67))
    have B2 := Lib.hid ((Below.refl w.heap.size w).alloc (Nat.le_refl _) (.cells #[.int .i64 a, .int .i64 a] 67))
    cases p
    · go_wp2
      exact bodyPost_ret (results_row_tmp Try.results36 _ _ w.heap.size _ #[.int .i64 a, .int .i64 a] _ _ rfl W1.out Try.underlying67 rfl HI.out) rfl ⟨by rw [HO.out, HK.out]; rfl, B2.out⟩
    · go_wp2_with fail
      refine (HD2.out _).mono ?_
      rintro e _ ⟨rfl, rfl⟩
      cases q
      · go_wp2
        exact bodyPost_ret (results_row_tmp Try.results36 _ _ w.heap.size _ #[.int .i64 a, .int .i64 a] _ _ rfl W1.out Try.underlying67 rfl HI.out) rfl ⟨by rw [HO.out, HK.out]; rfl, B2.out⟩
      · go_wp2
        exact bodyPost_ret (results_row_tmp Try.results36 _ _ w.heap.size _ #[.int .i64 a, .int .i64 a] _ _ rfl W1.out Try.underlying67 rfl HI.out) rfl ⟨by rw [HO.out, HK.out]; rw [HN.out]; rfl, B2.out⟩
  · have HK := Lib.hid (show keyI a b = (b, a) by rw [keyI, Int.min_eq_right (by omega), Int.max_eq_left (by omega)])
    have HN := Lib.hid (show (a != b) = true by rw [bne_iff_ne]; omega)
    have hn := HN.out
    go_enter Try.func36, Try.ntmps36
    go_wp2_with fail
    refine (HD1.out _).mono ?_
    rintro e _ ⟨rfl, rfl⟩
    have W1 := Lib.hid (heap_alloc_new w (.cells #[.int .i64 b, .int .i64 a] 67))
    have B2 := Lib.hid ((Below.refl w.heap.size w).alloc (Nat.le_refl _) (.cells #[.int .i64 b, .int .i64 a] 67))
    cases p
    · go_wp2
      exact bodyPost_ret (results_row_tmp Try.results36 _ _ w.heap.size _ #[.int .i64 b, .int .i64 a] _ _ rfl W1.out Try.underlying67 rfl HI.out) rfl ⟨by rw [HO.out, HK.out]; rfl, B2.out⟩
    · go_wp2_with fail
      refine (HD2.out _).mono ?_
      rintro e _ ⟨rfl, rfl⟩
      cases q
      · go_wp2
        exact bodyPost_ret (results_row_tmp Try.results36 _ _ w.heap.size _ #[.int .i64 b, .int .i64 a] _ _ rfl W1.out Try.underlying67 rfl HI.out) rfl ⟨by rw [HO.out, HK.out]; rfl, B2.out⟩
      · go_wp2
        exact bodyPost_ret (results_row_tmp Try.results36 _ _ w.heap.size _ #[.int .i64 b, .int .i64 a] _ _ rfl W1.out Try.underlying67 rfl HI.out) rfl ⟨by rw [HO.out, HK.out]; rw [HN.out]; rfl, B2.out⟩
end Go.Proofs.Ythajlhifgafpkaa
