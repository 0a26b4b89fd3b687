/-
  Vectors: the examples.
-/
import Derived.Test.YtippojkdgecblaaDoorVecO
import Derived.Handy
namespace Go.Proofs.YtippojkdgecblaaDoor
open Go.RowKit
theorem at_v (d x : Int) (w : World) : Calls Tryd.prog 5 #[.int .i64 d, .int .u64 x] w fun e w' => e = .returned (.agg #[.int .i64 d, .int .u64 x]) ∧ Below w.heap.size w w' := by
  go_enter Tryd.func5, Tryd.ntmps5
  go_wp2
  go_returns
  exact ⟨rfl, (Below.refl _ _).alloc (Nat.le_refl _) _⟩
theorem CReads.lit (w : World) (l : List (Int × Nat)) (C : Array Value) (T : TypeId) (hC : C.toList = cntsC l) : CReads (w.alloc (.cells C T)) (w.heap.size + 1) (some ⟨w.heap.size, 0, none⟩) l.length l := by
  refine ⟨cntsC_len l, fun _ => ⟨_, rfl, Nat.lt_succ_self _, fun j u hu => ?_⟩⟩
  rw [← hC, Array.getElem?_toList] at hu
  rcases j with _ | j
  · rw [add_zero, World.cell?_alloc_at _ _ _ _ rfl]
    exact hu
  · rw [add_pos _ _ (by omega), World.cell?_alloc_at _ _ _ _ rfl]
    simpa using hu
/-- A slice of the call's own, of one or two vectors. -/
theorem MReads.lit (w : World) (B : Nat) (vs : List Vec) (C : Array Value) (T : TypeId) (hC : C.toList = vs.map Vec.v) (hB : B ≤ w.heap.size) (h : ∀ v ∈ vs, CReads w B v.A v.n v.l ∧ v.n ≤ 9223372036854775807) :
    MReads (w.alloc (.cells C T)) (w.heap.size + 1) (some ⟨w.heap.size, 0, none⟩) vs.length vs := by
  refine ⟨⟨by simp, fun _ => ⟨_, rfl, Nat.lt_succ_self _, fun j u hu => ?_⟩⟩, fun v hv => ⟨Reads.more (Reads.alloc (h v hv).1 hB _) (by omega), (h v hv).2⟩⟩
  rw [← hC, Array.getElem?_toList] at hu
  rcases j with _ | j
  · rw [add_zero, World.cell?_alloc_at _ _ _ _ rfl]
    exact hu
  · rw [add_pos _ _ (by omega), World.cell?_alloc_at _ _ _ _ rfl]
    simpa using hu
theorem fit_small (l : List (Int × Nat)) (h : (l.all fun x => decide (x.2 < 18446744073709551616)) = true) : fitV l := fun x hx => of_decide_eq_true (List.all_eq_true.1 h x hx)
set_option maxHeartbeats 2000000 in
theorem lives_v (w : World) : Calls Tryd.prog 7 #[] w fun e w' => e = .returned (.bool true) ∧ Below w.heap.size w w' := by
  go_enter Tryd.func7, Tryd.ntmps7
  go_wp2_with fail
  refine (at_v 1 2 w).mono ?_
  rintro e w1 ⟨rfl, hb1⟩
  go_wp2_with fail
  refine (bump_v (w1.heap.size + 1) _ 1 1 [(1, 2)] 3 _ (CReads.lit w1 [(1, 2)] _ _ rfl) (by simp) (by omega) (fit_small _ (by decide +kernel))).mono ?_
  rw [show bumpE [(1, 2)] 3 = 0 by decide +kernel, show bumpV [(1, 2)] 3 = [(1, 2), (3, 1)] by decide +kernel]
  rintro e w2 ⟨A2, n2, c2, rfl, ho2, hb2⟩
  have s2 : Below w.heap.size w w2 := (hb1.alloc hb1.size _).trans (hb2.mono (by simp; exact Nat.le_succ_of_le hb1.size))
  have R2 : Hid (CReads w2 w2.heap.size A2 n2 [(1, 2), (3, 1)]) := Lib.hid ho2.reads
  clear hb1 hb2 ho2
  go_wp2_with fail
  refine (at_v 1 2 w2).mono ?_
  rintro e w3 ⟨rfl, hb3⟩
  have K3 : Hid (CReads (w3.alloc (.cells #[.int .i64 1, .int .u64 2] 29)) (w3.heap.size + 1) (some ⟨w3.heap.size, 0, none⟩) 1 [(1, 2)]) := Lib.hid (CReads.lit w3 [(1, 2)] _ _ rfl)
  go_wp2_with fail
  refine (at_v 1 1 _).mono ?_
  rintro e w4 ⟨rfl, hb4⟩
  go_wp2_with fail
  refine (at_v 3 4 _).mono ?_
  rintro e w5 ⟨rfl, hb5⟩
  have s4 : Below w.heap.size w w5 := s2.trans ((btwo (btwo hb3 ((Below.refl _ _).alloc (Nat.le_refl _) _)) ((btwo hb4 hb5).mono (Nat.le_refl _))).mono s2.size)
  have R5 : Hid (CReads w5 w5.heap.size A2 n2 [(1, 2), (3, 1)]) := Lib.hid (Reads.more (Reads.below (show Reads w2 w2.heap.size 2 A2 n2 _ from R2.out) (btwo (btwo hb3 ((Below.refl _ _).alloc (Nat.le_refl _) _)) (btwo hb4 hb5))) (btwo (btwo hb3 ((Below.refl _ _).alloc (Nat.le_refl _) _)) (btwo hb4 hb5)).size)
  have K5 : Hid (CReads w5 w5.heap.size (some ⟨w3.heap.size, 0, none⟩) 1 [(1, 2)]) := Lib.hid (Reads.more (Reads.below (show Reads _ (w3.heap.size + 1) 2 _ 1 _ from K3.out) ((btwo hb4 hb5).mono (by simp))) (by have := (btwo hb4 hb5).size; simpa using this))
  clear hb3 hb4 hb5 s2
  obtain ⟨vs, hvs⟩ : ∃ vs : List Vec, vs = [⟨some ⟨w3.heap.size, 0, none⟩, 1, 1, [(1, 2)]⟩, ⟨some ⟨w5.heap.size, 0, none⟩, 2, 2, [(1, 1), (3, 4)]⟩] := ⟨_, rfl⟩
  have hk2 : CReads (w5.alloc (.cells #[.int .i64 1, .int .u64 1, .int .i64 3, .int .u64 4] 29)) (w5.heap.size + 1) (some ⟨w5.heap.size, 0, none⟩) 2 [(1, 1), (3, 4)] := CReads.lit w5 [(1, 1), (3, 4)] _ _ rfl
  have hk1 : CReads (w5.alloc (.cells #[.int .i64 1, .int .u64 1, .int .i64 3, .int .u64 4] 29)) (w5.heap.size + 1) (some ⟨w3.heap.size, 0, none⟩) 1 [(1, 2)] := Reads.more (Reads.alloc K5.out (Nat.le_refl _) _) (by omega)
  have hm0 : ∀ v ∈ vs, CReads (w5.alloc (.cells #[.int .i64 1, .int .u64 1, .int .i64 3, .int .u64 4] 29)) (w5.heap.size + 1) v.A v.n v.l ∧ v.n ≤ 9223372036854775807 := by
    intro v hv
    rw [hvs] at hv
    rcases List.mem_cons.1 hv with rfl | hv
    · exact ⟨hk1, by show 1 ≤ _; omega⟩
    · rcases List.mem_cons.1 hv with rfl | hv
      · exact ⟨hk2, by show 2 ≤ _; omega⟩
      · simp at hv
  have hfit : ∀ v ∈ vs, fitV v.l := by
    intro v hv
    rw [hvs] at hv
    rcases List.mem_cons.1 hv with rfl | hv
    · exact fit_small [(1, 2)] (by decide +kernel)
    · rcases List.mem_cons.1 hv with rfl | hv
      · exact fit_small [(1, 1), (3, 4)] (by decide +kernel)
      · simp at hv
  have hC : (#[.slice (some ⟨w3.heap.size, 0, none⟩) 1 1, .slice (some ⟨w5.heap.size, 0, none⟩) 2 2] : Array Value).toList = vs.map Vec.v := by rw [hvs]; rfl
  have hM := Lib.hid (MReads.lit _ (w5.heap.size + 1) vs _ 23 hC (by simp) hm0)
  have hl2 : vs.length = 2 := by rw [hvs]; rfl
  rw [hl2] at hM
  have hE : mergeE (vs.map Vec.l) = 0 := by rw [hvs]; show mergeE [[(1, 2)], [(1, 1), (3, 4)]] = 0; decide +kernel
  have hV : mergeV (vs.map Vec.l) = [(1, 2), (3, 4)] := by rw [hvs]; show mergeV [[(1, 2)], [(1, 1), (3, 4)]] = [(1, 2), (3, 4)]; decide +kernel
  have HE := Lib.hid hE
  have HV := Lib.hid hV
  have HFIT := Lib.hid hfit
  clear hvs hk1 hk2 hm0 hfit hC hl2 hE hV K5
  go_wp2_with fail
  have hb6 : Below w.heap.size w ((w5.alloc (.cells #[.int .i64 1, .int .u64 1, .int .i64 3, .int .u64 4] 29)).alloc (.cells #[.slice (some ⟨w3.heap.size, 0, none⟩) 1 1, .slice (some ⟨w5.heap.size, 0, none⟩) 2 2] 23)) := (s4.alloc s4.size _).alloc (by have := s4.size; simp; omega) _
  have R6 : Hid (CReads ((w5.alloc (.cells #[.int .i64 1, .int .u64 1, .int .i64 3, .int .u64 4] 29)).alloc (.cells #[.slice (some ⟨w3.heap.size, 0, none⟩) 1 1, .slice (some ⟨w5.heap.size, 0, none⟩) 2 2] 23)) w5.heap.size A2 n2 [(1, 2), (3, 1)]) := Lib.hid (Reads.alloc (Reads.alloc R5.out (Nat.le_refl _) _) (by simp) _)
  have hsz : w5.heap.size + 2 = ((w5.alloc (.cells #[.int .i64 1, .int .u64 1, .int .i64 3, .int .u64 4] 29)).alloc (.cells #[.slice (some ⟨w3.heap.size, 0, none⟩) 1 1, .slice (some ⟨w5.heap.size, 0, none⟩) 2 2] 23)).heap.size := by simp
  have HSZ := Lib.hid hsz
  clear hsz R5 s4
  generalize ((w5.alloc (.cells #[.int .i64 1, .int .u64 1, .int .i64 3, .int .u64 4] 29)).alloc (.cells #[.slice (some ⟨w3.heap.size, 0, none⟩) 1 1, .slice (some ⟨w5.heap.size, 0, none⟩) 2 2] 23)) = w6 at *
  have hMs : (w5.alloc (.cells #[.int .i64 1, .int .u64 1, .int .i64 3, .int .u64 4] 29)).heap.size = w5.heap.size + 1 := by simp
  rw [hMs] at hM
  clear hMs
  refine (merge_v (w5.heap.size + 1 + 1) (some ⟨w5.heap.size + 1, 0, none⟩) 2 2 vs w6 hM.out (by rw [← HSZ.out]; omega) (by omega) HFIT.out).mono ?_
  rw [HE.out, HV.out]
  rintro e w7 ⟨A7, n7, c7, rfl, ho7, hb7⟩
  have s7 := hb6.trans (hb7.mono hb6.size)
  have R7 : Hid (CReads w7 w7.heap.size A2 n2 [(1, 2), (3, 1)]) := Lib.hid (Reads.more (Reads.below (show Reads w6 w5.heap.size 2 A2 n2 _ from R6.out) (hb7.mono (by rw [← HSZ.out]; omega))) (Nat.le_trans (by rw [← HSZ.out]; omega) hb7.size))
  have M7 : Hid (CReads w7 w7.heap.size A7 n7 [(1, 2), (3, 4)]) := Lib.hid ho7.reads
  have n2e : n2 ≤ 9223372036854775807 := by have := R7.out.len; simp at this; omega
  have n7e : n7 ≤ 9223372036854775807 := by have := M7.out.len; simp at this; omega
  clear ho7 hb7 hb6 R6 hM HE HV HFIT HSZ R2 K3
  go_wp2_with fail
  refine (at_v 1 2 _).mono ?_
  rintro e w8 ⟨rfl, hb8⟩
  go_wp2_with fail
  refine (at_v 3 1 _).mono ?_
  rintro e w9 ⟨rfl, hb9⟩
  have t9 := btwo hb8 hb9
  have s9 := s7.trans (t9.mono s7.size)
  have R9 : Hid (CReads w9 w9.heap.size A2 n2 [(1, 2), (3, 1)]) := Lib.hid (Reads.more (Reads.below (show Reads w7 w7.heap.size 2 A2 n2 _ from R7.out) t9) t9.size)
  have M9 : Hid (CReads w9 w9.heap.size A7 n7 [(1, 2), (3, 4)]) := Lib.hid (Reads.more (Reads.below (show Reads w7 w7.heap.size 2 A7 n7 _ from M7.out) t9) t9.size)
  have hk9 := Lib.hid (CReads.lit w9 [(1, 2), (3, 1)] #[.int .i64 1, .int .u64 2, .int .i64 3, .int .u64 1] 29 rfl)
  clear hb8 hb9 t9 s7 R7 M7
  go_wp2_with fail
  refine (same_v (w9.heap.size + 1) A2 (some ⟨w9.heap.size, 0, none⟩) n2 c2 2 2 [(1, 2), (3, 1)] [(1, 2), (3, 1)] _ (Reads.more (Reads.alloc R9.out (Nat.le_refl _) _) (by omega)) hk9.out (by simp) n2e).mono ?_
  rw [show decide ([((1 : Int), 2), (3, 1)] = [(1, 2), (3, 1)]) = true by decide +kernel]
  rintro e w10 ⟨rfl, hb10⟩
  have t10 : Below w9.heap.size w9 w10 := ((Below.refl _ _).alloc (Nat.le_refl _) _).trans (hb10.mono (by simp))
  have s10 := s9.trans (t10.mono s9.size)
  have R10 : Hid (CReads w10 w10.heap.size A2 n2 [(1, 2), (3, 1)]) := Lib.hid (Reads.more (Reads.below (show Reads w9 w9.heap.size 2 A2 n2 _ from R9.out) t10) t10.size)
  have M10 : Hid (CReads w10 w10.heap.size A7 n7 [(1, 2), (3, 4)]) := Lib.hid (Reads.more (Reads.below (show Reads w9 w9.heap.size 2 A7 n7 _ from M9.out) t10) t10.size)
  clear hb10 t10 s9 R9 M9 hk9
  go_wp2_with fail
  refine (at_v 1 2 _).mono ?_
  rintro e w11 ⟨rfl, hb11⟩
  go_wp2_with fail
  refine (at_v 3 4 _).mono ?_
  rintro e w12 ⟨rfl, hb12⟩
  have t12 := btwo hb11 hb12
  have s12 := s10.trans (t12.mono s10.size)
  have R12 : Hid (CReads w12 w12.heap.size A2 n2 [(1, 2), (3, 1)]) := Lib.hid (Reads.more (Reads.below (show Reads w10 w10.heap.size 2 A2 n2 _ from R10.out) t12) t12.size)
  have M12 : Hid (CReads w12 w12.heap.size A7 n7 [(1, 2), (3, 4)]) := Lib.hid (Reads.more (Reads.below (show Reads w10 w10.heap.size 2 A7 n7 _ from M10.out) t12) t12.size)
  have hk12 := Lib.hid (CReads.lit w12 [(1, 2), (3, 4)] #[.int .i64 1, .int .u64 2, .int .i64 3, .int .u64 4] 29 rfl)
  clear hb11 hb12 t12 s10 R10 M10
  go_wp2_with fail
  refine (same_v (w12.heap.size + 1) A7 (some ⟨w12.heap.size, 0, none⟩) n7 c7 2 2 [(1, 2), (3, 4)] [(1, 2), (3, 4)] _ (Reads.more (Reads.alloc M12.out (Nat.le_refl _) _) (by omega)) hk12.out (by simp) n7e).mono ?_
  rw [show decide ([((1 : Int), 2), (3, 4)] = [(1, 2), (3, 4)]) = true by decide +kernel]
  rintro e w13 ⟨rfl, hb13⟩
  have t13 : Below w12.heap.size w12 w13 := ((Below.refl _ _).alloc (Nat.le_refl _) _).trans (hb13.mono (by simp))
  have s13 := s12.trans (t13.mono s12.size)
  have R13 : Hid (CReads w13 w13.heap.size A2 n2 [(1, 2), (3, 1)]) := Lib.hid (Reads.more (Reads.below (show Reads w12 w12.heap.size 2 A2 n2 _ from R12.out) t13) t13.size)
  clear hb13 t13 s12 R12 M12 hk12
  go_wp2_with fail
  refine (at_v 1 2 _).mono ?_
  rintro e w14 ⟨rfl, hb14⟩
  have s14 := s13.trans (hb14.mono s13.size)
  have R14 : Hid (CReads w14 w14.heap.size A2 n2 [(1, 2), (3, 1)]) := Lib.hid (Reads.more (Reads.below (show Reads w13 w13.heap.size 2 A2 n2 _ from R13.out) hb14) hb14.size)
  have hk14 := Lib.hid (CReads.lit w14 [(1, 2)] #[.int .i64 1, .int .u64 2] 29 rfl)
  clear hb14 s13 R13
  go_wp2_with fail
  refine (compare_v (w14.heap.size + 1) (some ⟨w14.heap.size, 0, none⟩) A2 1 1 n2 c2 [(1, 2)] [(1, 2), (3, 1)] _ hk14.out (Reads.more (Reads.alloc R14.out (Nat.le_refl _) _) (by omega)) (by simp) (by omega) n2e (fit_small _ (by decide +kernel)) (fit_small _ (by decide +kernel))).mono ?_
  rw [show cmpV [(1, 2)] [(1, 2), (3, 1)] = 2 by decide +kernel]
  rintro e w15 ⟨rfl, hb15⟩
  have s15 := (s14.alloc s14.size (.cells #[.int .i64 1, .int .u64 2] 29)).trans (hb15.mono (by have := s14.size; simp; omega))
  go_wp2
  go_ret
  exact ⟨rfl, s15⟩
end Go.Proofs.YtippojkdgecblaaDoor
