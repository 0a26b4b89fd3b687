/-
  Vectors: Bump and Merge.
-/
import Derived.Test.YtippojkdgecblaaDoorVec
namespace Go.Proofs.YtippojkdgecblaaDoor
open Go.RowKit
/-- The values fit. -/
def fitV (l : List (Int × Nat)) : Prop := ∀ x ∈ l, x.2 < 18446744073709551616
theorem fit_val : ∀ (l : List (Int × Nat)) (d : Int), fitV l → val l d < 18446744073709551616
  | [], _, _ => by simp [val]
  | x :: l, d, h => by
    rw [val_cons]
    split
    · exact h x List.mem_cons_self
    · exact fit_val l d fun y hy => h y (List.mem_cons_of_mem _ hy)
def bumpF (l : List (Int × Nat)) (dev d : Int) : Nat := if d = dev then val l d + 1 else val l d
theorem bump1_v (B : Nat) (A : Option Addr) (n c : Nat) (l : List (Int × Nat)) (dev d : Int) (w : World) (p1 p2 : Addr) (h1 : w.cell? p1 = some (.int .i64 dev)) (h2 : w.cell? p2 = some (.slice A n c)) (hr : CReads w B A n l) (hB : B ≤ w.heap.size) (hn : n ≤ 9223372036854775807)
    (hl : fitV l) (hv : val l dev < 18446744073709551615) :
    Calls Tryd.prog 28 #[.int .i64 d, .pointer (some p1), .pointer (some p2)] w fun e w' => e = .returned (.int .u64 (bumpF l dev d : Int)) ∧ Below w.heap.size w w' := by
  have hvd := fit_val l d hl
  by_cases hd : d = dev
  · subst hd
    have HF := Lib.hid (show bumpF l d d = val l d + 1 by rw [bumpF, if_pos rfl])
    go_enter Tryd.func28, Tryd.ntmps28
    go_wp2_with fail
    refine (val_v B A n c l d w hr hB hn).mono ?_
    generalize val l d = x at *
    rintro e w1 ⟨rfl, hb⟩
    go_wp2
    go_ret
    exact ⟨by rw [HF.out]; exact ret_int (by simp), hb⟩
  · have hb : (d == dev) = false := by simpa using hd
    have HF := Lib.hid (show bumpF l dev d = val l d by rw [bumpF, if_neg hd])
    go_enter Tryd.func28, Tryd.ntmps28
    go_wp2_with fail
    refine (val_v B A n c l d w hr hB hn).mono ?_
    generalize val l d = x at *
    rintro e w1 ⟨rfl, hb⟩
    go_wp2
    go_ret
    exact ⟨by rw [HF.out]; rfl, hb⟩
theorem run_f {f : FuncId} {fn : Func} {c : Code} (hf : Tryd.prog.funcs[f]? = some fn) (hname : (fn.name == "runtime.NumGoroutine") = false) (hb : fn.body = some c) : ∀ (args : Array Value) (w : World), (callFunc f args).run Tryd.prog w = .ok (.enter f args) w :=
  fun args w => by
    have h1 : fn.name ≠ "runtime.NumGoroutine" := by simpa using hname
    simp [callFunc, hf, h1, hb]
def bumpE (l : List (Int × Nat)) (dev : Int) : Int := if okV 0 l = false then 2 else if dev < 1 ∨ 16 < dev then 2 else if val l dev = 18446744073709551615 then 3 else 0
def bumpV (l : List (Int × Nat)) (dev : Int) : List (Int × Nat) := if bumpE l dev = 0 then ofV (bumpF l dev) else []
set_option maxHeartbeats 1000000 in
theorem bump_v (B : Nat) (A : Option Addr) (n c : Nat) (l : List (Int × Nat)) (dev : Int) (w : World) (hr : CReads w B A n l) (hB : B ≤ w.heap.size) (hn : n ≤ 9223372036854775807) (hl : fitV l) :
    Calls Tryd.prog 6 #[.slice A n c, .int .i64 dev] w fun e w' => ∃ A' n' c', e = .returned (.tuple #[.slice A' n' c', .int .i64 (bumpE l dev)]) ∧ COwn w' w.heap.size A' n' c' (bumpV l dev) ∧ Below w.heap.size w w' := by
  have hb0 : Below w.heap.size w ((w.alloc (.cells #[.slice A n c] 23)).alloc (.cells #[.int .i64 dev] 3)) := ((Below.refl _ _).alloc (Nat.le_refl _) _).alloc (by simp) _
  have HR := Lib.hid (show CReads ((w.alloc (.cells #[.slice A n c] 23)).alloc (.cells #[.int .i64 dev] 3)) B A n l from Reads.alloc (Reads.alloc hr hB _) (by simp; omega) _)
  generalize hW : ((w.alloc (.cells #[.slice A n c] 23)).alloc (.cells #[.int .i64 dev] 3)) = W at hb0 HR
  have c1 : W.cell? ⟨w.heap.size, 0, none⟩ = some (.slice A n c) := by rw [← hW, World.cell?_alloc_lt _ _ _ (by simp), World.cell?_alloc_at _ _ _ _ rfl]; rfl
  have c2 : W.cell? ⟨w.heap.size + 1, 0, none⟩ = some (.int .i64 dev) := by rw [← hW, World.cell?_alloc_at _ _ _ _ (by simp)]; rfl
  have hsz : w.heap.size + 2 = W.heap.size := by rw [← hW]; simp
  have HBW : Hid (B ≤ W.heap.size) := Lib.hid (by omega)
  have HW := Lib.hid hW
  have HSZ := Lib.hid hsz
  clear hsz
  cases ho : okV 0 l
  · have HE := Lib.hid (show bumpE l dev = 2 by rw [bumpE, if_pos ho])
    have HO := Lib.hid ho
    clear ho
    go_enter Tryd.func6, Tryd.ntmps6
    go_wp2_with fail
    refine (check_v B A n c l W HR.out HBW.out hn).mono ?_
    rw [HO.out]
    rintro e w1 ⟨rfl, hb⟩
    go_wp2
    go_ret2
    exact ⟨none, 0, 0, by rw [HE.out]; rfl, by rw [bumpV, if_neg (by rw [HE.out]; decide)]; exact COwn.nil_ _ _, hb0.trans (hb.mono (by rw [← HSZ.out]; omega))⟩
  · by_cases b1 : dev < 1
    · have HE := Lib.hid (show bumpE l dev = 2 by rw [bumpE, if_neg (by simp [ho]), if_pos (.inl b1)])
      have HO := Lib.hid ho
      have d1 : decide (dev < 1) = true := by simpa using b1
      clear ho b1
      go_enter Tryd.func6, Tryd.ntmps6
      go_wp2_with fail
      refine (check_v B A n c l W HR.out HBW.out hn).mono ?_
      rw [HO.out]
      rintro e w1 ⟨rfl, hb⟩
      have hb1 : Below w.heap.size w w1 := hb0.trans (hb.mono (by rw [← HSZ.out]; omega))
      have c3 : w1.cell? ⟨w.heap.size, 0, none⟩ = some (.slice A n c) := (hb.cell (p := ⟨w.heap.size, 0, none⟩) (by rw [← HSZ.out]; show w.heap.size < _; omega)).trans c1
      have c4 : w1.cell? ⟨w.heap.size + 1, 0, none⟩ = some (.int .i64 dev) := (hb.cell (p := ⟨w.heap.size + 1, 0, none⟩) (by rw [← HSZ.out]; show w.heap.size + 1 < _; omega)).trans c2
      have HR1 := Lib.hid (show CReads w1 B A n l from Reads.below (show Reads W B 2 A n _ from HR.out) (hb.mono HBW.out))
      have HB1 : Hid (B ≤ w1.heap.size) := Lib.hid (Nat.le_trans HBW.out hb.size)
      have HS1 : Hid (w.heap.size + 2 ≤ w1.heap.size) := Lib.hid (by rw [HSZ.out]; exact hb.size)
      clear hb
      go_wp2
      go_ret2
      exact ⟨none, 0, 0, by rw [HE.out]; rfl, by rw [bumpV, if_neg (by rw [HE.out]; decide)]; exact COwn.nil_ _ _, hb1⟩
    · have d1 : decide (dev < 1) = false := by simpa using b1
      by_cases b2 : 16 < dev
      · have HE := Lib.hid (show bumpE l dev = 2 by rw [bumpE, if_neg (by simp [ho]), if_pos (.inr b2)])
        have HO := Lib.hid ho
        have d2 : decide (16 < dev) = true := by simpa using b2
        clear ho b1 b2
        go_enter Tryd.func6, Tryd.ntmps6
        go_wp2_with fail
        refine (check_v B A n c l W HR.out HBW.out hn).mono ?_
        rw [HO.out]
        rintro e w1 ⟨rfl, hb⟩
        have hb1 : Below w.heap.size w w1 := hb0.trans (hb.mono (by rw [← HSZ.out]; omega))
        have c3 : w1.cell? ⟨w.heap.size, 0, none⟩ = some (.slice A n c) := (hb.cell (p := ⟨w.heap.size, 0, none⟩) (by rw [← HSZ.out]; show w.heap.size < _; omega)).trans c1
        have c4 : w1.cell? ⟨w.heap.size + 1, 0, none⟩ = some (.int .i64 dev) := (hb.cell (p := ⟨w.heap.size + 1, 0, none⟩) (by rw [← HSZ.out]; show w.heap.size + 1 < _; omega)).trans c2
        have HR1 := Lib.hid (show CReads w1 B A n l from Reads.below (show Reads W B 2 A n _ from HR.out) (hb.mono HBW.out))
        have HB1 : Hid (B ≤ w1.heap.size) := Lib.hid (Nat.le_trans HBW.out hb.size)
        have HS1 : Hid (w.heap.size + 2 ≤ w1.heap.size) := Lib.hid (by rw [HSZ.out]; exact hb.size)
        clear hb
        go_wp2
        go_ret2
        exact ⟨none, 0, 0, by rw [HE.out]; rfl, by rw [bumpV, if_neg (by rw [HE.out]; decide)]; exact COwn.nil_ _ _, hb1⟩
      · have d2 : decide (16 < dev) = false := by simpa using b2
        have hvd := fit_val l dev hl
        by_cases b3 : val l dev = 18446744073709551615
        · have HE := Lib.hid (show bumpE l dev = 3 by rw [bumpE, if_neg (by simp [ho]), if_neg (by omega), if_pos b3])
          have HO := Lib.hid ho
          have HV := Lib.hid b3
          clear ho b1 b2 b3 hvd
          go_enter Tryd.func6, Tryd.ntmps6
          go_wp2_with fail
          refine (check_v B A n c l W HR.out HBW.out hn).mono ?_
          rw [HO.out]
          rintro e w1 ⟨rfl, hb⟩
          have hb1 : Below w.heap.size w w1 := hb0.trans (hb.mono (by rw [← HSZ.out]; omega))
          have c3 : w1.cell? ⟨w.heap.size, 0, none⟩ = some (.slice A n c) := (hb.cell (p := ⟨w.heap.size, 0, none⟩) (by rw [← HSZ.out]; show w.heap.size < _; omega)).trans c1
          have c4 : w1.cell? ⟨w.heap.size + 1, 0, none⟩ = some (.int .i64 dev) := (hb.cell (p := ⟨w.heap.size + 1, 0, none⟩) (by rw [← HSZ.out]; show w.heap.size + 1 < _; omega)).trans c2
          have HR1 := Lib.hid (show CReads w1 B A n l from Reads.below (show Reads W B 2 A n _ from HR.out) (hb.mono HBW.out))
          have HB1 : Hid (B ≤ w1.heap.size) := Lib.hid (Nat.le_trans HBW.out hb.size)
          have HS1 : Hid (w.heap.size + 2 ≤ w1.heap.size) := Lib.hid (by rw [HSZ.out]; exact hb.size)
          clear hb
          go_wp2_with fail
          refine (val_v B A n c l dev w1 HR1.out HB1.out hn).mono ?_
          rw [HV.out]
          rintro e w2 ⟨rfl, hb⟩
          have hb2 : Below w.heap.size w w2 := hb1.trans (hb.mono hb1.size)
          go_wp2
          go_ret2
          exact ⟨none, 0, 0, by rw [HE.out]; rfl, by rw [bumpV, if_neg (by rw [HE.out]; decide)]; exact COwn.nil_ _ _, hb2⟩
        · have HE := Lib.hid (show bumpE l dev = 0 by rw [bumpE, if_neg (by simp [ho]), if_neg (by omega), if_neg b3])
          have HO := Lib.hid ho
          have hv3 : val l dev < 18446744073709551615 := by omega
          have d3 : ((val l dev : Int) == 18446744073709551615) = false := by rw [beq_eq_false_iff_ne]; omega
          clear ho b1 b2 b3 hvd
          go_enter Tryd.func6, Tryd.ntmps6
          go_wp2_with fail
          refine (check_v B A n c l W HR.out HBW.out hn).mono ?_
          rw [HO.out]
          rintro e w1 ⟨rfl, hb⟩
          have hb1 : Below w.heap.size w w1 := hb0.trans (hb.mono (by rw [← HSZ.out]; omega))
          have c3 : w1.cell? ⟨w.heap.size, 0, none⟩ = some (.slice A n c) := (hb.cell (p := ⟨w.heap.size, 0, none⟩) (by rw [← HSZ.out]; show w.heap.size < _; omega)).trans c1
          have c4 : w1.cell? ⟨w.heap.size + 1, 0, none⟩ = some (.int .i64 dev) := (hb.cell (p := ⟨w.heap.size + 1, 0, none⟩) (by rw [← HSZ.out]; show w.heap.size + 1 < _; omega)).trans c2
          have HR1 := Lib.hid (show CReads w1 B A n l from Reads.below (show Reads W B 2 A n _ from HR.out) (hb.mono HBW.out))
          have HB1 : Hid (B ≤ w1.heap.size) := Lib.hid (Nat.le_trans HBW.out hb.size)
          have HS1 : Hid (w.heap.size + 2 ≤ w1.heap.size) := Lib.hid (by rw [HSZ.out]; exact hb.size)
          clear hb
          go_wp2_with fail
          refine (val_v B A n c l dev w1 HR1.out HB1.out hn).mono ?_
          rintro e w2 ⟨rfl, hb⟩
          have hb2 : Below w.heap.size w w2 := hb1.trans (hb.mono hb1.size)
          have hs2 := hb.size
          have HF : Hid (∀ (d : Int) (V : World), 1 ≤ d → d ≤ 16 → Below w2.heap.size w2 V → Calls Tryd.prog 28 (#[.int .i64 d] ++ #[.pointer (some ⟨w.heap.size + 1, 0, none⟩), .pointer (some ⟨w.heap.size, 0, none⟩)]) V fun e V' => e = .returned (.int .u64 (bumpF l dev d : Int)) ∧ Below V.heap.size V V') :=
            Lib.hid fun d V _ _ hV => bump1_v B A n c l dev d V _ _ ((hV.cell (p := ⟨w.heap.size + 1, 0, none⟩) (by have := HS1.out; show w.heap.size + 1 < _; omega)).trans ((hb.cell (p := ⟨w.heap.size + 1, 0, none⟩) (by have := HS1.out; show w.heap.size + 1 < _; omega)).trans c4))
              ((hV.cell (p := ⟨w.heap.size, 0, none⟩) (by have := HS1.out; show w.heap.size < _; omega)).trans ((hb.cell (p := ⟨w.heap.size, 0, none⟩) (by have := HS1.out; show w.heap.size < _; omega)).trans c3))
              (Reads.below (show Reads w2 B 2 A n _ from Reads.below (show Reads w1 B 2 A n _ from HR1.out) (hb.mono HB1.out)) (hV.mono (Nat.le_trans HB1.out hs2))) (Nat.le_trans (Nat.le_trans HB1.out hs2) hV.size) hn hl hv3
          have HL : Hid (∀ d, bumpF l dev d < 18446744073709551616) := Lib.hid fun d => by
            have := fit_val l d hl
            unfold bumpF
            split
            · rename_i h; subst h; omega
            · exact this
          clear c3 c4 c1 c2 hb hb1
          go_wp2_with fail
          refine (of_v 28 _ (bumpF l dev) w2 (run_f Tryd.func28 (by kernel_rfl) rfl) HL.out HF.out).mono ?_
          rintro e w3 ⟨A3, n3, c3, rfl, ho3, hb3⟩
          go_wp2
          go_ret2
          exact ⟨A3, n3, c3, by rw [HE.out]; rfl, by rw [bumpV, if_pos HE.out]; exact ho3.down hb2.size, hb2.trans (hb3.mono hb2.size)⟩
end Go.Proofs.YtippojkdgecblaaDoor
