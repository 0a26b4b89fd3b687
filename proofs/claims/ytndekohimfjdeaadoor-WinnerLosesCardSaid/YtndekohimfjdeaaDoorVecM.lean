/-
  Vectors: Merge.
-/
import Derived.Test.YtndekohimfjdeaaDoorVecB
namespace Go.Proofs.YtndekohimfjdeaaDoor
open Go.RowKit
/-- A vector that is handed on: its slice, and what it reads as. -/
structure Vec where
  A : Option Addr
  n : Nat
  c : Nat
  l : List (Int × Nat)
def Vec.v (x : Vec) : Value := .slice x.A x.n x.c
/-- A slice of vectors reads as these. -/
def MReads (w : World) (B : Nat) (A : Option Addr) (n : Nat) (vs : List Vec) : Prop := Reads w B 1 A n (vs.map Vec.v) ∧ ∀ v ∈ vs, CReads w B v.A v.n v.l ∧ v.n ≤ 9223372036854775807
theorem MReads.len {w : World} {B n : Nat} {A : Option Addr} {vs : List Vec} (h : MReads w B A n vs) : vs.length = n := by have := h.1.1; simpa using this
theorem MReads.below {w w' : World} {B n : Nat} {A : Option Addr} {vs : List Vec} (h : MReads w B A n vs) (hb : Below B w w') : MReads w' B A n vs :=
  ⟨h.1.below hb, fun v hv => ⟨Reads.below (show Reads w B 2 v.A v.n _ from (h.2 v hv).1) hb, (h.2 v hv).2⟩⟩
theorem MReads.at_ {w : World} {B n k : Nat} {A : Option Addr} {vs : List Vec} (h : MReads w B A n vs) (hk : k < n) :
    ∃ ad v, A = some ad ∧ ad.block < B ∧ vs[k]? = some v ∧ w.cell? (ad.add k) = some (.slice v.A v.n v.c) ∧ CReads w B v.A v.n v.l ∧ v.n ≤ 9223372036854775807 := by
  obtain ⟨ad, u, e, hb, hu, hc⟩ := h.1.at_ hk
  rw [List.getElem?_map] at hu
  cases hv : vs[k]? with
  | none => rw [hv] at hu; cases hu
  | some v =>
    rw [hv] at hu
    injection hu with hu
    subst hu
    exact ⟨ad, v, e, hb, rfl, hc, h.2 v (List.mem_of_getElem? hv)⟩
def mergeF (vs : List (List (Int × Nat))) (d : Int) : Nat := vs.foldl (fun x v => max x (val v d)) 0
theorem fit_merge (vs : List (List (Int × Nat))) (d : Int) (h : ∀ v ∈ vs, fitV v) : mergeF vs d < 18446744073709551616 := by
  have key : ∀ (vs : List (List (Int × Nat))) (x : Nat), x < 18446744073709551616 → (∀ v ∈ vs, fitV v) → vs.foldl (fun x v => max x (val v d)) x < 18446744073709551616 := by
    intro vs
    induction vs with
    | nil => intro x hx _; exact hx
    | cons v vs ih =>
      intro x hx h
      have h1 := fit_val v d (h v List.mem_cons_self)
      exact ih _ (by show max x (val v d) < _; omega) fun u hu => h u (List.mem_cons_of_mem _ hu)
  exact key vs 0 (by omega) h
theorem fold_take (vs : List (List (Int × Nat))) (d : Int) (k : Nat) (v : List (Int × Nat)) (h : vs[k]? = some v) : mergeF (vs.take (k + 1)) d = max (mergeF (vs.take k) d) (val v d) := by
  obtain ⟨hk, he⟩ := List.getElem?_eq_some_iff.1 h
  rw [mergeF, List.take_succ_eq_append_getElem hk, he, List.foldl_append]
  rfl
theorem max_if (x y : Nat) : (if x < y then (y : Int) else (x : Int)) = ((max x y : Nat) : Int) := by split <;> omega
set_option maxHeartbeats 1000000 in
theorem merge1_v (B : Nat) (A : Option Addr) (n c : Nat) (vs : List Vec) (d : Int) (w : World) (p1 : Addr) (_hp : p1.block < w.heap.size) (h1 : w.cell? p1 = some (.slice A n c)) (hr : MReads w B A n vs) (hB : B ≤ w.heap.size) (hn : n ≤ 9223372036854775807)
    (hl : ∀ v ∈ vs, fitV v.l) :
    Calls Tryd.prog 57 #[.int .i64 d, .pointer (some p1)] w fun e w' => e = .returned (.int .u64 (mergeF (vs.map Vec.l) d : Int)) ∧ Below w.heap.size w w' := by
  have HLEN := Lib.hid hr.len
  go_enter Tryd.func57, Tryd.ntmps57
  go_wp2
  go_loopw [4, 9] (fun x i wr => ∃ (k : Nat), k ≤ n ∧ i = .int .i64 (k : Int) ∧ x = .int .u64 (mergeF ((vs.map Vec.l).take k) d : Int) ∧ Below w.heap.size w wr) (fun _ i _ => n - (intOf i).toNat)
  case atStart => exact ⟨0, Nat.zero_le _, rfl, rfl, Below.refl _ _⟩
  case round =>
    obtain ⟨k, hk, rfl, rfl, hb⟩ := hrel
    have HR := Lib.hid (hr.below (hb.mono hB))
    have hx64 : mergeF ((vs.map Vec.l).take k) d < 18446744073709551616 := fit_merge _ _ fun v hv => by
      obtain ⟨u, hu, rfl⟩ := List.mem_map.1 (List.mem_of_mem_take hv)
      exact hl u hu
    by_cases hlt : k < n
    · obtain ⟨ad, v, he, had, hv, hc, hcr, hvn⟩ := HR.out.at_ hlt
      subst he
      have HF := Lib.hid (fold_take (vs.map Vec.l) d k v.l (by rw [List.getElem?_map, hv]; rfl))
      have hv64 := fit_val v.l d (hl v (List.mem_of_getElem? hv))
      have HCR := Lib.hid hcr
      clear hv hcr
      obtain ⟨x, hx⟩ : ∃ x, mergeF ((vs.map Vec.l).take k) d = x := ⟨_, rfl⟩
      rw [hx] at HF hx64 ⊢
      clear hx
      go_wp2_with fail
      refine (val_v B v.A v.n v.c v.l d wr HCR.out (Nat.le_trans hB hb.size) hvn).mono ?_
      obtain ⟨y, hy⟩ : ∃ y, val v.l d = y := ⟨_, rfl⟩
      rw [hy] at HF hv64 ⊢
      clear hy
      rintro e w1 ⟨rfl, hb1⟩
      have hb2 := hb.trans (hb1.mono hb.size)
      clear hb1
      go_wp2
      go_roundw
      case rel => exact ⟨k + 1, hlt, by go_num, by rw [HF.out, ← max_if], hb2⟩
      case measure => simp [intOf]; omega
    · obtain rfl : k = n := by omega
      have HF := Lib.hid (show (vs.map Vec.l).take k = vs.map Vec.l by rw [List.take_of_length_le (by rw [List.length_map, HLEN.out]; exact Nat.le_refl _)])
      go_wp2
      go_ret
      exact ⟨by rw [HF.out]; rfl, hb⟩
def allOk (vs : List (List (Int × Nat))) : Bool := vs.all (okV 0)
def mergeE (vs : List (List (Int × Nat))) : Int := if allOk vs then 0 else 2
def mergeV (vs : List (List (Int × Nat))) : List (Int × Nat) := if allOk vs then ofV (mergeF vs) else []
set_option maxHeartbeats 2000000 in
theorem merge_v (B : Nat) (A : Option Addr) (n c : Nat) (vs : List Vec) (w : World) (hr : MReads w B A n vs) (hB : B ≤ w.heap.size) (hn : n ≤ 9223372036854775807) (hl : ∀ v ∈ vs, fitV v.l) :
    Calls Tryd.prog 40 #[.slice A n c] w fun e w' => ∃ A' n' c', e = .returned (.tuple #[.slice A' n' c', .int .i64 (mergeE (vs.map Vec.l))]) ∧ COwn w' w.heap.size A' n' c' (mergeV (vs.map Vec.l)) ∧ Below w.heap.size w w' := by
  have hb0 : Below w.heap.size w (w.alloc (.cells #[.slice A n c] 81)) := (Below.refl _ _).alloc (Nat.le_refl _) _
  have HLEN := Lib.hid hr.len
  have HR := Lib.hid hr
  clear hr
  generalize hW : w.alloc (.cells #[.slice A n c] 81) = W at hb0
  have c1 : W.cell? ⟨w.heap.size, 0, none⟩ = some (.slice A n c) := by rw [← hW, World.cell?_alloc_at _ _ _ _ rfl]; rfl
  have hsz : w.heap.size + 1 = W.heap.size := by rw [← hW]; simp
  have HSZ := Lib.hid hsz
  clear hsz
  go_enter Tryd.func40, Tryd.ntmps40
  go_wp2
  go_loopw [9] (fun i wr => ∃ (k : Nat), k ≤ n ∧ i = .int .i64 (k : Int) ∧ allOk ((vs.map Vec.l).take k) = true ∧ Below W.heap.size W wr) (fun i _ => n - (intOf i).toNat)
  case atStart => exact ⟨0, Nat.zero_le _, rfl, rfl, Below.refl _ _⟩
  case round =>
    obtain ⟨k, hk, rfl, ho, hb⟩ := hrel
    have hbw : Below w.heap.size w wr := hb0.trans (hb.mono (by rw [← HSZ.out]; omega))
    have HRw := Lib.hid (HR.out.below (hbw.mono hB))
    have HO := Lib.hid ho
    clear ho
    by_cases hlt : k < n
    · obtain ⟨ad, v, he, had, hv, hc, hcr, hvn⟩ := HRw.out.at_ hlt
      subst he
      have HV := Lib.hid (show (vs.map Vec.l)[k]? = some v.l by rw [List.getElem?_map, hv]; rfl)
      have HCR := Lib.hid hcr
      clear hv hcr
      have hst : allOk ((vs.map Vec.l).take (k + 1)) = okV 0 v.l := by
        obtain ⟨hk2, he2⟩ := List.getElem?_eq_some_iff.1 HV.out
        have := HO.out
        unfold allOk at this ⊢
        rw [List.take_succ_eq_append_getElem hk2, he2, List.all_append, this]
        simp
      have HST := Lib.hid hst
      clear hst
      cases hov : okV 0 v.l
      · have HA := Lib.hid (show allOk (vs.map Vec.l) = false by
          rw [← Bool.not_eq_true]
          intro h
          unfold allOk at h
          rw [List.all_eq_true] at h
          have := h v.l (List.mem_of_getElem? HV.out)
          rw [hov] at this
          cases this)
        have HOV := Lib.hid hov
        clear hov
        go_wp2_with fail
        refine (check_v B v.A v.n v.c v.l wr HCR.out (Nat.le_trans hB hbw.size) hvn).mono ?_
        rw [HOV.out]
        rintro e w1 ⟨rfl, hb1⟩
        go_wp2
        go_ret2
        exact ⟨none, 0, 0, by rw [mergeE, if_neg (by rw [HA.out]; decide)]; rfl, by rw [mergeV, if_neg (by rw [HA.out]; decide)]; exact COwn.nil_ _ _, hbw.trans (hb1.mono hbw.size)⟩
      · have HOV := Lib.hid hov
        clear hov
        go_wp2_with fail
        refine (check_v B v.A v.n v.c v.l wr HCR.out (Nat.le_trans hB hbw.size) hvn).mono ?_
        rw [HOV.out]
        rintro e w1 ⟨rfl, hb1⟩
        have hb2 := hb.trans (hb1.mono hb.size)
        clear hb1
        go_wp2
        go_roundw
        case rel => exact ⟨k + 1, hlt, by go_num, by rw [HST.out, HOV.out], hb2⟩
        case measure => simp [intOf]; omega
    · obtain rfl : k = n := by omega
      have HA := Lib.hid (show allOk (vs.map Vec.l) = true by have := HO.out; rwa [List.take_of_length_le (by rw [List.length_map, HLEN.out]; exact Nat.le_refl _)] at this)
      have hwr : w.heap.size < wr.heap.size := by have := hb.size; have := HSZ.out; omega
      have HF : Hid (∀ (d : Int) (V : World), 1 ≤ d → d ≤ 16 → Below wr.heap.size wr V → Calls Tryd.prog 57 (#[.int .i64 d] ++ #[.pointer (some ⟨w.heap.size, 0, none⟩)]) V fun e V' => e = .returned (.int .u64 (mergeF (vs.map Vec.l) d : Int)) ∧ Below V.heap.size V V') :=
        Lib.hid fun d V _ _ hV => merge1_v B A k c vs d V ⟨w.heap.size, 0, none⟩ (Nat.lt_of_lt_of_le hwr hV.size)
          ((hV.cell (p := ⟨w.heap.size, 0, none⟩) hwr).trans ((hb.cell (p := ⟨w.heap.size, 0, none⟩) (by rw [← HSZ.out]; exact Nat.lt_succ_self _)).trans c1))
          (HRw.out.below (hV.mono (Nat.le_trans hB hbw.size))) (Nat.le_trans (Nat.le_trans hB hbw.size) hV.size) hn hl
      have HL : Hid (∀ d, mergeF (vs.map Vec.l) d < 18446744073709551616) := Lib.hid fun d => fit_merge _ _ fun v hv => by
        obtain ⟨u, hu, rfl⟩ := List.mem_map.1 hv
        exact hl u hu
      go_wp2_with fail
      refine (of_v 57 _ (mergeF (vs.map Vec.l)) wr (run_f Tryd.func57 (by kernel_rfl) rfl) HL.out HF.out).mono ?_
      rintro e w3 ⟨A3, n3, c3, rfl, ho3, hb3⟩
      go_wp2
      go_ret2
      exact ⟨A3, n3, c3, by rw [mergeE, if_pos HA.out]; rfl, by rw [mergeV, if_pos HA.out]; exact ho3.down hbw.size, hbw.trans (hb3.mono hbw.size)⟩
end Go.Proofs.YtndekohimfjdeaaDoor
