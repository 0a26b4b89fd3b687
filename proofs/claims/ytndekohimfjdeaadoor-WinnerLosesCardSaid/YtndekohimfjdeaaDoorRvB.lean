/-
  Vectors, the reference: values, made.
-/
import Derived.Test.YtndekohimfjdeaaDoorRvA
import Derived.Test.YtndekohimfjdeaaDoorNArr
import Derived.Test.YtndekohimfjdeaaDoorVecP
namespace Go.Proofs.YtndekohimfjdeaaDoor
open Go.RowKit
/-- The values by device. -/
def valsL (l : List (Int × Nat)) : List Nat := (List.range 17).map fun d : Nat => val l (d : Int)
theorem valsL_len (l : List (Int × Nat)) : (valsL l).length = 17 := by simp [valsL]
theorem valsL_at (l : List (Int × Nat)) {d : Nat} (h : d < 17) : (valsL l)[d]? = some (val l (d : Int)) := by simp [valsL, h]
theorem val_snoc_ne : ∀ (l : List (Int × Nat)) (x : Int × Nat) (d : Int), x.1 ≠ d → val (l ++ [x]) d = val l d
  | [], x, d, h => by simp [val, h]
  | y :: l, x, d, h => by
    rw [List.cons_append, val_cons, val_cons, val_snoc_ne l x d h]
theorem ok_before : ∀ (a : List (Int × Nat)) (x : Int × Nat) (b : List (Int × Nat)) (last : Int), okV last (a ++ x :: b) = true → last < x.1 ∧ ∀ y ∈ a, y.1 < x.1
  | [], x, b, last, h => by
    rw [List.nil_append, okV_cons] at h
    split at h
    · cases h
    · exact ⟨by omega, fun y hy => by cases hy⟩
  | z :: a, x, b, last, h => by
    rw [List.cons_append, okV_cons] at h
    split at h
    · cases h
    · obtain ⟨h1, h2⟩ := ok_before a x b z.1 h
      refine ⟨by omega, fun y hy => ?_⟩
      rcases List.mem_cons.1 hy with rfl | hy
      · exact h1
      · exact h2 y hy
theorem split_k {α : Type} {l : List α} {k : Nat} {x : α} (h : l[k]? = some x) : l = l.take k ++ x :: l.drop (k + 1) := by
  obtain ⟨hk, he⟩ := List.getElem?_eq_some_iff.1 h
  conv => lhs; rw [← List.take_append_drop k l, List.drop_eq_getElem_cons hk, he]
theorem valsL_step {l : List (Int × Nat)} {k : Nat} {x : Int × Nat} (ho : okV 0 l = true) (hx : l[k]? = some x) (d : Nat) (hd : x.1 = (d : Int)) : (valsL (l.take k)).set d x.2 = valsL (l.take (k + 1)) := by
  have hsp := ho
  rw [split_k hx] at hsp
  obtain ⟨_, h2⟩ := ok_before _ _ _ _ hsp
  obtain ⟨hk, he⟩ := List.getElem?_eq_some_iff.1 hx
  apply List.ext_getElem?
  intro j
  rw [List.getElem?_set, valsL_len]
  by_cases hj : j < 17
  · rw [valsL_at _ hj, valsL_at _ hj, List.take_succ_eq_append_getElem hk, he]
    by_cases hdj : d = j
    · subst hdj
      rw [if_pos rfl, if_pos hj, val_app _ _ _ (fun y hy => by have := h2 y hy; omega)]
      simp [val, hd]
    · rw [if_neg hdj, val_snoc_ne _ _ _ (by omega)]
  · rw [List.getElem?_eq_none (by rw [valsL_len]; omega), List.getElem?_eq_none (by rw [valsL_len]; omega)]
    split
    · rw [if_neg (by omega)]
    · rfl
theorem ok_dev {l : List (Int × Nat)} (ho : okV 0 l = true) {k : Nat} {x : Int × Nat} (hx : l[k]? = some x) : ∃ d : Nat, x.1 = (d : Int) ∧ 1 ≤ d ∧ d ≤ 16 := by
  have hall : ∀ (l : List (Int × Nat)) (last : Int), okV last l = true → ∀ y ∈ l, last < y.1 ∧ y.1 ≤ 16 := fun l => by
    induction l with
    | nil => intro _ _ y hy; cases hy
    | cons z l ih =>
      intro last h y hy
      rw [okV_cons] at h
      split at h
      · cases h
      · rcases List.mem_cons.1 hy with rfl | hy
        · omega
        · have := ih z.1 h y hy; omega
  have := hall l 0 ho x (List.mem_of_getElem? hx)
  exact ⟨x.1.toNat, by omega, by omega, by omega⟩
theorem valsL_nil : valsL [] = List.replicate 17 0 := by decide
set_option maxRecDepth 100000 in
set_option maxHeartbeats 4000000 in
theorem values_v (B : Nat) (A : Option Addr) (n c : Nat) (l : List (Int × Nat)) (w : World) (hr : CReads w B A n l) (hB : B ≤ w.heap.size) (hn : n ≤ 9223372036854775807) (ho : okV 0 l = true) (hf : fitV l) :
    Calls Tryd.prog 38 #[.slice A n c] w fun e w' => e = .returned (.agg ((valsL l).map u64v).toArray) ∧ Below w.heap.size w w' := by
  have HLEN := Lib.hid hr.len
  have HR := Lib.hid hr
  have HO := Lib.hid ho
  have HF := Lib.hid hf
  clear hr ho hf
  go_enter Tryd.func38, Tryd.ntmps38
  go_wp2_with fail
  have z0 : NArr 64 ((w.alloc (.cells (List.replicate 17 (Value.int .u64 0)).toArray 64)).alloc (.cells (List.replicate 17 (Value.int .u64 0)).toArray 64)) w.heap.size (List.replicate 17 0) := (NArr.new w _ _ (by rfl)).alloc _
  have z1 : NArr 64 ((w.alloc (.cells (List.replicate 17 (Value.int .u64 0)).toArray 64)).alloc (.cells (List.replicate 17 (Value.int .u64 0)).toArray 64)) (w.heap.size + 1) (valsL (l.take 0)) := by
    have := NArr.new (t := 64) (w.alloc (.cells (List.replicate 17 (Value.int .u64 0)).toArray 64)) (List.replicate 17 (Value.int .u64 0)).toArray (List.replicate 17 0) (by rfl)
    simpa [valsL_nil] using this
  have zb : Below w.heap.size w ((w.alloc (.cells (List.replicate 17 (Value.int .u64 0)).toArray 64)).alloc (.cells (List.replicate 17 (Value.int .u64 0)).toArray 64)) := ((Below.refl _ _).alloc (Nat.le_refl _) _).alloc (by simp) _
  have zs : w.heap.size + 2 ≤ ((w.alloc (.cells (List.replicate 17 (Value.int .u64 0)).toArray 64)).alloc (.cells (List.replicate 17 (Value.int .u64 0)).toArray 64)).heap.size := by simp
  go_loopw [4] (fun i wr => ∃ k : Nat, k ≤ n ∧ i = .int .i64 (k : Int) ∧ NArr 64 wr w.heap.size (List.replicate 17 0) ∧ NArr 64 wr (w.heap.size + 1) (valsL (l.take k)) ∧ w.heap.size + 2 ≤ wr.heap.size ∧ Below w.heap.size w wr) (fun i _ => n - (intOf i).toNat)
  case atStart => exact ⟨0, Nat.zero_le _, rfl, z0, z1, zs, zb⟩
  case round =>
    obtain ⟨k, hk, rfl, h0, h1, hz, hb⟩ := hrel
    have HB := Lib.hid hb
    have H0 := Lib.hid h0
    have H1 := Lib.hid h1
    clear hb h0 h1
    by_cases hlt : k < n
    · obtain ⟨ad, x, rfl, had, hx, hc1, hc2⟩ := CReads.at_ (Reads.below (show Reads w B 2 _ n _ from HR.out) (HB.out.mono hB)) hlt
      obtain ⟨d, hd, hd1, hd2⟩ := ok_dev HO.out hx
      have HS := Lib.hid (valsL_step HO.out hx d hd)
      have hcu := NArr.cell H1.out (valsL_at (l.take k) (show d < 17 by omega))
      have hfu := NArr.frozen H1.out d
      have k0 : (0 : Int) ≤ (k : Int) := by omega
      have d0 : decide (k < n) = true := by simpa using hlt
      have d1 : d < 17 := by omega
      rw [hd] at hc1
      clear hx hd
      go_upto_region 5 with fail
      go_region
      all_goals
        go_wp2_with fail
        go_roundw
        case rel => exact ⟨k + 1, hlt, by go_num, (H0.out.setOther (by simp) _).drew, by have := (H1.out.set_ d (x.2 : Int) x.2 rfl).drew; rwa [HS.out] at this, by simp [World.setCell]; omega, (HB.out.setCell (by simp) _).drew⟩
        case measure => simp [intOf]; omega
    · obtain rfl : k = n := by omega
      have HT := Lib.hid (show valsL (l.take k) = valsL l by rw [List.take_of_length_le (by rw [HLEN.out]; exact Nat.le_refl _)])
      rw [HT.out] at H1
      have HSZ := Lib.hid (show ((valsL l).map u64v).toArray.size = 17 by rw [List.size_toArray, List.length_map, valsL_len])
      have HI := Lib.hid (show (Tryd.prog.info? 64).map (·.size) = some 17 by kernel_rfl)
      go_wp2_with (first
        | (refine wpList_load_row rfl 64 (.tmp 3) rfl (w.heap.size + 1) rfl 64 _ (0, 0) _ H1.out Tryd.underlying64 rfl (HI.out.trans (by rw [HSZ.out])) ?_)
        | (refine wpList_store_row rfl 64 (.tmp 2) (.tmp 22) rfl w.heap.size ((valsL l).map u64v).toArray rfl rfl 64 _ H0.out (HI.out.trans (by rw [HSZ.out])) (by rw [HSZ.out]; simp) (by simp [Value.oneCell', u64v]) ?_))
      have HW := Lib.hid (setRow_heap wr w.heap.size _ ((valsL l).map u64v).toArray _ _ H0.out)
      exact bodyPost_ret (results_cell_row Tryd.results38 _ _ w.heap.size _ _ _ _ rfl HW.out Tryd.underlying64 rfl (HI.out.trans (by rw [HSZ.out]))) rfl ⟨rfl, below_setRow HB.out (Nat.le_refl _) _⟩
end Go.Proofs.YtndekohimfjdeaaDoor
