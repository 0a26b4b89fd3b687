/-
  Nets: Oldest.
-/
import Derived.Test.YthajlhifgafpkaaNetI
namespace Go.Proofs.Ythajlhifgafpkaa
open Go.RowKit Go.Shelf
theorem find_hit {α : Type} {l : List α} {p : α → Bool} {k : Nat} {x : α} (h : (l.take k).find? p = none) (hx : l[k]? = some x) (hp : p x = true) : l.find? p = some x := by
  obtain ⟨hl, he⟩ := List.getElem?_eq_some_iff.1 hx
  have e : l = l.take k ++ x :: l.drop (k + 1) := by
    conv => lhs; rw [← List.take_append_drop k l]
    rw [List.drop_eq_getElem_cons hl, he]
  rw [e, List.find?_append, h]
  simp [hp]
theorem find_miss {α : Type} {l : List α} {p : α → Bool} {k : Nat} {x : α} (h : (l.take k).find? p = none) (hx : l[k]? = some x) (hp : p x = false) : (l.take (k + 1)).find? p = none := by
  rw [List.take_add_one, hx, List.find?_append, h]
  simp [hp]
set_option maxRecDepth 100000 in
set_option maxHeartbeats 4000000 in
theorem oldest_v {base g mb n c : Nat} {A : Option Addr} {vs : List PkV} {s : NS} (a b : Int) (w : World) (h : NetIs w base g mb A n c vs s) (hn : n ≤ 4096) :
    Calls Try.prog 26 #[.pointer (some ⟨g, 0, none⟩), .int .i64 a, .int .i64 b] w fun e w' => e = .returned (.int .u64 (s.oldest a b : Int)) ∧ Below w.heap.size w w' := by
  have H := Lib.hid h
  have HFL := Lib.hid h.len
  have HI := Lib.hid (show (Try.prog.info? 34).map (·.size) = some 5 by kernel_rfl)
  have c1 := h.c1
  clear h
  go_enter Try.func26, Try.ntmps26
  go_wp2_with fail
  refine (right_v w H.out).mono ?_
  rintro e _ ⟨rfl, rfl⟩
  go_wp2_with fail
  clear c1
  go_loopw [17] (fun i wr => ∃ k : Nat, k ≤ n ∧ i = .int .i64 (k : Int) ∧ (s.fl.take k).find? (fun p => decide (p.frm = a) && decide (p.too = b)) = none ∧ Below w.heap.size w wr) (fun i _ => n - (intOf i).toNat)
  case atStart => exact ⟨0, Nat.zero_le _, rfl, rfl, Below.refl _ _⟩
  case round =>
    obtain ⟨k, hk, rfl, hf, hb⟩ := hrel
    have HF := Lib.hid hf
    have HB := Lib.hid hb
    have H1 := Lib.hid (H.out.below hb)
    clear hf hb
    by_cases hlt : k < n
    · have d1 : decide (k < n) = true := by simpa using hlt
      obtain ⟨ga, v, rfl, hbg, hgal, hv, hc⟩ := H1.out.hf.at_ hlt
      have HC := Lib.hid (hc wr rfl)
      have HPK := Lib.hid (show s.fl[k]? = some v.pk by rw [← H1.out.hv, List.getElem?_map, hv]; rfl)
      have Z0 := Lib.hid (heap_alloc_new wr (.cells #[.int .u64 0, .int .i64 0, .int .i64 0, .int .u64 0, .slice none 0 0] 34))
      have Z1 := Lib.hid (setRow_heap _ wr.heap.size _ v.cells.toArray _ _ Z0.out)
      have BZ := Lib.hid (below_setRow ((Below.refl wr.heap.size wr).alloc (Nat.le_refl _) (.cells #[.int .u64 0, .int .i64 0, .int .i64 0, .int .u64 0, .slice none 0 0] 34)) (Nat.le_refl _) v.cells.toArray)
      have HB2 := Lib.hid (HB.out.trans (BZ.out.mono HB.out.size))
      have c0 : ((wr.alloc (.cells #[.int .u64 0, .int .i64 0, .int .i64 0, .int .u64 0, .slice none 0 0] 34)).setRow wr.heap.size v.cells.toArray).cell? ⟨wr.heap.size, 0, none⟩ = some (.int .u64 (v.pk.num : Int)) := by rw [cell_of_row _ _ 0 _ _ _ Z1.out]; rfl
      have c1 : ((wr.alloc (.cells #[.int .u64 0, .int .i64 0, .int .i64 0, .int .u64 0, .slice none 0 0] 34)).setRow wr.heap.size v.cells.toArray).cell? ⟨wr.heap.size, 1, none⟩ = some (.int .i64 v.pk.frm) := by rw [cell_of_row _ _ 1 _ _ _ Z1.out]; rfl
      have c2 : ((wr.alloc (.cells #[.int .u64 0, .int .i64 0, .int .i64 0, .int .u64 0, .slice none 0 0] 34)).setRow wr.heap.size v.cells.toArray).cell? ⟨wr.heap.size, 2, none⟩ = some (.int .i64 v.pk.too) := by rw [cell_of_row _ _ 2 _ _ _ Z1.out]; rfl
      have k0 : (0 : Int) ≤ (k : Int) := by omega
      clear hv hc hbg hgal Z1 BZ
      by_cases ha : v.pk.frm = a
      · have e1 : (v.pk.frm == a) = true := by simpa using ha
        by_cases hbb : v.pk.too = b
        · have e2 : (v.pk.too == b) = true := by simpa using hbb
          have HR := Lib.hid (show s.oldest a b = v.pk.num by rw [NS.oldest, find_hit HF.out HPK.out (by simp [ha, hbb])]; rfl)
          go_wp2_with (first
            | (refine wpList_load_slot rfl 34 (.tmp 19) rfl ⟨ga, k * 5, none⟩ rfl v.cells _ HC.out Try.underlying34 rfl HI.out ?_)
            | (refine wpList_store_row rfl 34 (.tmp 8) (.tmp 20) rfl wr.heap.size v.cells.toArray rfl rfl 34 _ Z0.out HI.out rfl (PkV.all1 v) ?_)
            | fail)
          go_ret
          exact ⟨by rw [HR.out]; rfl, HB2.out⟩
        · have e2 : (v.pk.too == b) = false := by simpa using hbb
          have HN := Lib.hid (find_miss HF.out HPK.out (by simp [hbb]))
          go_wp2_with (first
            | (refine wpList_load_slot rfl 34 (.tmp 19) rfl ⟨ga, k * 5, none⟩ rfl v.cells _ HC.out Try.underlying34 rfl HI.out ?_)
            | (refine wpList_store_row rfl 34 (.tmp 8) (.tmp 20) rfl wr.heap.size v.cells.toArray rfl rfl 34 _ Z0.out HI.out rfl (PkV.all1 v) ?_)
            | fail)
          go_roundw
          case rel => exact ⟨k + 1, hlt, by go_num, HN.out, HB2.out⟩
          case measure => simp [intOf]; omega
      · have e1 : (v.pk.frm == a) = false := by simpa using ha
        have HN := Lib.hid (find_miss HF.out HPK.out (by simp [ha]))
        go_wp2_with (first
          | (refine wpList_load_slot rfl 34 (.tmp 19) rfl ⟨ga, k * 5, none⟩ rfl v.cells _ HC.out Try.underlying34 rfl HI.out ?_)
          | (refine wpList_store_row rfl 34 (.tmp 8) (.tmp 20) rfl wr.heap.size v.cells.toArray rfl rfl 34 _ Z0.out HI.out rfl (PkV.all1 v) ?_)
          | fail)
        go_roundw
        case rel => exact ⟨k + 1, hlt, by go_num, HN.out, HB2.out⟩
        case measure => simp [intOf]; omega
    · obtain rfl : k = n := by omega
      have HR := Lib.hid (show s.oldest a b = 0 by
        have := HF.out
        rw [List.take_of_length_le (by rw [HFL.out]; exact Nat.le_refl _)] at this
        rw [NS.oldest, this]; rfl)
      go_wp2
      go_ret
      exact ⟨by rw [HR.out]; rfl, HB.out⟩
end Go.Proofs.Ythajlhifgafpkaa
