/-
  Nets, the reference: copied, Last, find, Oldest.
-/
import Derived.Test.YthajlhifgafpkaaNetRc
namespace Go.Proofs.Ythajlhifgafpkaa
open Go.RowKit Go.Shelf
set_option maxRecDepth 100000 in
set_option maxHeartbeats 4000000 in
theorem copied_v (pn : Nat) (pf pt : Int) (pr : Nat) (va : Option Addr) (vl vc B : Nat) (l : List UInt8) (w : World) (hr : BReads w B va vl l) (hB : B ≤ w.heap.size) (hbl : vl ≤ 140737488355328) :
    Calls Try.prog 54 #[.agg #[.int .u64 (pn : Int), .int .i64 pf, .int .i64 pt, .int .u64 (pr : Int), .slice va vl vc]] w fun e w' => ∃ va' vc', e = .returned (.agg #[.int .u64 (pn : Int), .int .i64 pf, .int .i64 pt, .int .u64 (pr : Int), .slice va' vl vc']) ∧ BOwn w' w.heap.size va' vl vc' l ∧ Below w.heap.size w w' := by
  have HI := Lib.hid (show (Try.prog.info? 34).map (·.size) = some 5 by kernel_rfl)
  have X := heap_alloc2_old w (.cells #[.int .u64 (pn : Int), .int .i64 pf, .int .i64 pt, .int .u64 (pr : Int), .slice va vl vc] 34) (.cells #[.int .u64 0, .int .i64 0, .int .i64 0, .int .u64 0, .slice none 0 0] 34)
  have Y := heap_alloc2_new w (.cells #[.int .u64 (pn : Int), .int .i64 pf, .int .i64 pt, .int .u64 (pr : Int), .slice va vl vc] 34) (.cells #[.int .u64 0, .int .i64 0, .int .i64 0, .int .u64 0, .slice none 0 0] 34)
  have B0 := ((Below.refl w.heap.size w).alloc (Nat.le_refl _) (.cells #[.int .u64 (pn : Int), .int .i64 pf, .int .i64 pt, .int .u64 (pr : Int), .slice va vl vc] 34)).alloc (by simp) (.cells #[.int .u64 0, .int .i64 0, .int .i64 0, .int .u64 0, .slice none 0 0] 34)
  go_enter Try.func54, Try.ntmps54
  go_upto_region 1 with fail
  have hz : ((w.alloc (.cells #[.int .u64 (pn : Int), .int .i64 pf, .int .i64 pt, .int .u64 (pr : Int), .slice va vl vc] 34)).alloc (.cells #[.int .u64 0, .int .i64 0, .int .i64 0, .int .u64 0, .slice none 0 0] 34)).heap.size = w.heap.size + 2 := by simp
  generalize (w.alloc (.cells #[.int .u64 (pn : Int), .int .i64 pf, .int .i64 pt, .int .u64 (pr : Int), .slice va vl vc] 34)).alloc (.cells #[.int .u64 0, .int .i64 0, .int .i64 0, .int .u64 0, .slice none 0 0] 34) = w0 at *
  have BA := (Below.refl w0.heap.size w0).alloc (Nat.le_refl _) (.cells #[] 5)
  have hr0 : BReads (w0.alloc (.cells #[] 5)) B va vl l := Reads.alloc (Reads.below hr (B0.mono hB)) (by omega) _
  have X1 := (BA.block w.heap.size (by omega)).trans X
  have Y1 := (BA.block (w.heap.size + 1) (by omega)).trans Y
  have E1 := BOwn.empty w0
  rw [hz] at E1
  have c1 : (w0.alloc (.cells #[] 5)).cell? ⟨w.heap.size, 4, none⟩ = some (.slice va vl vc) := by rw [cell_of_row _ _ 4 _ _ _ X1]; rfl
  have HX := Lib.hid (And.intro X1 Y1)
  have HE := Lib.hid E1
  have HBA := Lib.hid (B0.trans (BA.mono (by omega)))
  have HR := Lib.hid hr0
  have hzA : (w0.alloc (.cells #[] 5)).heap.size = w.heap.size + 3 := by simp [hz]
  clear X Y B0 BA hr0 X1 Y1 E1 hr
  go_wp2_with (first
    | (at_builtin
       go_must (refine wpList_app rfl (.tmp 3) (.tmp 5) rfl (w.heap.size + 2) (some ⟨w.heap.size + 2, 0, none⟩) 0 0 [] rfl HE.out B va vl vc l rfl HR.out vl l (by omega) rfl hbl (by omega) ?_)
       intro A1 c1 w1 hown1 hg1 hat1
       go_must (
       have X2 := (hg1.block w.heap.size (by omega) (by simp [Value.ownBlock])).trans HX.out.1
       have Y2 := (hg1.block (w.heap.size + 1) (by omega) (by simp [Value.ownBlock])).trans HX.out.2
       have B2 := HBA.out.grown hg1 (by omega) (fun k hk => by simp [Value.ownBlock] at hk; omega)
       have k1 : w1.cell? ⟨w.heap.size, 4, none⟩ = some (.slice va vl vc) := by rw [cell_of_row _ _ 4 _ _ _ X2]; rfl
       have f1 := frozen_of_row w1 w.heap.size 4 _ _ X2
       have X3 := Lib.hid (show (w1.setCell ⟨w.heap.size, 4, none⟩ (.slice A1 vl c1)).heap[w.heap.size]? = some (.cells #[.int .u64 (pn : Int), .int .i64 pf, .int .i64 pt, .int .u64 (pr : Int), .slice A1 vl c1] 34 (0, 0)) from heap_setCell_same w1 w.heap.size 4 _ _ (.slice A1 vl c1) X2)
       have Y3 := Lib.hid ((Below.heap_setCell w1 ⟨w.heap.size, 4, none⟩ (.slice A1 vl c1) (w.heap.size + 1) (by simp)).trans Y2)
       have O3 := Lib.hid (hown1.keep (W' := w1.setCell ⟨w.heap.size, 4, none⟩ (.slice A1 vl c1)) (fun j hj => Below.heap_setCell w1 _ _ j (by have := (hown1.base_le j hj).1; simp; omega)))
       have B3 := Lib.hid (B2.setCell (p := ⟨w.heap.size, 4, none⟩) (Nat.le_refl _) (.slice A1 vl c1)))
       clear X2 Y2 B2 hown1 hg1 hat1)
    | (refine wpList_load_row rfl 34 (.tmp 1) rfl w.heap.size rfl 34 #[.int .u64 (pn : Int), .int .i64 pf, .int .i64 pt, .int .u64 (pr : Int), .slice A1 vl c1] (0, 0) _ X3.out Try.underlying34 rfl HI.out ?_)
    | (refine wpList_store_row rfl 34 (.tmp 2) (.tmp 8) rfl (w.heap.size + 1) #[.int .u64 (pn : Int), .int .i64 pf, .int .i64 pt, .int .u64 (pr : Int), .slice A1 vl c1] rfl rfl 34 _ Y3.out HI.out rfl (by simp [Value.oneCell']) ?_)
    | fail)
  have RW := Lib.hid (setRow_heap _ (w.heap.size + 1) _ #[.int .u64 (pn : Int), .int .i64 pf, .int .i64 pt, .int .u64 (pr : Int), .slice A1 vl c1] _ _ Y3.out)
  exact bodyPost_ret (results_cell_row Try.results54 _ _ (w.heap.size + 1) _ #[.int .u64 (pn : Int), .int .i64 pf, .int .i64 pt, .int .u64 (pr : Int), .slice A1 vl c1] _ _ rfl RW.out Try.underlying34 rfl HI.out) rfl
    ⟨A1, c1, rfl, (O3.out.keep (fun j hj => setRow_other _ _ j _ (by have := (O3.out.base_le j hj).1; omega))).down (by omega), below_setRow B3.out (by omega) _⟩
set_option maxHeartbeats 1000000 in
theorem rlast_v {base g nl cl n c : Nat} {AL A : Option Addr} {vs : List PkV} {s : NS} (w : World) (h : RNx w base g AL nl cl A n c vs s) :
    Calls Try.prog 31 #[.pointer (some ⟨g, 0, none⟩)] w fun e w' => e = .returned (.int .u64 (s.last : Int)) ∧ w = w' := by
  obtain ⟨LL, h⟩ := h
  have c2 := h.c2
  clear h
  go_enter Try.func31, Try.ntmps31
  go_wp2_with fail
  go_ret
  exact ⟨rfl, rfl⟩
theorem find_none_at {p : Pk → Bool} {l : List Pk} (h : ∀ (j : Nat) (x : Pk), l[j]? = some x → p x = false) : l.findIdx? p = none := by
  rw [List.findIdx?_eq_none_iff]
  intro x hx
  obtain ⟨j, hj, e⟩ := List.getElem_of_mem hx
  exact h j x (by rw [List.getElem?_eq_getElem hj, e])
theorem find_some_at {p : Pk → Bool} {l : List Pk} {i : Nat} {x : Pk} (hx : l[i]? = some x) (h1 : p x = true) (h : ∀ (j : Nat) (x : Pk), j < i → l[j]? = some x → p x = false) : l.findIdx? p = some i := by
  obtain ⟨hi, e⟩ := List.getElem?_eq_some_iff.1 hx
  rw [List.findIdx?_eq_some_iff_getElem]
  exact ⟨hi, by rw [e]; exact h1, fun j hj => by rw [h j _ hj (List.getElem?_eq_getElem (Nat.lt_trans hj hi))]; decide⟩
set_option maxHeartbeats 2000000 in
theorem rfind_v {base g nl cl n c : Nat} {AL A : Option Addr} {vs : List PkV} {s : NS} (num : Nat) (w : World) (h : RNx w base g AL nl cl A n c vs s) (hn : n ≤ 4096) :
    Calls Try.prog 60 #[.pointer (some ⟨g, 0, none⟩), .int .u64 (num : Int)] w fun e w' => e = .returned (.int .i64 (idxI (fun p => p.num == num) s.fl)) ∧ w = w' := by
  obtain ⟨LL, h⟩ := h
  have H := Lib.hid h
  have c1 := h.c1
  have HV := Lib.hid h.hv
  obtain ⟨r, hr⟩ : ∃ r, idxI (fun p => p.num == num) s.fl = r := ⟨_, rfl⟩
  have HR := Lib.hid hr
  rw [hr]
  clear h hr
  go_enter Try.func60, Try.ntmps60
  go_wp2_with fail
  go_loop [5] (fun i => ∃ j : Nat, j ≤ n ∧ i = .int .i64 (j : Int) ∧ ∀ q x, q < j → s.fl[q]? = some x → (x.num == num) = false) (fun i => n - (intOf i).toNat)
  case atStart => exact ⟨0, Nat.zero_le _, rfl, fun q x hq => by omega⟩
  case round =>
    obtain ⟨j, hj, rfl, hno⟩ := hrel
    have HNO := Lib.hid hno
    clear hno
    by_cases hlt : j < n
    · obtain ⟨ga, v, rfl, hbg, hgal, hv, hc⟩ := H.out.hf.at_ hlt
      have k0 := hc w rfl 0 _ rfl
      simp only [add_zero] at k0
      have j0 : (0 : Int) ≤ (j : Int) := by omega
      have d0 : decide (j < n) = true := by simpa using hlt
      have HX := Lib.hid (show s.fl[j]? = some v.pk by rw [← HV.out, List.getElem?_map, hv]; rfl)
      clear hc hv
      by_cases h1 : v.pk.num = num
      · have d1 : ((v.pk.num : Int) == (num : Int)) = true := by simp [h1]
        have HQ := Lib.hid (show r = (j : Int) by
          rw [← HR.out, idxI, find_some_at HX.out (by simpa using h1) HNO.out])
        go_wp2_with fail
        go_ret
        exact ⟨by rw [HQ.out]; rfl, rfl⟩
      · have d1 : ((v.pk.num : Int) == (num : Int)) = false := by simp; omega
        have HQ := Lib.hid h1
        clear h1
        go_wp2_with fail
        go_round
        case rel => exact ⟨j + 1, hlt, by go_num, fun q x hq hqx => by
          rcases Nat.lt_or_ge q j with h3 | h3
          · exact HNO.out q x h3 hqx
          · obtain rfl : q = j := by omega
            rw [HX.out] at hqx
            obtain rfl := Option.some.inj hqx
            simpa using HQ.out⟩
        case measure => simp [intOf]; omega
    · obtain rfl : n = j := by omega
      have d0 : decide (n < n) = false := by simp
      have HQ := Lib.hid (show r = -1 by
        rw [← HR.out, idxI, find_none_at fun q x hqx => HNO.out q x (by rw [← H.out.len]; exact (List.getElem?_eq_some_iff.1 hqx).1) hqx])
      go_wp2_with fail
      go_ret
      exact ⟨by rw [HQ.out]; rfl, rfl⟩
set_option maxHeartbeats 2000000 in
theorem roldest_v {base g nl cl n c : Nat} {AL A : Option Addr} {vs : List PkV} {s : NS} (a b : Int) (w : World) (h : RNx w base g AL nl cl A n c vs s) (hn : n ≤ 4096) :
    Calls Try.prog 32 #[.pointer (some ⟨g, 0, none⟩), .int .i64 a, .int .i64 b] w fun e w' => e = .returned (.int .u64 (s.oldest a b : Int)) ∧ w = w' := by
  obtain ⟨LL, h⟩ := h
  have H := Lib.hid h
  have c1 := h.c1
  have HV := Lib.hid h.hv
  have HL := Lib.hid h.len
  obtain ⟨r, hr⟩ : ∃ r, s.oldest a b = r := ⟨_, rfl⟩
  have HR := Lib.hid hr
  rw [hr]
  clear h hr
  go_enter Try.func32, Try.ntmps32
  go_wp2_with fail
  go_loop [7] (fun i => ∃ j : Nat, j ≤ n ∧ i = .int .i64 (j : Int) ∧ (s.fl.take j).find? (fun p => decide (p.frm = a) && decide (p.too = b)) = none) (fun i => n - (intOf i).toNat)
  case atStart => exact ⟨0, Nat.zero_le _, rfl, rfl⟩
  case round =>
    obtain ⟨j, hj, rfl, hno⟩ := hrel
    have HNO := Lib.hid hno
    clear hno
    by_cases hlt : j < n
    · obtain ⟨ga, v, rfl, hbg, hgal, hv, hc⟩ := H.out.hf.at_ hlt
      have k0 := hc w rfl 0 _ rfl
      have k1 := hc w rfl 1 _ rfl
      have k2 := hc w rfl 2 _ rfl
      rw [add_lit2] at k0 k1 k2
      simp only [Nat.add_zero] at k0
      have j0 : (0 : Int) ≤ (j : Int) := by omega
      have d0 : decide (j < n) = true := by simpa using hlt
      have HX := Lib.hid (show s.fl[j]? = some v.pk by rw [← HV.out, List.getElem?_map, hv]; rfl)
      have HT := Lib.hid (show s.fl.take (j + 1) = s.fl.take j ++ [v.pk] by rw [List.take_add_one, HX.out]; rfl)
      clear hc hv
      by_cases h1 : v.pk.frm = a
      · have d1 : (v.pk.frm == a) = true := by simpa using h1
        by_cases h2 : v.pk.too = b
        · have d2 : (v.pk.too == b) = true := by simpa using h2
          have HQ := Lib.hid (show r = v.pk.num by
            have e : (s.fl.take (j + 1)).find? (fun p => decide (p.frm = a) && decide (p.too = b)) = some v.pk := by
              rw [HT.out, List.find?_append, HNO.out]
              simp [h1, h2]
            rw [← HR.out, NS.oldest, ← List.take_append_drop (j + 1) s.fl, List.find?_append, e]
            rfl)
          clear h1 h2
          go_wp2_with fail
          go_ret
          exact ⟨by rw [HQ.out]; rfl, rfl⟩
        · have d2 : (v.pk.too == b) = false := by simpa using h2
          have HQ := Lib.hid (show (s.fl.take (j + 1)).find? (fun p => decide (p.frm = a) && decide (p.too = b)) = none by
            rw [HT.out, List.find?_append, HNO.out]
            simp [h1, h2])
          clear h1 h2
          go_wp2_with fail
          go_round
          case rel => exact ⟨j + 1, hlt, by go_num, HQ.out⟩
          case measure => simp [intOf]; omega
      · have d1 : (v.pk.frm == a) = false := by simpa using h1
        have HQ := Lib.hid (show (s.fl.take (j + 1)).find? (fun p => decide (p.frm = a) && decide (p.too = b)) = none by
          rw [HT.out, List.find?_append, HNO.out]
          simp [h1])
        clear h1
        go_wp2_with fail
        go_round
        case rel => exact ⟨j + 1, hlt, by go_num, HQ.out⟩
        case measure => simp [intOf]; omega
    · obtain rfl : n = j := by omega
      have d0 : decide (n < n) = false := by simp
      have HQ := Lib.hid (show r = 0 by
        have := HNO.out
        rw [List.take_of_length_le (by rw [HL.out]; exact Nat.le_refl _)] at this
        rw [← HR.out, NS.oldest, this]
        rfl)
      go_wp2_with fail
      go_ret
      exact ⟨by rw [HQ.out]; rfl, rfl⟩
end Go.Proofs.Ythajlhifgafpkaa
