/-
  Matrices: the reference's row, Has, Shares; Both; With; the kit's Texts.
-/
import Derived.Test.YtikegnnlmfidfaaMatE
namespace Go.Proofs.Ytikegnnlmfidfaa
open Go.RowKit
theorem find_first {rs : List PRow} {f : ByteArray} {k : Nat} {r : PRow} (h : ∀ x ∈ rs.take k, x.1 ≠ f) (hx : rs[k]? = some r) (hf : r.1 = f) : rs.find? (fun r => decide (r.1 = f)) = some r := by
  rw [List.find?_eq_some_iff_getElem]
  obtain ⟨hi, he⟩ := List.getElem?_eq_some_iff.1 hx
  refine ⟨by simpa using hf, k, hi, he, fun j hj => ?_⟩
  have h1 := h (rs[j]'(by omega)) (List.mem_iff_getElem.2 ⟨j, by rw [List.length_take]; omega, by rw [List.getElem_take]⟩)
  simpa using h1
set_option maxRecDepth 100000 in
set_option maxHeartbeats 4000000 in
theorem rrow_v (own : Int) (A : Option Addr) (n c B : Nat) (rs : List Rw) (f : ByteArray) (w : World) (hr : RowsR w B A n rs) (hB : B ≤ w.heap.size) (hn : n ≤ 9223372036854775807) :
    Calls Try.prog 54 #[.agg #[.int .i64 own, .slice A n c], .string f] w fun e w' =>
      ∃ z : Int, e = .returned (.int .i64 z) ∧ ((z = -1 ∧ rowP (own, rs.map Rw.p) f = none) ∨ ∃ (i : Nat) (r : Rw), z = (i : Int) ∧ rs[i]? = some r ∧ rowP (own, rs.map Rw.p) f = some r.p) ∧ Below w.heap.size w w' := by
  have HR := Lib.hid hr
  have HLN := Lib.hid hr.len
  have B0 := Lib.hid ((Below.refl w.heap.size w).alloc (Nat.le_refl _) (.cells #[.int .i64 own, .slice A n c] 27))
  have X0 := Lib.hid (heap_alloc_new w (.cells #[.int .i64 own, .slice A n c] 27))
  have hz0 : (w.alloc (.cells #[.int .i64 own, .slice A n c] 27)).heap.size = w.heap.size + 1 := by simp
  clear hr
  go_enter Try.func54, Try.ntmps54
  go_wp2_with fail
  refine (rcheck_v own A n c B rs _ (HR.out.below (B0.out.mono hB)) (by simp; omega) hn).mono ?_
  generalize w.alloc (.cells #[.int .i64 own, .slice A n c] 27) = w0 at *
  generalize hg : w.heap.size = g at *
  rintro e w1 ⟨rfl, b1⟩
  have X1 := Lib.hid ((b1.block g (by omega)).trans X0.out)
  have B1 := Lib.hid (B0.out.trans (b1.mono (by omega)))
  have hz1 := b1.size
  clear b1 X0
  obtain ⟨ck, hck⟩ : ∃ ck, chkM (own, rs.map Rw.p) = ck := ⟨_, rfl⟩
  have HCK := Lib.hid hck
  rw [hck]
  by_cases h0 : ck = 0
  case neg =>
    have HNO := Lib.hid (show rowP (own, rs.map Rw.p) f = none by unfold rowP; rw [if_neg (by rw [hck]; exact h0)])
    have d1 : ((ck : Int) != 0) = true := by simpa using h0
    clear hck h0
    go_wp2_with fail
    go_ret
    exact ⟨-1, rfl, .inl ⟨rfl, HNO.out⟩, hg ▸ B1.out⟩
  subst h0
  clear hck
  have c10 : w1.cell? ⟨g, 0, none⟩ = some (.int .i64 own) := by rw [cell_of_row _ _ 0 _ _ _ X1.out]; rfl
  have c11 : w1.cell? ⟨g, 1, none⟩ = some (.slice A n c) := by rw [cell_of_row _ _ 1 _ _ _ X1.out]; rfl
  go_wp2_with fail
  go_loopw [5] (fun i wr => ∃ k : Nat, k ≤ n ∧ i = .int .i64 (k : Int) ∧ (∀ x ∈ (rs.map Rw.p).take k, x.1 ≠ f) ∧ w1 = wr) (fun i _ => n - (intOf i).toNat)
  case atStart => exact ⟨0, Nat.zero_le _, rfl, by simp, rfl⟩
  case round =>
    obtain ⟨k, hk, rfl, ht, rfl⟩ := hrel
    have HT := Lib.hid ht
    clear ht
    by_cases hlt : k < n
    · obtain ⟨ad, rf, ra, rn, rc, ds, rfl, hx, _, _, hc⟩ := HR.out.at_ hlt
      obtain ⟨q0, _⟩ := hc w1 (B1.out.mono hB)
      have HX := Lib.hid hx
      have k0 : (0 : Int) ≤ (k : Int) := by omega
      clear hx hc
      by_cases hd : rf = f
      · have HM := Lib.hid (show rowP (own, rs.map Rw.p) f = some (rf, ds) by
          unfold rowP
          rw [if_pos HCK.out]
          exact find_first HT.out (p_at HX.out) hd)
        have d1 : (rf.toList == f.toList) = true := (kbeq_iff rf f).2 hd
        clear hd
        go_wp2_with fail
        go_ret
        exact ⟨(k : Int), rfl, .inr ⟨k, _, rfl, HX.out, HM.out⟩, hg ▸ B1.out⟩
      · have HN := Lib.hid (show ∀ y ∈ (rs.map Rw.p).take (k + 1), y.1 ≠ f from fun y hy => by
          rw [List.take_add_one, p_at HX.out] at hy
          rcases List.mem_append.1 hy with hy | hy
          · exact HT.out y hy
          · obtain rfl : y = (rf, ds) := by simpa using hy
            exact hd)
        have d1 : (rf.toList == f.toList) = false := (kbeq_false rf f).2 hd
        clear hd
        go_wp2_with fail
        go_roundw
        case rel => exact ⟨k + 1, hlt, by go_num, HN.out, by trivial⟩
        case measure => simp [intOf]; omega
    · obtain rfl : k = n := by omega
      have HN := Lib.hid (show rowP (own, rs.map Rw.p) f = none by
        unfold rowP
        rw [if_pos HCK.out]
        have h1 := HT.out
        rw [List.take_of_length_le (by rw [List.length_map, HLN.out]; exact Nat.le_refl _)] at h1
        exact find_none h1)
      go_wp2_with fail
      go_ret
      exact ⟨-1, rfl, .inl ⟨rfl, HN.out⟩, hg ▸ B1.out⟩
set_option maxRecDepth 100000 in
set_option maxHeartbeats 4000000 in
theorem rhas_v (own : Int) (A : Option Addr) (n c B : Nat) (rs : List Rw) (f : ByteArray) (w : World) (hr : RowsR w B A n rs) (hB : B ≤ w.heap.size) (hn : n ≤ 9223372036854775807) :
    Calls Try.prog 31 #[.agg #[.int .i64 own, .slice A n c], .string f] w fun e w' => e = .returned (.bool (hasP (own, rs.map Rw.p) f)) ∧ Below w.heap.size w w' := by
  have HR := Lib.hid hr
  have B0 := Lib.hid ((Below.refl w.heap.size w).alloc (Nat.le_refl _) (.cells #[.int .i64 own, .slice A n c] 27))
  clear hr
  go_enter Try.func31, Try.ntmps31
  go_wp2_with fail
  refine (rrow_v own A n c B rs f _ (HR.out.below (B0.out.mono hB)) (by simp; omega) hn).mono ?_
  rintro e w1 ⟨z, rfl, hz, hb⟩
  have HH := Lib.hid (show hasP (own, rs.map Rw.p) f = decide (0 ≤ z) by
    unfold hasP
    rcases hz with ⟨rfl, h⟩ | ⟨i, r, rfl, _, h⟩
    · rw [h]; rfl
    · rw [h, decide_eq_true (by omega)]; rfl)
  have HB := Lib.hid (B0.out.trans (hb.mono (by simp)))
  clear hz hb
  go_wp2_with fail
  go_ret
  exact ⟨by rw [HH.out]; rfl, HB.out⟩
set_option maxRecDepth 100000 in
set_option maxHeartbeats 4000000 in
theorem rshares_v (own : Int) (A : Option Addr) (n c B : Nat) (rs : List Rw) (f : ByteArray) (d : Int) (w : World) (hr : RowsR w B A n rs) (hB : B ≤ w.heap.size) (hn : n ≤ 9223372036854775807) :
    Calls Try.prog 32 #[.agg #[.int .i64 own, .slice A n c], .string f, .int .i64 d] w fun e w' => e = .returned (.bool (sharesP (own, rs.map Rw.p) f d)) ∧ Below w.heap.size w w' := by
  have HR := Lib.hid hr
  have B0 := Lib.hid ((Below.refl w.heap.size w).alloc (Nat.le_refl _) (.cells #[.int .i64 own, .slice A n c] 27))
  have X0 := Lib.hid (heap_alloc_new w (.cells #[.int .i64 own, .slice A n c] 27))
  have hz0 : (w.alloc (.cells #[.int .i64 own, .slice A n c] 27)).heap.size = w.heap.size + 1 := by simp
  clear hr
  go_enter Try.func32, Try.ntmps32
  go_wp2_with fail
  generalize w.alloc (.cells #[.int .i64 own, .slice A n c] 27) = w0 at *
  generalize hg : w.heap.size = g at *
  refine (rrow_v own A n c B rs f w0 (HR.out.below (B0.out.mono hB)) (by omega) hn).mono ?_
  rintro e w1 ⟨z, rfl, hz, hb⟩
  have B1 := Lib.hid (B0.out.trans (hb.mono (by omega)))
  have X1 := Lib.hid ((hb.block g (by omega)).trans X0.out)
  clear hb
  rcases hz with ⟨rfl, hno⟩ | ⟨i, r, rfl, hx, hyes⟩
  · have HH := Lib.hid (show sharesP (own, rs.map Rw.p) f d = false by unfold sharesP; rw [hno])
    clear hno
    go_wp2_with fail
    go_ret
    exact ⟨by rw [HH.out]; rfl, hg ▸ B1.out⟩
  have hin : i < n := by rw [← HR.out.len]; exact (List.getElem?_eq_some_iff.1 hx).1
  obtain ⟨ad, rf, ra, rn, rc, ds, rfl, hx', ⟨hri, hrn, hrc, _⟩, _, hc⟩ := HR.out.at_ hin
  rw [hx] at hx'
  obtain rfl := Option.some.inj hx'
  obtain ⟨_, q1⟩ := hc w1 (B1.out.mono hB)
  have HRI := Lib.hid (show IReads w1 B ra rn ds from Reads.below hri (B1.out.mono hB))
  have HH := Lib.hid (show sharesP (own, rs.map Rw.p) f d = decide (d ∈ ds) by unfold sharesP; rw [hyes]; rfl)
  have c11 : w1.cell? ⟨g, 1, none⟩ = some (.slice (some ad) n c) := by rw [cell_of_row _ _ 1 _ _ _ X1.out]; rfl
  have i0 : (0 : Int) ≤ (i : Int) := by omega
  have d0 : decide ((i : Int) < 0) = false := decide_eq_false (by omega)
  clear hx hx' hyes hri hc
  go_wp2_with fail
  go_loopw [8] (fun j wr => ∃ k : Nat, k ≤ rn ∧ j = .int .i64 (k : Int) ∧ (∀ x ∈ ds.take k, x ≠ d) ∧ w1 = wr) (fun j _ => rn - (intOf j).toNat)
  case atStart => exact ⟨0, Nat.zero_le _, rfl, by simp, rfl⟩
  case round =>
    obtain ⟨k, hk, rfl, ht, rfl⟩ := hrel
    have HT := Lib.hid ht
    clear ht
    by_cases hlt : k < rn
    · obtain ⟨ai, x, rfl, hx, hc⟩ := HRI.out.at_ hlt
      have q2 := hc w1 (Below.refl _ _)
      have HX := Lib.hid hx
      have k0 : (0 : Int) ≤ (k : Int) := by omega
      clear hx hc
      by_cases hd : x = d
      · have d1 : (x == d) = true := beq_iff_eq.2 hd
        have HM := Lib.hid (show sharesP (own, rs.map Rw.p) f d = true by rw [HH.out]; exact decide_eq_true (by rw [← hd]; exact List.mem_of_getElem? HX.out))
        clear hd
        go_wp2_with fail
        go_ret
        exact ⟨by rw [HM.out]; rfl, hg ▸ B1.out⟩
      · have d1 : (x == d) = false := beq_eq_false_iff_ne.2 hd
        have HN := Lib.hid (show ∀ y ∈ ds.take (k + 1), y ≠ d from fun y hy => by
          rw [List.take_add_one, HX.out] at hy
          rcases List.mem_append.1 hy with hy | hy
          · exact HT.out y hy
          · obtain rfl : y = x := by simpa using hy
            exact hd)
        clear hd
        go_wp2_with fail
        go_roundw
        case rel => exact ⟨k + 1, hlt, by go_num, HN.out, by trivial⟩
        case measure => simp [intOf]; omega
    · obtain rfl : k = rn := by omega
      have HN := Lib.hid (show sharesP (own, rs.map Rw.p) f d = false by
        rw [HH.out]
        refine decide_eq_false fun h => ?_
        have h1 := HT.out
        rw [List.take_of_length_le (by rw [HRI.out.len]; exact Nat.le_refl _)] at h1
        exact h1 d h rfl)
      go_wp2_with fail
      go_ret
      exact ⟨by rw [HN.out]; rfl, hg ▸ B1.out⟩
set_option maxRecDepth 100000 in
set_option maxHeartbeats 8000000 in
theorem rboth_v (oa ob : Int) (A A' : Option Addr) (n c n' c' B : Nat) (rs rs' : List Rw) (f : ByteArray) (w : World) (hr : RowsR w B A n rs) (hr' : RowsR w B A' n' rs') (hB : B ≤ w.heap.size) (hn : n ≤ 9223372036854775807) (hn' : n' ≤ 9223372036854775807) :
    Calls Try.prog 34 #[.agg #[.int .i64 oa, .slice A n c], .agg #[.int .i64 ob, .slice A' n' c'], .string f] w fun e w' => e = .returned (.bool (bothP (oa, rs.map Rw.p) (ob, rs'.map Rw.p) f)) ∧ Below w.heap.size w w' := by
  have HR := Lib.hid hr
  have HR' := Lib.hid hr'
  have B0 := Lib.hid (((Below.refl w.heap.size w).alloc (Nat.le_refl _) (.cells #[.int .i64 oa, .slice A n c] 27)).alloc (by simp) (.cells #[.int .i64 ob, .slice A' n' c'] 27))
  have X0 := Lib.hid (show ((w.alloc (.cells #[.int .i64 oa, .slice A n c] 27)).alloc (.cells #[.int .i64 ob, .slice A' n' c'] 27)).heap[w.heap.size]? = some (.cells #[.int .i64 oa, .slice A n c] 27 (0, 0)) from (Below.heap_alloc _ _ _ (by simp)).trans (heap_alloc_new w _))
  have Y0 := Lib.hid (show ((w.alloc (.cells #[.int .i64 oa, .slice A n c] 27)).alloc (.cells #[.int .i64 ob, .slice A' n' c'] 27)).heap[w.heap.size + 1]? = some (.cells #[.int .i64 ob, .slice A' n' c'] 27 (0, 0)) from by
    have h := heap_alloc_new (w.alloc (.cells #[.int .i64 oa, .slice A n c] 27)) (.cells #[.int .i64 ob, .slice A' n' c'] 27)
    simpa using h)
  have hz0 : ((w.alloc (.cells #[.int .i64 oa, .slice A n c] 27)).alloc (.cells #[.int .i64 ob, .slice A' n' c'] 27)).heap.size = w.heap.size + 2 := by simp
  clear hr hr'
  go_enter Try.func34, Try.ntmps34
  go_upto_region 1 with fail
  generalize (w.alloc (.cells #[.int .i64 oa, .slice A n c] 27)).alloc (.cells #[.int .i64 ob, .slice A' n' c'] 27) = w0 at *
  generalize hg : w.heap.size = g at *
  have c00 : w0.cell? ⟨g, 0, none⟩ = some (.int .i64 oa) := by rw [cell_of_row _ _ 0 _ _ _ X0.out]; rfl
  have c01 : w0.cell? ⟨g, 1, none⟩ = some (.slice A n c) := by rw [cell_of_row _ _ 1 _ _ _ X0.out]; rfl
  have c02 : w0.cell? ⟨g + 1, 0, none⟩ = some (.int .i64 ob) := by rw [cell_of_row _ _ 0 _ _ _ Y0.out]; rfl
  have c03 : w0.cell? ⟨g + 1, 1, none⟩ = some (.slice A' n' c') := by rw [cell_of_row _ _ 1 _ _ _ Y0.out]; rfl
  by_cases ho : oa = ob
  · have d1 : (oa != ob) = false := by simpa using ho
    have HE := Lib.hid (show bothP (oa, rs.map Rw.p) (ob, rs'.map Rw.p) f = false by unfold bothP; rw [decide_eq_true ho]; rfl)
    clear ho
    go_wp2_with fail
    go_ret
    exact ⟨by rw [HE.out]; rfl, hg ▸ B0.out⟩
  have d1 : (oa != ob) = true := by simpa using ho
  have HE := Lib.hid (show bothP (oa, rs.map Rw.p) (ob, rs'.map Rw.p) f = (sharesP (oa, rs.map Rw.p) f ob && sharesP (ob, rs'.map Rw.p) f oa) by unfold bothP; rw [decide_eq_false ho]; rfl)
  clear ho
  go_wp2_with fail
  have SV := rshares_v oa A n c B rs f ob w0 (HR.out.below (B0.out.mono hB)) (by omega) hn
  cases hs : sharesP (oa, rs.map Rw.p) f ob with
  | false =>
    rw [hs] at SV
    have HE2 := Lib.hid (show bothP (oa, rs.map Rw.p) (ob, rs'.map Rw.p) f = false by rw [HE.out, hs]; rfl)
    clear hs
    refine SV.mono ?_
    rintro e w1 ⟨rfl, b1⟩
    have B1 := Lib.hid (B0.out.trans (b1.mono (by omega)))
    clear b1 c00 c01 c02 c03 SV
    go_wp2_with fail
    go_ret
    exact ⟨by rw [HE2.out]; rfl, hg ▸ B1.out⟩
  | true =>
    rw [hs] at SV
    have HE2 := Lib.hid (show bothP (oa, rs.map Rw.p) (ob, rs'.map Rw.p) f = sharesP (ob, rs'.map Rw.p) f oa by rw [HE.out, hs]; rfl)
    clear hs
    refine SV.mono ?_
    rintro e w1 ⟨rfl, b1⟩
    have B1 := Lib.hid (B0.out.trans (b1.mono (by omega)))
    have c10 : w1.cell? ⟨g, 0, none⟩ = some (.int .i64 oa) := (b1.cell (p := ⟨g, 0, none⟩) (show g < w0.heap.size by omega)).trans c00
    have c12 : w1.cell? ⟨g + 1, 0, none⟩ = some (.int .i64 ob) := (b1.cell (p := ⟨g + 1, 0, none⟩) (show g + 1 < w0.heap.size by omega)).trans c02
    have c13 : w1.cell? ⟨g + 1, 1, none⟩ = some (.slice A' n' c') := (b1.cell (p := ⟨g + 1, 1, none⟩) (show g + 1 < w0.heap.size by omega)).trans c03
    have hz1 := b1.size
    clear b1 c00 c01 c02 c03 SV
    go_wp2_with fail
    refine (rshares_v ob A' n' c' B rs' f oa w1 (HR'.out.below (B1.out.mono hB)) (by omega) hn').mono ?_
    rintro e w2 ⟨rfl, b2⟩
    have B2 := Lib.hid (B1.out.trans (b2.mono (by omega)))
    clear b2 c10 c12 c13
    go_wp2_with fail
    go_ret
    exact ⟨by rw [HE2.out]; rfl, hg ▸ B2.out⟩
set_option maxRecDepth 100000 in
set_option maxHeartbeats 8000000 in
theorem both_v (oa ob : Int) (A A' : Option Addr) (n c n' c' B : Nat) (rs rs' : List Rw) (f : ByteArray) (w : World) (hr : RowsR w B A n rs) (hr' : RowsR w B A' n' rs') (hB : B ≤ w.heap.size) (hn : n ≤ 9223372036854775807) (hn' : n' ≤ 9223372036854775807) :
    Calls Try.prog 17 #[.agg #[.int .i64 oa, .slice A n c], .agg #[.int .i64 ob, .slice A' n' c'], .string f] w fun e w' => e = .returned (.bool (bothP (oa, rs.map Rw.p) (ob, rs'.map Rw.p) f)) ∧ Below w.heap.size w w' := by
  have HR := Lib.hid hr
  have HR' := Lib.hid hr'
  have B0 := Lib.hid (((Below.refl w.heap.size w).alloc (Nat.le_refl _) (.cells #[.int .i64 oa, .slice A n c] 27)).alloc (by simp) (.cells #[.int .i64 ob, .slice A' n' c'] 27))
  have X0 := Lib.hid (show ((w.alloc (.cells #[.int .i64 oa, .slice A n c] 27)).alloc (.cells #[.int .i64 ob, .slice A' n' c'] 27)).heap[w.heap.size]? = some (.cells #[.int .i64 oa, .slice A n c] 27 (0, 0)) from (Below.heap_alloc _ _ _ (by simp)).trans (heap_alloc_new w _))
  have Y0 := Lib.hid (show ((w.alloc (.cells #[.int .i64 oa, .slice A n c] 27)).alloc (.cells #[.int .i64 ob, .slice A' n' c'] 27)).heap[w.heap.size + 1]? = some (.cells #[.int .i64 ob, .slice A' n' c'] 27 (0, 0)) from by
    have h := heap_alloc_new (w.alloc (.cells #[.int .i64 oa, .slice A n c] 27)) (.cells #[.int .i64 ob, .slice A' n' c'] 27)
    simpa using h)
  have hz0 : ((w.alloc (.cells #[.int .i64 oa, .slice A n c] 27)).alloc (.cells #[.int .i64 ob, .slice A' n' c'] 27)).heap.size = w.heap.size + 2 := by simp
  clear hr hr'
  go_enter Try.func17, Try.ntmps17
  go_upto_region 1 with fail
  generalize (w.alloc (.cells #[.int .i64 oa, .slice A n c] 27)).alloc (.cells #[.int .i64 ob, .slice A' n' c'] 27) = w0 at *
  generalize hg : w.heap.size = g at *
  have c00 : w0.cell? ⟨g, 0, none⟩ = some (.int .i64 oa) := by rw [cell_of_row _ _ 0 _ _ _ X0.out]; rfl
  have c01 : w0.cell? ⟨g, 1, none⟩ = some (.slice A n c) := by rw [cell_of_row _ _ 1 _ _ _ X0.out]; rfl
  have c02 : w0.cell? ⟨g + 1, 0, none⟩ = some (.int .i64 ob) := by rw [cell_of_row _ _ 0 _ _ _ Y0.out]; rfl
  have c03 : w0.cell? ⟨g + 1, 1, none⟩ = some (.slice A' n' c') := by rw [cell_of_row _ _ 1 _ _ _ Y0.out]; rfl
  by_cases ho : oa = ob
  · have d1 : (oa != ob) = false := by simpa using ho
    have HE := Lib.hid (show bothP (oa, rs.map Rw.p) (ob, rs'.map Rw.p) f = false by unfold bothP; rw [decide_eq_true ho]; rfl)
    clear ho
    go_wp2_with fail
    go_ret
    exact ⟨by rw [HE.out]; rfl, hg ▸ B0.out⟩
  have d1 : (oa != ob) = true := by simpa using ho
  have HE := Lib.hid (show bothP (oa, rs.map Rw.p) (ob, rs'.map Rw.p) f = (sharesP (oa, rs.map Rw.p) f ob && sharesP (ob, rs'.map Rw.p) f oa) by unfold bothP; rw [decide_eq_false ho]; rfl)
  clear ho
  go_wp2_with fail
  have SV := shares_v oa A n c B rs f ob w0 (HR.out.below (B0.out.mono hB)) (by omega) hn
  cases hs : sharesP (oa, rs.map Rw.p) f ob with
  | false =>
    rw [hs] at SV
    have HE2 := Lib.hid (show bothP (oa, rs.map Rw.p) (ob, rs'.map Rw.p) f = false by rw [HE.out, hs]; rfl)
    clear hs
    refine SV.mono ?_
    rintro e w1 ⟨rfl, b1⟩
    have B1 := Lib.hid (B0.out.trans (b1.mono (by omega)))
    clear b1 c00 c01 c02 c03 SV
    go_wp2_with fail
    go_ret
    exact ⟨by rw [HE2.out]; rfl, hg ▸ B1.out⟩
  | true =>
    rw [hs] at SV
    have HE2 := Lib.hid (show bothP (oa, rs.map Rw.p) (ob, rs'.map Rw.p) f = sharesP (ob, rs'.map Rw.p) f oa by rw [HE.out, hs]; rfl)
    clear hs
    refine SV.mono ?_
    rintro e w1 ⟨rfl, b1⟩
    have B1 := Lib.hid (B0.out.trans (b1.mono (by omega)))
    have c10 : w1.cell? ⟨g, 0, none⟩ = some (.int .i64 oa) := (b1.cell (p := ⟨g, 0, none⟩) (show g < w0.heap.size by omega)).trans c00
    have c12 : w1.cell? ⟨g + 1, 0, none⟩ = some (.int .i64 ob) := (b1.cell (p := ⟨g + 1, 0, none⟩) (show g + 1 < w0.heap.size by omega)).trans c02
    have c13 : w1.cell? ⟨g + 1, 1, none⟩ = some (.slice A' n' c') := (b1.cell (p := ⟨g + 1, 1, none⟩) (show g + 1 < w0.heap.size by omega)).trans c03
    have hz1 := b1.size
    clear b1 c00 c01 c02 c03 SV
    go_wp2_with fail
    refine (shares_v ob A' n' c' B rs' f oa w1 (HR'.out.below (B1.out.mono hB)) (by omega) hn').mono ?_
    rintro e w2 ⟨rfl, b2⟩
    have B2 := Lib.hid (B1.out.trans (b2.mono (by omega)))
    clear b2 c10 c12 c13
    go_wp2_with fail
    go_ret
    exact ⟨by rw [HE2.out]; rfl, hg ▸ B2.out⟩
/-- A row of texts: of the call's own, and one that can be read. -/
def SOwn (w : World) (base : Nat) (A : Option Addr) (n c : Nat) (l : List ByteArray) : Prop := w.ownsRow base 9 1 (.slice A n c) n (l.map Value.string) ∧ n ≤ c
abbrev SReads (w : World) (B : Nat) (A : Option Addr) (n : Nat) (l : List ByteArray) : Prop := Reads w B 1 A n (l.map Value.string)
theorem SReads.len {w : World} {B n : Nat} {A : Option Addr} {l : List ByteArray} (h : SReads w B A n l) : l.length = n := by have := h.1; simpa using this
theorem SReads.at_ {w : World} {B n k : Nat} {A : Option Addr} {l : List ByteArray} (h : SReads w B A n l) (hk : k < n) :
    ∃ ad d, A = some ad ∧ l[k]? = some d ∧ ∀ W, Below B w W → W.cell? (ad.add k) = some (.string d) := by
  obtain ⟨ad, u, e, hb, hu, hc⟩ := Reads.at_ (show Reads w B 1 A n _ from h) hk
  rw [List.getElem?_map] at hu
  cases hl : l[k]? with
  | none => rw [hl] at hu; cases hu
  | some x =>
    rw [hl] at hu
    injection hu with hu
    subst hu
    exact ⟨ad, x, e, rfl, fun W hW => (hW.cell (by rw [block_of_add]; exact hb)).trans hc⟩
section
variable {w w' : World} {base n c : Nat} {A : Option Addr} {l : List ByteArray}
theorem own_keep {K : Nat} {e : TypeId} {v : Value} {xs : List Value} (h : w.ownsRow base e K v n xs) (hk : ∀ j, v.ownBlock = some j → w'.heap[j]? = w.heap[j]?) : w'.ownsRow base e K v n xs := by
  refine ⟨h.1, ?_⟩
  rcases h.2 with hn | ⟨g, cap, cur, ev, hg, hh, rest⟩
  · exact .inl hn
  · exact .inr ⟨g, cap, cur, ev, hg, (hk g (by rw [ev]; rfl)).trans hh, rest⟩
theorem SOwn.reads (h : SOwn w base A n c l) : SReads w w.heap.size A n l := Reads.of_own h.1
theorem SOwn.nil_ (w : World) (base : Nat) : SOwn w base none 0 0 [] := ⟨World.ownsRow_nil w base _ 1, Nat.le_refl _⟩
theorem SOwn.lt (h : SOwn w base A n c l) : ∀ j, (Value.slice A n c).ownBlock = some j → base ≤ j ∧ j < w.heap.size := h.1.lt
theorem SOwn.alloc (h : SOwn w base A n c l) (o : Obj) : SOwn (w.alloc o) base A n c l := ⟨h.1.alloc o, h.2⟩
theorem SOwn.below (h : SOwn w base A n c l) (hb : Below w.heap.size w w') : SOwn w' base A n c l := ⟨own_keep h.1 (fun j hj => hb.block j (h.lt j hj).2), h.2⟩
theorem SReads.one (e : TypeId) (w : World) (z : ByteArray) : SReads (w.alloc (.cells #[.string z] e)) (w.heap.size + 1) (some ⟨w.heap.size, 0, none⟩) 1 [z] := by
  refine ⟨rfl, fun _ => ⟨_, rfl, Nat.lt_succ_self _, fun j u hu => ?_⟩⟩
  have hj : j = 0 := by
    rcases j with _ | j
    · rfl
    · simp at hu
  subst hj
  simp only [List.map_cons, List.map_nil, List.getElem?_cons_zero, Option.some.injEq] at hu
  subst hu
  rw [show (⟨w.heap.size, 0, none⟩ : Addr).add 0 = ⟨w.heap.size, 0, none⟩ from rfl]
  exact World.cell?_alloc_at _ _ _ _ rfl
end
theorem info_str : (Try.prog.info? 9).map (fun i => (i.zero, i.size, i.bytes)) = some (some (.string ⟨#[]⟩), 1, 16) := by kernel_rfl
theorem info_parts {P : Program} {e : TypeId} {z : Value} {s b : Nat} (h : (P.info? e).map (fun i => (i.zero, i.size, i.bytes)) = some (some z, s, b)) : ∃ i, P.info? e = some i ∧ i.zero = some z ∧ i.size = s ∧ i.bytes = b := by
  cases hq : P.info? e with
  | none => rw [hq] at h; cases h
  | some i =>
    rw [hq] at h
    simp only [Option.map_some, Option.some.injEq, Prod.mk.injEq] at h
    exact ⟨i, rfl, h.1, h.2.1, h.2.2⟩
section
variable {ops : Array Oper} {rest : List Oper} {o : Oper} {a : Act} {Q : Exit → Act → World → Prop} {w : World}
theorem wpList_appS (hgd : o.guard = none) (s x : Operand)
    (ho : o.op = .call { callee := .builtin .append, args := #[s, x], argTypes := #[47, 47] })
    (base : Nat) (A : Option Addr) (n c : Nat) (xs : List ByteArray) (hs : a.eval s = .slice A n c) (hown : SOwn w base A n c xs)
    (B : Nat) (D : Option Addr) (m d : Nat) (l : List ByteArray) (hx : a.eval x = .slice D m d) (hr : SReads w B D m l)
    (N : Nat) (L : List ByteArray) (hN : n + m = N) (hL : xs ++ l = L) (hlen : N ≤ 1000000) (hbase : base ≤ w.heap.size)
    (h : ∀ A' c' w', SOwn w' base A' N c' L → w.grownBy w' (Value.slice A n c).ownBlock → wpList Try.prog ops Q rest (a.put o.dst (.slice A' N c')) w') : wpList Try.prog ops Q (o :: rest) a w := by
  subst hN hL
  obtain ⟨i0, hi, hz0, hz1, hz2⟩ := info_parts info_str
  refine wpList_append_any w hgd s x 47 ho base 9 i0 (.string ⟨#[]⟩) 1 16 Try.underlying47 hi hz0 hz1 hz2 rfl (by decide) (.slice A n c) n _ hs hown.1 B D m d _ hx hr
    (fun u hu => by obtain ⟨y, _, rfl⟩ := List.mem_map.1 hu; rfl) (by simp only [maxLen]; omega) (by omega) hbase ?_
  intro v' w' hown' hg hat
  obtain ⟨A', c', rfl, hc⟩ := own_shape hown'
  exact h A' c' w' ⟨by rw [List.map_append]; exact hown', hc⟩ hg
end
set_option maxRecDepth 100000 in
set_option maxHeartbeats 4000000 in
theorem texts_v (A A' : Option Addr) (n c n' c' B : Nat) (l l' : List ByteArray) (w : World) (hr : SReads w B A n l) (hr' : SReads w B A' n' l') (hn : n ≤ 9223372036854775807) (hn' : n' ≤ 9223372036854775807) :
    Calls Try.prog 22 #[.slice A n c, .slice A' n' c'] w fun e w' => e = .returned (.bool (decide (l = l'))) ∧ Below w.heap.size w w' := by
  have HR := Lib.hid hr
  have HR' := Lib.hid hr'
  have HL := Lib.hid hr.len
  have HL' := Lib.hid hr'.len
  clear hr hr'
  go_enter Try.func22, Try.ntmps22
  by_cases hnn : n = n'
  case neg =>
    have d1 : ((n : Int) != (n' : Int)) = true := by simp; omega
    have HE := Lib.hid (show decide (l = l') = false from decide_eq_false fun e => hnn (by rw [← HL.out, ← HL'.out, e]))
    clear hnn
    go_wp2_with fail
    go_ret
    exact ⟨by rw [HE.out]; rfl, Below.refl _ _⟩
  subst hnn
  go_wp2_with fail
  go_loopw [5] (fun i wr => ∃ k : Nat, k ≤ n ∧ i = .int .i64 (k : Int) ∧ l.take k = l'.take k ∧ Below w.heap.size w wr) (fun i _ => n - (intOf i).toNat)
  case atStart => exact ⟨0, Nat.zero_le _, rfl, by simp, Below.refl _ _⟩
  case round =>
    obtain ⟨k, hk, rfl, ht, hb⟩ := hrel
    have HT := Lib.hid ht
    have HB := Lib.hid hb
    clear ht hb
    by_cases hlt : k < n
    · obtain ⟨ad, x, rfl, hx, hc⟩ := HR.out.at_ hlt
      obtain ⟨ad', x', rfl, hx', hc'⟩ := HR'.out.at_ hlt
      have HX := Lib.hid hx
      have HX' := Lib.hid hx'
      have hBw : B ≤ w.heap.size ∨ True := .inr trivial
      have k0 : (0 : Int) ≤ (k : Int) := by omega
      have q0 : wr.cell? (ad.add k) = some (.string x) := by
        have h1 := hc w (Below.refl _ _)
        have h2 := World.block_lt_of_cell? w _ h1
        exact (HB.out.cell h2).trans h1
      have q1 : wr.cell? (ad'.add k) = some (.string x') := by
        have h1 := hc' w (Below.refl _ _)
        have h2 := World.block_lt_of_cell? w _ h1
        exact (HB.out.cell h2).trans h1
      clear hx hx' hc hc' hBw
      by_cases hd : x = x'
      · have d1 : (x.toList == x'.toList) = true := (kbeq_iff x x').2 hd
        have HN := Lib.hid (show l.take (k + 1) = l'.take (k + 1) by rw [List.take_add_one, List.take_add_one, HT.out, HX.out, HX'.out, hd])
        clear hd
        go_upto_region 6 with fail
        go_quiet (fail)
        go_wp2_with fail
        go_roundw
        case rel => exact ⟨k + 1, hlt, by go_num, HN.out, below_drewN HB.out _⟩
        case measure => simp [intOf]; omega
      · have d1 : (x.toList == x'.toList) = false := (kbeq_false x x').2 hd
        have HN := Lib.hid (show decide (l = l') = false from decide_eq_false fun e => by
          have h1 := HX.out
          rw [e, HX'.out] at h1
          exact hd (Option.some.inj h1).symm)
        clear hd
        go_upto_region 6 with fail
        go_quiet (fail)
        go_wp2_with fail
        go_ret
        exact ⟨by rw [HN.out]; rfl, below_drewN HB.out _⟩
    · obtain rfl : k = n := by omega
      have HN := Lib.hid (show decide (l = l') = true from decide_eq_true (by
        have h1 := HT.out
        rwa [List.take_of_length_le (by rw [HL.out]; exact Nat.le_refl _), List.take_of_length_le (by rw [HL'.out]; exact Nat.le_refl _)] at h1))
      go_wp2_with fail
      go_ret
      exact ⟨by rw [HN.out]; rfl, HB.out⟩
end Go.Proofs.Ytikegnnlmfidfaa
