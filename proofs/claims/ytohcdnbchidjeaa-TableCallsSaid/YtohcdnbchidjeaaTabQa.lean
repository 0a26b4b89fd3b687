/-
  The reference's table: Rank, Get, Next.
-/
import Derived.Test.YtohcdnbchidjeaaTabOm
namespace Go.Proofs.Ytohcdnbchidjeaa
open Go.RowKit
set_option maxHeartbeats 400000 in
theorem rrank_v (k : ByteArray) (w : World) (hk : k.size ≤ maxLen) :
    Calls Try.prog 36 #[.string k] w fun e w' => e = .returned (.int .u32 (rk k : Int)) ∧ w = w' := by
  unfold maxLen at hk
  go_enter Try.func36, Try.ntmps36
  go_wp2
  go_loop [3, 4] (fun x i => ∃ n : Nat, n ≤ k.size ∧ i = .int .i64 n ∧ x = .int .u32 (rkL (k.data.toList.take n) : Int)) (fun _ i => k.size - (intOf i).toNat)
  case atStart => exact ⟨0, Nat.zero_le _, rfl, rfl⟩
  case round =>
    obtain ⟨n, hn, rfl, rfl⟩ := hrel
    have hx := rkL_lt (k.data.toList.take n)
    by_cases hlt : n < k.size
    · have HS := Lib.hid (show rkL (k.data.toList.take (n + 1)) = rkStep (rkL (k.data.toList.take n)) k[n] by
        rw [take_snoc k n hlt, rk_snoc])
      generalize rkL (k.data.toList.take n) = x at *
      go_wp2
      go_round
      case rel => exact ⟨n + 1, by omega, by go_num, by rw [HS.out, rank_step x _ hx]⟩
      case measure => simp [intOf]; omega
    · go_wp2
      go_ret
      exact ⟨ret_int (by rw [List.take_of_length_le (by rw [bsz]; omega)]; rfl), rfl⟩
set_option maxHeartbeats 1000000 in
theorem rget_v (key : ByteArray) (L : List KV) (B : Nat) (A : Option Addr) (n c : Nat) (w : World) (hr : PReads w B A n (pvs L)) (hB : B ≤ w.heap.size) (ha : asc L) (hn : n ≤ 1000000) :
    Calls Try.prog 29 #[.agg #[.slice A n c], .string key] w fun e w' => e = .returned (getR (getL key L)) ∧ Below w.heap.size w w' := by
  have HN := Lib.hid (show L.length = n by rw [← hr.len, pvs_len])
  have HR := Lib.hid (Reads.alloc hr hB (.cells #[.slice A n c] 44))
  have HB := Lib.hid (show Below w.heap.size w (w.alloc (.cells #[.slice A n c] 44)) from (Below.refl _ _).alloc (Nat.le_refl _) _)
  have HC := Lib.hid (box1 w (.slice A n c) 44)
  have HLT := Lib.hid (show w.heap.size < (w.alloc (.cells #[.slice A n c] 44)).heap.size by simp)
  have HP := Lib.hid (fun V (hV : Below w.heap.size w V) => rplace_v key L B A n c V (Reads.below hr (hV.mono hB)) (Nat.le_trans hB hV.size) ha hn)
  have hlen := lo_len key L
  rw [HN.out] at hlen
  have HGY := Lib.hid (fun (y : KV) (h1 : L[(lo key L).length]? = some y) (h2 : y.1 = key) => get_yes ha h1 h2)
  have HGN := Lib.hid (fun (h : ∀ y, L[(lo key L).length]? = some y → y.1 ≠ key) => get_no ha h)
  clear hr ha
  generalize hk : (lo key L).length = k at *
  clear hk
  go_enter Try.func29, Try.ntmps29
  go_wp2_with fail
  generalize w.alloc (.cells #[.slice A n c] 44) = W at *
  refine (HP.out W HB.out).mono ?_
  rintro e w1 ⟨rfl, hb1⟩
  have c1 := keepC hb1 HC.out HLT.out
  have HB1 := Lib.hid (btrans HB.out hb1 HB.out.size)
  have HR1 := Lib.hid (Reads.below HR.out (hb1.mono (Nat.le_trans hB HB.out.size)))
  clear hb1 HR HB HC HLT HP
  by_cases hlt : k < n
  · obtain ⟨ad, x, hA, _, hx, d0, d1, _⟩ := PReads.at_ HR1.out hlt
    subst hA
    obtain ⟨y, hy, rfl⟩ := pvs_at hx
    have hk0 : (0 : Int) ≤ (k : Int) := by omega
    have hk1 : (k : Int) < (n : Int) := by omega
    have ge : ((k : Int) == (n : Int)) = false := by rw [beq_eq_false_iff_ne]; omega
    by_cases he : y.1 = key
    · have HG := Lib.hid (HGY.out y hy he)
      have d0' : w1.cell? (ad.add (k * 3)) = some (.string key) := by rw [← he]; exact d0
      have d1' : w1.cell? ⟨(ad.add (k * 3)).block, (ad.add (k * 3)).off + 1, none⟩ = some (.string y.2) := d1
      clear hx hy d0 d1 he HGY HGN
      go_wp2
      go_ret2
      exact ⟨by rw [HG.out]; rfl, HB1.out⟩
    · have HG := Lib.hid (HGN.out fun y' hy' => by rw [hy] at hy'; injection hy' with hy'; subst hy'; exact he)
      have g1 : (y.1.toList == key.toList) = false := (kbeq_false _ _).2 he
      have d0' : w1.cell? (ad.add (k * 3)) = some (.string y.1) := d0
      clear hx hy d0 d1 he HGY HGN
      go_wp2
      go_ret2
      exact ⟨by rw [HG.out]; rfl, HB1.out⟩
  · obtain rfl : k = n := by omega
    have HG := Lib.hid (HGN.out fun y' hy' => by have := (List.getElem?_eq_some_iff.1 hy').1; rw [HN.out] at this; omega)
    go_wp2
    go_ret2
    exact ⟨by rw [HG.out]; rfl, HB1.out⟩
theorem gt_take {q : ByteArray} {L : List KV} {i : Nat} {y : KV} (h : gt q (L.take i) = []) (hy : L[i]? = some y) (hk : klt q y.1 = true) : (gt q L).take 1 = [y] := by
  obtain ⟨h1, rfl⟩ := List.getElem?_eq_some_iff.1 hy
  have e : gt q L = gt q (L.take i) ++ gt q (L.drop i) := by rw [← gt_app, List.take_append_drop]
  rw [e, h, List.drop_eq_getElem_cons h1, List.nil_append]
  unfold gt
  simp only [List.filter_cons, hk, if_true]
  rfl
theorem gt_more {q : ByteArray} {L : List KV} {i : Nat} {y : KV} (h : gt q (L.take i) = []) (hy : L[i]? = some y) (hk : klt q y.1 = false) : gt q (L.take (i + 1)) = [] := by
  rw [take_snoc' hy, gt_app, h]
  simp [gt, hk]
set_option maxHeartbeats 1000000 in
theorem rnext_v (key : ByteArray) (L : List KV) (B : Nat) (A : Option Addr) (n c : Nat) (w : World) (hr : PReads w B A n (pvs L)) (hB : B ≤ w.heap.size) (hn : n ≤ 1000000) :
    Calls Try.prog 30 #[.agg #[.slice A n c], .string key] w fun e w' => e = .returned (nextR ((gt key L).take 1)) ∧ Below w.heap.size w w' := by
  have HN := Lib.hid (show L.length = n by rw [← hr.len, pvs_len])
  have E1 := Lib.hid (show Below w.heap.size w ((w.alloc (.cells #[.slice A n c] 44)).alloc (.cells #[.string ⟨#[]⟩, .string ⟨#[]⟩, .bool false] 39)) from ((Below.refl _ _).alloc (Nat.le_refl _) _).alloc (by simp) _)
  have HR := Lib.hid (Reads.below hr (E1.out.mono hB))
  have HSZ := Lib.hid (show ((w.alloc (.cells #[.slice A n c] 44)).alloc (.cells #[.string ⟨#[]⟩, .string ⟨#[]⟩, .bool false] 39)).heap.size = w.heap.size + 1 + 1 by simp)
  have CT := Lib.hid (show ((w.alloc (.cells #[.slice A n c] 44)).alloc (.cells #[.string ⟨#[]⟩, .string ⟨#[]⟩, .bool false] 39)).cell? ⟨w.heap.size, 0, none⟩ = some (.slice A n c) by rw [World.cell?_alloc_lt _ _ _ (by simp)]; exact box1 w _ _)
  have HC := fun o (u : Value) (hu : (#[Value.string ⟨#[]⟩, .string ⟨#[]⟩, .bool false] : Array Value)[o]? = some u) => show ((w.alloc (.cells #[.slice A n c] 44)).alloc (.cells #[.string ⟨#[]⟩, .string ⟨#[]⟩, .bool false] 39)).cell? ⟨w.heap.size + 1, o, none⟩ = some u by
    rw [World.cell?_alloc_at _ _ _ _ (by simp)]; exact hu
  have HF := fun o => show ((w.alloc (.cells #[.slice A n c] 44)).alloc (.cells #[.string ⟨#[]⟩, .string ⟨#[]⟩, .bool false] 39)).frozen? ⟨w.heap.size + 1, o, none⟩ = false from World.frozen?_alloc_at _ _ _ _ (by simp)
  have C0 := Lib.hid (HC 0 _ rfl)
  have C1 := Lib.hid (HC 1 _ rfl)
  have C2 := Lib.hid (HC 2 _ rfl)
  have F0 := Lib.hid (HF 0)
  have F1 := Lib.hid (HF 1)
  have F2 := Lib.hid (HF 2)
  clear HC HF hr
  go_enter Try.func30, Try.ntmps30
  go_wp2
  generalize (w.alloc (.cells #[.slice A n c] 44)).alloc (.cells #[.string ⟨#[]⟩, .string ⟨#[]⟩, .bool false] 39) = W at *
  go_loopw [6] (fun i wr => ∃ j : Nat, j ≤ n ∧ i = .int .i64 (j : Int) ∧ Hid (gt key (L.take j) = []) ∧ W = wr) (fun i _ => n - (intOf i).toNat)
  case atStart => exact ⟨0, Nat.zero_le _, rfl, Lib.hid rfl, rfl⟩
  case round =>
    obtain ⟨j, hj, rfl, HG, rfl⟩ := hrel
    have ct := CT.out
    by_cases hlt : j < n
    · obtain ⟨ad, x, hA, _, hx, d0, d1, d2⟩ := PReads.at_ HR.out hlt
      subst hA
      obtain ⟨y, hy, rfl⟩ := pvs_at hx
      have HY := Lib.hid hy
      have e0 : W.cell? (ad.add (j * 3)) = some (.string y.1) := d0
      have e1 : W.cell? ⟨(ad.add (j * 3)).block, (ad.add (j * 3)).off + 1, none⟩ = some (.string y.2) := d1
      have e2 : W.cell? ⟨(ad.add (j * 3)).block, (ad.add (j * 3)).off + 2, none⟩ = some (.bool false) := d2
      have hj0 : (0 : Int) ≤ (j : Int) := by omega
      have hj1 : (j : Int) < (n : Int) := by omega
      clear hx hy d0 d1 d2
      cases hk : klt key y.1
      · have HK := Lib.hid hk
        have HG' := Lib.hid (gt_more HG.out HY.out hk)
        have g0 : klt y.1 key = true ∨ y.1 = key := by
          rcases Decidable.em (y.1 = key) with h | h
          · exact .inr h
          · exact .inl (klt_total (fun e => h e.symm) hk)
        clear hk
        rcases g0 with g0 | g0
        · have g1 : Op.bytesLess y.1.toList key.toList = true := g0
          clear g0
          go_wp2
          go_roundw
          case rel => exact ⟨j + 1, by omega, by go_num, HG', trivial⟩
          case measure => simp [intOf]; omega
        · rw [g0] at e0
          clear g0
          go_wp2
          go_roundw
          case rel => exact ⟨j + 1, by omega, by go_num, HG', trivial⟩
          case measure => simp [intOf]; omega
      · have HGT := Lib.hid (gt_take HG.out HY.out hk)
        have g1 : Op.bytesLess y.1.toList key.toList = false := klt_asymm hk
        have g2 : (y.1.toList == key.toList) = false := (kbeq_false _ _).2 (klt_ne hk).symm
        have c0 := C0.out
        have c1 := C1.out
        have c2 := C2.out
        have f0 := F0.out
        have f1 := F1.out
        have f2 := F2.out
        clear hk
        go_wp2
        refine bodyPost_ret (v := nextR [y]) (by simp [results, Try.results30, go_sem, c0, c1, c2, nextR]) rfl ?_
        rw [HGT.out]
        exact ⟨rfl, ((E1.out.setCell (by simp) _).setCell (by simp) _).setCell (by simp) _⟩
    · obtain rfl : j = n := by omega
      have HGT := Lib.hid (show (gt key L).take 1 = [] by have := HG.out; rw [List.take_of_length_le (by rw [HN.out]; exact Nat.le_refl _)] at this; rw [this]; rfl)
      have c0 := C0.out
      have c1 := C1.out
      have c2 := C2.out
      have f0 := F0.out
      have f1 := F1.out
      have f2 := F2.out
      go_wp2
      refine bodyPost_ret (v := nextR []) (by simp [results, Try.results30, go_sem, c0, c1, c2, nextR]) rfl ?_
      rw [HGT.out]
      exact ⟨rfl, ((E1.out.setCell (by simp) _).setCell (by simp) _).setCell (by simp) _⟩
end Go.Proofs.Ytohcdnbchidjeaa
