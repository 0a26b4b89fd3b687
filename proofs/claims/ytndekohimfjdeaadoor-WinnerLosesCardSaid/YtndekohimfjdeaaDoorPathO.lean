/-
  Paths, the reference: names, Check.
-/
import Derived.Test.YtndekohimfjdeaaDoorPathL
namespace Go.Proofs.YtndekohimfjdeaaDoor
open Go.RowKit
/-- How far the parts are found: all bytes ahead of k are read, the next part begins at f. -/
def NSt (l : Bl) (k f : Nat) (xs : List Bl) : Prop := (k ≤ l.length ∧ f ≤ k ∧ segs l = xs ++ segs (l.drop f) ∧ (47 : UInt8) ∉ (l.drop f).take (k - f)) ∨ (k = l.length + 1 ∧ xs = segs l)
theorem NSt.start (l : Bl) : NSt l 0 0 [] := .inl ⟨Nat.zero_le _, Nat.le_refl _, by simp, by simp⟩
theorem NSt.range {l : Bl} {k f : Nat} {xs : List Bl} (h : NSt l k f xs) (hk : k ≤ l.length) : f ≤ k := by
  rcases h with h | h
  · exact h.2.1
  · omega
theorem NSt.done {l : Bl} {k f : Nat} {xs : List Bl} (h : NSt l k f xs) (hk : ¬ k ≤ l.length) : k = l.length + 1 ∧ xs = segs l := by
  rcases h with h | h
  · exact absurd h.1 hk
  · exact h
theorem NSt.skip {l : Bl} {k f : Nat} {xs : List Bl} {x : UInt8} (h : NSt l k f xs) (hx : l[k]? = some x) (hc : x ≠ 47) : NSt l (k + 1) f xs := by
  have hk := (List.getElem?_eq_some_iff.1 hx).1
  rcases h with ⟨h1, h2, h3, h4⟩ | ⟨h1, _⟩
  · refine .inl ⟨hk, by omega, h3, fun hm => ?_⟩
    rw [show k + 1 - f = k - f + 1 by omega, List.take_add_one, List.mem_append] at hm
    rcases hm with hm | hm
    · exact h4 hm
    · rw [List.getElem?_drop, show f + (k - f) = k by omega, hx] at hm
      have h5 : (47 : UInt8) = x := by simpa using hm
      exact hc h5.symm
  · omega
theorem NSt.hit {l : Bl} {k f : Nat} {xs : List Bl} (h : NSt l k f xs) (hx : l[k]? = some 47) : NSt l (k + 1) (k + 1) (xs ++ [(l.drop f).take (k - f)]) := by
  have hk := (List.getElem?_eq_some_iff.1 hx).1
  rcases h with ⟨h1, h2, h3, h4⟩ | ⟨h1, _⟩
  · refine .inl ⟨hk, Nat.le_refl _, ?_, by simp⟩
    have e : l.drop f = (l.drop f).take (k - f) ++ 47 :: l.drop (k + 1) := by
      have h5 := List.drop_eq_getElem_cons hk
      rw [(List.getElem?_eq_some_iff.1 hx).2] at h5
      rw [← h5]
      have h6 : (l.drop f).drop (k - f) = l.drop k := by rw [List.drop_drop, show f + (k - f) = k by omega]
      rw [← h6, List.take_append_drop]
    rw [h3]
    conv => lhs; rw [e, segs_first h4]
    simp
  · omega
theorem NSt.last {l : Bl} {f : Nat} {xs : List Bl} (h : NSt l l.length f xs) : NSt l (l.length + 1) (l.length + 1) (xs ++ [(l.drop f).take (l.length - f)]) := by
  rcases h with ⟨h1, h2, h3, h4⟩ | ⟨h1, _⟩
  · refine .inr ⟨rfl, ?_⟩
    have e : (l.drop f).take (l.length - f) = l.drop f := List.take_of_length_le (by rw [List.length_drop]; exact Nat.le_refl _)
    rw [e] at h4 ⊢
    rw [h3, segs_one h4]
  · omega
theorem st_mid (l : Bl) (f k : Nat) : (st l).extract f k = st ((l.drop f).take (k - f)) := st_ext (by
  simp only [st, ByteArray.data_extract, Array.toList_extract, List.extract_eq_take_drop])
set_option maxRecDepth 100000 in
set_option maxHeartbeats 4000000 in
theorem rnames_v (l : Bl) (w : World) (hs : l.length ≤ 1000) : Calls Tryd.prog 45 #[.string (st l)] w fun e w' => ∃ A c, e = .returned (.slice A (segs l).length c) ∧ SOwn w' w.heap.size A (segs l).length c ((segs l).map st) ∧ Below w.heap.size w w' := by
  obtain ⟨n, hn⟩ : ∃ n, (st l).size = n := ⟨_, rfl⟩
  have HN := Lib.hid (show l.length = n by rw [← hn, st_size])
  have hsz : ((st l).size : Int) = (n : Int) := by rw [hn]
  clear hn
  have hn6 : n ≤ 1000 := by rw [← HN.out]; exact hs
  go_enter Tryd.func45, Tryd.ntmps45
  go_wp2_with fail
  go_loopw [3, 4, 5] (fun o f i wr => ∃ (k p c : Nat) (A : Option Addr) (xs : List Bl), i = .int .i64 (k : Int) ∧ f = .int .i64 (p : Int) ∧ o = .slice A xs.length c ∧ xs.length ≤ k ∧ k ≤ n + 1 ∧ NSt l k p xs ∧ SOwn wr w.heap.size A xs.length c (xs.map st) ∧ Below w.heap.size w wr) (fun _ _ i _ => n + 1 - (intOf i).toNat)
  case atStart => exact ⟨0, 0, 0, none, [], rfl, rfl, rfl, Nat.le_refl _, Nat.zero_le _, NSt.start l, SOwn.nil_ w _, Below.refl _ _⟩
  case round =>
    obtain ⟨k, p, c, A, xs, rfl, rfl, rfl, hxk, hk, hst, ho, hb⟩ := hrel
    have HST := Lib.hid hst
    have HO := Lib.hid ho
    have HB := Lib.hid hb
    have hzb := hb.size
    clear hst ho hb
    by_cases hlt : k ≤ n
    · have hpk : p ≤ k := HST.out.range (by rw [HN.out]; exact hlt)
      have c0 : decide ((k : Int) ≤ (n : Int)) = true := decide_eq_true (by omega)
      have k0 : (0 : Int) ≤ (k : Int) := by omega
      have p0 : (0 : Int) ≤ (p : Int) := by omega
      have p1 : (p : Int) ≤ (k : Int) := by omega
      have p2 : (k : Int) ≤ (n : Int) := by omega
      by_cases hkn : k = n
      · have c1 : ((k : Int) == (n : Int)) = true := beq_iff_eq.2 (by omega)
        have HNX := Lib.hid (show NSt l (k + 1) (k + 1) (xs ++ [(l.drop p).take (k - p)]) by have h := HST.out; rw [hkn, ← HN.out] at h ⊢; exact h.last)
        have e1 := st_mid l p k
        clear hkn
        generalize (l.drop p).take (k - p) = y at *
        have HSO := Lib.hid (show SReads (wr.alloc (.cells #[.string (st y)] 9)) (wr.heap.size + 1) (some ⟨wr.heap.size, 0, none⟩) 1 [st y] from SReads.one 9 wr (st y))
        have HLL := Lib.hid (show xs.map st ++ [st y] = (xs ++ [y]).map st by simp)
        have HLN := Lib.hid (show xs.length + 1 = (xs ++ [y]).length by simp)
        go_upto_region 8 with (first
          | (at_builtin; go_loud (refine wpList_appS rfl (.tmp 22) (.tmp 27) rfl w.heap.size A xs.length c _ rfl (HO.out.alloc _) (wr.heap.size + 1) (some ⟨wr.heap.size, 0, none⟩) 1 1 [st y] rfl HSO.out _ _ HLN.out HLL.out (by simp; omega) (by simp; omega) ?_); intro A7 c7 w7 ho7 hg7)
          | fail)
        have HB7 := Lib.hid (sown_app (HB.out.alloc (by omega) (.cells #[.string (st y)] 9)) hg7 (HO.out.alloc _) (Nat.le_refl _) (by simp; omega))
        have HO7 := Lib.hid ho7
        have hxl : (xs ++ [y]).length ≤ k + 1 := by rw [List.length_append]; simp; omega
        clear ho7 hg7
        have HL2 := Lib.hid (show (xs ++ [y]).length = xs.length + 1 by simp)
        generalize xs ++ [y] = xs2 at *
        go_wp2_with fail
        go_roundw
        case rel => exact ⟨k + 1, k + 1, c7, A7, xs2, by go_num, by go_num, by rw [HL2.out], hxl, by omega, HNX.out, HO7.out, HB7.out⟩
        case measure => simp [intOf]; omega
      · have c1 : ((k : Int) == (n : Int)) = false := beq_eq_false_iff_ne.2 (by omega)
        obtain ⟨x, hx⟩ : ∃ x, l[k]? = some x := ⟨_, List.getElem?_eq_getElem (by rw [HN.out]; omega)⟩
        have HX := Lib.hid hx
        have x0 := st_index l k x hx
        clear hx
        by_cases hc : x = 47
        · have d1 : ((x.toNat : Int) == 47) = true := by rw [hc]; rfl
          have HNX := Lib.hid (HST.out.hit (hc ▸ HX.out))
          have e1 := st_mid l p k
          have hkn2 : k < n := by omega
          clear hc hkn
          generalize (l.drop p).take (k - p) = y at *
          have HSO := Lib.hid (show SReads (wr.alloc (.cells #[.string (st y)] 9)) (wr.heap.size + 1) (some ⟨wr.heap.size, 0, none⟩) 1 [st y] from SReads.one 9 wr (st y))
          have HLL := Lib.hid (show xs.map st ++ [st y] = (xs ++ [y]).map st by simp)
          have HLN := Lib.hid (show xs.length + 1 = (xs ++ [y]).length by simp)
          go_upto_region 8 with (first
            | (at_builtin; go_loud (refine wpList_appS rfl (.tmp 22) (.tmp 27) rfl w.heap.size A xs.length c _ rfl (HO.out.alloc _) (wr.heap.size + 1) (some ⟨wr.heap.size, 0, none⟩) 1 1 [st y] rfl HSO.out _ _ HLN.out HLL.out (by simp; omega) (by simp; omega) ?_); intro A7 c7 w7 ho7 hg7)
            | fail)
          have HB7 := Lib.hid (sown_app (HB.out.alloc (by omega) (.cells #[.string (st y)] 9)) hg7 (HO.out.alloc _) (Nat.le_refl _) (by simp; omega))
          have HO7 := Lib.hid ho7
          have hxl : (xs ++ [y]).length ≤ k + 1 := by rw [List.length_append]; simp; omega
          clear ho7 hg7
          have HL2 := Lib.hid (show (xs ++ [y]).length = xs.length + 1 by simp)
          generalize xs ++ [y] = xs2 at *
          go_wp2_with fail
          go_roundw
          case rel => exact ⟨k + 1, k + 1, c7, A7, xs2, by go_num, by go_num, by rw [HL2.out], hxl, by omega, HNX.out, HO7.out, HB7.out⟩
          case measure => simp [intOf]; omega
        · have d1 : ((x.toNat : Int) == 47) = false := beq_eq_false_iff_ne.2 fun e => hc (UInt8.toNat_inj.1 (by
            have : (47 : UInt8).toNat = 47 := rfl
            omega))
          have HNX := Lib.hid (HST.out.skip HX.out hc)
          clear hc
          go_wp2_with fail
          go_roundw
          case rel => exact ⟨k + 1, p, c, A, xs, by go_num, rfl, rfl, by omega, by omega, HNX.out, HO.out, HB.out⟩
          case measure => simp [intOf]; omega
    · have c0 : decide ((k : Int) ≤ (n : Int)) = false := decide_eq_false (by omega)
      obtain ⟨_, rfl⟩ := HST.out.done (by rw [HN.out]; exact hlt)
      go_wp2_with fail
      go_ret
      exact ⟨A, c, rfl, HO.out, HB.out⟩
set_option maxRecDepth 100000 in
set_option maxHeartbeats 4000000 in
theorem prcheck_v (l : Bl) (w : World) : Calls Tryd.prog 28 #[.string (st l)] w fun e w' => e = .returned (.int .i64 (checkL l : Int)) ∧ Below w.heap.size w w' := by
  have hz := st_size l
  by_cases h : 64 < l.length
  · have HC := Lib.hid (show checkL l = 3 by unfold checkL; rw [if_pos h])
    have d1 : decide ((64 : Int) < ((st l).size : Int)) = true := decide_eq_true (by omega)
    clear hz
    go_enter Tryd.func28, Tryd.ntmps28
    go_wp2_with fail
    go_ret
    exact ⟨by rw [HC.out]; rfl, Below.refl _ _⟩
  have d1 : decide ((64 : Int) < ((st l).size : Int)) = false := decide_eq_false (by omega)
  have HC := Lib.hid (show checkL l = if prightL l then 0 else 2 by unfold checkL; rw [if_neg h])
  have HLE := Lib.hid (show l.length ≤ 64 by omega)
  have NV := rnames_v l w (by omega)
  clear hz h
  obtain ⟨n, hn⟩ : ∃ n, (segs l).length = n := ⟨_, rfl⟩
  have HN := Lib.hid hn
  rw [hn] at NV
  clear hn
  go_enter Tryd.func28, Tryd.ntmps28
  go_wp2_with fail
  refine NV.mono ?_
  rintro e w1 ⟨A, c, rfl, ho, hb⟩
  have HB := Lib.hid hb
  have HR := Lib.hid ho.reads
  have hnc : n ≤ 1000000 := by
    have h1 : ∀ l : Bl, (segs l).length ≤ l.length + 1 := fun l => by
      induction l with
      | nil => simp [segs]
      | cons c l ih =>
        unfold segs
        split
        · simp; omega
        · split
          · rename_i s r hsr
            rw [hsr] at ih
            simp at ih ⊢
            omega
          · simp
    have := h1 l
    have := HLE.out
    have := HN.out
    omega
  clear ho hb NV
  go_wp2_with fail
  go_loopw [4] (fun i V => ∃ k : Nat, k ≤ n ∧ i = .int .i64 (k : Int) ∧ (∀ x ∈ (segs l).take k, nameL x = true) ∧ V = w1) (fun i _ => n - (intOf i).toNat)
  case atStart => exact ⟨0, Nat.zero_le _, rfl, by simp, rfl⟩
  case round =>
    obtain ⟨k, hk, rfl, hall, rfl⟩ := hrel
    have HA := Lib.hid hall
    clear hall
    by_cases hlt : k < n
    · obtain ⟨ad, d, rfl, hd, hc⟩ := HR.out.at_ hlt
      obtain ⟨x, hx⟩ : ∃ x, (segs l)[k]? = some x := ⟨_, List.getElem?_eq_getElem (by rw [HN.out]; exact hlt)⟩
      rw [List.getElem?_map, hx] at hd
      obtain rfl : st x = d := Option.some.inj hd
      have c0 := hc wr (Below.refl _ _)
      have k0 : (0 : Int) ≤ (k : Int) := by omega
      have k1 : (k : Int) < (n : Int) := by omega
      have HX := Lib.hid hx
      clear hx hd hc
      have NV := rname_v (st x) wr (by have := segs_len l x (List.mem_of_getElem? HX.out); have := HLE.out; rw [st_size]; omega)
      rw [st_data] at NV
      go_wp2_with fail
      refine NV.mono ?_
      rintro e _ ⟨rfl, rfl⟩
      clear c0 NV
      cases hnx : nameL x with
      | false =>
        have HR := Lib.hid (show prightL l = false from Bool.eq_false_iff.2 fun h => by
          have := (right_iff.1 h).1 x (List.mem_of_getElem? HX.out)
          rw [hnx] at this
          cases this)
        clear hnx
        go_wp2_with fail
        go_ret
        exact ⟨by rw [HC.out, HR.out]; rfl, HB.out⟩
      | true =>
        have HA2 := Lib.hid (show ∀ y ∈ (segs l).take (k + 1), nameL y = true from fun y hy => by
          rw [List.take_add_one, HX.out] at hy
          rcases List.mem_append.1 hy with hy | hy
          · exact HA.out y hy
          · obtain rfl : y = x := by simpa using hy
            exact hnx)
        clear hnx
        go_wp2_with fail
        go_roundw
        case rel => exact ⟨k + 1, hlt, by go_num, HA2.out, by trivial⟩
        case measure => simp [intOf]; omega
    · obtain rfl : k = n := by omega
      have HA2 := Lib.hid (show ∀ y ∈ segs l, nameL y = true by have h := HA.out; rwa [List.take_of_length_le (by rw [HN.out]; exact Nat.le_refl _)] at h)
      by_cases h4 : k ≤ 4
      · have d2 : decide ((4 : Int) < (k : Int)) = false := decide_eq_false (by omega)
        have HR2 := Lib.hid (show checkL l = 0 by rw [HC.out, right_iff.2 ⟨HA2.out, by rw [HN.out]; exact h4, HLE.out⟩]; rfl)
        clear h4
        go_wp2_with fail
        go_ret
        exact ⟨by rw [HR2.out]; rfl, HB.out⟩
      · have d2 : decide ((4 : Int) < (k : Int)) = true := decide_eq_true (by omega)
        have HR2 := Lib.hid (show checkL l = 2 by rw [HC.out, if_neg (fun h => h4 (by rw [← HN.out]; exact (right_iff.1 h).2.1))])
        clear h4
        go_wp2_with fail
        go_ret
        exact ⟨by rw [HR2.out]; rfl, HB.out⟩
end Go.Proofs.YtndekohimfjdeaaDoor
