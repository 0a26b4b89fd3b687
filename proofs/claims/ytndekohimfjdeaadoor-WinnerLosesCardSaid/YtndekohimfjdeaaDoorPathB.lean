/-
  Paths: the environment that the library reads; right, Check, split, ending, and the functions over them.
-/
import Derived.Test.YtndekohimfjdeaaDoorPathA
import Derived.WalkSmall
import Derived.Handy
import Derived.Deep.QuietTactic
import Derived.BigQuiet
namespace Go.Proofs.YtndekohimfjdeaaDoor
open Go.RowKit
/-! ### Parts, as the library cuts them -/
theorem index_in : ∀ {a b : Bl}, (47 : UInt8) ∉ a → Lib.index (a ++ 47 :: b) [47] = a.length
  | [], b, _ => by simp [Lib.index, List.isPrefixOf]
  | x :: a, b, h => by
    simp only [List.mem_cons, not_or] at h
    rw [List.cons_append]
    unfold Lib.index
    have e : List.isPrefixOf [47] (x :: (a ++ 47 :: b)) = false := by
      simp only [List.isPrefixOf, Bool.and_true]
      exact beq_eq_false_iff_ne.2 h.1
    rw [if_neg (by rw [e]; simp), index_in h.2, if_neg (by simp)]
    simp
theorem index_out : ∀ {l : Bl}, (47 : UInt8) ∉ l → Lib.index l [47] = -1
  | [], _ => rfl
  | x :: l, h => by
    simp only [List.mem_cons, not_or] at h
    unfold Lib.index
    have e : List.isPrefixOf [47] (x :: l) = false := by
      simp only [List.isPrefixOf, Bool.and_true]
      exact beq_eq_false_iff_ne.2 h.1
    rw [if_neg (by rw [e]; simp), index_out h.2]
    rfl
theorem segs_first {b : Bl} : ∀ {a : Bl}, (47 : UInt8) ∉ a → segs (a ++ 47 :: b) = a :: segs b
  | [], _ => by rw [List.nil_append]; conv => lhs; unfold segs
                simp
  | x :: a, h => by
    simp only [List.mem_cons, not_or] at h
    rw [List.cons_append]
    conv => lhs; unfold segs
    rw [if_neg (Ne.symm h.1), segs_first h.2]
theorem first_cut : ∀ {l : Bl}, (47 : UInt8) ∈ l → ∃ a b, l = a ++ 47 :: b ∧ (47 : UInt8) ∉ a
  | x :: l, h => by
    by_cases e : x = 47
    · exact ⟨[], l, by rw [e]; rfl, by simp⟩
    · have h2 : (47 : UInt8) ∈ l := by
        rcases List.mem_cons.1 h with h | h
        · exact absurd h.symm e
        · exact h
      obtain ⟨a, b, rfl, hb⟩ := first_cut h2
      exact ⟨x :: a, b, rfl, by simp only [List.mem_cons, not_or]; exact ⟨Ne.symm e, hb⟩⟩
theorem splitK_segs : ∀ (n : Nat) (l : Bl), l.length ≤ n → Lib.splitK [47] 0 (Lib.count l [47]) l = segs l ∧ (segs l).length = Lib.count l [47] + 1
  | n, l, hn => by
    by_cases h : (47 : UInt8) ∈ l
    · obtain ⟨a, b, rfl, ha⟩ := first_cut h
      cases n with
      | zero => simp at hn
      | succ n =>
        have hl : b.length ≤ n := by simp at hn; omega
        obtain ⟨h1, h2⟩ := splitK_segs n b hl
        have hd : (a ++ 47 :: b).drop (a.length + ([47] : Bl).length) = b := by
          rw [List.drop_append]
          simp
        have hc : Lib.count (a ++ 47 :: b) [47] = Lib.count b [47] + 1 := by
          rw [Lib.count_hit (by simp) (index_in ha), hd]
          omega
        rw [hc, segs_first ha]
        unfold Lib.splitK
        rw [index_in ha, if_neg (by simp), Int.toNat_natCast, hd, h1]
        simp [h2]
    · have h0 : Lib.count l [47] = 0 := Lib.count_miss (index_out h)
      rw [h0, segs_one h]
      exact ⟨rfl, rfl⟩
theorem split_segs (l : Bl) : Lib.splitB (st [47]) 0 (Lib.countB (st l) (st [47])) (st l) = (segs l).map st ∧ Lib.countB (st l) (st [47]) + 1 = (segs l).length := by
  obtain ⟨h1, h2⟩ := splitK_segs l.length l (Nat.le_refl _)
  have h3 := Lib.splitB_data (st [47]) 0 (Lib.countB (st l) (st [47])) (st l)
  have e : Lib.countB (st l) (st [47]) = Lib.count l [47] := rfl
  rw [e] at h3 ⊢
  rw [st_data, st_data, h1] at h3
  refine ⟨?_, h2.symm⟩
  rw [← h3, List.map_map]
  conv => lhs; rw [← List.map_id (Lib.splitB (st [47]) 0 (Lib.count l [47]) (st l))]
  exact List.map_congr_left fun s _ => st_of s
theorem segs_len : ∀ (l x : Bl), x ∈ segs l → x.length ≤ l.length
  | [], x, h => by
    obtain rfl := List.mem_singleton.1 (show x ∈ [[]] from h)
    exact Nat.le_refl _
  | c :: l, x, h => by
    unfold segs at h
    split at h
    · rcases List.mem_cons.1 h with rfl | h
      · simp
      · have := segs_len l x h
        simp
        omega
    · split at h
      · rename_i s r hsr
        rcases List.mem_cons.1 h with rfl | h
        · have := segs_len l s (by rw [hsr]; simp)
          simp
          omega
        · have := segs_len l x (by rw [hsr]; exact List.mem_cons_of_mem _ h)
          simp
          omega
      · obtain rfl := List.mem_singleton.1 h
        simp
/-! ### What the library reads -/
structure EnvM (w : World) : Prop where
  mx : ∃ m, w.cell? ⟨0, 0, none⟩ = some (.int .i64 m)
theorem EnvM.below {w w' : World} (h : EnvM w) (hb : Below w.heap.size w w') : EnvM w' := by
  obtain ⟨m, hm⟩ := h.mx
  exact ⟨⟨m, (hb.cell (World.block_lt_of_cell? w _ hm)).trans hm⟩⟩
structure Env (w : World) : Prop where
  mx : ∃ m, w.cell? ⟨0, 0, none⟩ = some (.int .i64 m)
  tab : Lib.TabIs Tryd.prog w "internal/strconv.uint64pow10" .u64 Lib.pow10Tab
theorem gPow : Tryd.prog.globalNamed "internal/strconv.uint64pow10" = some 1 := by kernel_rfl
theorem Env.below {w w' : World} (h : Env w) (hb : Below w.heap.size w w') : Env w' := by
  obtain ⟨m, hm⟩ := h.mx
  refine ⟨⟨m, (hb.cell (World.block_lt_of_cell? w _ hm)).trans hm⟩, ?_⟩
  have ht := h.tab
  unfold Lib.TabIs at ht ⊢
  refine var?_below hb gPow ?_ ht
  unfold World.var? at ht
  rw [gPow] at ht
  simp only [Option.bind_some] at ht
  rcases Nat.lt_or_ge 1 w.heap.size with h2 | h2
  · exact h2
  · rw [Array.getElem?_eq_none h2] at ht
    cases ht
theorem Env.m {w : World} (h : Env w) : EnvM w := ⟨h.mx⟩
theorem below_dr (w : World) (q : Nat) : Below w.heap.size w (w.drewN q) := ⟨rfl, rfl, rfl, Nat.le_refl _, fun _ _ => rfl⟩
theorem below_gr (w : World) (k : Nat) (os : Array Obj) : Below w.heap.size w (Go.Sort.grow (w.drewN k) os) := by
  refine ⟨rfl, rfl, rfl, by simp [Go.Sort.grow], fun j hj => ?_⟩
  simp only [Go.Sort.grow]
  rw [Array.getElem?_append_left (by simpa using hj)]
  rfl
set_option maxRecDepth 100000 in
set_option maxHeartbeats 4000000 in
theorem prightM_v (l : Bl) (w : World) (he : EnvM w) (hs : l.length < 4294967281) : Calls Tryd.prog 64 #[.string (st l)] w fun e w' => e = .returned (.bool (prightL l)) ∧ Below w.heap.size w w' := by
  obtain ⟨m, hm⟩ := he.mx
  have hz : (st l).size = l.length := st_size l
  have HSP := Lib.hid (split_segs l)
  go_enter Tryd.func64, Tryd.ntmps64
  have SV := Tryd.strings_Split (st l) (st [47]) m w (by rw [hz]; exact hs) hm (by decide)
  rw [HSP.out.1, HSP.out.2] at SV
  go_wp2_with fail
  refine SV.mono ?_
  rintro e w1 ⟨rfl, hw1⟩
  have HB := Lib.hid (show Below w.heap.size w w1 from by rw [hw1]; exact (Below.refl _ _).alloc (Nat.le_refl _) _)
  have HC := Lib.hid (show ∀ (j : Nat) (x : Bl), (segs l)[j]? = some x → w1.cell? ⟨w.heap.size, j, none⟩ = some (.string (st x)) from fun j x hx => by
    rw [hw1]
    rw [World.cell?_alloc_at _ _ _ _ rfl, List.getElem?_toArray, List.map_map, List.getElem?_map, hx]
    rfl)
  clear hw1 SV
  obtain ⟨n, hn⟩ : ∃ n, (segs l).length = n := ⟨_, rfl⟩
  have HN := Lib.hid hn
  rw [hn]
  have hnb : n ≤ 4294967290 := by have h1 := HSP.out.2; have h2 := Lib.count_le l [47]; have h3 : Lib.countB (st l) (st [47]) = Lib.count l [47] := rfl; omega
  clear hn hz
  go_wp2_with fail
  go_loopw [5, 10] (fun _ i V => ∃ k : Nat, k ≤ n ∧ i = .int .i64 (k : Int) ∧ (∀ x ∈ (segs l).take k, nameL x = true) ∧ V = w1) (fun _ i _ => n - (intOf i).toNat)
  case atStart => exact ⟨0, Nat.zero_le _, rfl, by simp, rfl⟩
  case round =>
    obtain ⟨k, hk, rfl, hall, rfl⟩ := hrel
    have HA := Lib.hid hall
    clear hall
    by_cases hlt : k < n
    · obtain ⟨x, hx⟩ : ∃ x, (segs l)[k]? = some x := ⟨_, List.getElem?_eq_getElem (by rw [HN.out]; exact hlt)⟩
      have c0 := HC.out k x hx
      have k0 : (0 : Int) ≤ (k : Int) := by omega
      have k1 : (k : Int) < (n : Int) := by omega
      have HX := Lib.hid hx
      clear hx
      have NV := name_v (st x) wr (by have := segs_len l x (List.mem_of_getElem? HX.out); rw [st_size]; omega)
      rw [st_data] at NV
      go_wp2_with fail
      refine NV.mono ?_
      rintro e _ ⟨rfl, rfl⟩
      clear c0 NV
      cases hnx : nameL x with
      | false =>
        have HR := Lib.hid (show prightL l = false from Bool.eq_false_iff.2 fun h => by
          have := (right_iff.1 h).1 x (List.mem_of_getElem? HX.out)
          rw [hnx] at this
          cases this)
        clear hnx
        go_wp2_with fail
        go_ret
        exact ⟨by rw [HR.out]; rfl, HB.out⟩
      | true =>
        have HA2 := Lib.hid (show ∀ y ∈ (segs l).take (k + 1), nameL y = true from fun y hy => by
          rw [List.take_add_one, HX.out] at hy
          rcases List.mem_append.1 hy with hy | hy
          · exact HA.out y hy
          · obtain rfl : y = x := by simpa using hy
            exact hnx)
        clear hnx
        go_wp2_with fail
        go_roundw
        case rel => exact ⟨k + 1, hlt, by go_num, HA2.out, by trivial⟩
        case measure => simp [intOf]; omega
    · obtain rfl : k = n := by omega
      have HA2 := Lib.hid (show ∀ y ∈ segs l, nameL y = true by have h := HA.out; rwa [List.take_of_length_le (by rw [HN.out]; exact Nat.le_refl _)] at h)
      have HR := Lib.hid (show prightL l = (decide (k ≤ 4) && decide ((st l).size ≤ 64)) by
        unfold prightL
        rw [List.all_eq_true.2 HA2.out, HN.out, st_size]
        rfl)
      by_cases h4 : k ≤ 4
      · have d1 : decide ((k : Int) ≤ 4) = true := decide_eq_true (by omega)
        by_cases h5 : (st l).size ≤ 64
        · have d2 : decide (((st l).size : Int) ≤ 64) = true := decide_eq_true (by omega)
          have HR2 := Lib.hid (show prightL l = true by rw [HR.out, decide_eq_true h4, decide_eq_true h5]; rfl)
          go_wp2_with fail
          go_ret
          exact ⟨by rw [HR2.out]; rfl, HB.out⟩
        · have d2 : decide (((st l).size : Int) ≤ 64) = false := decide_eq_false (by omega)
          have HR2 := Lib.hid (show prightL l = false by rw [HR.out, decide_eq_true h4, decide_eq_false h5]; rfl)
          go_wp2_with fail
          go_ret
          exact ⟨by rw [HR2.out]; rfl, HB.out⟩
      · have d1 : decide ((k : Int) ≤ 4) = false := decide_eq_false (by omega)
        have HR2 := Lib.hid (show prightL l = false by rw [HR.out, decide_eq_false h4]; rfl)
        go_wp2_with fail
        go_ret
        exact ⟨by rw [HR2.out]; rfl, HB.out⟩
set_option maxRecDepth 100000 in
theorem pcheckM_v (l : Bl) (w : World) (he : EnvM w) : Calls Tryd.prog 48 #[.string (st l)] w fun e w' => e = .returned (.int .i64 (checkL l : Int)) ∧ Below w.heap.size w w' := by
  have hz := st_size l
  by_cases h : 64 < l.length
  · have HC := Lib.hid (show checkL l = 3 by unfold checkL; rw [if_pos h])
    have d1 : decide ((64 : Int) < ((st l).size : Int)) = true := decide_eq_true (by omega)
    clear hz
    go_enter Tryd.func48, Tryd.ntmps48
    go_wp2_with fail
    go_ret
    exact ⟨by rw [HC.out]; rfl, Below.refl _ _⟩
  · have d1 : decide ((64 : Int) < ((st l).size : Int)) = false := decide_eq_false (by omega)
    have HC := Lib.hid (show checkL l = if prightL l then 0 else 2 by unfold checkL; rw [if_neg h])
    have RV := prightM_v l w he (by omega)
    clear hz
    go_enter Tryd.func48, Tryd.ntmps48
    go_wp2_with fail
    cases hr : prightL l with
    | false =>
      rw [hr] at RV HC
      refine RV.mono ?_
      rintro e w1 ⟨rfl, b1⟩
      go_wp2_with fail
      go_ret
      exact ⟨by rw [HC.out]; rfl, b1⟩
    | true =>
      rw [hr] at RV HC
      refine RV.mono ?_
      rintro e w1 ⟨rfl, b1⟩
      go_wp2_with fail
      go_ret
      exact ⟨by rw [HC.out]; rfl, b1⟩
theorem pright_v (l : Bl) (w : World) (he : Env w) (hs : l.length < 4294967281) : Calls Tryd.prog 64 #[.string (st l)] w fun e w' => e = .returned (.bool (prightL l)) ∧ Below w.heap.size w w' := prightM_v l w he.m hs
theorem pcheck_v (l : Bl) (w : World) (he : Env w) : Calls Tryd.prog 48 #[.string (st l)] w fun e w' => e = .returned (.int .i64 (checkL l : Int)) ∧ Below w.heap.size w w' := pcheckM_v l w he.m
/-! ### The last of a byte -/
theorem last_cut (c : UInt8) (l : Bl) : (Lib.lastIndexByte (st l) (c.toNat : Int) = -1 ∧ cutL c l = none) ∨ ∃ i : Nat, i < l.length ∧ Lib.lastIndexByte (st l) (c.toNat : Int) = (i : Int) ∧ cutL c l = some (l.take i, l.drop (i + 1)) := by
  have hg : ∀ j (hj : j < l.length), (st l).data[j]! = l[j] := fun j hj => by
    rw [getElem!_pos (st l).data j (by simpa [st] using hj)]
    rfl
  rcases Lib.lastIndexByte_spec (st l) (c.toNat : Int) with ⟨h1, h2⟩ | ⟨i, hi, h1, h2, h3⟩
  · refine .inl ⟨h1, cutL_none.2 fun hm => ?_⟩
    obtain ⟨j, hj⟩ := List.mem_iff_getElem?.1 hm
    obtain ⟨hjl, he⟩ := List.getElem?_eq_some_iff.1 hj
    refine h2 j (by rw [st_size]; exact hjl) ?_
    rw [hg j hjl, he]
  · rw [st_size] at hi
    refine .inr ⟨i, hi, h1, cutL_some.2 ⟨?_, fun hm => ?_⟩⟩
    · have h4 : l[i] = c := by
        rw [hg i hi] at h2
        exact UInt8.toNat_inj.1 (by omega)
      have h5 := List.drop_eq_getElem_cons hi
      rw [h4] at h5
      rw [← h5, List.take_append_drop]
    · obtain ⟨j, hj⟩ := List.mem_iff_getElem?.1 hm
      rw [List.getElem?_drop] at hj
      obtain ⟨hjl, he⟩ := List.getElem?_eq_some_iff.1 hj
      refine h3 (i + 1 + j) (by omega) (by rw [st_size]; exact hjl) ?_
      rw [hg _ hjl, he]
set_option maxRecDepth 100000 in
theorem split_v (l : Bl) (w : World) (hs : l.length < 4294967281) : Calls Tryd.prog 61 #[.string (st l)] w fun e w' => e = .returned (.tuple #[.string (st (folderL l)), .string (st (baseL l))]) ∧ Below w.heap.size w w' := by
  have hz := st_size l
  have LV := Tryd.strings_LastIndexByte (st l) 47 (by omega) w
  rcases last_cut 47 l with ⟨h1, h2⟩ | ⟨i, hi, h1, h2⟩
  · have HF := Lib.hid (show folderL l = [] ∧ baseL l = l by unfold folderL baseL; rw [h2]; exact ⟨rfl, rfl⟩)
    rw [show Lib.lastIndexByte (st l) 47 = -1 from h1] at LV
    clear h1 h2 hz
    go_enter Tryd.func61, Tryd.ntmps61
    go_wp2_with fail
    refine LV.mono ?_
    rintro e w1 ⟨rfl, rfl⟩
    go_wp2_with fail
    go_returns
    exact ⟨by rw [HF.out.1, HF.out.2]; rfl, Below.refl _ _⟩
  · have HF := Lib.hid (show folderL l = l.take i ∧ baseL l = l.drop (i + 1) by unfold folderL baseL; rw [h2]; exact ⟨rfl, rfl⟩)
    rw [show Lib.lastIndexByte (st l) 47 = (i : Int) from h1] at LV
    clear h1
    have i0 : (0 : Int) ≤ (i : Int) := by omega
    have i1 : (i : Int) ≤ (st l).size := by omega
    have i2 : (i : Int) + 1 ≤ (st l).size := by omega
    have i3 : IntKind.i64.wrap ((i : Int) + 1) = (i : Int) + 1 := IntWalk.i64_in _ ⟨by omega, by omega⟩
    have i4 : (0 : Int) ≤ (i : Int) + 1 := by omega
    have i5 : ((i : Int) + 1).toNat = i + 1 := by omega
    have HT := Lib.hid (st_take l i)
    have HD := Lib.hid (st_drop l (i + 1))
    clear h2 hz
    go_enter Tryd.func61, Tryd.ntmps61
    go_wp2_with fail
    refine LV.mono ?_
    rintro e w1 ⟨rfl, rfl⟩
    go_upto_region 4 with fail
    go_quiet (fail)
    go_wp2_with fail
    go_returns
    exact ⟨by rw [HF.out.1, HF.out.2, ← HT.out, ← HD.out]; rfl, below_dr _ _⟩
end Go.Proofs.YtndekohimfjdeaaDoor
