/-
  Vectors, the reference: Text.
-/
import Derived.Test.YtippojkdgecblaaDoorRvH
namespace Go.Proofs.YtippojkdgecblaaDoor
open Go.RowKit
theorem cntT_len {x : Int × Nat} (h1 : x.1 ≤ 16) (h2 : x.2 < 18446744073709551616) : (cntT x).length ≤ 23 := by
  have l1 := dec_lenU (n := x.1.toNat) (k := 2) (by decide) (by omega)
  have l2 := dec_lenU (n := x.2) (k := 20) (by decide) (Nat.lt_of_lt_of_le h2 (by decide))
  unfold cntT
  simp only [List.length_append, List.length_cons, List.length_nil]
  omega
theorem textJ_len : ∀ l : List (Int × Nat), (∀ x ∈ l, (cntT x).length ≤ 23) → (textJ l).length ≤ 24 * l.length := fun l h => by
  unfold textJ
  cases l with
  | nil => simp [Lib.join_nil]
  | cons y r =>
    rw [List.map_cons, Lib.join_cons, List.length_append]
    have h0 := h y List.mem_cons_self
    have h2 : ∀ r : List (Int × Nat), (∀ x ∈ r, (cntT x).length ≤ 23) → (Lib.joinTail [32] (r.map cntT)).length ≤ 24 * r.length := fun r => by
      induction r with
      | nil => intro _; simp [Lib.joinTail]
      | cons z r ih =>
        intro h
        have h3 := ih fun x hx => h x (List.mem_cons_of_mem _ hx)
        have h4 := h z List.mem_cons_self
        simp only [Lib.joinTail, List.map_cons, List.flatten_cons, List.length_append, List.length_cons, List.length_nil] at h3 ⊢
        omega
    have := h2 r fun x hx => h x (List.mem_cons_of_mem _ hx)
    simp only [List.length_cons]
    omega
/-- What stands ahead of the next count's text. -/
def preT (l : List (Int × Nat)) : Bl := if l = [] then [] else textJ l ++ [32]
theorem preT_snoc (l : List (Int × Nat)) (x : Int × Nat) : textJ (l ++ [x]) = preT l ++ cntT x := by
  rw [textJ_snoc, preT]
  split <;> simp
set_option maxHeartbeats 2000000 in
theorem rtext_no (B : Nat) (A : Option Addr) (n c : Nat) (l : List (Int × Nat)) (w : World) (hr : CReads w B A n l) (hB : B ≤ w.heap.size) (hn : n ≤ 9223372036854775807) (ho : okV 0 l = false) :
    Calls Tryd.prog 26 #[.slice A n c] w fun e w' => e = .returned (.string (st [])) ∧ Below w.heap.size w w' := by
  have HO := Lib.hid ho
  clear ho
  go_enter Tryd.func26, Tryd.ntmps26
  go_wp2_with fail
  refine (rcheck_v B A n c l w hr hB hn).mono ?_
  rw [HO.out]
  rintro e w1 ⟨rfl, hb1⟩
  go_wp2_with fail
  go_ret
  exact ⟨rfl, hb1⟩
set_option maxRecDepth 100000 in
set_option maxHeartbeats 4000000 in
theorem rtext_v (B : Nat) (A : Option Addr) (n c : Nat) (l : List (Int × Nat)) (w : World) (hr : CReads w B A n l) (hB : B ≤ w.heap.size) (ho : okV 0 l = true) (hf : fitV l) :
    Calls Tryd.prog 26 #[.slice A n c] w fun e w' => e = .returned (.string (st (textJ l))) ∧ Below w.heap.size w w' := by
  have HLEN := Lib.hid hr.len
  have HR := Lib.hid hr
  have hn16 : n ≤ 16 := by have := ok_len l 0 ho (by omega); have := hr.len; omega
  have HALL := Lib.hid (ok_all l 0 ho)
  have HO := Lib.hid ho
  have HF := Lib.hid hf
  clear hr ho hf
  go_enter Tryd.func26, Tryd.ntmps26
  go_wp2_with fail
  refine (rcheck_v B A n c l w HR.out hB (by omega)).mono ?_
  rw [HO.out]
  rintro e w1 ⟨rfl, hb1⟩
  have B1 := Lib.hid hb1
  clear hb1
  go_wp2_with fail
  go_loopw [3, 4] (fun s i wr => ∃ k : Nat, k ≤ n ∧ i = .int .i64 (k : Int) ∧ s = .string (st (textJ (l.take k))) ∧ Below w.heap.size w wr) (fun _ i _ => n - (intOf i).toNat)
  case atStart => exact ⟨0, Nat.zero_le _, rfl, rfl, B1.out⟩
  case round =>
    obtain ⟨k, hk, rfl, rfl, hs⟩ := hrel
    have HS := Lib.hid hs
    clear hs B1
    by_cases hlt : k < n
    · obtain ⟨ad, x, rfl, had, hx, hc1, hc2⟩ := CReads.at_ (Reads.below (show Reads w B 2 A n _ from HR.out) (HS.out.mono hB)) hlt
      have hx1 := HALL.out x (List.mem_of_getElem? hx)
      have hx64 : x.2 < 18446744073709551616 := HF.out x (List.mem_of_getElem? hx)
      have k0 : (0 : Int) ≤ (k : Int) := by omega
      have d0 : decide (k < n) = true := by simpa using hlt
      have HT := Lib.hid (show textJ (l.take (k + 1)) = preT (l.take k) ++ cntT x by
        obtain ⟨hk2, he2⟩ := List.getElem?_eq_some_iff.1 hx
        rw [List.take_succ_eq_append_getElem hk2, he2, preT_snoc])
      have hlen : (textJ (l.take k)).length ≤ 400 := by
        have := textJ_len (l.take k) fun y hy => cntT_len (HALL.out y (List.mem_of_mem_take hy)).2.1 (HF.out y (List.mem_of_mem_take hy))
        rw [List.length_take] at this
        omega
      clear hx
      obtain ⟨z, v⟩ := x
      obtain ⟨d, rfl⟩ := Int.eq_ofNat_of_zero_le (show 0 ≤ z by have := hx1.1; simp only at this; omega)
      simp only at hc1 hc2 hx1 hx64
      have hd16 : d ≤ 16 := by omega
      have had2 : (ad.add (k * 2)).block < w.heap.size := by rw [block_of_add]; omega
      clear hx1 had
      have l1 := dec_lenU (n := d) (k := 2) (by decide) (by omega)
      have l2 := dec_lenU (n := v) (k := 20) (by decide) (Nat.lt_of_lt_of_le hx64 (by decide))
      have HT2 := Lib.hid (show textJ (l.take (k + 1)) = preT (l.take k) ++ dec d ++ [58] ++ dec v by rw [HT.out, cntT]; simp)
      have DV := Lib.hid (fun w => rdig_v d w (by omega))
      have VV := Lib.hid (fun w => rdig_v v w hx64)
      have lp : (preT (l.take k)).length ≤ 401 := by
        unfold preT
        split
        · simp
        · simp; omega
      have HP := Lib.hid (show k ≠ 0 → preT (l.take k) = textJ (l.take k) ++ [32] from fun h => by
        unfold preT
        rw [if_neg (fun e => by have := congrArg List.length e; rw [List.length_take, HLEN.out] at this; simp at this; omega)])
      have HP0 := Lib.hid (show k = 0 → preT (l.take k) = textJ (l.take k) from fun h => by subst h; rfl)
      have z0 : (st (textJ (l.take k))).size ≤ 1000 := by rw [st_size]; omega
      have tail : ∀ (K : Prop), True := fun _ => trivial
      clear tail
      obtain ⟨p, hp⟩ : ∃ p, preT (l.take k) = p := ⟨_, rfl⟩
      rw [hp] at HT2 HP HP0 lp
      clear hp HT hlen
      generalize textJ (l.take k) = t0 at *
      generalize dec d = y1 at *
      generalize dec v = y2 at *
      have e1 : st p ++ st y1 = st (p ++ y1) := st_app p y1
      have e2 : st (p ++ y1) ++ (⟨#[58]⟩ : ByteArray) = st (p ++ y1 ++ [58]) := st_app _ [58]
      have e3 : st (p ++ y1 ++ [58]) ++ st y2 = st (p ++ y1 ++ [58] ++ y2) := st_app _ y2
      have z1 : (st (p ++ y1)).size ≤ 1000 := by rw [st_size, List.length_append]; omega
      have z2 : (st (p ++ y1 ++ [58])).size ≤ 1000 := by rw [st_size, List.length_append, List.length_append]; simp only [List.length_cons, List.length_nil]; omega
      have z3 : (st y1).size ≤ 1000 := by rw [st_size]; omega
      have z4 : (st y2).size ≤ 1000 := by rw [st_size]; omega
      have z5 : (st p).size ≤ 1000 := by rw [st_size]; omega
      have q1 : ¬ 9223372036854775807 < (st p).size + (st y1).size := by omega
      have q2 : ¬ 9223372036854775807 < (st (p ++ y1)).size + 1 := by omega
      have q3 : ¬ 9223372036854775807 < (st (p ++ y1 ++ [58])).size + (st y2).size := by omega
      generalize hp3 : p ++ y1 ++ [58] ++ y2 = p3 at *
      generalize hp2 : p ++ y1 ++ [58] = p2 at *
      generalize hp1 : p ++ y1 = p1 at *
      clear hp1 hp2 hp3 l1 l2 lp
      have ew : IntKind.u64.wrap (d : Int) = (d : Int) := by rw [IntKind.wrap_u64]; omega
      have SV := Lib.hid (show ∀ V, Below w.heap.size wr V → V.cell? (ad.add (k * 2)) = some (.int .i64 (d : Int)) ∧ V.cell? ⟨(ad.add (k * 2)).block, (ad.add (k * 2)).off + 1, none⟩ = some (.int .u64 (v : Int)) from fun V hb => ⟨(hb.cell had2).trans hc1, (hb.cell (p := ⟨(ad.add (k * 2)).block, (ad.add (k * 2)).off + 1, none⟩) had2).trans hc2⟩)
      by_cases hk0 : k = 0
      · have HPE := Lib.hid (HP0.out hk0)
        have d4 : decide (0 < k) = false := by simp; omega
        have d4' : decide ((0 : Int) < (k : Int)) = false := by simp; omega
        clear hk0
        go_upto_region 9 with fail
        rw [show t0 = p from HPE.out.symm]
        refine wp_region_text [(0, false), (1, false), (2, false), (3, false), (4, false), (5, false), (6, false), (10, false), (11, false), (12, false), (13, false), (14, false), (7, true), (8, false), (9, false), (15, true), (16, false), (17, false)] (fun V => V.cell? (ad.add (k * 2)) = some (.int .i64 (d : Int)) ∧ V.cell? ⟨(ad.add (k * 2)).block, (ad.add (k * 2)).off + 1, none⟩ = some (.int .u64 (v : Int))) (by kernel_rfl) (by kernel_rfl) (by kernel_rfl) (by kernel_rfl) (by kernel_rfl) (fun dd => ?_)
        simp only [outOf, List.getElem?_cons_zero, List.getElem?_cons_succ, Option.getD_some]
        have hS := SV.out wr.drew ((Below.refl _ _).drew)
        have bd := (Below.refl w.heap.size wr).drew
        have hsz := HS.out.size
        iterate 12 ((first | (refine TW.val2 (v := ?_) ?_ ?_ ?_ ?_ ?_; rotate_left; (focus rfl); (focus (intro W hSW; (try dsimp only at hSW); (try (obtain ⟨hS1, hSW⟩ := hSW)); (try (obtain ⟨hS2, hSW⟩ := hSW)); (try (obtain ⟨hS3, hSW⟩ := hSW)); (try (obtain ⟨hS4, hSW⟩ := hSW)); (try (obtain ⟨hS5, hSW⟩ := hSW)); (try (obtain ⟨hS6, hSW⟩ := hSW)); (try (obtain ⟨hS7, hSW⟩ := hSW)); (try (obtain ⟨hS8, hSW⟩ := hSW)); go_simp; (try with_reducible rfl); done)); (focus exact fun _ _ _ h => h); (focus assumption)) | (refine TW.skip (e := false) ?_ ?_ ?_ ?_; (focus rfl); (focus exact fun _ _ _ h => h); (focus assumption))); simp only [Act.put, List.setIfInBounds_toArray, List.set_cons_zero, List.set_cons_succ])
        refine TW.eff (by rfl) (fun K hK => ?_); go_simp
        refine (DV.out _).mono ?_
        rintro e w3 ⟨rfl, b3⟩
        have bd3 := bd.trans (b3.mono hsz)
        have hS := SV.out _ bd3
        go_wp2_with fail; refine hK.out _ _ hS ?_; clear hK; (try simp only [Act.put, List.setIfInBounds_toArray, List.set_cons_zero, List.set_cons_succ])
        iterate 2 ((first | (refine TW.val2 (v := ?_) ?_ ?_ ?_ ?_ ?_; rotate_left; (focus rfl); (focus (intro W hSW; (try dsimp only at hSW); (try (obtain ⟨hS1, hSW⟩ := hSW)); (try (obtain ⟨hS2, hSW⟩ := hSW)); (try (obtain ⟨hS3, hSW⟩ := hSW)); (try (obtain ⟨hS4, hSW⟩ := hSW)); (try (obtain ⟨hS5, hSW⟩ := hSW)); (try (obtain ⟨hS6, hSW⟩ := hSW)); (try (obtain ⟨hS7, hSW⟩ := hSW)); (try (obtain ⟨hS8, hSW⟩ := hSW)); go_simp; (try with_reducible rfl); done)); (focus exact fun _ _ _ h => h); (focus assumption)) | (refine TW.skip (e := false) ?_ ?_ ?_ ?_; (focus rfl); (focus exact fun _ _ _ h => h); (focus assumption))); simp only [Act.put, List.setIfInBounds_toArray, List.set_cons_zero, List.set_cons_succ])
        refine TW.eff (by rfl) (fun K hK => ?_); go_simp
        refine (VV.out _).mono ?_
        rintro e w4 ⟨rfl, b4⟩
        have bd4 := bd3.trans (b4.mono (Nat.le_trans hsz bd3.size))
        have hS := SV.out _ bd4
        go_wp2_with fail; refine hK.out _ _ hS ?_; clear hK; (try simp only [Act.put, List.setIfInBounds_toArray, List.set_cons_zero, List.set_cons_succ])
        iterate 2 ((first | (refine TW.val2 (v := ?_) ?_ ?_ ?_ ?_ ?_; rotate_left; (focus rfl); (focus (intro W hSW; (try dsimp only at hSW); (try (obtain ⟨hS1, hSW⟩ := hSW)); (try (obtain ⟨hS2, hSW⟩ := hSW)); (try (obtain ⟨hS3, hSW⟩ := hSW)); (try (obtain ⟨hS4, hSW⟩ := hSW)); (try (obtain ⟨hS5, hSW⟩ := hSW)); (try (obtain ⟨hS6, hSW⟩ := hSW)); (try (obtain ⟨hS7, hSW⟩ := hSW)); (try (obtain ⟨hS8, hSW⟩ := hSW)); go_simp; (try with_reducible rfl); done)); (focus exact fun _ _ _ h => h); (focus assumption)) | (refine TW.skip (e := false) ?_ ?_ ?_ ?_; (focus rfl); (focus exact fun _ _ _ h => h); (focus assumption))); simp only [Act.put, List.setIfInBounds_toArray, List.set_cons_zero, List.set_cons_succ])
        refine TW.done ?_
        have HS9 := Lib.hid (HS.out.trans (bd4.mono (Nat.le_refl _)))
        clear hS bd bd3 bd4 b3 b4
        go_wp2_with fail
        go_roundw
        case rel => exact ⟨k + 1, hlt, by go_num, by rw [HT2.out], HS9.out⟩
        case measure => simp [intOf]; omega
      · have HPE := Lib.hid (HP.out hk0)
        have e0 : st t0 ++ (⟨#[32]⟩ : ByteArray) = st p := by rw [HPE.out]; exact st_app _ [32]
        have q0 : ¬ 9223372036854775807 < (st t0).size + 1 := by omega
        have d4 : decide (0 < k) = true := by simp; omega
        have d4' : decide ((0 : Int) < (k : Int)) = true := by simp; omega
        clear hk0
        go_upto_region 9 with fail
        refine wp_region_text [(0, false), (1, false), (2, false), (3, false), (4, false), (5, false), (6, false), (10, false), (11, false), (12, false), (13, false), (14, false), (7, true), (8, false), (9, false), (15, true), (16, false), (17, false)] (fun V => V.cell? (ad.add (k * 2)) = some (.int .i64 (d : Int)) ∧ V.cell? ⟨(ad.add (k * 2)).block, (ad.add (k * 2)).off + 1, none⟩ = some (.int .u64 (v : Int))) (by kernel_rfl) (by kernel_rfl) (by kernel_rfl) (by kernel_rfl) (by kernel_rfl) (fun dd => ?_)
        simp only [outOf, List.getElem?_cons_zero, List.getElem?_cons_succ, Option.getD_some]
        have hS := SV.out wr.drew ((Below.refl _ _).drew)
        have bd := (Below.refl w.heap.size wr).drew
        have hsz := HS.out.size
        iterate 12 ((first | (refine TW.val2 (v := ?_) ?_ ?_ ?_ ?_ ?_; rotate_left; (focus rfl); (focus (intro W hSW; (try dsimp only at hSW); (try (obtain ⟨hS1, hSW⟩ := hSW)); (try (obtain ⟨hS2, hSW⟩ := hSW)); (try (obtain ⟨hS3, hSW⟩ := hSW)); (try (obtain ⟨hS4, hSW⟩ := hSW)); (try (obtain ⟨hS5, hSW⟩ := hSW)); (try (obtain ⟨hS6, hSW⟩ := hSW)); (try (obtain ⟨hS7, hSW⟩ := hSW)); (try (obtain ⟨hS8, hSW⟩ := hSW)); go_simp; (try with_reducible rfl); done)); (focus exact fun _ _ _ h => h); (focus assumption)) | (refine TW.skip (e := false) ?_ ?_ ?_ ?_; (focus rfl); (focus exact fun _ _ _ h => h); (focus assumption))); simp only [Act.put, List.setIfInBounds_toArray, List.set_cons_zero, List.set_cons_succ])
        refine TW.eff (by rfl) (fun K hK => ?_); go_simp
        refine (DV.out _).mono ?_
        rintro e w3 ⟨rfl, b3⟩
        have bd3 := bd.trans (b3.mono hsz)
        have hS := SV.out _ bd3
        go_wp2_with fail; refine hK.out _ _ hS ?_; clear hK; (try simp only [Act.put, List.setIfInBounds_toArray, List.set_cons_zero, List.set_cons_succ])
        iterate 2 ((first | (refine TW.val2 (v := ?_) ?_ ?_ ?_ ?_ ?_; rotate_left; (focus rfl); (focus (intro W hSW; (try dsimp only at hSW); (try (obtain ⟨hS1, hSW⟩ := hSW)); (try (obtain ⟨hS2, hSW⟩ := hSW)); (try (obtain ⟨hS3, hSW⟩ := hSW)); (try (obtain ⟨hS4, hSW⟩ := hSW)); (try (obtain ⟨hS5, hSW⟩ := hSW)); (try (obtain ⟨hS6, hSW⟩ := hSW)); (try (obtain ⟨hS7, hSW⟩ := hSW)); (try (obtain ⟨hS8, hSW⟩ := hSW)); go_simp; (try with_reducible rfl); done)); (focus exact fun _ _ _ h => h); (focus assumption)) | (refine TW.skip (e := false) ?_ ?_ ?_ ?_; (focus rfl); (focus exact fun _ _ _ h => h); (focus assumption))); simp only [Act.put, List.setIfInBounds_toArray, List.set_cons_zero, List.set_cons_succ])
        refine TW.eff (by rfl) (fun K hK => ?_); go_simp
        refine (VV.out _).mono ?_
        rintro e w4 ⟨rfl, b4⟩
        have bd4 := bd3.trans (b4.mono (Nat.le_trans hsz bd3.size))
        have hS := SV.out _ bd4
        go_wp2_with fail; refine hK.out _ _ hS ?_; clear hK; (try simp only [Act.put, List.setIfInBounds_toArray, List.set_cons_zero, List.set_cons_succ])
        iterate 2 ((first | (refine TW.val2 (v := ?_) ?_ ?_ ?_ ?_ ?_; rotate_left; (focus rfl); (focus (intro W hSW; (try dsimp only at hSW); (try (obtain ⟨hS1, hSW⟩ := hSW)); (try (obtain ⟨hS2, hSW⟩ := hSW)); (try (obtain ⟨hS3, hSW⟩ := hSW)); (try (obtain ⟨hS4, hSW⟩ := hSW)); (try (obtain ⟨hS5, hSW⟩ := hSW)); (try (obtain ⟨hS6, hSW⟩ := hSW)); (try (obtain ⟨hS7, hSW⟩ := hSW)); (try (obtain ⟨hS8, hSW⟩ := hSW)); go_simp; (try with_reducible rfl); done)); (focus exact fun _ _ _ h => h); (focus assumption)) | (refine TW.skip (e := false) ?_ ?_ ?_ ?_; (focus rfl); (focus exact fun _ _ _ h => h); (focus assumption))); simp only [Act.put, List.setIfInBounds_toArray, List.set_cons_zero, List.set_cons_succ])
        refine TW.done ?_
        have HS9 := Lib.hid (HS.out.trans (bd4.mono (Nat.le_refl _)))
        clear hS bd bd3 bd4 b3 b4
        go_wp2_with fail
        go_roundw
        case rel => exact ⟨k + 1, hlt, by go_num, by rw [HT2.out], HS9.out⟩
        case measure => simp [intOf]; omega
    · obtain rfl : k = n := by omega
      have HF2 := Lib.hid (show l.take k = l by rw [List.take_of_length_le (by rw [HLEN.out]; exact Nat.le_refl _)])
      go_wp2_with fail
      go_ret
      exact ⟨by rw [HF2.out]; rfl, HS.out⟩
end Go.Proofs.YtippojkdgecblaaDoor
