/-
  Vectors, the reference: Bytes.
-/
import Derived.Test.YtippojkdgecblaaDoorRvF
import Derived.Test.YtippojkdgecblaaDoorRvN
import Derived.Test.YtippojkdgecblaaDoorVecY
import Derived.Test.YtippojkdgecblaaDoorText
namespace Go.Proofs.YtippojkdgecblaaDoor
open Go.RowKit
set_option maxHeartbeats 2000000 in
theorem rbytes_no (A : Option Addr) (n c : Nat) (l : List (Int × Nat)) (w : World) (hr : CReads w w.heap.size A n l) (hn : n ≤ 9223372036854775807) (ho : okV 0 l = false) :
    Calls Tryd.prog 16 #[.slice A n c] w fun e w' => e = .returned (.tuple #[.slice none 0 0, .int .i64 2]) ∧ Below w.heap.size w w' := by
  have HO := Lib.hid ho
  clear ho
  go_enter Tryd.func16, Tryd.ntmps16
  go_wp2_with fail
  refine (rcheck_v w.heap.size A n c l w hr (Nat.le_refl _) hn).mono ?_
  rw [HO.out]
  rintro e w1 ⟨rfl, hb1⟩
  go_wp2_with fail
  go_ret2
  exact ⟨rfl, hb1⟩
set_option maxRecDepth 100000 in
set_option maxHeartbeats 4000000 in
theorem rbytes_v (A : Option Addr) (n c : Nat) (l : List (Int × Nat)) (w : World) (hr : VR w A n l) (ho : okV 0 l = true) :
    Calls Tryd.prog 16 #[.slice A n c] w fun e w' => ∃ A' n' c', e = .returned (.tuple #[.slice A' n' c', .int .i64 0]) ∧ BReads w' w'.heap.size A' n' (vecB l) ∧ n' ≤ 1000 ∧ n' ≤ c' ∧ Below w.heap.size w w' := by
  have HLEN := Lib.hid hr.r.len
  have HR := Lib.hid hr
  have hn16 : n ≤ 16 := by have := ok_len l 0 ho (by omega); have := hr.r.len; omega
  have HALL := Lib.hid (ok_all l 0 ho)
  have HO := Lib.hid ho
  clear hr ho
  go_enter Tryd.func16, Tryd.ntmps16
  go_wp2_with fail
  refine (rcheck_v w.heap.size A n c l w HR.out.r (Nat.le_refl _) (by omega)).mono ?_
  rw [HO.out]
  rintro e w1 ⟨rfl, hb1⟩
  have B1 := Lib.hid hb1
  clear hb1
  have hn := num_len n
  have hnum := rnum_v w.heap.size none 0 0 [] n w1 (BOwn.nil_ _ _) B1.out.size (by omega) (by omega)
  rw [Nat.zero_add, List.nil_append] at hnum
  go_wp2_with fail
  refine hnum.mono ?_
  clear hnum
  rintro e w2 ⟨A2, c2, rfl, ho2, hg2⟩
  have B2 := Lib.hid (B1.out.grown hg2 B1.out.size (fun k hk => by cases hk))
  have HO2 := Lib.hid ho2
  clear ho2 B1 hg2
  go_wp2_with fail
  go_loopw [4, 5] (fun b i wr => ∃ (k m c' : Nat) (A' : Option Addr), k ≤ n ∧ i = .int .i64 (k : Int) ∧ b = .slice A' m c' ∧ m ≤ 10 + 20 * k ∧ BOwn wr w.heap.size A' m c' (num n ++ ((l.take k).map cntB).flatten) ∧ Below w.heap.size w wr) (fun _ i _ => n - (intOf i).toNat)
  case atStart => exact ⟨0, _, _, _, Nat.zero_le _, rfl, rfl, by omega, by simpa using HO2.out, B2.out⟩
  case round =>
    obtain ⟨k, m, c', A', hk, rfl, rfl, hm, hb, hs⟩ := hrel
    have HB := Lib.hid hb
    have HS := Lib.hid hs
    clear hb hs HO2 B2
    by_cases hlt : k < n
    · obtain ⟨ad, x, rfl, had, hx, hc1, hc2⟩ := CReads.at_ (HR.out.step HS.out).r hlt
      obtain ⟨ad', x', he', had', hx', _, _⟩ := CReads.at_ HR.out.r hlt
      obtain rfl := Option.some.inj he'
      have HX := Lib.hid hx
      have hx1 := HALL.out x (List.mem_of_getElem? hx)
      have hx64 : x.2 < 18446744073709551616 := HR.out.f x (List.mem_of_getElem? hx)
      have k0 : (0 : Int) ≤ (k : Int) := by omega
      have d0 : decide (k < n) = true := by simpa using hlt
      clear hx hx' he' had
      obtain ⟨z, v⟩ := x
      obtain ⟨d, rfl⟩ := Int.eq_ofNat_of_zero_le (show 0 ≤ z by have := hx1.1; simp only at this; omega)
      simp only at hc1 hc2 hx1 hx64
      have hd16 : d ≤ 16 := by omega
      have had2 : (ad.add (k * 2)).block < w.heap.size := by rw [block_of_add]; exact had'
      clear hx1
      go_upto_region 7 with fail
      refine wp_region_text [(0, false), (1, false), (2, false), (3, false), (4, false), (5, false), (6, false), (8, false), (9, false), (10, false), (11, false), (12, false), (7, true), (13, true), (14, false)] (fun V => V.cell? (ad.add (k * 2)) = some (.int .i64 (d : Int)) ∧ V.cell? ⟨(ad.add (k * 2)).block, (ad.add (k * 2)).off + 1, none⟩ = some (.int .u64 (v : Int))) (by kernel_rfl) (by kernel_rfl) (by kernel_rfl) (by kernel_rfl) (by kernel_rfl) (fun dd => ?_)
      simp only [outOf, List.getElem?_cons_zero, List.getElem?_cons_succ, Option.getD_some]
      have hS : wr.drew.cell? (ad.add (k * 2)) = some (.int .i64 (d : Int)) ∧ wr.drew.cell? ⟨(ad.add (k * 2)).block, (ad.add (k * 2)).off + 1, none⟩ = some (.int .u64 (v : Int)) := ⟨hc1, hc2⟩
      have ew : IntKind.u64.wrap (d : Int) = (d : Int) := by rw [IntKind.wrap_u64]; omega
      have HB1 := Lib.hid HB.out.drew
      have HS1 := Lib.hid HS.out.drew
      clear HB HS
      generalize wr.drew = wd at *
      have keep : ∀ (V V' : World) (A : Option Addr) (m q : Nat) (L : List UInt8), BOwn V w.heap.size A m q L → Below w.heap.size w V → V.grownBy V' (Value.slice A m q).ownBlock → (V.cell? (ad.add (k * 2)) = some (.int .i64 (d : Int)) ∧ V.cell? ⟨(ad.add (k * 2)).block, (ad.add (k * 2)).off + 1, none⟩ = some (.int .u64 (v : Int))) → (V'.cell? (ad.add (k * 2)) = some (.int .i64 (d : Int)) ∧ V'.cell? ⟨(ad.add (k * 2)).block, (ad.add (k * 2)).off + 1, none⟩ = some (.int .u64 (v : Int))) := fun V V' A m q L ho hV hg h => by
        have hb : V'.heap[(ad.add (k * 2)).block]? = V.heap[(ad.add (k * 2)).block]? := hg.block _ (Nat.lt_of_lt_of_le had2 hV.size) (fun e => by have := (ho.base_le _ e.symm).1; omega)
        exact ⟨(World.cell?_of_block hb).trans h.1, (World.cell?_of_block (a := ⟨(ad.add (k * 2)).block, (ad.add (k * 2)).off + 1, none⟩) hb).trans h.2⟩
      have KEEP := Lib.hid keep
      clear keep
      iterate 12 ((first | (refine TW.val2 (v := ?_) ?_ ?_ ?_ ?_ ?_; rotate_left; (focus rfl); (focus (intro W hSW; (try dsimp only at hSW); (try (obtain ⟨hS1, hSW⟩ := hSW)); (try (obtain ⟨hS2, hSW⟩ := hSW)); (try (obtain ⟨hS3, hSW⟩ := hSW)); (try (obtain ⟨hS4, hSW⟩ := hSW)); (try (obtain ⟨hS5, hSW⟩ := hSW)); (try (obtain ⟨hS6, hSW⟩ := hSW)); (try (obtain ⟨hS7, hSW⟩ := hSW)); (try (obtain ⟨hS8, hSW⟩ := hSW)); go_simp; (try with_reducible rfl); done)); (focus exact fun _ _ _ h => h); (focus assumption)) | (refine TW.skip (e := false) ?_ ?_ ?_ ?_; (focus rfl); (focus exact fun _ _ _ h => h); (focus assumption))); simp only [Act.put, List.setIfInBounds_toArray, List.set_cons_zero, List.set_cons_succ])
      refine TW.eff (by rfl) (fun K hK => ?_); go_simp
      have hd := num_len d
      have hv := num_len v
      clear ew
      refine (rnum_v w.heap.size A' m c' _ d wd HB1.out HS1.out.size (by omega) (by omega)).mono ?_
      rintro e w3 ⟨A3, c3, rfl, ho3, hg3⟩
      have hS3 := KEEP.out _ _ _ _ _ _ HB1.out HS1.out hg3 hS
      have HS3 := Lib.hid (HS1.out.grown hg3 HS1.out.size (fun j hj => (HB1.out.base_le j hj).1))
      have HB3 := Lib.hid ho3
      clear ho3 hg3 HB1 HS1 hS
      go_wp2_with fail; refine hK.out _ _ hS3 ?_; clear hK; (try simp only [Act.put, List.setIfInBounds_toArray, List.set_cons_zero, List.set_cons_succ])
      refine TW.eff (by rfl) (fun K hK => ?_); go_simp
      refine (rnum_v w.heap.size A3 (m + (num d).length) c3 _ v w3 HB3.out HS3.out.size (by omega) (by omega)).mono ?_
      rintro e w4 ⟨A4, c4, rfl, ho4, hg4⟩
      have hS4 := KEEP.out _ _ _ _ _ _ HB3.out HS3.out hg4 hS3
      have HS4 := Lib.hid (HS3.out.grown hg4 HS3.out.size (fun j hj => (HB3.out.base_le j hj).1))
      have HB4 := Lib.hid ho4
      clear ho4 hg4 HB3 HS3 hS3
      go_wp2_with fail; refine hK.out _ _ hS4 ?_; clear hK; (try simp only [Act.put, List.setIfInBounds_toArray, List.set_cons_zero, List.set_cons_succ])
      iterate 1 ((first | (refine TW.val2 (v := ?_) ?_ ?_ ?_ ?_ ?_; rotate_left; (focus rfl); (focus (intro W hSW; (try dsimp only at hSW); (try (obtain ⟨hS1, hSW⟩ := hSW)); (try (obtain ⟨hS2, hSW⟩ := hSW)); (try (obtain ⟨hS3, hSW⟩ := hSW)); (try (obtain ⟨hS4, hSW⟩ := hSW)); (try (obtain ⟨hS5, hSW⟩ := hSW)); (try (obtain ⟨hS6, hSW⟩ := hSW)); (try (obtain ⟨hS7, hSW⟩ := hSW)); (try (obtain ⟨hS8, hSW⟩ := hSW)); go_simp; (try with_reducible rfl); done)); (focus exact fun _ _ _ h => h); (focus assumption)) | (refine TW.skip (e := false) ?_ ?_ ?_ ?_; (focus rfl); (focus exact fun _ _ _ h => h); (focus assumption))); simp only [Act.put, List.setIfInBounds_toArray, List.set_cons_zero, List.set_cons_succ])
      refine TW.done ?_
      clear hS4
      have HF := Lib.hid (show num n ++ ((l.take (k + 1)).map cntB).flatten = num n ++ ((l.take k).map cntB).flatten ++ num d ++ num v by rw [vecB_take l k _ HX.out, cntB]; simp)
      go_wp2_with fail
      go_roundw
      case rel => exact ⟨k + 1, _, _, _, hlt, by go_num, rfl, by omega, by rw [HF.out]; exact HB4.out, HS4.out⟩
      case measure => simp [intOf]; omega
    · obtain rfl : k = n := by omega
      have HF := Lib.hid (show num k ++ ((l.take k).map cntB).flatten = vecB l by rw [List.take_of_length_le (by rw [HLEN.out]; exact Nat.le_refl _), vecB, HLEN.out])
      go_wp2_with fail
      go_ret2
      exact ⟨A', m, c', rfl, by rw [← HF.out]; exact HB.out.reads, by omega, HB.out.2, HS.out⟩
end Go.Proofs.YtippojkdgecblaaDoor
