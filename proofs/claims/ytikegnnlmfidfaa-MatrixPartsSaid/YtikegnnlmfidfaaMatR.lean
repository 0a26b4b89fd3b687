/-
  Matrices: lists of lists.
-/
import Derived.Test.YtikegnnlmfidfaaMatP
namespace Go.Proofs.Ytikegnnlmfidfaa
open Go.RowKit
structure LRd (w : World) (B : Nat) (A : Option Addr) (n : Nat) (ls : List Il) : Prop where
  row : Reads w B 1 A n (ls.map Il.v)
  each : ∀ l ∈ ls, IReads w B l.a l.n l.ds ∧ l.n ≤ 9223372036854775807
section
variable {w w' : World} {B B' n : Nat} {A : Option Addr} {ls : List Il}
theorem LRd.below (h : LRd w B A n ls) (hb : Below B w w') : LRd w' B A n ls := ⟨h.row.below hb, fun l hl => ⟨Reads.below (h.each l hl).1 hb, (h.each l hl).2⟩⟩
theorem LRd.more (h : LRd w B A n ls) (hB : B ≤ B') : LRd w B' A n ls := ⟨Reads.more h.row hB, fun l hl => ⟨Reads.more (h.each l hl).1 hB, (h.each l hl).2⟩⟩
theorem LRd.len (h : LRd w B A n ls) : ls.length = n := by have h1 := h.row.1; simpa using h1
theorem LRd.at_ {k : Nat} (h : LRd w B A n ls) (hk : k < n) :
    ∃ ad a m c ds, A = some ad ∧ ls[k]? = some ⟨a, m, c, ds⟩ ∧ (IReads w B a m ds ∧ m ≤ 9223372036854775807) ∧ ∀ W, Below B w W → W.cell? (ad.add k) = some (.slice a m c) := by
  obtain ⟨ad, u, e, hb, hu, hc⟩ := Reads.at_ h.row hk
  rw [List.getElem?_map] at hu
  cases hl : ls[k]? with
  | none => rw [hl] at hu; cases hu
  | some x =>
    rw [hl] at hu
    injection hu with hu
    subst hu
    obtain ⟨a, m, c, ds⟩ := x
    exact ⟨ad, a, m, c, ds, e, rfl, h.each _ (List.mem_of_getElem? hl), fun W hW => (hW.cell (by rw [block_of_add]; exact hb)).trans hc⟩
end
theorem OwnL.reads {w : World} {base n c : Nat} {A : Option Addr} {ls : List Il} (h : OwnL w base A n c ls) (hl : ∀ l ∈ ls, l.n ≤ 9223372036854775807) : LRd w w.heap.size A n ls := ⟨Reads.of_own h.row, fun l hm => ⟨(h.each l hm).reads, hl l hm⟩⟩
set_option maxRecDepth 100000 in
set_option maxHeartbeats 4000000 in
theorem lists_v (A A' : Option Addr) (n c n' c' B : Nat) (ls ls' : List Il) (w : World) (hr : LRd w B A n ls) (hr' : LRd w B A' n' ls') (hB : B ≤ w.heap.size) (hn : n ≤ 9223372036854775807) (hn' : n' ≤ 9223372036854775807) :
    Calls Try.prog 11 #[.slice A n c, .slice A' n' c'] w fun e w' => e = .returned (.bool (decide (ls.map Il.ds = ls'.map Il.ds))) ∧ Below w.heap.size w w' := by
  have HR := Lib.hid hr
  have HR' := Lib.hid hr'
  have HL := Lib.hid hr.len
  have HL' := Lib.hid hr'.len
  clear hr hr'
  go_enter Try.func11, Try.ntmps11
  by_cases hnn : n = n'
  case neg =>
    have d1 : ((n : Int) != (n' : Int)) = true := by simp; omega
    have HE := Lib.hid (show decide (ls.map Il.ds = ls'.map Il.ds) = false from decide_eq_false fun e => hnn (by
      have h1 := congrArg List.length e
      rwa [List.length_map, List.length_map, HL.out, HL'.out] at h1))
    clear hnn
    go_wp2_with fail
    go_ret
    exact ⟨by rw [HE.out]; rfl, Below.refl _ _⟩
  subst hnn
  go_wp2_with fail
  go_loopw [5] (fun i wr => ∃ k : Nat, k ≤ n ∧ i = .int .i64 (k : Int) ∧ (ls.map Il.ds).take k = (ls'.map Il.ds).take k ∧ Below w.heap.size w wr) (fun i _ => n - (intOf i).toNat)
  case atStart => exact ⟨0, Nat.zero_le _, rfl, by simp, Below.refl _ _⟩
  case round =>
    obtain ⟨k, hk, rfl, ht, hb⟩ := hrel
    have HT := Lib.hid ht
    have HB := Lib.hid hb
    clear ht hb
    by_cases hlt : k < n
    · obtain ⟨ad, a, m, q, ds, rfl, hx, ⟨hri, hm⟩, hc⟩ := HR.out.at_ hlt
      obtain ⟨ad', a', m', q', ds', rfl, hx', ⟨hri', hm'⟩, hc'⟩ := HR'.out.at_ hlt
      have HX := Lib.hid (show (ls.map Il.ds)[k]? = some ds by rw [List.getElem?_map, hx]; rfl)
      have HX' := Lib.hid (show (ls'.map Il.ds)[k]? = some ds' by rw [List.getElem?_map, hx']; rfl)
      have HRI := Lib.hid hri
      have HRI' := Lib.hid hri'
      have k0 : (0 : Int) ≤ (k : Int) := by omega
      have hS : wr.drew.cell? (ad.add k) = some (.slice a m q) ∧ wr.drew.cell? (ad'.add k) = some (.slice a' m' q') := ⟨hc wr (HB.out.mono hB), hc' wr (HB.out.mono hB)⟩
      have HB1 := Lib.hid HB.out.drew
      clear hx hx' hc hc' hri hri'
      go_upto_region 6 with fail
      refine wp_region_text [(0, false), (1, false), (2, false), (3, false), (4, false), (5, false), (6, false), (7, false), (8, true), (9, false)] (fun V => V.cell? (ad.add k) = some (.slice a m q) ∧ V.cell? (ad'.add k) = some (.slice a' m' q')) (by kernel_rfl) (by kernel_rfl) (by kernel_rfl) (by kernel_rfl) (by kernel_rfl) (fun d => ?_)
      simp only [outOf, List.getElem?_cons_zero, List.getElem?_cons_succ, Option.getD_some]
      clear HB
      generalize wr.drew = w1 at *
      iterate 8 ((first | (refine TW.val2 (v := ?_) ?_ ?_ ?_ ?_ ?_; rotate_left; (focus rfl); (focus (intro W hSW; (try dsimp only at hSW); (try (obtain ⟨hS1, hSW⟩ := hSW)); (try (obtain ⟨hS2, hSW⟩ := hSW)); (try (obtain ⟨hS3, hSW⟩ := hSW)); (try (obtain ⟨hS4, hSW⟩ := hSW)); (try (obtain ⟨hS5, hSW⟩ := hSW)); (try (obtain ⟨hS6, hSW⟩ := hSW)); (try (obtain ⟨hS7, hSW⟩ := hSW)); (try (obtain ⟨hS8, hSW⟩ := hSW)); go_simp; (try with_reducible rfl); done)); (focus exact fun _ _ _ h => h); (focus assumption)) | (refine TW.skip (e := false) ?_ ?_ ?_ ?_; (focus rfl); (focus exact fun _ _ _ h => h); (focus assumption))); simp only [Act.put, List.setIfInBounds_toArray, List.set_cons_zero, List.set_cons_succ])
      refine TW.eff (by rfl) (fun K hK => ?_); go_simp
      refine (ints_v a a' m q m' q' B ds ds' w1 (Reads.below HRI.out (HB1.out.mono hB)) (Reads.below HRI'.out (HB1.out.mono hB)) hm hm').mono ?_
      rintro e w2 ⟨rfl, b5⟩
      have HB2 := Lib.hid (HB1.out.trans (b5.mono HB1.out.size))
      have hS2 := (⟨keepc b5 hS.1, keepc b5 hS.2⟩ : w2.cell? (ad.add k) = some (.slice a m q) ∧ w2.cell? (ad'.add k) = some (.slice a' m' q'))
      clear hS b5 HB1
      go_wp2_with fail; refine hK.out _ _ hS2 ?_; clear hK; (try simp only [Act.put, List.setIfInBounds_toArray, List.set_cons_zero, List.set_cons_succ])
      iterate 1 ((first | (refine TW.val2 (v := ?_) ?_ ?_ ?_ ?_ ?_; rotate_left; (focus rfl); (focus (intro W hSW; (try dsimp only at hSW); (try (obtain ⟨hS1, hSW⟩ := hSW)); (try (obtain ⟨hS2, hSW⟩ := hSW)); (try (obtain ⟨hS3, hSW⟩ := hSW)); (try (obtain ⟨hS4, hSW⟩ := hSW)); (try (obtain ⟨hS5, hSW⟩ := hSW)); (try (obtain ⟨hS6, hSW⟩ := hSW)); (try (obtain ⟨hS7, hSW⟩ := hSW)); (try (obtain ⟨hS8, hSW⟩ := hSW)); go_simp; (try with_reducible rfl); done)); (focus exact fun _ _ _ h => h); (focus assumption)) | (refine TW.skip (e := false) ?_ ?_ ?_ ?_; (focus rfl); (focus exact fun _ _ _ h => h); (focus assumption))); simp only [Act.put, List.setIfInBounds_toArray, List.set_cons_zero, List.set_cons_succ])
      refine TW.done ?_
      clear hS2
      by_cases hd : ds = ds'
      · have d1 : decide (ds = ds') = true := decide_eq_true hd
        have HN := Lib.hid (show (ls.map Il.ds).take (k + 1) = (ls'.map Il.ds).take (k + 1) by rw [List.take_add_one, List.take_add_one, HT.out, HX.out, HX'.out, hd])
        clear hd
        rw [d1]
        go_wp2_with fail
        go_roundw
        case rel => exact ⟨k + 1, hlt, by go_num, HN.out, HB2.out⟩
        case measure => simp [intOf]; omega
      · have d1 : decide (ds = ds') = false := decide_eq_false hd
        have HN := Lib.hid (show decide (ls.map Il.ds = ls'.map Il.ds) = false from decide_eq_false fun e => by
          have h1 := HX.out
          rw [e, HX'.out] at h1
          exact hd (Option.some.inj h1).symm)
        clear hd
        rw [d1]
        go_wp2_with fail
        go_ret
        exact ⟨by rw [HN.out]; rfl, HB2.out⟩
    · obtain rfl : k = n := by omega
      have HN := Lib.hid (show decide (ls.map Il.ds = ls'.map Il.ds) = true from decide_eq_true (by
        have h1 := HT.out
        rwa [List.take_of_length_le (by rw [List.length_map, HL.out]; exact Nat.le_refl _), List.take_of_length_le (by rw [List.length_map, HL'.out]; exact Nat.le_refl _)] at h1))
      go_wp2_with fail
      go_ret
      exact ⟨by rw [HN.out]; rfl, HB.out⟩
end Go.Proofs.Ytikegnnlmfidfaa
