/-
  The law's own: highest.
-/
import Derived.Test.YtohcdnbchidjeaaTabRg
namespace Go.Proofs.Ytohcdnbchidjeaa
open Go.RowKit
set_option maxHeartbeats 1000000 in
theorem highest_v (L : List KV) (y0 : KV) (h0 : L[0]? = some y0) (hab : ∀ i y, 1 ≤ i → L[i]? = some y → abv y0.1 y.1 = true) (hsz : ∀ x ∈ L, x.1.size ≤ 140737488355328)
    (B : Nat) (A : Option Addr) (n c : Nat) (w : World) (hr : PReads w B A n (pvs L)) (hB : B ≤ w.heap.size) (hn : n ≤ 1000000) :
    Calls Try.prog 28 #[.slice A n c] w fun e w' => e = .returned (.bool true) ∧ Below w.heap.size w w' := by
  have hn1 : 1 ≤ n := by rw [← hr.len, pvs_len]; have := (List.getElem?_eq_some_iff.1 h0).1; omega
  obtain ⟨ad, hA, hadB, hcell⟩ := hr.2 (by omega)
  subst hA
  have HC0 : Hid (w.cell? ad = some (.string y0.1)) := Lib.hid (by
    obtain ⟨ad', x, hA', _, hx, d0, _, _⟩ := PReads.at_ hr (k := 0) (by omega)
    obtain rfl : ad = ad' := by injection hA'
    obtain ⟨y, hy, rfl⟩ := pvs_at hx
    rw [h0] at hy
    injection hy with hy
    subst hy
    have d0 : w.cell? (ad.add (0 * 3)) = some (.string y0.1) := d0
    simpa [Addr.add] using d0)
  have HR := Lib.hid hr
  have HAB := Lib.hid hab
  have HSZ := Lib.hid hsz
  have hy0 : y0.1.size ≤ 140737488355328 := hsz y0 (List.mem_of_getElem? h0)
  have HRK0 := Lib.hid (fun W => rank_v y0.1 W (by unfold maxLen; omega))
  clear hr hab hsz h0 hcell
  go_enter Try.func28, Try.ntmps28
  go_wp2
  go_loopw [3] (fun i wr => ∃ j : Nat, 1 ≤ j ∧ j ≤ n ∧ i = .int .i64 (j : Int) ∧ Below w.heap.size w wr) (fun i _ => n - (intOf i).toNat)
  case atStart => exact ⟨1, Nat.le_refl _, hn1, rfl, Below.refl _ _⟩
  case round =>
    obtain ⟨j, hj1, hj2, rfl, hb⟩ := hrel
    have HB := Lib.hid hb
    clear hb
    have c0r : wr.cell? ad = some (.string y0.1) := (HB.out.cell (p := ad) (by omega)).trans HC0.out
    by_cases hjl : j < n
    · obtain ⟨ad', x, hA', _, hx, d0, _, _⟩ := PReads.at_ (Reads.below (show Reads w B 3 (some ad) n _ from HR.out) (HB.out.mono hB)) hjl
      obtain rfl : ad = ad' := by injection hA'
      obtain ⟨y, hy, rfl⟩ := pvs_at hx
      have d0' : wr.cell? (ad.add (j * 3)) = some (.string y.1) := d0
      have hys := HSZ.out y (List.mem_of_getElem? hy)
      have HRK := Lib.hid (fun W => rank_v y.1 W (by unfold maxLen; omega))
      have ha := HAB.out j y hj1 hy
      rw [abv_iff] at ha
      have hr1 := rk_lt y.1
      have hr0 := rk_lt y0.1
      have g1 : decide (rk y0.1 < rk y.1) = false := by rcases ha with h | h <;> simp <;> omega
      have g2 : ((rk y0.1 : Int) == (rk y.1 : Int)) = true → Op.bytesLess y0.1.toList y.1.toList = true := fun he => by
        have he := eq_of_beq he
        rcases ha with h | h
        · omega
        · exact h.2
      have hj0 : (0 : Int) ≤ (j : Int) := by omega
      have hj3 : (j : Int) < (n : Int) := by omega
      have hz0 : 0 < n := by omega
      clear hx hy d0 ha hys
      go_wp2_with fail
      refine wp_region_text [(0, false), (1, false), (2, false), (3, false), (5, false), (6, false), (7, false), (8, false), (9, false), (4, true), (10, true), (11, false), (12, false)] (fun V => V.cell? ad = some (.string y0.1) ∧ V.cell? (ad.add (j * 3)) = some (.string y.1)) (by kernel_rfl) (by kernel_rfl) (by kernel_rfl) (by kernel_rfl) (by kernel_rfl) (fun _ => ?_)
      simp only [outOf, List.getElem?_cons_zero, List.getElem?_cons_succ, Option.getD_some]
      have hS : wr.drew.cell? ad = some (.string y0.1) ∧ wr.drew.cell? (ad.add (j * 3)) = some (.string y.1) := ⟨c0r, d0'⟩
      (iterate 9 (refine TW.val2 (v := ?_) ?_ ?_ ?_ ?_ ?_; rotate_left; (focus rfl); (focus (intro W hSW; (try dsimp only at hSW); obtain ⟨hS1, hS2⟩ := hSW; go_simp; (try with_reducible rfl); done)); (focus exact fun _ _ _ h => h); (focus assumption); simp only [Act.put, List.setIfInBounds_toArray, List.set_cons_zero, List.set_cons_succ]))
      refine TW.eff (by rfl) (fun K hK => ?_); go_simp
      refine (HRK0.out _).mono ?_
      rintro e _ ⟨rfl, rfl⟩
      go_wp2_with fail; refine hK.out _ _ hS ?_; clear hK; (try simp only [Act.put, List.setIfInBounds_toArray, List.set_cons_zero, List.set_cons_succ])
      refine TW.eff (by rfl) (fun K hK => ?_); go_simp
      refine (HRK.out _).mono ?_
      rintro e _ ⟨rfl, rfl⟩
      go_wp2_with fail; refine hK.out _ _ hS ?_; clear hK; (try simp only [Act.put, List.setIfInBounds_toArray, List.set_cons_zero, List.set_cons_succ])
      (iterate 2 (refine TW.val2 (v := ?_) ?_ ?_ ?_ ?_ ?_; rotate_left; (focus rfl); (focus (intro W hSW; (try dsimp only at hSW); obtain ⟨hS1, hS2⟩ := hSW; go_simp; (try with_reducible rfl); done)); (focus exact fun _ _ _ h => h); (focus assumption); simp only [Act.put, List.setIfInBounds_toArray, List.set_cons_zero, List.set_cons_succ]))
      refine TW.done ?_
      have HB1 := Lib.hid (HB.out.drew)
      have c1 := hS.1
      have d1 := hS.2
      clear hS c0r d0' HB
      generalize wr.drew = w1 at *
      cases he : ((rk y0.1 : Int) == (rk y.1 : Int))
      · clear g2
        go_wp2
        go_quiet (fail)
        go_wp2
        go_roundw
        case rel => exact ⟨j + 1, by omega, by omega, by go_num, below_drewN HB1.out _⟩
        case measure => simp [intOf]; omega
      · have g2 := g2 he
        go_wp2
        go_quiet (fail)
        go_wp2
        go_roundw
        case rel => exact ⟨j + 1, by omega, by omega, by go_num, below_drewN HB1.out _⟩
        case measure => simp [intOf]; omega
    · obtain rfl : j = n := by omega
      go_wp2
      go_ret
      exact ⟨rfl, HB.out⟩
end Go.Proofs.Ytohcdnbchidjeaa
