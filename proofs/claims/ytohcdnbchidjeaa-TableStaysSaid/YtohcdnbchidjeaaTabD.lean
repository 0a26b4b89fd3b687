/-
  Tables in memory: Changes: the walk of its inner function.
-/
import Derived.Test.YtohcdnbchidjeaaTabC
namespace Go.Proofs.Ytohcdnbchidjeaa
open Go.RowKit
theorem skip_split (k : ByteArray) : ∀ (dn rest : List KV), (∀ x ∈ dn, klt x.1 k = true) → (∀ x l, rest = x :: l → klt x.1 k = false) → chgSkip k (dn ++ rest) = rest ∧ chgGone k (dn ++ rest) = dn
  | [], [], _, _ => ⟨rfl, rfl⟩
  | [], x :: l, _, h => by
    have := h x l rfl
    unfold chgSkip chgGone
    rw [List.nil_append, List.dropWhile_cons_of_neg (by simp [this]), List.takeWhile_cons_of_neg (by simp [this])]
    exact ⟨rfl, rfl⟩
  | y :: dn, rest, h, h' => by
    have hy := h y List.mem_cons_self
    obtain ⟨e1, e2⟩ := skip_split k dn rest (fun x hx => h x (List.mem_cons_of_mem _ hx)) h'
    unfold chgSkip chgGone at *
    rw [List.cons_append, List.dropWhile_cons_of_pos (by simpa using hy), List.takeWhile_cons_of_pos (by simpa using hy), e1, e2]
    exact ⟨rfl, rfl⟩
theorem step_nil (k v : ByteArray) (s : List KV × List P3) (dn : List KV) (hs : s.1 = dn ++ []) (hd : ∀ x ∈ dn, klt x.1 k = true) : chgStep s (k, v) = ([], (s.2 ++ dn.map gonep) ++ [pv (k, v)]) := by
  obtain ⟨e1, e2⟩ := skip_split k dn [] hd (fun x l h => by cases h)
  rw [chgStep, hs]
  simp only [e1, e2]
theorem step_other (k v : ByteArray) (s : List KV × List P3) (dn l : List KV) (x : KV) (hs : s.1 = dn ++ x :: l) (hd : ∀ x ∈ dn, klt x.1 k = true) (hx : klt x.1 k = false) (he : kbeq x.1 k = false) : chgStep s (k, v) = (x :: l, (s.2 ++ dn.map gonep) ++ [pv (k, v)]) := by
  obtain ⟨e1, e2⟩ := skip_split k dn (x :: l) hd (fun y m h => by injection h with h _; rw [← h]; exact hx)
  rw [chgStep, hs]
  simp only [e1, e2, he]
  rfl
theorem step_same (k v : ByteArray) (s : List KV × List P3) (dn l : List KV) (x : KV) (hs : s.1 = dn ++ x :: l) (hd : ∀ x ∈ dn, klt x.1 k = true) (hx : klt x.1 k = false) (he : kbeq x.1 k = true) (hv : kbeq x.2 v = true) : chgStep s (k, v) = (l, s.2 ++ dn.map gonep) := by
  obtain ⟨e1, e2⟩ := skip_split k dn (x :: l) hd (fun y m h => by injection h with h _; rw [← h]; exact hx)
  rw [chgStep, hs]
  simp only [e1, e2, he, hv, if_true, List.append_nil]
theorem step_new (k v : ByteArray) (s : List KV × List P3) (dn l : List KV) (x : KV) (hs : s.1 = dn ++ x :: l) (hd : ∀ x ∈ dn, klt x.1 k = true) (hx : klt x.1 k = false) (he : kbeq x.1 k = true) (hv : kbeq x.2 v = false) : chgStep s (k, v) = (l, (s.2 ++ dn.map gonep) ++ [pv (k, v)]) := by
  obtain ⟨e1, e2⟩ := skip_split k dn (x :: l) hd (fun y m h => by injection h with h _; rw [← h]; exact hx)
  rw [chgStep, hs]
  simp only [e1, e2, he, hv, if_true, Bool.false_eq_true, if_false]
def ChgPost (W0 : World) (N g1 g2 base m : Nat) (s : List KV × List P3) (e : Ending) (W' : World) : Prop := e = .returned (.bool true) ∧ ChgC W0 N g1 g2 base s.1 s.2 W' ∧ s.2.length + s.1.length + m ≤ 1000000
set_option maxHeartbeats 4000000 in
theorem changes1_v (W0 : World) (N g1 g2 base : Nat) (hN1 : N ≤ g1) (hN2 : N ≤ g2) (h1 : g1 < base) (h2 : g2 < base) (hne : g1 ≠ g2) (m : Nat) (s : List KV × List P3) (W : World) (b : Nat) (k v : ByteArray)
    (hI : ChgC W0 N g1 g2 base s.1 s.2 W) (hlen : s.2.length + s.1.length + (m + 1) ≤ 1000000) (h0 : W.cell? ⟨b, 0, none⟩ = some (.string k)) (hv : W.cell? ⟨b, 1, none⟩ = some (.string v)) (hb : b < N) :
    Calls Try.prog 46 #[.pointer (some ⟨b, 0, none⟩), .pointer (some ⟨g1, 0, none⟩), .pointer (some ⟨g2, 0, none⟩)] W (ChgPost W0 N g1 g2 base m (chgStep s (k, v))) := by
  have K0 := Lib.hid (show W0.cell? ⟨b, 0, none⟩ = some (.string k) from (hI.1.cell (p := ⟨b, 0, none⟩) hb).symm.trans h0)
  have K1 := Lib.hid (show W0.cell? ⟨b, 1, none⟩ = some (.string v) from (hI.1.cell (p := ⟨b, 1, none⟩) hb).symm.trans hv)
  have HI := Lib.hid hI
  have HLEN := Lib.hid hlen
  clear hI hlen h0 hv
  go_enter Try.func46, Try.ntmps46
  go_wp2
  go_loopg [6] (s.1.length) (fun gm x6 wr => ∃ dn rest : List KV, s.1 = dn ++ rest ∧ (∀ x ∈ dn, klt x.1 k = true) ∧ ChgC W0 N g1 g2 base rest (s.2 ++ dn.map gonep) wr ∧ rest.length ≤ gm)
  case atStart => exact ⟨[], s.1, rfl, fun x hx => by simp at hx, by simpa using HI.out, Nat.le_refl _⟩
  case round =>
    obtain ⟨dn, rest, hs, hd, hc, hm⟩ := hrel
    have HS := Lib.hid hs
    have HD := Lib.hid hd
    have HC := Lib.hid hc
    have HM := Lib.hid hm
    have HOL : Hid ((s.2 ++ dn.map gonep).length + rest.length + (m + 1) ≤ 1000000) := Lib.hid (by have := HLEN.out; rw [hs] at this; simp only [List.length_append, List.length_map] at *; omega)
    clear hs hd hc hm
    obtain ⟨A1, c1, k1, k2, k3, k4⟩ := HC.out.2.2.2.2.1
    have e0 : wr.cell? ⟨b, 0, none⟩ = some (.string k) := (HC.out.1.cell (p := ⟨b, 0, none⟩) hb).trans K0.out
    have HR3 := Lib.hid k3
    have HF1 := Lib.hid k2
    clear k2 k3
    cases rest with
    | nil =>
      have HST := Lib.hid (step_nil k v s dn HS.out HD.out)
      have k1' : wr.cell? ⟨g1, 0, none⟩ = some (.slice A1 0 c1) := k1
      clear k1 HR3 HF1
      go_wp2
      go_quiet (fail)
      have HCa := Lib.hid (HC.out.drewN nq)
      have k1a : (wr.drewN nq).cell? ⟨g1, 0, none⟩ = some (.slice A1 0 c1) := k1'
      clear HC k1' e0
      generalize wr.drewN nq = wa at *
      go_wp2
      go_quiet (fail)
      have HC9 := Lib.hid (HCa.out.drewN nq)
      clear HCa k1a
      generalize wa.drewN nq = W9 at *
      obtain ⟨A2, c2, z1, z2, z3⟩ := HC9.out.2.2.2.2.2
      have e0 : W9.cell? ⟨b, 0, none⟩ = some (.string k) := (HC9.out.1.cell (p := ⟨b, 0, none⟩) hb).trans K0.out
      have e1 : W9.cell? ⟨b, 1, none⟩ = some (.string v) := (HC9.out.1.cell (p := ⟨b, 1, none⟩) hb).trans K1.out
      have hs9 : base ≤ W9.heap.size := HC9.out.2.1
      have FA := Lib.hid (show (W9.alloc (.cells #[.string k, .string v, .bool false] 39)).drew.cell? ⟨b, 0, none⟩ = some (.string k) ∧ (W9.alloc (.cells #[.string k, .string v, .bool false] 39)).drew.cell? ⟨b, 1, none⟩ = some (.string v) from ⟨(World.cell?_alloc_lt W9 _ _ (show b < W9.heap.size by omega)).trans e0, (World.cell?_alloc_lt W9 _ _ (show b < W9.heap.size by omega)).trans e1⟩)
      have GA := Lib.hid (show (W9.alloc (.cells #[.string k, .string v, .bool false] 39)).drew.cell? ⟨g2, 0, none⟩ = _ from (World.cell?_alloc_lt W9 _ ⟨g2, 0, none⟩ (show g2 < W9.heap.size by omega)).trans z1)
      have FRA := Lib.hid (show (W9.alloc (.cells #[.string k, .string v, .bool false] 39)).drew.frozen? ⟨g2, 0, none⟩ = false from (World.frozen?_alloc_past _ _ _ (show g2 < W9.heap.size by omega)).trans z2)
      have OA := Lib.hid (show POwn (W9.alloc (.cells #[.string k, .string v, .bool false] 39)).drew base A2 _ c2 _ from (z3.alloc _).drew)
      have Z1 := Lib.hid z1
      have Z3 := Lib.hid z3
      have RA := Lib.hid (show PReads (W9.alloc (.cells #[.string k, .string v, .bool false] 39)).drew (W9.heap.size + 1) (some ⟨W9.heap.size, 0, none⟩) 1 [pv (k, v)] from PReads.one W9 (pv (k, v)) _)
      have SA := Lib.hid (show base ≤ (W9.alloc (.cells #[.string k, .string v, .bool false] 39)).drew.heap.size by simp; omega)
      have NA := Lib.hid (show (s.2 ++ dn.map gonep).length + 1 ≤ 3000000000000 by have := HOL.out; omega)
      clear z2 z3
      generalize s.2 ++ dn.map gonep = out9 at *
      go_wp2_with fail
      refine wp_region_E 11 [(0, 2), (1, 1), (2, 1), (3, 1), (4, 1), (5, 1), (6, 1), (7, 1), (8, 1), (9, 1), (10, 0), (11, 4), (12, 4)] (fun V => V.cell? ⟨b, 0, none⟩ = some (.string k) ∧ V.cell? ⟨b, 1, none⟩ = some (.string v)) (fun V => V.cell? ⟨g2, 0, none⟩ = some (.slice A2 out9.length c2)) (by kernel_rfl) (by kernel_rfl) (by kernel_rfl) (by kernel_rfl) (by kernel_rfl) (fun _ => ?_)
      simp only [outE, List.getElem?_cons_zero, List.getElem?_cons_succ, Option.getD_some]
      have hF : W9.drew.cell? ⟨b, 0, none⟩ = some (.string k) ∧ W9.drew.cell? ⟨b, 1, none⟩ = some (.string v) := ⟨e0, e1⟩
      have hG : W9.drew.cell? ⟨g2, 0, none⟩ = some (.slice A2 out9.length c2) := z1
      clear e0 e1 z1
      iterate 1 (refine TE.val2 (v := ?_) ?_ ?_ ?_ ?_ ?_ ?_; rotate_left; (focus rfl); (focus (intro W hSW; (try dsimp only at hSW); (try (obtain ⟨hS1, hSW⟩ := hSW)); (try (obtain ⟨hS2, hSW⟩ := hSW)); (try (obtain ⟨hS3, hSW⟩ := hSW)); (try (obtain ⟨hS4, hSW⟩ := hSW)); (try (obtain ⟨hS5, hSW⟩ := hSW)); go_simp; (try with_reducible rfl); done)); (focus exact fun _ _ _ h => h); (focus exact hF); (focus exact hG); simp only [Act.put, List.setIfInBounds_toArray, List.set_cons_zero, List.set_cons_succ])
      iterate 9 (refine TE.val1 (v := ?_) ?_ ?_ ?_ ?_ ?_ ?_; rotate_left; (focus rfl); (focus (intro W hSW; (try dsimp only at hSW); (try (obtain ⟨hS1, hSW⟩ := hSW)); (try (obtain ⟨hS2, hSW⟩ := hSW)); (try (obtain ⟨hS3, hSW⟩ := hSW)); (try (obtain ⟨hS4, hSW⟩ := hSW)); (try (obtain ⟨hS5, hSW⟩ := hSW)); go_simp; (try with_reducible rfl); done)); (focus exact fun _ _ _ h => h); (focus exact hF); (focus exact hG); simp only [Act.put, List.setIfInBounds_toArray, List.set_cons_zero, List.set_cons_succ])
      refine TE.eff0 (by rfl) (fun K hK => ?_); go_simp
      (try (go_wp2_with fail)); refine hK.out _ _ FA.out GA.out ?_; clear hK; (try simp only [Act.put, List.setIfInBounds_toArray, List.set_cons_zero, List.set_cons_succ])
      refine TE.eff4 (by rfl) (fun K hK => ?_)
      refine wp_papp (.tmp 56) (.tmp 66) rfl base A2 out9.length c2 out9 rfl OA.out (W9.heap.size + 1) (some ⟨W9.heap.size, 0, none⟩) 1 1 [pv (k, v)] rfl RA.out NA.out SA.out ?_
      intro A3 c3 w3 ho3 hg3
      have hsA : W9.heap.size ≤ (W9.alloc (.cells #[.string k, .string v, .bool false] 39)).drew.heap.size := by simp
      have F2 : w3.cell? ⟨b, 0, none⟩ = some (.string k) ∧ w3.cell? ⟨b, 1, none⟩ = some (.string v) := ⟨gb_cell hg3 OA.out FA.out.1 (by omega) (by omega), gb_cell hg3 OA.out FA.out.2 (by omega) (by omega)⟩
      have kc := gb_cell hg3 OA.out GA.out (by omega) (by omega)
      have kf := gb_frozen hg3 OA.out FRA.out (by omega) (by omega)
      have HP := Lib.hid (HC9.out.push (x := pv (k, v)) hN2 h1 h2 (Ne.symm hne) Z1.out Z3.out ho3 hg3)
      clear ho3 hg3
      refine hK.out _ _ F2 ?_
      clear hK
      simp only [Act.put, List.setIfInBounds_toArray, List.set_cons_zero, List.set_cons_succ]
      refine TE.eff4 (by rfl) (fun K hK => ?_); go_simp
      refine hK.out _ _ ⟨(World.cell?_setCell_far w3 _ _ _ (show g2 ≠ b by omega)).trans F2.1, (World.cell?_setCell_far w3 _ _ _ (show g2 ≠ b by omega)).trans F2.2⟩ ?_
      clear hK
      refine TE.done ?_
      clear kc kf F2 FA GA FRA OA RA SA NA Z1 Z3 hF hG hsA
      go_wp2
      go_ret
      rw [ChgPost, HST.out]
      exact ⟨rfl, HP.out, by have := HOL.out; simp only [List.length_append, List.length_nil, List.length_cons] at *; omega⟩
    | cons x l =>
      have hr := PReads.at_ HR3.out (k := 0) (by simp)
      obtain ⟨ad, y, hA, hadb, hy, c0, cv, _⟩ := hr
      subst hA
      obtain rfl : y = pv x := by simpa [pvs] using hy.symm
      rw [Nat.zero_mul, add_zero] at c0 cv
      have c0' : wr.cell? ad = some (.string x.1) := c0
      have cv' : wr.cell? ⟨ad.block, ad.off + 1, none⟩ = some (.string x.2) := cv
      have hadn : ad.block ≠ g2 := by
        intro e
        have := HC.out.2.2.2.1 (ad.off + 1) (by omega)
        rw [← e, cv] at this
        cases this
      clear c0 cv hy
      have HN : Hid ((x :: l).length = l.length + 1) := Lib.hid rfl
      generalize hn1 : (x :: l).length = n1 at *
      have hn0 : 0 < n1 := by rw [← hn1]; simp
      have hn0' : (0 : Int) < (n1 : Int) := by omega
      have HKC := Lib.hid k4
      have hk4 : n1 ≤ c1 := by omega
      have HN1 := Lib.hid hn1
      clear k4 hn1
      cases hk : klt x.1 k
      · have d1 : Op.bytesLess x.1.toList k.toList = false := hk
        go_wp2
        go_quiet (fail)
        have HCa := Lib.hid (HC.out.drewN nq)
        have k1a : (wr.drewN nq).cell? ⟨g1, 0, none⟩ = some (.slice (some ad) n1 c1) := k1
        have c0a : (wr.drewN nq).cell? ad = some (.string x.1) := c0'
        have cva : (wr.drewN nq).cell? ⟨ad.block, ad.off + 1, none⟩ = some (.string x.2) := cv'
        have e0a : (wr.drewN nq).cell? ⟨b, 0, none⟩ = some (.string k) := e0
        have HRa := Lib.hid (HR3.out.drewN nq)
        have HFa : Hid ((wr.drewN nq).frozen? ⟨g1, 0, none⟩ = false) := HF1
        have e1a := (HCa.out.1.cell (p := ⟨b, 1, none⟩) hb).trans K1.out
        clear HC k1 c0' cv' e0 HR3 HF1
        generalize wr.drewN nq = wa at *
        cases he : kbeq x.1 k
        · have HST := Lib.hid (step_other k v s dn l x HS.out HD.out hk he)
          have d2 : (x.1.toList == k.toList) = false := he
          go_wp2
          go_quiet (fail)
          have HC9 := Lib.hid (HCa.out.drewN nq)
          clear HCa k1a c0a cva e0a e1a HRa HFa hn0 hn0'
          generalize wa.drewN nq = W9 at *
          obtain ⟨A2, c2, z1, z2, z3⟩ := HC9.out.2.2.2.2.2
          have e0 : W9.cell? ⟨b, 0, none⟩ = some (.string k) := (HC9.out.1.cell (p := ⟨b, 0, none⟩) hb).trans K0.out
          have e1 : W9.cell? ⟨b, 1, none⟩ = some (.string v) := (HC9.out.1.cell (p := ⟨b, 1, none⟩) hb).trans K1.out
          have hs9 : base ≤ W9.heap.size := HC9.out.2.1
          have FA := Lib.hid (show (W9.alloc (.cells #[.string k, .string v, .bool false] 39)).drew.cell? ⟨b, 0, none⟩ = some (.string k) ∧ (W9.alloc (.cells #[.string k, .string v, .bool false] 39)).drew.cell? ⟨b, 1, none⟩ = some (.string v) from ⟨(World.cell?_alloc_lt W9 _ _ (show b < W9.heap.size by omega)).trans e0, (World.cell?_alloc_lt W9 _ _ (show b < W9.heap.size by omega)).trans e1⟩)
          have GA := Lib.hid (show (W9.alloc (.cells #[.string k, .string v, .bool false] 39)).drew.cell? ⟨g2, 0, none⟩ = _ from (World.cell?_alloc_lt W9 _ ⟨g2, 0, none⟩ (show g2 < W9.heap.size by omega)).trans z1)
          have FRA := Lib.hid (show (W9.alloc (.cells #[.string k, .string v, .bool false] 39)).drew.frozen? ⟨g2, 0, none⟩ = false from (World.frozen?_alloc_past _ _ _ (show g2 < W9.heap.size by omega)).trans z2)
          have OA := Lib.hid (show POwn (W9.alloc (.cells #[.string k, .string v, .bool false] 39)).drew base A2 _ c2 _ from (z3.alloc _).drew)
          have Z1 := Lib.hid z1
          have Z3 := Lib.hid z3
          have RA := Lib.hid (show PReads (W9.alloc (.cells #[.string k, .string v, .bool false] 39)).drew (W9.heap.size + 1) (some ⟨W9.heap.size, 0, none⟩) 1 [pv (k, v)] from PReads.one W9 (pv (k, v)) _)
          have SA := Lib.hid (show base ≤ (W9.alloc (.cells #[.string k, .string v, .bool false] 39)).drew.heap.size by simp; omega)
          have NA := Lib.hid (show (s.2 ++ dn.map gonep).length + 1 ≤ 3000000000000 by have := HOL.out; omega)
          clear z2 z3
          generalize s.2 ++ dn.map gonep = out9 at *
          go_wp2_with fail
          refine wp_region_E 11 [(0, 2), (1, 1), (2, 1), (3, 1), (4, 1), (5, 1), (6, 1), (7, 1), (8, 1), (9, 1), (10, 0), (11, 4), (12, 4)] (fun V => V.cell? ⟨b, 0, none⟩ = some (.string k) ∧ V.cell? ⟨b, 1, none⟩ = some (.string v)) (fun V => V.cell? ⟨g2, 0, none⟩ = some (.slice A2 out9.length c2)) (by kernel_rfl) (by kernel_rfl) (by kernel_rfl) (by kernel_rfl) (by kernel_rfl) (fun _ => ?_)
          simp only [outE, List.getElem?_cons_zero, List.getElem?_cons_succ, Option.getD_some]
          have hF : W9.drew.cell? ⟨b, 0, none⟩ = some (.string k) ∧ W9.drew.cell? ⟨b, 1, none⟩ = some (.string v) := ⟨e0, e1⟩
          have hG : W9.drew.cell? ⟨g2, 0, none⟩ = some (.slice A2 out9.length c2) := z1
          clear e0 e1 z1
          iterate 1 (refine TE.val2 (v := ?_) ?_ ?_ ?_ ?_ ?_ ?_; rotate_left; (focus rfl); (focus (intro W hSW; (try dsimp only at hSW); (try (obtain ⟨hS1, hSW⟩ := hSW)); (try (obtain ⟨hS2, hSW⟩ := hSW)); (try (obtain ⟨hS3, hSW⟩ := hSW)); (try (obtain ⟨hS4, hSW⟩ := hSW)); (try (obtain ⟨hS5, hSW⟩ := hSW)); go_simp; (try with_reducible rfl); done)); (focus exact fun _ _ _ h => h); (focus exact hF); (focus exact hG); simp only [Act.put, List.setIfInBounds_toArray, List.set_cons_zero, List.set_cons_succ])
          iterate 9 (refine TE.val1 (v := ?_) ?_ ?_ ?_ ?_ ?_ ?_; rotate_left; (focus rfl); (focus (intro W hSW; (try dsimp only at hSW); (try (obtain ⟨hS1, hSW⟩ := hSW)); (try (obtain ⟨hS2, hSW⟩ := hSW)); (try (obtain ⟨hS3, hSW⟩ := hSW)); (try (obtain ⟨hS4, hSW⟩ := hSW)); (try (obtain ⟨hS5, hSW⟩ := hSW)); go_simp; (try with_reducible rfl); done)); (focus exact fun _ _ _ h => h); (focus exact hF); (focus exact hG); simp only [Act.put, List.setIfInBounds_toArray, List.set_cons_zero, List.set_cons_succ])
          refine TE.eff0 (by rfl) (fun K hK => ?_); go_simp
          (try (go_wp2_with fail)); refine hK.out _ _ FA.out GA.out ?_; clear hK; (try simp only [Act.put, List.setIfInBounds_toArray, List.set_cons_zero, List.set_cons_succ])
          refine TE.eff4 (by rfl) (fun K hK => ?_)
          refine wp_papp (.tmp 56) (.tmp 66) rfl base A2 out9.length c2 out9 rfl OA.out (W9.heap.size + 1) (some ⟨W9.heap.size, 0, none⟩) 1 1 [pv (k, v)] rfl RA.out NA.out SA.out ?_
          intro A3 c3 w3 ho3 hg3
          have hsA : W9.heap.size ≤ (W9.alloc (.cells #[.string k, .string v, .bool false] 39)).drew.heap.size := by simp
          have F2 : w3.cell? ⟨b, 0, none⟩ = some (.string k) ∧ w3.cell? ⟨b, 1, none⟩ = some (.string v) := ⟨gb_cell hg3 OA.out FA.out.1 (by omega) (by omega), gb_cell hg3 OA.out FA.out.2 (by omega) (by omega)⟩
          have kc := gb_cell hg3 OA.out GA.out (by omega) (by omega)
          have kf := gb_frozen hg3 OA.out FRA.out (by omega) (by omega)
          have HP := Lib.hid (HC9.out.push (x := pv (k, v)) hN2 h1 h2 (Ne.symm hne) Z1.out Z3.out ho3 hg3)
          clear ho3 hg3
          refine hK.out _ _ F2 ?_
          clear hK
          simp only [Act.put, List.setIfInBounds_toArray, List.set_cons_zero, List.set_cons_succ]
          refine TE.eff4 (by rfl) (fun K hK => ?_); go_simp
          refine hK.out _ _ ⟨(World.cell?_setCell_far w3 _ _ _ (show g2 ≠ b by omega)).trans F2.1, (World.cell?_setCell_far w3 _ _ _ (show g2 ≠ b by omega)).trans F2.2⟩ ?_
          clear hK
          refine TE.done ?_
          clear kc kf F2 FA GA FRA OA RA SA NA Z1 Z3 hF hG hsA
          go_wp2
          go_ret
          rw [ChgPost, HST.out]
          exact ⟨rfl, HP.out, by have := HOL.out; have := HN.out; simp only [List.length_append, List.length_nil, List.length_cons] at *; omega⟩
        · have d2 : (x.1.toList == k.toList) = true := he
          cases hvv : kbeq x.2 v
          · have HST := Lib.hid (step_new k v s dn l x HS.out HD.out hk he hvv)
            have d3 : (x.2.toList == v.toList) = false := hvv
            go_wp2
            go_quiet (fail)
            have HCb := Lib.hid (HCa.out.drewN nq)
            have k1b : (wa.drewN nq).cell? ⟨g1, 0, none⟩ = some (.slice (some ad) n1 c1) := k1a
            have cvb : (wa.drewN nq).cell? ⟨ad.block, ad.off + 1, none⟩ = some (.string x.2) := cva
            have e1b : (wa.drewN nq).cell? ⟨b, 1, none⟩ = some (.string v) := e1a
            have HRb := Lib.hid (HRa.out.drewN nq)
            have HFb : Hid ((wa.drewN nq).frozen? ⟨g1, 0, none⟩ = false) := HFa
            clear HCa k1a c0a cva e0a e1a HRa HFa
            generalize wa.drewN nq = wb at *
            go_wp2
            go_quiet (fail)
            have HCc := Lib.hid (HCb.out.drewN nq)
            have k1c : (wb.drewN nq).cell? ⟨g1, 0, none⟩ = some (.slice (some ad) n1 c1) := k1b
            have HRc := Lib.hid (HRb.out.drewN nq)
            have HFc : (wb.drewN nq).frozen? ⟨g1, 0, none⟩ = false := HFb.out
            clear HCb k1b cvb e1b HRb HFb
            generalize wb.drewN nq = wc at *
            have HK1 := Lib.hid k1c
            by_cases hc1 : c1 = 1
            · have hl0 : l.length = 0 := by have := HN.out; omega
              subst hc1
              have HT : Hid (ChgC W0 N g1 g2 base l (s.2 ++ dn.map gonep) (wc.setCell ⟨g1, 0, none⟩ (.slice (some ad) 0 0))) := Lib.hid (by
                have h := HCc.out.tail (ad := ad) (c := 1) hN1 h1 hne (by rw [← HN.out]; exact HK1.out) (by rw [← HN.out]; exact HRc.out) (by rw [← HN.out]; exact hk4)
                rw [if_pos rfl, hl0] at h; exact h)
              go_wp2
              have HC9 := HT
              clear HT HCc k1c HRc HFc HK1 hn0 hn0'
              generalize wc.setCell ⟨g1, 0, none⟩ (.slice (some ad) 0 0) = W9 at *
              obtain ⟨A2, c2, z1, z2, z3⟩ := HC9.out.2.2.2.2.2
              have e0 : W9.cell? ⟨b, 0, none⟩ = some (.string k) := (HC9.out.1.cell (p := ⟨b, 0, none⟩) hb).trans K0.out
              have e1 : W9.cell? ⟨b, 1, none⟩ = some (.string v) := (HC9.out.1.cell (p := ⟨b, 1, none⟩) hb).trans K1.out
              have hs9 : base ≤ W9.heap.size := HC9.out.2.1
              have FA := Lib.hid (show (W9.alloc (.cells #[.string k, .string v, .bool false] 39)).drew.cell? ⟨b, 0, none⟩ = some (.string k) ∧ (W9.alloc (.cells #[.string k, .string v, .bool false] 39)).drew.cell? ⟨b, 1, none⟩ = some (.string v) from ⟨(World.cell?_alloc_lt W9 _ _ (show b < W9.heap.size by omega)).trans e0, (World.cell?_alloc_lt W9 _ _ (show b < W9.heap.size by omega)).trans e1⟩)
              have GA := Lib.hid (show (W9.alloc (.cells #[.string k, .string v, .bool false] 39)).drew.cell? ⟨g2, 0, none⟩ = _ from (World.cell?_alloc_lt W9 _ ⟨g2, 0, none⟩ (show g2 < W9.heap.size by omega)).trans z1)
              have FRA := Lib.hid (show (W9.alloc (.cells #[.string k, .string v, .bool false] 39)).drew.frozen? ⟨g2, 0, none⟩ = false from (World.frozen?_alloc_past _ _ _ (show g2 < W9.heap.size by omega)).trans z2)
              have OA := Lib.hid (show POwn (W9.alloc (.cells #[.string k, .string v, .bool false] 39)).drew base A2 _ c2 _ from (z3.alloc _).drew)
              have Z1 := Lib.hid z1
              have Z3 := Lib.hid z3
              have RA := Lib.hid (show PReads (W9.alloc (.cells #[.string k, .string v, .bool false] 39)).drew (W9.heap.size + 1) (some ⟨W9.heap.size, 0, none⟩) 1 [pv (k, v)] from PReads.one W9 (pv (k, v)) _)
              have SA := Lib.hid (show base ≤ (W9.alloc (.cells #[.string k, .string v, .bool false] 39)).drew.heap.size by simp; omega)
              have NA := Lib.hid (show (s.2 ++ dn.map gonep).length + 1 ≤ 3000000000000 by have := HOL.out; omega)
              clear z2 z3
              generalize s.2 ++ dn.map gonep = out9 at *
              go_wp2_with fail
              refine wp_region_E 11 [(0, 2), (1, 1), (2, 1), (3, 1), (4, 1), (5, 1), (6, 1), (7, 1), (8, 1), (9, 1), (10, 0), (11, 4), (12, 4)] (fun V => V.cell? ⟨b, 0, none⟩ = some (.string k) ∧ V.cell? ⟨b, 1, none⟩ = some (.string v)) (fun V => V.cell? ⟨g2, 0, none⟩ = some (.slice A2 out9.length c2)) (by kernel_rfl) (by kernel_rfl) (by kernel_rfl) (by kernel_rfl) (by kernel_rfl) (fun _ => ?_)
              simp only [outE, List.getElem?_cons_zero, List.getElem?_cons_succ, Option.getD_some]
              have hF : W9.drew.cell? ⟨b, 0, none⟩ = some (.string k) ∧ W9.drew.cell? ⟨b, 1, none⟩ = some (.string v) := ⟨e0, e1⟩
              have hG : W9.drew.cell? ⟨g2, 0, none⟩ = some (.slice A2 out9.length c2) := z1
              clear e0 e1 z1
              iterate 1 (refine TE.val2 (v := ?_) ?_ ?_ ?_ ?_ ?_ ?_; rotate_left; (focus rfl); (focus (intro W hSW; (try dsimp only at hSW); (try (obtain ⟨hS1, hSW⟩ := hSW)); (try (obtain ⟨hS2, hSW⟩ := hSW)); (try (obtain ⟨hS3, hSW⟩ := hSW)); (try (obtain ⟨hS4, hSW⟩ := hSW)); (try (obtain ⟨hS5, hSW⟩ := hSW)); go_simp; (try with_reducible rfl); done)); (focus exact fun _ _ _ h => h); (focus exact hF); (focus exact hG); simp only [Act.put, List.setIfInBounds_toArray, List.set_cons_zero, List.set_cons_succ])
              iterate 9 (refine TE.val1 (v := ?_) ?_ ?_ ?_ ?_ ?_ ?_; rotate_left; (focus rfl); (focus (intro W hSW; (try dsimp only at hSW); (try (obtain ⟨hS1, hSW⟩ := hSW)); (try (obtain ⟨hS2, hSW⟩ := hSW)); (try (obtain ⟨hS3, hSW⟩ := hSW)); (try (obtain ⟨hS4, hSW⟩ := hSW)); (try (obtain ⟨hS5, hSW⟩ := hSW)); go_simp; (try with_reducible rfl); done)); (focus exact fun _ _ _ h => h); (focus exact hF); (focus exact hG); simp only [Act.put, List.setIfInBounds_toArray, List.set_cons_zero, List.set_cons_succ])
              refine TE.eff0 (by rfl) (fun K hK => ?_); go_simp
              (try (go_wp2_with fail)); refine hK.out _ _ FA.out GA.out ?_; clear hK; (try simp only [Act.put, List.setIfInBounds_toArray, List.set_cons_zero, List.set_cons_succ])
              refine TE.eff4 (by rfl) (fun K hK => ?_)
              refine wp_papp (.tmp 56) (.tmp 66) rfl base A2 out9.length c2 out9 rfl OA.out (W9.heap.size + 1) (some ⟨W9.heap.size, 0, none⟩) 1 1 [pv (k, v)] rfl RA.out NA.out SA.out ?_
              intro A3 c3 w3 ho3 hg3
              have hsA : W9.heap.size ≤ (W9.alloc (.cells #[.string k, .string v, .bool false] 39)).drew.heap.size := by simp
              have F2 : w3.cell? ⟨b, 0, none⟩ = some (.string k) ∧ w3.cell? ⟨b, 1, none⟩ = some (.string v) := ⟨gb_cell hg3 OA.out FA.out.1 (by omega) (by omega), gb_cell hg3 OA.out FA.out.2 (by omega) (by omega)⟩
              have kc := gb_cell hg3 OA.out GA.out (by omega) (by omega)
              have kf := gb_frozen hg3 OA.out FRA.out (by omega) (by omega)
              have HP := Lib.hid (HC9.out.push (x := pv (k, v)) hN2 h1 h2 (Ne.symm hne) Z1.out Z3.out ho3 hg3)
              clear ho3 hg3
              refine hK.out _ _ F2 ?_
              clear hK
              simp only [Act.put, List.setIfInBounds_toArray, List.set_cons_zero, List.set_cons_succ]
              refine TE.eff4 (by rfl) (fun K hK => ?_); go_simp
              refine hK.out _ _ ⟨(World.cell?_setCell_far w3 _ _ _ (show g2 ≠ b by omega)).trans F2.1, (World.cell?_setCell_far w3 _ _ _ (show g2 ≠ b by omega)).trans F2.2⟩ ?_
              clear hK
              refine TE.done ?_
              clear kc kf F2 FA GA FRA OA RA SA NA Z1 Z3 hF hG hsA
              go_wp2
              go_ret
              rw [ChgPost, HST.out]
              exact ⟨rfl, HP.out, by have := HOL.out; have := HN.out; simp only [List.length_append, List.length_nil, List.length_cons] at *; omega⟩
            · have hc2 : decide (c1 = 1) = false := by simpa using hc1
              have HT : Hid (ChgC W0 N g1 g2 base l (s.2 ++ dn.map gonep) (wc.setCell ⟨g1, 0, none⟩ (.slice (some ⟨ad.block, ad.off + 3, none⟩) (n1 - 1) (c1 - 1)))) := Lib.hid (by
                have h := HCc.out.tail (ad := ad) (c := c1) hN1 h1 hne (by rw [← HN.out]; exact HK1.out) (by rw [← HN.out]; exact HRc.out) (by rw [← HN.out]; exact hk4)
                rw [if_neg hc1, add_pos ad 3 (by omega), show l.length = n1 - 1 by have := HN.out; omega] at h; exact h)
              go_wp2
              have HC9 := HT
              clear HT HCc k1c HRc HFc HK1 hn0 hn0'
              generalize wc.setCell ⟨g1, 0, none⟩ (.slice (some ⟨ad.block, ad.off + 3, none⟩) (n1 - 1) (c1 - 1)) = W9 at *
              obtain ⟨A2, c2, z1, z2, z3⟩ := HC9.out.2.2.2.2.2
              have e0 : W9.cell? ⟨b, 0, none⟩ = some (.string k) := (HC9.out.1.cell (p := ⟨b, 0, none⟩) hb).trans K0.out
              have e1 : W9.cell? ⟨b, 1, none⟩ = some (.string v) := (HC9.out.1.cell (p := ⟨b, 1, none⟩) hb).trans K1.out
              have hs9 : base ≤ W9.heap.size := HC9.out.2.1
              have FA := Lib.hid (show (W9.alloc (.cells #[.string k, .string v, .bool false] 39)).drew.cell? ⟨b, 0, none⟩ = some (.string k) ∧ (W9.alloc (.cells #[.string k, .string v, .bool false] 39)).drew.cell? ⟨b, 1, none⟩ = some (.string v) from ⟨(World.cell?_alloc_lt W9 _ _ (show b < W9.heap.size by omega)).trans e0, (World.cell?_alloc_lt W9 _ _ (show b < W9.heap.size by omega)).trans e1⟩)
              have GA := Lib.hid (show (W9.alloc (.cells #[.string k, .string v, .bool false] 39)).drew.cell? ⟨g2, 0, none⟩ = _ from (World.cell?_alloc_lt W9 _ ⟨g2, 0, none⟩ (show g2 < W9.heap.size by omega)).trans z1)
              have FRA := Lib.hid (show (W9.alloc (.cells #[.string k, .string v, .bool false] 39)).drew.frozen? ⟨g2, 0, none⟩ = false from (World.frozen?_alloc_past _ _ _ (show g2 < W9.heap.size by omega)).trans z2)
              have OA := Lib.hid (show POwn (W9.alloc (.cells #[.string k, .string v, .bool false] 39)).drew base A2 _ c2 _ from (z3.alloc _).drew)
              have Z1 := Lib.hid z1
              have Z3 := Lib.hid z3
              have RA := Lib.hid (show PReads (W9.alloc (.cells #[.string k, .string v, .bool false] 39)).drew (W9.heap.size + 1) (some ⟨W9.heap.size, 0, none⟩) 1 [pv (k, v)] from PReads.one W9 (pv (k, v)) _)
              have SA := Lib.hid (show base ≤ (W9.alloc (.cells #[.string k, .string v, .bool false] 39)).drew.heap.size by simp; omega)
              have NA := Lib.hid (show (s.2 ++ dn.map gonep).length + 1 ≤ 3000000000000 by have := HOL.out; omega)
              clear z2 z3
              generalize s.2 ++ dn.map gonep = out9 at *
              go_wp2_with fail
              refine wp_region_E 11 [(0, 2), (1, 1), (2, 1), (3, 1), (4, 1), (5, 1), (6, 1), (7, 1), (8, 1), (9, 1), (10, 0), (11, 4), (12, 4)] (fun V => V.cell? ⟨b, 0, none⟩ = some (.string k) ∧ V.cell? ⟨b, 1, none⟩ = some (.string v)) (fun V => V.cell? ⟨g2, 0, none⟩ = some (.slice A2 out9.length c2)) (by kernel_rfl) (by kernel_rfl) (by kernel_rfl) (by kernel_rfl) (by kernel_rfl) (fun _ => ?_)
              simp only [outE, List.getElem?_cons_zero, List.getElem?_cons_succ, Option.getD_some]
              have hF : W9.drew.cell? ⟨b, 0, none⟩ = some (.string k) ∧ W9.drew.cell? ⟨b, 1, none⟩ = some (.string v) := ⟨e0, e1⟩
              have hG : W9.drew.cell? ⟨g2, 0, none⟩ = some (.slice A2 out9.length c2) := z1
              clear e0 e1 z1
              iterate 1 (refine TE.val2 (v := ?_) ?_ ?_ ?_ ?_ ?_ ?_; rotate_left; (focus rfl); (focus (intro W hSW; (try dsimp only at hSW); (try (obtain ⟨hS1, hSW⟩ := hSW)); (try (obtain ⟨hS2, hSW⟩ := hSW)); (try (obtain ⟨hS3, hSW⟩ := hSW)); (try (obtain ⟨hS4, hSW⟩ := hSW)); (try (obtain ⟨hS5, hSW⟩ := hSW)); go_simp; (try with_reducible rfl); done)); (focus exact fun _ _ _ h => h); (focus exact hF); (focus exact hG); simp only [Act.put, List.setIfInBounds_toArray, List.set_cons_zero, List.set_cons_succ])
              iterate 9 (refine TE.val1 (v := ?_) ?_ ?_ ?_ ?_ ?_ ?_; rotate_left; (focus rfl); (focus (intro W hSW; (try dsimp only at hSW); (try (obtain ⟨hS1, hSW⟩ := hSW)); (try (obtain ⟨hS2, hSW⟩ := hSW)); (try (obtain ⟨hS3, hSW⟩ := hSW)); (try (obtain ⟨hS4, hSW⟩ := hSW)); (try (obtain ⟨hS5, hSW⟩ := hSW)); go_simp; (try with_reducible rfl); done)); (focus exact fun _ _ _ h => h); (focus exact hF); (focus exact hG); simp only [Act.put, List.setIfInBounds_toArray, List.set_cons_zero, List.set_cons_succ])
              refine TE.eff0 (by rfl) (fun K hK => ?_); go_simp
              (try (go_wp2_with fail)); refine hK.out _ _ FA.out GA.out ?_; clear hK; (try simp only [Act.put, List.setIfInBounds_toArray, List.set_cons_zero, List.set_cons_succ])
              refine TE.eff4 (by rfl) (fun K hK => ?_)
              refine wp_papp (.tmp 56) (.tmp 66) rfl base A2 out9.length c2 out9 rfl OA.out (W9.heap.size + 1) (some ⟨W9.heap.size, 0, none⟩) 1 1 [pv (k, v)] rfl RA.out NA.out SA.out ?_
              intro A3 c3 w3 ho3 hg3
              have hsA : W9.heap.size ≤ (W9.alloc (.cells #[.string k, .string v, .bool false] 39)).drew.heap.size := by simp
              have F2 : w3.cell? ⟨b, 0, none⟩ = some (.string k) ∧ w3.cell? ⟨b, 1, none⟩ = some (.string v) := ⟨gb_cell hg3 OA.out FA.out.1 (by omega) (by omega), gb_cell hg3 OA.out FA.out.2 (by omega) (by omega)⟩
              have kc := gb_cell hg3 OA.out GA.out (by omega) (by omega)
              have kf := gb_frozen hg3 OA.out FRA.out (by omega) (by omega)
              have HP := Lib.hid (HC9.out.push (x := pv (k, v)) hN2 h1 h2 (Ne.symm hne) Z1.out Z3.out ho3 hg3)
              clear ho3 hg3
              refine hK.out _ _ F2 ?_
              clear hK
              simp only [Act.put, List.setIfInBounds_toArray, List.set_cons_zero, List.set_cons_succ]
              refine TE.eff4 (by rfl) (fun K hK => ?_); go_simp
              refine hK.out _ _ ⟨(World.cell?_setCell_far w3 _ _ _ (show g2 ≠ b by omega)).trans F2.1, (World.cell?_setCell_far w3 _ _ _ (show g2 ≠ b by omega)).trans F2.2⟩ ?_
              clear hK
              refine TE.done ?_
              clear kc kf F2 FA GA FRA OA RA SA NA Z1 Z3 hF hG hsA
              go_wp2
              go_ret
              rw [ChgPost, HST.out]
              exact ⟨rfl, HP.out, by have := HOL.out; have := HN.out; simp only [List.length_append, List.length_nil, List.length_cons] at *; omega⟩
          · have HST := Lib.hid (step_same k v s dn l x HS.out HD.out hk he hvv)
            have d3 : (x.2.toList == v.toList) = true := hvv
            go_wp2
            go_quiet (fail)
            have HCb := Lib.hid (HCa.out.drewN nq)
            have k1b : (wa.drewN nq).cell? ⟨g1, 0, none⟩ = some (.slice (some ad) n1 c1) := k1a
            have cvb : (wa.drewN nq).cell? ⟨ad.block, ad.off + 1, none⟩ = some (.string x.2) := cva
            have e1b : (wa.drewN nq).cell? ⟨b, 1, none⟩ = some (.string v) := e1a
            have HRb := Lib.hid (HRa.out.drewN nq)
            have HFb : Hid ((wa.drewN nq).frozen? ⟨g1, 0, none⟩ = false) := HFa
            clear HCa k1a c0a cva e0a e1a HRa HFa
            generalize wa.drewN nq = wb at *
            go_wp2
            go_quiet (fail)
            have HCc := Lib.hid (HCb.out.drewN nq)
            have k1c : (wb.drewN nq).cell? ⟨g1, 0, none⟩ = some (.slice (some ad) n1 c1) := k1b
            have HRc := Lib.hid (HRb.out.drewN nq)
            have HFc : (wb.drewN nq).frozen? ⟨g1, 0, none⟩ = false := HFb.out
            clear HCb k1b cvb e1b HRb HFb
            generalize wb.drewN nq = wc at *
            have HK1 := Lib.hid k1c
            by_cases hc1 : c1 = 1
            · have hl0 : l.length = 0 := by have := HN.out; omega
              subst hc1
              have HT : Hid (ChgC W0 N g1 g2 base l (s.2 ++ dn.map gonep) (wc.setCell ⟨g1, 0, none⟩ (.slice (some ad) 0 0))) := Lib.hid (by
                have h := HCc.out.tail (ad := ad) (c := 1) hN1 h1 hne (by rw [← HN.out]; exact HK1.out) (by rw [← HN.out]; exact HRc.out) (by rw [← HN.out]; exact hk4)
                rw [if_pos rfl, hl0] at h; exact h)
              go_wp2
              go_ret
              rw [ChgPost, HST.out]
              exact ⟨rfl, HT.out, by have := HOL.out; have := HN.out; simp only [List.length_append, List.length_cons] at *; omega⟩
            · have hc2 : decide (c1 = 1) = false := by simpa using hc1
              have HT : Hid (ChgC W0 N g1 g2 base l (s.2 ++ dn.map gonep) (wc.setCell ⟨g1, 0, none⟩ (.slice (some ⟨ad.block, ad.off + 3, none⟩) (n1 - 1) (c1 - 1)))) := Lib.hid (by
                have h := HCc.out.tail (ad := ad) (c := c1) hN1 h1 hne (by rw [← HN.out]; exact HK1.out) (by rw [← HN.out]; exact HRc.out) (by rw [← HN.out]; exact hk4)
                rw [if_neg hc1, add_pos ad 3 (by omega), show l.length = n1 - 1 by have := HN.out; omega] at h; exact h)
              go_wp2
              go_ret
              rw [ChgPost, HST.out]
              exact ⟨rfl, HT.out, by have := HOL.out; have := HN.out; simp only [List.length_append, List.length_cons] at *; omega⟩
      · have d1 : Op.bytesLess x.1.toList k.toList = true := hk
        go_wp2
        go_quiet (fail)
        have HCa := Lib.hid (HC.out.drewN nq)
        have k1a : (wr.drewN nq).cell? ⟨g1, 0, none⟩ = some (.slice (some ad) n1 c1) := k1
        have c0a : (wr.drewN nq).cell? ad = some (.string x.1) := c0'
        clear HC k1 c0' cv' e0 HR3 HF1
        generalize wr.drewN nq = wa at *
        obtain ⟨A2, c2, z1, z2, z3⟩ := HCa.out.2.2.2.2.2
        have hs9 : base ≤ wa.heap.size := HCa.out.2.1
        have hadw : ad.block < wa.heap.size := by omega
        have FA := Lib.hid (show (wa.alloc (.cells #[.string x.1, .string ⟨#[]⟩, .bool true] 39)).drew.cell? ⟨g1, 0, none⟩ = some (.slice (some ad) n1 c1) ∧ (wa.alloc (.cells #[.string x.1, .string ⟨#[]⟩, .bool true] 39)).drew.cell? ad = some (.string x.1) from ⟨(World.cell?_alloc_lt wa _ _ (show g1 < wa.heap.size by omega)).trans k1a, (World.cell?_alloc_lt wa _ _ hadw).trans c0a⟩)
        have GA := Lib.hid (show (wa.alloc (.cells #[.string x.1, .string ⟨#[]⟩, .bool true] 39)).drew.cell? ⟨g2, 0, none⟩ = _ from (World.cell?_alloc_lt wa _ ⟨g2, 0, none⟩ (show g2 < wa.heap.size by omega)).trans z1)
        have FRA := Lib.hid (show (wa.alloc (.cells #[.string x.1, .string ⟨#[]⟩, .bool true] 39)).drew.frozen? ⟨g2, 0, none⟩ = false from (World.frozen?_alloc_past _ _ _ (show g2 < wa.heap.size by omega)).trans z2)
        have OA := Lib.hid (show POwn (wa.alloc (.cells #[.string x.1, .string ⟨#[]⟩, .bool true] 39)).drew base A2 _ c2 _ from (z3.alloc _).drew)
        have Z1 := Lib.hid z1
        have Z3 := Lib.hid z3
        have RA := Lib.hid (show PReads (wa.alloc (.cells #[.string x.1, .string ⟨#[]⟩, .bool true] 39)).drew (wa.heap.size + 1) (some ⟨wa.heap.size, 0, none⟩) 1 [gonep x] from PReads.one wa (gonep x) _)
        have SA := Lib.hid (show base ≤ (wa.alloc (.cells #[.string x.1, .string ⟨#[]⟩, .bool true] 39)).drew.heap.size by simp; omega)
        have NA := Lib.hid (show (s.2 ++ dn.map gonep).length + 1 ≤ 3000000000000 by have := HOL.out; omega)
        have HGO : Hid (s.2 ++ (dn ++ [x]).map gonep = (s.2 ++ dn.map gonep) ++ [gonep x]) := Lib.hid (by simp)
        have HSD : Hid (s.1 = (dn ++ [x]) ++ l) := Lib.hid (by rw [HS.out]; simp)
        clear z2 z3
        generalize s.2 ++ dn.map gonep = out9 at *
        go_wp2_with fail
        refine wp_region_E 7 [(0, 2), (1, 1), (2, 1), (3, 1), (4, 1), (5, 1), (6, 0), (7, 4), (8, 4)] (fun V => V.cell? ⟨g1, 0, none⟩ = some (.slice (some ad) n1 c1) ∧ V.cell? ad = some (.string x.1)) (fun V => V.cell? ⟨g2, 0, none⟩ = some (.slice A2 out9.length c2)) (by kernel_rfl) (by kernel_rfl) (by kernel_rfl) (by kernel_rfl) (by kernel_rfl) (fun _ => ?_)
        simp only [outE, List.getElem?_cons_zero, List.getElem?_cons_succ, Option.getD_some]
        have hF : wa.drew.cell? ⟨g1, 0, none⟩ = some (.slice (some ad) n1 c1) ∧ wa.drew.cell? ad = some (.string x.1) := ⟨k1a, c0a⟩
        have hG : wa.drew.cell? ⟨g2, 0, none⟩ = some (.slice A2 out9.length c2) := z1
        clear z1 k1a c0a
        iterate 1 (refine TE.val2 (v := ?_) ?_ ?_ ?_ ?_ ?_ ?_; rotate_left; (focus rfl); (focus (intro W hSW; (try dsimp only at hSW); (try (obtain ⟨hS1, hSW⟩ := hSW)); (try (obtain ⟨hS2, hSW⟩ := hSW)); (try (obtain ⟨hS3, hSW⟩ := hSW)); (try (obtain ⟨hS4, hSW⟩ := hSW)); (try (obtain ⟨hS5, hSW⟩ := hSW)); go_simp; (try with_reducible rfl); done)); (focus exact fun _ _ _ h => h); (focus exact hF); (focus exact hG); simp only [Act.put, List.setIfInBounds_toArray, List.set_cons_zero, List.set_cons_succ])
        iterate 5 (refine TE.val1 (v := ?_) ?_ ?_ ?_ ?_ ?_ ?_; rotate_left; (focus rfl); (focus (intro W hSW; (try dsimp only at hSW); (try (obtain ⟨hS1, hSW⟩ := hSW)); (try (obtain ⟨hS2, hSW⟩ := hSW)); (try (obtain ⟨hS3, hSW⟩ := hSW)); (try (obtain ⟨hS4, hSW⟩ := hSW)); (try (obtain ⟨hS5, hSW⟩ := hSW)); go_simp; (try with_reducible rfl); done)); (focus exact fun _ _ _ h => h); (focus exact hF); (focus exact hG); simp only [Act.put, List.setIfInBounds_toArray, List.set_cons_zero, List.set_cons_succ])
        refine TE.eff0 (by rfl) (fun K hK => ?_); go_simp
        (try (go_wp2_with fail)); refine hK.out _ _ FA.out GA.out ?_; clear hK; (try simp only [Act.put, List.setIfInBounds_toArray, List.set_cons_zero, List.set_cons_succ])
        refine TE.eff4 (by rfl) (fun K hK => ?_)
        refine wp_papp (.tmp 20) (.tmp 26) rfl base A2 out9.length c2 out9 rfl OA.out (wa.heap.size + 1) (some ⟨wa.heap.size, 0, none⟩) 1 1 [gonep x] rfl RA.out NA.out SA.out ?_
        intro A3 c3 w3 ho3 hg3
        have hsA : wa.heap.size ≤ (wa.alloc (.cells #[.string x.1, .string ⟨#[]⟩, .bool true] 39)).drew.heap.size := by simp
        have F2 : w3.cell? ⟨g1, 0, none⟩ = some (.slice (some ad) n1 c1) ∧ w3.cell? ad = some (.string x.1) := ⟨gb_cell hg3 OA.out FA.out.1 (by omega) (by omega), (World.cell?_of_block (hg3.block ad.block (by omega) (fun e => by have := (OA.out.base_le ad.block e.symm).1; omega))).trans FA.out.2⟩
        have kc := gb_cell hg3 OA.out GA.out (by omega) (by omega)
        have kf := gb_frozen hg3 OA.out FRA.out (by omega) (by omega)
        have HP := Lib.hid (HCa.out.push (x := gonep x) hN2 h1 h2 (Ne.symm hne) Z1.out Z3.out ho3 hg3)
        clear ho3 hg3
        refine hK.out _ _ F2 ?_
        clear hK
        simp only [Act.put, List.setIfInBounds_toArray, List.set_cons_zero, List.set_cons_succ]
        refine TE.eff4 (by rfl) (fun K hK => ?_); go_simp
        have F3 : (w3.setCell ⟨g2, 0, none⟩ (.slice A3 (out9.length + 1) c3)).cell? ⟨g1, 0, none⟩ = some (.slice (some ad) n1 c1) ∧ (w3.setCell ⟨g2, 0, none⟩ (.slice A3 (out9.length + 1) c3)).cell? ad = some (.string x.1) :=
          ⟨(World.cell?_setCell_far w3 _ _ _ (Ne.symm hne)).trans F2.1, (World.cell?_setCell_far w3 _ _ _ (show g2 ≠ ad.block from Ne.symm hadn)).trans F2.2⟩
        refine hK.out _ _ F3 ?_
        clear hK
        refine TE.done ?_
        have hb3 := F3.1
        clear kc kf F2 F3 FA GA FRA OA RA SA NA Z1 Z3 hF hG hsA
        generalize w3.setCell ⟨g2, 0, none⟩ (.slice A3 (out9.length + 1) c3) = W3 at *
        obtain ⟨A4, c4, m1, m2, m3, m4⟩ := HP.out.2.2.2.2.1
        have hinj := hb3.symm.trans m1
        simp only [Option.some.injEq, Value.slice.injEq] at hinj
        obtain ⟨hA4, _, hc4⟩ := hinj
        subst hA4
        subst hc4
        have HR4 := Lib.hid m3
        have HK3 := Lib.hid hb3
        have HML := Lib.hid m4
        clear m1 m3 m4
        by_cases hc1 : c1 = 1
        · have hl0 : l.length = 0 := by have := HN.out; omega
          subst hc1
          have HT : Hid (ChgC W0 N g1 g2 base l (out9 ++ [gonep x]) (W3.setCell ⟨g1, 0, none⟩ (.slice (some ad) 0 0))) := Lib.hid (by
            have h := HP.out.tail (ad := ad) (c := 1) hN1 h1 hne (by rw [← HN.out]; exact HK3.out) HR4.out HML.out
            rw [if_pos rfl, hl0] at h; exact h)
          go_wp2
          go_roundg (gk - 1)
          case rel => exact ⟨dn ++ [x], l, HSD.out, fun z hz => by
            rcases List.mem_append.1 hz with hz | hz
            · exact HD.out z hz
            · rw [List.mem_singleton.1 hz]; exact hk, by rw [HGO.out]; exact HT.out, by have := HM.out; have := HN.out; omega⟩
          case measure => have := HM.out; have := HN.out; omega
        · have hc2 : decide (c1 = 1) = false := by simpa using hc1
          have HT : Hid (ChgC W0 N g1 g2 base l (out9 ++ [gonep x]) (W3.setCell ⟨g1, 0, none⟩ (.slice (some ⟨ad.block, ad.off + 3, none⟩) l.length (c1 - 1)))) := Lib.hid (by
            have h := HP.out.tail (ad := ad) (c := c1) hN1 h1 hne (by rw [← HN.out]; exact HK3.out) HR4.out HML.out
            rw [if_neg hc1, add_pos ad 3 (by omega)] at h; exact h)
          go_wp2
          go_roundg (gk - 1)
          case rel => exact ⟨dn ++ [x], l, HSD.out, fun z hz => by
            rcases List.mem_append.1 hz with hz | hz
            · exact HD.out z hz
            · rw [List.mem_singleton.1 hz]; exact hk, by rw [HGO.out]; exact HT.out, by have := HM.out; have := HN.out; omega⟩
          case measure => have := HM.out; have := HN.out; omega
end Go.Proofs.Ytohcdnbchidjeaa
