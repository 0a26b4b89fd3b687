/-
  The reference's table: Cut.
-/
import Derived.Test.YtohcdnbchidjeaaTabQa
import Derived.Test.YtohcdnbchidjeaaTextT
import Derived.IntWalk
namespace Go.Proofs.Ytohcdnbchidjeaa
open Go.RowKit
def RCutPost (w : World) (l m : List KV) (e : Ending) (w' : World) : Prop :=
  ∃ A n c A' n' c', e = .returned (.tuple #[.agg #[.slice A n c], .agg #[.slice A' n' c']]) ∧ RTab w' w'.heap.size A n c l ∧ RTab w' w'.heap.size A' n' c' m ∧ Below w.heap.size w w'
section
variable {o : Oper} {ops : Array Oper} {a : Act} {Q : Exit → Act → World → Prop} {w : World}
/-- wp_papp, which tells where the row lies then. -/
theorem wp_papp2 {K : Act → World → Prop} (s x : Operand)
    (ho : o.op = .call { callee := .builtin .append, args := #[s, x], argTypes := #[33, 33] })
    (base : Nat) (A : Option Addr) (n c : Nat) (xs : List P3) (hs : a.eval s = .slice A n c) (hown : POwn w base A n c xs)
    (B : Nat) (D : Option Addr) (m d : Nat) (l : List P3) (hx : a.eval x = .slice D m d) (hr : PReads w B D m l)
    (hlen : n + m ≤ 3000000000000) (hbase : base ≤ w.heap.size)
    (h : ∀ A' c' w', POwn w' base A' (n + m) c' (xs ++ l) → w.grownBy w' (Value.slice A n c).ownBlock → ((Value.slice A' (n + m) c').ownBlock = (Value.slice A n c).ownBlock ∨ (Value.slice A' (n + m) c').ownBlock = some w.heap.size) → K (a.put o.dst (.slice A' (n + m) c')) w') : o.wp Try.prog a w K Q := by
  obtain ⟨i0, hi, hz0, hz1, hz2⟩ := info_parts info_p3
  refine wp_append_any w s x 33 ho base 39 i0 (.agg #[.string ⟨#[]⟩, .string ⟨#[]⟩, .bool false]) 3 40 Try.underlying33 hi hz0 hz1 hz2 rfl (by decide) (.slice A n c) n (p3sC xs) hs hown.1 B D m d (p3sC l) hx hr (oneCell_p3 l)
    (by simp only [maxLen]; omega) (by omega) hbase ?_
  intro v' w' hown' hg hb
  obtain ⟨A', c', rfl, hc⟩ := own_shape hown'
  exact h A' c' w' ⟨by rw [p3sC_app]; exact hown', hc⟩ hg hb
end
theorem POwn.kept {w w' : World} {base n c : Nat} {A : Option Addr} {l : List P3} {row : Option Nat} (h : POwn w base A n c l) (hg : w.grownBy w' row) (hne : (Value.slice A n c).ownBlock ≠ row) : POwn w' base A n c l := ⟨h.1.kept hg (.inr hne), h.2⟩
/-- What is kept while Cut makes its two rows. -/
structure CutS (w : World) (B : Nat) (A : Option Addr) (n c : Nat) (L : List KV) (V : World) : Prop where
  t : V.cell? ⟨w.heap.size, 0, none⟩ = some (.slice A n c)
  r1 : V.cell? ⟨w.heap.size + 1, 0, none⟩ = some (.slice none 0 0)
  f1 : V.frozen? ⟨w.heap.size + 1, 0, none⟩ = false
  n1 : OneC V (w.heap.size + 1)
  r2 : V.cell? ⟨w.heap.size + 1 + 1, 0, none⟩ = some (.slice none 0 0)
  f2 : V.frozen? ⟨w.heap.size + 1 + 1, 0, none⟩ = false
  n2 : OneC V (w.heap.size + 1 + 1)
  p : PReads V B A n (pvs L)
  b : Below w.heap.size w V
  z : w.heap.size + 1 + 1 + 1 ≤ V.heap.size
section
variable {w V V' : World} {B n c : Nat} {A : Option Addr} {L : List KV}
theorem CutS.step (h : CutS w B A n c L V) (hB : B ≤ w.heap.size) (hb : Below (w.heap.size + 1 + 1 + 1) V V') (hz : V.heap.size ≤ V'.heap.size) : CutS w B A n c L V' :=
  ⟨(hb.cell (p := ⟨w.heap.size, 0, none⟩) (by show w.heap.size < _; omega)).trans h.t, (hb.cell (p := ⟨w.heap.size + 1, 0, none⟩) (by show w.heap.size + 1 < _; omega)).trans h.r1, (hb.frozen (p := ⟨w.heap.size + 1, 0, none⟩) (by show w.heap.size + 1 < _; omega)).trans h.f1,
    fun j hj => (hb.cell (p := ⟨w.heap.size + 1, j, none⟩) (by show w.heap.size + 1 < _; omega)).trans (h.n1 j hj),
    (hb.cell (p := ⟨w.heap.size + 1 + 1, 0, none⟩) (by show w.heap.size + 1 + 1 < _; omega)).trans h.r2, (hb.frozen (p := ⟨w.heap.size + 1 + 1, 0, none⟩) (by show w.heap.size + 1 + 1 < _; omega)).trans h.f2,
    fun j hj => (hb.cell (p := ⟨w.heap.size + 1 + 1, j, none⟩) (by show w.heap.size + 1 + 1 < _; omega)).trans (h.n2 j hj),
    Reads.below h.p (hb.mono (by omega)), h.b.trans (hb.mono (by omega)), Nat.le_trans h.z hz⟩
theorem CutS.alloc (h : CutS w B A n c L V) (hB : B ≤ w.heap.size) (o : Obj) : CutS w B A n c L (V.alloc o) := h.step hB ((Below.refl _ _).alloc h.z _) (by simp)
theorem CutS.drew (h : CutS w B A n c L V) (hB : B ≤ w.heap.size) : CutS w B A n c L V.drew := h.step hB ((Below.refl _ _).drew) (Nat.le_refl _)
theorem CutS.app {base m d : Nat} {D : Option Addr} {xs : List P3} (h : CutS w B A n c L V) (hB : B ≤ w.heap.size) (ho : POwn V base D m d xs) (hb : w.heap.size + 1 + 1 + 1 ≤ base) (hg : V.grownBy V' (Value.slice D m d).ownBlock) : CutS w B A n c L V' :=
  h.step hB (below_papp (Below.refl _ _) hg ho hb h.z) hg.size
theorem CutS.start (w : World) (hB : B ≤ w.heap.size) (hr : PReads w B A n (pvs L)) : CutS w B A n c L (((w.alloc (.cells #[.slice A n c] 44)).alloc (.cells #[.slice none 0 0] 44)).alloc (.cells #[.slice none 0 0] 44)) := by
  have b0 : Below w.heap.size w (((w.alloc (.cells #[.slice A n c] 44)).alloc (.cells #[.slice none 0 0] 44)).alloc (.cells #[.slice none 0 0] 44)) := (((Below.refl _ _).alloc (Nat.le_refl _) _).alloc (by simp) _).alloc (by simp; omega) _
  refine ⟨?_, ?_, by go_simp, ?_, ?_, World.frozen?_alloc_at _ _ _ _ (by simp), ?_, Reads.below hr (b0.mono hB), b0, by simp⟩
  · rw [World.cell?_alloc_lt _ _ _ (by simp; omega), World.cell?_alloc_lt _ _ _ (by simp)]; exact box1 w _ _
  · rw [World.cell?_alloc_lt _ _ _ (by simp), World.cell?_alloc_at _ _ _ _ (by simp)]; rfl
  · intro j hj; rw [World.cell?_alloc_lt _ _ _ (by simp), World.cell?_alloc_at _ _ _ _ (by simp)]; simp; omega
  · rw [World.cell?_alloc_at _ _ _ _ (by simp)]; rfl
  · intro j hj; rw [World.cell?_alloc_at _ _ _ _ (by simp)]; simp; omega
theorem CutS.fin {b b' k c2 m c4 : Nat} {A2 A4 : Option Addr} {l l' : List KV} (h : CutS w B A n c L V) (h1 : POwn V b A2 k c2 (pvs l)) (h2 : POwn V b' A4 m c4 (pvs l')) :
    RTab ((V.setCell ⟨w.heap.size + 1, 0, none⟩ (.slice A2 k c2)).setCell ⟨w.heap.size + 1 + 1, 0, none⟩ (.slice A4 m c4)) ((V.setCell ⟨w.heap.size + 1, 0, none⟩ (.slice A2 k c2)).setCell ⟨w.heap.size + 1 + 1, 0, none⟩ (.slice A4 m c4)).heap.size A2 k c2 l ∧
      RTab ((V.setCell ⟨w.heap.size + 1, 0, none⟩ (.slice A2 k c2)).setCell ⟨w.heap.size + 1 + 1, 0, none⟩ (.slice A4 m c4)) ((V.setCell ⟨w.heap.size + 1, 0, none⟩ (.slice A2 k c2)).setCell ⟨w.heap.size + 1 + 1, 0, none⟩ (.slice A4 m c4)).heap.size A4 m c4 l' ∧
      Below w.heap.size w ((V.setCell ⟨w.heap.size + 1, 0, none⟩ (.slice A2 k c2)).setCell ⟨w.heap.size + 1 + 1, 0, none⟩ (.slice A4 m c4)) := by
  have t1 := RTab.of_own h1
  have t2 := RTab.of_own h2
  exact ⟨(t1.set h.n1 _).set (h.n2.set _ _) _, (t2.set h.n1 _).set (h.n2.set _ _) _, (h.b.setCell (by simp) _).setCell (by simp; omega) _⟩
end
set_option maxHeartbeats 8000000 in
theorem rcut_more (key : ByteArray) (L : List KV) (B : Nat) (ad : Addr) (n c : Nat) (w : World) (hr : RTab w B (some ad) n c L) (hB : B ≤ w.heap.size) (ha : asc L) (hn : n ≤ 1000000) (hcc0 : c ≠ (lo key L).length) :
    Calls Try.prog 31 #[.agg #[.slice (some ad) n c], .string key] w (RCutPost w (lo key L) (hi key L)) := by
  obtain ⟨hr, hnc, hcm, _⟩ := hr
  have HN := Lib.hid (show L.length = n by rw [← hr.len, pvs_len])
  have CS0 := Lib.hid (CutS.start (A := (some ad)) (n := n) (c := c) w hB hr)
  have HP := Lib.hid (fun V (hV : Below w.heap.size w V) => rplace_v key L B (some ad) n c V (Reads.below hr (hV.mono hB)) (Nat.le_trans hB hV.size) ha hn)
  have HTL := Lib.hid (take_lo key ha)
  have HDL := Lib.hid (drop_lo key ha)
  have hkn := lo_len key L
  rw [HN.out] at hkn
  clear hr
  generalize hk : (lo key L).length = k at *
  clear hk
  have hccd : decide (c = k) = false := by simpa using hcc0
  have hk0 : (0 : Int) ≤ (k : Int) := by omega
  have hk1 : (k : Int) ≤ (n : Int) := by omega
  have hkc : (k : Int) ≤ (c : Int) := by omega
  have hkc' : k ≤ c := by omega
  go_enter Try.func31, Try.ntmps31
  go_wp2_with fail
  generalize ((w.alloc (.cells #[.slice (some ad) n c] 44)).alloc (.cells #[.slice none 0 0] 44)).alloc (.cells #[.slice none 0 0] 44) = w0 at *
  refine (HP.out w0 CS0.out.b).mono ?_
  rintro e w1 ⟨rfl, hb1⟩
  have CS1 := Lib.hid (CS0.out.step hB (hb1.mono CS0.out.z) hb1.size)
  have hz1 : w.heap.size + 1 + 1 + 1 ≤ w1.heap.size := CS1.out.z
  have c1 := CS1.out.t
  clear hb1 CS0 HP
  go_wp2_with fail
  refine wp_region_tree (SK.one 1 false <| .one 2 false <| .one 3 false <| .one 4 false <| .one 8 false <| .one 9 false <| .one 10 false <| .one 11 false <|
    .two 0 (.two 5 (.one 6 false <| .one 7 true <| .one 12 true <| .one 13 false <| .one 14 true <| .one 15 true .done) 7 (.one 5 true <| .one 6 false <| .one 12 true <| .one 13 false <| .one 14 true <| .one 15 true .done))
      7 (.one 0 true <| .one 5 true <| .one 6 false <| .one 12 true <| .one 13 false <| .one 14 true <| .one 15 true .done)) (fun V => V.cell? ⟨w.heap.size, 0, none⟩ = some (.slice (some ad) n c)) (by kernel_rfl) (by kernel_rfl) (by kernel_rfl) (by kernel_rfl) ?_
  have hS : w1.drew.cell? ⟨w.heap.size, 0, none⟩ = some (.slice (some ad) n c) := c1
  iterate 7 ((first | (refine TR.val2 (v := ?_) _ (by simp only [List.getElem?_toArray, List.getElem?_cons_succ, List.getElem?_cons_zero]; rfl) ?_ ?_ ?_ ?_ ?_; rotate_left; (focus rfl); (focus (intro W hSW; (try dsimp only at hSW); go_simp; (try with_reducible rfl); done)); (focus exact fun _ _ _ h => h); (focus assumption)) | (refine TR.skip _ (by simp only [List.getElem?_toArray, List.getElem?_cons_succ, List.getElem?_cons_zero]; rfl) ?_ ?_ ?_ ?_; (focus rfl); (focus exact fun _ _ _ h => h); (focus assumption))); simp only [Act.put, List.setIfInBounds_toArray, List.set_cons_zero, List.set_cons_succ])
  have hccn : ¬ c = k := by simpa using hccd
  iterate 1 ((first | (refine TR.val2 (v := ?_) _ (by simp only [List.getElem?_toArray, List.getElem?_cons_succ, List.getElem?_cons_zero]; rfl) ?_ ?_ ?_ ?_ ?_; rotate_left; (focus rfl); (focus (intro W hSW; (try dsimp only at hSW); go_simp; (try with_reducible rfl); done)); (focus exact fun _ _ _ h => h); (focus assumption)) | (refine TR.skip _ (by simp only [List.getElem?_toArray, List.getElem?_cons_succ, List.getElem?_cons_zero]; rfl) ?_ ?_ ?_ ?_; (focus rfl); (focus exact fun _ _ _ h => h); (focus assumption))); simp only [Act.put, List.setIfInBounds_toArray, List.set_cons_zero, List.set_cons_succ])
  clear hccn
  clear hS c1
  have CS2 := Lib.hid (CS1.out.drew hB)
  have HL1 : Hid (0 + k ≤ 3000000000000) := Lib.hid (by omega)
  have HL2 : Hid (0 + (n - k) ≤ 3000000000000) := Lib.hid (by omega)
  have RLO : Hid (∀ V, CutS w B (some ad) n c L V → PReads V B (some ad) k (pvs (lo key L))) := Lib.hid fun V hV => by
    have h := PReads.take hV.p (show k ≤ n by omega)
    rwa [show (pvs L).take k = pvs (lo key L) by rw [← HTL.out, pvs, pvs, List.map_take]] at h
  have RHI : Hid (∀ V, CutS w B (some ad) n c L V → PReads V B (some (ad.add (k * 3))) (n - k) (pvs (hi key L))) := Lib.hid fun V hV => by have h := PReads.cut hV.p (k := k) (by omega) hnc; rw [show (pvs L).drop k = pvs (hi key L) by rw [← HDL.out, pvs, pvs, List.map_drop], if_neg hcc0, Option.map_some] at h; exact h
  have hz2 : w.heap.size + 1 + 1 + 1 ≤ w1.drew.heap.size := hz1
  generalize w1.drew = w2 at *
  clear hz1 CS1
  refine TR.two _ _ (by simp only [List.getElem?_toArray, List.getElem?_cons_zero]; rfl) (by simp only [List.getElem?_toArray, List.getElem?_cons_succ, List.getElem?_cons_zero]; rfl) (by rfl) (by rfl) (fun K hK => ?_) (fun K hK => ?_)
  · go_simp
    have CSA := Lib.hid (CS2.out.alloc hB (.cells #[] 39))
    refine hK.out _ _ CSA.out.t ?_
    clear hK
    have EA := Lib.hid (POwn.empty w2)
    refine TR.two _ _ (by simp only [List.getElem?_toArray, List.getElem?_cons_succ, List.getElem?_cons_zero]; rfl) (by simp only [List.getElem?_toArray, List.getElem?_cons_succ, List.getElem?_cons_zero]; rfl) (by rfl) (by rfl) (fun K hK => ?_) (fun K hK => ?_)
    · refine wp_papp2 (.tmp 10) (.tmp 14) rfl w2.heap.size (some ⟨w2.heap.size, 0, none⟩) 0 0 [] rfl EA.out B (some ad) k c (pvs (lo key L)) rfl (RLO.out _ CSA.out) HL1.out (by first | omega | (simp; done) | (simp; omega)) ?_
      intro A2 c2 w3 ho2 hg2 ob2
      rw [Nat.zero_add] at ho2 ob2
      rw [List.nil_append] at ho2
      have CS3 := Lib.hid (CSA.out.app hB EA.out (by first | omega | (simp; done) | (simp; omega)) hg2)
      refine hK.out _ _ CS3.out.t ?_
      clear hK
      (try simp only [Act.put, List.setIfInBounds_toArray, List.set_cons_zero, List.set_cons_succ, Nat.zero_add])
      have O0 := Lib.hid ho2
      have hz3 := CS3.out.z
      clear ho2 hg2
      have hS : w3.cell? ⟨w.heap.size, 0, none⟩ = some (.slice (some ad) n c) := CS3.out.t
      iterate 1 ((first | (refine TR.val2 (v := ?_) _ (by simp only [List.getElem?_toArray, List.getElem?_cons_succ, List.getElem?_cons_zero]; rfl) ?_ ?_ ?_ ?_ ?_; rotate_left; (focus rfl); (focus (intro W hSW; (try dsimp only at hSW); go_simp; (try with_reducible rfl); done)); (focus exact fun _ _ _ h => h); (focus assumption)) | (refine TR.skip _ (by simp only [List.getElem?_toArray, List.getElem?_cons_succ, List.getElem?_cons_zero]; rfl) ?_ ?_ ?_ ?_; (focus rfl); (focus exact fun _ _ _ h => h); (focus assumption))); simp only [Act.put, List.setIfInBounds_toArray, List.set_cons_zero, List.set_cons_succ])
      clear hS
      refine TR.eff _ (by simp only [List.getElem?_toArray, List.getElem?_cons_succ, List.getElem?_cons_zero]; rfl) (by rfl) (fun K hK => ?_); go_simp
      have CSB := Lib.hid (CS3.out.alloc hB (.cells #[] 39))
      refine hK.out _ _ CSB.out.t ?_
      clear hK
      have O0a := Lib.hid (O0.out.alloc (.cells #[] 39))
      have EB := Lib.hid (POwn.empty w3)
      refine TR.eff _ (by simp only [List.getElem?_toArray, List.getElem?_cons_succ, List.getElem?_cons_zero]; rfl) (by rfl) (fun K hK => ?_)
      refine wp_papp2 (.tmp 17) (.tmp 21) rfl w3.heap.size (some ⟨w3.heap.size, 0, none⟩) 0 0 [] rfl EB.out B (some (ad.add (k * 3))) (n - k) (c - k) (pvs (hi key L)) rfl (RHI.out _ CSB.out) HL2.out (by first | omega | (simp; done) | (simp; omega)) ?_
      intro A4 c4 w4 ho4 hg4 _
      rw [Nat.zero_add, List.nil_append] at ho4
      have CS4 := Lib.hid (CSB.out.app hB EB.out (by first | omega | (simp; done) | (simp; omega)) hg4)
      refine hK.out _ _ CS4.out.t ?_
      clear hK
      (try simp only [Act.put, List.setIfInBounds_toArray, List.set_cons_zero, List.set_cons_succ, Nat.zero_add])
      have O1 := Lib.hid ho4
      replace O0 := Lib.hid (O0a.out.kept hg4 (fun h => absurd (O0.out.base_le _ h).2 (Nat.lt_irrefl _)))
      clear hg4 ho4
      have hS : w4.cell? ⟨w.heap.size, 0, none⟩ = some (.slice (some ad) n c) := CS4.out.t
      iterate 1 ((first | (refine TR.val2 (v := ?_) _ (by simp only [List.getElem?_toArray, List.getElem?_cons_succ, List.getElem?_cons_zero]; rfl) ?_ ?_ ?_ ?_ ?_; rotate_left; (focus rfl); (focus (intro W hSW; (try dsimp only at hSW); go_simp; (try with_reducible rfl); done)); (focus exact fun _ _ _ h => h); (focus assumption)) | (refine TR.skip _ (by simp only [List.getElem?_toArray, List.getElem?_cons_succ, List.getElem?_cons_zero]; rfl) ?_ ?_ ?_ ?_; (focus rfl); (focus exact fun _ _ _ h => h); (focus assumption))); simp only [Act.put, List.setIfInBounds_toArray, List.set_cons_zero, List.set_cons_succ])
      clear hS
      have kc := CS4.out.r1
      have kf := CS4.out.f1
      refine TR.eff _ (by simp only [List.getElem?_toArray, List.getElem?_cons_succ, List.getElem?_cons_zero]; rfl) (by rfl) (fun K hK => ?_); go_simp
      have c4b := (World.cell?_setCell_other w4 ⟨w.heap.size + 1, 0, none⟩ ⟨w.heap.size, 0, none⟩ (.slice A2 k c2) (by intro e; injection e; omega)).trans CS4.out.t
      refine hK.out _ _ c4b ?_
      clear hK
      have ku := CS4.out.r2
      have kg := CS4.out.f2
      refine TR.eff _ (by simp only [List.getElem?_toArray, List.getElem?_cons_succ, List.getElem?_cons_zero]; rfl) (by rfl) (fun K hK => ?_); go_simp
      refine hK.out _ _ ((World.cell?_setCell_other _ _ _ _ (by intro e; injection e; omega)).trans c4b) ?_
      clear hK
      refine TR.done ?_
      go_wp2_with fail
      refine bodyPost_ret (v := .tuple #[.agg #[.slice A2 k c2], .agg #[.slice A4 (n - k) c4]]) (by simp [results, Try.results31, go_sem, kc, ku]) rfl ?_
      obtain ⟨f1, f2, f3⟩ := CS4.out.fin O0.out O1.out
      exact ⟨A2, k, c2, A4, _, c4, rfl, f1, f2, f3⟩
    · go_simp
      have CSB := Lib.hid (CSA.out.alloc hB (.cells #[] 39))
      refine hK.out _ _ CSB.out.t ?_
      clear hK
      have EA' := Lib.hid (EA.out.alloc (.cells #[] 39))
      have EB := Lib.hid (show POwn ((w2.alloc (.cells #[] 39)).alloc (.cells #[] 39)) w2.heap.size (some ⟨w2.heap.size + 1, 0, none⟩) 0 0 [] by
        have := (POwn.empty (w2.alloc (.cells #[] 39))).down (show w2.heap.size ≤ (w2.alloc (.cells #[] 39)).heap.size by simp)
        rwa [World.size_alloc] at this)
      refine TR.eff _ (by simp only [List.getElem?_toArray, List.getElem?_cons_succ, List.getElem?_cons_zero]; rfl) (by rfl) (fun K hK => ?_)
      refine wp_papp2 (.tmp 10) (.tmp 14) rfl w2.heap.size (some ⟨w2.heap.size, 0, none⟩) 0 0 [] rfl EA'.out B (some ad) k c (pvs (lo key L)) rfl (RLO.out _ CSB.out) HL1.out (by first | omega | (simp; done) | (simp; omega)) ?_
      intro A2 c2 w3 ho2 hg2 ob2
      rw [Nat.zero_add] at ho2 ob2
      rw [List.nil_append] at ho2
      have CS3 := Lib.hid (CSB.out.app hB EA'.out (by first | omega | (simp; done) | (simp; omega)) hg2)
      refine hK.out _ _ CS3.out.t ?_
      clear hK
      (try simp only [Act.put, List.setIfInBounds_toArray, List.set_cons_zero, List.set_cons_succ, Nat.zero_add])
      have O0 := Lib.hid ho2
      have E1k := Lib.hid (EB.out.kept hg2 (by simp [Value.ownBlock]))
      have hS : w3.cell? ⟨w.heap.size, 0, none⟩ = some (.slice (some ad) n c) := CS3.out.t
      iterate 1 ((first | (refine TR.val2 (v := ?_) _ (by simp only [List.getElem?_toArray, List.getElem?_cons_succ, List.getElem?_cons_zero]; rfl) ?_ ?_ ?_ ?_ ?_; rotate_left; (focus rfl); (focus (intro W hSW; (try dsimp only at hSW); go_simp; (try with_reducible rfl); done)); (focus exact fun _ _ _ h => h); (focus assumption)) | (refine TR.skip _ (by simp only [List.getElem?_toArray, List.getElem?_cons_succ, List.getElem?_cons_zero]; rfl) ?_ ?_ ?_ ?_; (focus rfl); (focus exact fun _ _ _ h => h); (focus assumption))); simp only [Act.put, List.setIfInBounds_toArray, List.set_cons_zero, List.set_cons_succ])
      clear hS
      have hg2s := hg2.size
      simp only [World.size_alloc] at hg2s
      refine TR.eff _ (by simp only [List.getElem?_toArray, List.getElem?_cons_succ, List.getElem?_cons_zero]; rfl) (by rfl) (fun K hK => ?_)
      refine wp_papp2 (.tmp 17) (.tmp 21) rfl w2.heap.size (some ⟨w2.heap.size + 1, 0, none⟩) 0 0 [] rfl E1k.out B (some (ad.add (k * 3))) (n - k) (c - k) (pvs (hi key L)) rfl (RHI.out _ CS3.out) HL2.out (by first | omega | (simp; done) | (simp; omega)) ?_
      intro A4 c4 w4 ho4 hg4 _
      rw [Nat.zero_add, List.nil_append] at ho4
      have CS4 := Lib.hid (CS3.out.app hB E1k.out (by first | omega | (simp; done) | (simp; omega)) hg4)
      refine hK.out _ _ CS4.out.t ?_
      clear hK
      (try simp only [Act.put, List.setIfInBounds_toArray, List.set_cons_zero, List.set_cons_succ, Nat.zero_add])
      have O1 := Lib.hid ho4
      replace O0 := Lib.hid (O0.out.kept hg4 (fun h => by
        rcases ob2 with ob | ob
        · rw [ob] at h; simp [Value.ownBlock] at h <;> omega
        · rw [ob] at h; simp [Value.ownBlock] at h <;> omega))
      clear hg4 ho4 ho2 hg2
      have hS : w4.cell? ⟨w.heap.size, 0, none⟩ = some (.slice (some ad) n c) := CS4.out.t
      iterate 1 ((first | (refine TR.val2 (v := ?_) _ (by simp only [List.getElem?_toArray, List.getElem?_cons_succ, List.getElem?_cons_zero]; rfl) ?_ ?_ ?_ ?_ ?_; rotate_left; (focus rfl); (focus (intro W hSW; (try dsimp only at hSW); go_simp; (try with_reducible rfl); done)); (focus exact fun _ _ _ h => h); (focus assumption)) | (refine TR.skip _ (by simp only [List.getElem?_toArray, List.getElem?_cons_succ, List.getElem?_cons_zero]; rfl) ?_ ?_ ?_ ?_; (focus rfl); (focus exact fun _ _ _ h => h); (focus assumption))); simp only [Act.put, List.setIfInBounds_toArray, List.set_cons_zero, List.set_cons_succ])
      clear hS
      have kc := CS4.out.r1
      have kf := CS4.out.f1
      refine TR.eff _ (by simp only [List.getElem?_toArray, List.getElem?_cons_succ, List.getElem?_cons_zero]; rfl) (by rfl) (fun K hK => ?_); go_simp
      have c4b := (World.cell?_setCell_other w4 ⟨w.heap.size + 1, 0, none⟩ ⟨w.heap.size, 0, none⟩ (.slice A2 k c2) (by intro e; injection e; omega)).trans CS4.out.t
      refine hK.out _ _ c4b ?_
      clear hK
      have ku := CS4.out.r2
      have kg := CS4.out.f2
      refine TR.eff _ (by simp only [List.getElem?_toArray, List.getElem?_cons_succ, List.getElem?_cons_zero]; rfl) (by rfl) (fun K hK => ?_); go_simp
      refine hK.out _ _ ((World.cell?_setCell_other _ _ _ _ (by intro e; injection e; omega)).trans c4b) ?_
      clear hK
      refine TR.done ?_
      go_wp2_with fail
      refine bodyPost_ret (v := .tuple #[.agg #[.slice A2 k c2], .agg #[.slice A4 (n - k) c4]]) (by simp [results, Try.results31, go_sem, kc, ku]) rfl ?_
      obtain ⟨f1, f2, f3⟩ := CS4.out.fin O0.out O1.out
      exact ⟨A2, k, c2, A4, _, c4, rfl, f1, f2, f3⟩
  · go_simp
    have CSA := Lib.hid (CS2.out.alloc hB (.cells #[] 39))
    refine hK.out _ _ CSA.out.t ?_
    clear hK
    have EA := Lib.hid (POwn.empty w2)
    refine TR.eff _ (by simp only [List.getElem?_toArray, List.getElem?_cons_zero]; rfl) (by rfl) (fun K hK => ?_); go_simp
    have CSB := Lib.hid (CSA.out.alloc hB (.cells #[] 39))
    refine hK.out _ _ CSB.out.t ?_
    clear hK
    have EA' := Lib.hid (EA.out.alloc (.cells #[] 39))
    have EB := Lib.hid (show POwn ((w2.alloc (.cells #[] 39)).alloc (.cells #[] 39)) w2.heap.size (some ⟨w2.heap.size + 1, 0, none⟩) 0 0 [] by
      have := (POwn.empty (w2.alloc (.cells #[] 39))).down (show w2.heap.size ≤ (w2.alloc (.cells #[] 39)).heap.size by simp)
      rwa [World.size_alloc] at this)
    refine TR.eff _ (by simp only [List.getElem?_toArray, List.getElem?_cons_succ, List.getElem?_cons_zero]; rfl) (by rfl) (fun K hK => ?_)
    refine wp_papp2 (.tmp 10) (.tmp 14) rfl w2.heap.size (some ⟨w2.heap.size + 1, 0, none⟩) 0 0 [] rfl EB.out B (some ad) k c (pvs (lo key L)) rfl (RLO.out _ CSB.out) HL1.out (by first | omega | (simp; done) | (simp; omega)) ?_
    intro A2 c2 w3 ho2 hg2 ob2
    rw [Nat.zero_add] at ho2 ob2
    rw [List.nil_append] at ho2
    have CS3 := Lib.hid (CSB.out.app hB EB.out (by first | omega | (simp; done) | (simp; omega)) hg2)
    refine hK.out _ _ CS3.out.t ?_
    clear hK
    (try simp only [Act.put, List.setIfInBounds_toArray, List.set_cons_zero, List.set_cons_succ, Nat.zero_add])
    have O0 := Lib.hid ho2
    have E1k := Lib.hid (EA'.out.kept hg2 (by simp [Value.ownBlock]))
    have hS : w3.cell? ⟨w.heap.size, 0, none⟩ = some (.slice (some ad) n c) := CS3.out.t
    iterate 1 ((first | (refine TR.val2 (v := ?_) _ (by simp only [List.getElem?_toArray, List.getElem?_cons_succ, List.getElem?_cons_zero]; rfl) ?_ ?_ ?_ ?_ ?_; rotate_left; (focus rfl); (focus (intro W hSW; (try dsimp only at hSW); go_simp; (try with_reducible rfl); done)); (focus exact fun _ _ _ h => h); (focus assumption)) | (refine TR.skip _ (by simp only [List.getElem?_toArray, List.getElem?_cons_succ, List.getElem?_cons_zero]; rfl) ?_ ?_ ?_ ?_; (focus rfl); (focus exact fun _ _ _ h => h); (focus assumption))); simp only [Act.put, List.setIfInBounds_toArray, List.set_cons_zero, List.set_cons_succ])
    clear hS
    have hg2s := hg2.size
    simp only [World.size_alloc] at hg2s
    refine TR.eff _ (by simp only [List.getElem?_toArray, List.getElem?_cons_succ, List.getElem?_cons_zero]; rfl) (by rfl) (fun K hK => ?_)
    refine wp_papp2 (.tmp 17) (.tmp 21) rfl w2.heap.size (some ⟨w2.heap.size, 0, none⟩) 0 0 [] rfl E1k.out B (some (ad.add (k * 3))) (n - k) (c - k) (pvs (hi key L)) rfl (RHI.out _ CS3.out) HL2.out (by first | omega | (simp; done) | (simp; omega)) ?_
    intro A4 c4 w4 ho4 hg4 _
    rw [Nat.zero_add, List.nil_append] at ho4
    have CS4 := Lib.hid (CS3.out.app hB E1k.out (by first | omega | (simp; done) | (simp; omega)) hg4)
    refine hK.out _ _ CS4.out.t ?_
    clear hK
    (try simp only [Act.put, List.setIfInBounds_toArray, List.set_cons_zero, List.set_cons_succ, Nat.zero_add])
    have O1 := Lib.hid ho4
    replace O0 := Lib.hid (O0.out.kept hg4 (fun h => by
      rcases ob2 with ob | ob
      · rw [ob] at h; simp [Value.ownBlock] at h <;> omega
      · rw [ob] at h; simp [Value.ownBlock] at h <;> omega))
    clear hg4 ho4 ho2 hg2
    have hS : w4.cell? ⟨w.heap.size, 0, none⟩ = some (.slice (some ad) n c) := CS4.out.t
    iterate 1 ((first | (refine TR.val2 (v := ?_) _ (by simp only [List.getElem?_toArray, List.getElem?_cons_succ, List.getElem?_cons_zero]; rfl) ?_ ?_ ?_ ?_ ?_; rotate_left; (focus rfl); (focus (intro W hSW; (try dsimp only at hSW); go_simp; (try with_reducible rfl); done)); (focus exact fun _ _ _ h => h); (focus assumption)) | (refine TR.skip _ (by simp only [List.getElem?_toArray, List.getElem?_cons_succ, List.getElem?_cons_zero]; rfl) ?_ ?_ ?_ ?_; (focus rfl); (focus exact fun _ _ _ h => h); (focus assumption))); simp only [Act.put, List.setIfInBounds_toArray, List.set_cons_zero, List.set_cons_succ])
    clear hS
    have kc := CS4.out.r1
    have kf := CS4.out.f1
    refine TR.eff _ (by simp only [List.getElem?_toArray, List.getElem?_cons_succ, List.getElem?_cons_zero]; rfl) (by rfl) (fun K hK => ?_); go_simp
    have c4b := (World.cell?_setCell_other w4 ⟨w.heap.size + 1, 0, none⟩ ⟨w.heap.size, 0, none⟩ (.slice A2 k c2) (by intro e; injection e; omega)).trans CS4.out.t
    refine hK.out _ _ c4b ?_
    clear hK
    have ku := CS4.out.r2
    have kg := CS4.out.f2
    refine TR.eff _ (by simp only [List.getElem?_toArray, List.getElem?_cons_succ, List.getElem?_cons_zero]; rfl) (by rfl) (fun K hK => ?_); go_simp
    refine hK.out _ _ ((World.cell?_setCell_other _ _ _ _ (by intro e; injection e; omega)).trans c4b) ?_
    clear hK
    refine TR.done ?_
    go_wp2_with fail
    refine bodyPost_ret (v := .tuple #[.agg #[.slice A2 k c2], .agg #[.slice A4 (n - k) c4]]) (by simp [results, Try.results31, go_sem, kc, ku]) rfl ?_
    obtain ⟨f1, f2, f3⟩ := CS4.out.fin O0.out O1.out
    exact ⟨A2, k, c2, A4, _, c4, rfl, f1, f2, f3⟩
set_option maxHeartbeats 8000000 in
theorem rcut_full (key : ByteArray) (L : List KV) (B : Nat) (A : Option Addr) (n c : Nat) (w : World) (hr : RTab w B A n c L) (hB : B ≤ w.heap.size) (ha : asc L) (hn : n ≤ 1000000) (hcc0 : c = (lo key L).length) :
    Calls Try.prog 31 #[.agg #[.slice A n c], .string key] w (RCutPost w (lo key L) (hi key L)) := by
  obtain ⟨hr, hnc, hcm, _⟩ := hr
  have HN := Lib.hid (show L.length = n by rw [← hr.len, pvs_len])
  have CS0 := Lib.hid (CutS.start (A := A) (n := n) (c := c) w hB hr)
  have HP := Lib.hid (fun V (hV : Below w.heap.size w V) => rplace_v key L B A n c V (Reads.below hr (hV.mono hB)) (Nat.le_trans hB hV.size) ha hn)
  have HTL := Lib.hid (take_lo key ha)
  have HDL := Lib.hid (drop_lo key ha)
  have hkn := lo_len key L
  rw [HN.out] at hkn
  clear hr
  generalize hk : (lo key L).length = k at *
  clear hk
  have hn1 : k = n := by omega
  have HGN := Lib.hid (show (hi key L).length = 0 by rw [← HDL.out, List.length_drop, HN.out]; omega)
  have hcc1 : k = c := hcc0.symm
  clear hcc0
  subst hcc1
  subst hn1
  have hk0 : (0 : Int) ≤ (k : Int) := by omega
  have hk1 : (k : Int) ≤ (k : Int) := by omega
  have hkc : (k : Int) ≤ (k : Int) := by omega
  have hkc' : k ≤ k := by omega
  go_enter Try.func31, Try.ntmps31
  go_wp2_with fail
  generalize ((w.alloc (.cells #[.slice A k k] 44)).alloc (.cells #[.slice none 0 0] 44)).alloc (.cells #[.slice none 0 0] 44) = w0 at *
  refine (HP.out w0 CS0.out.b).mono ?_
  rintro e w1 ⟨rfl, hb1⟩
  have CS1 := Lib.hid (CS0.out.step hB (hb1.mono CS0.out.z) hb1.size)
  have hz1 : w.heap.size + 1 + 1 + 1 ≤ w1.heap.size := CS1.out.z
  have c1 := CS1.out.t
  clear hb1 CS0 HP
  go_wp2_with fail
  refine wp_region_tree (SK.one 1 false <| .one 2 false <| .one 3 false <| .one 4 false <| .one 8 false <| .one 9 false <| .one 10 false <| .one 11 false <|
    .two 0 (.two 5 (.one 6 false <| .one 7 true <| .one 12 true <| .one 13 false <| .one 14 true <| .one 15 true .done) 7 (.one 5 true <| .one 6 false <| .one 12 true <| .one 13 false <| .one 14 true <| .one 15 true .done))
      7 (.one 0 true <| .one 5 true <| .one 6 false <| .one 12 true <| .one 13 false <| .one 14 true <| .one 15 true .done)) (fun V => V.cell? ⟨w.heap.size, 0, none⟩ = some (.slice A k k)) (by kernel_rfl) (by kernel_rfl) (by kernel_rfl) (by kernel_rfl) ?_
  have hS : w1.drew.cell? ⟨w.heap.size, 0, none⟩ = some (.slice A k k) := c1
  iterate 7 ((first | (refine TR.val2 (v := ?_) _ (by simp only [List.getElem?_toArray, List.getElem?_cons_succ, List.getElem?_cons_zero]; rfl) ?_ ?_ ?_ ?_ ?_; rotate_left; (focus rfl); (focus (intro W hSW; (try dsimp only at hSW); go_simp; (try with_reducible rfl); done)); (focus exact fun _ _ _ h => h); (focus assumption)) | (refine TR.skip _ (by simp only [List.getElem?_toArray, List.getElem?_cons_succ, List.getElem?_cons_zero]; rfl) ?_ ?_ ?_ ?_; (focus rfl); (focus exact fun _ _ _ h => h); (focus assumption))); simp only [Act.put, List.setIfInBounds_toArray, List.set_cons_zero, List.set_cons_succ])
  iterate 1 ((first | (refine TR.val2 (v := ?_) _ (by simp only [List.getElem?_toArray, List.getElem?_cons_succ, List.getElem?_cons_zero]; rfl) ?_ ?_ ?_ ?_ ?_; rotate_left; (focus rfl); (focus (intro W hSW; (try dsimp only at hSW); go_simp; (try with_reducible rfl); done)); (focus exact fun _ _ _ h => h); (focus assumption)) | (refine TR.skip _ (by simp only [List.getElem?_toArray, List.getElem?_cons_succ, List.getElem?_cons_zero]; rfl) ?_ ?_ ?_ ?_; (focus rfl); (focus exact fun _ _ _ h => h); (focus assumption))); simp only [Act.put, List.setIfInBounds_toArray, List.set_cons_zero, List.set_cons_succ])
  clear hS c1
  have CS2 := Lib.hid (CS1.out.drew hB)
  have HL1 : Hid (0 + k ≤ 3000000000000) := Lib.hid (by omega)
  have HL2 : Hid (0 + 0 ≤ 3000000000000) := Lib.hid (by omega)
  have RLO : Hid (∀ V, CutS w B A k k L V → PReads V B A k (pvs (lo key L))) := Lib.hid fun V hV => by
    have h := PReads.take hV.p (show k ≤ k by omega)
    rwa [show (pvs L).take k = pvs (lo key L) by rw [← HTL.out, pvs, pvs, List.map_take]] at h
  have RHI : Hid (∀ V, CutS w B A k k L V → ∀ D, PReads V B D 0 (pvs (hi key L))) := Lib.hid fun V hV => fun D => ⟨by rw [p3sC_len, pvs_len, HGN.out], fun h => absurd h (by omega)⟩
  have hz2 : w.heap.size + 1 + 1 + 1 ≤ w1.drew.heap.size := hz1
  generalize w1.drew = w2 at *
  clear hz1 CS1
  refine TR.two _ _ (by simp only [List.getElem?_toArray, List.getElem?_cons_zero]; rfl) (by simp only [List.getElem?_toArray, List.getElem?_cons_succ, List.getElem?_cons_zero]; rfl) (by rfl) (by rfl) (fun K hK => ?_) (fun K hK => ?_)
  · go_simp
    have CSA := Lib.hid (CS2.out.alloc hB (.cells #[] 39))
    refine hK.out _ _ CSA.out.t ?_
    clear hK
    have EA := Lib.hid (POwn.empty w2)
    refine TR.two _ _ (by simp only [List.getElem?_toArray, List.getElem?_cons_succ, List.getElem?_cons_zero]; rfl) (by simp only [List.getElem?_toArray, List.getElem?_cons_succ, List.getElem?_cons_zero]; rfl) (by rfl) (by rfl) (fun K hK => ?_) (fun K hK => ?_)
    · refine wp_papp2 (.tmp 10) (.tmp 14) rfl w2.heap.size (some ⟨w2.heap.size, 0, none⟩) 0 0 [] rfl EA.out B A k k (pvs (lo key L)) rfl (RLO.out _ CSA.out) HL1.out (by first | omega | (simp; done) | (simp; omega)) ?_
      intro A2 c2 w3 ho2 hg2 ob2
      rw [Nat.zero_add] at ho2 ob2
      rw [List.nil_append] at ho2
      have CS3 := Lib.hid (CSA.out.app hB EA.out (by first | omega | (simp; done) | (simp; omega)) hg2)
      refine hK.out _ _ CS3.out.t ?_
      clear hK
      (try simp only [Act.put, List.setIfInBounds_toArray, List.set_cons_zero, List.set_cons_succ, Nat.zero_add])
      have O0 := Lib.hid ho2
      have hz3 := CS3.out.z
      clear ho2 hg2
      have hS : w3.cell? ⟨w.heap.size, 0, none⟩ = some (.slice A k k) := CS3.out.t
      iterate 1 ((first | (refine TR.val2 (v := ?_) _ (by simp only [List.getElem?_toArray, List.getElem?_cons_succ, List.getElem?_cons_zero]; rfl) ?_ ?_ ?_ ?_ ?_; rotate_left; (focus rfl); (focus (intro W hSW; (try dsimp only at hSW); go_simp; (try with_reducible rfl); done)); (focus exact fun _ _ _ h => h); (focus assumption)) | (refine TR.skip _ (by simp only [List.getElem?_toArray, List.getElem?_cons_succ, List.getElem?_cons_zero]; rfl) ?_ ?_ ?_ ?_; (focus rfl); (focus exact fun _ _ _ h => h); (focus assumption))); simp only [Act.put, List.setIfInBounds_toArray, List.set_cons_zero, List.set_cons_succ])
      clear hS
      refine TR.eff _ (by simp only [List.getElem?_toArray, List.getElem?_cons_succ, List.getElem?_cons_zero]; rfl) (by rfl) (fun K hK => ?_); go_simp
      have CSB := Lib.hid (CS3.out.alloc hB (.cells #[] 39))
      refine hK.out _ _ CSB.out.t ?_
      clear hK
      have O0a := Lib.hid (O0.out.alloc (.cells #[] 39))
      have EB := Lib.hid (POwn.empty w3)
      refine TR.eff _ (by simp only [List.getElem?_toArray, List.getElem?_cons_succ, List.getElem?_cons_zero]; rfl) (by rfl) (fun K hK => ?_)
      refine wp_papp2 (.tmp 17) (.tmp 21) rfl w3.heap.size (some ⟨w3.heap.size, 0, none⟩) 0 0 [] rfl EB.out B _ 0 _ (pvs (hi key L)) rfl (RHI.out _ CSB.out _) HL2.out (by first | omega | (simp; done) | (simp; omega)) ?_
      intro A4 c4 w4 ho4 hg4 _
      rw [Nat.zero_add, List.nil_append] at ho4
      have CS4 := Lib.hid (CSB.out.app hB EB.out (by first | omega | (simp; done) | (simp; omega)) hg4)
      refine hK.out _ _ CS4.out.t ?_
      clear hK
      (try simp only [Act.put, List.setIfInBounds_toArray, List.set_cons_zero, List.set_cons_succ, Nat.zero_add])
      have O1 := Lib.hid ho4
      replace O0 := Lib.hid (O0a.out.kept hg4 (fun h => absurd (O0.out.base_le _ h).2 (Nat.lt_irrefl _)))
      clear hg4 ho4
      have hS : w4.cell? ⟨w.heap.size, 0, none⟩ = some (.slice A k k) := CS4.out.t
      iterate 1 ((first | (refine TR.val2 (v := ?_) _ (by simp only [List.getElem?_toArray, List.getElem?_cons_succ, List.getElem?_cons_zero]; rfl) ?_ ?_ ?_ ?_ ?_; rotate_left; (focus rfl); (focus (intro W hSW; (try dsimp only at hSW); go_simp; (try with_reducible rfl); done)); (focus exact fun _ _ _ h => h); (focus assumption)) | (refine TR.skip _ (by simp only [List.getElem?_toArray, List.getElem?_cons_succ, List.getElem?_cons_zero]; rfl) ?_ ?_ ?_ ?_; (focus rfl); (focus exact fun _ _ _ h => h); (focus assumption))); simp only [Act.put, List.setIfInBounds_toArray, List.set_cons_zero, List.set_cons_succ])
      clear hS
      have kc := CS4.out.r1
      have kf := CS4.out.f1
      refine TR.eff _ (by simp only [List.getElem?_toArray, List.getElem?_cons_succ, List.getElem?_cons_zero]; rfl) (by rfl) (fun K hK => ?_); go_simp
      have c4b := (World.cell?_setCell_other w4 ⟨w.heap.size + 1, 0, none⟩ ⟨w.heap.size, 0, none⟩ (.slice A2 k c2) (by intro e; injection e; omega)).trans CS4.out.t
      refine hK.out _ _ c4b ?_
      clear hK
      have ku := CS4.out.r2
      have kg := CS4.out.f2
      refine TR.eff _ (by simp only [List.getElem?_toArray, List.getElem?_cons_succ, List.getElem?_cons_zero]; rfl) (by rfl) (fun K hK => ?_); go_simp
      refine hK.out _ _ ((World.cell?_setCell_other _ _ _ _ (by intro e; injection e; omega)).trans c4b) ?_
      clear hK
      refine TR.done ?_
      go_wp2_with fail
      refine bodyPost_ret (v := .tuple #[.agg #[.slice A2 k c2], .agg #[.slice A4 0 c4]]) (by simp [results, Try.results31, go_sem, kc, ku]) rfl ?_
      obtain ⟨f1, f2, f3⟩ := CS4.out.fin O0.out O1.out
      exact ⟨A2, k, c2, A4, _, c4, rfl, f1, f2, f3⟩
    · go_simp
      have CSB := Lib.hid (CSA.out.alloc hB (.cells #[] 39))
      refine hK.out _ _ CSB.out.t ?_
      clear hK
      have EA' := Lib.hid (EA.out.alloc (.cells #[] 39))
      have EB := Lib.hid (show POwn ((w2.alloc (.cells #[] 39)).alloc (.cells #[] 39)) w2.heap.size (some ⟨w2.heap.size + 1, 0, none⟩) 0 0 [] by
        have := (POwn.empty (w2.alloc (.cells #[] 39))).down (show w2.heap.size ≤ (w2.alloc (.cells #[] 39)).heap.size by simp)
        rwa [World.size_alloc] at this)
      refine TR.eff _ (by simp only [List.getElem?_toArray, List.getElem?_cons_succ, List.getElem?_cons_zero]; rfl) (by rfl) (fun K hK => ?_)
      refine wp_papp2 (.tmp 10) (.tmp 14) rfl w2.heap.size (some ⟨w2.heap.size, 0, none⟩) 0 0 [] rfl EA'.out B A k k (pvs (lo key L)) rfl (RLO.out _ CSB.out) HL1.out (by first | omega | (simp; done) | (simp; omega)) ?_
      intro A2 c2 w3 ho2 hg2 ob2
      rw [Nat.zero_add] at ho2 ob2
      rw [List.nil_append] at ho2
      have CS3 := Lib.hid (CSB.out.app hB EA'.out (by first | omega | (simp; done) | (simp; omega)) hg2)
      refine hK.out _ _ CS3.out.t ?_
      clear hK
      (try simp only [Act.put, List.setIfInBounds_toArray, List.set_cons_zero, List.set_cons_succ, Nat.zero_add])
      have O0 := Lib.hid ho2
      have E1k := Lib.hid (EB.out.kept hg2 (by simp [Value.ownBlock]))
      have hS : w3.cell? ⟨w.heap.size, 0, none⟩ = some (.slice A k k) := CS3.out.t
      iterate 1 ((first | (refine TR.val2 (v := ?_) _ (by simp only [List.getElem?_toArray, List.getElem?_cons_succ, List.getElem?_cons_zero]; rfl) ?_ ?_ ?_ ?_ ?_; rotate_left; (focus rfl); (focus (intro W hSW; (try dsimp only at hSW); go_simp; (try with_reducible rfl); done)); (focus exact fun _ _ _ h => h); (focus assumption)) | (refine TR.skip _ (by simp only [List.getElem?_toArray, List.getElem?_cons_succ, List.getElem?_cons_zero]; rfl) ?_ ?_ ?_ ?_; (focus rfl); (focus exact fun _ _ _ h => h); (focus assumption))); simp only [Act.put, List.setIfInBounds_toArray, List.set_cons_zero, List.set_cons_succ])
      clear hS
      have hg2s := hg2.size
      simp only [World.size_alloc] at hg2s
      refine TR.eff _ (by simp only [List.getElem?_toArray, List.getElem?_cons_succ, List.getElem?_cons_zero]; rfl) (by rfl) (fun K hK => ?_)
      refine wp_papp2 (.tmp 17) (.tmp 21) rfl w2.heap.size (some ⟨w2.heap.size + 1, 0, none⟩) 0 0 [] rfl E1k.out B _ 0 _ (pvs (hi key L)) rfl (RHI.out _ CS3.out _) HL2.out (by first | omega | (simp; done) | (simp; omega)) ?_
      intro A4 c4 w4 ho4 hg4 _
      rw [Nat.zero_add, List.nil_append] at ho4
      have CS4 := Lib.hid (CS3.out.app hB E1k.out (by first | omega | (simp; done) | (simp; omega)) hg4)
      refine hK.out _ _ CS4.out.t ?_
      clear hK
      (try simp only [Act.put, List.setIfInBounds_toArray, List.set_cons_zero, List.set_cons_succ, Nat.zero_add])
      have O1 := Lib.hid ho4
      replace O0 := Lib.hid (O0.out.kept hg4 (fun h => by
        rcases ob2 with ob | ob
        · rw [ob] at h; simp [Value.ownBlock] at h <;> omega
        · rw [ob] at h; simp [Value.ownBlock] at h <;> omega))
      clear hg4 ho4 ho2 hg2
      have hS : w4.cell? ⟨w.heap.size, 0, none⟩ = some (.slice A k k) := CS4.out.t
      iterate 1 ((first | (refine TR.val2 (v := ?_) _ (by simp only [List.getElem?_toArray, List.getElem?_cons_succ, List.getElem?_cons_zero]; rfl) ?_ ?_ ?_ ?_ ?_; rotate_left; (focus rfl); (focus (intro W hSW; (try dsimp only at hSW); go_simp; (try with_reducible rfl); done)); (focus exact fun _ _ _ h => h); (focus assumption)) | (refine TR.skip _ (by simp only [List.getElem?_toArray, List.getElem?_cons_succ, List.getElem?_cons_zero]; rfl) ?_ ?_ ?_ ?_; (focus rfl); (focus exact fun _ _ _ h => h); (focus assumption))); simp only [Act.put, List.setIfInBounds_toArray, List.set_cons_zero, List.set_cons_succ])
      clear hS
      have kc := CS4.out.r1
      have kf := CS4.out.f1
      refine TR.eff _ (by simp only [List.getElem?_toArray, List.getElem?_cons_succ, List.getElem?_cons_zero]; rfl) (by rfl) (fun K hK => ?_); go_simp
      have c4b := (World.cell?_setCell_other w4 ⟨w.heap.size + 1, 0, none⟩ ⟨w.heap.size, 0, none⟩ (.slice A2 k c2) (by intro e; injection e; omega)).trans CS4.out.t
      refine hK.out _ _ c4b ?_
      clear hK
      have ku := CS4.out.r2
      have kg := CS4.out.f2
      refine TR.eff _ (by simp only [List.getElem?_toArray, List.getElem?_cons_succ, List.getElem?_cons_zero]; rfl) (by rfl) (fun K hK => ?_); go_simp
      refine hK.out _ _ ((World.cell?_setCell_other _ _ _ _ (by intro e; injection e; omega)).trans c4b) ?_
      clear hK
      refine TR.done ?_
      go_wp2_with fail
      refine bodyPost_ret (v := .tuple #[.agg #[.slice A2 k c2], .agg #[.slice A4 0 c4]]) (by simp [results, Try.results31, go_sem, kc, ku]) rfl ?_
      obtain ⟨f1, f2, f3⟩ := CS4.out.fin O0.out O1.out
      exact ⟨A2, k, c2, A4, _, c4, rfl, f1, f2, f3⟩
  · go_simp
    have CSA := Lib.hid (CS2.out.alloc hB (.cells #[] 39))
    refine hK.out _ _ CSA.out.t ?_
    clear hK
    have EA := Lib.hid (POwn.empty w2)
    refine TR.eff _ (by simp only [List.getElem?_toArray, List.getElem?_cons_zero]; rfl) (by rfl) (fun K hK => ?_); go_simp
    have CSB := Lib.hid (CSA.out.alloc hB (.cells #[] 39))
    refine hK.out _ _ CSB.out.t ?_
    clear hK
    have EA' := Lib.hid (EA.out.alloc (.cells #[] 39))
    have EB := Lib.hid (show POwn ((w2.alloc (.cells #[] 39)).alloc (.cells #[] 39)) w2.heap.size (some ⟨w2.heap.size + 1, 0, none⟩) 0 0 [] by
      have := (POwn.empty (w2.alloc (.cells #[] 39))).down (show w2.heap.size ≤ (w2.alloc (.cells #[] 39)).heap.size by simp)
      rwa [World.size_alloc] at this)
    refine TR.eff _ (by simp only [List.getElem?_toArray, List.getElem?_cons_succ, List.getElem?_cons_zero]; rfl) (by rfl) (fun K hK => ?_)
    refine wp_papp2 (.tmp 10) (.tmp 14) rfl w2.heap.size (some ⟨w2.heap.size + 1, 0, none⟩) 0 0 [] rfl EB.out B A k k (pvs (lo key L)) rfl (RLO.out _ CSB.out) HL1.out (by first | omega | (simp; done) | (simp; omega)) ?_
    intro A2 c2 w3 ho2 hg2 ob2
    rw [Nat.zero_add] at ho2 ob2
    rw [List.nil_append] at ho2
    have CS3 := Lib.hid (CSB.out.app hB EB.out (by first | omega | (simp; done) | (simp; omega)) hg2)
    refine hK.out _ _ CS3.out.t ?_
    clear hK
    (try simp only [Act.put, List.setIfInBounds_toArray, List.set_cons_zero, List.set_cons_succ, Nat.zero_add])
    have O0 := Lib.hid ho2
    have E1k := Lib.hid (EA'.out.kept hg2 (by simp [Value.ownBlock]))
    have hS : w3.cell? ⟨w.heap.size, 0, none⟩ = some (.slice A k k) := CS3.out.t
    iterate 1 ((first | (refine TR.val2 (v := ?_) _ (by simp only [List.getElem?_toArray, List.getElem?_cons_succ, List.getElem?_cons_zero]; rfl) ?_ ?_ ?_ ?_ ?_; rotate_left; (focus rfl); (focus (intro W hSW; (try dsimp only at hSW); go_simp; (try with_reducible rfl); done)); (focus exact fun _ _ _ h => h); (focus assumption)) | (refine TR.skip _ (by simp only [List.getElem?_toArray, List.getElem?_cons_succ, List.getElem?_cons_zero]; rfl) ?_ ?_ ?_ ?_; (focus rfl); (focus exact fun _ _ _ h => h); (focus assumption))); simp only [Act.put, List.setIfInBounds_toArray, List.set_cons_zero, List.set_cons_succ])
    clear hS
    have hg2s := hg2.size
    simp only [World.size_alloc] at hg2s
    refine TR.eff _ (by simp only [List.getElem?_toArray, List.getElem?_cons_succ, List.getElem?_cons_zero]; rfl) (by rfl) (fun K hK => ?_)
    refine wp_papp2 (.tmp 17) (.tmp 21) rfl w2.heap.size (some ⟨w2.heap.size, 0, none⟩) 0 0 [] rfl E1k.out B _ 0 _ (pvs (hi key L)) rfl (RHI.out _ CS3.out _) HL2.out (by first | omega | (simp; done) | (simp; omega)) ?_
    intro A4 c4 w4 ho4 hg4 _
    rw [Nat.zero_add, List.nil_append] at ho4
    have CS4 := Lib.hid (CS3.out.app hB E1k.out (by first | omega | (simp; done) | (simp; omega)) hg4)
    refine hK.out _ _ CS4.out.t ?_
    clear hK
    (try simp only [Act.put, List.setIfInBounds_toArray, List.set_cons_zero, List.set_cons_succ, Nat.zero_add])
    have O1 := Lib.hid ho4
    replace O0 := Lib.hid (O0.out.kept hg4 (fun h => by
      rcases ob2 with ob | ob
      · rw [ob] at h; simp [Value.ownBlock] at h <;> omega
      · rw [ob] at h; simp [Value.ownBlock] at h <;> omega))
    clear hg4 ho4 ho2 hg2
    have hS : w4.cell? ⟨w.heap.size, 0, none⟩ = some (.slice A k k) := CS4.out.t
    iterate 1 ((first | (refine TR.val2 (v := ?_) _ (by simp only [List.getElem?_toArray, List.getElem?_cons_succ, List.getElem?_cons_zero]; rfl) ?_ ?_ ?_ ?_ ?_; rotate_left; (focus rfl); (focus (intro W hSW; (try dsimp only at hSW); go_simp; (try with_reducible rfl); done)); (focus exact fun _ _ _ h => h); (focus assumption)) | (refine TR.skip _ (by simp only [List.getElem?_toArray, List.getElem?_cons_succ, List.getElem?_cons_zero]; rfl) ?_ ?_ ?_ ?_; (focus rfl); (focus exact fun _ _ _ h => h); (focus assumption))); simp only [Act.put, List.setIfInBounds_toArray, List.set_cons_zero, List.set_cons_succ])
    clear hS
    have kc := CS4.out.r1
    have kf := CS4.out.f1
    refine TR.eff _ (by simp only [List.getElem?_toArray, List.getElem?_cons_succ, List.getElem?_cons_zero]; rfl) (by rfl) (fun K hK => ?_); go_simp
    have c4b := (World.cell?_setCell_other w4 ⟨w.heap.size + 1, 0, none⟩ ⟨w.heap.size, 0, none⟩ (.slice A2 k c2) (by intro e; injection e; omega)).trans CS4.out.t
    refine hK.out _ _ c4b ?_
    clear hK
    have ku := CS4.out.r2
    have kg := CS4.out.f2
    refine TR.eff _ (by simp only [List.getElem?_toArray, List.getElem?_cons_succ, List.getElem?_cons_zero]; rfl) (by rfl) (fun K hK => ?_); go_simp
    refine hK.out _ _ ((World.cell?_setCell_other _ _ _ _ (by intro e; injection e; omega)).trans c4b) ?_
    clear hK
    refine TR.done ?_
    go_wp2_with fail
    refine bodyPost_ret (v := .tuple #[.agg #[.slice A2 k c2], .agg #[.slice A4 0 c4]]) (by simp [results, Try.results31, go_sem, kc, ku]) rfl ?_
    obtain ⟨f1, f2, f3⟩ := CS4.out.fin O0.out O1.out
    exact ⟨A2, k, c2, A4, _, c4, rfl, f1, f2, f3⟩
theorem rcut_v (key : ByteArray) (L : List KV) (B : Nat) (A : Option Addr) (n c : Nat) (w : World) (hr : RTab w B A n c L) (hB : B ≤ w.heap.size) (ha : asc L) (hn : n ≤ 1000000) :
    Calls Try.prog 31 #[.agg #[.slice A n c], .string key] w (RCutPost w (lo key L) (hi key L)) := by
  by_cases h : c = (lo key L).length
  · exact rcut_full key L B A n c w hr hB ha hn h
  · cases A with
    | none =>
      have h1 := hr.2.2.2 rfl
      have h2 := hr.2.1
      have h3 := lo_len key L
      have h4 : L.length = n := by rw [← hr.1.len, pvs_len]
      omega
    | some ad => exact rcut_more key L B ad n c w hr hB ha hn h
end Go.Proofs.Ytohcdnbchidjeaa
