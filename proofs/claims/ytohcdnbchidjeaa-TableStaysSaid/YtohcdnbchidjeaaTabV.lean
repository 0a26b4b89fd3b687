/-
  Tables in memory: Nodes.
-/
import Derived.Test.YtohcdnbchidjeaaTabO
import Derived.Test.YtohcdnbchidjeaaTextE
import Derived.Laws.EntriesVeiled
namespace Go.Proofs.Ytohcdnbchidjeaa
open Go.RowKit
/-- A captured slice of pairs in its cell ⟨g, 0⟩; its rows lie from block 'base' on. -/
theorem push_out' {W w2 : World} {g n c c' base : Nat} {A A' : Option Addr} {out : List P3} {x : P3} (hgb : g < base) (hbs : base ≤ W.heap.size) (hc : W.cell? ⟨g, 0, none⟩ = some (.slice A n c)) (hf : W.frozen? ⟨g, 0, none⟩ = false)
    (ho : POwn W base A n c out) (h2 : POwn w2 base A' (n + 1) c' (out ++ [x])) (hg : W.grownBy w2 (Value.slice A n c).ownBlock) :
    Out (w2.setCell ⟨g, 0, none⟩ (.slice A' (n + 1) c')) g base (out ++ [x]) ∧ Below g W (w2.setCell ⟨g, 0, none⟩ (.slice A' (n + 1) c')) ∧ W.heap.size ≤ (w2.setCell ⟨g, 0, none⟩ (.slice A' (n + 1) c')).heap.size := by
  have hl : (out ++ [x]).length = n + 1 := h2.len
  have c2 := gb_cell hg ho hc hgb (by omega)
  have f2 := gb_frozen hg ho hf hgb (by omega)
  refine ⟨⟨A', c', ?_, ?_, ?_⟩, (below_papp (Below.refl g W) hg ho (Nat.le_of_lt hgb) (by omega)).setCell (Nat.le_refl _) _, ?_⟩
  · rw [hl]; exact World.cell?_setCell_same w2 _ _ c2
  · rw [World.frozen?_setCell]; exact f2
  · rw [hl]; exact h2.setCell hgb _
  · have := hg.size; simpa using this
theorem Out.len {W : World} {g base : Nat} {out : List P3} (h : Out W g base out) : ∃ A c, W.cell? ⟨g, 0, none⟩ = some (.slice A out.length c) ∧ W.frozen? ⟨g, 0, none⟩ = false ∧ POwn W base A out.length c out := h
def NodesI (W0 : World) (g base : Nat) (m : Nat) (out : List P3) (W : World) : Prop :=
  Below g W0 W ∧ base ≤ W.heap.size ∧ W.cell? ⟨g + 1, 0, none⟩ = some (.func (.func 41) #[] #[.pointer (some ⟨g, 0, none⟩), .pointer (some ⟨g + 1, 0, none⟩)]) ∧ Out W g base out ∧ out.length + m ≤ 1000000
theorem NodesI.drew {W0 : World} {g base m : Nat} {out : List P3} {W : World} (h : NodesI W0 g base m out W) : NodesI W0 g base m out W.drew := ⟨h.1.drew, h.2.1, h.2.2.1, h.2.2.2.1, h.2.2.2.2⟩
def NodesPost (W0 : World) (g base m : Nat) (out : List P3) (e : Ending) (W' : World) : Prop := e = .returned (.tuple #[]) ∧ NodesI W0 g base m out W'
set_option maxHeartbeats 2000000 in
theorem nodes1_v (W0 : World) (g base B : Nat) (hgb : g + 1 < base) (hBg : B ≤ g) : ∀ (t : Tr) (p : Option Addr) (m : Nat) (out : List P3) (W : World), Rep W0 B t p → NodesI W0 g base (m + t.cnt) out W →
    Calls Try.prog 41 #[.pointer p, .pointer (some ⟨g, 0, none⟩), .pointer (some ⟨g + 1, 0, none⟩)] W (NodesPost W0 g base m (out ++ pvs t.pre))
  | .nil, p, m, out, W, h, hI => by
    obtain rfl : p = none := h
    go_enter Try.func41, Try.ntmps41
    go_wp2
    refine bodyPost_end (results_none rfl _ _ _) rfl ?_
    exact ⟨rfl, by simpa [pvs, Tr.pre, Tr.cnt] using hI⟩
  | .node l k v r, p, m, out, W, h, hI => by
    have ihl := nodes1_v W0 g base B hgb hBg l
    have ihr := nodes1_v W0 g base B hgb hBg r
    obtain ⟨b, pl, pr, rfl, hb, ⟨h0, h1, _, _, h4, h5⟩, hl, hr⟩ := h
    obtain ⟨hb0, hbs, hw, ⟨A, c, hc, hf, ho⟩, hlen⟩ := hI
    have hbg : b < g := by omega
    have e0 : W.cell? ⟨b, 0, none⟩ = some (.string k) := (hb0.cell (p := ⟨b, 0, none⟩) hbg).trans h0
    have e1 : W.cell? ⟨b, 1, none⟩ = some (.string v) := (hb0.cell (p := ⟨b, 1, none⟩) hbg).trans h1
    have hbW : b < W.heap.size := by omega
    have FA := Lib.hid (show (W.alloc (.cells #[.string k, .string v, .bool false] 39)).drew.cell? ⟨b, 0, none⟩ = some (.string k) ∧ (W.alloc (.cells #[.string k, .string v, .bool false] 39)).drew.cell? ⟨b, 1, none⟩ = some (.string v) from ⟨(World.cell?_alloc_lt W _ _ hbW).trans e0, (World.cell?_alloc_lt W _ _ hbW).trans e1⟩)
    have IL := Lib.hid ihl
    have IR := Lib.hid ihr
    have HL := Lib.hid hl
    have HR := Lib.hid hr
    have HB0 := Lib.hid hb0
    have HO := Lib.hid ho
    have HW := Lib.hid hw
    have HF := Lib.hid hf
    have HC := Lib.hid hc
    have H4 := Lib.hid h4
    have H5 := Lib.hid h5
    have HLEN := Lib.hid hlen
    clear ihl ihr hl hr hb0 ho hw hf hlen h4 h5 h0 h1
    obtain ⟨n, hnn⟩ : ∃ n, out.length = n := ⟨_, rfl⟩
    rw [hnn] at hc HO HC
    have HNN := Lib.hid hnn
    clear hnn
    have hgW : g < W.heap.size := by omega
    have GA := Lib.hid (show (W.alloc (.cells #[.string k, .string v, .bool false] 39)).drew.cell? ⟨g, 0, none⟩ = some (.slice A n c) from (World.cell?_alloc_lt W _ _ hgW).trans hc)
    have FRA := Lib.hid (show (W.alloc (.cells #[.string k, .string v, .bool false] 39)).drew.frozen? ⟨g, 0, none⟩ = false from (World.frozen?_alloc_past _ _ _ hgW).trans HF.out)
    have WA := Lib.hid (show (W.alloc (.cells #[.string k, .string v, .bool false] 39)).drew.cell? ⟨g + 1, 0, none⟩ = _ from (World.cell?_alloc_lt W _ ⟨g + 1, 0, none⟩ (show g + 1 < W.heap.size by omega)).trans HW.out)
    have OA := Lib.hid (show POwn (W.alloc (.cells #[.string k, .string v, .bool false] 39)).drew base A n c out from (HO.out.alloc _).drew)
    have RA := Lib.hid (show PReads (W.alloc (.cells #[.string k, .string v, .bool false] 39)).drew (W.heap.size + 1) (some ⟨W.heap.size, 0, none⟩) 1 [pv (k, v)] from PReads.one W (pv (k, v)) _)
    have SA := Lib.hid (show base ≤ (W.alloc (.cells #[.string k, .string v, .bool false] 39)).drew.heap.size by simp; omega)
    have BA := Lib.hid (show Below g W0 (W.alloc (.cells #[.string k, .string v, .bool false] 39)).drew from (HB0.out.alloc (by omega) _).drew)
    have NA := Lib.hid (show n + 1 ≤ 3000000000000 by have := HLEN.out; have := HNN.out; omega)
    go_enter Try.func41, Try.ntmps41
    go_wp2_with fail
    refine wp_region_E 11 [(0, 2), (1, 1), (2, 1), (3, 1), (4, 1), (5, 1), (6, 1), (7, 1), (8, 1), (9, 1), (10, 0), (11, 4), (12, 4)] (fun V => V.cell? ⟨b, 0, none⟩ = some (.string k) ∧ V.cell? ⟨b, 1, none⟩ = some (.string v)) (fun V => V.cell? ⟨g, 0, none⟩ = some (.slice A n c)) (by kernel_rfl) (by kernel_rfl) (by kernel_rfl) (by kernel_rfl) (by kernel_rfl) (fun _ => ?_)
    simp only [outE, List.getElem?_cons_zero, List.getElem?_cons_succ, Option.getD_some]
    have hF : W.drew.cell? ⟨b, 0, none⟩ = some (.string k) ∧ W.drew.cell? ⟨b, 1, none⟩ = some (.string v) := ⟨e0, e1⟩
    have hG : W.drew.cell? ⟨g, 0, none⟩ = some (.slice A n c) := hc
    clear e0 e1 hc
    iterate 1 (refine TE.val2 (v := ?_) ?_ ?_ ?_ ?_ ?_ ?_; rotate_left; (focus rfl); (focus (intro W hSW; (try dsimp only at hSW); (try (obtain ⟨hS1, hSW⟩ := hSW)); (try (obtain ⟨hS2, hSW⟩ := hSW)); (try (obtain ⟨hS3, hSW⟩ := hSW)); (try (obtain ⟨hS4, hSW⟩ := hSW)); (try (obtain ⟨hS5, hSW⟩ := hSW)); go_simp; (try with_reducible rfl); done)); (focus exact fun _ _ _ h => h); (focus exact hF); (focus exact hG); simp only [Act.put, List.setIfInBounds_toArray, List.set_cons_zero, List.set_cons_succ])
    iterate 9 (refine TE.val1 (v := ?_) ?_ ?_ ?_ ?_ ?_ ?_; rotate_left; (focus rfl); (focus (intro W hSW; (try dsimp only at hSW); (try (obtain ⟨hS1, hSW⟩ := hSW)); (try (obtain ⟨hS2, hSW⟩ := hSW)); (try (obtain ⟨hS3, hSW⟩ := hSW)); (try (obtain ⟨hS4, hSW⟩ := hSW)); (try (obtain ⟨hS5, hSW⟩ := hSW)); go_simp; (try with_reducible rfl); done)); (focus exact fun _ _ _ h => h); (focus exact hF); (focus exact hG); simp only [Act.put, List.setIfInBounds_toArray, List.set_cons_zero, List.set_cons_succ])
    refine TE.eff0 (by rfl) (fun K hK => ?_); go_simp
    (try (go_wp2_with fail)); refine hK.out _ _ FA.out GA.out ?_; clear hK; (try simp only [Act.put, List.setIfInBounds_toArray, List.set_cons_zero, List.set_cons_succ])
    refine TE.eff4 (by rfl) (fun K hK => ?_)
    refine wp_papp (.tmp 6) (.tmp 16) rfl base A n c out rfl OA.out (W.heap.size + 1) (some ⟨W.heap.size, 0, none⟩) 1 1 [pv (k, v)] rfl RA.out NA.out SA.out ?_
    intro A2 c2 w2 ho2 hg2
    have hsA : W.heap.size ≤ (W.alloc (.cells #[.string k, .string v, .bool false] 39)).drew.heap.size := by simp
    have F2 : w2.cell? ⟨b, 0, none⟩ = some (.string k) ∧ w2.cell? ⟨b, 1, none⟩ = some (.string v) := ⟨gb_cell hg2 OA.out FA.out.1 (by omega) (by omega), gb_cell hg2 OA.out FA.out.2 (by omega) (by omega)⟩
    have W2 := Lib.hid (gb_cell hg2 OA.out WA.out hgb (by omega))
    have kc := gb_cell hg2 OA.out GA.out (by omega) (by omega)
    have kf := gb_frozen hg2 OA.out FRA.out (by omega) (by omega)
    have HP := Lib.hid (push_out' (by omega) SA.out GA.out FRA.out OA.out ho2 hg2)
    clear ho2 hg2
    refine hK.out _ _ F2 ?_
    clear hK
    simp only [Act.put, List.setIfInBounds_toArray, List.set_cons_zero, List.set_cons_succ]
    refine TE.eff4 (by rfl) (fun K hK => ?_); go_simp
    refine hK.out _ _ ⟨(World.cell?_setCell_far w2 _ _ _ (show g ≠ b by omega)).trans F2.1, (World.cell?_setCell_far w2 _ _ _ (show g ≠ b by omega)).trans F2.2⟩ ?_
    clear hK
    refine TE.done ?_
    have HI : Hid (NodesI W0 g base ((m + r.cnt) + l.cnt) (out ++ [pv (k, v)]) (w2.setCell ⟨g, 0, none⟩ (.slice A2 (n + 1) c2))) := Lib.hid
      ⟨BA.out.trans HP.out.2.1, Nat.le_trans SA.out HP.out.2.2, (World.cell?_setCell_far w2 _ _ _ (show g ≠ g + 1 by omega)).trans W2.out, HP.out.1, by have := HLEN.out; simp only [Tr.cnt, List.length_append, List.length_cons, List.length_nil] at *; omega⟩
    have hw := (World.cell?_setCell_far w2 ⟨g, 0, none⟩ ⟨g + 1, 0, none⟩ (.slice A2 (n + 1) c2) (show g ≠ g + 1 by omega)).trans W2.out
    clear kc kf F2 W2 HP FA GA FRA WA OA RA SA BA NA HC HW HF HO hF hG
    generalize w2.setCell ⟨g, 0, none⟩ (.slice A2 (n + 1) c2) = W3 at *
    have e4 : W3.cell? ⟨b, 4, none⟩ = some (.pointer pl) := (HI.out.1.cell (p := ⟨b, 4, none⟩) hbg).trans H4.out
    go_wp2
    go_still_tail 5, (by kernel_rfl)
    go_wp2_with fail
    refine (IL.out pl (m + r.cnt) _ W3.drew HL.out HI.out.drew).mono ?_
    intro e W4 hE
    obtain ⟨rfl, hi4⟩ := hE
    have HI4 := Lib.hid hi4
    clear hi4 hw e4
    have hw4 := HI4.out.2.2.1
    have e5 : W4.cell? ⟨b, 5, none⟩ = some (.pointer pr) := (HI4.out.1.cell (p := ⟨b, 5, none⟩) hbg).trans H5.out
    go_wp2
    go_still_tail 5, (by kernel_rfl)
    go_wp2_with fail
    refine (IR.out pr m _ W4.drew HR.out HI4.out.drew).mono ?_
    intro e W5 hE
    obtain ⟨rfl, hi5⟩ := hE
    have HI5 := Lib.hid hi5
    clear hi5 hw4 e5
    go_wp2
    refine bodyPost_end (results_none rfl _ _ _) rfl ?_
    refine ⟨rfl, ?_⟩
    have := HI5.out
    simpa [pvs, Tr.pre, pv] using this
theorem nodes_v (t : Tr) (B : Nat) (p : Option Addr) (w : World) (h : Rep w B t p) (hB : B ≤ w.heap.size) (hn : t.cnt ≤ 1000000) :
    Calls Try.prog 17 #[.agg #[.pointer p]] w (SlPost w (pvs t.pre)) := by
  have e1 : Below w.heap.size w ((((w.alloc (.cells #[.pointer p] 24)).alloc (.cells #[.slice none 0 0] 33)).alloc (.cells #[.func (.func 41) #[] #[.pointer (some ⟨w.heap.size + 1, 0, none⟩), .pointer (some ⟨w.heap.size + 1 + 1, 0, none⟩)]] 68))) := (((Below.refl _ _).alloc (Nat.le_refl _) _).alloc (by simp) _).alloc (by simp; omega) _
  have E1 := Lib.hid e1
  have HR := Lib.hid (Rep.below h (e1.mono hB))
  have HSZ := Lib.hid (show ((((w.alloc (.cells #[.pointer p] 24)).alloc (.cells #[.slice none 0 0] 33)).alloc (.cells #[.func (.func 41) #[] #[.pointer (some ⟨w.heap.size + 1, 0, none⟩), .pointer (some ⟨w.heap.size + 1 + 1, 0, none⟩)]] 68))).heap.size = w.heap.size + 1 + 1 + 1 by simp)
  have CO := Lib.hid (show ((((w.alloc (.cells #[.pointer p] 24)).alloc (.cells #[.slice none 0 0] 33)).alloc (.cells #[.func (.func 41) #[] #[.pointer (some ⟨w.heap.size + 1, 0, none⟩), .pointer (some ⟨w.heap.size + 1 + 1, 0, none⟩)]] 68))).cell? ⟨w.heap.size + 1, 0, none⟩ = some (.slice none 0 0) by rw [World.cell?_alloc_lt _ _ _ (by simp), World.cell?_alloc_at _ _ _ _ (by simp)]; rfl)
  have FO := Lib.hid (show ((((w.alloc (.cells #[.pointer p] 24)).alloc (.cells #[.slice none 0 0] 33)).alloc (.cells #[.func (.func 41) #[] #[.pointer (some ⟨w.heap.size + 1, 0, none⟩), .pointer (some ⟨w.heap.size + 1 + 1, 0, none⟩)]] 68))).frozen? ⟨w.heap.size + 1, 0, none⟩ = false from (World.frozen?_alloc_past _ _ _ (by simp)).trans (World.frozen?_alloc_at _ _ _ _ (by simp)))
  have CW := Lib.hid (show ((((w.alloc (.cells #[.pointer p] 24)).alloc (.cells #[.slice none 0 0] 33)).alloc (.cells #[.func (.func 41) #[] #[.pointer (some ⟨w.heap.size + 1, 0, none⟩), .pointer (some ⟨w.heap.size + 1 + 1, 0, none⟩)]] 68))).cell? ⟨w.heap.size + 1 + 1, 0, none⟩ = some (.func (.func 41) #[] #[.pointer (some ⟨w.heap.size + 1, 0, none⟩), .pointer (some ⟨w.heap.size + 1 + 1, 0, none⟩)]) by rw [World.cell?_alloc_at _ _ _ _ (by simp)]; rfl)
  clear h e1
  go_enter Try.func17, Try.ntmps17
  go_wp2_with fail
  generalize ((((w.alloc (.cells #[.pointer p] 24)).alloc (.cells #[.slice none 0 0] 33)).alloc (.cells #[.func (.func 41) #[] #[.pointer (some ⟨w.heap.size + 1, 0, none⟩), .pointer (some ⟨w.heap.size + 1 + 1, 0, none⟩)]] 68))) = W0 at *
  have hI0 : NodesI W0 (w.heap.size + 1) (w.heap.size + 1 + 1 + 1) (0 + t.cnt) [] W0 := ⟨Below.refl _ _, by rw [HSZ.out]; omega, CW.out, ⟨none, 0, CO.out, FO.out, POwn.nil_ _ _⟩, by simp; omega⟩
  refine (nodes1_v W0 (w.heap.size + 1) (w.heap.size + 1 + 1 + 1) B (by omega) (by omega) t p 0 [] W0 HR.out hI0).mono ?_
  intro e W1 hE
  obtain ⟨rfl, hi⟩ := hE
  rw [List.nil_append] at hi
  obtain ⟨hb1, _, _, ⟨A, c, hc1, _, ho1⟩, _⟩ := hi
  have HB1 := Lib.hid hb1
  have HO1 := Lib.hid ho1
  clear hb1 ho1 hI0
  go_wp2
  go_ret
  exact ⟨A, c, rfl, HO1.out.down (by omega), E1.out.trans (HB1.out.mono (by omega))⟩
end Go.Proofs.Ytohcdnbchidjeaa
