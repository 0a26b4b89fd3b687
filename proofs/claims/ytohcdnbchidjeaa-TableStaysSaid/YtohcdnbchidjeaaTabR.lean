/-
  Tables in memory: Range, Next.
-/
import Derived.Test.YtohcdnbchidjeaaTabE
import Derived.Test.YtohcdnbchidjeaaTabS
import Derived.Deep.RegionLaw
namespace Go.Proofs.Ytohcdnbchidjeaa
open Go.RowKit
def pvs (l : List KV) : List P3 := l.map pv
theorem pvs_snoc (l : List KV) (x : KV) : pvs (l ++ [x]) = pvs l ++ [pv x] := by simp [pvs]
/-- A captured slice of pairs in its cell ⟨g, 0⟩. -/
def Out (W : World) (g base : Nat) (out : List P3) : Prop :=
  ∃ A c, W.cell? ⟨g, 0, none⟩ = some (.slice A out.length c) ∧ W.frozen? ⟨g, 0, none⟩ = false ∧ POwn W base A out.length c out
theorem Out.below {W W' : World} {g base : Nat} {out : List P3} (h : Out W g base out) (hg : g < W.heap.size) (hb : Below W.heap.size W W') : Out W' g base out := by
  obtain ⟨A, c, h1, h2, h3⟩ := h
  exact ⟨A, c, keepC hb h1 hg, keepF hb h2 hg, h3.below hb⟩
theorem gb_cell {W W' : World} {A : Option Addr} {n c g base o : Nat} {out : List P3} {x : Option Value} (hg : W.grownBy W' (Value.slice A n c).ownBlock) (ho : POwn W base A n c out) (h : W.cell? ⟨g, o, none⟩ = x) (hlt : g < base) (hgs : g < W.heap.size) : W'.cell? ⟨g, o, none⟩ = x :=
  (World.cell?_of_block (a := ⟨g, o, none⟩) (hg.block g hgs (fun e => by have := (ho.base_le g e.symm).1; omega))).trans h
theorem gb_frozen {W W' : World} {A : Option Addr} {n c g base o : Nat} {out : List P3} {x : Bool} (hg : W.grownBy W' (Value.slice A n c).ownBlock) (ho : POwn W base A n c out) (h : W.frozen? ⟨g, o, none⟩ = x) (hlt : g < base) (hgs : g < W.heap.size) : W'.frozen? ⟨g, o, none⟩ = x :=
  (World.frozen?_of_block (a := ⟨g, o, none⟩) (hg.block g hgs (fun e => by have := (ho.base_le g e.symm).1; omega))).trans h
theorem push_out {W w2 : World} {g n c c' : Nat} {A A' : Option Addr} {out : List P3} {x : P3} (hg : g < W.heap.size) (hc : W.cell? ⟨g, 0, none⟩ = some (.slice A n c)) (hf : W.frozen? ⟨g, 0, none⟩ = false)
    (ho : POwn W (g + 1) A n c out) (h2 : POwn w2 (g + 1) A' (n + 1) c' (out ++ [x])) (hgb : W.grownBy w2 (Value.slice A n c).ownBlock) :
    Out (w2.setCell ⟨g, 0, none⟩ (.slice A' (n + 1) c')) g (g + 1) (out ++ [x]) ∧ Below g W (w2.setCell ⟨g, 0, none⟩ (.slice A' (n + 1) c')) ∧ g < (w2.setCell ⟨g, 0, none⟩ (.slice A' (n + 1) c')).heap.size := by
  have hl : (out ++ [x]).length = n + 1 := h2.len
  have c2 := gb_cell hgb ho hc (Nat.lt_succ_self g) hg
  have f2 := gb_frozen hgb ho hf (Nat.lt_succ_self g) hg
  refine ⟨⟨A', c', ?_, ?_, ?_⟩, (below_papp (Below.refl g W) hgb ho (Nat.le_succ g) (Nat.le_of_lt hg)).setCell (Nat.le_refl _) _, ?_⟩
  · rw [hl]; exact World.cell?_setCell_same w2 _ _ c2
  · rw [World.frozen?_setCell]; exact f2
  · rw [hl]; exact h2.setCell (Nat.lt_succ_self g) _
  · have := hgb.size; simp; omega
def RangeI (W0 : World) (g : Nat) (m : Nat) (out : List KV) (W : World) : Prop := Below g W0 W ∧ g < W.heap.size ∧ Out W g (g + 1) (pvs out) ∧ out.length + m ≤ 1000000
set_option maxHeartbeats 1000000 in
theorem range1_v (W0 : World) (g gm gt : Nat) (to : ByteArray) (most : Int) (m : Nat) (out : List KV) (W : World) (b : Nat) (k v : ByteArray) (hI : RangeI W0 g (m + 1) out W)
    (hm : W0.cell? ⟨gm, 0, none⟩ = some (.int .i64 most)) (ht : W0.cell? ⟨gt, 0, none⟩ = some (.string to)) (hgm : gm < g) (hgt : gt < g)
    (h0 : W.cell? ⟨b, 0, none⟩ = some (.string k)) (h1 : W.cell? ⟨b, 1, none⟩ = some (.string v)) :
    Calls Try.prog 45 #[.pointer (some ⟨b, 0, none⟩), .pointer (some ⟨g, 0, none⟩), .pointer (some ⟨gm, 0, none⟩), .pointer (some ⟨gt, 0, none⟩)] W fun e W' =>
      e = .returned (.bool (rangeStep to most out (k, v)).2) ∧ RangeI W0 g m (rangeStep to most out (k, v)).1 W' := by
  obtain ⟨hb0, hgs, ⟨A, c, hc, hf, ho⟩, hlen⟩ := hI
  have hm1 : W.cell? ⟨gm, 0, none⟩ = some (.int .i64 most) := (hb0.cell (p := ⟨gm, 0, none⟩) hgm).trans hm
  have ht1 : W.cell? ⟨gt, 0, none⟩ = some (.string to) := (hb0.cell (p := ⟨gt, 0, none⟩) hgt).trans ht
  have HB0 := Lib.hid hb0
  have HO := Lib.hid ho
  have HLN : Hid (out.length + m + 1 ≤ 1000000 ∧ (pvs out).length = out.length) := Lib.hid ⟨by omega, by simp [pvs]⟩
  have HF0 := Lib.hid hf
  have HC0 := Lib.hid hc
  clear hb0 hm ht ho hf
  rw [HLN.out.2] at hc
  by_cases c1 : most ≤ (out.length : Int)
  · have HS := Lib.hid (show rangeStep to most out (k, v) = (out, false) by rw [rangeStep, if_pos (.inl c1)])
    have d1 : decide (most ≤ (out.length : Int)) = true := by simpa using c1
    go_enter Try.func45, Try.ntmps45
    go_wp2
    go_quiet (fail)
    go_wp2
    go_ret
    rw [HS.out]
    exact ⟨rfl, below_drewN HB0.out _, hgs, ⟨A, c, HC0.out, HF0.out, HO.out.drewN _⟩, by have := HLN.out.1; show out.length + m ≤ _; omega⟩
  · have d1 : decide (most ≤ (out.length : Int)) = false := by simpa using c1
    cases c2 : upto to (k, v)
    · have HS := Lib.hid (show rangeStep to most out (k, v) = (out, false) by rw [rangeStep, if_pos (.inr c2)])
      have c3 : kbeq to ⟨#[]⟩ = false ∧ klt k to = false := by simpa [upto] using c2
      have d2 : to.toList.isEmpty = false := by have h := c3.1; unfold kbeq at h; rw [ByteArray.toList_eq] at h; rw [ByteArray.toList_eq]; cases hh : to.data.toList with
        | nil => rw [hh] at h; simp [ByteArray.toList_eq] at h
        | cons a l => rfl
      have d3 : Op.bytesLess k.toList to.toList = false := c3.2
      clear c1 c2 c3
      go_enter Try.func45, Try.ntmps45
      go_wp2
      go_quiet (fail)
      go_wp2
      go_ret
      rw [HS.out]
      exact ⟨rfl, below_drewN HB0.out _, hgs, ⟨A, c, HC0.out, HF0.out, HO.out.drewN _⟩, by have := HLN.out.1; show out.length + m ≤ _; omega⟩
    · have HS := Lib.hid (show rangeStep to most out (k, v) = (out ++ [(k, v)], true) by rw [rangeStep, if_neg (by simp [c2]; omega)])
      have c3 : kbeq to ⟨#[]⟩ = true ∨ klt k to = true := by simpa [upto] using c2
      clear c1 c2
      by_cases c4 : kbeq to ⟨#[]⟩ = true
      · obtain rfl := (kbeq_iff _ _).1 c4
        clear c3 c4
        go_enter Try.func45, Try.ntmps45
        go_wp2
        go_quiet (fail)
        go_wp2
        have e0 : (W.drewN nq).cell? ⟨b, 0, none⟩ = some (.string k) := h0
        have e1 : (W.drewN nq).cell? ⟨b, 1, none⟩ = some (.string v) := h1
        have ec : (W.drewN nq).cell? ⟨g, 0, none⟩ = some (.slice A out.length c) := hc
        have HB1 := Lib.hid (below_drewN HB0.out nq)
        have HO1 := Lib.hid (HO.out.drewN nq)
        have HF1 : Hid ((W.drewN nq).frozen? ⟨g, 0, none⟩ = false) := HF0
        have HC1 : Hid ((W.drewN nq).cell? ⟨g, 0, none⟩ = some (.slice A out.length c)) := Lib.hid ec
        have hgs1 : g < (W.drewN nq).heap.size := hgs
        clear h0 h1 hc HB0 HO HF0 HC0 hm1 ht1
        generalize W.drewN nq = W1 at *
        rw [HLN.out.2] at HO1
        have HOA := Lib.hid (show POwn ((W1.alloc (.cells #[.string k, .string v, .bool false] 39)).drew) (g + 1) A out.length c (pvs out) from (HO1.out.alloc _).drew)
        have HCA := Lib.hid (show ((W1.alloc (.cells #[.string k, .string v, .bool false] 39)).drew).cell? ⟨g, 0, none⟩ = some (.slice A out.length c) from (World.cell?_alloc_lt W1 _ _ hgs1).trans HC1.out)
        have HFA := Lib.hid (show ((W1.alloc (.cells #[.string k, .string v, .bool false] 39)).drew).frozen? ⟨g, 0, none⟩ = false from (World.frozen?_alloc_past _ _ _ hgs1).trans HF1.out)
        have HRA := Lib.hid (show PReads ((W1.alloc (.cells #[.string k, .string v, .bool false] 39)).drew) (W1.heap.size + 1) (some ⟨W1.heap.size, 0, none⟩) 1 [pv (k, v)] from PReads.one W1 (pv (k, v)) _)
        have HSA := Lib.hid (show g < ((W1.alloc (.cells #[.string k, .string v, .bool false] 39)).drew).heap.size by simp; omega)
        have HBA := Lib.hid (show Below g W0 ((W1.alloc (.cells #[.string k, .string v, .bool false] 39)).drew) from (HB1.out.alloc (Nat.le_of_lt hgs1) _).drew)
        have HNA := Lib.hid (show out.length + 1 ≤ 3000000000000 by have := HLN.out.1; omega)
        clear HO1 HB1 HF1 HC1
        go_region_law (refine step_papp rfl (.tmp 22) (.tmp 32) rfl (g + 1) A out.length c (pvs out) rfl HOA.out (W1.heap.size + 1) (some ⟨W1.heap.size, 0, none⟩) 1 1 [pv (k, v)] rfl HRA.out HNA.out HSA.out ?_; intro A2 c2 w2 ho2 hg2; have kc := gb_cell hg2 HOA.out HCA.out (Nat.lt_succ_self g) HSA.out; have kf := gb_frozen hg2 HOA.out HFA.out (Nat.lt_succ_self g) HSA.out; have HO2 := Lib.hid ho2; have HG2 := Lib.hid hg2; clear ho2 hg2)
        all_goals
          go_wp2
          go_ret
          rw [HS.out]
          have hp := push_out HSA.out HCA.out HFA.out HOA.out HO2.out HG2.out
          exact ⟨rfl, HBA.out.trans hp.2.1, hp.2.2, by show Out _ _ _ (pvs (out ++ [(k, v)])); rw [pvs_snoc]; exact hp.1, by have := HLN.out.1; show (out ++ [(k, v)]).length + m ≤ _; simp; omega⟩
      · have d3 : Op.bytesLess k.toList to.toList = true := c3.resolve_left c4
        have d2 : to.toList.isEmpty = false := by
          have h : kbeq to ⟨#[]⟩ = false := by simpa using c4
          unfold kbeq at h; rw [ByteArray.toList_eq] at h; rw [ByteArray.toList_eq]; cases hh : to.data.toList with
          | nil => rw [hh] at h; simp [ByteArray.toList_eq] at h
          | cons a l => rfl
        clear c3 c4
        go_enter Try.func45, Try.ntmps45
        go_wp2
        go_quiet (fail)
        go_wp2
        have e0 : (W.drewN nq).cell? ⟨b, 0, none⟩ = some (.string k) := h0
        have e1 : (W.drewN nq).cell? ⟨b, 1, none⟩ = some (.string v) := h1
        have ec : (W.drewN nq).cell? ⟨g, 0, none⟩ = some (.slice A out.length c) := hc
        have HB1 := Lib.hid (below_drewN HB0.out nq)
        have HO1 := Lib.hid (HO.out.drewN nq)
        have HF1 : Hid ((W.drewN nq).frozen? ⟨g, 0, none⟩ = false) := HF0
        have HC1 : Hid ((W.drewN nq).cell? ⟨g, 0, none⟩ = some (.slice A out.length c)) := Lib.hid ec
        have hgs1 : g < (W.drewN nq).heap.size := hgs
        clear h0 h1 hc HB0 HO HF0 HC0 hm1 ht1
        generalize W.drewN nq = W1 at *
        rw [HLN.out.2] at HO1
        have HOA := Lib.hid (show POwn ((W1.alloc (.cells #[.string k, .string v, .bool false] 39)).drew) (g + 1) A out.length c (pvs out) from (HO1.out.alloc _).drew)
        have HCA := Lib.hid (show ((W1.alloc (.cells #[.string k, .string v, .bool false] 39)).drew).cell? ⟨g, 0, none⟩ = some (.slice A out.length c) from (World.cell?_alloc_lt W1 _ _ hgs1).trans HC1.out)
        have HFA := Lib.hid (show ((W1.alloc (.cells #[.string k, .string v, .bool false] 39)).drew).frozen? ⟨g, 0, none⟩ = false from (World.frozen?_alloc_past _ _ _ hgs1).trans HF1.out)
        have HRA := Lib.hid (show PReads ((W1.alloc (.cells #[.string k, .string v, .bool false] 39)).drew) (W1.heap.size + 1) (some ⟨W1.heap.size, 0, none⟩) 1 [pv (k, v)] from PReads.one W1 (pv (k, v)) _)
        have HSA := Lib.hid (show g < ((W1.alloc (.cells #[.string k, .string v, .bool false] 39)).drew).heap.size by simp; omega)
        have HBA := Lib.hid (show Below g W0 ((W1.alloc (.cells #[.string k, .string v, .bool false] 39)).drew) from (HB1.out.alloc (Nat.le_of_lt hgs1) _).drew)
        have HNA := Lib.hid (show out.length + 1 ≤ 3000000000000 by have := HLN.out.1; omega)
        clear HO1 HB1 HF1 HC1
        go_region_law (refine step_papp rfl (.tmp 22) (.tmp 32) rfl (g + 1) A out.length c (pvs out) rfl HOA.out (W1.heap.size + 1) (some ⟨W1.heap.size, 0, none⟩) 1 1 [pv (k, v)] rfl HRA.out HNA.out HSA.out ?_; intro A2 c2 w2 ho2 hg2; have kc := gb_cell hg2 HOA.out HCA.out (Nat.lt_succ_self g) HSA.out; have kf := gb_frozen hg2 HOA.out HFA.out (Nat.lt_succ_self g) HSA.out; have HO2 := Lib.hid ho2; have HG2 := Lib.hid hg2; clear ho2 hg2)
        all_goals
          go_wp2
          go_ret
          rw [HS.out]
          have hp := push_out HSA.out HCA.out HFA.out HOA.out HO2.out HG2.out
          exact ⟨rfl, HBA.out.trans hp.2.1, hp.2.2, by show Out _ _ _ (pvs (out ++ [(k, v)])); rw [pvs_snoc]; exact hp.1, by have := HLN.out.1; show (out ++ [(k, v)]).length + m ≤ _; simp; omega⟩
end Go.Proofs.Ytohcdnbchidjeaa
