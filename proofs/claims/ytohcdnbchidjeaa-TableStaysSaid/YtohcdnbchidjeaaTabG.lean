/-
  Tables in memory: Changes.
-/
import Derived.Test.YtohcdnbchidjeaaTabD
import Derived.Deep.DeepCutAuto
import Derived.Deep.RegionHeld3
namespace Go.Proofs.Ytohcdnbchidjeaa
open Go.RowKit
theorem boxn (w : World) (v : Value) (T : TypeId) (j : Nat) (hj : 1 ≤ j) : (w.alloc (.cells #[v] T)).cell? ⟨w.heap.size, j, none⟩ = none := by rw [World.cell?_alloc_at _ _ _ _ rfl]; simp; omega
theorem boxf (w : World) (v : Value) (T : TypeId) : (w.alloc (.cells #[v] T)).frozen? ⟨w.heap.size, 0, none⟩ = false := World.frozen?_alloc_at _ _ _ _ rfl
/-- What is known of the variable 'old' once it is there. -/
def OldNew (w : World) (g : Nat) : Prop := (∀ j, 1 ≤ j → w.cell? ⟨g, j, none⟩ = none) ∧ g < w.heap.size
theorem ChgC.below' {W0 W W' : World} {N g1 g2 base : Nat} {old : List KV} {out : List P3} (h : ChgC W0 N g1 g2 base old out W) (hb : Below W.heap.size W W') (hN : N ≤ base) (h1 : g1 < base) (h2 : g2 < base) : ChgC W0 N g1 g2 base old out W' := by
  obtain ⟨hb0, hbs, n1, n2, ⟨Ao, co, k1, k2, k3, k4⟩, ho⟩ := h
  exact ⟨hb0.trans (hb.mono (by omega)), Nat.le_trans hbs hb.size, fun j hj => keepC hb (n1 j hj) (by omega), fun j hj => keepC hb (n2 j hj) (by omega), ⟨Ao, co, keepC hb k1 (by omega), keepF hb k2 (by omega), Reads.below k3 (hb.mono hbs), k4⟩, ho.below (by omega) hb⟩
def ChgI (W0 : World) (N g1 g2 base : Nat) (m : Nat) (s : List KV × List P3) (W : World) : Prop := ChgC W0 N g1 g2 base s.1 s.2 W ∧ s.2.length + s.1.length + m ≤ 1000000
def ChgStart (W : World) (L : List KV) (s6 : Value) (wx : World) : Prop :=
  ∃ g1 : Nat, s6 = .pointer (some ⟨g1, 0, none⟩) ∧ W.heap.size ≤ g1 ∧ g1 < wx.heap.size ∧ Below W.heap.size W wx ∧ (∀ j, 1 ≤ j → wx.cell? ⟨g1, j, none⟩ = none) ∧ Old wx g1 wx.heap.size L
theorem chg_start {W w2 : World} {g1 base c : Nat} {A : Option Addr} {L : List KV} (hs : Below W.heap.size W w2) (hg : W.heap.size ≤ g1) (hlt : g1 < w2.heap.size) (kc : w2.cell? ⟨g1, 0, none⟩ = some (.slice none 0 0)) (kf : w2.frozen? ⟨g1, 0, none⟩ = false)
    (kn : ∀ j, 1 ≤ j → w2.cell? ⟨g1, j, none⟩ = none) (ho : POwn w2 base A L.length c (pvs L)) : ChgStart W L (.pointer (some ⟨g1, 0, none⟩)) (w2.setCell ⟨g1, 0, none⟩ (.slice A L.length c)) :=
  ⟨g1, rfl, hg, by simpa using hlt, hs.setCell (by show W.heap.size ≤ g1; exact hg) _, fun j hj => (World.cell?_setCell_other w2 _ _ _ (by intro e; injection e with _ e2 _; omega)).trans (kn j hj),
    ⟨A, c, World.cell?_setCell_same w2 _ _ kc, by rw [World.frozen?_setCell]; exact kf, by have := PReads.set1 ho.reads kn (.slice A L.length c); simpa using this, ho.2⟩⟩
theorem chg_start' {W w2 : World} {base c : Nat} {A : Option Addr} {L : List KV} {T : TypeId} (hs : Below W.heap.size W w2) (ho : POwn w2 base A L.length c (pvs L)) : ChgStart W L (.pointer (some ⟨w2.heap.size, 0, none⟩)) (w2.alloc (.cells #[.slice A L.length c] T)) :=
  ⟨w2.heap.size, rfl, hs.size, by simp, hs.alloc hs.size _, boxn w2 _ _, ⟨A, c, box1 w2 _ _, boxf w2 _ _, Reads.more (B' := (w2.alloc (.cells #[.slice A L.length c] T)).heap.size) (Reads.alloc ho.reads (Nat.le_refl _) _) (by simp), ho.2⟩⟩
set_option maxHeartbeats 4000000 in
theorem changes_v (t u : Tr) (B : Nat) (p q : Option Addr) (w : World) (ht : Rep w B t p) (hu : Rep w B u q) (hB : B ≤ w.heap.size) (hat : asc t.flat) (hnt : t.cnt ≤ 400000) (hnu : u.cnt ≤ 400000) :
    Calls Try.prog 24 #[.agg #[.pointer p], .agg #[.pointer q]] w (SlPost w (chg t.flat u.flat)) := by
  have e1 : Below w.heap.size w (((w.alloc (.cells #[.pointer p] 24)).alloc (.cells #[.pointer q] 24)).alloc (.cells #[.slice none 0 0] 33)) := (((Below.refl _ _).alloc (Nat.le_refl _) _).alloc (by simp) _).alloc (by simp; omega) _
  have E1 := Lib.hid e1
  have HT := Lib.hid (Rep.below ht (e1.mono hB))
  have HU := Lib.hid (Rep.below hu (e1.mono hB))
  go_enter Try.func24, Try.ntmps24
  go_upto_region 2 with fail
  generalize hW : (((w.alloc (.cells #[.pointer p] 24)).alloc (.cells #[.pointer q] 24)).alloc (.cells #[.slice none 0 0] 33)) = W at *
  have hN : w.heap.size < W.heap.size := by rw [← hW]; simp; omega
  have hBW : B ≤ W.heap.size := by omega
  have hp0 : W.cell? ⟨w.heap.size, 0, none⟩ = some (.pointer p) := by rw [← hW, World.cell?_alloc_lt _ _ _ (by simp; omega), World.cell?_alloc_lt _ _ _ (by simp), World.cell?_alloc_at _ _ _ _ rfl]; rfl
  have hq0 : W.cell? ⟨w.heap.size + 1, 0, none⟩ = some (.pointer q) := by rw [← hW, World.cell?_alloc_lt _ _ _ (by simp), World.cell?_alloc_at _ _ _ _ (by simp)]; rfl
  have ho0 : W.cell? ⟨w.heap.size + 1 + 1, 0, none⟩ = some (.slice none 0 0) := by rw [← hW, World.cell?_alloc_at _ _ _ _ (by simp)]; rfl
  have ho1 : ∀ j, 1 ≤ j → W.cell? ⟨w.heap.size + 1 + 1, j, none⟩ = none := fun j hj => by rw [← hW, World.cell?_alloc_at _ _ _ _ (by simp)]; simp; omega
  have hof : W.frozen? ⟨w.heap.size + 1 + 1, 0, none⟩ = false := by rw [← hW]; exact World.frozen?_alloc_at _ _ _ _ (by simp)
  have hsz : W.heap.size = w.heap.size + 1 + 1 + 1 := by rw [← hW]; simp
  have HW := Lib.hid hW
  have HSZ := Lib.hid hsz
  have HO0 := Lib.hid ho0
  have HO1 := Lib.hid ho1
  have HOF := Lib.hid hof
  have HQ0 := Lib.hid hq0
  have hlt0 : t.flat.length = t.cnt := flat_len t
  have CS : Hid (∀ V, Below W.heap.size W V → Calls Try.prog 13 #[.agg #[.pointer p]] V fun e w' => e = .returned (.int .i64 (t.cnt : Int)) ∧ Below V.heap.size V w') :=
    Lib.hid fun V h => size_v t B p V (Rep.below HT.out (h.mono hBW)) (Nat.le_trans hBW h.size)
  have CR : Hid (∀ V, Below W.heap.size W V → Calls Try.prog 22 #[.agg #[.pointer p], .string ⟨#[]⟩, .string ⟨#[]⟩, .int .i64 (t.cnt : Int)] V fun e w' => ∃ A c, e = .returned (.slice A t.flat.length c) ∧ POwn w' V.heap.size A t.flat.length c (pvs t.flat) ∧ Below V.heap.size V w') :=
    Lib.hid fun V h => by
      have := range_v ⟨#[]⟩ ⟨#[]⟩ (t.cnt : Int) t B p V (Rep.below HT.out (h.mono hBW)) (Nat.le_trans hBW h.size) (by omega)
      rw [range_flat t _ _ _ hat, range_all (by rw [hlt0]; exact Nat.le_refl _)] at this
      refine this.mono ?_
      rintro e w' ⟨A, c, h1, h2, h3⟩
      rw [show (pvs t.flat).length = t.flat.length by simp [pvs]] at h1 h2
      exact ⟨A, c, h1, h2, h3⟩
  clear hW hsz ho0 ho1 hof hq0 hlt0 ht hu
  go_cut [6] (fun s6 wx => ChgStart W t.flat s6 wx)
  case first =>
    have q0 : ∀ V, Below W.heap.size W V → V.cell? ⟨w.heap.size, 0, none⟩ = some (.pointer p) := fun V h => (h.cell (p := ⟨w.heap.size, 0, none⟩) hN).trans hp0
    go_region_held3 (fun V => Below W.heap.size W V) (first | assumption | exact (Below.refl _ _).drew | exact ((Below.refl _ _).alloc (Nat.le_refl _) _).drew | (refine Below.alloc ?_ ?_ _ <;> first | assumption | exact Below.size (by assumption)) | (exact hs2.setCell (show W.heap.size ≤ W.heap.size from Nat.le_refl _) _) | (exact hs2.setCell (show W.heap.size ≤ w1.heap.size from Below.size hs1) _))
      (first
        | (go_at_call 13; refine (CS.out _ (by assumption)).mono ?_; rintro e w1 ⟨rfl, hb1⟩; have hs1 := Below.trans (by assumption) (hb1.mono (Below.size (by assumption))); (try have kc := keepC (b := W.heap.size) (o := 0) (x := some (.slice none 0 0)) hb1 (box1 W _ _) (by simp)); (try have kf := keepF (b := W.heap.size) (o := 0) (x := false) hb1 (boxf W _ _) (by simp)); (try have kn := Lib.hid (fun j hj => keepC (b := W.heap.size) (o := j) (x := none) hb1 (boxn W _ _ j hj) (by simp))))
        | (go_at_call 22; refine (CR.out _ (by assumption)).mono ?_; rintro e w2 ⟨A2, c2, rfl, ho2, hb2⟩; have hs2 := Below.trans (by assumption) (hb2.mono (Below.size (by assumption))); (try have kc2 := keepC hb2 kc (by have := hb1.size; simp at this; omega)); (try have kf2 := keepF hb2 kf (by have := hb1.size; simp at this; omega)); (try have kc2 := keepC (b := w1.heap.size) (o := 0) (x := some (.slice none 0 0)) hb2 (box1 w1 _ _) (by simp)); (try have kf2 := keepF (b := w1.heap.size) (o := 0) (x := false) hb2 (boxf w1 _ _) (by simp))))
    all_goals
      go_wp2_with fail
      go_meet
      case rel => first
        | exact chg_start' hs2 ho2
        | exact chg_start hs2 (Nat.le_refl _) (by have h1 := hb1.size; have h2 := hb2.size; simp at h1; omega) kc2 kf2 (fun j hj => keepC hb2 (kn.out j hj) (by have h1 := hb1.size; simp at h1; omega)) ho2
        | exact chg_start hs2 hs1.size (by have h2 := hb2.size; simp at h2; omega) kc2 kf2 (fun j hj => keepC hb2 (boxn w1 _ _ j hj) (by simp)) ho2
  case rest =>
    have HST := Lib.hid hcut
    clear hcut
    obtain ⟨g1, rfl, hg1, hg1s, hbW, hone, hold⟩ := HST.out
    have hszW := HSZ.out
    have hq1 : wc.cell? ⟨w.heap.size + 1, 0, none⟩ = some (.pointer q) := keepC hbW HQ0.out (by omega)
    have HUW := Lib.hid (Rep.below HU.out (hbW.mono hBW))
    have HI0 : Hid (ChgI wc w.heap.size g1 (w.heap.size + 1 + 1) wc.heap.size (0 + u.cnt) (t.flat, []) wc) := Lib.hid
      ⟨⟨Below.refl _ _, Nat.le_refl _, hone, fun j hj => keepC hbW (HO1.out j hj) (by omega), hold, ⟨none, 0, keepC hbW HO0.out (by omega), keepF hbW HOF.out (by omega), POwn.nil_ _ _⟩⟩, by
        show ([] : List P3).length + t.flat.length + (0 + u.cnt) ≤ 1000000
        rw [flat_len]; simp; omega⟩
    have hgw : w.heap.size + 1 + 1 < wc.heap.size := by have := hbW.size; omega
    have HF : Hid (∀ m s W b k v, ChgI wc w.heap.size g1 (w.heap.size + 1 + 1) wc.heap.size (m + 1) s W → W.cell? ⟨b, 0, none⟩ = some (.string k) → W.cell? ⟨b, 1, none⟩ = some (.string v) → b < B →
        Calls Try.prog 46 (#[.pointer (some ⟨b, 0, none⟩)] ++ #[.pointer (some ⟨g1, 0, none⟩), .pointer (some ⟨w.heap.size + 1 + 1, 0, none⟩)]) W fun e W' => e = .returned (.bool ((fun s x => (chgStep s x, true)) s (k, v)).2) ∧ ChgI wc w.heap.size g1 (w.heap.size + 1 + 1) wc.heap.size m ((fun s x => (chgStep s x, true)) s (k, v)).1 W') :=
      Lib.hid fun m s W b k v hI h0 h1 hb => changes1_v wc w.heap.size g1 (w.heap.size + 1 + 1) wc.heap.size (by omega) (by omega) hg1s hgw (by omega) m s W b k v hI.1 hI.2 h0 h1 (by omega)
    have HE := Lib.hid (each_v (fun s x => (chgStep s x, true)) (ChgI wc w.heap.size g1 (w.heap.size + 1 + 1) wc.heap.size) 46 _ B wc (run_f Try.func46 (by kernel_rfl) rfl)
      (fun m s W h => h.1.1.mono hB) (fun m m' s W hm h => ⟨h.1, by have := h.2; omega⟩) HF.out u q ⟨#[]⟩ 0 (t.flat, []) wc HUW.out HI0.out)
    have HBW := Lib.hid hbW
    have HFin := Lib.hid (chg_fold u.flat (t.flat, []))
    clear HF HI0 hone hold hbW HST HO0 HO1 HOF HQ0 CS CR hp0
    go_wp2_with fail
    refine HE.out.mono ?_
    intro e W1 hE
    rw [EachPost, sel_empty, goU_true] at hE
    obtain ⟨rfl, hi⟩ := hE
    simp only [List.nil_append] at HFin
    generalize u.flat.foldl chgStep (t.flat, []) = sF at *
    obtain ⟨old, out⟩ := sF
    simp only [] at hi HFin
    have HI := Lib.hid hi
    obtain ⟨A1, c1, k1, k2, k3, k4⟩ := hi.1.2.2.2.2.1
    have HK3 := Lib.hid k3
    have HL := Lib.hid hi.2
    have HK1 := Lib.hid k1
    clear hi k2 k3 hq1 HE
    obtain ⟨n, hn⟩ : ∃ n, old.length = n := ⟨_, rfl⟩
    have HN := Lib.hid hn
    rw [hn] at k1
    clear hn
    have hn9 : n ≤ 1000000 := by have := HL.out; have := HN.out; simp only [] at *; omega
    go_wp2
    go_loopw [19] (fun i wr => ∃ j : Nat, j ≤ n ∧ i = .int .i64 (j : Int) ∧ wr.cell? ⟨g1, 0, none⟩ = some (.slice A1 n c1) ∧ ChgC wc w.heap.size g1 (w.heap.size + 1 + 1) wc.heap.size old (out ++ (old.take j).map gonep) wr) (fun i _ => n - (intOf i).toNat)
    case atStart => exact ⟨0, Nat.zero_le _, rfl, k1, by simpa using HI.out.1⟩
    case round =>
      obtain ⟨j, hj, rfl, hcell, hC⟩ := hrel
      have HC := Lib.hid hC
      clear hC
      by_cases hlt : j < n
      · obtain ⟨A', c', m1, _, m3, _⟩ := HC.out.2.2.2.2.1
        have hinj := hcell.symm.trans m1
        simp only [Option.some.injEq, Value.slice.injEq] at hinj
        have hA' := hinj.1
        clear hinj
        subst hA'
        have hr := PReads.at_ m3 (k := j) (by rw [HN.out]; exact hlt)
        obtain ⟨ad, y, hA, hadb, hy, d0, d1, d2⟩ := hr
        subst hA
        have hjl : j < old.length := by rw [HN.out]; exact hlt
        obtain ⟨x, hx⟩ : ∃ x, old[j]? = some x := ⟨_, List.getElem?_eq_getElem hjl⟩
        obtain rfl : y = pv x := by rw [pvs, List.getElem?_map, hx] at hy; simpa using hy.symm
        have HTK : Hid (out ++ (old.take (j + 1)).map gonep = (out ++ (old.take j).map gonep) ++ [gonep x]) := Lib.hid (by rw [take_snoc' hx]; simp)
        have HLJ : Hid ((out ++ (old.take j).map gonep).length + 1 ≤ 3000000000000) := Lib.hid (by have := HL.out; have := HN.out; simp only [List.length_append, List.length_map, List.length_take] at *; omega)
        have d0' : wr.cell? (ad.add (j * 3)) = some (.string x.1) := d0
        have d1' : wr.cell? ⟨(ad.add (j * 3)).block, (ad.add (j * 3)).off + 1, none⟩ = some (.string x.2) := d1
        have d2' : wr.cell? ⟨(ad.add (j * 3)).block, (ad.add (j * 3)).off + 2, none⟩ = some (.bool false) := d2
        have hB1 : Below wr.heap.size wr (wr.alloc (.cells #[.string x.1, .string x.2, .bool false] 39)) := (Below.refl _ _).alloc (Nat.le_refl _) _
        have HV := Lib.hid (HC.out.below' hB1 (by omega) hg1s hgw)
        have hzr : wc.heap.size ≤ wr.heap.size := HC.out.2.1
        obtain ⟨A2, c2, z1, z2, z3⟩ := HV.out.2.2.2.2.2
        have HG := Lib.hid (keepC hB1 hcell (by omega))
        have Z1 := Lib.hid z1
        have Z3 := Lib.hid z3
        have RA := Lib.hid (show PReads ((wr.alloc (.cells #[.string x.1, .string x.2, .bool false] 39)).alloc (.cells #[.string x.1, .string ⟨#[]⟩, .bool true] 39)) ((wr.alloc (.cells #[.string x.1, .string x.2, .bool false] 39)).heap.size + 1) (some ⟨(wr.alloc (.cells #[.string x.1, .string x.2, .bool false] 39)).heap.size, 0, none⟩) 1 [gonep x] from PReads.one (wr.alloc (.cells #[.string x.1, .string x.2, .bool false] 39)) (gonep x) _)
        rw [World.size_alloc] at RA
        have SA := Lib.hid (show wc.heap.size ≤ ((wr.alloc (.cells #[.string x.1, .string x.2, .bool false] 39)).alloc (.cells #[.string x.1, .string ⟨#[]⟩, .bool true] 39)).heap.size by simp; omega)
        generalize out ++ (old.take j).map gonep = oj at *
        have OA := Lib.hid (show POwn ((wr.alloc (.cells #[.string x.1, .string x.2, .bool false] 39)).alloc (.cells #[.string x.1, .string ⟨#[]⟩, .bool true] 39)) wc.heap.size A2 oj.length c2 oj from Z3.out.alloc _)
        clear z3 hx hy d0 d1 d2 m1 m3 hB1
        go_wp2_with (at_builtin; refine wpList_papp rfl (.tmp 23) (.tmp 27) rfl wc.heap.size A2 oj.length c2 oj rfl OA.out (wr.heap.size + 1 + 1) (some ⟨wr.heap.size + 1, 0, none⟩) 1 1 [gonep x] rfl RA.out HLJ.out SA.out ?_; intro A3 c3 w3 ho3 hg3; have kc := gb_cell hg3 OA.out ((World.cell?_alloc_lt _ _ ⟨w.heap.size + 1 + 1, 0, none⟩ (by simp; omega)).trans Z1.out) hgw (by simp; omega); have kf := gb_frozen hg3 OA.out ((World.frozen?_alloc_past _ _ _ (by simp; omega)).trans z2) hgw (by simp; omega); have HP := Lib.hid (HV.out.push (x := gonep x) (by omega) hg1s hgw (by omega) Z1.out Z3.out ho3 ⟨hg3.os, hg3.tape, hg3.output, hg3.size, hg3.block⟩); have HC3 := Lib.hid (gb_cell hg3 OA.out ((World.cell?_alloc_lt _ _ ⟨g1, 0, none⟩ (by simp; omega)).trans HG.out) hg1s (by simp; omega)); clear ho3 hg3)
        go_roundw
        case rel => exact ⟨j + 1, by omega, by go_num, (World.cell?_setCell_far w3 _ _ _ (show w.heap.size + 1 + 1 ≠ g1 by omega)).trans HC3.out, by rw [HTK.out]; exact HP.out⟩
        case measure => simp [intOf]; omega
      · obtain rfl : j = n := by omega
        have HOut := Lib.hid HC.out.2.2.2.2.2
        have HT : Hid (out ++ (old.take j).map gonep = chg t.flat u.flat) := Lib.hid (by rw [List.take_of_length_le (by rw [HN.out]; exact Nat.le_refl _)]; exact HFin.out.symm)
        rw [HT.out] at HOut
        obtain ⟨A2, c2, z1, z2, z3⟩ := HOut.out
        have Z3 := Lib.hid z3
        clear z2 z3
        go_wp2
        go_ret
        exact ⟨A2, c2, rfl, Z3.out.down (by omega), E1.out.trans ((HBW.out.mono (by omega)).trans HC.out.1)⟩
end Go.Proofs.Ytohcdnbchidjeaa
