/-
  The reference's table: Put.
-/
import Derived.Test.YtohcdnbchidjeaaTabRf
namespace Go.Proofs.Ytohcdnbchidjeaa
open Go.RowKit
/-- A table of the reference in memory. -/
def RTab (w : World) (B : Nat) (A : Option Addr) (n c : Nat) (L : List KV) : Prop := PReads w B A n (pvs L) ∧ n ≤ c ∧ c ≤ 9223372036854775807 ∧ (A = none → c = 0)
def RPost (w : World) (L : List KV) (e : Ending) (w' : World) : Prop := ∃ A n c, e = .returned (.agg #[.slice A n c]) ∧ RTab w' w'.heap.size A n c L ∧ Below w.heap.size w w'
theorem RTab.step {w w' : World} {A : Option Addr} {n c : Nat} {L : List KV} (h : RTab w w.heap.size A n c L) (hb : Below w.heap.size w w') : RTab w' w'.heap.size A n c L := ⟨Reads.more (Reads.below h.1 hb) hb.size, h.2⟩
theorem RTab.of_own {w : World} {base n c : Nat} {A : Option Addr} {L : List KV} (h : POwn w base A n c (pvs L)) : RTab w w.heap.size A n c L := by
  refine ⟨h.reads, h.2, ?_, ?_⟩
  · rcases h.1.2 with ⟨hv, _⟩ | ⟨g, cap, cur, hv, _, _, _, hcap, _⟩
    · injection hv with _ _ e; omega
    · injection hv with _ _ e; unfold maxLen at hcap; omega
  · intro hA
    rcases h.1.2 with ⟨hv, _⟩ | ⟨g, cap, cur, hv, _⟩
    · injection hv with _ _ e
    · injection hv with e1 _ _; rw [hA] at e1; cases e1
/-- Behind a key's place. -/
theorem gt_head {L : List KV} {key : ByteArray} (h : asc L) {x : KV} (hx : L[(lo key L).length]? = some x) (he : x.1 = key) : L.drop ((lo key L).length + 1) = gt key L := by
  have e := drop_lo key h
  have e2 : hi key L = x :: L.drop ((lo key L).length + 1) := by
    rw [← e]
    obtain ⟨h1, rfl⟩ := List.getElem?_eq_some_iff.1 hx
    exact List.drop_eq_getElem_cons h1
  have ha : asc (hi key L) := asc_filter h
  rw [← gt_hi, e2]
  rw [e2] at ha
  unfold gt
  rw [List.filter_cons_of_neg (by rw [he, klt_irrefl]; simp)]
  exact (List.filter_eq_self.2 fun y hy => by rw [← he]; exact ha.1 y hy).symm
theorem gt_else {L : List KV} {key : ByteArray} (h : asc L) (hx : ∀ x, L[(lo key L).length]? = some x → x.1 ≠ key) : L.drop (lo key L).length = gt key L := by
  have e := drop_lo key h
  rw [e, ← gt_hi]
  cases hh : hi key L with
  | nil => rfl
  | cons x l =>
    have ha : asc (hi key L) := asc_filter h
    have hx' : L[(lo key L).length]? = some x := by
      have : (L.drop (lo key L).length)[0]? = some x := by rw [e, hh]; rfl
      simpa using this
    have hne := hx x hx'
    have hlt : klt key x.1 = true := klt_total hne (mem_hi.1 (by rw [hh]; exact List.mem_cons_self)).2
    rw [hh] at ha
    exact (gt_all fun y hy => by
      rcases List.mem_cons.1 hy with rfl | hy
      · exact hlt
      · exact klt_trans hlt (ha.1 y hy)).symm
theorem pvs_app (l m : List KV) : pvs (l ++ m) = pvs l ++ pvs m := by simp [pvs]
theorem PReads.key {w : World} {B n k : Nat} {ad : Addr} {L : List KV} {y : KV} (h : PReads w B (some ad) n (pvs L)) (hy : L[k]? = some y) : w.cell? (ad.add (k * 3)) = some (.string y.1) := by
  have hk : k < n := by
    have := (List.getElem?_eq_some_iff.1 hy).1
    rw [← h.len, pvs_len]; exact this
  obtain ⟨ad', x, hA, _, hx, d0, _, _⟩ := PReads.at_ h hk
  obtain rfl : ad = ad' := by injection hA
  obtain ⟨y', hy', rfl⟩ := pvs_at hx
  rw [hy] at hy'
  injection hy' with e
  subst e
  exact d0
set_option maxHeartbeats 4000000 in
theorem rput_ne (key v : ByteArray) (L : List KV) (B : Nat) (ad : Addr) (n c : Nat) (w : World) (hr : RTab w B (some ad) n c L) (hB : B ≤ w.heap.size) (ha : asc L) (hn : n ≤ 1000000) (y : KV) (hy : L[(lo key L).length]? = some y) (hye : y.1 ≠ key) :
    Calls Try.prog 43 #[.agg #[.slice (some ad) n c], .string key, .string v] w (RPost w (putL key v L)) := by
  obtain ⟨hr, hnc, hcm, hA⟩ := hr
  have HN := Lib.hid (show L.length = n by rw [← hr.len, pvs_len])
  have b0 : Below w.heap.size w ((w.alloc (.cells #[.slice (some ad) n c] 44)).alloc (.cells #[.slice none 0 0] 44)) := ((Below.refl _ _).alloc (Nat.le_refl _) _).alloc (by simp) _
  have HR := Lib.hid (Reads.below hr (b0.mono hB))
  have HB := Lib.hid b0
  have CT := Lib.hid (show ((w.alloc (.cells #[.slice (some ad) n c] 44)).alloc (.cells #[.slice none 0 0] 44)).cell? ⟨w.heap.size, 0, none⟩ = some (.slice (some ad) n c) by rw [World.cell?_alloc_lt _ _ _ (by simp)]; exact box1 w _ _)
  have CR := Lib.hid (show ((w.alloc (.cells #[.slice (some ad) n c] 44)).alloc (.cells #[.slice none 0 0] 44)).cell? ⟨w.heap.size + 1, 0, none⟩ = some (.slice none 0 0) by rw [World.cell?_alloc_at _ _ _ _ (by simp)]; rfl)
  have FR := Lib.hid (show ((w.alloc (.cells #[.slice (some ad) n c] 44)).alloc (.cells #[.slice none 0 0] 44)).frozen? ⟨w.heap.size + 1, 0, none⟩ = false from World.frozen?_alloc_at _ _ _ _ (by simp))
  have NR := Lib.hid (fun (j : Nat) (hj : 1 ≤ j) => show ((w.alloc (.cells #[.slice (some ad) n c] 44)).alloc (.cells #[.slice none 0 0] 44)).cell? ⟨w.heap.size + 1, j, none⟩ = none by rw [World.cell?_alloc_at _ _ _ _ (by simp)]; simp; omega)
  have HSZ := Lib.hid (show ((w.alloc (.cells #[.slice (some ad) n c] 44)).alloc (.cells #[.slice none 0 0] 44)).heap.size = w.heap.size + 1 + 1 by simp)
  have HP := Lib.hid (fun V (hV : Below w.heap.size w V) => rplace_v key L B (some ad) n c V (Reads.below hr (hV.mono hB)) (Nat.le_trans hB hV.size) ha hn)
  have hlen := lo_len key L
  rw [HN.out] at hlen
  have HTL := Lib.hid (take_lo key ha)
  have HGH := Lib.hid (fun (x : KV) => gt_head (key := key) ha (x := x))
  have HGE := Lib.hid (gt_else (key := key) ha)
  have HPL : Hid (putL key v L = lo key L ++ (key, v) :: gt key L) := Lib.hid rfl
  clear hr b0
  generalize hk : (lo key L).length = k at *
  have HKK := Lib.hid hk
  clear hk
  have HY := Lib.hid hy
  clear hy
  have hkl : k < n := by have := (List.getElem?_eq_some_iff.1 HY.out).1; rw [HN.out] at this; exact this
  have hk0 : (0 : Int) ≤ (k : Int) := by omega
  have hk1 : (k : Int) < (n : Int) := by omega
  have hklt : decide ((k : Int) < (n : Int)) = true := by simp; omega

  have g1 : (y.1.toList == key.toList) = false := (kbeq_false _ _).2 hye
  have hcc : ¬ c = k := by omega
  have hccd : decide (c = k) = false := by simpa using hcc
  go_enter Try.func43, Try.ntmps43
  go_wp2_with fail
  generalize (w.alloc (.cells #[.slice (some ad) n c] 44)).alloc (.cells #[.slice none 0 0] 44) = w0 at *
  refine (HP.out w0 HB.out).mono ?_
  rintro e w1 ⟨rfl, hb1⟩
  have hlt0 : w.heap.size < w0.heap.size := by have := HSZ.out; omega
  have hlt1 : w.heap.size + 1 < w0.heap.size := by have := HSZ.out; omega
  have c1 := keepC hb1 CT.out hlt0
  have CR1 := Lib.hid (keepC hb1 CR.out hlt1)
  have FR1 := Lib.hid (keepF hb1 FR.out hlt1)
  have NR1 := Lib.hid (fun j hj => keepC hb1 (NR.out j hj) hlt1)
  have HB1 := Lib.hid (btrans HB.out hb1 HB.out.size)
  have hz1 : w.heap.size + 1 < w1.heap.size := Nat.lt_of_lt_of_le hlt1 hb1.size
  have HR1 := Lib.hid (Reads.below HR.out (hb1.mono (by omega)))
  clear hb1 HR HB CT CR FR NR HSZ HP hlt0 hlt1
  have hkn : (k : Int) ≤ (n : Int) := by omega
  have hkc : (k : Int) ≤ (c : Int) := by omega
  have hkc' : k ≤ c := by omega
  have c1a : (w1.alloc (.cells #[] 39)).cell? ⟨w.heap.size, 0, none⟩ = some (.slice (some ad) n c) := (World.cell?_alloc_lt w1 _ _ (show w.heap.size < w1.heap.size by omega)).trans c1
  have HE := Lib.hid (POwn.empty w1)
  have R1 := Lib.hid (show PReads (w1.alloc (.cells #[] 39)) B (some ad) k (pvs (lo key L)) by
    have h := PReads.take (Reads.alloc HR1.out (by omega) (.cells #[] 39)) hlen
    rwa [show (pvs L).take k = pvs (lo key L) by rw [← HTL.out, pvs, pvs, List.map_take]] at h)
  have HL1 : Hid (0 + k ≤ 3000000000000) := Lib.hid (by omega)
  have HL2 : Hid (k + 1 ≤ 3000000000000) := Lib.hid (by omega)
  have HL3 : Hid (k + 1 + (n - k) ≤ 3000000000000) := Lib.hid (by omega)
  have HS1 := Lib.hid (show w1.heap.size ≤ (w1.alloc (.cells #[] 39)).heap.size by simp)
  have CRA := Lib.hid ((World.cell?_alloc_lt w1 (.cells #[] 39) ⟨w.heap.size + 1, 0, none⟩ hz1).trans CR1.out)
  have FRA := Lib.hid ((World.frozen?_alloc_past (.cells #[] 39) (w.heap.size + 1) 0 hz1).trans FR1.out)
  have NRA := Lib.hid (fun j hj => (World.cell?_alloc_lt w1 (.cells #[] 39) ⟨w.heap.size + 1, j, none⟩ hz1).trans (NR1.out j hj))
  have RLA := Lib.hid (Reads.alloc HR1.out (show B ≤ w1.heap.size by omega) (.cells #[] 39))
  have BA := Lib.hid (HB1.out.alloc (show w.heap.size ≤ w1.heap.size by omega) (.cells #[] 39))
  go_wp2_with (first
    | (at_builtin; refine wpList_papp rfl (.tmp 12) (.tmp 16) rfl w1.heap.size (some ⟨w1.heap.size, 0, none⟩) 0 0 [] rfl HE.out B (some ad) k c (pvs (lo key L)) rfl R1.out HL1.out HS1.out ?_; intro A2 c2 w2 ho2 hg2; rw [Nat.zero_add, List.nil_append] at ho2; have hz2 : w1.heap.size ≤ w2.heap.size := Nat.le_trans HS1.out hg2.size; have c2a := gb_cell hg2 HE.out c1a (show w.heap.size < w1.heap.size by omega) (by first | omega | (simp only [World.size_alloc]; omega) | (simp only [World.size_alloc]; done)); have CR2 := Lib.hid (gb_cell hg2 HE.out CRA.out hz1 (by first | omega | (simp only [World.size_alloc]; omega) | (simp only [World.size_alloc]; done))); have FR2 := Lib.hid (gb_frozen hg2 HE.out FRA.out hz1 (by first | omega | (simp only [World.size_alloc]; omega) | (simp only [World.size_alloc]; done))); have NR2 := Lib.hid (fun j hj => gb_cell hg2 HE.out (NRA.out j hj) hz1 (by first | omega | (simp only [World.size_alloc]; omega) | (simp only [World.size_alloc]; done))); have HR2 := Lib.hid (Reads.grown RLA.out hg2 (by first | omega | (simp only [World.size_alloc]; omega) | (simp only [World.size_alloc]; done)) (fun g hg => by have := (HE.out.base_le g hg).1; omega)); have HB2 := Lib.hid (below_papp BA.out hg2 HE.out (by omega) (by first | omega | (simp only [World.size_alloc]; omega) | (simp only [World.size_alloc]; done))); have OA2 := Lib.hid (ho2.alloc (.cells #[.string key, .string v, .bool false] 39)); have RA2 := Lib.hid (PReads.one w2 (pv (key, v)) 39); have HS2 := Lib.hid (show w1.heap.size ≤ (w2.alloc (.cells #[.string key, .string v, .bool false] 39)).heap.size by first | omega | (simp only [World.size_alloc]; omega) | (simp only [World.size_alloc]; done)); have hz1' : w.heap.size + 1 < w2.heap.size := (by omega); have c2b : (w2.alloc (.cells #[.string key, .string v, .bool false] 39)).cell? ⟨w.heap.size, 0, none⟩ = some (.slice (some ad) n c) := (World.cell?_alloc_lt w2 _ _ (show w.heap.size < w2.heap.size by omega)).trans c2a; clear ho2 hg2)
    | (at_builtin; refine wpList_papp rfl (.tmp 17) (.tmp 21) rfl w1.heap.size A2 k c2 (pvs (lo key L)) rfl OA2.out (w2.heap.size + 1) (some ⟨w2.heap.size, 0, none⟩) 1 1 [pv (key, v)] rfl RA2.out HL2.out HS2.out ?_; intro A3 c3 w3 ho3 hg3; have hz3 : w1.heap.size ≤ w3.heap.size := Nat.le_trans HS2.out hg3.size; have c3a := gb_cell hg3 OA2.out c2b (show w.heap.size < w1.heap.size by omega) (by first | omega | (simp only [World.size_alloc]; omega) | (simp only [World.size_alloc]; done)); have CR3 := Lib.hid (gb_cell hg3 OA2.out ((World.cell?_alloc_lt w2 _ ⟨w.heap.size + 1, 0, none⟩ hz1').trans CR2.out) hz1 (by first | omega | (simp only [World.size_alloc]; omega) | (simp only [World.size_alloc]; done))); have FR3 := Lib.hid (gb_frozen hg3 OA2.out ((World.frozen?_alloc_past _ _ _ hz1').trans FR2.out) hz1 (by first | omega | (simp only [World.size_alloc]; omega) | (simp only [World.size_alloc]; done))); have NR3 := Lib.hid (fun j hj => gb_cell hg3 OA2.out ((World.cell?_alloc_lt w2 _ ⟨w.heap.size + 1, j, none⟩ hz1').trans (NR2.out j hj)) hz1 (by first | omega | (simp only [World.size_alloc]; omega) | (simp only [World.size_alloc]; done))); have HR3 := Lib.hid (Reads.grown (Reads.alloc HR2.out (show B ≤ w2.heap.size by omega) (.cells #[.string key, .string v, .bool false] 39)) hg3 (by first | omega | (simp only [World.size_alloc]; omega) | (simp only [World.size_alloc]; done)) (fun g hg => by have := (OA2.out.base_le g hg).1; omega)); have HB3 := Lib.hid (below_papp (HB2.out.alloc (by omega) (.cells #[.string key, .string v, .bool false] 39)) hg3 OA2.out (by omega) (by first | omega | (simp only [World.size_alloc]; omega) | (simp only [World.size_alloc]; done))); have HO3 := Lib.hid ho3; have R3 := Lib.hid (show PReads w3 B (some (ad.add (k * 3))) (n - k) (pvs (gt key L)) from by have h := PReads.cut HR3.out (k := k) (by omega) hnc; rw [show (pvs L).drop k = pvs (gt key L) by rw [← HGE.out (fun x hx => by rw [HY.out] at hx; injection hx with hx; rw [← hx]; exact hye), pvs, pvs, List.map_drop], if_neg (by omega), Option.map_some] at h; exact h); have d3 : w3.cell? (ad.add (k * 3)) = some (.string y.1) := PReads.key HR3.out HY.out; clear ho3 hg3 c2b c2a)
    | (at_builtin; refine wpList_papp rfl (.tmp 40) (.tmp 44) rfl w1.heap.size A3 (k + 1) c3 (pvs (lo key L) ++ [pv (key, v)]) rfl HO3.out B (some (ad.add (k * 3))) (n - k) (c - k) (pvs (gt key L)) rfl R3.out HL3.out hz3 ?_; intro A4 c4 w4 ho4 hg4; have kc := gb_cell hg4 HO3.out CR3.out hz1 (by omega); have kf := gb_frozen hg4 HO3.out FR3.out hz1 (by omega); have NR4 := Lib.hid (fun j hj => gb_cell hg4 HO3.out (NR3.out j hj) hz1 (by omega)); have HB4 := Lib.hid (below_papp HB3.out hg4 HO3.out (by omega) (by omega)); have HO4 := Lib.hid ho4; clear ho4 hg4))
  refine bodyPost_ret (v := .agg #[.slice A4 (k + 1 + (n - k)) c4]) (by simp [results, Try.results43, go_sem, kc]) rfl ?_
  have hfin : POwn w4 w1.heap.size A4 (k + 1 + (n - k)) c4 (pvs (putL key v L)) := by
    have := HO4.out
    rw [HPL.out, pvs_app]
    simpa [pvs] using this
  have hrt := RTab.of_own hfin
  exact ⟨A4, _, c4, rfl, ⟨by have := PReads.set1 hrt.1 NR4.out (.slice A4 (k + 1 + (n - k)) c4); simpa using this, hrt.2⟩, HB4.out.setCell (by simp) _⟩
set_option maxHeartbeats 4000000 in
theorem rput_eq (key v : ByteArray) (L : List KV) (B : Nat) (ad : Addr) (n c : Nat) (w : World) (hr : RTab w B (some ad) n c L) (hB : B ≤ w.heap.size) (ha : asc L) (hn : n ≤ 1000000) (y : KV) (hy : L[(lo key L).length]? = some y) (hye : y.1 = key) (hcc0 : c ≠ (lo key L).length + 1) :
    Calls Try.prog 43 #[.agg #[.slice (some ad) n c], .string key, .string v] w (RPost w (putL key v L)) := by
  obtain ⟨hr, hnc, hcm, hA⟩ := hr
  have HN := Lib.hid (show L.length = n by rw [← hr.len, pvs_len])
  have b0 : Below w.heap.size w ((w.alloc (.cells #[.slice (some ad) n c] 44)).alloc (.cells #[.slice none 0 0] 44)) := ((Below.refl _ _).alloc (Nat.le_refl _) _).alloc (by simp) _
  have HR := Lib.hid (Reads.below hr (b0.mono hB))
  have HB := Lib.hid b0
  have CT := Lib.hid (show ((w.alloc (.cells #[.slice (some ad) n c] 44)).alloc (.cells #[.slice none 0 0] 44)).cell? ⟨w.heap.size, 0, none⟩ = some (.slice (some ad) n c) by rw [World.cell?_alloc_lt _ _ _ (by simp)]; exact box1 w _ _)
  have CR := Lib.hid (show ((w.alloc (.cells #[.slice (some ad) n c] 44)).alloc (.cells #[.slice none 0 0] 44)).cell? ⟨w.heap.size + 1, 0, none⟩ = some (.slice none 0 0) by rw [World.cell?_alloc_at _ _ _ _ (by simp)]; rfl)
  have FR := Lib.hid (show ((w.alloc (.cells #[.slice (some ad) n c] 44)).alloc (.cells #[.slice none 0 0] 44)).frozen? ⟨w.heap.size + 1, 0, none⟩ = false from World.frozen?_alloc_at _ _ _ _ (by simp))
  have NR := Lib.hid (fun (j : Nat) (hj : 1 ≤ j) => show ((w.alloc (.cells #[.slice (some ad) n c] 44)).alloc (.cells #[.slice none 0 0] 44)).cell? ⟨w.heap.size + 1, j, none⟩ = none by rw [World.cell?_alloc_at _ _ _ _ (by simp)]; simp; omega)
  have HSZ := Lib.hid (show ((w.alloc (.cells #[.slice (some ad) n c] 44)).alloc (.cells #[.slice none 0 0] 44)).heap.size = w.heap.size + 1 + 1 by simp)
  have HP := Lib.hid (fun V (hV : Below w.heap.size w V) => rplace_v key L B (some ad) n c V (Reads.below hr (hV.mono hB)) (Nat.le_trans hB hV.size) ha hn)
  have hlen := lo_len key L
  rw [HN.out] at hlen
  have HTL := Lib.hid (take_lo key ha)
  have HGH := Lib.hid (fun (x : KV) => gt_head (key := key) ha (x := x))
  have HGE := Lib.hid (gt_else (key := key) ha)
  have HPL : Hid (putL key v L = lo key L ++ (key, v) :: gt key L) := Lib.hid rfl
  clear hr b0
  generalize hk : (lo key L).length = k at *
  have HKK := Lib.hid hk
  clear hk
  have HY := Lib.hid hy
  clear hy
  have hkl : k < n := by have := (List.getElem?_eq_some_iff.1 HY.out).1; rw [HN.out] at this; exact this
  have hk0 : (0 : Int) ≤ (k : Int) := by omega
  have hk1 : (k : Int) < (n : Int) := by omega
  have hklt : decide ((k : Int) < (n : Int)) = true := by simp; omega

  have g1 : (y.1.toList == key.toList) = true := (kbeq_iff _ _).2 hye
  have HYE := Lib.hid hye
  clear hye
  have hkk1 : (k : Int) + 1 ≤ (n : Int) := by omega
  have hkk2 : (k : Int) + 1 ≤ (c : Int) := by omega
  have hkk3 : ((k : Int) + 1).toNat = k + 1 := by omega

  have hcc : ¬ c = k + 1 := hcc0
  have hccd : decide (c = k + 1) = false := by simpa using hcc
  go_enter Try.func43, Try.ntmps43
  go_wp2_with fail
  generalize (w.alloc (.cells #[.slice (some ad) n c] 44)).alloc (.cells #[.slice none 0 0] 44) = w0 at *
  refine (HP.out w0 HB.out).mono ?_
  rintro e w1 ⟨rfl, hb1⟩
  have hlt0 : w.heap.size < w0.heap.size := by have := HSZ.out; omega
  have hlt1 : w.heap.size + 1 < w0.heap.size := by have := HSZ.out; omega
  have c1 := keepC hb1 CT.out hlt0
  have CR1 := Lib.hid (keepC hb1 CR.out hlt1)
  have FR1 := Lib.hid (keepF hb1 FR.out hlt1)
  have NR1 := Lib.hid (fun j hj => keepC hb1 (NR.out j hj) hlt1)
  have HB1 := Lib.hid (btrans HB.out hb1 HB.out.size)
  have hz1 : w.heap.size + 1 < w1.heap.size := Nat.lt_of_lt_of_le hlt1 hb1.size
  have HR1 := Lib.hid (Reads.below HR.out (hb1.mono (by omega)))
  clear hb1 HR HB CT CR FR NR HSZ HP hlt0 hlt1
  have hkn : (k : Int) ≤ (n : Int) := by omega
  have hkc : (k : Int) ≤ (c : Int) := by omega
  have hkc' : k ≤ c := by omega
  have c1a : (w1.alloc (.cells #[] 39)).cell? ⟨w.heap.size, 0, none⟩ = some (.slice (some ad) n c) := (World.cell?_alloc_lt w1 _ _ (show w.heap.size < w1.heap.size by omega)).trans c1
  have HE := Lib.hid (POwn.empty w1)
  have R1 := Lib.hid (show PReads (w1.alloc (.cells #[] 39)) B (some ad) k (pvs (lo key L)) by
    have h := PReads.take (Reads.alloc HR1.out (by omega) (.cells #[] 39)) hlen
    rwa [show (pvs L).take k = pvs (lo key L) by rw [← HTL.out, pvs, pvs, List.map_take]] at h)
  have HL1 : Hid (0 + k ≤ 3000000000000) := Lib.hid (by omega)
  have HL2 : Hid (k + 1 ≤ 3000000000000) := Lib.hid (by omega)
  have HL3 : Hid (k + 1 + (n - (k + 1)) ≤ 3000000000000) := Lib.hid (by omega)
  have HS1 := Lib.hid (show w1.heap.size ≤ (w1.alloc (.cells #[] 39)).heap.size by simp)
  have CRA := Lib.hid ((World.cell?_alloc_lt w1 (.cells #[] 39) ⟨w.heap.size + 1, 0, none⟩ hz1).trans CR1.out)
  have FRA := Lib.hid ((World.frozen?_alloc_past (.cells #[] 39) (w.heap.size + 1) 0 hz1).trans FR1.out)
  have NRA := Lib.hid (fun j hj => (World.cell?_alloc_lt w1 (.cells #[] 39) ⟨w.heap.size + 1, j, none⟩ hz1).trans (NR1.out j hj))
  have RLA := Lib.hid (Reads.alloc HR1.out (show B ≤ w1.heap.size by omega) (.cells #[] 39))
  have BA := Lib.hid (HB1.out.alloc (show w.heap.size ≤ w1.heap.size by omega) (.cells #[] 39))
  go_wp2_with (first
    | (at_builtin; refine wpList_papp rfl (.tmp 12) (.tmp 16) rfl w1.heap.size (some ⟨w1.heap.size, 0, none⟩) 0 0 [] rfl HE.out B (some ad) k c (pvs (lo key L)) rfl R1.out HL1.out HS1.out ?_; intro A2 c2 w2 ho2 hg2; rw [Nat.zero_add, List.nil_append] at ho2; have hz2 : w1.heap.size ≤ w2.heap.size := Nat.le_trans HS1.out hg2.size; have c2a := gb_cell hg2 HE.out c1a (show w.heap.size < w1.heap.size by omega) (by first | omega | (simp only [World.size_alloc]; omega) | (simp only [World.size_alloc]; done)); have CR2 := Lib.hid (gb_cell hg2 HE.out CRA.out hz1 (by first | omega | (simp only [World.size_alloc]; omega) | (simp only [World.size_alloc]; done))); have FR2 := Lib.hid (gb_frozen hg2 HE.out FRA.out hz1 (by first | omega | (simp only [World.size_alloc]; omega) | (simp only [World.size_alloc]; done))); have NR2 := Lib.hid (fun j hj => gb_cell hg2 HE.out (NRA.out j hj) hz1 (by first | omega | (simp only [World.size_alloc]; omega) | (simp only [World.size_alloc]; done))); have HR2 := Lib.hid (Reads.grown RLA.out hg2 (by first | omega | (simp only [World.size_alloc]; omega) | (simp only [World.size_alloc]; done)) (fun g hg => by have := (HE.out.base_le g hg).1; omega)); have HB2 := Lib.hid (below_papp BA.out hg2 HE.out (by omega) (by first | omega | (simp only [World.size_alloc]; omega) | (simp only [World.size_alloc]; done))); have OA2 := Lib.hid (ho2.alloc (.cells #[.string key, .string v, .bool false] 39)); have RA2 := Lib.hid (PReads.one w2 (pv (key, v)) 39); have HS2 := Lib.hid (show w1.heap.size ≤ (w2.alloc (.cells #[.string key, .string v, .bool false] 39)).heap.size by first | omega | (simp only [World.size_alloc]; omega) | (simp only [World.size_alloc]; done)); have hz1' : w.heap.size + 1 < w2.heap.size := (by omega); have c2b : (w2.alloc (.cells #[.string key, .string v, .bool false] 39)).cell? ⟨w.heap.size, 0, none⟩ = some (.slice (some ad) n c) := (World.cell?_alloc_lt w2 _ _ (show w.heap.size < w2.heap.size by omega)).trans c2a; clear ho2 hg2)
    | (at_builtin; refine wpList_papp rfl (.tmp 17) (.tmp 21) rfl w1.heap.size A2 k c2 (pvs (lo key L)) rfl OA2.out (w2.heap.size + 1) (some ⟨w2.heap.size, 0, none⟩) 1 1 [pv (key, v)] rfl RA2.out HL2.out HS2.out ?_; intro A3 c3 w3 ho3 hg3; have hz3 : w1.heap.size ≤ w3.heap.size := Nat.le_trans HS2.out hg3.size; have c3a := gb_cell hg3 OA2.out c2b (show w.heap.size < w1.heap.size by omega) (by first | omega | (simp only [World.size_alloc]; omega) | (simp only [World.size_alloc]; done)); have CR3 := Lib.hid (gb_cell hg3 OA2.out ((World.cell?_alloc_lt w2 _ ⟨w.heap.size + 1, 0, none⟩ hz1').trans CR2.out) hz1 (by first | omega | (simp only [World.size_alloc]; omega) | (simp only [World.size_alloc]; done))); have FR3 := Lib.hid (gb_frozen hg3 OA2.out ((World.frozen?_alloc_past _ _ _ hz1').trans FR2.out) hz1 (by first | omega | (simp only [World.size_alloc]; omega) | (simp only [World.size_alloc]; done))); have NR3 := Lib.hid (fun j hj => gb_cell hg3 OA2.out ((World.cell?_alloc_lt w2 _ ⟨w.heap.size + 1, j, none⟩ hz1').trans (NR2.out j hj)) hz1 (by first | omega | (simp only [World.size_alloc]; omega) | (simp only [World.size_alloc]; done))); have HR3 := Lib.hid (Reads.grown (Reads.alloc HR2.out (show B ≤ w2.heap.size by omega) (.cells #[.string key, .string v, .bool false] 39)) hg3 (by first | omega | (simp only [World.size_alloc]; omega) | (simp only [World.size_alloc]; done)) (fun g hg => by have := (OA2.out.base_le g hg).1; omega)); have HB3 := Lib.hid (below_papp (HB2.out.alloc (by omega) (.cells #[.string key, .string v, .bool false] 39)) hg3 OA2.out (by omega) (by first | omega | (simp only [World.size_alloc]; omega) | (simp only [World.size_alloc]; done))); have HO3 := Lib.hid ho3; have R3 := Lib.hid (show PReads w3 B (some (ad.add ((k + 1) * 3))) (n - (k + 1)) (pvs (gt key L)) from by have h := PReads.cut HR3.out (k := k + 1) (by omega) hnc; rw [show (pvs L).drop (k + 1) = pvs (gt key L) by rw [← HGH.out y HY.out HYE.out, pvs, pvs, List.map_drop], if_neg hcc, Option.map_some] at h; exact h); have d3 : w3.cell? (ad.add (k * 3)) = some (.string y.1) := PReads.key HR3.out HY.out; clear ho3 hg3 c2b c2a)
    | (at_builtin; refine wpList_papp rfl (.tmp 40) (.tmp 44) rfl w1.heap.size A3 (k + 1) c3 (pvs (lo key L) ++ [pv (key, v)]) rfl HO3.out B (some (ad.add ((k + 1) * 3))) (n - (k + 1)) (c - (k + 1)) (pvs (gt key L)) rfl R3.out HL3.out hz3 ?_; intro A4 c4 w4 ho4 hg4; have kc := gb_cell hg4 HO3.out CR3.out hz1 (by omega); have kf := gb_frozen hg4 HO3.out FR3.out hz1 (by omega); have NR4 := Lib.hid (fun j hj => gb_cell hg4 HO3.out (NR3.out j hj) hz1 (by omega)); have HB4 := Lib.hid (below_papp HB3.out hg4 HO3.out (by omega) (by omega)); have HO4 := Lib.hid ho4; clear ho4 hg4))
  refine bodyPost_ret (v := .agg #[.slice A4 (k + 1 + (n - (k + 1))) c4]) (by simp [results, Try.results43, go_sem, kc]) rfl ?_
  have hfin : POwn w4 w1.heap.size A4 (k + 1 + (n - (k + 1))) c4 (pvs (putL key v L)) := by
    have := HO4.out
    rw [HPL.out, pvs_app]
    simpa [pvs] using this
  have hrt := RTab.of_own hfin
  exact ⟨A4, _, c4, rfl, ⟨by have := PReads.set1 hrt.1 NR4.out (.slice A4 (k + 1 + (n - (k + 1))) c4); simpa using this, hrt.2⟩, HB4.out.setCell (by simp) _⟩
set_option maxHeartbeats 4000000 in
theorem rput_eq1 (key v : ByteArray) (L : List KV) (B : Nat) (ad : Addr) (n c : Nat) (w : World) (hr : RTab w B (some ad) n c L) (hB : B ≤ w.heap.size) (ha : asc L) (hn : n ≤ 1000000) (y : KV) (hy : L[(lo key L).length]? = some y) (hye : y.1 = key) (hcc0 : c = (lo key L).length + 1) :
    Calls Try.prog 43 #[.agg #[.slice (some ad) n c], .string key, .string v] w (RPost w (putL key v L)) := by
  obtain ⟨hr, hnc, hcm, hA⟩ := hr
  have HN := Lib.hid (show L.length = n by rw [← hr.len, pvs_len])
  have b0 : Below w.heap.size w ((w.alloc (.cells #[.slice (some ad) n c] 44)).alloc (.cells #[.slice none 0 0] 44)) := ((Below.refl _ _).alloc (Nat.le_refl _) _).alloc (by simp) _
  have HR := Lib.hid (Reads.below hr (b0.mono hB))
  have HB := Lib.hid b0
  have CT := Lib.hid (show ((w.alloc (.cells #[.slice (some ad) n c] 44)).alloc (.cells #[.slice none 0 0] 44)).cell? ⟨w.heap.size, 0, none⟩ = some (.slice (some ad) n c) by rw [World.cell?_alloc_lt _ _ _ (by simp)]; exact box1 w _ _)
  have CR := Lib.hid (show ((w.alloc (.cells #[.slice (some ad) n c] 44)).alloc (.cells #[.slice none 0 0] 44)).cell? ⟨w.heap.size + 1, 0, none⟩ = some (.slice none 0 0) by rw [World.cell?_alloc_at _ _ _ _ (by simp)]; rfl)
  have FR := Lib.hid (show ((w.alloc (.cells #[.slice (some ad) n c] 44)).alloc (.cells #[.slice none 0 0] 44)).frozen? ⟨w.heap.size + 1, 0, none⟩ = false from World.frozen?_alloc_at _ _ _ _ (by simp))
  have NR := Lib.hid (fun (j : Nat) (hj : 1 ≤ j) => show ((w.alloc (.cells #[.slice (some ad) n c] 44)).alloc (.cells #[.slice none 0 0] 44)).cell? ⟨w.heap.size + 1, j, none⟩ = none by rw [World.cell?_alloc_at _ _ _ _ (by simp)]; simp; omega)
  have HSZ := Lib.hid (show ((w.alloc (.cells #[.slice (some ad) n c] 44)).alloc (.cells #[.slice none 0 0] 44)).heap.size = w.heap.size + 1 + 1 by simp)
  have HP := Lib.hid (fun V (hV : Below w.heap.size w V) => rplace_v key L B (some ad) n c V (Reads.below hr (hV.mono hB)) (Nat.le_trans hB hV.size) ha hn)
  have hlen := lo_len key L
  rw [HN.out] at hlen
  have HTL := Lib.hid (take_lo key ha)
  have HGH := Lib.hid (fun (x : KV) => gt_head (key := key) ha (x := x))
  have HGE := Lib.hid (gt_else (key := key) ha)
  have HPL : Hid (putL key v L = lo key L ++ (key, v) :: gt key L) := Lib.hid rfl
  clear hr b0
  generalize hk : (lo key L).length = k at *
  have HKK := Lib.hid hk
  clear hk
  have HY := Lib.hid hy
  clear hy
  have hkl : k < n := by have := (List.getElem?_eq_some_iff.1 HY.out).1; rw [HN.out] at this; exact this
  have hk0 : (0 : Int) ≤ (k : Int) := by omega
  have hk1 : (k : Int) < (n : Int) := by omega
  have hklt : decide ((k : Int) < (n : Int)) = true := by simp; omega

  have g1 : (y.1.toList == key.toList) = true := (kbeq_iff _ _).2 hye
  have HYE := Lib.hid hye
  clear hye
  have hkk1 : (k : Int) + 1 ≤ (n : Int) := by omega
  have hkk2 : (k : Int) + 1 ≤ (c : Int) := by omega
  have hkk3 : ((k : Int) + 1).toNat = k + 1 := by omega

  have hn1 : n = k + 1 := by omega
  have HGN := Lib.hid (show (gt key L).length = 0 by rw [← HGH.out y HY.out HYE.out, List.length_drop, HN.out]; omega)
  subst hcc0
  subst hn1
  go_enter Try.func43, Try.ntmps43
  go_wp2_with fail
  generalize (w.alloc (.cells #[.slice (some ad) (k + 1) (k + 1)] 44)).alloc (.cells #[.slice none 0 0] 44) = w0 at *
  refine (HP.out w0 HB.out).mono ?_
  rintro e w1 ⟨rfl, hb1⟩
  have hlt0 : w.heap.size < w0.heap.size := by have := HSZ.out; omega
  have hlt1 : w.heap.size + 1 < w0.heap.size := by have := HSZ.out; omega
  have c1 := keepC hb1 CT.out hlt0
  have CR1 := Lib.hid (keepC hb1 CR.out hlt1)
  have FR1 := Lib.hid (keepF hb1 FR.out hlt1)
  have NR1 := Lib.hid (fun j hj => keepC hb1 (NR.out j hj) hlt1)
  have HB1 := Lib.hid (btrans HB.out hb1 HB.out.size)
  have hz1 : w.heap.size + 1 < w1.heap.size := Nat.lt_of_lt_of_le hlt1 hb1.size
  have HR1 := Lib.hid (Reads.below HR.out (hb1.mono (by omega)))
  clear hb1 HR HB CT CR FR NR HSZ HP hlt0 hlt1
  have hkn : (k : Int) ≤ ((k + 1) : Int) := by omega
  have hkc : (k : Int) ≤ ((k + 1) : Int) := by omega
  have hkc' : k ≤ (k + 1) := by omega
  have c1a : (w1.alloc (.cells #[] 39)).cell? ⟨w.heap.size, 0, none⟩ = some (.slice (some ad) (k + 1) (k + 1)) := (World.cell?_alloc_lt w1 _ _ (show w.heap.size < w1.heap.size by omega)).trans c1
  have HE := Lib.hid (POwn.empty w1)
  have R1 := Lib.hid (show PReads (w1.alloc (.cells #[] 39)) B (some ad) k (pvs (lo key L)) by
    have h := PReads.take (Reads.alloc HR1.out (by omega) (.cells #[] 39)) hlen
    rwa [show (pvs L).take k = pvs (lo key L) by rw [← HTL.out, pvs, pvs, List.map_take]] at h)
  have HL1 : Hid (0 + k ≤ 3000000000000) := Lib.hid (by omega)
  have HL2 : Hid (k + 1 ≤ 3000000000000) := Lib.hid (by omega)
  have HL3 : Hid (k + 1 + (0) ≤ 3000000000000) := Lib.hid (by omega)
  have HS1 := Lib.hid (show w1.heap.size ≤ (w1.alloc (.cells #[] 39)).heap.size by simp)
  have CRA := Lib.hid ((World.cell?_alloc_lt w1 (.cells #[] 39) ⟨w.heap.size + 1, 0, none⟩ hz1).trans CR1.out)
  have FRA := Lib.hid ((World.frozen?_alloc_past (.cells #[] 39) (w.heap.size + 1) 0 hz1).trans FR1.out)
  have NRA := Lib.hid (fun j hj => (World.cell?_alloc_lt w1 (.cells #[] 39) ⟨w.heap.size + 1, j, none⟩ hz1).trans (NR1.out j hj))
  have RLA := Lib.hid (Reads.alloc HR1.out (show B ≤ w1.heap.size by omega) (.cells #[] 39))
  have BA := Lib.hid (HB1.out.alloc (show w.heap.size ≤ w1.heap.size by omega) (.cells #[] 39))
  go_wp2_with (first
    | (at_builtin; refine wpList_papp rfl (.tmp 12) (.tmp 16) rfl w1.heap.size (some ⟨w1.heap.size, 0, none⟩) 0 0 [] rfl HE.out B (some ad) k (k + 1) (pvs (lo key L)) rfl R1.out HL1.out HS1.out ?_; intro A2 c2 w2 ho2 hg2; rw [Nat.zero_add, List.nil_append] at ho2; have hz2 : w1.heap.size ≤ w2.heap.size := Nat.le_trans HS1.out hg2.size; have c2a := gb_cell hg2 HE.out c1a (show w.heap.size < w1.heap.size by omega) (by first | omega | (simp only [World.size_alloc]; omega) | (simp only [World.size_alloc]; done)); have CR2 := Lib.hid (gb_cell hg2 HE.out CRA.out hz1 (by first | omega | (simp only [World.size_alloc]; omega) | (simp only [World.size_alloc]; done))); have FR2 := Lib.hid (gb_frozen hg2 HE.out FRA.out hz1 (by first | omega | (simp only [World.size_alloc]; omega) | (simp only [World.size_alloc]; done))); have NR2 := Lib.hid (fun j hj => gb_cell hg2 HE.out (NRA.out j hj) hz1 (by first | omega | (simp only [World.size_alloc]; omega) | (simp only [World.size_alloc]; done))); have HR2 := Lib.hid (Reads.grown RLA.out hg2 (by first | omega | (simp only [World.size_alloc]; omega) | (simp only [World.size_alloc]; done)) (fun g hg => by have := (HE.out.base_le g hg).1; omega)); have HB2 := Lib.hid (below_papp BA.out hg2 HE.out (by omega) (by first | omega | (simp only [World.size_alloc]; omega) | (simp only [World.size_alloc]; done))); have OA2 := Lib.hid (ho2.alloc (.cells #[.string key, .string v, .bool false] 39)); have RA2 := Lib.hid (PReads.one w2 (pv (key, v)) 39); have HS2 := Lib.hid (show w1.heap.size ≤ (w2.alloc (.cells #[.string key, .string v, .bool false] 39)).heap.size by first | omega | (simp only [World.size_alloc]; omega) | (simp only [World.size_alloc]; done)); have hz1' : w.heap.size + 1 < w2.heap.size := (by omega); have c2b : (w2.alloc (.cells #[.string key, .string v, .bool false] 39)).cell? ⟨w.heap.size, 0, none⟩ = some (.slice (some ad) (k + 1) (k + 1)) := (World.cell?_alloc_lt w2 _ _ (show w.heap.size < w2.heap.size by omega)).trans c2a; clear ho2 hg2)
    | (at_builtin; refine wpList_papp rfl (.tmp 17) (.tmp 21) rfl w1.heap.size A2 k c2 (pvs (lo key L)) rfl OA2.out (w2.heap.size + 1) (some ⟨w2.heap.size, 0, none⟩) 1 1 [pv (key, v)] rfl RA2.out HL2.out HS2.out ?_; intro A3 c3 w3 ho3 hg3; have hz3 : w1.heap.size ≤ w3.heap.size := Nat.le_trans HS2.out hg3.size; have c3a := gb_cell hg3 OA2.out c2b (show w.heap.size < w1.heap.size by omega) (by first | omega | (simp only [World.size_alloc]; omega) | (simp only [World.size_alloc]; done)); have CR3 := Lib.hid (gb_cell hg3 OA2.out ((World.cell?_alloc_lt w2 _ ⟨w.heap.size + 1, 0, none⟩ hz1').trans CR2.out) hz1 (by first | omega | (simp only [World.size_alloc]; omega) | (simp only [World.size_alloc]; done))); have FR3 := Lib.hid (gb_frozen hg3 OA2.out ((World.frozen?_alloc_past _ _ _ hz1').trans FR2.out) hz1 (by first | omega | (simp only [World.size_alloc]; omega) | (simp only [World.size_alloc]; done))); have NR3 := Lib.hid (fun j hj => gb_cell hg3 OA2.out ((World.cell?_alloc_lt w2 _ ⟨w.heap.size + 1, j, none⟩ hz1').trans (NR2.out j hj)) hz1 (by first | omega | (simp only [World.size_alloc]; omega) | (simp only [World.size_alloc]; done))); have HR3 := Lib.hid (Reads.grown (Reads.alloc HR2.out (show B ≤ w2.heap.size by omega) (.cells #[.string key, .string v, .bool false] 39)) hg3 (by first | omega | (simp only [World.size_alloc]; omega) | (simp only [World.size_alloc]; done)) (fun g hg => by have := (OA2.out.base_le g hg).1; omega)); have HB3 := Lib.hid (below_papp (HB2.out.alloc (by omega) (.cells #[.string key, .string v, .bool false] 39)) hg3 OA2.out (by omega) (by first | omega | (simp only [World.size_alloc]; omega) | (simp only [World.size_alloc]; done))); have HO3 := Lib.hid ho3; have R3 := Lib.hid (show ∀ D, PReads w3 B D 0 (pvs (gt key L)) from fun D => ⟨by rw [p3sC_len, pvs_len, HGN.out], fun h => absurd h (by omega)⟩); have d3 : w3.cell? (ad.add (k * 3)) = some (.string y.1) := PReads.key HR3.out HY.out; clear ho3 hg3 c2b c2a)
    | (at_builtin; refine wpList_papp rfl (.tmp 40) (.tmp 44) rfl w1.heap.size A3 (k + 1) c3 (pvs (lo key L) ++ [pv (key, v)]) rfl HO3.out B _ 0 _ (pvs (gt key L)) rfl (R3.out _) HL3.out hz3 ?_; intro A4 c4 w4 ho4 hg4; have kc := gb_cell hg4 HO3.out CR3.out hz1 (by omega); have kf := gb_frozen hg4 HO3.out FR3.out hz1 (by omega); have NR4 := Lib.hid (fun j hj => gb_cell hg4 HO3.out (NR3.out j hj) hz1 (by omega)); have HB4 := Lib.hid (below_papp HB3.out hg4 HO3.out (by omega) (by omega)); have HO4 := Lib.hid ho4; clear ho4 hg4))
  refine bodyPost_ret (v := .agg #[.slice A4 (k + 1 + (0)) c4]) (by simp [results, Try.results43, go_sem, kc]) rfl ?_
  have hfin : POwn w4 w1.heap.size A4 (k + 1 + (0)) c4 (pvs (putL key v L)) := by
    have := HO4.out
    rw [HPL.out, pvs_app]
    simpa [pvs] using this
  have hrt := RTab.of_own hfin
  exact ⟨A4, _, c4, rfl, ⟨by have := PReads.set1 hrt.1 NR4.out (.slice A4 (k + 1 + (0)) c4); simpa using this, hrt.2⟩, HB4.out.setCell (by simp) _⟩
set_option maxHeartbeats 4000000 in
theorem rput_end1 (key v : ByteArray) (L : List KV) (B : Nat) (ad : Addr) (n c : Nat) (w : World) (hr : RTab w B (some ad) n c L) (hB : B ≤ w.heap.size) (ha : asc L) (hn : n ≤ 1000000) (hend : (lo key L).length = n) (hcc0 : c = n) :
    Calls Try.prog 43 #[.agg #[.slice (some ad) n c], .string key, .string v] w (RPost w (putL key v L)) := by
  obtain ⟨hr, hnc, hcm, hA⟩ := hr
  have HN := Lib.hid (show L.length = n by rw [← hr.len, pvs_len])
  have b0 : Below w.heap.size w ((w.alloc (.cells #[.slice (some ad) n c] 44)).alloc (.cells #[.slice none 0 0] 44)) := ((Below.refl _ _).alloc (Nat.le_refl _) _).alloc (by simp) _
  have HR := Lib.hid (Reads.below hr (b0.mono hB))
  have HB := Lib.hid b0
  have CT := Lib.hid (show ((w.alloc (.cells #[.slice (some ad) n c] 44)).alloc (.cells #[.slice none 0 0] 44)).cell? ⟨w.heap.size, 0, none⟩ = some (.slice (some ad) n c) by rw [World.cell?_alloc_lt _ _ _ (by simp)]; exact box1 w _ _)
  have CR := Lib.hid (show ((w.alloc (.cells #[.slice (some ad) n c] 44)).alloc (.cells #[.slice none 0 0] 44)).cell? ⟨w.heap.size + 1, 0, none⟩ = some (.slice none 0 0) by rw [World.cell?_alloc_at _ _ _ _ (by simp)]; rfl)
  have FR := Lib.hid (show ((w.alloc (.cells #[.slice (some ad) n c] 44)).alloc (.cells #[.slice none 0 0] 44)).frozen? ⟨w.heap.size + 1, 0, none⟩ = false from World.frozen?_alloc_at _ _ _ _ (by simp))
  have NR := Lib.hid (fun (j : Nat) (hj : 1 ≤ j) => show ((w.alloc (.cells #[.slice (some ad) n c] 44)).alloc (.cells #[.slice none 0 0] 44)).cell? ⟨w.heap.size + 1, j, none⟩ = none by rw [World.cell?_alloc_at _ _ _ _ (by simp)]; simp; omega)
  have HSZ := Lib.hid (show ((w.alloc (.cells #[.slice (some ad) n c] 44)).alloc (.cells #[.slice none 0 0] 44)).heap.size = w.heap.size + 1 + 1 by simp)
  have HP := Lib.hid (fun V (hV : Below w.heap.size w V) => rplace_v key L B (some ad) n c V (Reads.below hr (hV.mono hB)) (Nat.le_trans hB hV.size) ha hn)
  have hlen := lo_len key L
  rw [HN.out] at hlen
  have HTL := Lib.hid (take_lo key ha)
  have HGH := Lib.hid (fun (x : KV) => gt_head (key := key) ha (x := x))
  have HGE := Lib.hid (gt_else (key := key) ha)
  have HPL : Hid (putL key v L = lo key L ++ (key, v) :: gt key L) := Lib.hid rfl
  clear hr b0
  generalize hk : (lo key L).length = k at *
  have HKK := Lib.hid hk
  clear hk
  have HGN := Lib.hid (show (gt key L).length = 0 by
    rw [← HGE.out (fun x hx => by rw [List.getElem?_eq_none (by rw [HN.out]; omega)] at hx; cases hx), List.length_drop, HN.out]; omega)
  have hn1 : n = k := by have := HN.out; omega
  subst hn1
  have hklt : decide ((n : Int) < (n : Int)) = false := by simp

  subst hcc0
  go_enter Try.func43, Try.ntmps43
  go_wp2_with fail
  generalize (w.alloc (.cells #[.slice (some ad) c c] 44)).alloc (.cells #[.slice none 0 0] 44) = w0 at *
  refine (HP.out w0 HB.out).mono ?_
  rintro e w1 ⟨rfl, hb1⟩
  have hlt0 : w.heap.size < w0.heap.size := by have := HSZ.out; omega
  have hlt1 : w.heap.size + 1 < w0.heap.size := by have := HSZ.out; omega
  have c1 := keepC hb1 CT.out hlt0
  have CR1 := Lib.hid (keepC hb1 CR.out hlt1)
  have FR1 := Lib.hid (keepF hb1 FR.out hlt1)
  have NR1 := Lib.hid (fun j hj => keepC hb1 (NR.out j hj) hlt1)
  have HB1 := Lib.hid (btrans HB.out hb1 HB.out.size)
  have hz1 : w.heap.size + 1 < w1.heap.size := Nat.lt_of_lt_of_le hlt1 hb1.size
  have HR1 := Lib.hid (Reads.below HR.out (hb1.mono (by omega)))
  clear hb1 HR HB CT CR FR NR HSZ HP hlt0 hlt1
  have hkn : (c : Int) ≤ (c : Int) := by omega
  have hkc : (c : Int) ≤ (c : Int) := by omega
  have hkc' : c ≤ c := by omega
  have c1a : (w1.alloc (.cells #[] 39)).cell? ⟨w.heap.size, 0, none⟩ = some (.slice (some ad) c c) := (World.cell?_alloc_lt w1 _ _ (show w.heap.size < w1.heap.size by omega)).trans c1
  have HE := Lib.hid (POwn.empty w1)
  have R1 := Lib.hid (show PReads (w1.alloc (.cells #[] 39)) B (some ad) c (pvs (lo key L)) by
    have h := PReads.take (Reads.alloc HR1.out (by omega) (.cells #[] 39)) hlen
    rwa [show (pvs L).take c = pvs (lo key L) by rw [← HTL.out, pvs, pvs, List.map_take]] at h)
  have HL1 : Hid (0 + c ≤ 3000000000000) := Lib.hid (by omega)
  have HL2 : Hid (c + 1 ≤ 3000000000000) := Lib.hid (by omega)
  have HL3 : Hid (c + 1 + (0) ≤ 3000000000000) := Lib.hid (by omega)
  have HS1 := Lib.hid (show w1.heap.size ≤ (w1.alloc (.cells #[] 39)).heap.size by simp)
  have CRA := Lib.hid ((World.cell?_alloc_lt w1 (.cells #[] 39) ⟨w.heap.size + 1, 0, none⟩ hz1).trans CR1.out)
  have FRA := Lib.hid ((World.frozen?_alloc_past (.cells #[] 39) (w.heap.size + 1) 0 hz1).trans FR1.out)
  have NRA := Lib.hid (fun j hj => (World.cell?_alloc_lt w1 (.cells #[] 39) ⟨w.heap.size + 1, j, none⟩ hz1).trans (NR1.out j hj))
  have RLA := Lib.hid (Reads.alloc HR1.out (show B ≤ w1.heap.size by omega) (.cells #[] 39))
  have BA := Lib.hid (HB1.out.alloc (show w.heap.size ≤ w1.heap.size by omega) (.cells #[] 39))
  go_wp2_with (first
    | (at_builtin; refine wpList_papp rfl (.tmp 12) (.tmp 16) rfl w1.heap.size (some ⟨w1.heap.size, 0, none⟩) 0 0 [] rfl HE.out B (some ad) c c (pvs (lo key L)) rfl R1.out HL1.out HS1.out ?_; intro A2 c2 w2 ho2 hg2; rw [Nat.zero_add, List.nil_append] at ho2; have hz2 : w1.heap.size ≤ w2.heap.size := Nat.le_trans HS1.out hg2.size; have c2a := gb_cell hg2 HE.out c1a (show w.heap.size < w1.heap.size by omega) (by first | omega | (simp only [World.size_alloc]; omega) | (simp only [World.size_alloc]; done)); have CR2 := Lib.hid (gb_cell hg2 HE.out CRA.out hz1 (by first | omega | (simp only [World.size_alloc]; omega) | (simp only [World.size_alloc]; done))); have FR2 := Lib.hid (gb_frozen hg2 HE.out FRA.out hz1 (by first | omega | (simp only [World.size_alloc]; omega) | (simp only [World.size_alloc]; done))); have NR2 := Lib.hid (fun j hj => gb_cell hg2 HE.out (NRA.out j hj) hz1 (by first | omega | (simp only [World.size_alloc]; omega) | (simp only [World.size_alloc]; done))); have HR2 := Lib.hid (Reads.grown RLA.out hg2 (by first | omega | (simp only [World.size_alloc]; omega) | (simp only [World.size_alloc]; done)) (fun g hg => by have := (HE.out.base_le g hg).1; omega)); have HB2 := Lib.hid (below_papp BA.out hg2 HE.out (by omega) (by first | omega | (simp only [World.size_alloc]; omega) | (simp only [World.size_alloc]; done))); have OA2 := Lib.hid (ho2.alloc (.cells #[.string key, .string v, .bool false] 39)); have RA2 := Lib.hid (PReads.one w2 (pv (key, v)) 39); have HS2 := Lib.hid (show w1.heap.size ≤ (w2.alloc (.cells #[.string key, .string v, .bool false] 39)).heap.size by first | omega | (simp only [World.size_alloc]; omega) | (simp only [World.size_alloc]; done)); have hz1' : w.heap.size + 1 < w2.heap.size := (by omega); have c2b : (w2.alloc (.cells #[.string key, .string v, .bool false] 39)).cell? ⟨w.heap.size, 0, none⟩ = some (.slice (some ad) c c) := (World.cell?_alloc_lt w2 _ _ (show w.heap.size < w2.heap.size by omega)).trans c2a; clear ho2 hg2)
    | (at_builtin; refine wpList_papp rfl (.tmp 17) (.tmp 21) rfl w1.heap.size A2 c c2 (pvs (lo key L)) rfl OA2.out (w2.heap.size + 1) (some ⟨w2.heap.size, 0, none⟩) 1 1 [pv (key, v)] rfl RA2.out HL2.out HS2.out ?_; intro A3 c3 w3 ho3 hg3; have hz3 : w1.heap.size ≤ w3.heap.size := Nat.le_trans HS2.out hg3.size; have c3a := gb_cell hg3 OA2.out c2b (show w.heap.size < w1.heap.size by omega) (by first | omega | (simp only [World.size_alloc]; omega) | (simp only [World.size_alloc]; done)); have CR3 := Lib.hid (gb_cell hg3 OA2.out ((World.cell?_alloc_lt w2 _ ⟨w.heap.size + 1, 0, none⟩ hz1').trans CR2.out) hz1 (by first | omega | (simp only [World.size_alloc]; omega) | (simp only [World.size_alloc]; done))); have FR3 := Lib.hid (gb_frozen hg3 OA2.out ((World.frozen?_alloc_past _ _ _ hz1').trans FR2.out) hz1 (by first | omega | (simp only [World.size_alloc]; omega) | (simp only [World.size_alloc]; done))); have NR3 := Lib.hid (fun j hj => gb_cell hg3 OA2.out ((World.cell?_alloc_lt w2 _ ⟨w.heap.size + 1, j, none⟩ hz1').trans (NR2.out j hj)) hz1 (by first | omega | (simp only [World.size_alloc]; omega) | (simp only [World.size_alloc]; done))); have HR3 := Lib.hid (Reads.grown (Reads.alloc HR2.out (show B ≤ w2.heap.size by omega) (.cells #[.string key, .string v, .bool false] 39)) hg3 (by first | omega | (simp only [World.size_alloc]; omega) | (simp only [World.size_alloc]; done)) (fun g hg => by have := (OA2.out.base_le g hg).1; omega)); have HB3 := Lib.hid (below_papp (HB2.out.alloc (by omega) (.cells #[.string key, .string v, .bool false] 39)) hg3 OA2.out (by omega) (by first | omega | (simp only [World.size_alloc]; omega) | (simp only [World.size_alloc]; done))); have HO3 := Lib.hid ho3; have R3 := Lib.hid (show ∀ D, PReads w3 B D 0 (pvs (gt key L)) from fun D => ⟨by rw [p3sC_len, pvs_len, HGN.out], fun h => absurd h (by omega)⟩); clear ho3 hg3 c2b c2a)
    | (at_builtin; refine wpList_papp rfl (.tmp 40) (.tmp 44) rfl w1.heap.size A3 (c + 1) c3 (pvs (lo key L) ++ [pv (key, v)]) rfl HO3.out B _ 0 _ (pvs (gt key L)) rfl (R3.out _) HL3.out hz3 ?_; intro A4 c4 w4 ho4 hg4; have kc := gb_cell hg4 HO3.out CR3.out hz1 (by omega); have kf := gb_frozen hg4 HO3.out FR3.out hz1 (by omega); have NR4 := Lib.hid (fun j hj => gb_cell hg4 HO3.out (NR3.out j hj) hz1 (by omega)); have HB4 := Lib.hid (below_papp HB3.out hg4 HO3.out (by omega) (by omega)); have HO4 := Lib.hid ho4; clear ho4 hg4))
  refine bodyPost_ret (v := .agg #[.slice A4 (c + 1 + (0)) c4]) (by simp [results, Try.results43, go_sem, kc]) rfl ?_
  have hfin : POwn w4 w1.heap.size A4 (c + 1 + (0)) c4 (pvs (putL key v L)) := by
    have := HO4.out
    rw [HPL.out, pvs_app]
    simpa [pvs] using this
  have hrt := RTab.of_own hfin
  exact ⟨A4, _, c4, rfl, ⟨by have := PReads.set1 hrt.1 NR4.out (.slice A4 (c + 1 + (0)) c4); simpa using this, hrt.2⟩, HB4.out.setCell (by simp) _⟩
set_option maxHeartbeats 4000000 in
theorem rput_end2 (key v : ByteArray) (L : List KV) (B : Nat) (ad : Addr) (n c : Nat) (w : World) (hr : RTab w B (some ad) n c L) (hB : B ≤ w.heap.size) (ha : asc L) (hn : n ≤ 1000000) (hend : (lo key L).length = n) (hcc0 : c ≠ n) :
    Calls Try.prog 43 #[.agg #[.slice (some ad) n c], .string key, .string v] w (RPost w (putL key v L)) := by
  obtain ⟨hr, hnc, hcm, hA⟩ := hr
  have HN := Lib.hid (show L.length = n by rw [← hr.len, pvs_len])
  have b0 : Below w.heap.size w ((w.alloc (.cells #[.slice (some ad) n c] 44)).alloc (.cells #[.slice none 0 0] 44)) := ((Below.refl _ _).alloc (Nat.le_refl _) _).alloc (by simp) _
  have HR := Lib.hid (Reads.below hr (b0.mono hB))
  have HB := Lib.hid b0
  have CT := Lib.hid (show ((w.alloc (.cells #[.slice (some ad) n c] 44)).alloc (.cells #[.slice none 0 0] 44)).cell? ⟨w.heap.size, 0, none⟩ = some (.slice (some ad) n c) by rw [World.cell?_alloc_lt _ _ _ (by simp)]; exact box1 w _ _)
  have CR := Lib.hid (show ((w.alloc (.cells #[.slice (some ad) n c] 44)).alloc (.cells #[.slice none 0 0] 44)).cell? ⟨w.heap.size + 1, 0, none⟩ = some (.slice none 0 0) by rw [World.cell?_alloc_at _ _ _ _ (by simp)]; rfl)
  have FR := Lib.hid (show ((w.alloc (.cells #[.slice (some ad) n c] 44)).alloc (.cells #[.slice none 0 0] 44)).frozen? ⟨w.heap.size + 1, 0, none⟩ = false from World.frozen?_alloc_at _ _ _ _ (by simp))
  have NR := Lib.hid (fun (j : Nat) (hj : 1 ≤ j) => show ((w.alloc (.cells #[.slice (some ad) n c] 44)).alloc (.cells #[.slice none 0 0] 44)).cell? ⟨w.heap.size + 1, j, none⟩ = none by rw [World.cell?_alloc_at _ _ _ _ (by simp)]; simp; omega)
  have HSZ := Lib.hid (show ((w.alloc (.cells #[.slice (some ad) n c] 44)).alloc (.cells #[.slice none 0 0] 44)).heap.size = w.heap.size + 1 + 1 by simp)
  have HP := Lib.hid (fun V (hV : Below w.heap.size w V) => rplace_v key L B (some ad) n c V (Reads.below hr (hV.mono hB)) (Nat.le_trans hB hV.size) ha hn)
  have hlen := lo_len key L
  rw [HN.out] at hlen
  have HTL := Lib.hid (take_lo key ha)
  have HGH := Lib.hid (fun (x : KV) => gt_head (key := key) ha (x := x))
  have HGE := Lib.hid (gt_else (key := key) ha)
  have HPL : Hid (putL key v L = lo key L ++ (key, v) :: gt key L) := Lib.hid rfl
  clear hr b0
  generalize hk : (lo key L).length = k at *
  have HKK := Lib.hid hk
  clear hk
  have HGN := Lib.hid (show (gt key L).length = 0 by
    rw [← HGE.out (fun x hx => by rw [List.getElem?_eq_none (by rw [HN.out]; omega)] at hx; cases hx), List.length_drop, HN.out]; omega)
  have hn1 : n = k := by have := HN.out; omega
  subst hn1
  have hklt : decide ((n : Int) < (n : Int)) = false := by simp

  have hccd : decide (c = n) = false := by simpa using hcc0
  go_enter Try.func43, Try.ntmps43
  go_wp2_with fail
  generalize (w.alloc (.cells #[.slice (some ad) n c] 44)).alloc (.cells #[.slice none 0 0] 44) = w0 at *
  refine (HP.out w0 HB.out).mono ?_
  rintro e w1 ⟨rfl, hb1⟩
  have hlt0 : w.heap.size < w0.heap.size := by have := HSZ.out; omega
  have hlt1 : w.heap.size + 1 < w0.heap.size := by have := HSZ.out; omega
  have c1 := keepC hb1 CT.out hlt0
  have CR1 := Lib.hid (keepC hb1 CR.out hlt1)
  have FR1 := Lib.hid (keepF hb1 FR.out hlt1)
  have NR1 := Lib.hid (fun j hj => keepC hb1 (NR.out j hj) hlt1)
  have HB1 := Lib.hid (btrans HB.out hb1 HB.out.size)
  have hz1 : w.heap.size + 1 < w1.heap.size := Nat.lt_of_lt_of_le hlt1 hb1.size
  have HR1 := Lib.hid (Reads.below HR.out (hb1.mono (by omega)))
  clear hb1 HR HB CT CR FR NR HSZ HP hlt0 hlt1
  have hkn : (n : Int) ≤ (n : Int) := by omega
  have hkc : (n : Int) ≤ (c : Int) := by omega
  have hkc' : n ≤ c := by omega
  have c1a : (w1.alloc (.cells #[] 39)).cell? ⟨w.heap.size, 0, none⟩ = some (.slice (some ad) n c) := (World.cell?_alloc_lt w1 _ _ (show w.heap.size < w1.heap.size by omega)).trans c1
  have HE := Lib.hid (POwn.empty w1)
  have R1 := Lib.hid (show PReads (w1.alloc (.cells #[] 39)) B (some ad) n (pvs (lo key L)) by
    have h := PReads.take (Reads.alloc HR1.out (by omega) (.cells #[] 39)) hlen
    rwa [show (pvs L).take n = pvs (lo key L) by rw [← HTL.out, pvs, pvs, List.map_take]] at h)
  have HL1 : Hid (0 + n ≤ 3000000000000) := Lib.hid (by omega)
  have HL2 : Hid (n + 1 ≤ 3000000000000) := Lib.hid (by omega)
  have HL3 : Hid (n + 1 + (0) ≤ 3000000000000) := Lib.hid (by omega)
  have HS1 := Lib.hid (show w1.heap.size ≤ (w1.alloc (.cells #[] 39)).heap.size by simp)
  have CRA := Lib.hid ((World.cell?_alloc_lt w1 (.cells #[] 39) ⟨w.heap.size + 1, 0, none⟩ hz1).trans CR1.out)
  have FRA := Lib.hid ((World.frozen?_alloc_past (.cells #[] 39) (w.heap.size + 1) 0 hz1).trans FR1.out)
  have NRA := Lib.hid (fun j hj => (World.cell?_alloc_lt w1 (.cells #[] 39) ⟨w.heap.size + 1, j, none⟩ hz1).trans (NR1.out j hj))
  have RLA := Lib.hid (Reads.alloc HR1.out (show B ≤ w1.heap.size by omega) (.cells #[] 39))
  have BA := Lib.hid (HB1.out.alloc (show w.heap.size ≤ w1.heap.size by omega) (.cells #[] 39))
  go_wp2_with (first
    | (at_builtin; refine wpList_papp rfl (.tmp 12) (.tmp 16) rfl w1.heap.size (some ⟨w1.heap.size, 0, none⟩) 0 0 [] rfl HE.out B (some ad) n c (pvs (lo key L)) rfl R1.out HL1.out HS1.out ?_; intro A2 c2 w2 ho2 hg2; rw [Nat.zero_add, List.nil_append] at ho2; have hz2 : w1.heap.size ≤ w2.heap.size := Nat.le_trans HS1.out hg2.size; have c2a := gb_cell hg2 HE.out c1a (show w.heap.size < w1.heap.size by omega) (by first | omega | (simp only [World.size_alloc]; omega) | (simp only [World.size_alloc]; done)); have CR2 := Lib.hid (gb_cell hg2 HE.out CRA.out hz1 (by first | omega | (simp only [World.size_alloc]; omega) | (simp only [World.size_alloc]; done))); have FR2 := Lib.hid (gb_frozen hg2 HE.out FRA.out hz1 (by first | omega | (simp only [World.size_alloc]; omega) | (simp only [World.size_alloc]; done))); have NR2 := Lib.hid (fun j hj => gb_cell hg2 HE.out (NRA.out j hj) hz1 (by first | omega | (simp only [World.size_alloc]; omega) | (simp only [World.size_alloc]; done))); have HR2 := Lib.hid (Reads.grown RLA.out hg2 (by first | omega | (simp only [World.size_alloc]; omega) | (simp only [World.size_alloc]; done)) (fun g hg => by have := (HE.out.base_le g hg).1; omega)); have HB2 := Lib.hid (below_papp BA.out hg2 HE.out (by omega) (by first | omega | (simp only [World.size_alloc]; omega) | (simp only [World.size_alloc]; done))); have OA2 := Lib.hid (ho2.alloc (.cells #[.string key, .string v, .bool false] 39)); have RA2 := Lib.hid (PReads.one w2 (pv (key, v)) 39); have HS2 := Lib.hid (show w1.heap.size ≤ (w2.alloc (.cells #[.string key, .string v, .bool false] 39)).heap.size by first | omega | (simp only [World.size_alloc]; omega) | (simp only [World.size_alloc]; done)); have hz1' : w.heap.size + 1 < w2.heap.size := (by omega); have c2b : (w2.alloc (.cells #[.string key, .string v, .bool false] 39)).cell? ⟨w.heap.size, 0, none⟩ = some (.slice (some ad) n c) := (World.cell?_alloc_lt w2 _ _ (show w.heap.size < w2.heap.size by omega)).trans c2a; clear ho2 hg2)
    | (at_builtin; refine wpList_papp rfl (.tmp 17) (.tmp 21) rfl w1.heap.size A2 n c2 (pvs (lo key L)) rfl OA2.out (w2.heap.size + 1) (some ⟨w2.heap.size, 0, none⟩) 1 1 [pv (key, v)] rfl RA2.out HL2.out HS2.out ?_; intro A3 c3 w3 ho3 hg3; have hz3 : w1.heap.size ≤ w3.heap.size := Nat.le_trans HS2.out hg3.size; have c3a := gb_cell hg3 OA2.out c2b (show w.heap.size < w1.heap.size by omega) (by first | omega | (simp only [World.size_alloc]; omega) | (simp only [World.size_alloc]; done)); have CR3 := Lib.hid (gb_cell hg3 OA2.out ((World.cell?_alloc_lt w2 _ ⟨w.heap.size + 1, 0, none⟩ hz1').trans CR2.out) hz1 (by first | omega | (simp only [World.size_alloc]; omega) | (simp only [World.size_alloc]; done))); have FR3 := Lib.hid (gb_frozen hg3 OA2.out ((World.frozen?_alloc_past _ _ _ hz1').trans FR2.out) hz1 (by first | omega | (simp only [World.size_alloc]; omega) | (simp only [World.size_alloc]; done))); have NR3 := Lib.hid (fun j hj => gb_cell hg3 OA2.out ((World.cell?_alloc_lt w2 _ ⟨w.heap.size + 1, j, none⟩ hz1').trans (NR2.out j hj)) hz1 (by first | omega | (simp only [World.size_alloc]; omega) | (simp only [World.size_alloc]; done))); have HR3 := Lib.hid (Reads.grown (Reads.alloc HR2.out (show B ≤ w2.heap.size by omega) (.cells #[.string key, .string v, .bool false] 39)) hg3 (by first | omega | (simp only [World.size_alloc]; omega) | (simp only [World.size_alloc]; done)) (fun g hg => by have := (OA2.out.base_le g hg).1; omega)); have HB3 := Lib.hid (below_papp (HB2.out.alloc (by omega) (.cells #[.string key, .string v, .bool false] 39)) hg3 OA2.out (by omega) (by first | omega | (simp only [World.size_alloc]; omega) | (simp only [World.size_alloc]; done))); have HO3 := Lib.hid ho3; have R3 := Lib.hid (show ∀ D, PReads w3 B D 0 (pvs (gt key L)) from fun D => ⟨by rw [p3sC_len, pvs_len, HGN.out], fun h => absurd h (by omega)⟩); clear ho3 hg3 c2b c2a)
    | (at_builtin; refine wpList_papp rfl (.tmp 40) (.tmp 44) rfl w1.heap.size A3 (n + 1) c3 (pvs (lo key L) ++ [pv (key, v)]) rfl HO3.out B _ 0 _ (pvs (gt key L)) rfl (R3.out _) HL3.out hz3 ?_; intro A4 c4 w4 ho4 hg4; have kc := gb_cell hg4 HO3.out CR3.out hz1 (by omega); have kf := gb_frozen hg4 HO3.out FR3.out hz1 (by omega); have NR4 := Lib.hid (fun j hj => gb_cell hg4 HO3.out (NR3.out j hj) hz1 (by omega)); have HB4 := Lib.hid (below_papp HB3.out hg4 HO3.out (by omega) (by omega)); have HO4 := Lib.hid ho4; clear ho4 hg4))
  refine bodyPost_ret (v := .agg #[.slice A4 (n + 1 + (0)) c4]) (by simp [results, Try.results43, go_sem, kc]) rfl ?_
  have hfin : POwn w4 w1.heap.size A4 (n + 1 + (0)) c4 (pvs (putL key v L)) := by
    have := HO4.out
    rw [HPL.out, pvs_app]
    simpa [pvs] using this
  have hrt := RTab.of_own hfin
  exact ⟨A4, _, c4, rfl, ⟨by have := PReads.set1 hrt.1 NR4.out (.slice A4 (n + 1 + (0)) c4); simpa using this, hrt.2⟩, HB4.out.setCell (by simp) _⟩
set_option maxHeartbeats 4000000 in
theorem rput_none (key v : ByteArray) (L : List KV) (B : Nat)  (n c : Nat) (w : World) (hr : RTab w B none n c L) (hB : B ≤ w.heap.size) (ha : asc L) (hn : n ≤ 1000000)  :
    Calls Try.prog 43 #[.agg #[.slice none n c], .string key, .string v] w (RPost w (putL key v L)) := by
  obtain ⟨hr, hnc, hcm, hA⟩ := hr
  have HN := Lib.hid (show L.length = n by rw [← hr.len, pvs_len])
  have b0 : Below w.heap.size w ((w.alloc (.cells #[.slice none n c] 44)).alloc (.cells #[.slice none 0 0] 44)) := ((Below.refl _ _).alloc (Nat.le_refl _) _).alloc (by simp) _
  have HR := Lib.hid (Reads.below hr (b0.mono hB))
  have HB := Lib.hid b0
  have CT := Lib.hid (show ((w.alloc (.cells #[.slice none n c] 44)).alloc (.cells #[.slice none 0 0] 44)).cell? ⟨w.heap.size, 0, none⟩ = some (.slice none n c) by rw [World.cell?_alloc_lt _ _ _ (by simp)]; exact box1 w _ _)
  have CR := Lib.hid (show ((w.alloc (.cells #[.slice none n c] 44)).alloc (.cells #[.slice none 0 0] 44)).cell? ⟨w.heap.size + 1, 0, none⟩ = some (.slice none 0 0) by rw [World.cell?_alloc_at _ _ _ _ (by simp)]; rfl)
  have FR := Lib.hid (show ((w.alloc (.cells #[.slice none n c] 44)).alloc (.cells #[.slice none 0 0] 44)).frozen? ⟨w.heap.size + 1, 0, none⟩ = false from World.frozen?_alloc_at _ _ _ _ (by simp))
  have NR := Lib.hid (fun (j : Nat) (hj : 1 ≤ j) => show ((w.alloc (.cells #[.slice none n c] 44)).alloc (.cells #[.slice none 0 0] 44)).cell? ⟨w.heap.size + 1, j, none⟩ = none by rw [World.cell?_alloc_at _ _ _ _ (by simp)]; simp; omega)
  have HSZ := Lib.hid (show ((w.alloc (.cells #[.slice none n c] 44)).alloc (.cells #[.slice none 0 0] 44)).heap.size = w.heap.size + 1 + 1 by simp)
  have HP := Lib.hid (fun V (hV : Below w.heap.size w V) => rplace_v key L B none n c V (Reads.below hr (hV.mono hB)) (Nat.le_trans hB hV.size) ha hn)
  have hlen := lo_len key L
  rw [HN.out] at hlen
  have HTL := Lib.hid (take_lo key ha)
  have HGH := Lib.hid (fun (x : KV) => gt_head (key := key) ha (x := x))
  have HGE := Lib.hid (gt_else (key := key) ha)
  have HPL : Hid (putL key v L = lo key L ++ (key, v) :: gt key L) := Lib.hid rfl
  clear hr b0
  generalize hk : (lo key L).length = k at *
  have HKK := Lib.hid hk
  clear hk
  have hc0 : c = 0 := hA rfl
  subst hc0
  have hn0 : n = 0 := by omega
  subst hn0
  have hk0 : k = 0 := by omega
  subst hk0
  have HGN := Lib.hid (show (gt key L).length = 0 by
    have := List.length_filter_le (fun x : KV => klt key x.1) L
    rw [HN.out] at this
    unfold gt
    omega)
  go_enter Try.func43, Try.ntmps43
  go_wp2_with fail
  generalize (w.alloc (.cells #[.slice none 0 0] 44)).alloc (.cells #[.slice none 0 0] 44) = w0 at *
  refine (HP.out w0 HB.out).mono ?_
  rintro e w1 ⟨rfl, hb1⟩
  have hlt0 : w.heap.size < w0.heap.size := by have := HSZ.out; omega
  have hlt1 : w.heap.size + 1 < w0.heap.size := by have := HSZ.out; omega
  have c1 := keepC hb1 CT.out hlt0
  have CR1 := Lib.hid (keepC hb1 CR.out hlt1)
  have FR1 := Lib.hid (keepF hb1 FR.out hlt1)
  have NR1 := Lib.hid (fun j hj => keepC hb1 (NR.out j hj) hlt1)
  have HB1 := Lib.hid (btrans HB.out hb1 HB.out.size)
  have hz1 : w.heap.size + 1 < w1.heap.size := Nat.lt_of_lt_of_le hlt1 hb1.size
  have HR1 := Lib.hid (Reads.below HR.out (hb1.mono (by omega)))
  clear hb1 HR HB CT CR FR NR HSZ HP hlt0 hlt1
  have hkn : (0 : Int) ≤ (0 : Int) := by omega
  have hkc : (0 : Int) ≤ (0 : Int) := by omega
  have hkc' : 0 ≤ 0 := by omega
  have c1a : (w1.alloc (.cells #[] 39)).cell? ⟨w.heap.size, 0, none⟩ = some (.slice none 0 0) := (World.cell?_alloc_lt w1 _ _ (show w.heap.size < w1.heap.size by omega)).trans c1
  have HE := Lib.hid (POwn.empty w1)
  have R1 := Lib.hid (show PReads (w1.alloc (.cells #[] 39)) B none 0 (pvs (lo key L)) by
    have h := PReads.take (Reads.alloc HR1.out (by omega) (.cells #[] 39)) hlen
    rwa [show (pvs L).take 0 = pvs (lo key L) by rw [← HTL.out, pvs, pvs, List.map_take]] at h)
  have HL1 : Hid (0 + 0 ≤ 3000000000000) := Lib.hid (by omega)
  have HL2 : Hid (0 + 1 ≤ 3000000000000) := Lib.hid (by omega)
  have HL3 : Hid (0 + 1 + (0) ≤ 3000000000000) := Lib.hid (by omega)
  have HS1 := Lib.hid (show w1.heap.size ≤ (w1.alloc (.cells #[] 39)).heap.size by simp)
  have CRA := Lib.hid ((World.cell?_alloc_lt w1 (.cells #[] 39) ⟨w.heap.size + 1, 0, none⟩ hz1).trans CR1.out)
  have FRA := Lib.hid ((World.frozen?_alloc_past (.cells #[] 39) (w.heap.size + 1) 0 hz1).trans FR1.out)
  have NRA := Lib.hid (fun j hj => (World.cell?_alloc_lt w1 (.cells #[] 39) ⟨w.heap.size + 1, j, none⟩ hz1).trans (NR1.out j hj))
  have RLA := Lib.hid (Reads.alloc HR1.out (show B ≤ w1.heap.size by omega) (.cells #[] 39))
  have BA := Lib.hid (HB1.out.alloc (show w.heap.size ≤ w1.heap.size by omega) (.cells #[] 39))
  go_wp2_with (first
    | (at_builtin; refine wpList_papp rfl (.tmp 12) (.tmp 16) rfl w1.heap.size (some ⟨w1.heap.size, 0, none⟩) 0 0 [] rfl HE.out B none 0 0 (pvs (lo key L)) rfl R1.out HL1.out HS1.out ?_; intro A2 c2 w2 ho2 hg2; rw [Nat.zero_add, List.nil_append] at ho2; have hz2 : w1.heap.size ≤ w2.heap.size := Nat.le_trans HS1.out hg2.size; have c2a := gb_cell hg2 HE.out c1a (show w.heap.size < w1.heap.size by omega) (by first | omega | (simp only [World.size_alloc]; omega) | (simp only [World.size_alloc]; done)); have CR2 := Lib.hid (gb_cell hg2 HE.out CRA.out hz1 (by first | omega | (simp only [World.size_alloc]; omega) | (simp only [World.size_alloc]; done))); have FR2 := Lib.hid (gb_frozen hg2 HE.out FRA.out hz1 (by first | omega | (simp only [World.size_alloc]; omega) | (simp only [World.size_alloc]; done))); have NR2 := Lib.hid (fun j hj => gb_cell hg2 HE.out (NRA.out j hj) hz1 (by first | omega | (simp only [World.size_alloc]; omega) | (simp only [World.size_alloc]; done))); have HR2 := Lib.hid (Reads.grown RLA.out hg2 (by first | omega | (simp only [World.size_alloc]; omega) | (simp only [World.size_alloc]; done)) (fun g hg => by have := (HE.out.base_le g hg).1; omega)); have HB2 := Lib.hid (below_papp BA.out hg2 HE.out (by omega) (by first | omega | (simp only [World.size_alloc]; omega) | (simp only [World.size_alloc]; done))); have OA2 := Lib.hid (ho2.alloc (.cells #[.string key, .string v, .bool false] 39)); have RA2 := Lib.hid (PReads.one w2 (pv (key, v)) 39); have HS2 := Lib.hid (show w1.heap.size ≤ (w2.alloc (.cells #[.string key, .string v, .bool false] 39)).heap.size by first | omega | (simp only [World.size_alloc]; omega) | (simp only [World.size_alloc]; done)); have hz1' : w.heap.size + 1 < w2.heap.size := (by omega); have c2b : (w2.alloc (.cells #[.string key, .string v, .bool false] 39)).cell? ⟨w.heap.size, 0, none⟩ = some (.slice none 0 0) := (World.cell?_alloc_lt w2 _ _ (show w.heap.size < w2.heap.size by omega)).trans c2a; clear ho2 hg2)
    | (at_builtin; refine wpList_papp rfl (.tmp 17) (.tmp 21) rfl w1.heap.size A2 0 c2 (pvs (lo key L)) rfl OA2.out (w2.heap.size + 1) (some ⟨w2.heap.size, 0, none⟩) 1 1 [pv (key, v)] rfl RA2.out HL2.out HS2.out ?_; intro A3 c3 w3 ho3 hg3; have hz3 : w1.heap.size ≤ w3.heap.size := Nat.le_trans HS2.out hg3.size; have c3a := gb_cell hg3 OA2.out c2b (show w.heap.size < w1.heap.size by omega) (by first | omega | (simp only [World.size_alloc]; omega) | (simp only [World.size_alloc]; done)); have CR3 := Lib.hid (gb_cell hg3 OA2.out ((World.cell?_alloc_lt w2 _ ⟨w.heap.size + 1, 0, none⟩ hz1').trans CR2.out) hz1 (by first | omega | (simp only [World.size_alloc]; omega) | (simp only [World.size_alloc]; done))); have FR3 := Lib.hid (gb_frozen hg3 OA2.out ((World.frozen?_alloc_past _ _ _ hz1').trans FR2.out) hz1 (by first | omega | (simp only [World.size_alloc]; omega) | (simp only [World.size_alloc]; done))); have NR3 := Lib.hid (fun j hj => gb_cell hg3 OA2.out ((World.cell?_alloc_lt w2 _ ⟨w.heap.size + 1, j, none⟩ hz1').trans (NR2.out j hj)) hz1 (by first | omega | (simp only [World.size_alloc]; omega) | (simp only [World.size_alloc]; done))); have HR3 := Lib.hid (Reads.grown (Reads.alloc HR2.out (show B ≤ w2.heap.size by omega) (.cells #[.string key, .string v, .bool false] 39)) hg3 (by first | omega | (simp only [World.size_alloc]; omega) | (simp only [World.size_alloc]; done)) (fun g hg => by have := (OA2.out.base_le g hg).1; omega)); have HB3 := Lib.hid (below_papp (HB2.out.alloc (by omega) (.cells #[.string key, .string v, .bool false] 39)) hg3 OA2.out (by omega) (by first | omega | (simp only [World.size_alloc]; omega) | (simp only [World.size_alloc]; done))); have HO3 := Lib.hid ho3; have R3 := Lib.hid (show ∀ D, PReads w3 B D 0 (pvs (gt key L)) from fun D => ⟨by rw [p3sC_len, pvs_len, HGN.out], fun h => absurd h (by omega)⟩); clear ho3 hg3 c2b c2a)
    | (at_builtin; refine wpList_papp rfl (.tmp 40) (.tmp 44) rfl w1.heap.size A3 (0 + 1) c3 (pvs (lo key L) ++ [pv (key, v)]) rfl HO3.out B _ 0 _ (pvs (gt key L)) rfl (R3.out _) HL3.out hz3 ?_; intro A4 c4 w4 ho4 hg4; have kc := gb_cell hg4 HO3.out CR3.out hz1 (by omega); have kf := gb_frozen hg4 HO3.out FR3.out hz1 (by omega); have NR4 := Lib.hid (fun j hj => gb_cell hg4 HO3.out (NR3.out j hj) hz1 (by omega)); have HB4 := Lib.hid (below_papp HB3.out hg4 HO3.out (by omega) (by omega)); have HO4 := Lib.hid ho4; clear ho4 hg4))
  refine bodyPost_ret (v := .agg #[.slice A4 (0 + 1 + (0)) c4]) (by simp [results, Try.results43, go_sem, kc]) rfl ?_
  have hfin : POwn w4 w1.heap.size A4 (0 + 1 + (0)) c4 (pvs (putL key v L)) := by
    have := HO4.out
    rw [HPL.out, pvs_app]
    simpa [pvs] using this
  have hrt := RTab.of_own hfin
  exact ⟨A4, _, c4, rfl, ⟨by have := PReads.set1 hrt.1 NR4.out (.slice A4 (0 + 1 + (0)) c4); simpa using this, hrt.2⟩, HB4.out.setCell (by simp) _⟩
theorem rput_v (key v : ByteArray) (L : List KV) (B : Nat) (A : Option Addr) (n c : Nat) (w : World) (hr : RTab w B A n c L) (hB : B ≤ w.heap.size) (ha : asc L) (hn : n ≤ 1000000) :
    Calls Try.prog 43 #[.agg #[.slice A n c], .string key, .string v] w (RPost w (putL key v L)) := by
  have hl : L.length = n := by rw [← hr.1.len, pvs_len]
  have hle := lo_len key L
  cases A with
  | none => exact rput_none key v L B n c w hr hB ha hn
  | some ad =>
    by_cases hend : (lo key L).length = n
    · by_cases hcc : c = n
      · exact rput_end1 key v L B ad n c w hr hB ha hn hend hcc
      · exact rput_end2 key v L B ad n c w hr hB ha hn hend hcc
    · have hy : L[(lo key L).length]? = some L[(lo key L).length] := List.getElem?_eq_getElem (by omega)
      by_cases hye : (L[(lo key L).length]'(by omega)).1 = key
      · by_cases hcc : c = (lo key L).length + 1
        · exact rput_eq1 key v L B ad n c w hr hB ha hn _ hy hye hcc
        · exact rput_eq key v L B ad n c w hr hB ha hn _ hy hye hcc
      · exact rput_ne key v L B ad n c w hr hB ha hn _ hy hye
end Go.Proofs.Ytohcdnbchidjeaa
