/-
  Blocks: Fits, Whole.
-/
import Derived.Test.YtmaehbebpldpcaaBlkF
namespace Go.Proofs.Ytmaehbebpldpcaa
open Go.RowKit Go.Shelf
/-- The answer of Fits. -/
def fitsP (s l : Int) (ds : List Dg) (k : Int) (L : List UInt8) : Nat :=
  if chk s l ds.length ≠ 0 then chk s l ds.length else if (atP s l ds.length k).2.2 = false then 6 else if (L.length : Int) = (atP s l ds.length k).2.1 - (atP s l ds.length k).1 ∧ ds[k.toNat]? = some (dgOf L) then 0 else 13
def wholeP (s l : Int) (ds : List Dg) (L : List UInt8) : Bool := decide (chk s l ds.length = 0 ∧ (L.length : Int) = l ∧ cutL L s.toNat = ds)
theorem row_cells {W : World} {g : Nat} {vs : List Value} {t : TypeId} {fr : Nat × Nat} (h : W.heap[g]? = some (.cells vs.toArray t fr)) : ∀ j v, vs[j]? = some v → W.cell? ((⟨g, 0, none⟩ : Addr).add j) = some v := by
  intro j v hv
  rw [add_head, cell_of_row _ _ j _ _ _ h]
  simpa using hv
theorem toP_lo {s l k : Int} (hs : 1 ≤ s) (h0 : 0 ≤ k) (h : k * s < l) : k * s ≤ toP s l k := by
  unfold toP
  have : (k + 1) * s = k * s + s := by rw [Int.add_mul, Int.one_mul]
  omega
theorem chk_last {s l : Int} {n : Nat} (h : chk s l n = 0) {k : Int} (h0 : 0 ≤ k) (hk : k < (n : Int)) : k * s < l ∧ 0 ≤ k * s := by
  obtain ⟨h1, h2, h3, h4, h5, h6⟩ := chk_ok h
  have hm : 0 ≤ k * s := Int.mul_nonneg h0 (by omega)
  refine ⟨?_, hm⟩
  have h7 : k + 1 ≤ (l + s - 1) / s := by omega
  have h8 := (Int.le_ediv_iff_mul_le (show 0 < s by omega)).1 h7
  rw [Int.add_mul, Int.one_mul] at h8
  omega

set_option maxRecDepth 100000 in
set_option maxHeartbeats 8000000 in
theorem fits_v (s l ki : Int) (A A' : Option Addr) (n c m c' B : Nat) (ds : List Dg) (L : List UInt8) (w : World) (hd : DReads w B A n ds) (hr : BReads w B A' m L) (hB : B ≤ w.heap.size) (hn : n ≤ 9007199254740992) (hm : m ≤ 1000000) :
    Calls Try.prog 18 #[.agg #[.int .i64 s, .int .i64 l, .slice A n c], .int .i64 ki, .slice A' m c'] w fun e w' => e = .returned (.int .i64 (fitsP s l ds ki L : Int)) ∧ Below w.heap.size w w' := by
  have HI := Lib.hid (show (Try.prog.info? 24).map (·.size) = some 3 by kernel_rfl)
  have HI9 := Lib.hid (show (Try.prog.info? 59).map (·.size) = some 32 by kernel_rfl)
  have BA := Lib.hid ((Below.refl w.heap.size w).alloc (Nat.le_refl _) (.cells #[.int .i64 s, .int .i64 l, .slice A n c] 24))
  have X0 := Lib.hid (heap_alloc_new w (.cells #[.int .i64 s, .int .i64 l, .slice A n c] 24))
  have CV := Lib.hid (check_v s l A n c (w.alloc (.cells #[.int .i64 s, .int .i64 l, .slice A n c] 24)) hn)
  have hz : (w.alloc (.cells #[.int .i64 s, .int .i64 l, .slice A n c] 24)).heap.size = w.heap.size + 1 := by simp
  have HD := Lib.hid hd
  have HR := Lib.hid hr
  have hdl := hd.len
  have hml := hr.len
  clear hd hr
  go_enter Try.func18, Try.ntmps18
  go_wp2_with (first
    | (refine wpList_load_row rfl 24 (.tmp 3) rfl w.heap.size rfl 24 _ (0, 0) _ X0.out Try.underlying24 rfl HI.out ?_)
    | fail)
  generalize w.alloc (.cells #[.int .i64 s, .int .i64 l, .slice A n c] 24) = w1 at *
  refine CV.out.mono ?_
  rintro e w2 ⟨rfl, b2⟩
  have X2 := Lib.hid ((b2.block w.heap.size (by omega)).trans X0.out)
  have B2 := Lib.hid (BA.out.trans (b2.mono (by omega)))
  clear X0 BA b2 CV
  by_cases h1 : chk s l n = 0
  case neg =>
    have d1 : ((chk s l n : Int) != 0) = true := by rw [bne_iff_ne]; omega
    have HQ := Lib.hid (show fitsP s l ds ki L = chk s l n by unfold fitsP; rw [hdl, if_pos h1])
    clear h1
    generalize chk s l n = q at *
    go_wp2
    go_ret
    exact ⟨by rw [HQ.out]; rfl, B2.out⟩
  have HC := Lib.hid h1
  have AV := Lib.hid (at_v s l ki A n c w2 hn)
  rw [h1]
  clear h1
  go_wp2_with (first
    | (refine wpList_load_row rfl 24 (.tmp 3) rfl w.heap.size rfl 24 _ (0, 0) _ X2.out Try.underlying24 rfl HI.out ?_)
    | fail)
  refine AV.out.mono ?_
  rintro e w3 ⟨rfl, b3⟩
  have X3 := Lib.hid ((b3.block w.heap.size (by have := B2.out.size; have := (Array.getElem?_eq_some_iff.1 X2.out).1; omega)).trans X2.out)
  have B3 := Lib.hid (B2.out.trans (b3.mono B2.out.size))
  clear X2 B2 b3 AV
  have c2 : w3.cell? ⟨w.heap.size, 2, none⟩ = some (.slice A n c) := by rw [cell_of_row _ _ 2 _ _ _ X3.out]; rfl
  by_cases hat : 0 ≤ ki ∧ ki < (n : Int)
  case neg =>
    have HA := Lib.hid (show atP s l n ki = (0, 0, false) by unfold atP; rw [if_neg (fun h => hat h.2)])
    have HQ := Lib.hid (show fitsP s l ds ki L = 6 by unfold fitsP; rw [hdl, if_neg (by simp [HC.out]), HA.out, if_pos rfl])
    rw [HA.out]
    go_wp2
    go_ret
    exact ⟨by rw [HQ.out]; rfl, B3.out⟩
  have HA := Lib.hid (show atP s l n ki = (ki * s, toP s l ki, true) by unfold atP; rw [if_pos ⟨HC.out, hat⟩])
  rw [HA.out]
  obtain ⟨hc1, hc2, hc3, hc4, hc5, _⟩ := chk_ok HC.out
  obtain ⟨hk1, hk2⟩ := chk_last HC.out hat.1 hat.2
  have hk3 := toP_lo hc1 hat.1 hk1
  have hk4 : toP s l ki ≤ l := Int.min_le_left _ _
  obtain ⟨k, rfl⟩ : ∃ k : Nat, ki = (k : Int) := ⟨ki.toNat, by omega⟩
  have hkn : k < n := by omega
  obtain ⟨ad, d, rfl, hdk, hdc⟩ := HD.out.at_ hkn
  have HDC := Lib.hid (fun (V : World) (hV : Below w.heap.size w V) => hdc V (hV.mono hB))
  have HX := Lib.hid hdk
  have OV := Lib.hid (fun (V : World) (hV : Below w.heap.size w V) => of_v A' m c' L V (Reads.more (Reads.below HR.out (hV.mono hB)) (Nat.le_trans hB hV.size)) (by omega))
  have HSH := Lib.hid (show ((sha (L.map UInt8.toNat)).map fun x : Nat => Value.int .u8 (x : Int)) = (dgOf L).cells from rfl)
  rw [HSH.out] at OV
  have hne : ∀ V : World, (binOp .neq 59 (.agg (dgOf L).cells.toArray) (.agg d.cells.toArray)).run Try.prog V = .ok (.bool (!((dgOf L).1 == d.1))) V := fun V => neqd (dgOf L) d V
  have HQ := Lib.hid (show fitsP s l ds (k : Int) L = if (m : Int) = toP s l (k : Int) - (k : Int) * s ∧ d = dgOf L then 0 else 13 by
    unfold fitsP
    rw [hdl, if_neg (by simp [HC.out]), HA.out, if_neg (by simp), hml, Int.toNat_natCast, HX.out]
    simp only [Option.some.injEq])
  obtain ⟨q, hq⟩ : ∃ q, (k : Int) * s = q := ⟨_, rfl⟩
  obtain ⟨r, hr⟩ : ∃ r, toP s l (k : Int) = r := ⟨_, rfl⟩
  rw [hq, hr] at HQ
  rw [hq] at hk1 hk2 hk3 ⊢
  rw [hr] at hk3 hk4 ⊢
  have HW := Lib.hid (show IntKind.i64.wrap (r - q) = r - q from IntWalk.i64_in _ ⟨by omega, by omega⟩)
  have hw := HW.out
  have k0 : (0 : Int) ≤ (k : Int) := by omega
  obtain ⟨e, he⟩ : ∃ e, dgOf L = e := ⟨_, rfl⟩
  rw [he] at OV hne HQ
  clear hdk hdc he hat HD HA
  by_cases hlen : (m : Int) = r - q
  case neg =>
    have e1 : ((m : Int) != r - q) = true := by rw [bne_iff_ne]; exact hlen
    rw [if_neg (fun h => hlen h.1)] at HQ
    clear hlen
    go_upto_region 7 with fail
    go_quiet (fail)
    go_wp2
    go_ret
    exact ⟨by rw [HQ.out]; rfl, below_drewN B3.out _⟩
  have e1 : ((m : Int) != r - q) = false := by rw [bne_eq_false_iff_eq]; exact hlen
  by_cases hde : d = e
  · rw [if_pos ⟨hlen, hde⟩] at HQ
    have hh : (!(e.1 == d.1)) = false := by rw [hde]; simp
    rw [hh] at hne
    clear hh hde hlen
    go_upto_region 7 with fail
    refine wp_region_tree (SK.one 0 false <| .one 1 false <| .one 2 false <| .one 3 false <| .one 4 false <| .one 5 false <| .one 6 false <| .one 7 false <| .one 9 false <| .one 10 false <| .one 11 false <| .one 12 false <| .one 13 false <| .one 8 true <| .one 14 false <| .one 15 false <| .one 16 false .done) (fun V => V.cell? ⟨w.heap.size, 2, none⟩ = some (.slice (some ad) n c) ∧ (∀ j u, d.cells[j]? = some u → V.cell? ((ad.add (k * 32)).add j) = some u)) (by kernel_rfl) (by kernel_rfl) (by kernel_rfl) (by kernel_rfl) ?_
    have hS : w3.drew.cell? ⟨w.heap.size, 2, none⟩ = some (.slice (some ad) n c) ∧ (∀ j u, d.cells[j]? = some u → w3.drew.cell? ((ad.add (k * 32)).add j) = some u) := ⟨c2, HDC.out w3.drew B3.out.drew⟩
    have B4 := Lib.hid B3.out.drew
    have X4 := Lib.hid (show w3.drew.heap[w.heap.size]? = _ from X3.out)
    clear B3 X3 c2
    generalize w3.drew = w4 at *
    ((first | (refine TR.val2 (v := ?_) _ (by simp only [List.getElem?_toArray, List.getElem?_cons_zero]; rfl) ?_ ?_ ?_ ?_ ?_; rotate_left; (focus rfl); (focus (intro W hSW; (try dsimp only at hSW); (try (obtain ⟨hS1, hSW⟩ := hSW)); (try (obtain ⟨hS2, hSW⟩ := hSW)); (try (obtain ⟨hS3, hSW⟩ := hSW)); (try (obtain ⟨hS4, hSW⟩ := hSW)); (try (obtain ⟨hS5, hSW⟩ := hSW)); go_simp; (try with_reducible rfl); done)); (focus exact fun _ _ _ h => h); (focus assumption)) | (refine TR.skip _ (by simp only [List.getElem?_toArray, List.getElem?_cons_zero]; rfl) ?_ ?_ ?_ ?_; (focus rfl); (focus exact fun _ _ _ h => h); (focus assumption))); simp only [Act.put, List.setIfInBounds_toArray, List.set_cons_zero, List.set_cons_succ])
    iterate 11 ((first | (refine TR.val2 (v := ?_) _ (by simp only [List.getElem?_toArray, List.getElem?_cons_succ, List.getElem?_cons_zero]; rfl) ?_ ?_ ?_ ?_ ?_; rotate_left; (focus rfl); (focus (intro W hSW; (try dsimp only at hSW); (try (obtain ⟨hS1, hSW⟩ := hSW)); (try (obtain ⟨hS2, hSW⟩ := hSW)); (try (obtain ⟨hS3, hSW⟩ := hSW)); (try (obtain ⟨hS4, hSW⟩ := hSW)); (try (obtain ⟨hS5, hSW⟩ := hSW)); go_simp; (try with_reducible rfl); done)); (focus exact fun _ _ _ h => h); (focus assumption)) | (refine TR.skip _ (by simp only [List.getElem?_toArray, List.getElem?_cons_succ, List.getElem?_cons_zero]; rfl) ?_ ?_ ?_ ?_; (focus rfl); (focus exact fun _ _ _ h => h); (focus assumption))); simp only [Act.put, List.setIfInBounds_toArray, List.set_cons_zero, List.set_cons_succ])
    refine TR.val2 (v := .agg d.cells.toArray) _ (by simp only [List.getElem?_toArray, List.getElem?_cons_succ, List.getElem?_cons_zero]; rfl) ?_ ?_ ?_ ?_ ?_
    (focus rfl)
    (focus exact fun V hV => exec_load_slot 59 (.tmp 39) rfl (ad.add (k * 32)) rfl d.cells _ hV.2 Try.underlying59 rfl (HI9.out.trans (by rw [Dg.cells_len])))
    (focus exact fun _ _ _ h => h)
    (focus exact hS)
    simp only [Act.put, List.setIfInBounds_toArray, List.set_cons_zero, List.set_cons_succ]
    refine TR.eff _ (by simp only [List.getElem?_toArray, List.getElem?_cons_succ, List.getElem?_cons_zero]; rfl) (by rfl) (fun K hK => ?_); go_simp
    refine (OV.out w4 B4.out).mono ?_
    rintro e w5 ⟨rfl, b5⟩
    have B5 := Lib.hid (B4.out.trans (b5.mono B4.out.size))
    have X5 := (b5.block w.heap.size (by have := (Array.getElem?_eq_some_iff.1 X4.out).1; omega)).trans X4.out
    have hS2 : w5.cell? ⟨w.heap.size, 2, none⟩ = some (.slice (some ad) n c) ∧ (∀ j u, d.cells[j]? = some u → w5.cell? ((ad.add (k * 32)).add j) = some u) := ⟨by rw [cell_of_row _ _ 2 _ _ _ X5]; rfl, HDC.out w5 B5.out⟩
    refine hK.out _ _ hS2 ?_
    clear hK hS X4 X5 b5 B4
    have hS := hS2
    clear hS2
    (try simp only [Act.put, List.setIfInBounds_toArray, List.set_cons_zero, List.set_cons_succ])
    iterate 3 ((first | (refine TR.val2 (v := ?_) _ (by simp only [List.getElem?_toArray, List.getElem?_cons_succ, List.getElem?_cons_zero]; rfl) ?_ ?_ ?_ ?_ ?_; rotate_left; (focus rfl); (focus (intro W hSW; (try dsimp only at hSW); (try (obtain ⟨hS1, hSW⟩ := hSW)); (try (obtain ⟨hS2, hSW⟩ := hSW)); (try (obtain ⟨hS3, hSW⟩ := hSW)); (try (obtain ⟨hS4, hSW⟩ := hSW)); (try (obtain ⟨hS5, hSW⟩ := hSW)); go_simp; (try with_reducible rfl); done)); (focus exact fun _ _ _ h => h); (focus assumption)) | (refine TR.skip _ (by simp only [List.getElem?_toArray, List.getElem?_cons_succ, List.getElem?_cons_zero]; rfl) ?_ ?_ ?_ ?_; (focus rfl); (focus exact fun _ _ _ h => h); (focus assumption))); simp only [Act.put, List.setIfInBounds_toArray, List.set_cons_zero, List.set_cons_succ])
    refine TR.done ?_
    clear hS
    go_wp2
    go_ret
    exact ⟨by rw [HQ.out]; rfl, B5.out⟩
  · rw [if_neg (fun h => hde h.2)] at HQ
    have hh : (!(e.1 == d.1)) = true := by simpa using fun h : e.1 = d.1 => hde (Subtype.ext h.symm)
    rw [hh] at hne
    clear hh hde hlen
    go_upto_region 7 with fail
    refine wp_region_tree (SK.one 0 false <| .one 1 false <| .one 2 false <| .one 3 false <| .one 4 false <| .one 5 false <| .one 6 false <| .one 7 false <| .one 9 false <| .one 10 false <| .one 11 false <| .one 12 false <| .one 13 false <| .one 8 true <| .one 14 false <| .one 15 false <| .one 16 false .done) (fun V => V.cell? ⟨w.heap.size, 2, none⟩ = some (.slice (some ad) n c) ∧ (∀ j u, d.cells[j]? = some u → V.cell? ((ad.add (k * 32)).add j) = some u)) (by kernel_rfl) (by kernel_rfl) (by kernel_rfl) (by kernel_rfl) ?_
    have hS : w3.drew.cell? ⟨w.heap.size, 2, none⟩ = some (.slice (some ad) n c) ∧ (∀ j u, d.cells[j]? = some u → w3.drew.cell? ((ad.add (k * 32)).add j) = some u) := ⟨c2, HDC.out w3.drew B3.out.drew⟩
    have B4 := Lib.hid B3.out.drew
    have X4 := Lib.hid (show w3.drew.heap[w.heap.size]? = _ from X3.out)
    clear B3 X3 c2
    generalize w3.drew = w4 at *
    ((first | (refine TR.val2 (v := ?_) _ (by simp only [List.getElem?_toArray, List.getElem?_cons_zero]; rfl) ?_ ?_ ?_ ?_ ?_; rotate_left; (focus rfl); (focus (intro W hSW; (try dsimp only at hSW); (try (obtain ⟨hS1, hSW⟩ := hSW)); (try (obtain ⟨hS2, hSW⟩ := hSW)); (try (obtain ⟨hS3, hSW⟩ := hSW)); (try (obtain ⟨hS4, hSW⟩ := hSW)); (try (obtain ⟨hS5, hSW⟩ := hSW)); go_simp; (try with_reducible rfl); done)); (focus exact fun _ _ _ h => h); (focus assumption)) | (refine TR.skip _ (by simp only [List.getElem?_toArray, List.getElem?_cons_zero]; rfl) ?_ ?_ ?_ ?_; (focus rfl); (focus exact fun _ _ _ h => h); (focus assumption))); simp only [Act.put, List.setIfInBounds_toArray, List.set_cons_zero, List.set_cons_succ])
    iterate 11 ((first | (refine TR.val2 (v := ?_) _ (by simp only [List.getElem?_toArray, List.getElem?_cons_succ, List.getElem?_cons_zero]; rfl) ?_ ?_ ?_ ?_ ?_; rotate_left; (focus rfl); (focus (intro W hSW; (try dsimp only at hSW); (try (obtain ⟨hS1, hSW⟩ := hSW)); (try (obtain ⟨hS2, hSW⟩ := hSW)); (try (obtain ⟨hS3, hSW⟩ := hSW)); (try (obtain ⟨hS4, hSW⟩ := hSW)); (try (obtain ⟨hS5, hSW⟩ := hSW)); go_simp; (try with_reducible rfl); done)); (focus exact fun _ _ _ h => h); (focus assumption)) | (refine TR.skip _ (by simp only [List.getElem?_toArray, List.getElem?_cons_succ, List.getElem?_cons_zero]; rfl) ?_ ?_ ?_ ?_; (focus rfl); (focus exact fun _ _ _ h => h); (focus assumption))); simp only [Act.put, List.setIfInBounds_toArray, List.set_cons_zero, List.set_cons_succ])
    refine TR.val2 (v := .agg d.cells.toArray) _ (by simp only [List.getElem?_toArray, List.getElem?_cons_succ, List.getElem?_cons_zero]; rfl) ?_ ?_ ?_ ?_ ?_
    (focus rfl)
    (focus exact fun V hV => exec_load_slot 59 (.tmp 39) rfl (ad.add (k * 32)) rfl d.cells _ hV.2 Try.underlying59 rfl (HI9.out.trans (by rw [Dg.cells_len])))
    (focus exact fun _ _ _ h => h)
    (focus exact hS)
    simp only [Act.put, List.setIfInBounds_toArray, List.set_cons_zero, List.set_cons_succ]
    refine TR.eff _ (by simp only [List.getElem?_toArray, List.getElem?_cons_succ, List.getElem?_cons_zero]; rfl) (by rfl) (fun K hK => ?_); go_simp
    refine (OV.out w4 B4.out).mono ?_
    rintro e w5 ⟨rfl, b5⟩
    have B5 := Lib.hid (B4.out.trans (b5.mono B4.out.size))
    have X5 := (b5.block w.heap.size (by have := (Array.getElem?_eq_some_iff.1 X4.out).1; omega)).trans X4.out
    have hS2 : w5.cell? ⟨w.heap.size, 2, none⟩ = some (.slice (some ad) n c) ∧ (∀ j u, d.cells[j]? = some u → w5.cell? ((ad.add (k * 32)).add j) = some u) := ⟨by rw [cell_of_row _ _ 2 _ _ _ X5]; rfl, HDC.out w5 B5.out⟩
    refine hK.out _ _ hS2 ?_
    clear hK hS X4 X5 b5 B4
    have hS := hS2
    clear hS2
    (try simp only [Act.put, List.setIfInBounds_toArray, List.set_cons_zero, List.set_cons_succ])
    iterate 3 ((first | (refine TR.val2 (v := ?_) _ (by simp only [List.getElem?_toArray, List.getElem?_cons_succ, List.getElem?_cons_zero]; rfl) ?_ ?_ ?_ ?_ ?_; rotate_left; (focus rfl); (focus (intro W hSW; (try dsimp only at hSW); (try (obtain ⟨hS1, hSW⟩ := hSW)); (try (obtain ⟨hS2, hSW⟩ := hSW)); (try (obtain ⟨hS3, hSW⟩ := hSW)); (try (obtain ⟨hS4, hSW⟩ := hSW)); (try (obtain ⟨hS5, hSW⟩ := hSW)); go_simp; (try with_reducible rfl); done)); (focus exact fun _ _ _ h => h); (focus assumption)) | (refine TR.skip _ (by simp only [List.getElem?_toArray, List.getElem?_cons_succ, List.getElem?_cons_zero]; rfl) ?_ ?_ ?_ ?_; (focus rfl); (focus exact fun _ _ _ h => h); (focus assumption))); simp only [Act.put, List.setIfInBounds_toArray, List.set_cons_zero, List.set_cons_succ])
    refine TR.done ?_
    clear hS
    go_wp2
    go_ret
    exact ⟨by rw [HQ.out]; rfl, B5.out⟩

set_option maxRecDepth 100000 in
set_option maxHeartbeats 8000000 in
theorem rfits_v (s l ki : Int) (A A' : Option Addr) (n c m c' B : Nat) (ds : List Dg) (L : List UInt8) (w : World) (hd : DReads w B A n ds) (hr : BReads w B A' m L) (hB : B ≤ w.heap.size) (hn : n ≤ 9007199254740992) (hm : m ≤ 1000000) :
    Calls Try.prog 19 #[.agg #[.int .i64 s, .int .i64 l, .slice A n c], .int .i64 ki, .slice A' m c'] w fun e w' => e = .returned (.int .i64 (fitsP s l ds ki L : Int)) ∧ Below w.heap.size w w' := by
  have HI := Lib.hid (show (Try.prog.info? 24).map (·.size) = some 3 by kernel_rfl)
  have HI9 := Lib.hid (show (Try.prog.info? 59).map (·.size) = some 32 by kernel_rfl)
  have BA := Lib.hid ((Below.refl w.heap.size w).alloc (Nat.le_refl _) (.cells #[.int .i64 s, .int .i64 l, .slice A n c] 24))
  have X0 := Lib.hid (heap_alloc_new w (.cells #[.int .i64 s, .int .i64 l, .slice A n c] 24))
  have CV := Lib.hid (rcheck_v s l A n c (w.alloc (.cells #[.int .i64 s, .int .i64 l, .slice A n c] 24)) hn)
  have hz : (w.alloc (.cells #[.int .i64 s, .int .i64 l, .slice A n c] 24)).heap.size = w.heap.size + 1 := by simp
  have HD := Lib.hid hd
  have HR := Lib.hid hr
  have hdl := hd.len
  have hml := hr.len
  clear hd hr
  go_enter Try.func19, Try.ntmps19
  go_wp2_with (first
    | (refine wpList_load_row rfl 24 (.tmp 3) rfl w.heap.size rfl 24 _ (0, 0) _ X0.out Try.underlying24 rfl HI.out ?_)
    | fail)
  generalize w.alloc (.cells #[.int .i64 s, .int .i64 l, .slice A n c] 24) = w1 at *
  refine CV.out.mono ?_
  rintro e w2 ⟨rfl, b2⟩
  have X2 := Lib.hid ((b2.block w.heap.size (by omega)).trans X0.out)
  have B2 := Lib.hid (BA.out.trans (b2.mono (by omega)))
  clear X0 BA b2 CV
  by_cases h1 : chk s l n = 0
  case neg =>
    have d1 : ((chk s l n : Int) != 0) = true := by rw [bne_iff_ne]; omega
    have HQ := Lib.hid (show fitsP s l ds ki L = chk s l n by unfold fitsP; rw [hdl, if_pos h1])
    clear h1
    generalize chk s l n = q at *
    go_wp2
    go_ret
    exact ⟨by rw [HQ.out]; rfl, B2.out⟩
  have HC := Lib.hid h1
  have AV := Lib.hid (rat_v s l ki A n c w2 hn)
  rw [h1]
  clear h1
  go_wp2_with (first
    | (refine wpList_load_row rfl 24 (.tmp 3) rfl w.heap.size rfl 24 _ (0, 0) _ X2.out Try.underlying24 rfl HI.out ?_)
    | fail)
  refine AV.out.mono ?_
  rintro e w3 ⟨rfl, b3⟩
  have X3 := Lib.hid ((b3.block w.heap.size (by have := B2.out.size; have := (Array.getElem?_eq_some_iff.1 X2.out).1; omega)).trans X2.out)
  have B3 := Lib.hid (B2.out.trans (b3.mono B2.out.size))
  clear X2 B2 b3 AV
  have c2 : w3.cell? ⟨w.heap.size, 2, none⟩ = some (.slice A n c) := by rw [cell_of_row _ _ 2 _ _ _ X3.out]; rfl
  by_cases hat : 0 ≤ ki ∧ ki < (n : Int)
  case neg =>
    have HA := Lib.hid (show atP s l n ki = (0, 0, false) by unfold atP; rw [if_neg (fun h => hat h.2)])
    have HQ := Lib.hid (show fitsP s l ds ki L = 6 by unfold fitsP; rw [hdl, if_neg (by simp [HC.out]), HA.out, if_pos rfl])
    rw [HA.out]
    go_wp2
    go_ret
    exact ⟨by rw [HQ.out]; rfl, B3.out⟩
  have HA := Lib.hid (show atP s l n ki = (ki * s, toP s l ki, true) by unfold atP; rw [if_pos ⟨HC.out, hat⟩])
  rw [HA.out]
  obtain ⟨hc1, hc2, hc3, hc4, hc5, _⟩ := chk_ok HC.out
  obtain ⟨hk1, hk2⟩ := chk_last HC.out hat.1 hat.2
  have hk3 := toP_lo hc1 hat.1 hk1
  have hk4 : toP s l ki ≤ l := Int.min_le_left _ _
  obtain ⟨k, rfl⟩ : ∃ k : Nat, ki = (k : Int) := ⟨ki.toNat, by omega⟩
  have hkn : k < n := by omega
  obtain ⟨ad, d, rfl, hdk, hdc⟩ := HD.out.at_ hkn
  have HDC := Lib.hid (fun (V : World) (hV : Below w.heap.size w V) => hdc V (hV.mono hB))
  have HX := Lib.hid hdk
  have OV := Lib.hid (fun (V : World) (hV : Below w.heap.size w V) => rof_v A' m c' L V (Reads.more (Reads.below HR.out (hV.mono hB)) (Nat.le_trans hB hV.size)) (by omega))
  have HSH := Lib.hid (show ((sha (L.map UInt8.toNat)).map fun x : Nat => Value.int .u8 (x : Int)) = (dgOf L).cells from rfl)
  rw [HSH.out] at OV
  have hne : ∀ V : World, (binOp .neq 59 (.agg (dgOf L).cells.toArray) (.agg d.cells.toArray)).run Try.prog V = .ok (.bool (!((dgOf L).1 == d.1))) V := fun V => neqd (dgOf L) d V
  have HQ := Lib.hid (show fitsP s l ds (k : Int) L = if (m : Int) = toP s l (k : Int) - (k : Int) * s ∧ d = dgOf L then 0 else 13 by
    unfold fitsP
    rw [hdl, if_neg (by simp [HC.out]), HA.out, if_neg (by simp), hml, Int.toNat_natCast, HX.out]
    simp only [Option.some.injEq])
  obtain ⟨q, hq⟩ : ∃ q, (k : Int) * s = q := ⟨_, rfl⟩
  obtain ⟨r, hr⟩ : ∃ r, toP s l (k : Int) = r := ⟨_, rfl⟩
  rw [hq, hr] at HQ
  rw [hq] at hk1 hk2 hk3 ⊢
  rw [hr] at hk3 hk4 ⊢
  have HW := Lib.hid (show IntKind.i64.wrap (r - q) = r - q from IntWalk.i64_in _ ⟨by omega, by omega⟩)
  have hw := HW.out
  have k0 : (0 : Int) ≤ (k : Int) := by omega
  obtain ⟨e, he⟩ : ∃ e, dgOf L = e := ⟨_, rfl⟩
  rw [he] at OV hne HQ
  clear hdk hdc he hat HD HA
  by_cases hlen : (m : Int) = r - q
  case neg =>
    have e1 : ((m : Int) != r - q) = true := by rw [bne_iff_ne]; exact hlen
    rw [if_neg (fun h => hlen h.1)] at HQ
    clear hlen
    go_upto_region 7 with fail
    go_quiet (fail)
    go_wp2
    go_ret
    exact ⟨by rw [HQ.out]; rfl, below_drewN B3.out _⟩
  have e1 : ((m : Int) != r - q) = false := by rw [bne_eq_false_iff_eq]; exact hlen
  by_cases hde : d = e
  · rw [if_pos ⟨hlen, hde⟩] at HQ
    have hh : (!(e.1 == d.1)) = false := by rw [hde]; simp
    rw [hh] at hne
    clear hh hde hlen
    go_upto_region 7 with fail
    refine wp_region_tree (SK.one 0 false <| .one 1 false <| .one 2 false <| .one 3 false <| .one 4 false <| .one 5 false <| .one 6 false <| .one 7 false <| .one 9 false <| .one 10 false <| .one 11 false <| .one 12 false <| .one 13 false <| .one 8 true <| .one 14 false <| .one 15 false .done) (fun V => V.cell? ⟨w.heap.size, 2, none⟩ = some (.slice (some ad) n c) ∧ (∀ j u, d.cells[j]? = some u → V.cell? ((ad.add (k * 32)).add j) = some u)) (by kernel_rfl) (by kernel_rfl) (by kernel_rfl) (by kernel_rfl) ?_
    have hS : w3.drew.cell? ⟨w.heap.size, 2, none⟩ = some (.slice (some ad) n c) ∧ (∀ j u, d.cells[j]? = some u → w3.drew.cell? ((ad.add (k * 32)).add j) = some u) := ⟨c2, HDC.out w3.drew B3.out.drew⟩
    have B4 := Lib.hid B3.out.drew
    have X4 := Lib.hid (show w3.drew.heap[w.heap.size]? = _ from X3.out)
    clear B3 X3 c2
    generalize w3.drew = w4 at *
    ((first | (refine TR.val2 (v := ?_) _ (by simp only [List.getElem?_toArray, List.getElem?_cons_zero]; rfl) ?_ ?_ ?_ ?_ ?_; rotate_left; (focus rfl); (focus (intro W hSW; (try dsimp only at hSW); (try (obtain ⟨hS1, hSW⟩ := hSW)); (try (obtain ⟨hS2, hSW⟩ := hSW)); (try (obtain ⟨hS3, hSW⟩ := hSW)); (try (obtain ⟨hS4, hSW⟩ := hSW)); (try (obtain ⟨hS5, hSW⟩ := hSW)); go_simp; (try with_reducible rfl); done)); (focus exact fun _ _ _ h => h); (focus assumption)) | (refine TR.skip _ (by simp only [List.getElem?_toArray, List.getElem?_cons_zero]; rfl) ?_ ?_ ?_ ?_; (focus rfl); (focus exact fun _ _ _ h => h); (focus assumption))); simp only [Act.put, List.setIfInBounds_toArray, List.set_cons_zero, List.set_cons_succ])
    iterate 11 ((first | (refine TR.val2 (v := ?_) _ (by simp only [List.getElem?_toArray, List.getElem?_cons_succ, List.getElem?_cons_zero]; rfl) ?_ ?_ ?_ ?_ ?_; rotate_left; (focus rfl); (focus (intro W hSW; (try dsimp only at hSW); (try (obtain ⟨hS1, hSW⟩ := hSW)); (try (obtain ⟨hS2, hSW⟩ := hSW)); (try (obtain ⟨hS3, hSW⟩ := hSW)); (try (obtain ⟨hS4, hSW⟩ := hSW)); (try (obtain ⟨hS5, hSW⟩ := hSW)); go_simp; (try with_reducible rfl); done)); (focus exact fun _ _ _ h => h); (focus assumption)) | (refine TR.skip _ (by simp only [List.getElem?_toArray, List.getElem?_cons_succ, List.getElem?_cons_zero]; rfl) ?_ ?_ ?_ ?_; (focus rfl); (focus exact fun _ _ _ h => h); (focus assumption))); simp only [Act.put, List.setIfInBounds_toArray, List.set_cons_zero, List.set_cons_succ])
    refine TR.val2 (v := .agg d.cells.toArray) _ (by simp only [List.getElem?_toArray, List.getElem?_cons_succ, List.getElem?_cons_zero]; rfl) ?_ ?_ ?_ ?_ ?_
    (focus rfl)
    (focus exact fun V hV => exec_load_slot 59 (.tmp 37) rfl (ad.add (k * 32)) rfl d.cells _ hV.2 Try.underlying59 rfl (HI9.out.trans (by rw [Dg.cells_len])))
    (focus exact fun _ _ _ h => h)
    (focus exact hS)
    simp only [Act.put, List.setIfInBounds_toArray, List.set_cons_zero, List.set_cons_succ]
    refine TR.eff _ (by simp only [List.getElem?_toArray, List.getElem?_cons_succ, List.getElem?_cons_zero]; rfl) (by rfl) (fun K hK => ?_); go_simp
    refine (OV.out w4 B4.out).mono ?_
    rintro e w5 ⟨rfl, b5⟩
    have B5 := Lib.hid (B4.out.trans (b5.mono B4.out.size))
    have X5 := (b5.block w.heap.size (by have := (Array.getElem?_eq_some_iff.1 X4.out).1; omega)).trans X4.out
    have hS2 : w5.cell? ⟨w.heap.size, 2, none⟩ = some (.slice (some ad) n c) ∧ (∀ j u, d.cells[j]? = some u → w5.cell? ((ad.add (k * 32)).add j) = some u) := ⟨by rw [cell_of_row _ _ 2 _ _ _ X5]; rfl, HDC.out w5 B5.out⟩
    refine hK.out _ _ hS2 ?_
    clear hK hS X4 X5 b5 B4
    have hS := hS2
    clear hS2
    (try simp only [Act.put, List.setIfInBounds_toArray, List.set_cons_zero, List.set_cons_succ])
    iterate 2 ((first | (refine TR.val2 (v := ?_) _ (by simp only [List.getElem?_toArray, List.getElem?_cons_succ, List.getElem?_cons_zero]; rfl) ?_ ?_ ?_ ?_ ?_; rotate_left; (focus rfl); (focus (intro W hSW; (try dsimp only at hSW); (try (obtain ⟨hS1, hSW⟩ := hSW)); (try (obtain ⟨hS2, hSW⟩ := hSW)); (try (obtain ⟨hS3, hSW⟩ := hSW)); (try (obtain ⟨hS4, hSW⟩ := hSW)); (try (obtain ⟨hS5, hSW⟩ := hSW)); go_simp; (try with_reducible rfl); done)); (focus exact fun _ _ _ h => h); (focus assumption)) | (refine TR.skip _ (by simp only [List.getElem?_toArray, List.getElem?_cons_succ, List.getElem?_cons_zero]; rfl) ?_ ?_ ?_ ?_; (focus rfl); (focus exact fun _ _ _ h => h); (focus assumption))); simp only [Act.put, List.setIfInBounds_toArray, List.set_cons_zero, List.set_cons_succ])
    refine TR.done ?_
    clear hS
    go_wp2
    go_ret
    exact ⟨by rw [HQ.out]; rfl, B5.out⟩
  · rw [if_neg (fun h => hde h.2)] at HQ
    have hh : (!(e.1 == d.1)) = true := by simpa using fun h : e.1 = d.1 => hde (Subtype.ext h.symm)
    rw [hh] at hne
    clear hh hde hlen
    go_upto_region 7 with fail
    refine wp_region_tree (SK.one 0 false <| .one 1 false <| .one 2 false <| .one 3 false <| .one 4 false <| .one 5 false <| .one 6 false <| .one 7 false <| .one 9 false <| .one 10 false <| .one 11 false <| .one 12 false <| .one 13 false <| .one 8 true <| .one 14 false <| .one 15 false .done) (fun V => V.cell? ⟨w.heap.size, 2, none⟩ = some (.slice (some ad) n c) ∧ (∀ j u, d.cells[j]? = some u → V.cell? ((ad.add (k * 32)).add j) = some u)) (by kernel_rfl) (by kernel_rfl) (by kernel_rfl) (by kernel_rfl) ?_
    have hS : w3.drew.cell? ⟨w.heap.size, 2, none⟩ = some (.slice (some ad) n c) ∧ (∀ j u, d.cells[j]? = some u → w3.drew.cell? ((ad.add (k * 32)).add j) = some u) := ⟨c2, HDC.out w3.drew B3.out.drew⟩
    have B4 := Lib.hid B3.out.drew
    have X4 := Lib.hid (show w3.drew.heap[w.heap.size]? = _ from X3.out)
    clear B3 X3 c2
    generalize w3.drew = w4 at *
    ((first | (refine TR.val2 (v := ?_) _ (by simp only [List.getElem?_toArray, List.getElem?_cons_zero]; rfl) ?_ ?_ ?_ ?_ ?_; rotate_left; (focus rfl); (focus (intro W hSW; (try dsimp only at hSW); (try (obtain ⟨hS1, hSW⟩ := hSW)); (try (obtain ⟨hS2, hSW⟩ := hSW)); (try (obtain ⟨hS3, hSW⟩ := hSW)); (try (obtain ⟨hS4, hSW⟩ := hSW)); (try (obtain ⟨hS5, hSW⟩ := hSW)); go_simp; (try with_reducible rfl); done)); (focus exact fun _ _ _ h => h); (focus assumption)) | (refine TR.skip _ (by simp only [List.getElem?_toArray, List.getElem?_cons_zero]; rfl) ?_ ?_ ?_ ?_; (focus rfl); (focus exact fun _ _ _ h => h); (focus assumption))); simp only [Act.put, List.setIfInBounds_toArray, List.set_cons_zero, List.set_cons_succ])
    iterate 11 ((first | (refine TR.val2 (v := ?_) _ (by simp only [List.getElem?_toArray, List.getElem?_cons_succ, List.getElem?_cons_zero]; rfl) ?_ ?_ ?_ ?_ ?_; rotate_left; (focus rfl); (focus (intro W hSW; (try dsimp only at hSW); (try (obtain ⟨hS1, hSW⟩ := hSW)); (try (obtain ⟨hS2, hSW⟩ := hSW)); (try (obtain ⟨hS3, hSW⟩ := hSW)); (try (obtain ⟨hS4, hSW⟩ := hSW)); (try (obtain ⟨hS5, hSW⟩ := hSW)); go_simp; (try with_reducible rfl); done)); (focus exact fun _ _ _ h => h); (focus assumption)) | (refine TR.skip _ (by simp only [List.getElem?_toArray, List.getElem?_cons_succ, List.getElem?_cons_zero]; rfl) ?_ ?_ ?_ ?_; (focus rfl); (focus exact fun _ _ _ h => h); (focus assumption))); simp only [Act.put, List.setIfInBounds_toArray, List.set_cons_zero, List.set_cons_succ])
    refine TR.val2 (v := .agg d.cells.toArray) _ (by simp only [List.getElem?_toArray, List.getElem?_cons_succ, List.getElem?_cons_zero]; rfl) ?_ ?_ ?_ ?_ ?_
    (focus rfl)
    (focus exact fun V hV => exec_load_slot 59 (.tmp 37) rfl (ad.add (k * 32)) rfl d.cells _ hV.2 Try.underlying59 rfl (HI9.out.trans (by rw [Dg.cells_len])))
    (focus exact fun _ _ _ h => h)
    (focus exact hS)
    simp only [Act.put, List.setIfInBounds_toArray, List.set_cons_zero, List.set_cons_succ]
    refine TR.eff _ (by simp only [List.getElem?_toArray, List.getElem?_cons_succ, List.getElem?_cons_zero]; rfl) (by rfl) (fun K hK => ?_); go_simp
    refine (OV.out w4 B4.out).mono ?_
    rintro e w5 ⟨rfl, b5⟩
    have B5 := Lib.hid (B4.out.trans (b5.mono B4.out.size))
    have X5 := (b5.block w.heap.size (by have := (Array.getElem?_eq_some_iff.1 X4.out).1; omega)).trans X4.out
    have hS2 : w5.cell? ⟨w.heap.size, 2, none⟩ = some (.slice (some ad) n c) ∧ (∀ j u, d.cells[j]? = some u → w5.cell? ((ad.add (k * 32)).add j) = some u) := ⟨by rw [cell_of_row _ _ 2 _ _ _ X5]; rfl, HDC.out w5 B5.out⟩
    refine hK.out _ _ hS2 ?_
    clear hK hS X4 X5 b5 B4
    have hS := hS2
    clear hS2
    (try simp only [Act.put, List.setIfInBounds_toArray, List.set_cons_zero, List.set_cons_succ])
    iterate 2 ((first | (refine TR.val2 (v := ?_) _ (by simp only [List.getElem?_toArray, List.getElem?_cons_succ, List.getElem?_cons_zero]; rfl) ?_ ?_ ?_ ?_ ?_; rotate_left; (focus rfl); (focus (intro W hSW; (try dsimp only at hSW); (try (obtain ⟨hS1, hSW⟩ := hSW)); (try (obtain ⟨hS2, hSW⟩ := hSW)); (try (obtain ⟨hS3, hSW⟩ := hSW)); (try (obtain ⟨hS4, hSW⟩ := hSW)); (try (obtain ⟨hS5, hSW⟩ := hSW)); go_simp; (try with_reducible rfl); done)); (focus exact fun _ _ _ h => h); (focus assumption)) | (refine TR.skip _ (by simp only [List.getElem?_toArray, List.getElem?_cons_succ, List.getElem?_cons_zero]; rfl) ?_ ?_ ?_ ?_; (focus rfl); (focus exact fun _ _ _ h => h); (focus assumption))); simp only [Act.put, List.setIfInBounds_toArray, List.set_cons_zero, List.set_cons_succ])
    refine TR.done ?_
    clear hS
    go_wp2
    go_ret
    exact ⟨by rw [HQ.out]; rfl, B5.out⟩

end Go.Proofs.Ytmaehbebpldpcaa
