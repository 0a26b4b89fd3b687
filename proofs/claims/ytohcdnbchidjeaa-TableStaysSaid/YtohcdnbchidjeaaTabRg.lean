/-
  The law's own: made (both tables, of puts and drops in a row).
-/
import Derived.Test.YtohcdnbchidjeaaTabRe
namespace Go.Proofs.Ytohcdnbchidjeaa
open Go.RowKit
/-- A block of one cell. -/
def OneC (w : World) (g : Nat) : Prop := ∀ j, 1 ≤ j → w.cell? ⟨g, j, none⟩ = none
/-- A variable of the call's own that holds a table of the reference. -/
def RCell (w : World) (g : Nat) (L : List KV) (A : Option Addr) (n c : Nat) : Prop :=
  w.cell? ⟨g, 0, none⟩ = some (.slice A n c) ∧ w.frozen? ⟨g, 0, none⟩ = false ∧ OneC w g ∧ RTab w w.heap.size A n c L ∧ g < w.heap.size
section
variable {w w' : World} {g g' n c n' c' : Nat} {L L' : List KV} {A A' : Option Addr}
theorem OneC.below (h : OneC w g) (hb : Below w.heap.size w w') (hg : g < w.heap.size) : OneC w' g := fun j hj => keepC hb (h j hj) hg
theorem OneC.set (h : OneC w g) (g' : Nat) (u : Value) : OneC (w.setCell ⟨g', 0, none⟩ u) g := fun j hj =>
  (World.cell?_setCell_other w _ _ _ (by intro e; injection e with _ e2 _; omega)).trans (h j hj)
theorem OneC.new (w : World) (v : Value) (T : TypeId) : OneC (w.alloc (.cells #[v] T)) w.heap.size := fun j hj => by
  rw [World.cell?_alloc_at _ _ _ _ (by simp)]; simp; omega
theorem RCell.below (h : RCell w g L A n c) (hb : Below w.heap.size w w') : RCell w' g L A n c :=
  ⟨keepC hb h.1 h.2.2.2.2, keepF hb h.2.1 h.2.2.2.2, h.2.2.1.below hb h.2.2.2.2, h.2.2.2.1.step hb, Nat.lt_of_lt_of_le h.2.2.2.2 hb.size⟩
theorem RCell.alloc (h : RCell w g L A n c) (o : Obj) : RCell (w.alloc o) g L A n c := h.below ((Below.refl _ _).alloc (Nat.le_refl _) _)
theorem RTab.set (h : RTab w w.heap.size A n c L) (hg : OneC w g) (u : Value) : RTab (w.setCell ⟨g, 0, none⟩ u) (w.setCell ⟨g, 0, none⟩ u).heap.size A n c L :=
  ⟨by have := PReads.set1 h.1 hg u; simpa using this, h.2⟩
theorem RCell.store (h : RCell w g L A n c) (h' : RTab w w.heap.size A' n' c' L') : RCell (w.setCell ⟨g, 0, none⟩ (.slice A' n' c')) g L' A' n' c' :=
  ⟨World.cell?_setCell_same w _ _ h.1, by rw [World.frozen?_setCell]; exact h.2.1, h.2.2.1.set g _, h'.set h.2.2.1 _, by simpa using h.2.2.2.2⟩
theorem RCell.other (h : RCell w g L A n c) (hn : OneC w g') (hne : g' ≠ g) (u : Value) : RCell (w.setCell ⟨g', 0, none⟩ u) g L A n c :=
  ⟨(World.cell?_setCell_far w _ _ _ hne).trans h.1, by rw [World.frozen?_setCell]; exact h.2.1, h.2.2.1.set g' _, h.2.2.2.1.set hn _, by simpa using h.2.2.2.2⟩
theorem RTab.nil_ (w : World) (B : Nat) : RTab w B none 0 0 [] := ⟨⟨rfl, fun h => absurd h (Nat.lt_irrefl 0)⟩, Nat.le_refl _, by omega, fun _ => rfl⟩
theorem RCell.new (w : World) : RCell (w.alloc (.cells #[.slice none 0 0] 44)) w.heap.size [] none 0 0 :=
  ⟨box1 w _ _, World.frozen?_alloc_at _ _ _ _ rfl, OneC.new w _ _, RTab.nil_ _ _, by simp⟩
end
/-- Both tables in variables of their own. -/
structure Two (w : World) (g : Nat) (T : Tr) (q A : Option Addr) (n c : Nat) : Prop where
  t : TCell w g T q
  o : OneC w g
  r : RCell w (g + 1) T.flat A n c
theorem Two.below {w w' : World} {g n c : Nat} {T : Tr} {q A : Option Addr} (h : Two w g T q A n c) (hb : Below w.heap.size w w') : Two w' g T q A n c :=
  ⟨h.t.below hb, h.o.below hb h.t.2.2.2.2, h.r.below hb⟩
theorem Two.other {w : World} {g g' n c : Nat} {T : Tr} {q A : Option Addr} (h : Two w g T q A n c) (hn : OneC w g') (h1 : g' ≠ g) (h2 : g' ≠ g + 1) (u : Value) : Two (w.setCell ⟨g', 0, none⟩ u) g T q A n c :=
  ⟨h.t.other (hn 1 (Nat.le_refl _)) h1 u, h.o.set g' u, h.r.other hn h2 u⟩
theorem Two.new (w : World) : Two ((w.alloc (.cells #[.pointer none] 24)).alloc (.cells #[.slice none 0 0] 44)) w.heap.size .nil none none 0 0 := by
  have hb : Below (w.alloc (.cells #[.pointer none] 24)).heap.size (w.alloc (.cells #[.pointer none] 24)) ((w.alloc (.cells #[.pointer none] 24)).alloc (.cells #[.slice none 0 0] 44)) := (Below.refl _ _).alloc (Nat.le_refl _) _
  refine ⟨(TCell.new w).below hb, (OneC.new w _ _).below hb (by simp), ?_⟩
  have := RCell.new (w.alloc (.cells #[.pointer none] 24))
  rwa [World.size_alloc] at this
theorem Two.put {w : World} {g n c n' c' : Nat} {T T' : Tr} {q A q' A' : Option Addr} (h : Two w g T q A n c) (ht : Rep w w.heap.size T' q') (hr : RTab w w.heap.size A' n' c' T'.flat) :
    Two ((w.setCell ⟨g, 0, none⟩ (.pointer q')).setCell ⟨g + 1, 0, none⟩ (.slice A' n' c')) g T' q' A' n' c' := by
  have h1 := h.t.store ht
  have o1 := h.o.set g (.pointer q')
  have r1 := h.r.other h.o (show g ≠ g + 1 by omega) (.pointer q')
  exact ⟨h1.other (r1.2.2.1 1 (Nat.le_refl _)) (by omega) _, o1.set _ _, r1.store (hr.set h.o _)⟩
def MadePost (w : World) (T : Tr) (e : Ending) (w' : World) : Prop :=
  ∃ q A n c, e = .returned (.tuple #[.agg #[.pointer q], .agg #[.slice A n c]]) ∧ Rep w' w'.heap.size T q ∧ RTab w' w'.heap.size A n c T.flat ∧ Below w.heap.size w w'
set_option maxHeartbeats 4000000 in
theorem made_v (B : Nat) (A : Option Addr) (n c : Nat) (l : List P3) (w : World) (hr : PReads w B A n l) (hB : B ≤ w.heap.size) (hn : n ≤ 400000) (hk : smallK l) :
    Calls Try.prog 21 #[.slice A n c] w (MadePost w (doneT .nil l)) := by
  have HN : Hid (l.length = n) := Lib.hid hr.len
  have bb : Below ((w.alloc (.cells #[.pointer none] 24)).alloc (.cells #[.slice none 0 0] 44)).heap.size ((w.alloc (.cells #[.pointer none] 24)).alloc (.cells #[.slice none 0 0] 44)) ((((w.alloc (.cells #[.pointer none] 24)).alloc (.cells #[.slice none 0 0] 44)).alloc (.cells #[.pointer none] 24)).alloc (.cells #[.slice none 0 0] 44)) := ((Below.refl _ _).alloc (Nat.le_refl _) _).alloc (by simp) _
  have Z0 := Lib.hid ((Two.new w).below bb)
  have Z1 := Lib.hid (show Two ((((w.alloc (.cells #[.pointer none] 24)).alloc (.cells #[.slice none 0 0] 44)).alloc (.cells #[.pointer none] 24)).alloc (.cells #[.slice none 0 0] 44)) (w.heap.size + 1 + 1) .nil none none 0 0 by have := Two.new ((w.alloc (.cells #[.pointer none] 24)).alloc (.cells #[.slice none 0 0] 44)); rwa [World.size_alloc, World.size_alloc] at this)
  have E1 := Lib.hid (show Below w.heap.size w ((((w.alloc (.cells #[.pointer none] 24)).alloc (.cells #[.slice none 0 0] 44)).alloc (.cells #[.pointer none] 24)).alloc (.cells #[.slice none 0 0] 44)) from ((((Below.refl _ _).alloc (Nat.le_refl _) _).alloc (by simp) _).alloc (by simp; omega) _).alloc (by simp; omega) _)
  have HR := Lib.hid hr
  have HK := Lib.hid hk
  clear hr hk bb
  go_enter Try.func21, Try.ntmps21
  go_wp2
  go_loopw [6] (fun i wr => ∃ (k : Nat) (q A' : Option Addr) (n' c' : Nat), k ≤ n ∧ i = .int .i64 (k : Int) ∧ Two wr (w.heap.size + 1 + 1) ((l.take k).foldl doneStep .nil) q A' n' c' ∧ Two wr w.heap.size .nil none none 0 0 ∧ Below w.heap.size w wr) (fun i _ => n - (intOf i).toNat)
  case atStart => exact ⟨0, none, none, 0, 0, Nat.zero_le _, rfl, Z1.out, Z0.out, E1.out⟩
  case round =>
    obtain ⟨k, q, A', n', c', hkn, rfl, z1, z0, hb⟩ := hrel
    have Y1 := Lib.hid z1
    have Y0 := Lib.hid z0
    have HB := Lib.hid hb
    have hgs : w.heap.size + 1 + 1 + 1 < wr.heap.size := z1.r.2.2.2.2
    have GT := Lib.hid (show good ((l.take k).foldl doneStep .nil) from (doneT_good (l.take k) good_nil).1)
    have HCN := Lib.hid (cnt_done (l.take k) .nil)
    have HLT := Lib.hid (show (l.take k).length ≤ n by rw [List.length_take, HN.out]; omega)
    have HCK := Lib.hid (show ((l.take k).foldl doneStep .nil).cnt ≤ 400000 by have := HCN.out; have := HLT.out; simp only [Tr.cnt] at *; omega)
    have HNL := Lib.hid (show n' ≤ 400000 by rw [← z1.r.2.2.2.1.1.len, pvs_len, flat_len]; exact HCK.out)
    clear z1 z0 hb HCN
    by_cases hlt : k < n
    · obtain ⟨ad, x, he, had, hx, c0, c1, c2⟩ := PReads.at_ (Reads.below (show Reads w B 3 A n _ from HR.out) (HB.out.mono hB)) hlt
      subst he
      have HKX := Lib.hid (HK.out.at_ hx)
      have HT := Lib.hid (show (l.take (k + 1)).foldl doneStep .nil = doneStep ((l.take k).foldl doneStep .nil) x by rw [take_snoc' hx, List.foldl_append]; rfl)
      have HFL := Lib.hid (doneStep_good GT.out x).2
      clear hx
      obtain ⟨xk, xv, xg⟩ := x
      simp only [] at c0 c1 c2
      generalize (l.take k).foldl doneStep .nil = T at *
      have ct := Y1.out.t.1
      have cr := Y1.out.r.1
      have hk0 : (0 : Int) ≤ (k : Int) := by omega
      have hk1 : (k : Int) < (n : Int) := by omega
      cases xg with
      | true =>
        have HST := Lib.hid (show (l.take (k + 1)).foldl doneStep .nil = T.drop xk from HT.out.trans (by simp [doneStep]))
        have HFS := Lib.hid (show (T.drop xk).flat = dropL xk T.flat from HFL.out ▸ rfl)
        clear HT HFL
        go_wp2_with fail
        (try dsimp only [List.append])
        refine wp_region_F 14 [(0, 2), (1, 1), (2, 1), (3, 1), (4, 1), (5, 2), (7, 2), (8, 1), (9, 1), (10, 1), (11, 1), (12, 2), (6, 0), (13, 0), (14, 4), (15, 4)] (fun _ => True) (fun V => V.cell? ⟨w.heap.size + 1 + 1, 0, none⟩ = some (.pointer q) ∧ V.cell? ⟨w.heap.size + 1 + 1 + 1, 0, none⟩ = some (.slice A' n' c') ∧ V.cell? (ad.add (k * 3)) = some (.string xk)) (by kernel_rfl) (by kernel_rfl) (by kernel_rfl) (by kernel_rfl) (by kernel_rfl) (fun _ => ?_)
        simp only [outE, List.getElem?_cons_zero, List.getElem?_cons_succ, Option.getD_some]
        have hF : True := trivial
        have hG : wr.drew.cell? ⟨w.heap.size + 1 + 1, 0, none⟩ = some (.pointer q) ∧ wr.drew.cell? ⟨w.heap.size + 1 + 1 + 1, 0, none⟩ = some (.slice A' n' c') ∧ wr.drew.cell? (ad.add (k * 3)) = some (.string xk) := ⟨ct, cr, c0⟩
        have HG := Lib.hid hG
        have hab : (ad.add (k * 3)).block < wr.heap.size := by rw [block_of_add]; omega
        iterate 1 (refine TF.val2 (v := ?_) ?_ ?_ ?_ ?_ ?_ ?_; rotate_left; (focus rfl); (focus (intro W hSW; (try dsimp only at hSW); (try (obtain ⟨hS1, hSW⟩ := hSW)); (try (obtain ⟨hS2, hSW⟩ := hSW)); (try (obtain ⟨hS3, hSW⟩ := hSW)); (try (obtain ⟨hS4, hSW⟩ := hSW)); (try (obtain ⟨hS5, hSW⟩ := hSW)); go_simp; (try with_reducible rfl); done)); (focus exact fun _ _ _ h => h); (focus exact hF); (focus exact hG); simp only [Act.put, List.setIfInBounds_toArray, List.set_cons_zero, List.set_cons_succ])
        iterate 4 (refine TF.val1 (v := ?_) ?_ ?_ ?_ ?_ ?_ ?_; rotate_left; (focus rfl); (focus (intro W hSW; (try dsimp only at hSW); (try (obtain ⟨hS1, hSW⟩ := hSW)); (try (obtain ⟨hS2, hSW⟩ := hSW)); (try (obtain ⟨hS3, hSW⟩ := hSW)); (try (obtain ⟨hS4, hSW⟩ := hSW)); (try (obtain ⟨hS5, hSW⟩ := hSW)); go_simp; (try with_reducible rfl); done)); (focus exact fun _ _ _ h => h); (focus exact hF); (focus exact hG); simp only [Act.put, List.setIfInBounds_toArray, List.set_cons_zero, List.set_cons_succ])
        iterate 2 (refine TF.val2 (v := ?_) ?_ ?_ ?_ ?_ ?_ ?_; rotate_left; (focus rfl); (focus (intro W hSW; (try dsimp only at hSW); (try (obtain ⟨hS1, hSW⟩ := hSW)); (try (obtain ⟨hS2, hSW⟩ := hSW)); (try (obtain ⟨hS3, hSW⟩ := hSW)); (try (obtain ⟨hS4, hSW⟩ := hSW)); (try (obtain ⟨hS5, hSW⟩ := hSW)); go_simp; (try with_reducible rfl); done)); (focus exact fun _ _ _ h => h); (focus exact hF); (focus exact hG); simp only [Act.put, List.setIfInBounds_toArray, List.set_cons_zero, List.set_cons_succ])
        iterate 4 (refine TF.val1 (v := ?_) ?_ ?_ ?_ ?_ ?_ ?_; rotate_left; (focus rfl); (focus (intro W hSW; (try dsimp only at hSW); (try (obtain ⟨hS1, hSW⟩ := hSW)); (try (obtain ⟨hS2, hSW⟩ := hSW)); (try (obtain ⟨hS3, hSW⟩ := hSW)); (try (obtain ⟨hS4, hSW⟩ := hSW)); (try (obtain ⟨hS5, hSW⟩ := hSW)); go_simp; (try with_reducible rfl); done)); (focus exact fun _ _ _ h => h); (focus exact hF); (focus exact hG); simp only [Act.put, List.setIfInBounds_toArray, List.set_cons_zero, List.set_cons_succ])
        iterate 1 (refine TF.val2 (v := ?_) ?_ ?_ ?_ ?_ ?_ ?_; rotate_left; (focus rfl); (focus (intro W hSW; (try dsimp only at hSW); (try (obtain ⟨hS1, hSW⟩ := hSW)); (try (obtain ⟨hS2, hSW⟩ := hSW)); (try (obtain ⟨hS3, hSW⟩ := hSW)); (try (obtain ⟨hS4, hSW⟩ := hSW)); (try (obtain ⟨hS5, hSW⟩ := hSW)); go_simp; (try with_reducible rfl); done)); (focus exact fun _ _ _ h => h); (focus exact hF); (focus exact hG); simp only [Act.put, List.setIfInBounds_toArray, List.set_cons_zero, List.set_cons_succ])
        refine TF.eff0 (by rfl) (fun K hK => ?_); go_simp
        refine (drop_v xk _ wr.drew.heap.size q wr.drew Y1.out.t.2.2.2.1.drew (Nat.le_refl _) (by have := HCK.out; omega) HKX.out).mono ?_
        rintro e w5 ⟨q1, rfl, r5, hb5⟩
        have hb5' : Below wr.heap.size wr w5 := ((Below.refl _ _).drew).trans hb5
        have Y15 := Lib.hid (Y1.out.below hb5')
        have Y05 := Lib.hid (Y0.out.below hb5')
        have HB5 := Lib.hid (btrans HB.out hb5' HB.out.size)
        have RA5 := Lib.hid r5
        have hab5 : (ad.add (k * 3)).block < w5.heap.size := Nat.lt_of_lt_of_le hab hb5'.size
        have HG5 := Lib.hid (show w5.cell? (ad.add (k * 3)) = some (.string xk) from (hb5'.cell hab).trans c0)
        clear hb5 hb5' r5 hG
        (try (go_wp2_with fail)); refine hK.out _ _ trivial ⟨Y15.out.t.1, Y15.out.r.1, HG5.out⟩ ?_; clear hK; (try simp only [Act.put, List.setIfInBounds_toArray, List.set_cons_zero, List.set_cons_succ])
        refine TF.eff0 (by rfl) (fun K hK => ?_); go_simp
        refine (rdrop_v xk T.flat w5.heap.size A' n' c' w5 Y15.out.r.2.2.2.1 (Nat.le_refl _) GT.out.1 (by have := HNL.out; omega)).mono ?_
        rintro e w6 ⟨A6, n6, c6, rfl, r6, hb6⟩
        have Y16 := Lib.hid (Y15.out.below hb6)
        have Y06 := Lib.hid (Y05.out.below hb6)
        have HB6 := Lib.hid (btrans HB5.out hb6 HB5.out.size)
        have RA6 := Lib.hid (RA5.out.step hb6)
        have RB6 := Lib.hid (show RTab w6 w6.heap.size A6 n6 c6 (T.drop xk).flat by rw [HFS.out]; exact r6)
        have HG6 := Lib.hid (show w6.cell? (ad.add (k * 3)) = some (.string xk) from (hb6.cell hab5).trans HG5.out)
        clear hb6 r6 Y15 Y05 HB5 RA5
        (try (go_wp2_with fail)); refine hK.out _ _ trivial ⟨Y16.out.t.1, Y16.out.r.1, HG6.out⟩ ?_; clear hK; (try simp only [Act.put, List.setIfInBounds_toArray, List.set_cons_zero, List.set_cons_succ])
        have Y17 := Lib.hid (Y16.out.put RA6.out RB6.out)
        have Y07 := Lib.hid ((Y06.out.other Y16.out.o (by omega) (by omega) (.pointer q1)).other (Y16.out.r.2.2.1.set (w.heap.size + 1 + 1) (.pointer q1)) (show w.heap.size + 1 + 1 + 1 ≠ w.heap.size by omega) (by omega) (.slice A6 n6 c6))
        have HB7 := Lib.hid ((HB6.out.setCell (p := ⟨w.heap.size + 1 + 1, 0, none⟩) (by simp; omega) (.pointer q1)).setCell (p := ⟨w.heap.size + 1 + 1 + 1, 0, none⟩) (by simp; omega) (.slice A6 n6 c6))
        have ca := Y16.out.t.1
        have fa := Y16.out.t.2.1
        refine TF.eff4 (by rfl) (fun K hK => ?_); go_simp
        refine hK.out _ _ trivial ?_
        clear hK ca fa
        (try simp only [Act.put, List.setIfInBounds_toArray, List.set_cons_zero, List.set_cons_succ])
        have r7 := Y16.out.r.other Y16.out.o (show w.heap.size + 1 + 1 ≠ w.heap.size + 1 + 1 + 1 by omega) (.pointer q1)
        have cb := r7.1
        have fb := r7.2.1
        clear r7
        refine TF.eff4 (by rfl) (fun K hK => ?_); go_simp
        refine hK.out _ _ trivial ?_
        clear hK
        (try simp only [Act.put, List.setIfInBounds_toArray, List.set_cons_zero, List.set_cons_succ])
        refine TF.done ?_
        generalize (w6.setCell ⟨w.heap.size + 1 + 1, 0, none⟩ (.pointer q1)).setCell ⟨w.heap.size + 1 + 1 + 1, 0, none⟩ (.slice A6 n6 c6) = w7 at *
        clear cb fb ct cr c0 c1 c2
        go_wp2
        go_roundw
        case rel => exact ⟨k + 1, q1, A6, n6, c6, by omega, by go_num, by rw [HST.out]; exact Y17.out, Y07.out, HB7.out⟩
        case measure => simp [intOf]; omega
      | false =>
        have HST := Lib.hid (show (l.take (k + 1)).foldl doneStep .nil = T.put xk xv from HT.out.trans (by simp [doneStep]))
        have HFS := Lib.hid (show (T.put xk xv).flat = putL xk xv T.flat from HFL.out ▸ rfl)
        clear HT HFL
        go_wp2_with fail
        (try dsimp only [List.append])
        refine wp_region_F 24 [(0, 2), (1, 1), (2, 1), (3, 1), (4, 1), (5, 2), (6, 1), (7, 1), (8, 1), (9, 1), (10, 2), (12, 2), (13, 1), (14, 1), (15, 1), (16, 1), (17, 2), (18, 1), (19, 1), (20, 1), (21, 1), (22, 2), (11, 0), (23, 0), (24, 4), (25, 4)] (fun _ => True) (fun V => V.cell? ⟨w.heap.size + 1 + 1, 0, none⟩ = some (.pointer q) ∧ V.cell? ⟨w.heap.size + 1 + 1 + 1, 0, none⟩ = some (.slice A' n' c') ∧ V.cell? (ad.add (k * 3)) = some (.string xk) ∧ V.cell? ⟨(ad.add (k * 3)).block, (ad.add (k * 3)).off + 1, none⟩ = some (.string xv)) (by kernel_rfl) (by kernel_rfl) (by kernel_rfl) (by kernel_rfl) (by kernel_rfl) (fun _ => ?_)
        simp only [outE, List.getElem?_cons_zero, List.getElem?_cons_succ, Option.getD_some]
        have hF : True := trivial
        have hG : wr.drew.cell? ⟨w.heap.size + 1 + 1, 0, none⟩ = some (.pointer q) ∧ wr.drew.cell? ⟨w.heap.size + 1 + 1 + 1, 0, none⟩ = some (.slice A' n' c') ∧ wr.drew.cell? (ad.add (k * 3)) = some (.string xk) ∧ wr.drew.cell? ⟨(ad.add (k * 3)).block, (ad.add (k * 3)).off + 1, none⟩ = some (.string xv) := ⟨ct, cr, c0, c1⟩
        have HG := Lib.hid hG
        have hab : (ad.add (k * 3)).block < wr.heap.size := by rw [block_of_add]; omega
        iterate 1 (refine TF.val2 (v := ?_) ?_ ?_ ?_ ?_ ?_ ?_; rotate_left; (focus rfl); (focus (intro W hSW; (try dsimp only at hSW); (try (obtain ⟨hS1, hSW⟩ := hSW)); (try (obtain ⟨hS2, hSW⟩ := hSW)); (try (obtain ⟨hS3, hSW⟩ := hSW)); (try (obtain ⟨hS4, hSW⟩ := hSW)); (try (obtain ⟨hS5, hSW⟩ := hSW)); go_simp; (try with_reducible rfl); done)); (focus exact fun _ _ _ h => h); (focus exact hF); (focus exact hG); simp only [Act.put, List.setIfInBounds_toArray, List.set_cons_zero, List.set_cons_succ])
        iterate 4 (refine TF.val1 (v := ?_) ?_ ?_ ?_ ?_ ?_ ?_; rotate_left; (focus rfl); (focus (intro W hSW; (try dsimp only at hSW); (try (obtain ⟨hS1, hSW⟩ := hSW)); (try (obtain ⟨hS2, hSW⟩ := hSW)); (try (obtain ⟨hS3, hSW⟩ := hSW)); (try (obtain ⟨hS4, hSW⟩ := hSW)); (try (obtain ⟨hS5, hSW⟩ := hSW)); go_simp; (try with_reducible rfl); done)); (focus exact fun _ _ _ h => h); (focus exact hF); (focus exact hG); simp only [Act.put, List.setIfInBounds_toArray, List.set_cons_zero, List.set_cons_succ])
        iterate 1 (refine TF.val2 (v := ?_) ?_ ?_ ?_ ?_ ?_ ?_; rotate_left; (focus rfl); (focus (intro W hSW; (try dsimp only at hSW); (try (obtain ⟨hS1, hSW⟩ := hSW)); (try (obtain ⟨hS2, hSW⟩ := hSW)); (try (obtain ⟨hS3, hSW⟩ := hSW)); (try (obtain ⟨hS4, hSW⟩ := hSW)); (try (obtain ⟨hS5, hSW⟩ := hSW)); go_simp; (try with_reducible rfl); done)); (focus exact fun _ _ _ h => h); (focus exact hF); (focus exact hG); simp only [Act.put, List.setIfInBounds_toArray, List.set_cons_zero, List.set_cons_succ])
        iterate 4 (refine TF.val1 (v := ?_) ?_ ?_ ?_ ?_ ?_ ?_; rotate_left; (focus rfl); (focus (intro W hSW; (try dsimp only at hSW); (try (obtain ⟨hS1, hSW⟩ := hSW)); (try (obtain ⟨hS2, hSW⟩ := hSW)); (try (obtain ⟨hS3, hSW⟩ := hSW)); (try (obtain ⟨hS4, hSW⟩ := hSW)); (try (obtain ⟨hS5, hSW⟩ := hSW)); go_simp; (try with_reducible rfl); done)); (focus exact fun _ _ _ h => h); (focus exact hF); (focus exact hG); simp only [Act.put, List.setIfInBounds_toArray, List.set_cons_zero, List.set_cons_succ])
        iterate 2 (refine TF.val2 (v := ?_) ?_ ?_ ?_ ?_ ?_ ?_; rotate_left; (focus rfl); (focus (intro W hSW; (try dsimp only at hSW); (try (obtain ⟨hS1, hSW⟩ := hSW)); (try (obtain ⟨hS2, hSW⟩ := hSW)); (try (obtain ⟨hS3, hSW⟩ := hSW)); (try (obtain ⟨hS4, hSW⟩ := hSW)); (try (obtain ⟨hS5, hSW⟩ := hSW)); go_simp; (try with_reducible rfl); done)); (focus exact fun _ _ _ h => h); (focus exact hF); (focus exact hG); simp only [Act.put, List.setIfInBounds_toArray, List.set_cons_zero, List.set_cons_succ])
        iterate 4 (refine TF.val1 (v := ?_) ?_ ?_ ?_ ?_ ?_ ?_; rotate_left; (focus rfl); (focus (intro W hSW; (try dsimp only at hSW); (try (obtain ⟨hS1, hSW⟩ := hSW)); (try (obtain ⟨hS2, hSW⟩ := hSW)); (try (obtain ⟨hS3, hSW⟩ := hSW)); (try (obtain ⟨hS4, hSW⟩ := hSW)); (try (obtain ⟨hS5, hSW⟩ := hSW)); go_simp; (try with_reducible rfl); done)); (focus exact fun _ _ _ h => h); (focus exact hF); (focus exact hG); simp only [Act.put, List.setIfInBounds_toArray, List.set_cons_zero, List.set_cons_succ])
        iterate 1 (refine TF.val2 (v := ?_) ?_ ?_ ?_ ?_ ?_ ?_; rotate_left; (focus rfl); (focus (intro W hSW; (try dsimp only at hSW); (try (obtain ⟨hS1, hSW⟩ := hSW)); (try (obtain ⟨hS2, hSW⟩ := hSW)); (try (obtain ⟨hS3, hSW⟩ := hSW)); (try (obtain ⟨hS4, hSW⟩ := hSW)); (try (obtain ⟨hS5, hSW⟩ := hSW)); go_simp; (try with_reducible rfl); done)); (focus exact fun _ _ _ h => h); (focus exact hF); (focus exact hG); simp only [Act.put, List.setIfInBounds_toArray, List.set_cons_zero, List.set_cons_succ])
        iterate 4 (refine TF.val1 (v := ?_) ?_ ?_ ?_ ?_ ?_ ?_; rotate_left; (focus rfl); (focus (intro W hSW; (try dsimp only at hSW); (try (obtain ⟨hS1, hSW⟩ := hSW)); (try (obtain ⟨hS2, hSW⟩ := hSW)); (try (obtain ⟨hS3, hSW⟩ := hSW)); (try (obtain ⟨hS4, hSW⟩ := hSW)); (try (obtain ⟨hS5, hSW⟩ := hSW)); go_simp; (try with_reducible rfl); done)); (focus exact fun _ _ _ h => h); (focus exact hF); (focus exact hG); simp only [Act.put, List.setIfInBounds_toArray, List.set_cons_zero, List.set_cons_succ])
        iterate 1 (refine TF.val2 (v := ?_) ?_ ?_ ?_ ?_ ?_ ?_; rotate_left; (focus rfl); (focus (intro W hSW; (try dsimp only at hSW); (try (obtain ⟨hS1, hSW⟩ := hSW)); (try (obtain ⟨hS2, hSW⟩ := hSW)); (try (obtain ⟨hS3, hSW⟩ := hSW)); (try (obtain ⟨hS4, hSW⟩ := hSW)); (try (obtain ⟨hS5, hSW⟩ := hSW)); go_simp; (try with_reducible rfl); done)); (focus exact fun _ _ _ h => h); (focus exact hF); (focus exact hG); simp only [Act.put, List.setIfInBounds_toArray, List.set_cons_zero, List.set_cons_succ])
        refine TF.eff0 (by rfl) (fun K hK => ?_); go_simp
        refine (put_v xk xv _ wr.drew.heap.size q wr.drew Y1.out.t.2.2.2.1.drew (Nat.le_refl _) (by have := HCK.out; omega) HKX.out).mono ?_
        rintro e w5 ⟨q1, rfl, r5, hb5⟩
        have hb5' : Below wr.heap.size wr w5 := ((Below.refl _ _).drew).trans hb5
        have Y15 := Lib.hid (Y1.out.below hb5')
        have Y05 := Lib.hid (Y0.out.below hb5')
        have HB5 := Lib.hid (btrans HB.out hb5' HB.out.size)
        have RA5 := Lib.hid r5
        have hab5 : (ad.add (k * 3)).block < w5.heap.size := Nat.lt_of_lt_of_le hab hb5'.size
        have HG5 := Lib.hid (show w5.cell? (ad.add (k * 3)) = some (.string xk) ∧ w5.cell? ⟨(ad.add (k * 3)).block, (ad.add (k * 3)).off + 1, none⟩ = some (.string xv) from ⟨(hb5'.cell hab).trans c0, (hb5'.cell (p := ⟨(ad.add (k * 3)).block, (ad.add (k * 3)).off + 1, none⟩) hab).trans c1⟩)
        clear hb5 hb5' r5 hG
        (try (go_wp2_with fail)); refine hK.out _ _ trivial ⟨Y15.out.t.1, Y15.out.r.1, HG5.out⟩ ?_; clear hK; (try simp only [Act.put, List.setIfInBounds_toArray, List.set_cons_zero, List.set_cons_succ])
        refine TF.eff0 (by rfl) (fun K hK => ?_); go_simp
        refine (rput_v xk xv T.flat w5.heap.size A' n' c' w5 Y15.out.r.2.2.2.1 (Nat.le_refl _) GT.out.1 (by have := HNL.out; omega)).mono ?_
        rintro e w6 ⟨A6, n6, c6, rfl, r6, hb6⟩
        have Y16 := Lib.hid (Y15.out.below hb6)
        have Y06 := Lib.hid (Y05.out.below hb6)
        have HB6 := Lib.hid (btrans HB5.out hb6 HB5.out.size)
        have RA6 := Lib.hid (RA5.out.step hb6)
        have RB6 := Lib.hid (show RTab w6 w6.heap.size A6 n6 c6 (T.put xk xv).flat by rw [HFS.out]; exact r6)
        have HG6 := Lib.hid (show w6.cell? (ad.add (k * 3)) = some (.string xk) ∧ w6.cell? ⟨(ad.add (k * 3)).block, (ad.add (k * 3)).off + 1, none⟩ = some (.string xv) from ⟨(hb6.cell hab5).trans HG5.out.1, (hb6.cell (p := ⟨(ad.add (k * 3)).block, (ad.add (k * 3)).off + 1, none⟩) hab5).trans HG5.out.2⟩)
        clear hb6 r6 Y15 Y05 HB5 RA5
        (try (go_wp2_with fail)); refine hK.out _ _ trivial ⟨Y16.out.t.1, Y16.out.r.1, HG6.out⟩ ?_; clear hK; (try simp only [Act.put, List.setIfInBounds_toArray, List.set_cons_zero, List.set_cons_succ])
        have Y17 := Lib.hid (Y16.out.put RA6.out RB6.out)
        have Y07 := Lib.hid ((Y06.out.other Y16.out.o (by omega) (by omega) (.pointer q1)).other (Y16.out.r.2.2.1.set (w.heap.size + 1 + 1) (.pointer q1)) (show w.heap.size + 1 + 1 + 1 ≠ w.heap.size by omega) (by omega) (.slice A6 n6 c6))
        have HB7 := Lib.hid ((HB6.out.setCell (p := ⟨w.heap.size + 1 + 1, 0, none⟩) (by simp; omega) (.pointer q1)).setCell (p := ⟨w.heap.size + 1 + 1 + 1, 0, none⟩) (by simp; omega) (.slice A6 n6 c6))
        have ca := Y16.out.t.1
        have fa := Y16.out.t.2.1
        refine TF.eff4 (by rfl) (fun K hK => ?_); go_simp
        refine hK.out _ _ trivial ?_
        clear hK ca fa
        (try simp only [Act.put, List.setIfInBounds_toArray, List.set_cons_zero, List.set_cons_succ])
        have r7 := Y16.out.r.other Y16.out.o (show w.heap.size + 1 + 1 ≠ w.heap.size + 1 + 1 + 1 by omega) (.pointer q1)
        have cb := r7.1
        have fb := r7.2.1
        clear r7
        refine TF.eff4 (by rfl) (fun K hK => ?_); go_simp
        refine hK.out _ _ trivial ?_
        clear hK
        (try simp only [Act.put, List.setIfInBounds_toArray, List.set_cons_zero, List.set_cons_succ])
        refine TF.done ?_
        generalize (w6.setCell ⟨w.heap.size + 1 + 1, 0, none⟩ (.pointer q1)).setCell ⟨w.heap.size + 1 + 1 + 1, 0, none⟩ (.slice A6 n6 c6) = w7 at *
        clear cb fb ct cr c0 c1 c2
        go_wp2
        go_roundw
        case rel => exact ⟨k + 1, q1, A6, n6, c6, by omega, by go_num, by rw [HST.out]; exact Y17.out, Y07.out, HB7.out⟩
        case measure => simp [intOf]; omega
    · obtain rfl : k = n := by omega
      have HT := Lib.hid (show (l.take k).foldl doneStep .nil = doneT .nil l by rw [List.take_of_length_le (by rw [HN.out]; exact Nat.le_refl _)]; rfl)
      have ct := Y1.out.t.1
      have cr := Y1.out.r.1
      have c0 := Y0.out.t.1
      have f0 := Y0.out.t.2.1
      have c1 := Y0.out.r.1
      have f1 := Y0.out.r.2.1
      go_wp2_with fail
      refine wp_region_text [(0, false), (1, false), (2, true), (3, true)] (fun V => V.cell? ⟨w.heap.size + 1 + 1, 0, none⟩ = some (.pointer q) ∧ V.cell? ⟨w.heap.size + 1 + 1 + 1, 0, none⟩ = some (.slice A' n' c')) (by kernel_rfl) (by kernel_rfl) (by kernel_rfl) (by kernel_rfl) (by kernel_rfl) (fun _ => ?_)
      simp only [outOf, List.getElem?_cons_zero, List.getElem?_cons_succ, Option.getD_some]
      have hS : wr.drew.cell? ⟨w.heap.size + 1 + 1, 0, none⟩ = some (.pointer q) ∧ wr.drew.cell? ⟨w.heap.size + 1 + 1 + 1, 0, none⟩ = some (.slice A' n' c') := ⟨ct, cr⟩
      (iterate 2 (refine TW.val2 (v := ?_) ?_ ?_ ?_ ?_ ?_; rotate_left; (focus rfl); (focus (intro W hSW; (try dsimp only at hSW); obtain ⟨hS1, hS2⟩ := hSW; go_simp; (try with_reducible rfl); done)); (focus exact fun _ _ _ h => h); (focus assumption); simp only [Act.put, List.setIfInBounds_toArray, List.set_cons_zero, List.set_cons_succ]))
      refine TW.eff (by rfl) (fun K hK => ?_); go_simp
      refine hK.out _ _ ⟨(World.cell?_setCell_far wr _ _ _ (show w.heap.size ≠ w.heap.size + 1 + 1 by omega)).trans ct, (World.cell?_setCell_far wr _ _ _ (show w.heap.size ≠ w.heap.size + 1 + 1 + 1 by omega)).trans cr⟩ ?_
      clear hK
      have c1' : (wr.setCell ⟨w.heap.size, 0, none⟩ (.pointer q)).cell? ⟨w.heap.size + 1, 0, none⟩ = some (.slice none 0 0) := (World.cell?_setCell_far wr _ _ _ (show w.heap.size ≠ w.heap.size + 1 by omega)).trans c1
      refine TW.eff (by rfl) (fun K hK => ?_); go_simp
      have Z := Y0.out.put Y1.out.t.2.2.2.1 Y1.out.r.2.2.2.1
      have HBF := Lib.hid ((HB.out.setCell (p := ⟨w.heap.size, 0, none⟩) (by simp) (.pointer q)).setCell (p := ⟨w.heap.size + 1, 0, none⟩) (by simp) (.slice A' n' c'))
      have S1 : ((wr.setCell ⟨w.heap.size, 0, none⟩ (.pointer q)).setCell ⟨w.heap.size + 1, 0, none⟩ (.slice A' n' c')).drew.cell? ⟨w.heap.size + 1 + 1, 0, none⟩ = some (.pointer q) := (World.cell?_setCell_far _ _ _ _ (show w.heap.size + 1 ≠ w.heap.size + 1 + 1 by omega)).trans ((World.cell?_setCell_far wr _ _ _ (show w.heap.size ≠ w.heap.size + 1 + 1 by omega)).trans ct)
      have S2 : ((wr.setCell ⟨w.heap.size, 0, none⟩ (.pointer q)).setCell ⟨w.heap.size + 1, 0, none⟩ (.slice A' n' c')).drew.cell? ⟨w.heap.size + 1 + 1 + 1, 0, none⟩ = some (.slice A' n' c') := (World.cell?_setCell_far _ _ _ _ (show w.heap.size + 1 ≠ w.heap.size + 1 + 1 + 1 by omega)).trans ((World.cell?_setCell_far wr _ _ _ (show w.heap.size ≠ w.heap.size + 1 + 1 + 1 by omega)).trans cr)
      generalize (wr.setCell ⟨w.heap.size, 0, none⟩ (.pointer q)).setCell ⟨w.heap.size + 1, 0, none⟩ (.slice A' n' c') = wf at *
      refine hK.out _ _ ⟨S1, S2⟩ ?_
      clear hK
      refine TW.done ?_
      have k0 : wf.drew.cell? ⟨w.heap.size, 0, none⟩ = some (.pointer q) := Z.t.1
      have k1 : wf.drew.cell? ⟨w.heap.size + 1, 0, none⟩ = some (.slice A' n' c') := Z.r.1
      have HZ := Lib.hid Z
      clear Z c1' c1 f1 c0 f0 ct cr S1 S2
      go_wp2_with fail
      refine bodyPost_ret (v := .tuple #[.agg #[.pointer q], .agg #[.slice A' n' c']]) (by simp [results, Try.results21, go_sem, k0, k1]) rfl ?_
      exact ⟨q, A', n', c', rfl, by have := HZ.out.t.2.2.2.1.drew; rw [HT.out] at this; exact this, by have := HZ.out.r.2.2.2.1; rw [HT.out] at this; exact ⟨Reads.drew this.1, this.2⟩, HBF.out.drew⟩
end Go.Proofs.Ytohcdnbchidjeaa
