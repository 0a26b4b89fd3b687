/-
  Blocks: rows of digests, and lists, compared.
-/
import Derived.Test.YtndekohimfjdeaaDoorBlkB
namespace Go.Proofs.YtndekohimfjdeaaDoor
open Go.RowKit Go.Shelf
theorem take_eq_step {α : Type} {l m : List α} {k : Nat} {x y : α} (h : l.take k = m.take k) (hx : l[k]? = some x) (hy : m[k]? = some y) (e : x = y) : l.take (k + 1) = m.take (k + 1) := by
  rw [List.take_add_one, List.take_add_one, h, hx, hy, e]
theorem ne_at {α : Type} {l m : List α} {k : Nat} {x y : α} (hx : l[k]? = some x) (hy : m[k]? = some y) (e : x ≠ y) : l ≠ m := by
  intro h
  subst h
  rw [hx] at hy
  injection hy with hy
  exact e hy

set_option maxRecDepth 100000 in
set_option maxHeartbeats 4000000 in
theorem eqs_v (A A' : Option Addr) (n c n' c' B : Nat) (ds ds' : List Dg) (w : World) (hd : DReads w B A n ds) (he : DReads w B A' n' ds') (hB : B ≤ w.heap.size) (hn : n ≤ 9007199254740992) :
    Calls Tryd.prog 55 #[.slice A n c, .slice A' n' c'] w fun e w' => e = .returned (.bool (decide (ds = ds'))) ∧ Below w.heap.size w w' := by
  have HD := Lib.hid hd
  have HE := Lib.hid he
  have hl := hd.len
  have hl' := he.len
  clear hd he
  go_enter Tryd.func55, Tryd.ntmps55
  by_cases hnn : n = n'
  case neg =>
    have d1 : ((n : Int) != (n' : Int)) = true := by rw [bne_iff_ne]; omega
    have HR := Lib.hid (show decide (ds = ds') = false by
      rw [decide_eq_false_iff_not]
      intro e
      subst e
      omega)
    clear hl hl'
    go_wp2
    go_ret
    exact ⟨by rw [HR.out]; rfl, Below.refl _ _⟩
  subst hnn
  clear hl hl'
  go_wp2
  go_loopw [13] (fun i wr => ∃ k : Nat, k ≤ n ∧ i = .int .i64 (k : Int) ∧ ds.take k = ds'.take k ∧ Below w.heap.size w wr) (fun i _ => n - (intOf i).toNat)
  case atStart => exact ⟨0, Nat.zero_le _, rfl, by simp, Below.refl _ _⟩
  case round =>
    obtain ⟨k, hk, rfl, ht, hb⟩ := hrel
    have HT := Lib.hid ht
    have HB := Lib.hid hb
    clear ht hb
    by_cases hlt : k < n
    · obtain ⟨ad, d, rfl, hd, hc⟩ := HD.out.at_ hlt
      obtain ⟨ad', d', rfl, hd', hc'⟩ := HE.out.at_ hlt
      have HC := Lib.hid (hc wr (HB.out.mono hB))
      have HC' := Lib.hid (hc' wr (HB.out.mono hB))
      have k0 : (0 : Int) ≤ (k : Int) := by omega
      have HX := Lib.hid hd
      have HX' := Lib.hid hd'
      have HI9 := Lib.hid (show (Tryd.prog.info? 71).map (·.size) = some 32 by kernel_rfl)
      have hne : ∀ V : World, (binOp .neq 71 (.agg d.cells.toArray) (.agg d'.cells.toArray)).run Tryd.prog V = .ok (.bool (!(d.1 == d'.1))) V := fun V => neqd d d' V
      clear hd hd' hc hc'
      by_cases hdd : d.1 = d'.1
      · have HN := Lib.hid (take_eq_step HT.out HX.out HX'.out (Subtype.ext hdd))
        have e1 : (!(d.1 == d'.1)) = false := by simpa using hdd
        rw [e1] at hne
        clear e1 hdd
        go_upto_region 6 with fail
        refine wp_region_tree (SK.one 0 false <| .one 1 false <| .one 2 false <| .one 3 false <| .one 4 false <| .one 5 false <| .one 6 false <| .one 7 false <| .one 8 false .done) (fun V => (∀ j u, d.cells[j]? = some u → V.cell? ((ad.add (k * 32)).add j) = some u) ∧ (∀ j u, d'.cells[j]? = some u → V.cell? ((ad'.add (k * 32)).add j) = some u)) (by kernel_rfl) (by kernel_rfl) (by kernel_rfl) (by kernel_rfl) ?_
        have hS : (∀ j u, d.cells[j]? = some u → wr.drew.cell? ((ad.add (k * 32)).add j) = some u) ∧ (∀ j u, d'.cells[j]? = some u → wr.drew.cell? ((ad'.add (k * 32)).add j) = some u) := ⟨HC.out, HC'.out⟩
        ((first | (refine TR.val2 (v := ?_) _ (by simp only [List.getElem?_toArray, List.getElem?_cons_zero]; rfl) ?_ ?_ ?_ ?_ ?_; rotate_left; (focus rfl); (focus (intro W hSW; (try dsimp only at hSW); (try (obtain ⟨hS1, hSW⟩ := hSW)); (try (obtain ⟨hS2, hSW⟩ := hSW)); (try (obtain ⟨hS3, hSW⟩ := hSW)); (try (obtain ⟨hS4, hSW⟩ := hSW)); (try (obtain ⟨hS5, hSW⟩ := hSW)); (try (obtain ⟨hS6, hSW⟩ := hSW)); (try (obtain ⟨hS7, hSW⟩ := hSW)); (try (obtain ⟨hS8, hSW⟩ := hSW)); go_simp; (try with_reducible rfl); done)); (focus exact fun _ _ _ h => h); (focus assumption)) | (refine TR.skip _ (by simp only [List.getElem?_toArray, List.getElem?_cons_zero]; rfl) ?_ ?_ ?_ ?_; (focus rfl); (focus exact fun _ _ _ h => h); (focus assumption))); simp only [Act.put, List.setIfInBounds_toArray, List.set_cons_zero, List.set_cons_succ])
        iterate 2 ((first | (refine TR.val2 (v := ?_) _ (by simp only [List.getElem?_toArray, List.getElem?_cons_succ, List.getElem?_cons_zero]; rfl) ?_ ?_ ?_ ?_ ?_; rotate_left; (focus rfl); (focus (intro W hSW; (try dsimp only at hSW); (try (obtain ⟨hS1, hSW⟩ := hSW)); (try (obtain ⟨hS2, hSW⟩ := hSW)); (try (obtain ⟨hS3, hSW⟩ := hSW)); (try (obtain ⟨hS4, hSW⟩ := hSW)); (try (obtain ⟨hS5, hSW⟩ := hSW)); (try (obtain ⟨hS6, hSW⟩ := hSW)); (try (obtain ⟨hS7, hSW⟩ := hSW)); (try (obtain ⟨hS8, hSW⟩ := hSW)); go_simp; (try with_reducible rfl); done)); (focus exact fun _ _ _ h => h); (focus assumption)) | (refine TR.skip _ (by simp only [List.getElem?_toArray, List.getElem?_cons_succ, List.getElem?_cons_zero]; rfl) ?_ ?_ ?_ ?_; (focus rfl); (focus exact fun _ _ _ h => h); (focus assumption))); simp only [Act.put, List.setIfInBounds_toArray, List.set_cons_zero, List.set_cons_succ])
        refine TR.val2 (v := .agg d.cells.toArray) _ (by simp only [List.getElem?_toArray, List.getElem?_cons_succ, List.getElem?_cons_zero]; rfl) ?_ ?_ ?_ ?_ ?_
        (focus rfl)
        (focus exact fun V hV => exec_load_slot 71 (.tmp 18) rfl (ad.add (k * 32)) rfl d.cells _ hV.1 Tryd.underlying71 rfl (HI9.out.trans (by rw [Dg.cells_len])))
        (focus exact fun _ _ _ h => h)
        (focus exact hS)
        simp only [Act.put, List.setIfInBounds_toArray, List.set_cons_zero, List.set_cons_succ]
        iterate 3 ((first | (refine TR.val2 (v := ?_) _ (by simp only [List.getElem?_toArray, List.getElem?_cons_succ, List.getElem?_cons_zero]; rfl) ?_ ?_ ?_ ?_ ?_; rotate_left; (focus rfl); (focus (intro W hSW; (try dsimp only at hSW); (try (obtain ⟨hS1, hSW⟩ := hSW)); (try (obtain ⟨hS2, hSW⟩ := hSW)); (try (obtain ⟨hS3, hSW⟩ := hSW)); (try (obtain ⟨hS4, hSW⟩ := hSW)); (try (obtain ⟨hS5, hSW⟩ := hSW)); (try (obtain ⟨hS6, hSW⟩ := hSW)); (try (obtain ⟨hS7, hSW⟩ := hSW)); (try (obtain ⟨hS8, hSW⟩ := hSW)); go_simp; (try with_reducible rfl); done)); (focus exact fun _ _ _ h => h); (focus assumption)) | (refine TR.skip _ (by simp only [List.getElem?_toArray, List.getElem?_cons_succ, List.getElem?_cons_zero]; rfl) ?_ ?_ ?_ ?_; (focus rfl); (focus exact fun _ _ _ h => h); (focus assumption))); simp only [Act.put, List.setIfInBounds_toArray, List.set_cons_zero, List.set_cons_succ])
        refine TR.val2 (v := .agg d'.cells.toArray) _ (by simp only [List.getElem?_toArray, List.getElem?_cons_succ, List.getElem?_cons_zero]; rfl) ?_ ?_ ?_ ?_ ?_
        (focus rfl)
        (focus exact fun V hV => exec_load_slot 71 (.tmp 22) rfl (ad'.add (k * 32)) rfl d'.cells _ hV.2 Tryd.underlying71 rfl (HI9.out.trans (by rw [Dg.cells_len])))
        (focus exact fun _ _ _ h => h)
        (focus exact hS)
        simp only [Act.put, List.setIfInBounds_toArray, List.set_cons_zero, List.set_cons_succ]
        iterate 1 ((first | (refine TR.val2 (v := ?_) _ (by simp only [List.getElem?_toArray, List.getElem?_cons_succ, List.getElem?_cons_zero]; rfl) ?_ ?_ ?_ ?_ ?_; rotate_left; (focus rfl); (focus (intro W hSW; (try dsimp only at hSW); (try (obtain ⟨hS1, hSW⟩ := hSW)); (try (obtain ⟨hS2, hSW⟩ := hSW)); (try (obtain ⟨hS3, hSW⟩ := hSW)); (try (obtain ⟨hS4, hSW⟩ := hSW)); (try (obtain ⟨hS5, hSW⟩ := hSW)); (try (obtain ⟨hS6, hSW⟩ := hSW)); (try (obtain ⟨hS7, hSW⟩ := hSW)); (try (obtain ⟨hS8, hSW⟩ := hSW)); go_simp; (try with_reducible rfl); done)); (focus exact fun _ _ _ h => h); (focus assumption)) | (refine TR.skip _ (by simp only [List.getElem?_toArray, List.getElem?_cons_succ, List.getElem?_cons_zero]; rfl) ?_ ?_ ?_ ?_; (focus rfl); (focus exact fun _ _ _ h => h); (focus assumption))); simp only [Act.put, List.setIfInBounds_toArray, List.set_cons_zero, List.set_cons_succ])
        refine TR.done ?_
        clear hS
        go_wp2
        go_roundw
        case rel => exact ⟨k + 1, hlt, by go_num, HN.out, HB.out.drew⟩
        case measure => simp [intOf]; omega
      · have HN := Lib.hid (ne_at HX.out HX'.out (fun e => hdd (by rw [e])))
        have e1 : (!(d.1 == d'.1)) = true := by simpa using hdd
        rw [e1] at hne
        clear e1 hdd
        go_upto_region 6 with fail
        refine wp_region_tree (SK.one 0 false <| .one 1 false <| .one 2 false <| .one 3 false <| .one 4 false <| .one 5 false <| .one 6 false <| .one 7 false <| .one 8 false .done) (fun V => (∀ j u, d.cells[j]? = some u → V.cell? ((ad.add (k * 32)).add j) = some u) ∧ (∀ j u, d'.cells[j]? = some u → V.cell? ((ad'.add (k * 32)).add j) = some u)) (by kernel_rfl) (by kernel_rfl) (by kernel_rfl) (by kernel_rfl) ?_
        have hS : (∀ j u, d.cells[j]? = some u → wr.drew.cell? ((ad.add (k * 32)).add j) = some u) ∧ (∀ j u, d'.cells[j]? = some u → wr.drew.cell? ((ad'.add (k * 32)).add j) = some u) := ⟨HC.out, HC'.out⟩
        ((first | (refine TR.val2 (v := ?_) _ (by simp only [List.getElem?_toArray, List.getElem?_cons_zero]; rfl) ?_ ?_ ?_ ?_ ?_; rotate_left; (focus rfl); (focus (intro W hSW; (try dsimp only at hSW); (try (obtain ⟨hS1, hSW⟩ := hSW)); (try (obtain ⟨hS2, hSW⟩ := hSW)); (try (obtain ⟨hS3, hSW⟩ := hSW)); (try (obtain ⟨hS4, hSW⟩ := hSW)); (try (obtain ⟨hS5, hSW⟩ := hSW)); (try (obtain ⟨hS6, hSW⟩ := hSW)); (try (obtain ⟨hS7, hSW⟩ := hSW)); (try (obtain ⟨hS8, hSW⟩ := hSW)); go_simp; (try with_reducible rfl); done)); (focus exact fun _ _ _ h => h); (focus assumption)) | (refine TR.skip _ (by simp only [List.getElem?_toArray, List.getElem?_cons_zero]; rfl) ?_ ?_ ?_ ?_; (focus rfl); (focus exact fun _ _ _ h => h); (focus assumption))); simp only [Act.put, List.setIfInBounds_toArray, List.set_cons_zero, List.set_cons_succ])
        iterate 2 ((first | (refine TR.val2 (v := ?_) _ (by simp only [List.getElem?_toArray, List.getElem?_cons_succ, List.getElem?_cons_zero]; rfl) ?_ ?_ ?_ ?_ ?_; rotate_left; (focus rfl); (focus (intro W hSW; (try dsimp only at hSW); (try (obtain ⟨hS1, hSW⟩ := hSW)); (try (obtain ⟨hS2, hSW⟩ := hSW)); (try (obtain ⟨hS3, hSW⟩ := hSW)); (try (obtain ⟨hS4, hSW⟩ := hSW)); (try (obtain ⟨hS5, hSW⟩ := hSW)); (try (obtain ⟨hS6, hSW⟩ := hSW)); (try (obtain ⟨hS7, hSW⟩ := hSW)); (try (obtain ⟨hS8, hSW⟩ := hSW)); go_simp; (try with_reducible rfl); done)); (focus exact fun _ _ _ h => h); (focus assumption)) | (refine TR.skip _ (by simp only [List.getElem?_toArray, List.getElem?_cons_succ, List.getElem?_cons_zero]; rfl) ?_ ?_ ?_ ?_; (focus rfl); (focus exact fun _ _ _ h => h); (focus assumption))); simp only [Act.put, List.setIfInBounds_toArray, List.set_cons_zero, List.set_cons_succ])
        refine TR.val2 (v := .agg d.cells.toArray) _ (by simp only [List.getElem?_toArray, List.getElem?_cons_succ, List.getElem?_cons_zero]; rfl) ?_ ?_ ?_ ?_ ?_
        (focus rfl)
        (focus exact fun V hV => exec_load_slot 71 (.tmp 18) rfl (ad.add (k * 32)) rfl d.cells _ hV.1 Tryd.underlying71 rfl (HI9.out.trans (by rw [Dg.cells_len])))
        (focus exact fun _ _ _ h => h)
        (focus exact hS)
        simp only [Act.put, List.setIfInBounds_toArray, List.set_cons_zero, List.set_cons_succ]
        iterate 3 ((first | (refine TR.val2 (v := ?_) _ (by simp only [List.getElem?_toArray, List.getElem?_cons_succ, List.getElem?_cons_zero]; rfl) ?_ ?_ ?_ ?_ ?_; rotate_left; (focus rfl); (focus (intro W hSW; (try dsimp only at hSW); (try (obtain ⟨hS1, hSW⟩ := hSW)); (try (obtain ⟨hS2, hSW⟩ := hSW)); (try (obtain ⟨hS3, hSW⟩ := hSW)); (try (obtain ⟨hS4, hSW⟩ := hSW)); (try (obtain ⟨hS5, hSW⟩ := hSW)); (try (obtain ⟨hS6, hSW⟩ := hSW)); (try (obtain ⟨hS7, hSW⟩ := hSW)); (try (obtain ⟨hS8, hSW⟩ := hSW)); go_simp; (try with_reducible rfl); done)); (focus exact fun _ _ _ h => h); (focus assumption)) | (refine TR.skip _ (by simp only [List.getElem?_toArray, List.getElem?_cons_succ, List.getElem?_cons_zero]; rfl) ?_ ?_ ?_ ?_; (focus rfl); (focus exact fun _ _ _ h => h); (focus assumption))); simp only [Act.put, List.setIfInBounds_toArray, List.set_cons_zero, List.set_cons_succ])
        refine TR.val2 (v := .agg d'.cells.toArray) _ (by simp only [List.getElem?_toArray, List.getElem?_cons_succ, List.getElem?_cons_zero]; rfl) ?_ ?_ ?_ ?_ ?_
        (focus rfl)
        (focus exact fun V hV => exec_load_slot 71 (.tmp 22) rfl (ad'.add (k * 32)) rfl d'.cells _ hV.2 Tryd.underlying71 rfl (HI9.out.trans (by rw [Dg.cells_len])))
        (focus exact fun _ _ _ h => h)
        (focus exact hS)
        simp only [Act.put, List.setIfInBounds_toArray, List.set_cons_zero, List.set_cons_succ]
        iterate 1 ((first | (refine TR.val2 (v := ?_) _ (by simp only [List.getElem?_toArray, List.getElem?_cons_succ, List.getElem?_cons_zero]; rfl) ?_ ?_ ?_ ?_ ?_; rotate_left; (focus rfl); (focus (intro W hSW; (try dsimp only at hSW); (try (obtain ⟨hS1, hSW⟩ := hSW)); (try (obtain ⟨hS2, hSW⟩ := hSW)); (try (obtain ⟨hS3, hSW⟩ := hSW)); (try (obtain ⟨hS4, hSW⟩ := hSW)); (try (obtain ⟨hS5, hSW⟩ := hSW)); (try (obtain ⟨hS6, hSW⟩ := hSW)); (try (obtain ⟨hS7, hSW⟩ := hSW)); (try (obtain ⟨hS8, hSW⟩ := hSW)); go_simp; (try with_reducible rfl); done)); (focus exact fun _ _ _ h => h); (focus assumption)) | (refine TR.skip _ (by simp only [List.getElem?_toArray, List.getElem?_cons_succ, List.getElem?_cons_zero]; rfl) ?_ ?_ ?_ ?_; (focus rfl); (focus exact fun _ _ _ h => h); (focus assumption))); simp only [Act.put, List.setIfInBounds_toArray, List.set_cons_zero, List.set_cons_succ])
        refine TR.done ?_
        clear hS
        go_wp2
        go_ret
        exact ⟨by rw [decide_eq_false HN.out]; rfl, HB.out.drew⟩
    · obtain rfl : k = n := by omega
      have HN := Lib.hid (show ds = ds' by
        have h1 := HT.out
        rwa [List.take_of_length_le (by rw [HD.out.len]; exact Nat.le_refl _), List.take_of_length_le (by rw [HE.out.len]; exact Nat.le_refl _)] at h1)
      go_wp2
      go_ret
      exact ⟨by rw [decide_eq_true HN.out]; rfl, HB.out⟩

set_option maxRecDepth 100000 in
set_option maxHeartbeats 4000000 in
theorem digests_v (A A' : Option Addr) (n c n' c' B : Nat) (ds ds' : List Dg) (w : World) (hd : DReads w B A n ds) (he : DReads w B A' n' ds') (hB : B ≤ w.heap.size) (hn : n ≤ 9007199254740992) :
    Calls Tryd.prog 39 #[.slice A n c, .slice A' n' c'] w fun e w' => e = .returned (.bool (decide (ds = ds'))) ∧ Below w.heap.size w w' := by
  have HD := Lib.hid hd
  have HE := Lib.hid he
  have hl := hd.len
  have hl' := he.len
  clear hd he
  go_enter Tryd.func39, Tryd.ntmps39
  by_cases hnn : n = n'
  case neg =>
    have d1 : ((n : Int) != (n' : Int)) = true := by rw [bne_iff_ne]; omega
    have HR := Lib.hid (show decide (ds = ds') = false by
      rw [decide_eq_false_iff_not]
      intro e
      subst e
      omega)
    clear hl hl'
    go_wp2
    go_ret
    exact ⟨by rw [HR.out]; rfl, Below.refl _ _⟩
  subst hnn
  clear hl hl'
  go_wp2
  go_loopw [5] (fun i wr => ∃ k : Nat, k ≤ n ∧ i = .int .i64 (k : Int) ∧ ds.take k = ds'.take k ∧ Below w.heap.size w wr) (fun i _ => n - (intOf i).toNat)
  case atStart => exact ⟨0, Nat.zero_le _, rfl, by simp, Below.refl _ _⟩
  case round =>
    obtain ⟨k, hk, rfl, ht, hb⟩ := hrel
    have HT := Lib.hid ht
    have HB := Lib.hid hb
    clear ht hb
    by_cases hlt : k < n
    · obtain ⟨ad, d, rfl, hd, hc⟩ := HD.out.at_ hlt
      obtain ⟨ad', d', rfl, hd', hc'⟩ := HE.out.at_ hlt
      have HC := Lib.hid (hc wr (HB.out.mono hB))
      have HC' := Lib.hid (hc' wr (HB.out.mono hB))
      have k0 : (0 : Int) ≤ (k : Int) := by omega
      have HX := Lib.hid hd
      have HX' := Lib.hid hd'
      have HI9 := Lib.hid (show (Tryd.prog.info? 71).map (·.size) = some 32 by kernel_rfl)
      have hne : ∀ V : World, (binOp .neq 71 (.agg d.cells.toArray) (.agg d'.cells.toArray)).run Tryd.prog V = .ok (.bool (!(d.1 == d'.1))) V := fun V => neqd d d' V
      clear hd hd' hc hc'
      by_cases hdd : d.1 = d'.1
      · have HN := Lib.hid (take_eq_step HT.out HX.out HX'.out (Subtype.ext hdd))
        have e1 : (!(d.1 == d'.1)) = false := by simpa using hdd
        rw [e1] at hne
        clear e1 hdd
        go_upto_region 6 with fail
        refine wp_region_tree (SK.one 0 false <| .one 1 false <| .one 2 false <| .one 3 false <| .one 4 false <| .one 5 false <| .one 6 false <| .one 7 false <| .one 8 false .done) (fun V => (∀ j u, d.cells[j]? = some u → V.cell? ((ad.add (k * 32)).add j) = some u) ∧ (∀ j u, d'.cells[j]? = some u → V.cell? ((ad'.add (k * 32)).add j) = some u)) (by kernel_rfl) (by kernel_rfl) (by kernel_rfl) (by kernel_rfl) ?_
        have hS : (∀ j u, d.cells[j]? = some u → wr.drew.cell? ((ad.add (k * 32)).add j) = some u) ∧ (∀ j u, d'.cells[j]? = some u → wr.drew.cell? ((ad'.add (k * 32)).add j) = some u) := ⟨HC.out, HC'.out⟩
        ((first | (refine TR.val2 (v := ?_) _ (by simp only [List.getElem?_toArray, List.getElem?_cons_zero]; rfl) ?_ ?_ ?_ ?_ ?_; rotate_left; (focus rfl); (focus (intro W hSW; (try dsimp only at hSW); (try (obtain ⟨hS1, hSW⟩ := hSW)); (try (obtain ⟨hS2, hSW⟩ := hSW)); (try (obtain ⟨hS3, hSW⟩ := hSW)); (try (obtain ⟨hS4, hSW⟩ := hSW)); (try (obtain ⟨hS5, hSW⟩ := hSW)); (try (obtain ⟨hS6, hSW⟩ := hSW)); (try (obtain ⟨hS7, hSW⟩ := hSW)); (try (obtain ⟨hS8, hSW⟩ := hSW)); go_simp; (try with_reducible rfl); done)); (focus exact fun _ _ _ h => h); (focus assumption)) | (refine TR.skip _ (by simp only [List.getElem?_toArray, List.getElem?_cons_zero]; rfl) ?_ ?_ ?_ ?_; (focus rfl); (focus exact fun _ _ _ h => h); (focus assumption))); simp only [Act.put, List.setIfInBounds_toArray, List.set_cons_zero, List.set_cons_succ])
        iterate 2 ((first | (refine TR.val2 (v := ?_) _ (by simp only [List.getElem?_toArray, List.getElem?_cons_succ, List.getElem?_cons_zero]; rfl) ?_ ?_ ?_ ?_ ?_; rotate_left; (focus rfl); (focus (intro W hSW; (try dsimp only at hSW); (try (obtain ⟨hS1, hSW⟩ := hSW)); (try (obtain ⟨hS2, hSW⟩ := hSW)); (try (obtain ⟨hS3, hSW⟩ := hSW)); (try (obtain ⟨hS4, hSW⟩ := hSW)); (try (obtain ⟨hS5, hSW⟩ := hSW)); (try (obtain ⟨hS6, hSW⟩ := hSW)); (try (obtain ⟨hS7, hSW⟩ := hSW)); (try (obtain ⟨hS8, hSW⟩ := hSW)); go_simp; (try with_reducible rfl); done)); (focus exact fun _ _ _ h => h); (focus assumption)) | (refine TR.skip _ (by simp only [List.getElem?_toArray, List.getElem?_cons_succ, List.getElem?_cons_zero]; rfl) ?_ ?_ ?_ ?_; (focus rfl); (focus exact fun _ _ _ h => h); (focus assumption))); simp only [Act.put, List.setIfInBounds_toArray, List.set_cons_zero, List.set_cons_succ])
        refine TR.val2 (v := .agg d.cells.toArray) _ (by simp only [List.getElem?_toArray, List.getElem?_cons_succ, List.getElem?_cons_zero]; rfl) ?_ ?_ ?_ ?_ ?_
        (focus rfl)
        (focus exact fun V hV => exec_load_slot 71 (.tmp 19) rfl (ad.add (k * 32)) rfl d.cells _ hV.1 Tryd.underlying71 rfl (HI9.out.trans (by rw [Dg.cells_len])))
        (focus exact fun _ _ _ h => h)
        (focus exact hS)
        simp only [Act.put, List.setIfInBounds_toArray, List.set_cons_zero, List.set_cons_succ]
        iterate 3 ((first | (refine TR.val2 (v := ?_) _ (by simp only [List.getElem?_toArray, List.getElem?_cons_succ, List.getElem?_cons_zero]; rfl) ?_ ?_ ?_ ?_ ?_; rotate_left; (focus rfl); (focus (intro W hSW; (try dsimp only at hSW); (try (obtain ⟨hS1, hSW⟩ := hSW)); (try (obtain ⟨hS2, hSW⟩ := hSW)); (try (obtain ⟨hS3, hSW⟩ := hSW)); (try (obtain ⟨hS4, hSW⟩ := hSW)); (try (obtain ⟨hS5, hSW⟩ := hSW)); (try (obtain ⟨hS6, hSW⟩ := hSW)); (try (obtain ⟨hS7, hSW⟩ := hSW)); (try (obtain ⟨hS8, hSW⟩ := hSW)); go_simp; (try with_reducible rfl); done)); (focus exact fun _ _ _ h => h); (focus assumption)) | (refine TR.skip _ (by simp only [List.getElem?_toArray, List.getElem?_cons_succ, List.getElem?_cons_zero]; rfl) ?_ ?_ ?_ ?_; (focus rfl); (focus exact fun _ _ _ h => h); (focus assumption))); simp only [Act.put, List.setIfInBounds_toArray, List.set_cons_zero, List.set_cons_succ])
        refine TR.val2 (v := .agg d'.cells.toArray) _ (by simp only [List.getElem?_toArray, List.getElem?_cons_succ, List.getElem?_cons_zero]; rfl) ?_ ?_ ?_ ?_ ?_
        (focus rfl)
        (focus exact fun V hV => exec_load_slot 71 (.tmp 23) rfl (ad'.add (k * 32)) rfl d'.cells _ hV.2 Tryd.underlying71 rfl (HI9.out.trans (by rw [Dg.cells_len])))
        (focus exact fun _ _ _ h => h)
        (focus exact hS)
        simp only [Act.put, List.setIfInBounds_toArray, List.set_cons_zero, List.set_cons_succ]
        iterate 1 ((first | (refine TR.val2 (v := ?_) _ (by simp only [List.getElem?_toArray, List.getElem?_cons_succ, List.getElem?_cons_zero]; rfl) ?_ ?_ ?_ ?_ ?_; rotate_left; (focus rfl); (focus (intro W hSW; (try dsimp only at hSW); (try (obtain ⟨hS1, hSW⟩ := hSW)); (try (obtain ⟨hS2, hSW⟩ := hSW)); (try (obtain ⟨hS3, hSW⟩ := hSW)); (try (obtain ⟨hS4, hSW⟩ := hSW)); (try (obtain ⟨hS5, hSW⟩ := hSW)); (try (obtain ⟨hS6, hSW⟩ := hSW)); (try (obtain ⟨hS7, hSW⟩ := hSW)); (try (obtain ⟨hS8, hSW⟩ := hSW)); go_simp; (try with_reducible rfl); done)); (focus exact fun _ _ _ h => h); (focus assumption)) | (refine TR.skip _ (by simp only [List.getElem?_toArray, List.getElem?_cons_succ, List.getElem?_cons_zero]; rfl) ?_ ?_ ?_ ?_; (focus rfl); (focus exact fun _ _ _ h => h); (focus assumption))); simp only [Act.put, List.setIfInBounds_toArray, List.set_cons_zero, List.set_cons_succ])
        refine TR.done ?_
        clear hS
        go_wp2
        go_roundw
        case rel => exact ⟨k + 1, hlt, by go_num, HN.out, HB.out.drew⟩
        case measure => simp [intOf]; omega
      · have HN := Lib.hid (ne_at HX.out HX'.out (fun e => hdd (by rw [e])))
        have e1 : (!(d.1 == d'.1)) = true := by simpa using hdd
        rw [e1] at hne
        clear e1 hdd
        go_upto_region 6 with fail
        refine wp_region_tree (SK.one 0 false <| .one 1 false <| .one 2 false <| .one 3 false <| .one 4 false <| .one 5 false <| .one 6 false <| .one 7 false <| .one 8 false .done) (fun V => (∀ j u, d.cells[j]? = some u → V.cell? ((ad.add (k * 32)).add j) = some u) ∧ (∀ j u, d'.cells[j]? = some u → V.cell? ((ad'.add (k * 32)).add j) = some u)) (by kernel_rfl) (by kernel_rfl) (by kernel_rfl) (by kernel_rfl) ?_
        have hS : (∀ j u, d.cells[j]? = some u → wr.drew.cell? ((ad.add (k * 32)).add j) = some u) ∧ (∀ j u, d'.cells[j]? = some u → wr.drew.cell? ((ad'.add (k * 32)).add j) = some u) := ⟨HC.out, HC'.out⟩
        ((first | (refine TR.val2 (v := ?_) _ (by simp only [List.getElem?_toArray, List.getElem?_cons_zero]; rfl) ?_ ?_ ?_ ?_ ?_; rotate_left; (focus rfl); (focus (intro W hSW; (try dsimp only at hSW); (try (obtain ⟨hS1, hSW⟩ := hSW)); (try (obtain ⟨hS2, hSW⟩ := hSW)); (try (obtain ⟨hS3, hSW⟩ := hSW)); (try (obtain ⟨hS4, hSW⟩ := hSW)); (try (obtain ⟨hS5, hSW⟩ := hSW)); (try (obtain ⟨hS6, hSW⟩ := hSW)); (try (obtain ⟨hS7, hSW⟩ := hSW)); (try (obtain ⟨hS8, hSW⟩ := hSW)); go_simp; (try with_reducible rfl); done)); (focus exact fun _ _ _ h => h); (focus assumption)) | (refine TR.skip _ (by simp only [List.getElem?_toArray, List.getElem?_cons_zero]; rfl) ?_ ?_ ?_ ?_; (focus rfl); (focus exact fun _ _ _ h => h); (focus assumption))); simp only [Act.put, List.setIfInBounds_toArray, List.set_cons_zero, List.set_cons_succ])
        iterate 2 ((first | (refine TR.val2 (v := ?_) _ (by simp only [List.getElem?_toArray, List.getElem?_cons_succ, List.getElem?_cons_zero]; rfl) ?_ ?_ ?_ ?_ ?_; rotate_left; (focus rfl); (focus (intro W hSW; (try dsimp only at hSW); (try (obtain ⟨hS1, hSW⟩ := hSW)); (try (obtain ⟨hS2, hSW⟩ := hSW)); (try (obtain ⟨hS3, hSW⟩ := hSW)); (try (obtain ⟨hS4, hSW⟩ := hSW)); (try (obtain ⟨hS5, hSW⟩ := hSW)); (try (obtain ⟨hS6, hSW⟩ := hSW)); (try (obtain ⟨hS7, hSW⟩ := hSW)); (try (obtain ⟨hS8, hSW⟩ := hSW)); go_simp; (try with_reducible rfl); done)); (focus exact fun _ _ _ h => h); (focus assumption)) | (refine TR.skip _ (by simp only [List.getElem?_toArray, List.getElem?_cons_succ, List.getElem?_cons_zero]; rfl) ?_ ?_ ?_ ?_; (focus rfl); (focus exact fun _ _ _ h => h); (focus assumption))); simp only [Act.put, List.setIfInBounds_toArray, List.set_cons_zero, List.set_cons_succ])
        refine TR.val2 (v := .agg d.cells.toArray) _ (by simp only [List.getElem?_toArray, List.getElem?_cons_succ, List.getElem?_cons_zero]; rfl) ?_ ?_ ?_ ?_ ?_
        (focus rfl)
        (focus exact fun V hV => exec_load_slot 71 (.tmp 19) rfl (ad.add (k * 32)) rfl d.cells _ hV.1 Tryd.underlying71 rfl (HI9.out.trans (by rw [Dg.cells_len])))
        (focus exact fun _ _ _ h => h)
        (focus exact hS)
        simp only [Act.put, List.setIfInBounds_toArray, List.set_cons_zero, List.set_cons_succ]
        iterate 3 ((first | (refine TR.val2 (v := ?_) _ (by simp only [List.getElem?_toArray, List.getElem?_cons_succ, List.getElem?_cons_zero]; rfl) ?_ ?_ ?_ ?_ ?_; rotate_left; (focus rfl); (focus (intro W hSW; (try dsimp only at hSW); (try (obtain ⟨hS1, hSW⟩ := hSW)); (try (obtain ⟨hS2, hSW⟩ := hSW)); (try (obtain ⟨hS3, hSW⟩ := hSW)); (try (obtain ⟨hS4, hSW⟩ := hSW)); (try (obtain ⟨hS5, hSW⟩ := hSW)); (try (obtain ⟨hS6, hSW⟩ := hSW)); (try (obtain ⟨hS7, hSW⟩ := hSW)); (try (obtain ⟨hS8, hSW⟩ := hSW)); go_simp; (try with_reducible rfl); done)); (focus exact fun _ _ _ h => h); (focus assumption)) | (refine TR.skip _ (by simp only [List.getElem?_toArray, List.getElem?_cons_succ, List.getElem?_cons_zero]; rfl) ?_ ?_ ?_ ?_; (focus rfl); (focus exact fun _ _ _ h => h); (focus assumption))); simp only [Act.put, List.setIfInBounds_toArray, List.set_cons_zero, List.set_cons_succ])
        refine TR.val2 (v := .agg d'.cells.toArray) _ (by simp only [List.getElem?_toArray, List.getElem?_cons_succ, List.getElem?_cons_zero]; rfl) ?_ ?_ ?_ ?_ ?_
        (focus rfl)
        (focus exact fun V hV => exec_load_slot 71 (.tmp 23) rfl (ad'.add (k * 32)) rfl d'.cells _ hV.2 Tryd.underlying71 rfl (HI9.out.trans (by rw [Dg.cells_len])))
        (focus exact fun _ _ _ h => h)
        (focus exact hS)
        simp only [Act.put, List.setIfInBounds_toArray, List.set_cons_zero, List.set_cons_succ]
        iterate 1 ((first | (refine TR.val2 (v := ?_) _ (by simp only [List.getElem?_toArray, List.getElem?_cons_succ, List.getElem?_cons_zero]; rfl) ?_ ?_ ?_ ?_ ?_; rotate_left; (focus rfl); (focus (intro W hSW; (try dsimp only at hSW); (try (obtain ⟨hS1, hSW⟩ := hSW)); (try (obtain ⟨hS2, hSW⟩ := hSW)); (try (obtain ⟨hS3, hSW⟩ := hSW)); (try (obtain ⟨hS4, hSW⟩ := hSW)); (try (obtain ⟨hS5, hSW⟩ := hSW)); (try (obtain ⟨hS6, hSW⟩ := hSW)); (try (obtain ⟨hS7, hSW⟩ := hSW)); (try (obtain ⟨hS8, hSW⟩ := hSW)); go_simp; (try with_reducible rfl); done)); (focus exact fun _ _ _ h => h); (focus assumption)) | (refine TR.skip _ (by simp only [List.getElem?_toArray, List.getElem?_cons_succ, List.getElem?_cons_zero]; rfl) ?_ ?_ ?_ ?_; (focus rfl); (focus exact fun _ _ _ h => h); (focus assumption))); simp only [Act.put, List.setIfInBounds_toArray, List.set_cons_zero, List.set_cons_succ])
        refine TR.done ?_
        clear hS
        go_wp2
        go_ret
        exact ⟨by rw [decide_eq_false HN.out]; rfl, HB.out.drew⟩
    · obtain rfl : k = n := by omega
      have HN := Lib.hid (show ds = ds' by
        have h1 := HT.out
        rwa [List.take_of_length_le (by rw [HD.out.len]; exact Nat.le_refl _), List.take_of_length_le (by rw [HE.out.len]; exact Nat.le_refl _)] at h1)
      go_wp2
      go_ret
      exact ⟨by rw [decide_eq_true HN.out]; rfl, HB.out⟩

/-- Are lists the same? -/
def sameP (s l s' l' : Int) (ds ds' : List Dg) : Bool := decide (s = s') && (decide (l = l') && decide (ds = ds'))
set_option maxRecDepth 100000 in
set_option maxHeartbeats 4000000 in
theorem bsame_v (s l s' l' : Int) (A A' : Option Addr) (n c n' c' B : Nat) (ds ds' : List Dg) (w : World) (hd : DReads w B A n ds) (he : DReads w B A' n' ds') (hB : B ≤ w.heap.size) (hn : n ≤ 9007199254740992) :
    Calls Tryd.prog 36 #[.agg #[.int .i64 s, .int .i64 l, .slice A n c], .agg #[.int .i64 s', .int .i64 l', .slice A' n' c']] w fun e w' => e = .returned (.bool (sameP s l s' l' ds ds')) ∧ Below w.heap.size w w' := by
  have BA := Lib.hid (((Below.refl w.heap.size w).alloc (Nat.le_refl _) (.cells #[.int .i64 s, .int .i64 l, .slice A n c] 25)).alloc (by simp) (.cells #[.int .i64 s', .int .i64 l', .slice A' n' c'] 25))
  have Y := Lib.hid (heap_alloc2_new w (.cells #[.int .i64 s, .int .i64 l, .slice A n c] 25) (.cells #[.int .i64 s', .int .i64 l', .slice A' n' c'] 25))
  have X := Lib.hid (heap_alloc2_old w (.cells #[.int .i64 s, .int .i64 l, .slice A n c] 25) (.cells #[.int .i64 s', .int .i64 l', .slice A' n' c'] 25))
  have hz : ((w.alloc (.cells #[.int .i64 s, .int .i64 l, .slice A n c] 25)).alloc (.cells #[.int .i64 s', .int .i64 l', .slice A' n' c'] 25)).heap.size = w.heap.size + 2 := by simp
  go_enter Tryd.func36, Tryd.ntmps36
  go_upto_region 1 with fail
  generalize (w.alloc (.cells #[.int .i64 s, .int .i64 l, .slice A n c] 25)).alloc (.cells #[.int .i64 s', .int .i64 l', .slice A' n' c'] 25) = w1 at *
  have EV := Lib.hid (eqs_v A A' n c n' c' B ds ds' w1 (hd.below (BA.out.mono hB)) (he.below (BA.out.mono hB)) (by omega) hn)
  have c0 : w1.cell? ⟨w.heap.size, 0, none⟩ = some (.int .i64 s) := by rw [cell_of_row _ _ 0 _ _ _ X.out]; rfl
  have c1 : w1.cell? ⟨w.heap.size, 1, none⟩ = some (.int .i64 l) := by rw [cell_of_row _ _ 1 _ _ _ X.out]; rfl
  have c2 : w1.cell? ⟨w.heap.size, 2, none⟩ = some (.slice A n c) := by rw [cell_of_row _ _ 2 _ _ _ X.out]; rfl
  have c3 : w1.cell? ⟨w.heap.size + 1, 0, none⟩ = some (.int .i64 s') := by rw [cell_of_row _ _ 0 _ _ _ Y.out]; rfl
  have c4 : w1.cell? ⟨w.heap.size + 1, 1, none⟩ = some (.int .i64 l') := by rw [cell_of_row _ _ 1 _ _ _ Y.out]; rfl
  have c5 : w1.cell? ⟨w.heap.size + 1, 2, none⟩ = some (.slice A' n' c') := by rw [cell_of_row _ _ 2 _ _ _ Y.out]; rfl
  clear hd he X Y
  by_cases h1 : s = s'
  · have e1 : (s == s') = true := by simpa using h1
    by_cases h2 : l = l'
    · have e2 : (l == l') = true := by simpa using h2
      have HR := Lib.hid (show sameP s l s' l' ds ds' = decide (ds = ds') by simp [sameP, h1, h2])
      clear h1 h2
      generalize decide (ds = ds') = r at *
      go_wp2_with fail
      refine EV.out.mono ?_
      rintro e w2 ⟨rfl, b2⟩
      have B2 := Lib.hid (BA.out.trans (b2.mono (by omega)))
      clear b2
      go_wp2
      go_ret
      exact ⟨by rw [HR.out]; rfl, B2.out⟩
    · have e2 : (l == l') = false := by simpa using h2
      have HR := Lib.hid (show sameP s l s' l' ds ds' = false by simp [sameP, h2])
      clear h1 h2
      go_wp2
      go_ret
      exact ⟨by rw [HR.out]; rfl, BA.out⟩
  · have e1 : (s == s') = false := by simpa using h1
    have HR := Lib.hid (show sameP s l s' l' ds ds' = false by simp [sameP, h1])
    clear h1
    go_wp2
    go_ret
    exact ⟨by rw [HR.out]; rfl, BA.out⟩


set_option maxRecDepth 100000 in
set_option maxHeartbeats 4000000 in
theorem list_v (s l s' l' : Int) (A A' : Option Addr) (n c n' c' B : Nat) (ds ds' : List Dg) (w : World) (hd : DReads w B A n ds) (he : DReads w B A' n' ds') (hB : B ≤ w.heap.size) (hn : n ≤ 9007199254740992) :
    Calls Tryd.prog 13 #[.agg #[.int .i64 s, .int .i64 l, .slice A n c], .agg #[.int .i64 s', .int .i64 l', .slice A' n' c']] w fun e w' => e = .returned (.bool (sameP s l s' l' ds ds')) ∧ Below w.heap.size w w' := by
  have BA := Lib.hid (((Below.refl w.heap.size w).alloc (Nat.le_refl _) (.cells #[.int .i64 s, .int .i64 l, .slice A n c] 25)).alloc (by simp) (.cells #[.int .i64 s', .int .i64 l', .slice A' n' c'] 25))
  have Y := Lib.hid (heap_alloc2_new w (.cells #[.int .i64 s, .int .i64 l, .slice A n c] 25) (.cells #[.int .i64 s', .int .i64 l', .slice A' n' c'] 25))
  have X := Lib.hid (heap_alloc2_old w (.cells #[.int .i64 s, .int .i64 l, .slice A n c] 25) (.cells #[.int .i64 s', .int .i64 l', .slice A' n' c'] 25))
  have hz : ((w.alloc (.cells #[.int .i64 s, .int .i64 l, .slice A n c] 25)).alloc (.cells #[.int .i64 s', .int .i64 l', .slice A' n' c'] 25)).heap.size = w.heap.size + 2 := by simp
  go_enter Tryd.func13, Tryd.ntmps13
  go_upto_region 1 with fail
  generalize (w.alloc (.cells #[.int .i64 s, .int .i64 l, .slice A n c] 25)).alloc (.cells #[.int .i64 s', .int .i64 l', .slice A' n' c'] 25) = w1 at *
  have EV := Lib.hid (digests_v A A' n c n' c' B ds ds' w1 (hd.below (BA.out.mono hB)) (he.below (BA.out.mono hB)) (by omega) hn)
  have c0 : w1.cell? ⟨w.heap.size, 0, none⟩ = some (.int .i64 s) := by rw [cell_of_row _ _ 0 _ _ _ X.out]; rfl
  have c1 : w1.cell? ⟨w.heap.size, 1, none⟩ = some (.int .i64 l) := by rw [cell_of_row _ _ 1 _ _ _ X.out]; rfl
  have c2 : w1.cell? ⟨w.heap.size, 2, none⟩ = some (.slice A n c) := by rw [cell_of_row _ _ 2 _ _ _ X.out]; rfl
  have c3 : w1.cell? ⟨w.heap.size + 1, 0, none⟩ = some (.int .i64 s') := by rw [cell_of_row _ _ 0 _ _ _ Y.out]; rfl
  have c4 : w1.cell? ⟨w.heap.size + 1, 1, none⟩ = some (.int .i64 l') := by rw [cell_of_row _ _ 1 _ _ _ Y.out]; rfl
  have c5 : w1.cell? ⟨w.heap.size + 1, 2, none⟩ = some (.slice A' n' c') := by rw [cell_of_row _ _ 2 _ _ _ Y.out]; rfl
  clear hd he X Y
  by_cases h1 : s = s'
  · have e1 : (s == s') = true := by simpa using h1
    by_cases h2 : l = l'
    · have e2 : (l == l') = true := by simpa using h2
      have HR := Lib.hid (show sameP s l s' l' ds ds' = decide (ds = ds') by simp [sameP, h1, h2])
      clear h1 h2
      generalize decide (ds = ds') = r at *
      go_wp2_with fail
      refine EV.out.mono ?_
      rintro e w2 ⟨rfl, b2⟩
      have B2 := Lib.hid (BA.out.trans (b2.mono (by omega)))
      clear b2
      go_wp2
      go_ret
      exact ⟨by rw [HR.out]; rfl, B2.out⟩
    · have e2 : (l == l') = false := by simpa using h2
      have HR := Lib.hid (show sameP s l s' l' ds ds' = false by simp [sameP, h2])
      clear h1 h2
      go_wp2
      go_ret
      exact ⟨by rw [HR.out]; rfl, BA.out⟩
  · have e1 : (s == s') = false := by simpa using h1
    have HR := Lib.hid (show sameP s l s' l' ds ds' = false by simp [sameP, h1])
    clear h1
    go_wp2
    go_ret
    exact ⟨by rw [HR.out]; rfl, BA.out⟩

end Go.Proofs.YtndekohimfjdeaaDoor
