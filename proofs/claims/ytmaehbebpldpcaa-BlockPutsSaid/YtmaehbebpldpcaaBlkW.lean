/-
  Blocks: sources compared.
-/
import Derived.Test.YtmaehbebpldpcaaBlkQ
namespace Go.Proofs.Ytmaehbebpldpcaa
open Go.RowKit Go.Shelf
/-- A row of sources. -/
def SReads (w : World) (B : Nat) (A : Option Addr) (n : Nat) (ps : List (Int × Int)) : Prop := Reads w B 2 A n (ps.flatMap srcC)
section
variable {w w' : World} {B n : Nat} {A : Option Addr} {ds : List (Int × Int)}
theorem SReads.len (h : SReads w B A n ds) : ds.length = n := by
  have h1 := h.1
  rw [flat_len srcC_len] at h1
  omega
theorem SReads.below (h : SReads w B A n ds) (hb : Below B w w') : SReads w' B A n ds := Reads.below h hb
theorem SReads.at_ {k : Nat} (h : SReads w B A n ds) (hk : k < n) :
    ∃ ad d, A = some ad ∧ ds[k]? = some d ∧ ∀ W, Below B w W → ∀ j u, (srcC d)[j]? = some u → W.cell? ((ad.add (k * 2)).add j) = some u := by
  have hl : k < ds.length := by rw [h.len]; exact hk
  obtain ⟨ad, e, hb, hc⟩ := h.2 (by omega)
  refine ⟨ad, ds[k], e, List.getElem?_eq_getElem hl, fun W hW j u hu => ?_⟩
  have hj : j < 2 := by
    have := (List.getElem?_eq_some_iff.1 hu).1
    rwa [srcC_len] at this
  rw [add_of_add]
  refine (hW.cell (p := ad.add (k * 2 + j)) (by rw [block_of_add]; exact hb)).trans (hc _ u ?_)
  rw [flat_at srcC_len ds (List.getElem?_eq_getElem hl) hj]
  exact hu
end
set_option maxRecDepth 100000 in
theorem neqs (d e : Int × Int) (w : World) : (binOp .neq 47 (.agg (srcC d).toArray) (.agg (srcC e).toArray)).run Try.prog w = .ok (.bool (!(decide (d = e)))) w := by
  obtain ⟨a, b⟩ := d
  obtain ⟨x, y⟩ := e
  unfold srcC
  go_simp
  by_cases h1 : a = x <;> by_cases h2 : b = y <;> simp [h1, h2]
set_option maxRecDepth 100000 in
set_option maxHeartbeats 4000000 in
theorem sources_v (A A' : Option Addr) (n c n' c' B : Nat) (ds ds' : List (Int × Int)) (w : World) (hd : SReads w B A n ds) (he : SReads w B A' n' ds') (hB : B ≤ w.heap.size) (hn : n ≤ 9007199254740992) :
    Calls Try.prog 31 #[.slice A n c, .slice A' n' c'] w fun e w' => e = .returned (.bool (decide (ds = ds'))) ∧ Below w.heap.size w w' := by
  have HD := Lib.hid hd
  have HE := Lib.hid he
  have hl := hd.len
  have hl' := he.len
  clear hd he
  go_enter Try.func31, Try.ntmps31
  by_cases hnn : n = n'
  case neg =>
    have d1 : ((n : Int) != (n' : Int)) = true := by rw [bne_iff_ne]; omega
    have HR := Lib.hid (show decide (ds = ds') = false by
      rw [decide_eq_false_iff_not]
      intro e
      subst e
      omega)
    clear hl hl'
    go_wp2
    go_ret
    exact ⟨by rw [HR.out]; rfl, Below.refl _ _⟩
  subst hnn
  clear hl hl'
  go_wp2
  go_loopw [5] (fun i wr => ∃ k : Nat, k ≤ n ∧ i = .int .i64 (k : Int) ∧ ds.take k = ds'.take k ∧ Below w.heap.size w wr) (fun i _ => n - (intOf i).toNat)
  case atStart => exact ⟨0, Nat.zero_le _, rfl, by simp, Below.refl _ _⟩
  case round =>
    obtain ⟨k, hk, rfl, ht, hb⟩ := hrel
    have HT := Lib.hid ht
    have HB := Lib.hid hb
    clear ht hb
    by_cases hlt : k < n
    · obtain ⟨ad, d, rfl, hd, hc⟩ := HD.out.at_ hlt
      obtain ⟨ad', d', rfl, hd', hc'⟩ := HE.out.at_ hlt
      have HC := Lib.hid (hc wr (HB.out.mono hB))
      have HC' := Lib.hid (hc' wr (HB.out.mono hB))
      have k0 : (0 : Int) ≤ (k : Int) := by omega
      have HX := Lib.hid hd
      have HX' := Lib.hid hd'
      have HI9 := Lib.hid (show (Try.prog.info? 47).map (·.size) = some 2 by kernel_rfl)
      have hne : ∀ V : World, (binOp .neq 47 (.agg (srcC d).toArray) (.agg (srcC d').toArray)).run Try.prog V = .ok (.bool (!decide (d = d'))) V := fun V => neqs d d' V
      clear hd hd' hc hc'
      by_cases hdd : d = d'
      · have HN := Lib.hid (take_eq_step HT.out HX.out HX'.out (hdd))
        have e1 : (!decide (d = d')) = false := by simp [hdd]
        rw [e1] at hne
        clear e1 hdd
        go_upto_region 6 with fail
        refine wp_region_tree (SK.one 0 false <| .one 1 false <| .one 2 false <| .one 3 false <| .one 4 false <| .one 5 false <| .one 6 false <| .one 7 false <| .one 8 false .done) (fun V => (∀ j u, (srcC d)[j]? = some u → V.cell? ((ad.add (k * 2)).add j) = some u) ∧ (∀ j u, (srcC d')[j]? = some u → V.cell? ((ad'.add (k * 2)).add j) = some u)) (by kernel_rfl) (by kernel_rfl) (by kernel_rfl) (by kernel_rfl) ?_
        have hS : (∀ j u, (srcC d)[j]? = some u → wr.drew.cell? ((ad.add (k * 2)).add j) = some u) ∧ (∀ j u, (srcC d')[j]? = some u → wr.drew.cell? ((ad'.add (k * 2)).add j) = some u) := ⟨HC.out, HC'.out⟩
        ((first | (refine TR.val2 (v := ?_) _ (by simp only [List.getElem?_toArray, List.getElem?_cons_zero]; rfl) ?_ ?_ ?_ ?_ ?_; rotate_left; (focus rfl); (focus (intro W hSW; (try dsimp only at hSW); (try (obtain ⟨hS1, hSW⟩ := hSW)); (try (obtain ⟨hS2, hSW⟩ := hSW)); (try (obtain ⟨hS3, hSW⟩ := hSW)); (try (obtain ⟨hS4, hSW⟩ := hSW)); (try (obtain ⟨hS5, hSW⟩ := hSW)); go_simp; (try with_reducible rfl); done)); (focus exact fun _ _ _ h => h); (focus assumption)) | (refine TR.skip _ (by simp only [List.getElem?_toArray, List.getElem?_cons_zero]; rfl) ?_ ?_ ?_ ?_; (focus rfl); (focus exact fun _ _ _ h => h); (focus assumption))); simp only [Act.put, List.setIfInBounds_toArray, List.set_cons_zero, List.set_cons_succ])
        iterate 2 ((first | (refine TR.val2 (v := ?_) _ (by simp only [List.getElem?_toArray, List.getElem?_cons_succ, List.getElem?_cons_zero]; rfl) ?_ ?_ ?_ ?_ ?_; rotate_left; (focus rfl); (focus (intro W hSW; (try dsimp only at hSW); (try (obtain ⟨hS1, hSW⟩ := hSW)); (try (obtain ⟨hS2, hSW⟩ := hSW)); (try (obtain ⟨hS3, hSW⟩ := hSW)); (try (obtain ⟨hS4, hSW⟩ := hSW)); (try (obtain ⟨hS5, hSW⟩ := hSW)); go_simp; (try with_reducible rfl); done)); (focus exact fun _ _ _ h => h); (focus assumption)) | (refine TR.skip _ (by simp only [List.getElem?_toArray, List.getElem?_cons_succ, List.getElem?_cons_zero]; rfl) ?_ ?_ ?_ ?_; (focus rfl); (focus exact fun _ _ _ h => h); (focus assumption))); simp only [Act.put, List.setIfInBounds_toArray, List.set_cons_zero, List.set_cons_succ])
        refine TR.val2 (v := .agg (srcC d).toArray) _ (by simp only [List.getElem?_toArray, List.getElem?_cons_succ, List.getElem?_cons_zero]; rfl) ?_ ?_ ?_ ?_ ?_
        (focus rfl)
        (focus exact fun V hV => exec_load_slot 47 (.tmp 19) rfl (ad.add (k * 2)) rfl (srcC d) _ hV.1 Try.underlying47 rfl (HI9.out.trans (by rw [srcC_len])))
        (focus exact fun _ _ _ h => h)
        (focus exact hS)
        simp only [Act.put, List.setIfInBounds_toArray, List.set_cons_zero, List.set_cons_succ]
        iterate 3 ((first | (refine TR.val2 (v := ?_) _ (by simp only [List.getElem?_toArray, List.getElem?_cons_succ, List.getElem?_cons_zero]; rfl) ?_ ?_ ?_ ?_ ?_; rotate_left; (focus rfl); (focus (intro W hSW; (try dsimp only at hSW); (try (obtain ⟨hS1, hSW⟩ := hSW)); (try (obtain ⟨hS2, hSW⟩ := hSW)); (try (obtain ⟨hS3, hSW⟩ := hSW)); (try (obtain ⟨hS4, hSW⟩ := hSW)); (try (obtain ⟨hS5, hSW⟩ := hSW)); go_simp; (try with_reducible rfl); done)); (focus exact fun _ _ _ h => h); (focus assumption)) | (refine TR.skip _ (by simp only [List.getElem?_toArray, List.getElem?_cons_succ, List.getElem?_cons_zero]; rfl) ?_ ?_ ?_ ?_; (focus rfl); (focus exact fun _ _ _ h => h); (focus assumption))); simp only [Act.put, List.setIfInBounds_toArray, List.set_cons_zero, List.set_cons_succ])
        refine TR.val2 (v := .agg (srcC d').toArray) _ (by simp only [List.getElem?_toArray, List.getElem?_cons_succ, List.getElem?_cons_zero]; rfl) ?_ ?_ ?_ ?_ ?_
        (focus rfl)
        (focus exact fun V hV => exec_load_slot 47 (.tmp 23) rfl (ad'.add (k * 2)) rfl (srcC d') _ hV.2 Try.underlying47 rfl (HI9.out.trans (by rw [srcC_len])))
        (focus exact fun _ _ _ h => h)
        (focus exact hS)
        simp only [Act.put, List.setIfInBounds_toArray, List.set_cons_zero, List.set_cons_succ]
        iterate 1 ((first | (refine TR.val2 (v := ?_) _ (by simp only [List.getElem?_toArray, List.getElem?_cons_succ, List.getElem?_cons_zero]; rfl) ?_ ?_ ?_ ?_ ?_; rotate_left; (focus rfl); (focus (intro W hSW; (try dsimp only at hSW); (try (obtain ⟨hS1, hSW⟩ := hSW)); (try (obtain ⟨hS2, hSW⟩ := hSW)); (try (obtain ⟨hS3, hSW⟩ := hSW)); (try (obtain ⟨hS4, hSW⟩ := hSW)); (try (obtain ⟨hS5, hSW⟩ := hSW)); go_simp; (try with_reducible rfl); done)); (focus exact fun _ _ _ h => h); (focus assumption)) | (refine TR.skip _ (by simp only [List.getElem?_toArray, List.getElem?_cons_succ, List.getElem?_cons_zero]; rfl) ?_ ?_ ?_ ?_; (focus rfl); (focus exact fun _ _ _ h => h); (focus assumption))); simp only [Act.put, List.setIfInBounds_toArray, List.set_cons_zero, List.set_cons_succ])
        refine TR.done ?_
        clear hS
        go_wp2
        go_roundw
        case rel => exact ⟨k + 1, hlt, by go_num, HN.out, HB.out.drew⟩
        case measure => simp [intOf]; omega
      · have HN := Lib.hid (ne_at HX.out HX'.out hdd)
        have e1 : (!decide (d = d')) = true := by simp [hdd]
        rw [e1] at hne
        clear e1 hdd
        go_upto_region 6 with fail
        refine wp_region_tree (SK.one 0 false <| .one 1 false <| .one 2 false <| .one 3 false <| .one 4 false <| .one 5 false <| .one 6 false <| .one 7 false <| .one 8 false .done) (fun V => (∀ j u, (srcC d)[j]? = some u → V.cell? ((ad.add (k * 2)).add j) = some u) ∧ (∀ j u, (srcC d')[j]? = some u → V.cell? ((ad'.add (k * 2)).add j) = some u)) (by kernel_rfl) (by kernel_rfl) (by kernel_rfl) (by kernel_rfl) ?_
        have hS : (∀ j u, (srcC d)[j]? = some u → wr.drew.cell? ((ad.add (k * 2)).add j) = some u) ∧ (∀ j u, (srcC d')[j]? = some u → wr.drew.cell? ((ad'.add (k * 2)).add j) = some u) := ⟨HC.out, HC'.out⟩
        ((first | (refine TR.val2 (v := ?_) _ (by simp only [List.getElem?_toArray, List.getElem?_cons_zero]; rfl) ?_ ?_ ?_ ?_ ?_; rotate_left; (focus rfl); (focus (intro W hSW; (try dsimp only at hSW); (try (obtain ⟨hS1, hSW⟩ := hSW)); (try (obtain ⟨hS2, hSW⟩ := hSW)); (try (obtain ⟨hS3, hSW⟩ := hSW)); (try (obtain ⟨hS4, hSW⟩ := hSW)); (try (obtain ⟨hS5, hSW⟩ := hSW)); go_simp; (try with_reducible rfl); done)); (focus exact fun _ _ _ h => h); (focus assumption)) | (refine TR.skip _ (by simp only [List.getElem?_toArray, List.getElem?_cons_zero]; rfl) ?_ ?_ ?_ ?_; (focus rfl); (focus exact fun _ _ _ h => h); (focus assumption))); simp only [Act.put, List.setIfInBounds_toArray, List.set_cons_zero, List.set_cons_succ])
        iterate 2 ((first | (refine TR.val2 (v := ?_) _ (by simp only [List.getElem?_toArray, List.getElem?_cons_succ, List.getElem?_cons_zero]; rfl) ?_ ?_ ?_ ?_ ?_; rotate_left; (focus rfl); (focus (intro W hSW; (try dsimp only at hSW); (try (obtain ⟨hS1, hSW⟩ := hSW)); (try (obtain ⟨hS2, hSW⟩ := hSW)); (try (obtain ⟨hS3, hSW⟩ := hSW)); (try (obtain ⟨hS4, hSW⟩ := hSW)); (try (obtain ⟨hS5, hSW⟩ := hSW)); go_simp; (try with_reducible rfl); done)); (focus exact fun _ _ _ h => h); (focus assumption)) | (refine TR.skip _ (by simp only [List.getElem?_toArray, List.getElem?_cons_succ, List.getElem?_cons_zero]; rfl) ?_ ?_ ?_ ?_; (focus rfl); (focus exact fun _ _ _ h => h); (focus assumption))); simp only [Act.put, List.setIfInBounds_toArray, List.set_cons_zero, List.set_cons_succ])
        refine TR.val2 (v := .agg (srcC d).toArray) _ (by simp only [List.getElem?_toArray, List.getElem?_cons_succ, List.getElem?_cons_zero]; rfl) ?_ ?_ ?_ ?_ ?_
        (focus rfl)
        (focus exact fun V hV => exec_load_slot 47 (.tmp 19) rfl (ad.add (k * 2)) rfl (srcC d) _ hV.1 Try.underlying47 rfl (HI9.out.trans (by rw [srcC_len])))
        (focus exact fun _ _ _ h => h)
        (focus exact hS)
        simp only [Act.put, List.setIfInBounds_toArray, List.set_cons_zero, List.set_cons_succ]
        iterate 3 ((first | (refine TR.val2 (v := ?_) _ (by simp only [List.getElem?_toArray, List.getElem?_cons_succ, List.getElem?_cons_zero]; rfl) ?_ ?_ ?_ ?_ ?_; rotate_left; (focus rfl); (focus (intro W hSW; (try dsimp only at hSW); (try (obtain ⟨hS1, hSW⟩ := hSW)); (try (obtain ⟨hS2, hSW⟩ := hSW)); (try (obtain ⟨hS3, hSW⟩ := hSW)); (try (obtain ⟨hS4, hSW⟩ := hSW)); (try (obtain ⟨hS5, hSW⟩ := hSW)); go_simp; (try with_reducible rfl); done)); (focus exact fun _ _ _ h => h); (focus assumption)) | (refine TR.skip _ (by simp only [List.getElem?_toArray, List.getElem?_cons_succ, List.getElem?_cons_zero]; rfl) ?_ ?_ ?_ ?_; (focus rfl); (focus exact fun _ _ _ h => h); (focus assumption))); simp only [Act.put, List.setIfInBounds_toArray, List.set_cons_zero, List.set_cons_succ])
        refine TR.val2 (v := .agg (srcC d').toArray) _ (by simp only [List.getElem?_toArray, List.getElem?_cons_succ, List.getElem?_cons_zero]; rfl) ?_ ?_ ?_ ?_ ?_
        (focus rfl)
        (focus exact fun V hV => exec_load_slot 47 (.tmp 23) rfl (ad'.add (k * 2)) rfl (srcC d') _ hV.2 Try.underlying47 rfl (HI9.out.trans (by rw [srcC_len])))
        (focus exact fun _ _ _ h => h)
        (focus exact hS)
        simp only [Act.put, List.setIfInBounds_toArray, List.set_cons_zero, List.set_cons_succ]
        iterate 1 ((first | (refine TR.val2 (v := ?_) _ (by simp only [List.getElem?_toArray, List.getElem?_cons_succ, List.getElem?_cons_zero]; rfl) ?_ ?_ ?_ ?_ ?_; rotate_left; (focus rfl); (focus (intro W hSW; (try dsimp only at hSW); (try (obtain ⟨hS1, hSW⟩ := hSW)); (try (obtain ⟨hS2, hSW⟩ := hSW)); (try (obtain ⟨hS3, hSW⟩ := hSW)); (try (obtain ⟨hS4, hSW⟩ := hSW)); (try (obtain ⟨hS5, hSW⟩ := hSW)); go_simp; (try with_reducible rfl); done)); (focus exact fun _ _ _ h => h); (focus assumption)) | (refine TR.skip _ (by simp only [List.getElem?_toArray, List.getElem?_cons_succ, List.getElem?_cons_zero]; rfl) ?_ ?_ ?_ ?_; (focus rfl); (focus exact fun _ _ _ h => h); (focus assumption))); simp only [Act.put, List.setIfInBounds_toArray, List.set_cons_zero, List.set_cons_succ])
        refine TR.done ?_
        clear hS
        go_wp2
        go_ret
        exact ⟨by rw [decide_eq_false HN.out]; rfl, HB.out.drew⟩
    · obtain rfl : k = n := by omega
      have HN := Lib.hid (show ds = ds' by
        have h1 := HT.out
        rwa [List.take_of_length_le (by rw [HD.out.len]; exact Nat.le_refl _), List.take_of_length_le (by rw [HE.out.len]; exact Nat.le_refl _)] at h1)
      go_wp2
      go_ret
      exact ⟨by rw [decide_eq_true HN.out]; rfl, HB.out⟩

end Go.Proofs.Ytmaehbebpldpcaa
