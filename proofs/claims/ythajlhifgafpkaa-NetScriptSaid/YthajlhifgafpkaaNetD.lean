/-
  Nets: slices.Delete, slices.DeleteFunc over packets.
-/
import Derived.Test.YthajlhifgafpkaaNetC
namespace Go.Proofs.Ythajlhifgafpkaa
open Go.RowKit Go.Shelf
theorem cells_one (vs : List PkV) : ∀ u ∈ vs.flatMap PkV.cells, u.oneCell' = true := by
  intro u hu
  obtain ⟨v, _, hv⟩ := List.mem_flatMap.1 hu
  simp only [PkV.cells, List.mem_cons, List.not_mem_nil, or_false] at hv
  rcases hv with rfl | rfl | rfl | rfl | rfl <;> rfl
theorem zero_pk (w : World) : (zeroValue 34).run Try.prog w = .ok (.agg #[.int .u64 0, .int .i64 0, .int .i64 0, .int .u64 0, .slice none 0 0]) w := Try.zeroValue34 w
theorem info_pk : (Try.prog.info? 34).map (fun i => (i.zero, i.size, i.bytes)) = some (some (.agg #[.int .u64 0, .int .i64 0, .int .i64 0, .int .u64 0, .slice none 0 0]), 5, 56) := by kernel_rfl
set_option maxRecDepth 100000 in
set_option maxHeartbeats 4000000 in
theorem delete_v (base g n c : Nat) (vs : List PkV) (k : Nat) (w : World) (h : PkRow w base (some ⟨g, 0, none⟩) n c vs) (hk : k < n) (hn : n ≤ 1000000) :
    Calls Try.prog 40 #[.slice (some ⟨g, 0, none⟩) n c, .int .i64 (k : Int), .int .i64 ((k : Int) + 1)] w fun e w' => e = .returned (.slice (some ⟨g, 0, none⟩) (n - 1) c) ∧
      w'.ownsRow base 34 5 (.slice (some ⟨g, 0, none⟩) (n - 1) c) (n - 1) ((vs.eraseIdx k).flatMap PkV.cells) ∧ w.grownBy w' (some g) := by
  have H := Lib.hid h
  have hnc := h.hc
  clear h
  have k0 : (0 : Int) ≤ (k : Int) := by omega
  have k1 : k + 1 ≤ n := hk
  have e1 : ((k : Int) == (k : Int) + 1) = false := by rw [beq_eq_false_iff_ne]; omega
  have t1 : ((k : Int) + 1).toNat = k + 1 := by omega
  have q0 : (0 : Int) ≤ (k : Int) + 1 := by omega
  have q1 : (k : Int) ≤ (k : Int) + 1 := by omega
  have q2 : (k : Int) + 1 ≤ (n : Int) := by omega
  have q3 : (k : Int) ≤ (c : Int) := by omega
  have q4 : k ≤ n := by omega
  have q5 : k ≤ c := by omega
  have q6 : k ≤ k + 1 := by omega
  go_enter Try.func40, Try.ntmps40
  go_wp2
  refine wp_region_tree (SK.one 0 false <| .one 1 false <| .one 2 false <| .one 3 false <| .one 4 false <| .one 5 false <| .one 6 true <| .one 7 false .done) (fun V => Below 0 V V ∧ Below 0 V V) (by kernel_rfl) (by kernel_rfl) (by kernel_rfl) (by kernel_rfl) ?_
  have hS : Below 0 w.drew w.drew ∧ Below 0 w.drew w.drew := ⟨Below.refl _ _, Below.refl _ _⟩
  have H1 := Lib.hid H.out.drew
  have G1 := Lib.hid (show w.grownBy w.drew (some g) from ⟨rfl, rfl, rfl, Nat.le_refl _, fun _ _ _ => rfl⟩)
  clear H
  generalize w.drew = V0 at *
  ((first | (refine TR.val2 (v := ?_) _ (by simp only [List.getElem?_toArray, List.getElem?_cons_zero]; rfl) ?_ ?_ ?_ ?_ ?_; rotate_left; (focus rfl); (focus (intro W hSW; (try dsimp only at hSW); (try (obtain ⟨hS1, hSW⟩ := hSW)); (try (obtain ⟨hS2, hSW⟩ := hSW)); (try (obtain ⟨hS3, hSW⟩ := hSW)); (try (obtain ⟨hS4, hSW⟩ := hSW)); (try (obtain ⟨hS5, hSW⟩ := hSW)); (try (obtain ⟨hS6, hSW⟩ := hSW)); (try (obtain ⟨hS7, hSW⟩ := hSW)); (try (obtain ⟨hS8, hSW⟩ := hSW)); go_simp; (try with_reducible rfl); done)); (focus exact fun _ _ _ h => h); (focus assumption)) | (refine TR.skip _ (by simp only [List.getElem?_toArray, List.getElem?_cons_zero]; rfl) ?_ ?_ ?_ ?_; (focus rfl); (focus exact fun _ _ _ h => h); (focus assumption))); simp only [Act.put, List.setIfInBounds_toArray, List.set_cons_zero, List.set_cons_succ])
  iterate 5 ((first | (refine TR.val2 (v := ?_) _ (by simp only [List.getElem?_toArray, List.getElem?_cons_succ, List.getElem?_cons_zero]; rfl) ?_ ?_ ?_ ?_ ?_; rotate_left; (focus rfl); (focus (intro W hSW; (try dsimp only at hSW); (try (obtain ⟨hS1, hSW⟩ := hSW)); (try (obtain ⟨hS2, hSW⟩ := hSW)); (try (obtain ⟨hS3, hSW⟩ := hSW)); (try (obtain ⟨hS4, hSW⟩ := hSW)); (try (obtain ⟨hS5, hSW⟩ := hSW)); (try (obtain ⟨hS6, hSW⟩ := hSW)); (try (obtain ⟨hS7, hSW⟩ := hSW)); (try (obtain ⟨hS8, hSW⟩ := hSW)); go_simp; (try with_reducible rfl); done)); (focus exact fun _ _ _ h => h); (focus assumption)) | (refine TR.skip _ (by simp only [List.getElem?_toArray, List.getElem?_cons_succ, List.getElem?_cons_zero]; rfl) ?_ ?_ ?_ ?_; (focus rfl); (focus exact fun _ _ _ h => h); (focus assumption))); simp only [Act.put, List.setIfInBounds_toArray, List.set_cons_zero, List.set_cons_succ])
  obtain ⟨ad, had, hcell⟩ : ∃ ad, (if c = k + 1 then some (⟨g, 0, none⟩ : Addr) else some ⟨g, (k + 1) * 5, none⟩) = some ad ∧ ∀ j u, ((vs.drop (k + 1)).flatMap PkV.cells)[j]? = some u → V0.cell? (ad.add j) = some u := by
    by_cases hck : c = k + 1
    · refine ⟨_, by rw [if_pos hck], fun j u hu => ?_⟩
      have : vs.drop (k + 1) = [] := List.drop_of_length_le (by rw [H1.out.len]; omega)
      rw [this] at hu
      simp at hu
    · refine ⟨_, by rw [if_neg hck], fun j u hu => ?_⟩
      rw [← flat_drop PkV.cells_len, List.getElem?_drop] at hu
      have := H1.out.row.cells (g := g) rfl _ u hu
      rw [add_lit2, Nat.zero_add] at this
      rw [add_lit2]
      exact this
  have HC := Lib.hid hcell
  obtain ⟨m, rfl⟩ : ∃ m, n = m + 1 := ⟨n - 1, by omega⟩
  have hN1 : k + (m + 1 - (k + 1)) = m := by omega
  have hD := own_head H1.out.row q4
  rw [flat_take PkV.cells_len] at hD
  have HD := Lib.hid hD
  have HE := Lib.hid (show (vs.take k).flatMap PkV.cells ++ (vs.drop (k + 1)).flatMap PkV.cells = (vs.eraseIdx k).flatMap PkV.cells by rw [← List.flatMap_append, List.eraseIdx_eq_take_drop_succ])
  have HL := Lib.hid H1.out.len
  clear hcell hD
  rw [had]
  obtain ⟨i0, hi, hz0, hz1, hz2⟩ := info_parts info_pk
  refine TR.eff _ (by simp only [List.getElem?_toArray, List.getElem?_cons_succ, List.getElem?_cons_zero]; rfl) (by rfl) (fun K hK => ?_)
  refine wp_append_fits (.tmp 22) (.tmp 25) 44 rfl base 34 i0 5 Try.underlying44 hi hz1 g k c _ rfl HD.out ad (m + 1 - (k + 1)) _ ((vs.drop (k + 1)).flatMap PkV.cells) rfl (by rw [flat_len PkV.cells_len, List.length_drop, HL.out]) HC.out (cells_one _) (by omega) ?_
  rw [hN1, HE.out]
  intro w1 hown1 hg1
  have O1 := Lib.hid hown1
  have G2 := Lib.hid (G1.out.trans hg1)
  refine hK.out _ _ ⟨Below.refl _ _, Below.refl _ _⟩ ?_
  clear hK hown1 hg1 G1 HD HC HL HE had i0 hi hz0 hz1 hz2
  (try simp only [Act.put, List.setIfInBounds_toArray, List.set_cons_zero, List.set_cons_succ])
  have hS : Below 0 w1 w1 ∧ Below 0 w1 w1 := ⟨Below.refl _ _, Below.refl _ _⟩
  refine TR.val2 (v := .slice (some ⟨g, 0, none⟩) m c) _ (by simp only [List.getElem?_toArray, List.getElem?_cons_succ, List.getElem?_cons_zero]; rfl) ?_ ?_ ?_ ?_ ?_
  (focus rfl)
  (focus (intro W _; go_simp))
  (focus exact fun _ _ _ h => h)
  (focus exact hS)
  simp only [Act.put, List.setIfInBounds_toArray, List.set_cons_zero]
  refine TR.done ?_
  have r1 : (m : Int) ≤ ((m + 1 : Nat) : Int) := by omega
  have r2 : m + 1 ≤ c := hnc
  have r3 : m ≤ m + 1 := by omega
  go_wp2_with (first
    | ((
        refine wpList_clear_own rfl (.tmp 31) 44 rfl base c g m 1 5 34 (.agg #[.int .u64 0, .int .i64 0, .int .i64 0, .int .u64 0, .slice none 0 0]) _ _ _ rfl (fun _ => rfl) Try.underlying44 zero_pk rfl (by omega) (by decide) O1.out (by omega) ?_
        intro w2 hown2 hg2 _))
    | fail)
  go_ret
  have G3 := G2.out.trans hg2
  exact ⟨rfl, hown2, G3⟩
theorem own_keep {w w' : World} {base K n : Nat} {e : TypeId} {v : Value} {xs : List Value} (h : w.ownsRow base e K v n xs) (hk : ∀ j, v.ownBlock = some j → w'.heap[j]? = w.heap[j]?) : w'.ownsRow base e K v n xs := by
  refine ⟨h.1, ?_⟩
  rcases h.2 with hn | ⟨g, cap, cur, ev, hg, hh, rest⟩
  · exact .inl hn
  · exact .inr ⟨g, cap, cur, ev, hg, (hk g (by rw [ev]; rfl)).trans hh, rest⟩
theorem PkV.all1 (v : PkV) : v.cells.toArray.all (·.oneCell') = true := by simp [PkV.cells, Value.oneCell']
theorem filter_take_succ {α : Type} {l : List α} {k : Nat} {x : α} {p : α → Bool} (h : l[k]? = some x) : (l.take (k + 1)).filter p = (l.take k).filter p ++ if p x then [x] else [] := by
  obtain ⟨hl, he⟩ := List.getElem?_eq_some_iff.1 h
  rw [List.take_succ_eq_append_getElem hl, he, List.filter_append]
  cases hp : p x <;> simp [hp]
theorem mid_set5 {kept rest : List PkV} {v x : PkV} : ((kept ++ x :: rest).flatMap PkV.cells).take (kept.length * 5) ++ v.cells ++ ((kept ++ x :: rest).flatMap PkV.cells).drop (kept.length * 5 + 5) = ((kept ++ [v]) ++ rest).flatMap PkV.cells := by
  have h1 : kept.length * 5 + 5 = (kept.length + 1) * 5 := by omega
  rw [h1, flat_take PkV.cells_len, flat_drop PkV.cells_len]
  simp
theorem len_keep {vs : List PkV} {q : PkV → Bool} (j : Nat) : ((vs.take j).filter q).length ≤ j := Nat.le_trans (List.length_filter_le _ _) (by rw [List.length_take]; omega)
set_option maxRecDepth 100000 in
set_option maxHeartbeats 4000000 in
theorem deleteF_v (F : FuncId) (caps : List Value) (p : Pk → Bool) (base : Nat) (A : Option Addr) (n c : Nat) (vs : List PkV) (w : World) (h : PkRow w base A n c vs) (hn : n ≤ 1000000) (hen : ∀ args W, (callFunc F args).run Try.prog W = .ok (.enter F args) W)
    (hF : ∀ v ∈ vs, ∀ V, w.grownBy V (Value.slice A n c).ownBlock → Calls Try.prog F (.agg v.cells.toArray :: caps).toArray V fun e V' => e = .returned (.bool (p v.pk)) ∧ Below V.heap.size V V') :
    Calls Try.prog 44 #[.slice A n c, .func (.func F) #[] caps.toArray] w fun e w' => ∃ m, e = .returned (.slice A m c) ∧ m ≤ n ∧
      w'.ownsRow base 34 5 (.slice A m c) m ((vs.filter fun v => !p v.pk).flatMap PkV.cells) ∧ w.grownBy w' (Value.slice A n c).ownBlock := by
  have H := Lib.hid h
  have HF := Lib.hid hF
  have HL := Lib.hid h.len
  have hnc := h.hc
  have HX := Lib.hid (index_v F caps p base A n c vs w h hn hen (fun v hv V hV => hF v hv V ⟨hV.os, hV.tape, hV.output, hV.size, fun j hj _ => hV.block j hj⟩))
  clear h hF
  have HI := Lib.hid (show (Try.prog.info? 34).map (·.size) = some 5 by kernel_rfl)
  go_enter Try.func44, Try.ntmps44
  go_wp2_with fail
  refine HX.out.mono ?_
  rintro e w1 ⟨rfl, hb1⟩
  have G1 := Lib.hid (show w.grownBy w1 (Value.slice A n c).ownBlock from ⟨hb1.os, hb1.tape, hb1.output, hb1.size, fun j hj _ => hb1.block j hj⟩)
  have H1 := Lib.hid (H.out.below hb1)
  clear hb1 HX
  cases hi : (vs.map (·.pk)).findIdx? p with
  | none =>
    have HID := Lib.hid (show idxI p (vs.map (·.pk)) = -1 by rw [idxI, hi])
    have HFL := Lib.hid (show (vs.filter fun v => !p v.pk) = vs by
      rw [List.filter_eq_self]
      intro v hv
      have := List.findIdx?_eq_none_iff.1 hi v.pk (List.mem_map_of_mem hv)
      simp [this])
    clear hi
    rw [HID.out]
    go_wp2
    go_ret
    exact ⟨n, rfl, Nat.le_refl _, by rw [HFL.out]; exact H1.out.row, G1.out⟩
  | some i0 =>
    have HID := Lib.hid (show idxI p (vs.map (·.pk)) = (i0 : Int) by rw [idxI, hi])
    obtain ⟨hl0, hp0, hne⟩ := List.findIdx?_eq_some_iff_getElem.1 hi
    rw [List.length_map, HL.out] at hl0
    have hin : i0 < n := hl0
    have HK0 := Lib.hid (show (vs.take (i0 + 1)).filter (fun v => !p v.pk) = vs.take i0 by
      have hl : i0 < vs.length := by rw [HL.out]; exact hin
      rw [filter_take_succ (List.getElem?_eq_getElem hl)]
      rw [List.getElem_map] at hp0
      rw [hp0]
      simp only [Bool.not_true, Bool.false_eq_true, if_false, List.append_nil]
      rw [List.filter_eq_self]
      intro v hv
      obtain ⟨j, hj, rfl⟩ := List.getElem_of_mem hv
      rw [List.length_take] at hj
      have := hne j (by omega)
      rw [List.getElem_map] at this
      rw [List.getElem_take]
      simpa using this)
    clear hi hl0 hp0 hne
    rw [HID.out]
    obtain ⟨g, _, rfl, hbg, hgl, _, _⟩ := H1.out.at_ hin
    have e0 : ((i0 : Int) == -1) = false := by rw [beq_eq_false_iff_ne]; omega
    have I0 := Lib.hid (show w1.ownsRow base 34 5 (.slice (some ⟨g, 0, none⟩) n c) n ((((vs.take (i0 + 1)).filter fun v => !p v.pk) ++ vs.drop i0).flatMap PkV.cells) by
      rw [HK0.out, List.take_append_drop]; exact H1.out.row)
    have L0 := Lib.hid (show ((vs.take (i0 + 1)).filter fun v => !p v.pk).length = i0 by rw [HK0.out, List.length_take, HL.out]; omega)
    clear HK0 H1 hbg hgl
    go_wp2
    go_loopw [5, 6] (fun i j wr => ∃ (m k : Nat), k ≤ n ∧ m < k ∧ i = .int .i64 (m : Int) ∧ j = .int .i64 (k : Int) ∧ ((vs.take k).filter fun v => !p v.pk).length = m ∧
      wr.ownsRow base 34 5 (.slice (some ⟨g, 0, none⟩) n c) n ((((vs.take k).filter fun v => !p v.pk) ++ vs.drop m).flatMap PkV.cells) ∧ w.grownBy wr (some g)) (fun _ j _ => n - (intOf j).toNat)
    case atStart => exact ⟨i0, i0 + 1, hin, Nat.lt_succ_self _, rfl, rfl, L0.out, I0.out, G1.out⟩
    case round =>
      clear I0 L0 G1
      obtain ⟨m, k, hk, hmk, rfl, rfl, hm, hown, hG⟩ := hrel
      have O := Lib.hid hown
      have G := Lib.hid hG
      have HM := Lib.hid hm
      clear hown hG hm
      by_cases hlt : k < n
      · have d1 : decide (k < n) = true := by simpa using hlt
        have hkl : k < vs.length := by rw [HL.out]; exact hlt
        obtain ⟨v, hv⟩ : ∃ v, vs[k]? = some v := ⟨_, List.getElem?_eq_getElem hkl⟩
        have HV := Lib.hid hv
        have HKEEP : Hid ((((vs.take k).filter fun v => !p v.pk) ++ vs.drop m)[k]? = some v) := Lib.hid (by
          rw [List.getElem?_append_right (by rw [HM.out]; omega), HM.out, List.getElem?_drop, show m + (k - m) = k by omega]; exact hv)
        have HC : Hid (∀ j u, v.cells[j]? = some u → wr.cell? ((⟨g, k * 5, none⟩ : Addr).add j) = some u) := Lib.hid fun j u hu => by
          have hj : j < 5 := (List.getElem?_eq_some_iff.1 hu).1
          have h1 := O.out.cells (g := g) rfl (k * 5 + j) u (by rw [flat_at PkV.cells_len _ HKEEP.out hj]; exact hu)
          rw [add_lit2, Nat.zero_add] at h1
          rw [add_lit2]
          exact h1
        have Z0 := Lib.hid (heap_alloc_new wr (.cells #[.int .u64 0, .int .i64 0, .int .i64 0, .int .u64 0, .slice none 0 0] 34))
        have Z1 := Lib.hid (setRow_heap _ wr.heap.size _ v.cells.toArray _ _ Z0.out)
        have BZ := Lib.hid (below_setRow ((Below.refl wr.heap.size wr).alloc (Nat.le_refl _) (.cells #[.int .u64 0, .int .i64 0, .int .i64 0, .int .u64 0, .slice none 0 0] 34)) (Nat.le_refl _) v.cells.toArray)
        have HGL := Lib.hid (show g < wr.heap.size by obtain ⟨g', cap, hv, _, hlt⟩ := O.out.form (by omega); injection hv with hv; injection hv with hv; injection hv with hv; omega)
        clear hv hkl HKEEP
        have k0 : (0 : Int) ≤ (k : Int) := by omega
        go_wp2_with (first
          | (refine wpList_load_slot rfl 34 (.tmp 24) rfl ⟨g, k * 5, none⟩ rfl v.cells _ HC.out Try.underlying34 rfl HI.out ?_)
          | (refine wpList_store_row rfl 34 (.tmp 7) (.tmp 25) rfl wr.heap.size v.cells.toArray rfl rfl 34 _ Z0.out HI.out rfl (PkV.all1 v) ?_)
          | (refine wpList_load_row rfl 34 (.tmp 7) rfl wr.heap.size rfl 34 v.cells.toArray (0, 0) _ Z1.out Try.underlying34 rfl HI.out ?_)
          | fail)
        have GZ := Lib.hid (G.out.trans (show wr.grownBy ((wr.alloc (.cells #[.int .u64 0, .int .i64 0, .int .i64 0, .int .u64 0, .slice none 0 0] 34)).setRow wr.heap.size v.cells.toArray) (some g) from ⟨BZ.out.os, BZ.out.tape, BZ.out.output, BZ.out.size, fun j hj _ => BZ.out.block j hj⟩))
        have OZ := Lib.hid (own_keep O.out (fun j hj => BZ.out.block j (by simp [Value.ownBlock] at hj; subst hj; exact HGL.out)))
        have hzl : wr.heap.size < ((wr.alloc (.cells #[.int .u64 0, .int .i64 0, .int .i64 0, .int .u64 0, .slice none 0 0] 34)).setRow wr.heap.size v.cells.toArray).heap.size := by simp
        clear Z0 BZ O G HC
        have HGL2 := Lib.hid (Nat.lt_trans HGL.out hzl)
        generalize (wr.alloc (.cells #[.int .u64 0, .int .i64 0, .int .i64 0, .int .u64 0, .slice none 0 0] 34)).setRow wr.heap.size v.cells.toArray = wz at *
        refine (HF.out v (List.mem_of_getElem? HV.out) wz GZ.out).mono ?_
        rintro e w2 ⟨rfl, hb2⟩
        have Z2 := Lib.hid ((hb2.block _ hzl).trans Z1.out)
        have G2 := Lib.hid (GZ.out.trans (show wz.grownBy w2 (some g) from ⟨hb2.os, hb2.tape, hb2.output, hb2.size, fun j hj _ => hb2.block j hj⟩))
        have O2 := Lib.hid (own_keep OZ.out (fun j hj => hb2.block j (by simp [Value.ownBlock] at hj; subst hj; exact HGL2.out)))
        clear hb2 GZ OZ Z1
        cases hp : p v.pk
        · have HT := Lib.hid (show (vs.take (k + 1)).filter (fun v => !p v.pk) = (vs.take k).filter (fun v => !p v.pk) ++ [v] by rw [filter_take_succ HV.out, hp]; rfl)
          clear hp
          have hml : m < vs.length := by rw [HL.out]; omega
          have HDR := Lib.hid (show vs.drop m = vs[m] :: vs.drop (m + 1) from List.drop_eq_getElem_cons hml)
          have HSG := Lib.hid (show ((((vs.take k).filter fun v => !p v.pk) ++ vs.drop m).flatMap PkV.cells).take (m * 5) ++ v.cells ++ ((((vs.take k).filter fun v => !p v.pk) ++ vs.drop m).flatMap PkV.cells).drop (m * 5 + 5) = (((vs.take (k + 1)).filter fun v => !p v.pk) ++ vs.drop (m + 1)).flatMap PkV.cells by
            rw [HDR.out, HT.out]
            have := mid_set5 (kept := (vs.take k).filter fun v => !p v.pk) (rest := vs.drop (m + 1)) (v := v) (x := vs[m])
            rwa [HM.out] at this)
          have m0 : (0 : Int) ≤ (m : Int) := by omega
          have m1 : m < n := by omega
          clear hml HDR
          go_wp2_with (first
            | (refine wpList_load_row rfl 34 (.tmp 7) rfl wr.heap.size rfl 34 v.cells.toArray (0, 0) _ Z2.out Try.underlying34 rfl HI.out ?_)
            | (refine wpList_store_own rfl 34 (.tmp 33) (.tmp 32) rfl base n c g m 5 34 _ v.cells rfl rfl O2.out m1 rfl (fun u hu => cells_one [v] u (by simpa using hu)) HI.out ?_
               rw [HSG.out]
               intro w3 hown3 hg3 _)
            | fail)
          have G3 := Lib.hid (G2.out.trans hg3)
          go_roundw
          case rel => exact ⟨m + 1, k + 1, hlt, by omega, by go_num, by go_num, by rw [HT.out, List.length_append, HM.out]; rfl, hown3, G3.out⟩
          case measure => simp [intOf]; omega
        · have HT := Lib.hid (show (vs.take (k + 1)).filter (fun v => !p v.pk) = (vs.take k).filter (fun v => !p v.pk) by rw [filter_take_succ HV.out, hp]; simp)
          clear hp
          go_wp2
          go_roundw
          case rel => exact ⟨m, k + 1, hlt, by omega, rfl, by go_num, by rw [HT.out]; exact HM.out, by rw [HT.out]; exact O2.out, G2.out⟩
          case measure => simp [intOf]; omega
      · obtain rfl : k = n := by omega
        have d1 : decide (k < k) = false := by simp
        have HFT := Lib.hid (show vs.take k = vs by rw [List.take_of_length_le (by rw [HL.out]; exact Nat.le_refl _)])
        rw [HFT.out] at O HM
        have hD := own_head O.out (Nat.le_of_lt hmk)
        rw [flat_take PkV.cells_len, List.take_append_of_le_length (by rw [HM.out]; exact Nat.le_refl _), List.take_of_length_le (by rw [HM.out]; exact Nat.le_refl _)] at hD
        have HD := Lib.hid hD
        clear hD O
        have m0 : (0 : Int) ≤ (m : Int) := by omega
        have m1 : m ≤ k := by omega
        have m2 : m ≤ c := by omega
        have m3 : ¬ c = m := by omega
        go_wp2_with (first
          | ((
              refine wpList_clear_own rfl (.tmp 38) 44 rfl base c g m (k - m) 5 34 (.agg #[.int .u64 0, .int .i64 0, .int .i64 0, .int .u64 0, .slice none 0 0]) _ _ _ rfl (fun _ => by first | rfl | rw [if_neg m3]) Try.underlying44 zero_pk rfl (by omega) (by decide) HD.out (by omega) ?_
              intro w2 hown2 hg2 _))
          | fail)
        go_ret
        have G3 := G.out.trans hg2
        exact ⟨m, rfl, m1, hown2, G3⟩
end Go.Proofs.Ythajlhifgafpkaa
