/-
  Matrices: the chapter's examples.
-/
import Derived.Test.YtikegnnlmfidfaaMatVa
namespace Go.Proofs.Ytikegnnlmfidfaa
open Go.RowKit
theorem reads_new {w : World} {K n : Nat} {e : TypeId} (xs : List Value) (h : xs.length = n * K) : Reads (w.alloc (.cells xs.toArray e)) (w.heap.size + 1) K (some ⟨w.heap.size, 0, none⟩) n xs := by
  refine ⟨h, fun _ => ⟨_, rfl, Nat.lt_succ_self _, fun j u hu => ?_⟩⟩
  have h1 := heap_alloc_new w (.cells xs.toArray e)
  rw [show (⟨w.heap.size, 0, none⟩ : Addr).add j = ⟨w.heap.size, j, none⟩ by simp [Addr.add]; omega, cell_of_row _ _ j _ _ _ h1]
  simpa using hu
/-- A matrix that reads as m. -/
def IsM (w : World) (m : PM) (v : Value) : Prop := ∃ A n c rs, v = .agg #[.int .i64 m.1, .slice A n c] ∧ RowsR w w.heap.size A n rs ∧ rs.map Rw.p = m.2 ∧ n ≤ 8
theorem made_ex (own : Int) (cs : List PC) (n : Nat) (m : PM) (hm : madeP own cs = m) (ho : m.1 = own) (hn : cs.length = n) (hn8 : n ≤ 8) (hf : ∀ x ∈ cs, x.2.1.size ≤ 9223372036854775807) (w : World) :
    Calls Try.prog 18 #[.int .i64 own, .slice (some ⟨w.heap.size, 0, none⟩) n n] (w.alloc (.cells (cs.flatMap chC).toArray 41)) fun e w' => ∃ A' n' c' rs', e = .returned (.agg #[.int .i64 own, .slice A' n' c']) ∧ RowsR w' w'.heap.size A' n' rs' ∧ rs'.map Rw.p = m.2 ∧ n' ≤ 8 ∧ Below w.heap.size w w' := by
  subst hm
  refine (made_v own (some ⟨w.heap.size, 0, none⟩) n n (w.heap.size + 1) cs _ (reads_new _ (by rw [flat_len chC_len, hn])) (by simp) (by omega) hf).mono ?_
  rintro e w' ⟨A', n', c', rs', h1, h2, h3, h4, h5⟩
  exact ⟨A', n', c', rs', by rw [h1, ho], h2, h3, h4, ((Below.refl w.heap.size w).alloc (Nat.le_refl _) _).trans (h5.mono (by simp))⟩
/-- The errno of a change of a matrix that reads as m. -/
theorem apply_e {m : PM} {own : Int} (ho : m.1 = own) {A : Option Addr} {n c B : Nat} {rs : List Rw} {w : World} (hr : RowsR w B A n rs) (hB : B ≤ w.heap.size) (hp : rs.map Rw.p = m.2) (hn : n ≤ 8) (x : PC) (hf : x.2.1.size ≤ 9223372036854775807) (k : Nat) (hk : (applyP m x).2 = k) :
    Calls Try.prog 21 #[.agg #[.int .i64 own, .slice A n c], .agg #[.int .i64 x.1, .string x.2.1, .int .i64 x.2.2]] w fun e w' => ∃ o1 A1 n1 c1, e = .returned (.tuple #[.agg #[.int .i64 o1, .slice A1 n1 c1], .int .i64 (k : Int)]) ∧ Below w.heap.size w w' := by
  subst ho
  have h := apply_v m.1 A n c B rs x.1 x.2.1 x.2.2 w hr hB (by omega) hf
  rw [hp, show (m.1, m.2) = m from rfl, show (x.1, x.2.1, x.2.2) = x from rfl, hk] at h
  refine h.mono ?_
  rintro e w' ⟨A1, n1, c1, rs1, h1, _, _, _, _, _, _, h2⟩
  exact ⟨_, A1, n1, c1, h1, h2⟩
set_option maxRecDepth 100000 in
set_option maxHeartbeats 16000000 in
theorem lives_v (w : World) : Calls Try.prog 9 #[] w fun e w' => e = .returned (.bool true) ∧ Below w.heap.size w w' := by
  have HIM := Lib.hid (show (Try.prog.info? 27).map (·.size) = some 2 by kernel_rfl)
  go_enter Try.func9, Try.ntmps9
  go_wp2_with fail
  refine (add_v w).mono ?_
  rintro e w1 ⟨rfl, b1⟩
  have B1 := Lib.hid b1
  clear b1
  go_wp2_with fail
  refine (share_v 2 w1).mono ?_
  rintro e w2 ⟨rfl, b2⟩
  have B2 := Lib.hid (B1.out.trans (b2.mono B1.out.size))
  clear b2 B1
  go_wp2_with fail
  refine (made_ex 1 [(1, fF, 0), (3, fF, 2)] 2 m1 ex1 rfl rfl (by omega) (by decide) w2).mono ?_
  rintro e w3 ⟨A3, n3, c3, rs3, rfl, r3, hp3, hn3, b3⟩
  have B3 := Lib.hid (B2.out.trans (b3.mono B2.out.size))
  have R3 := Lib.hid r3
  have HP3 := Lib.hid hp3
  clear b3 B2 r3 hp3
  go_upto_region 2 with fail
  have X4 := Lib.hid (heap_alloc_new w3 (.cells #[.int .i64 1, .slice A3 n3 c3] 27))
  have b4 := (Below.refl w3.heap.size w3).alloc (Nat.le_refl _) (.cells #[.int .i64 1, .slice A3 n3 c3] 27)
  have B4 := Lib.hid (B3.out.trans (b4.mono B3.out.size))
  have R4 := Lib.hid (RowsR.more (R3.out.below b4) b4.size)
  have hz4 : w3.heap.size < (w3.alloc (.cells #[.int .i64 1, .slice A3 n3 c3] 27)).heap.size := by simp
  clear b4 B3 R3
  generalize w3.alloc (.cells #[.int .i64 1, .slice A3 n3 c3] 27) = w4 at *
  generalize w3.heap.size = g at *
  have c0 : w4.cell? ⟨g, 0, none⟩ = some (.int .i64 1) := by rw [cell_of_row _ _ 0 _ _ _ X4.out]; rfl
  have c1 : w4.cell? ⟨g, 1, none⟩ = some (.slice A3 n3 c3) := by rw [cell_of_row _ _ 1 _ _ _ X4.out]; rfl
  go_cut [2, 3] from 11 (fun _ e wx => e = .int .i64 7 ∧ Below w4.heap.size w4 wx)
  case first =>
    refine wp_region_tree (SK.one 0 false <| .two 1 (.two 2 (.one 3 false <| .one 4 false <| .one 5 false <| .one 6 true <| .one 7 true <| .one 8 false .done) 6 (.one 2 true <| .one 3 false <| .one 4 false <| .one 5 false <| .one 7 true <| .one 8 false .done)) 6 (.one 1 true <| .one 2 true <| .one 3 false <| .one 4 false <| .one 5 false <| .one 7 true <| .one 8 false .done)) (fun V => V.cell? ⟨g, 0, none⟩ = some (.int .i64 1) ∧ V.cell? ⟨g, 1, none⟩ = some (.slice A3 n3 c3)) (by kernel_rfl) (by kernel_rfl) (by kernel_rfl) (by kernel_rfl) ?_
    have hS : w4.drew.cell? ⟨g, 0, none⟩ = some (.int .i64 1) ∧ w4.drew.cell? ⟨g, 1, none⟩ = some (.slice A3 n3 c3) := ⟨c0, c1⟩
    have T0 := Lib.hid (show Below w4.heap.size w4 w4.drew from (Below.refl _ _).drew)
    generalize w4.drew = v0 at *
    clear c0 c1
    ((first | (refine TR.val2 (v := ?_) _ (by simp only [List.getElem?_toArray, List.getElem?_cons_zero]; rfl) ?_ ?_ ?_ ?_ ?_; rotate_left; (focus rfl); (focus (intro W hSW; (try dsimp only at hSW); (try (obtain ⟨hS1, hSW⟩ := hSW)); (try (obtain ⟨hS2, hSW⟩ := hSW)); (try (obtain ⟨hS3, hSW⟩ := hSW)); (try (obtain ⟨hS4, hSW⟩ := hSW)); (try (obtain ⟨hS5, hSW⟩ := hSW)); (try (obtain ⟨hS6, hSW⟩ := hSW)); (try (obtain ⟨hS7, hSW⟩ := hSW)); (try (obtain ⟨hS8, hSW⟩ := hSW)); go_simp; (try with_reducible rfl); done)); (focus exact fun _ _ _ h => h); (focus assumption)) | (refine TR.skip _ (by simp only [List.getElem?_toArray, List.getElem?_cons_zero]; rfl) ?_ ?_ ?_ ?_; (focus rfl); (focus exact fun _ _ _ h => h); (focus assumption))); simp only [Act.put, List.setIfInBounds_toArray, List.set_cons_zero, List.set_cons_succ])
    refine TR.two _ _ (by simp only [List.getElem?_toArray, List.getElem?_cons_succ, List.getElem?_cons_zero]; rfl) (by simp only [List.getElem?_toArray, List.getElem?_cons_succ, List.getElem?_cons_zero]; rfl) (by rfl) (by rfl) (fun K hK => ?_) (fun K hK => ?_)
    · go_simp
      refine (share_v 2 v0).mono ?_
      rintro e w5 ⟨rfl, b⟩
      have T1 := Lib.hid (T0.out.trans (b.mono T0.out.size))
      have hS1 := (⟨keepc b hS.1, keepc b hS.2⟩ : w5.cell? ⟨g, 0, none⟩ = some (.int .i64 1) ∧ w5.cell? ⟨g, 1, none⟩ = some (.slice A3 n3 c3))
      clear b hS
      refine hK.out _ _ hS1 ?_
      clear hK
      (try simp only [Act.put, List.setIfInBounds_toArray, List.set_cons_zero, List.set_cons_succ])
      have hS := hS1
      clear hS1
      refine TR.two _ _ (by simp only [List.getElem?_toArray, List.getElem?_cons_succ, List.getElem?_cons_zero]; rfl) (by simp only [List.getElem?_toArray, List.getElem?_cons_succ, List.getElem?_cons_zero]; rfl) (by rfl) (by rfl) (fun K hK => ?_) (fun K hK => ?_)
      · go_simp
        refine (apply_e rfl (m := m1) (R4.out.below T1.out) T1.out.size HP3.out hn3 (3, fF, 2) (by decide) 7 ex5).mono ?_
        rintro e w6 ⟨o6, A6, n6, c6, rfl, b⟩
        have T2 := Lib.hid (T1.out.trans (b.mono T1.out.size))
        have hS1 := (⟨keepc b hS.1, keepc b hS.2⟩ : w6.cell? ⟨g, 0, none⟩ = some (.int .i64 1) ∧ w6.cell? ⟨g, 1, none⟩ = some (.slice A3 n3 c3))
        clear b hS
        refine hK.out _ _ hS1 ?_
        clear hK
        (try simp only [Act.put, List.setIfInBounds_toArray, List.set_cons_zero, List.set_cons_succ])
        have hS := hS1
        clear hS1
        iterate 3 ((first | (refine TR.val2 (v := ?_) _ (by simp only [List.getElem?_toArray, List.getElem?_cons_succ, List.getElem?_cons_zero]; rfl) ?_ ?_ ?_ ?_ ?_; rotate_left; (focus rfl); (focus (intro W hSW; (try dsimp only at hSW); (try (obtain ⟨hS1, hSW⟩ := hSW)); (try (obtain ⟨hS2, hSW⟩ := hSW)); (try (obtain ⟨hS3, hSW⟩ := hSW)); (try (obtain ⟨hS4, hSW⟩ := hSW)); (try (obtain ⟨hS5, hSW⟩ := hSW)); (try (obtain ⟨hS6, hSW⟩ := hSW)); (try (obtain ⟨hS7, hSW⟩ := hSW)); (try (obtain ⟨hS8, hSW⟩ := hSW)); go_simp; (try with_reducible rfl); done)); (focus exact fun _ _ _ h => h); (focus assumption)) | (refine TR.skip _ (by simp only [List.getElem?_toArray, List.getElem?_cons_succ, List.getElem?_cons_zero]; rfl) ?_ ?_ ?_ ?_; (focus rfl); (focus exact fun _ _ _ h => h); (focus assumption))); simp only [Act.put, List.setIfInBounds_toArray, List.set_cons_zero, List.set_cons_succ])
        refine TR.eff _ (by simp only [List.getElem?_toArray, List.getElem?_cons_succ, List.getElem?_cons_zero]; rfl) (by rfl) (fun K hK => ?_); go_simp
        have b := (Below.refl w6.heap.size w6).alloc (Nat.le_refl _) (.cells #[.int .i64 0, .slice none 0 0] 27)
        have h0 := Lib.hid (heap_alloc_new w6 (.cells #[.int .i64 0, .slice none 0 0] 27))
        have T3 := Lib.hid (T2.out.trans (b.mono T2.out.size))
        have hS1 := (⟨keepc b hS.1, keepc b hS.2⟩ : (w6.alloc (.cells #[.int .i64 0, .slice none 0 0] 27)).cell? ⟨g, 0, none⟩ = some (.int .i64 1) ∧ (w6.alloc (.cells #[.int .i64 0, .slice none 0 0] 27)).cell? ⟨g, 1, none⟩ = some (.slice A3 n3 c3))
        have hl : w6.heap.size < (w6.alloc (.cells #[.int .i64 0, .slice none 0 0] 27)).heap.size := by simp
        have hlo : w4.heap.size ≤ w6.heap.size := T2.out.size
        clear b hS
        refine hK.out _ _ hS1 ?_
        clear hK
        (try simp only [Act.put, List.setIfInBounds_toArray, List.set_cons_zero, List.set_cons_succ])
        generalize w6.alloc (.cells #[.int .i64 0, .slice none 0 0] 27) = w7 at *
        generalize w6.heap.size = g7 at *
        have hS := hS1
        clear hS1
        refine TR.eff _ (by simp only [List.getElem?_toArray, List.getElem?_cons_succ, List.getElem?_cons_zero]; rfl) (by rfl) (fun K hK => ?_)
        refine wp_store_row 27 (.tmp 2) (.tmp 15) rfl g7 #[.int .i64 o6, .slice A6 n6 c6] rfl rfl 27 _ h0.out HIM.out rfl (by simp [Value.oneCell']) ?_
        have TS := Lib.hid (below_setRow T3.out hlo #[.int .i64 o6, .slice A6 n6 c6])
        have hS1 := (⟨(World.cell?_of_block (setRow_other _ _ _ _ (by show g ≠ g7; omega))).trans hS.1, (World.cell?_of_block (setRow_other _ _ _ _ (by show g ≠ g7; omega))).trans hS.2⟩ : (w7.setRow g7 #[.int .i64 o6, .slice A6 n6 c6]).cell? ⟨g, 0, none⟩ = some (.int .i64 1) ∧ (w7.setRow g7 #[.int .i64 o6, .slice A6 n6 c6]).cell? ⟨g, 1, none⟩ = some (.slice A3 n3 c3))
        refine hK.out _ _ hS1 ?_
        clear hK hS
        (try simp only [Act.put, List.setIfInBounds_toArray, List.set_cons_zero, List.set_cons_succ])
        have hS := hS1
        clear hS1
        iterate 1 ((first | (refine TR.val2 (v := ?_) _ (by simp only [List.getElem?_toArray, List.getElem?_cons_succ, List.getElem?_cons_zero]; rfl) ?_ ?_ ?_ ?_ ?_; rotate_left; (focus rfl); (focus (intro W hSW; (try dsimp only at hSW); (try (obtain ⟨hS1, hSW⟩ := hSW)); (try (obtain ⟨hS2, hSW⟩ := hSW)); (try (obtain ⟨hS3, hSW⟩ := hSW)); (try (obtain ⟨hS4, hSW⟩ := hSW)); (try (obtain ⟨hS5, hSW⟩ := hSW)); (try (obtain ⟨hS6, hSW⟩ := hSW)); (try (obtain ⟨hS7, hSW⟩ := hSW)); (try (obtain ⟨hS8, hSW⟩ := hSW)); go_simp; (try with_reducible rfl); done)); (focus exact fun _ _ _ h => h); (focus assumption)) | (refine TR.skip _ (by simp only [List.getElem?_toArray, List.getElem?_cons_succ, List.getElem?_cons_zero]; rfl) ?_ ?_ ?_ ?_; (focus rfl); (focus exact fun _ _ _ h => h); (focus assumption))); simp only [Act.put, List.setIfInBounds_toArray, List.set_cons_zero, List.set_cons_succ])
        refine TR.done ?_
        clear hS
        go_wp2_with fail
        go_meet
        exact ⟨rfl, TS.out⟩
      · go_simp
        have b := (Below.refl w5.heap.size w5).alloc (Nat.le_refl _) (.cells #[.int .i64 0, .slice none 0 0] 27)
        have h0 := Lib.hid (heap_alloc_new w5 (.cells #[.int .i64 0, .slice none 0 0] 27))
        have T2 := Lib.hid (T1.out.trans (b.mono T1.out.size))
        have hS1 := (⟨keepc b hS.1, keepc b hS.2⟩ : (w5.alloc (.cells #[.int .i64 0, .slice none 0 0] 27)).cell? ⟨g, 0, none⟩ = some (.int .i64 1) ∧ (w5.alloc (.cells #[.int .i64 0, .slice none 0 0] 27)).cell? ⟨g, 1, none⟩ = some (.slice A3 n3 c3))
        have hl : w5.heap.size < (w5.alloc (.cells #[.int .i64 0, .slice none 0 0] 27)).heap.size := by simp
        have hlo : w4.heap.size ≤ w5.heap.size := T1.out.size
        clear b hS
        refine hK.out _ _ hS1 ?_
        clear hK
        (try simp only [Act.put, List.setIfInBounds_toArray, List.set_cons_zero, List.set_cons_succ])
        generalize w5.alloc (.cells #[.int .i64 0, .slice none 0 0] 27) = w6 at *
        generalize w5.heap.size = g7 at *
        have hS := hS1
        clear hS1
        refine TR.eff _ (by simp only [List.getElem?_toArray, List.getElem?_cons_succ, List.getElem?_cons_zero]; rfl) (by rfl) (fun K hK => ?_); go_simp
        refine (apply_e rfl (m := m1) (R4.out.below T2.out) T2.out.size HP3.out hn3 (3, fF, 2) (by decide) 7 ex5).mono ?_
        rintro e w7 ⟨o6, A6, n6, c6, rfl, b⟩
        have T3 := Lib.hid (T2.out.trans (b.mono T2.out.size))
        have hS1 := (⟨keepc b hS.1, keepc b hS.2⟩ : w7.cell? ⟨g, 0, none⟩ = some (.int .i64 1) ∧ w7.cell? ⟨g, 1, none⟩ = some (.slice A3 n3 c3))
        have h1 := (b.block g7 (by omega)).trans h0.out
        clear h0
        have h0 := Lib.hid h1
        clear h1
        have hl := Nat.lt_of_lt_of_le hl b.size
        clear b hS
        refine hK.out _ _ hS1 ?_
        clear hK
        (try simp only [Act.put, List.setIfInBounds_toArray, List.set_cons_zero, List.set_cons_succ])
        have hS := hS1
        clear hS1
        iterate 3 ((first | (refine TR.val2 (v := ?_) _ (by simp only [List.getElem?_toArray, List.getElem?_cons_succ, List.getElem?_cons_zero]; rfl) ?_ ?_ ?_ ?_ ?_; rotate_left; (focus rfl); (focus (intro W hSW; (try dsimp only at hSW); (try (obtain ⟨hS1, hSW⟩ := hSW)); (try (obtain ⟨hS2, hSW⟩ := hSW)); (try (obtain ⟨hS3, hSW⟩ := hSW)); (try (obtain ⟨hS4, hSW⟩ := hSW)); (try (obtain ⟨hS5, hSW⟩ := hSW)); (try (obtain ⟨hS6, hSW⟩ := hSW)); (try (obtain ⟨hS7, hSW⟩ := hSW)); (try (obtain ⟨hS8, hSW⟩ := hSW)); go_simp; (try with_reducible rfl); done)); (focus exact fun _ _ _ h => h); (focus assumption)) | (refine TR.skip _ (by simp only [List.getElem?_toArray, List.getElem?_cons_succ, List.getElem?_cons_zero]; rfl) ?_ ?_ ?_ ?_; (focus rfl); (focus exact fun _ _ _ h => h); (focus assumption))); simp only [Act.put, List.setIfInBounds_toArray, List.set_cons_zero, List.set_cons_succ])
        refine TR.eff _ (by simp only [List.getElem?_toArray, List.getElem?_cons_succ, List.getElem?_cons_zero]; rfl) (by rfl) (fun K hK => ?_)
        refine wp_store_row 27 (.tmp 2) (.tmp 15) rfl g7 #[.int .i64 o6, .slice A6 n6 c6] rfl rfl 27 _ h0.out HIM.out rfl (by simp [Value.oneCell']) ?_
        have TS := Lib.hid (below_setRow T3.out hlo #[.int .i64 o6, .slice A6 n6 c6])
        have hS1 := (⟨(World.cell?_of_block (setRow_other _ _ _ _ (by show g ≠ g7; omega))).trans hS.1, (World.cell?_of_block (setRow_other _ _ _ _ (by show g ≠ g7; omega))).trans hS.2⟩ : (w7.setRow g7 #[.int .i64 o6, .slice A6 n6 c6]).cell? ⟨g, 0, none⟩ = some (.int .i64 1) ∧ (w7.setRow g7 #[.int .i64 o6, .slice A6 n6 c6]).cell? ⟨g, 1, none⟩ = some (.slice A3 n3 c3))
        refine hK.out _ _ hS1 ?_
        clear hK hS
        (try simp only [Act.put, List.setIfInBounds_toArray, List.set_cons_zero, List.set_cons_succ])
        have hS := hS1
        clear hS1
        iterate 1 ((first | (refine TR.val2 (v := ?_) _ (by simp only [List.getElem?_toArray, List.getElem?_cons_succ, List.getElem?_cons_zero]; rfl) ?_ ?_ ?_ ?_ ?_; rotate_left; (focus rfl); (focus (intro W hSW; (try dsimp only at hSW); (try (obtain ⟨hS1, hSW⟩ := hSW)); (try (obtain ⟨hS2, hSW⟩ := hSW)); (try (obtain ⟨hS3, hSW⟩ := hSW)); (try (obtain ⟨hS4, hSW⟩ := hSW)); (try (obtain ⟨hS5, hSW⟩ := hSW)); (try (obtain ⟨hS6, hSW⟩ := hSW)); (try (obtain ⟨hS7, hSW⟩ := hSW)); (try (obtain ⟨hS8, hSW⟩ := hSW)); go_simp; (try with_reducible rfl); done)); (focus exact fun _ _ _ h => h); (focus assumption)) | (refine TR.skip _ (by simp only [List.getElem?_toArray, List.getElem?_cons_succ, List.getElem?_cons_zero]; rfl) ?_ ?_ ?_ ?_; (focus rfl); (focus exact fun _ _ _ h => h); (focus assumption))); simp only [Act.put, List.setIfInBounds_toArray, List.set_cons_zero, List.set_cons_succ])
        refine TR.done ?_
        clear hS
        go_wp2_with fail
        go_meet
        exact ⟨rfl, TS.out⟩
    · go_simp
      have b := (Below.refl v0.heap.size v0).alloc (Nat.le_refl _) (.cells #[.int .i64 0, .slice none 0 0] 27)
      have h0 := Lib.hid (heap_alloc_new v0 (.cells #[.int .i64 0, .slice none 0 0] 27))
      have T1 := Lib.hid (T0.out.trans (b.mono T0.out.size))
      have hS1 := (⟨keepc b hS.1, keepc b hS.2⟩ : (v0.alloc (.cells #[.int .i64 0, .slice none 0 0] 27)).cell? ⟨g, 0, none⟩ = some (.int .i64 1) ∧ (v0.alloc (.cells #[.int .i64 0, .slice none 0 0] 27)).cell? ⟨g, 1, none⟩ = some (.slice A3 n3 c3))
      have hl : v0.heap.size < (v0.alloc (.cells #[.int .i64 0, .slice none 0 0] 27)).heap.size := by simp
      have hlo : w4.heap.size ≤ v0.heap.size := T0.out.size
      clear b hS
      refine hK.out _ _ hS1 ?_
      clear hK
      (try simp only [Act.put, List.setIfInBounds_toArray, List.set_cons_zero, List.set_cons_succ])
      generalize v0.alloc (.cells #[.int .i64 0, .slice none 0 0] 27) = w5 at *
      generalize v0.heap.size = g7 at *
      have hS := hS1
      clear hS1
      refine TR.eff _ (by simp only [List.getElem?_toArray, List.getElem?_cons_succ, List.getElem?_cons_zero]; rfl) (by rfl) (fun K hK => ?_); go_simp
      refine (share_v 2 w5).mono ?_
      rintro e w6 ⟨rfl, b⟩
      have T2 := Lib.hid (T1.out.trans (b.mono T1.out.size))
      have hS1 := (⟨keepc b hS.1, keepc b hS.2⟩ : w6.cell? ⟨g, 0, none⟩ = some (.int .i64 1) ∧ w6.cell? ⟨g, 1, none⟩ = some (.slice A3 n3 c3))
      have h1 := (b.block g7 (by omega)).trans h0.out
      clear h0
      have h0 := Lib.hid h1
      clear h1
      have hl := Nat.lt_of_lt_of_le hl b.size
      clear b hS
      refine hK.out _ _ hS1 ?_
      clear hK
      (try simp only [Act.put, List.setIfInBounds_toArray, List.set_cons_zero, List.set_cons_succ])
      have hS := hS1
      clear hS1
      refine TR.eff _ (by simp only [List.getElem?_toArray, List.getElem?_cons_succ, List.getElem?_cons_zero]; rfl) (by rfl) (fun K hK => ?_); go_simp
      refine (apply_e rfl (m := m1) (R4.out.below T2.out) T2.out.size HP3.out hn3 (3, fF, 2) (by decide) 7 ex5).mono ?_
      rintro e w7 ⟨o6, A6, n6, c6, rfl, b⟩
      have T3 := Lib.hid (T2.out.trans (b.mono T2.out.size))
      have hS1 := (⟨keepc b hS.1, keepc b hS.2⟩ : w7.cell? ⟨g, 0, none⟩ = some (.int .i64 1) ∧ w7.cell? ⟨g, 1, none⟩ = some (.slice A3 n3 c3))
      have h1 := (b.block g7 (by omega)).trans h0.out
      clear h0
      have h0 := Lib.hid h1
      clear h1
      have hl := Nat.lt_of_lt_of_le hl b.size
      clear b hS
      refine hK.out _ _ hS1 ?_
      clear hK
      (try simp only [Act.put, List.setIfInBounds_toArray, List.set_cons_zero, List.set_cons_succ])
      have hS := hS1
      clear hS1
      iterate 3 ((first | (refine TR.val2 (v := ?_) _ (by simp only [List.getElem?_toArray, List.getElem?_cons_succ, List.getElem?_cons_zero]; rfl) ?_ ?_ ?_ ?_ ?_; rotate_left; (focus rfl); (focus (intro W hSW; (try dsimp only at hSW); (try (obtain ⟨hS1, hSW⟩ := hSW)); (try (obtain ⟨hS2, hSW⟩ := hSW)); (try (obtain ⟨hS3, hSW⟩ := hSW)); (try (obtain ⟨hS4, hSW⟩ := hSW)); (try (obtain ⟨hS5, hSW⟩ := hSW)); (try (obtain ⟨hS6, hSW⟩ := hSW)); (try (obtain ⟨hS7, hSW⟩ := hSW)); (try (obtain ⟨hS8, hSW⟩ := hSW)); go_simp; (try with_reducible rfl); done)); (focus exact fun _ _ _ h => h); (focus assumption)) | (refine TR.skip _ (by simp only [List.getElem?_toArray, List.getElem?_cons_succ, List.getElem?_cons_zero]; rfl) ?_ ?_ ?_ ?_; (focus rfl); (focus exact fun _ _ _ h => h); (focus assumption))); simp only [Act.put, List.setIfInBounds_toArray, List.set_cons_zero, List.set_cons_succ])
      refine TR.eff _ (by simp only [List.getElem?_toArray, List.getElem?_cons_succ, List.getElem?_cons_zero]; rfl) (by rfl) (fun K hK => ?_)
      refine wp_store_row 27 (.tmp 2) (.tmp 15) rfl g7 #[.int .i64 o6, .slice A6 n6 c6] rfl rfl 27 _ h0.out HIM.out rfl (by simp [Value.oneCell']) ?_
      have TS := Lib.hid (below_setRow T3.out hlo #[.int .i64 o6, .slice A6 n6 c6])
      have hS1 := (⟨(World.cell?_of_block (setRow_other _ _ _ _ (by show g ≠ g7; omega))).trans hS.1, (World.cell?_of_block (setRow_other _ _ _ _ (by show g ≠ g7; omega))).trans hS.2⟩ : (w7.setRow g7 #[.int .i64 o6, .slice A6 n6 c6]).cell? ⟨g, 0, none⟩ = some (.int .i64 1) ∧ (w7.setRow g7 #[.int .i64 o6, .slice A6 n6 c6]).cell? ⟨g, 1, none⟩ = some (.slice A3 n3 c3))
      refine hK.out _ _ hS1 ?_
      clear hK hS
      (try simp only [Act.put, List.setIfInBounds_toArray, List.set_cons_zero, List.set_cons_succ])
      have hS := hS1
      clear hS1
      iterate 1 ((first | (refine TR.val2 (v := ?_) _ (by simp only [List.getElem?_toArray, List.getElem?_cons_succ, List.getElem?_cons_zero]; rfl) ?_ ?_ ?_ ?_ ?_; rotate_left; (focus rfl); (focus (intro W hSW; (try dsimp only at hSW); (try (obtain ⟨hS1, hSW⟩ := hSW)); (try (obtain ⟨hS2, hSW⟩ := hSW)); (try (obtain ⟨hS3, hSW⟩ := hSW)); (try (obtain ⟨hS4, hSW⟩ := hSW)); (try (obtain ⟨hS5, hSW⟩ := hSW)); (try (obtain ⟨hS6, hSW⟩ := hSW)); (try (obtain ⟨hS7, hSW⟩ := hSW)); (try (obtain ⟨hS8, hSW⟩ := hSW)); go_simp; (try with_reducible rfl); done)); (focus exact fun _ _ _ h => h); (focus assumption)) | (refine TR.skip _ (by simp only [List.getElem?_toArray, List.getElem?_cons_succ, List.getElem?_cons_zero]; rfl) ?_ ?_ ?_ ?_; (focus rfl); (focus exact fun _ _ _ h => h); (focus assumption))); simp only [Act.put, List.setIfInBounds_toArray, List.set_cons_zero, List.set_cons_succ])
      refine TR.done ?_
      clear hS
      go_wp2_with fail
      go_meet
      exact ⟨rfl, TS.out⟩
  case rest =>
    obtain ⟨rfl, b⟩ := hcut
    have X := Lib.hid ((b.block g hz4).trans X4.out)
    have Q1 := R4
    have TB := B4
    clear X4 R4 B4 c0 c1
    replace TB := Lib.hid (TB.out.trans (b.mono TB.out.size))
    replace Q1 := Lib.hid (RowsR.more (Q1.out.below b) b.size)
    have hgc : g < wc.heap.size := Nat.lt_of_lt_of_le hz4 b.size
    clear b hz4
    go_wp2_with (first
      | (refine wpList_load_row rfl 27 (.tmp 1) rfl g rfl 27 _ (0, 0) _ X.out Try.underlying27 rfl HIM.out ?_)
      | fail)
    refine (apply_e rfl (m := m1) Q1.out (Nat.le_refl _) HP3.out hn3 (4, fF, 3) (by decide) 6 ex6).mono ?_
    rintro e w5 ⟨o5, A5, n5, c5, rfl, b⟩
    replace X := Lib.hid ((b.block g hgc).trans X.out)
    replace TB := Lib.hid (TB.out.trans (b.mono TB.out.size))
    replace Q1 := Lib.hid (RowsR.more (Q1.out.below b) b.size)
    have hg5 : g < w5.heap.size := Nat.lt_of_lt_of_le hgc b.size
    clear b hgc
    go_upto_region 4 with fail
    have b := (Below.refl w5.heap.size w5).alloc (Nat.le_refl _) (.cells #[.int .i64 o5, .slice A5 n5 c5] 27)
    replace X := Lib.hid ((b.block g hg5).trans X.out)
    replace TB := Lib.hid (TB.out.trans (b.mono TB.out.size))
    replace Q1 := Lib.hid (RowsR.more (Q1.out.below b) b.size)
    have hg6 : g < (w5.alloc (.cells #[.int .i64 o5, .slice A5 n5 c5] 27)).heap.size := Nat.lt_of_lt_of_le hg5 b.size
    clear b hg5
    generalize w5.alloc (.cells #[.int .i64 o5, .slice A5 n5 c5] 27) = w6 at *
    refine wp_region_text [(0, false), (1, true), (2, true), (3, true), (4, true), (5, true), (6, true), (7, true), (8, true), (9, true), (10, true), (11, true), (12, true), (13, true), (14, false)] (fun V => V.cell? ⟨g, 0, none⟩ = some (.int .i64 1) ∧ V.cell? ⟨g, 1, none⟩ = some (.slice A3 n3 c3)) (by kernel_rfl) (by kernel_rfl) (by kernel_rfl) (by kernel_rfl) (by kernel_rfl) (fun _ => ?_)
    simp only [outOf, List.getElem?_cons_zero, List.getElem?_cons_succ, Option.getD_some]
    have hS : w6.drew.cell? ⟨g, 0, none⟩ = some (.int .i64 1) ∧ w6.drew.cell? ⟨g, 1, none⟩ = some (.slice A3 n3 c3) := ⟨by show w6.cell? _ = _; rw [cell_of_row _ _ 0 _ _ _ X.out]; rfl, by show w6.cell? _ = _; rw [cell_of_row _ _ 1 _ _ _ X.out]; rfl⟩
    have b : Below w6.heap.size w6 w6.drew := (Below.refl _ _).drew
    replace TB := Lib.hid (TB.out.trans (b.mono TB.out.size))
    replace Q1 := Lib.hid (RowsR.more (Q1.out.below b) b.size)
    clear b X hg6
    generalize w6.drew = v0 at *
    iterate 1 ((first | (refine TW.val2 (v := ?_) ?_ ?_ ?_ ?_ ?_; rotate_left; (focus rfl); (focus (intro W hSW; (try dsimp only at hSW); (try (obtain ⟨hS1, hSW⟩ := hSW)); (try (obtain ⟨hS2, hSW⟩ := hSW)); (try (obtain ⟨hS3, hSW⟩ := hSW)); (try (obtain ⟨hS4, hSW⟩ := hSW)); (try (obtain ⟨hS5, hSW⟩ := hSW)); (try (obtain ⟨hS6, hSW⟩ := hSW)); (try (obtain ⟨hS7, hSW⟩ := hSW)); (try (obtain ⟨hS8, hSW⟩ := hSW)); go_simp; (try with_reducible rfl); done)); (focus exact fun _ _ _ h => h); (focus assumption)) | (refine TW.skip (e := false) ?_ ?_ ?_ ?_; (focus rfl); (focus exact fun _ _ _ h => h); (focus assumption))); simp only [Act.put, List.setIfInBounds_toArray, List.set_cons_zero, List.set_cons_succ])
    refine TW.eff (by rfl) (fun K hK => ?_); go_simp
    refine (add_v v0).mono ?_
    rintro e v1 ⟨rfl, b⟩
    replace TB := Lib.hid (TB.out.trans (b.mono TB.out.size))
    replace Q1 := Lib.hid (RowsR.more (Q1.out.below b) b.size)
    have hS1 := (⟨keepc b hS.1, keepc b hS.2⟩ : v1.cell? ⟨g, 0, none⟩ = some (.int .i64 1) ∧ v1.cell? ⟨g, 1, none⟩ = some (.slice A3 n3 c3))
    clear b
    refine hK.out _ _ hS1 ?_
    clear hK hS
    (try simp only [Act.put, List.setIfInBounds_toArray, List.set_cons_zero, List.set_cons_succ])
    have hS := hS1
    clear hS1
    refine TW.eff (by rfl) (fun K hK => ?_); go_simp
    refine (share_v 1 v1).mono ?_
    rintro e v2 ⟨rfl, b⟩
    replace TB := Lib.hid (TB.out.trans (b.mono TB.out.size))
    replace Q1 := Lib.hid (RowsR.more (Q1.out.below b) b.size)
    have hS1 := (⟨keepc b hS.1, keepc b hS.2⟩ : v2.cell? ⟨g, 0, none⟩ = some (.int .i64 1) ∧ v2.cell? ⟨g, 1, none⟩ = some (.slice A3 n3 c3))
    clear b
    refine hK.out _ _ hS1 ?_
    clear hK hS
    (try simp only [Act.put, List.setIfInBounds_toArray, List.set_cons_zero, List.set_cons_succ])
    have hS := hS1
    clear hS1
    refine TW.eff (by rfl) (fun K hK => ?_); go_simp
    refine (share_v 3 v2).mono ?_
    rintro e v3 ⟨rfl, b⟩
    replace TB := Lib.hid (TB.out.trans (b.mono TB.out.size))
    replace Q1 := Lib.hid (RowsR.more (Q1.out.below b) b.size)
    have hS1 := (⟨keepc b hS.1, keepc b hS.2⟩ : v3.cell? ⟨g, 0, none⟩ = some (.int .i64 1) ∧ v3.cell? ⟨g, 1, none⟩ = some (.slice A3 n3 c3))
    clear b
    refine hK.out _ _ hS1 ?_
    clear hK hS
    (try simp only [Act.put, List.setIfInBounds_toArray, List.set_cons_zero, List.set_cons_succ])
    have hS := hS1
    clear hS1
    refine TW.eff (by rfl) (fun K hK => ?_); go_simp
    have b := (Below.refl v3.heap.size v3).alloc (Nat.le_refl _) (.cells #[.int .i64 1, .string ⟨#[102]⟩, .int .i64 0, .int .i64 3, .string ⟨#[102]⟩, .int .i64 1, .int .i64 3, .string ⟨#[102]⟩, .int .i64 3] 41)
    have hS1 := (⟨keepc b hS.1, keepc b hS.2⟩ : (v3.alloc (.cells #[.int .i64 1, .string ⟨#[102]⟩, .int .i64 0, .int .i64 3, .string ⟨#[102]⟩, .int .i64 1, .int .i64 3, .string ⟨#[102]⟩, .int .i64 3] 41)).cell? ⟨g, 0, none⟩ = some (.int .i64 1) ∧ (v3.alloc (.cells #[.int .i64 1, .string ⟨#[102]⟩, .int .i64 0, .int .i64 3, .string ⟨#[102]⟩, .int .i64 1, .int .i64 3, .string ⟨#[102]⟩, .int .i64 3] 41)).cell? ⟨g, 1, none⟩ = some (.slice A3 n3 c3))
    have hS0 := hS
    clear b
    refine hK.out _ _ hS1 ?_
    clear hK hS hS1
    (try simp only [Act.put, List.setIfInBounds_toArray, List.set_cons_zero, List.set_cons_succ])
    have hS := hS0
    clear hS0
    refine TW.eff (by rfl) (fun K hK => ?_); go_simp
    refine (made_ex 2 [(1, fF, 0), (3, fF, 1), (3, fF, 3)] 3 m2 ex2 rfl rfl (by omega) (by decide) v3).mono ?_
    rintro e v4 ⟨B2, k2, d2, ts2, rfl, q, hp2, hk2, b⟩
    replace TB := Lib.hid (TB.out.trans (b.mono TB.out.size))
    replace Q1 := Lib.hid (RowsR.more (Q1.out.below b) b.size)
    have hS1 := (⟨keepc b hS.1, keepc b hS.2⟩ : v4.cell? ⟨g, 0, none⟩ = some (.int .i64 1) ∧ v4.cell? ⟨g, 1, none⟩ = some (.slice A3 n3 c3))
    have Q2 := Lib.hid q
    have HP2' := Lib.hid hp2
    clear b q hp2
    refine hK.out _ _ hS1 ?_
    clear hK hS
    (try simp only [Act.put, List.setIfInBounds_toArray, List.set_cons_zero, List.set_cons_succ])
    have hS := hS1
    clear hS1
    refine TW.eff (by rfl) (fun K hK => ?_); go_simp
    refine (add_v v4).mono ?_
    rintro e v5 ⟨rfl, b⟩
    replace TB := Lib.hid (TB.out.trans (b.mono TB.out.size))
    replace Q1 := Lib.hid (RowsR.more (Q1.out.below b) b.size)
    replace Q2 := Lib.hid (RowsR.more (Q2.out.below b) b.size)
    have hS1 := (⟨keepc b hS.1, keepc b hS.2⟩ : v5.cell? ⟨g, 0, none⟩ = some (.int .i64 1) ∧ v5.cell? ⟨g, 1, none⟩ = some (.slice A3 n3 c3))
    clear b
    refine hK.out _ _ hS1 ?_
    clear hK hS
    (try simp only [Act.put, List.setIfInBounds_toArray, List.set_cons_zero, List.set_cons_succ])
    have hS := hS1
    clear hS1
    refine TW.eff (by rfl) (fun K hK => ?_); go_simp
    refine (share_v 2 v5).mono ?_
    rintro e v6 ⟨rfl, b⟩
    replace TB := Lib.hid (TB.out.trans (b.mono TB.out.size))
    replace Q1 := Lib.hid (RowsR.more (Q1.out.below b) b.size)
    replace Q2 := Lib.hid (RowsR.more (Q2.out.below b) b.size)
    have hS1 := (⟨keepc b hS.1, keepc b hS.2⟩ : v6.cell? ⟨g, 0, none⟩ = some (.int .i64 1) ∧ v6.cell? ⟨g, 1, none⟩ = some (.slice A3 n3 c3))
    clear b
    refine hK.out _ _ hS1 ?_
    clear hK hS
    (try simp only [Act.put, List.setIfInBounds_toArray, List.set_cons_zero, List.set_cons_succ])
    have hS := hS1
    clear hS1
    refine TW.eff (by rfl) (fun K hK => ?_); go_simp
    have b := (Below.refl v6.heap.size v6).alloc (Nat.le_refl _) (.cells #[.int .i64 1, .string ⟨#[102]⟩, .int .i64 0, .int .i64 3, .string ⟨#[102]⟩, .int .i64 2] 41)
    have hS1 := (⟨keepc b hS.1, keepc b hS.2⟩ : (v6.alloc (.cells #[.int .i64 1, .string ⟨#[102]⟩, .int .i64 0, .int .i64 3, .string ⟨#[102]⟩, .int .i64 2] 41)).cell? ⟨g, 0, none⟩ = some (.int .i64 1) ∧ (v6.alloc (.cells #[.int .i64 1, .string ⟨#[102]⟩, .int .i64 0, .int .i64 3, .string ⟨#[102]⟩, .int .i64 2] 41)).cell? ⟨g, 1, none⟩ = some (.slice A3 n3 c3))
    have hS0 := hS
    clear b
    refine hK.out _ _ hS1 ?_
    clear hK hS hS1
    (try simp only [Act.put, List.setIfInBounds_toArray, List.set_cons_zero, List.set_cons_succ])
    have hS := hS0
    clear hS0
    refine TW.eff (by rfl) (fun K hK => ?_); go_simp
    refine (made_ex 3 [(1, fF, 0), (3, fF, 2)] 2 m3 ex3 rfl rfl (by omega) (by decide) v6).mono ?_
    rintro e v7 ⟨B3, k3, d3, ts3, rfl, q, hp3, hk3, b⟩
    replace TB := Lib.hid (TB.out.trans (b.mono TB.out.size))
    replace Q1 := Lib.hid (RowsR.more (Q1.out.below b) b.size)
    replace Q2 := Lib.hid (RowsR.more (Q2.out.below b) b.size)
    have hS1 := (⟨keepc b hS.1, keepc b hS.2⟩ : v7.cell? ⟨g, 0, none⟩ = some (.int .i64 1) ∧ v7.cell? ⟨g, 1, none⟩ = some (.slice A3 n3 c3))
    have Q3 := Lib.hid q
    have HP3' := Lib.hid hp3
    clear b q hp3
    refine hK.out _ _ hS1 ?_
    clear hK hS
    (try simp only [Act.put, List.setIfInBounds_toArray, List.set_cons_zero, List.set_cons_succ])
    have hS := hS1
    clear hS1
    refine TW.eff (by rfl) (fun K hK => ?_); go_simp
    refine (add_v v7).mono ?_
    rintro e v8 ⟨rfl, b⟩
    replace TB := Lib.hid (TB.out.trans (b.mono TB.out.size))
    replace Q1 := Lib.hid (RowsR.more (Q1.out.below b) b.size)
    replace Q2 := Lib.hid (RowsR.more (Q2.out.below b) b.size)
    replace Q3 := Lib.hid (RowsR.more (Q3.out.below b) b.size)
    have hS1 := (⟨keepc b hS.1, keepc b hS.2⟩ : v8.cell? ⟨g, 0, none⟩ = some (.int .i64 1) ∧ v8.cell? ⟨g, 1, none⟩ = some (.slice A3 n3 c3))
    clear b
    refine hK.out _ _ hS1 ?_
    clear hK hS
    (try simp only [Act.put, List.setIfInBounds_toArray, List.set_cons_zero, List.set_cons_succ])
    have hS := hS1
    clear hS1
    refine TW.eff (by rfl) (fun K hK => ?_); go_simp
    have b := (Below.refl v8.heap.size v8).alloc (Nat.le_refl _) (.cells #[.int .i64 1, .string ⟨#[102]⟩, .int .i64 0] 41)
    have hS1 := (⟨keepc b hS.1, keepc b hS.2⟩ : (v8.alloc (.cells #[.int .i64 1, .string ⟨#[102]⟩, .int .i64 0] 41)).cell? ⟨g, 0, none⟩ = some (.int .i64 1) ∧ (v8.alloc (.cells #[.int .i64 1, .string ⟨#[102]⟩, .int .i64 0] 41)).cell? ⟨g, 1, none⟩ = some (.slice A3 n3 c3))
    have hS0 := hS
    clear b
    refine hK.out _ _ hS1 ?_
    clear hK hS hS1
    (try simp only [Act.put, List.setIfInBounds_toArray, List.set_cons_zero, List.set_cons_succ])
    have hS := hS0
    clear hS0
    refine TW.eff (by rfl) (fun K hK => ?_); go_simp
    refine (made_ex 4 [(1, fF, 0)] 1 m4 ex4 rfl rfl (by omega) (by decide) v8).mono ?_
    rintro e v9 ⟨B4, k4, d4, ts4, rfl, q, hp4, hk4, b⟩
    replace TB := Lib.hid (TB.out.trans (b.mono TB.out.size))
    replace Q1 := Lib.hid (RowsR.more (Q1.out.below b) b.size)
    replace Q2 := Lib.hid (RowsR.more (Q2.out.below b) b.size)
    replace Q3 := Lib.hid (RowsR.more (Q3.out.below b) b.size)
    have hS1 := (⟨keepc b hS.1, keepc b hS.2⟩ : v9.cell? ⟨g, 0, none⟩ = some (.int .i64 1) ∧ v9.cell? ⟨g, 1, none⟩ = some (.slice A3 n3 c3))
    have Q4 := Lib.hid q
    have HP4' := Lib.hid hp4
    clear b q hp4
    refine hK.out _ _ hS1 ?_
    clear hK hS
    (try simp only [Act.put, List.setIfInBounds_toArray, List.set_cons_zero, List.set_cons_succ])
    have hS := hS1
    clear hS1
    refine TW.eff (by rfl) (fun K hK => ?_); go_simp
    have b := (Below.refl v9.heap.size v9).alloc (Nat.le_refl _) (.cells #[.int .i64 1, .slice A3 n3 c3, .int .i64 2, .slice B2 k2 d2, .int .i64 3, .slice B3 k3 d3, .int .i64 4, .slice B4 k4 d4] 27)
    replace TB := Lib.hid (TB.out.trans (b.mono TB.out.size))
    replace Q1 := Lib.hid (RowsR.more (Q1.out.below b) b.size)
    replace Q2 := Lib.hid (RowsR.more (Q2.out.below b) b.size)
    replace Q3 := Lib.hid (RowsR.more (Q3.out.below b) b.size)
    replace Q4 := Lib.hid (RowsR.more (Q4.out.below b) b.size)
    have hS1 := (⟨keepc b hS.1, keepc b hS.2⟩ : (v9.alloc (.cells #[.int .i64 1, .slice A3 n3 c3, .int .i64 2, .slice B2 k2 d2, .int .i64 3, .slice B3 k3 d3, .int .i64 4, .slice B4 k4 d4] 27)).cell? ⟨g, 0, none⟩ = some (.int .i64 1) ∧ (v9.alloc (.cells #[.int .i64 1, .slice A3 n3 c3, .int .i64 2, .slice B2 k2 d2, .int .i64 3, .slice B3 k3 d3, .int .i64 4, .slice B4 k4 d4] 27)).cell? ⟨g, 1, none⟩ = some (.slice A3 n3 c3))
    have HMR := Lib.hid (show MatsR (v9.alloc (.cells #[.int .i64 1, .slice A3 n3 c3, .int .i64 2, .slice B2 k2 d2, .int .i64 3, .slice B3 k3 d3, .int .i64 4, .slice B4 k4 d4] 27)) (v9.alloc (.cells #[.int .i64 1, .slice A3 n3 c3, .int .i64 2, .slice B2 k2 d2, .int .i64 3, .slice B3 k3 d3, .int .i64 4, .slice B4 k4 d4] 27)).heap.size (some ⟨v9.heap.size, 0, none⟩) 4 [(⟨1, A3, n3, c3, rs3⟩ : Mx), ⟨2, B2, k2, d2, ts2⟩, ⟨3, B3, k3, d3, ts3⟩, ⟨4, B4, k4, d4, ts4⟩] from ⟨Reads.more (reads_new (w := v9) (K := 2) (n := 4) (e := 27) ([(⟨1, A3, n3, c3, rs3⟩ : Mx), ⟨2, B2, k2, d2, ts2⟩, ⟨3, B3, k3, d3, ts3⟩, ⟨4, B4, k4, d4, ts4⟩].flatMap Mx.cells) rfl) (by simp), fun m hm => by
      simp only [List.mem_cons, List.not_mem_nil, or_false] at hm
      rcases hm with rfl | rfl | rfl | rfl
      · exact ⟨Q1.out, by show n3 ≤ _; omega⟩
      · exact ⟨Q2.out, by show k2 ≤ _; omega⟩
      · exact ⟨Q3.out, by show k3 ≤ _; omega⟩
      · exact ⟨Q4.out, by show k4 ≤ _; omega⟩⟩)
    have HMP := Lib.hid (show ([(⟨1, A3, n3, c3, rs3⟩ : Mx), ⟨2, B2, k2, d2, ts2⟩, ⟨3, B3, k3, d3, ts3⟩, ⟨4, B4, k4, d4, ts4⟩]).map Mx.p = [m1, m2, m3, m4] by
      simp only [List.map_cons, List.map_nil, Mx.p]
      rw [HP3.out, HP2'.out, HP3'.out, HP4'.out]
      rfl)
    clear b Q2 Q3 Q4
    refine hK.out _ _ hS1 ?_
    clear hK hS
    (try simp only [Act.put, List.setIfInBounds_toArray, List.set_cons_zero, List.set_cons_succ])
    have hS := hS1
    clear hS1
    generalize v9.alloc (.cells #[.int .i64 1, .slice A3 n3 c3, .int .i64 2, .slice B2 k2 d2, .int .i64 3, .slice B3 k3 d3, .int .i64 4, .slice B4 k4 d4] 27) = u0 at *
    generalize v9.heap.size = g9 at *
    obtain ⟨ms, hms⟩ : ∃ ms, [(⟨1, A3, n3, c3, rs3⟩ : Mx), ⟨2, B2, k2, d2, ts2⟩, ⟨3, B3, k3, d3, ts3⟩, ⟨4, B4, k4, d4, ts4⟩] = ms := ⟨_, rfl⟩
    rw [hms] at HMR HMP
    clear hms
    iterate 1 ((first | (refine TW.val2 (v := ?_) ?_ ?_ ?_ ?_ ?_; rotate_left; (focus rfl); (focus (intro W hSW; (try dsimp only at hSW); (try (obtain ⟨hS1, hSW⟩ := hSW)); (try (obtain ⟨hS2, hSW⟩ := hSW)); (try (obtain ⟨hS3, hSW⟩ := hSW)); (try (obtain ⟨hS4, hSW⟩ := hSW)); (try (obtain ⟨hS5, hSW⟩ := hSW)); (try (obtain ⟨hS6, hSW⟩ := hSW)); (try (obtain ⟨hS7, hSW⟩ := hSW)); (try (obtain ⟨hS8, hSW⟩ := hSW)); go_simp; (try with_reducible rfl); done)); (focus exact fun _ _ _ h => h); (focus assumption)) | (refine TW.skip (e := false) ?_ ?_ ?_ ?_; (focus rfl); (focus exact fun _ _ _ h => h); (focus assumption))); simp only [Act.put, List.setIfInBounds_toArray, List.set_cons_zero, List.set_cons_succ])
    refine TW.done ?_
    obtain ⟨s0, s1⟩ := hS
    go_wp2_with fail
    have SV := shares_v 1 A3 n3 c3 u0.heap.size rs3 fF 2 u0 Q1.out (Nat.le_refl _) (by omega)
    rw [show sharesP (1, rs3.map Rw.p) fF 2 = true by rw [HP3.out]; exact ex7] at SV
    refine SV.mono ?_
    rintro e u1 ⟨rfl, b⟩
    replace TB := Lib.hid (TB.out.trans (b.mono TB.out.size))
    replace HMR := Lib.hid ((HMR.out.below b).more b.size)
    clear b SV s0 s1 Q1
    go_wp2_with fail
    refine (parts_v (some ⟨g9, 0, none⟩) 4 4 u1.heap.size ms fF u1 HMR.out (Nat.le_refl _) (by omega)).mono ?_
    rintro e u2 ⟨A', n', c', ls, rfl, ⟨base, _, hol⟩, hds, hn', hle, b⟩
    replace TB := Lib.hid (TB.out.trans (b.mono TB.out.size))
    have HDS := Lib.hid (show ls.map Il.ds = [[1, 2, 3], [4]] by rw [hds, HMP.out]; exact ex8)
    have HLR := Lib.hid (hol.reads fun l hl => by have := hle l hl; omega)
    clear b hol hds hle HMR
    have b1 := (Below.refl u2.heap.size u2).alloc (Nat.le_refl _) (.cells #[.int .i64 1, .int .i64 2, .int .i64 3] 3)
    have z1 : (u2.alloc (.cells #[.int .i64 1, .int .i64 2, .int .i64 3] 3)).heap.size = u2.heap.size + 1 := by simp
    have b2 := (Below.refl (u2.alloc (.cells #[.int .i64 1, .int .i64 2, .int .i64 3] 3)).heap.size (u2.alloc (.cells #[.int .i64 1, .int .i64 2, .int .i64 3] 3))).alloc (Nat.le_refl _) (.cells #[.int .i64 4] 3)
    have z2 : ((u2.alloc (.cells #[.int .i64 1, .int .i64 2, .int .i64 3] 3)).alloc (.cells #[.int .i64 4] 3)).heap.size = u2.heap.size + 2 := by simp
    have b3 := (Below.refl ((u2.alloc (.cells #[.int .i64 1, .int .i64 2, .int .i64 3] 3)).alloc (.cells #[.int .i64 4] 3)).heap.size ((u2.alloc (.cells #[.int .i64 1, .int .i64 2, .int .i64 3] 3)).alloc (.cells #[.int .i64 4] 3))).alloc (Nat.le_refl _) (.cells #[.slice (some ⟨u2.heap.size, 0, none⟩) 3 3, .slice (some ⟨u2.heap.size + 1, 0, none⟩) 1 1] 35)
    have z3 : (((u2.alloc (.cells #[.int .i64 1, .int .i64 2, .int .i64 3] 3)).alloc (.cells #[.int .i64 4] 3)).alloc (.cells #[.slice (some ⟨u2.heap.size, 0, none⟩) 3 3, .slice (some ⟨u2.heap.size + 1, 0, none⟩) 1 1] 35)).heap.size = u2.heap.size + 3 := by simp
    have i1 := reads_new (w := u2) (K := 1) (n := 3) (e := 3) (([1, 2, 3] : List Int).map (Value.int .i64)) rfl
    have i2 := reads_new (w := (u2.alloc (.cells #[.int .i64 1, .int .i64 2, .int .i64 3] 3))) (K := 1) (n := 1) (e := 3) (([4] : List Int).map (Value.int .i64)) rfl
    have i3 := reads_new (w := ((u2.alloc (.cells #[.int .i64 1, .int .i64 2, .int .i64 3] 3)).alloc (.cells #[.int .i64 4] 3))) (K := 1) (n := 2) (e := 35) (([(⟨some ⟨u2.heap.size, 0, none⟩, 3, 3, [1, 2, 3]⟩ : Il), ⟨some ⟨u2.heap.size + 1, 0, none⟩, 1, 1, [4]⟩]).map Il.v) rfl
    rw [z1] at i2
    rw [z2] at i3
    have j1 := Reads.more ((Reads.more i1 (show u2.heap.size + 1 ≤ (u2.alloc (.cells #[.int .i64 1, .int .i64 2, .int .i64 3] 3)).heap.size by omega)).below b2) (show (u2.alloc (.cells #[.int .i64 1, .int .i64 2, .int .i64 3] 3)).heap.size ≤ ((u2.alloc (.cells #[.int .i64 1, .int .i64 2, .int .i64 3] 3)).alloc (.cells #[.int .i64 4] 3)).heap.size by omega)
    have j1 := Reads.more (j1.below b3) (show ((u2.alloc (.cells #[.int .i64 1, .int .i64 2, .int .i64 3] 3)).alloc (.cells #[.int .i64 4] 3)).heap.size ≤ (((u2.alloc (.cells #[.int .i64 1, .int .i64 2, .int .i64 3] 3)).alloc (.cells #[.int .i64 4] 3)).alloc (.cells #[.slice (some ⟨u2.heap.size, 0, none⟩) 3 3, .slice (some ⟨u2.heap.size + 1, 0, none⟩) 1 1] 35)).heap.size by omega)
    have j2 := Reads.more ((Reads.more i2 (show u2.heap.size + 1 + 1 ≤ ((u2.alloc (.cells #[.int .i64 1, .int .i64 2, .int .i64 3] 3)).alloc (.cells #[.int .i64 4] 3)).heap.size by omega)).below b3) (show ((u2.alloc (.cells #[.int .i64 1, .int .i64 2, .int .i64 3] 3)).alloc (.cells #[.int .i64 4] 3)).heap.size ≤ (((u2.alloc (.cells #[.int .i64 1, .int .i64 2, .int .i64 3] 3)).alloc (.cells #[.int .i64 4] 3)).alloc (.cells #[.slice (some ⟨u2.heap.size, 0, none⟩) 3 3, .slice (some ⟨u2.heap.size + 1, 0, none⟩) 1 1] 35)).heap.size by omega)
    have HLL := Lib.hid (show LRd (((u2.alloc (.cells #[.int .i64 1, .int .i64 2, .int .i64 3] 3)).alloc (.cells #[.int .i64 4] 3)).alloc (.cells #[.slice (some ⟨u2.heap.size, 0, none⟩) 3 3, .slice (some ⟨u2.heap.size + 1, 0, none⟩) 1 1] 35)) (((u2.alloc (.cells #[.int .i64 1, .int .i64 2, .int .i64 3] 3)).alloc (.cells #[.int .i64 4] 3)).alloc (.cells #[.slice (some ⟨u2.heap.size, 0, none⟩) 3 3, .slice (some ⟨u2.heap.size + 1, 0, none⟩) 1 1] 35)).heap.size (some ⟨u2.heap.size + 2, 0, none⟩) 2 [(⟨some ⟨u2.heap.size, 0, none⟩, 3, 3, [1, 2, 3]⟩ : Il), ⟨some ⟨u2.heap.size + 1, 0, none⟩, 1, 1, [4]⟩] from ⟨Reads.more i3 (by omega), fun l hl => by
      simp only [List.mem_cons, List.not_mem_nil, or_false] at hl
      rcases hl with rfl | rfl
      · exact ⟨j1, by show 3 ≤ 9223372036854775807; omega⟩
      · exact ⟨j2, by show 1 ≤ 9223372036854775807; omega⟩⟩)
    have bb := (b1.trans (b2.mono (by omega))).trans (b3.mono (by omega))
    have HLR3 := Lib.hid ((HLR.out.below bb).more bb.size)
    have TB3 := Lib.hid (TB.out.trans (bb.mono TB.out.size))
    clear b1 b2 b3 z1 z2 z3 i1 i2 i3 j1 j2 bb HLR TB
    go_wp2_with fail
    refine (lists_v A' (some ⟨u2.heap.size + 2, 0, none⟩) n' c' 2 2 (((u2.alloc (.cells #[.int .i64 1, .int .i64 2, .int .i64 3] 3)).alloc (.cells #[.int .i64 4] 3)).alloc (.cells #[.slice (some ⟨u2.heap.size, 0, none⟩) 3 3, .slice (some ⟨u2.heap.size + 1, 0, none⟩) 1 1] 35)).heap.size ls [(⟨some ⟨u2.heap.size, 0, none⟩, 3, 3, [1, 2, 3]⟩ : Il), ⟨some ⟨u2.heap.size + 1, 0, none⟩, 1, 1, [4]⟩] (((u2.alloc (.cells #[.int .i64 1, .int .i64 2, .int .i64 3] 3)).alloc (.cells #[.int .i64 4] 3)).alloc (.cells #[.slice (some ⟨u2.heap.size, 0, none⟩) 3 3, .slice (some ⟨u2.heap.size + 1, 0, none⟩) 1 1] 35)) HLR3.out HLL.out (Nat.le_refl _) (by omega) (by omega)).mono ?_
    rintro e u3 ⟨rfl, b⟩
    have HDE := Lib.hid (show decide (ls.map Il.ds = ([(⟨some ⟨u2.heap.size, 0, none⟩, 3, 3, [1, 2, 3]⟩ : Il), ⟨some ⟨u2.heap.size + 1, 0, none⟩, 1, 1, [4]⟩]).map Il.ds) = true from decide_eq_true (by rw [HDS.out]; rfl))
    have TB4 := Lib.hid (TB3.out.trans (b.mono TB3.out.size))
    clear b
    rw [HDE.out]
    go_wp2_with fail
    go_ret
    exact ⟨by trivial, TB4.out⟩
end Go.Proofs.Ytikegnnlmfidfaa
